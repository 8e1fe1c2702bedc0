/-
  Texts of the logic and of the layer,in one module (part 8).
-/
import Derived.Test.YtmmkhmilpeodnaaGreatK7
set_option linter.unusedVariables false
set_option linter.unusedSimpArgs false
set_option linter.unnecessarySimpa false
namespace Go.Ld
open Go.Ab Go.Proofs.YtmmkhmilpeodnaaGreat
theorem LF {n : Nat} {g : G} {w : W} {f : As} (ok : vR n g) (ow : V3 n g.1.length w) : nJ g.1 w f ↔ ∀ b,b ∈ g.1 → AJ g w b = f b := by
  have h := E4 ok ow;constructor
  · intro hf b hb;have e1 := h.1.symm.trans hf.1;have e2 := h.2.symm.trans hf.2;exact Prod.ext (K8.1 e1 b hb) (K8.1 e2 b hb)
  · intro hp;exact ⟨h.1.trans (jW fun b hb => by rw [hp b hb]),h.2.trans (jW fun b hb => by rw [hp b hb])⟩
theorem Y0 {n : Nat} {x y : G} (jo : sY n x y) {u v : W} (hu : u ∈ x.2) (hv : v ∈ y.2) {f : As} : nJ (mB x y).1 (yU x y u v (mB x y).1) f ↔ nJ x.1 u f ∧ nJ y.1 v f := by
  rw [LF jo.gx (jo.gx.ws u hu),LF jo.gy (jo.gy.ws v hv)];have hm : ∀ b,b ∈ (mB x y).1 ↔ b ∈ x.1 ∨ b ∈ y.1 := fun b => (lL x y).mem_iff.trans bF;generalize (mB x y).1 = l at *;have e1 : ∀ b,(if b ∈ x.1 then gP u (x.1.idxOf b) else gP v (y.1.idxOf b)) = (if b ∈ x.1 then AJ x u b else AJ y v b).1 := fun b => by split <;> rfl
  have e2 : ∀ b,(if b ∈ x.1 then gC u (x.1.idxOf b) else gC v (y.1.idxOf b)) = (if b ∈ x.1 then AJ x u b else AJ y v b).2 := fun b => by split <;> rfl
  unfold nJ yU;simp only [e1,e2];rw [K8,K8];constructor
  · rintro ⟨h1,h2⟩;have h : ∀ b,b ∈ l → (if b ∈ x.1 then AJ x u b else AJ y v b) = f b := fun b hb => Prod.ext (h1 b hb) (h2 b hb)
    refine ⟨fun b hb => ?_,fun b hb => ?_⟩
    · have := h b ((hm b).2 (.inl hb));rwa [if_pos hb] at this
    · have := h b ((hm b).2 (.inr hb));rwa [if_neg (fun q => jo.dj b q hb)] at this
  · rintro ⟨h1,h2⟩;have h : ∀ b,b ∈ l → (if b ∈ x.1 then AJ x u b else AJ y v b) = f b := fun b hb => by
      by_cases hx : b ∈ x.1
      · rw [if_pos hx];exact h1 b hx
      · rw [if_neg hx];exact h2 b (((hm b).1 hb).resolve_left hx)
    exact ⟨fun b hb => by rw [h b hb],fun b hb => by rw [h b hb]⟩
theorem RK {n : Nat} {x y : G} (jo : sY n x y) {f : As} {M : Int} : zZ (mB x y) f M ↔ ∃ m,zZ x f m ∧ zZ y f (M - m) := by
  constructor
  · rintro ⟨w,hw,hf,hm⟩;obtain ⟨u,v,hu,hv,rfl⟩ := xQ hw;obtain ⟨h1,h2⟩ := (Y0 jo hu hv).1 hf;change u.2.1 + v.2.1 ≤ M at hm;exact ⟨u.2.1,⟨u,hu,h1,fG _⟩,v,hv,h2,by omega⟩
  · rintro ⟨m,⟨u,hu,h1,h3⟩,v,hv,h2,h4⟩;refine ⟨yU x y u v (mB x y).1,gM.2 ⟨u,hu,bI.2 ⟨v,hv,rfl⟩⟩,(Y0 jo hu hv).2 ⟨h1,h2⟩,?_⟩;show u.2.1 + v.2.1 ≤ M;omega
theorem JY {u v J : G} {L : List G} {f : As} (h : ∀ M,zZ J f M ↔ ∃ m,zZ u f m ∧ zZ v f (M - m)) {M : Int} : Sem (J :: L) f M ↔ Sem (u :: v :: L) f M := by
  simp only [Sem,h];constructor
  · rintro ⟨m,⟨m',h1,h2⟩,h3⟩;exact ⟨m',h1,m - m',h2,h3.mono (by omega)⟩
  · rintro ⟨m,h1,m',h2,h3⟩;exact ⟨m + m',⟨m,h1,by rw [show m + m' - m = m' by omega];exact h2⟩,h3.mono (by omega)⟩
theorem EO {P Q R : List G} {u v : G} : (P ++ u :: (Q ++ v :: R)).Perm (u :: v :: (P ++ (Q ++ R))) := by
  refine List.perm_middle.trans (List.Perm.cons _ ?_);rw [← bK,← bK];exact lQ
theorem RX {c : Cx} {gs all : List G} {a b : Int} (h : nI c c.m gs) (ha : 0 ≤ a ∧ a < c.bs.length) (hb : 0 ≤ b ∧ b < c.bs.length) (e : join gs a b = some all) {f : As} {M : Int} : Sem all f M ↔ Sem gs f M := by
  obtain ⟨i,x,hi,hix,hax⟩ := kA (h.find ha);obtain ⟨k,y,hk,hky,hby⟩ := kA (h.find hb);have hx := aM hix;have hy := aM hky;unfold join at e;dsimp only at e;rw [hi,hk] at e;split at e
  · cases e;exact Iff.rfl
  · rename_i hik;have gi : mO gs ((i : Int)).toNat = x := by unfold mO;rw [aC];show (gs[i]?).getD _ = x;rw [hix];rfl
    have gk : mO gs ((k : Int)).toNat = y := by unfold mO;rw [aC];show (gs[k]?).getD _ = y;rw [hky];rfl
    rw [gi,gk] at e;split at e
    · cases e
    · rename_i hsz;cases e;have nd := h.out.nd;have ndi : (gs.flatMap fun g => (gY g).1).Nodup := h.idn.nodup_iff.2 (xO _)
      have jo : sY c.bs.length x y := by
        rcases kE (show i ≠ k by omega) with hlt | hlt
        · obtain ⟨P,Q,R,e1,-⟩ := oK x hlt hix hky;rw [e1] at ndi nd;simp only [fO,bE] at ndi nd;exact ⟨h.out.ok x hx,h.out.ok y hy,h.ne x hx,h.ne y hy,fun b h1 h2 => (cK.1 (cK.1 nd).2.1).2.2 b h1 b (by simp [h2]) rfl,fun b h1 h2 => (cK.1 (cK.1 ndi).2.1).2.2 b h1 b (by simp [h2]) rfl,by omega⟩
        · obtain ⟨P,Q,R,e1,-⟩ := oK y hlt hky hix;rw [e1] at ndi nd;simp only [fO,bE] at ndi nd;exact ⟨h.out.ok x hx,h.out.ok y hy,h.ne x hx,h.ne y hy,fun b h1 h2 => (cK.1 (cK.1 nd).2.1).2.2 b h2 b (by simp [h1]) rfl,fun b h1 h2 => (cK.1 (cK.1 ndi).2.1).2.2 b h2 b (by simp [h1]) rfl,by omega⟩
      have h1 := fun M => RK jo (f := f) (M := M);have h2 : ∀ M,zZ (mB x y) f M ↔ ∃ m,zZ y f m ∧ zZ x f (M - m) := fun M => by
        rw [h1];constructor
        · rintro ⟨m,a,b⟩;exact ⟨M - m,b,by rw [show M - (M - m) = m by omega];exact a⟩
        · rintro ⟨m,a,b⟩;exact ⟨M - m,b,by rw [show M - (M - m) = m by omega];exact a⟩
      generalize mB x y = J at *;rcases kE (show i ≠ k by omega) with hlt | hlt
      · obtain ⟨P,Q,R,e1,e2⟩ := oK J hlt hix hky;rw [show (min (i : Int) (k : Int)).toNat = i by omega,show (max (i : Int) (k : Int)).toNat = k by omega,e2,e1,nQ EO,nQ lQ]
        exact JY h1
      · obtain ⟨P,Q,R,e1,e2⟩ := oK J hlt hky hix;rw [show (min (i : Int) (k : Int)).toNat = k by omega,show (max (i : Int) (k : Int)).toNat = i by omega,e2,e1,nQ EO,nQ lQ]
        exact JY h2
theorem WO {c : Cx} {M0 : Int} {all : List G} {s : Ev} (h : zA c M0 all s) {i : Nat} {g : G} (hi : all[i]? = some g) (ha : s.a ∈ g.1) (hb : s.k = 4 → s.b ∈ g.1 ∧ s.a ≠ s.b) {f' : As} {M : Int} :
    Sem (all.set i (g.1,gD (lZ c s g))) f' M ↔ ∃ f d,V4 c s f f' d ∧ Sem all f (M - d) := by
  have hg := aM hi;have og := h.mid.out.ok g hg;have nd := h.mid.out.nd;obtain ⟨A,B,e1,e2⟩ := pK (y := (g.1,gD (lZ c s g))) hi;have hon := fun M => RJ (c := c) og ha hb (f' := f') (M := M);have hoff : ∀ f d,V4 c s f f' d → ∀ x,x ∈ A ++ B → ∀ b,b ∈ x.1 → f' b = f b := fun f d st x hx b hbx => by
    have hbg : b ∉ g.1 := fun q => by
      rw [e1] at nd;simp only [fO,bE] at nd;obtain ⟨_,n1,n2⟩ := cK.1 nd;obtain ⟨_,_,n3⟩ := cK.1 n1;rcases bF.1 hx with hx | hx
      · exact n2 b (nW hx hbx) b (bF.2 (.inl q)) rfl
      · exact n3 b q b (nW hx hbx) rfl
    rcases st with ⟨_,rfl,_⟩ | ⟨hk,rfl,_⟩
    · unfold upd;rw [if_neg (fun q : b = s.a => hbg (q ▸ ha))]
    · unfold MG;rw [if_neg (fun q : b = s.a => hbg (q ▸ ha)),if_neg (fun q : b = s.b => hbg (q ▸ (hb hk).1))]
  rw [e2,nQ lQ];have e1' : ∀ f M,Sem all f M ↔ Sem (g :: (A ++ B)) f M := fun f M => by rw [e1];exact nQ lQ
  simp only [e1',Sem,hon];constructor
  · rintro ⟨m,⟨f,d,st,h1⟩,h2⟩;exact ⟨f,d,st,m - d,h1,((qQ (hoff f d st)).1 h2).mono (by omega)⟩
  · rintro ⟨f,d,st,m,h1,h2⟩;exact ⟨m + d,⟨f,d,st,h1.mono (by omega)⟩,((qQ (hoff f d st)).2 h2).mono (by omega)⟩
theorem EF {c : Cx} {M0 : Int} {l all : List G} {s : Ev} (h : zA c M0 all s) (hM : M0 ≤ 2200000) (hab : s.k = 4 → s.a ≠ s.b) {f' : As} {M : Int} (hm : M ≤ c.m) :
    ((vT c l all s).1 = 0 → (Sem (vT c l all s).2 f' M ↔ ∃ f d,V4 c s f f' d ∧ Sem all f (M - d))) ∧ ((vT c l all s).1 = 26 → ¬ ∃ f d,V4 c s f f' d ∧ Sem all f (M - d)) := by
  obtain ⟨i,g,hi,hg,hgm,hat,ha,hb⟩ := h.at;have hp := WO (c := c) h hg ha (fun hk => ⟨hb hk,hab hk⟩) (f' := f') (M := M);have hnx := h.next hM hg ha hb
  unfold vT;dsimp only;rw [hat,hi,bV];by_cases h0 : gD (lZ c s g) = []
  · rw [if_pos h0];refine ⟨fun q => (by cases q),fun _ q => ?_⟩
    have hs := hp.2 q;obtain ⟨A,B,e1,e2⟩ := pK (y := (g.1,gD (lZ c s g))) hg;rw [e2,nQ lQ] at hs;obtain ⟨m,⟨w,hw,_⟩,_⟩ := hs;rw [h0] at hw;cases hw
  · rw [if_neg h0];by_cases h1 : 1000 < (gD (lZ c s g)).length
    · rw [if_pos h1];exact ⟨fun q => (by cases q),fun q => (by cases q)⟩
    · rw [if_neg h1];obtain ⟨hm1,hasc⟩ := hnx h0 (by omega)
      generalize all.set i (g.1,gD (lZ c s g)) = N at *;have ht : Sem (B3 c N) f' M ↔ Sem N f' M := by
        unfold B3;rw [MN (hm1.out.paid c).ok,PX hm]
      by_cases hany : (B3 c N).any (fun g => g.2.isEmpty) = true
      · rw [if_pos hany];refine ⟨fun q => (by cases q),fun _ q => ?_⟩
        have hs := ht.2 (hp.2 q);obtain ⟨x,hx,hxe⟩ := kH.1 hany;obtain ⟨A,B,e⟩ := List.append_of_mem hx;rw [e,nQ lQ] at hs;obtain ⟨m,⟨w,hw,_⟩,_⟩ := hs;rw [List.isEmpty_iff.1 hxe] at hw;cases hw
      · rw [if_neg hany];exact ⟨fun _ => ht.trans hp,fun q => (by cases q)⟩
theorem KA {c : Cx} {gs : List G} {s : Ev} (h : oA c gs) (hm0 : 0 ≤ c.m) (hm1 : c.m ≤ 1048576) (hr : jE c.bs.length s = true) {f' : As} {M : Int} (hm : M ≤ c.m) :
    ((nL c gs s).1 = 0 → (Sem (nL c gs s).2 f' M ↔ ∃ f d,V4 c s f f' d ∧ Sem gs f (M - d))) ∧ ((nL c gs s).1 = 26 → ¬ ∃ f d,V4 c s f f' d ∧ Sem gs f (M - d)) := by
  have hn := h.mid.n12;obtain ⟨r1,r2,_⟩ := oL hr (by omega)
  have hab : s.k = 4 → s.a ≠ s.b := fun hk => by have := r2 hk;omega
  unfold nL;rw [if_pos hr];by_cases hk : s.k = 4
  · rw [if_pos hk];cases hj : join gs s.a s.b with
    | none => exact ⟨fun q => (by cases q),fun q => (by cases q)⟩
    | some all =>
      dsimp only;have := EF (l := gs) (zK h (by omega) hm0 hm1 hr hk hj) (by omega) hab (f' := f') hm
      have hb := r2 hk;have js : ∀ f M,Sem all f M ↔ Sem gs f M := fun f M => RX h.mid r1 ⟨by omega,by omega⟩ hj
      simp only [js] at this;exact this
  · rw [if_neg hk];exact EF (l := gs) (G4 h (by omega) hm0 hr hk) (by omega) hab hm
def c0 : Cx := ⟨1,1,0,0,[(⟨#[110,117,116]⟩,10)],[(0,0,false),(0,0,false),(0,0,false)],[(0,5,0),(1,3,0),(2,2,0)]⟩
theorem GB : qO c0 := ⟨⟨by decide,by decide,by decide,by decide,by decide,by decide,by decide,by decide,by decide⟩,by unfold kR c0;decide⟩
theorem DQ {c : Cx} (hc : qO c) : sH c.ks c.ls (nats (List.range c.bs.length)) c.bs :=
  ⟨hc.f.len,fun i hi => rC.2 ⟨by omega,by simp at hi;omega⟩,hc.f.k,hc.f.l,hc.f.b⟩
end Go.Ld
namespace Go.Proofs.YtmmkhmilpeodnaaGreat
open Go Go.Ab Go.Ld
attribute [local irreducible] VC AW cF aR kZ
set_option maxHeartbeats 4000000
theorem BO (n : Nat) (h : n ≤ 17592186043904) : aR Tryz.prog 24 [.i (n : Int)] [] (.rowE (ints (nats (List.range n))) 1) [] := by
  have h1 := XN (n : Int) (by omega)
  rw [bV] at h1;exact oR (by simp) (hC (bJ _)) h1
theorem RS (c : Cx) (hc : qO c) : aR Tryz.prog 9 [.agg [.i c.m,.i c.st,.i c.er,.i c.sl],.rowE (gJ c.ks) 2,.rowE (jX c.ls) 3,.rowE (eB c.bs) 3] [] (.tup [.ptr 0 0,.i 0]) [.cells (gS c (rB c))] := by
  have hbl : (eB c.bs).length = c.bs.length := bC _;have h8 := hc.f.n8;have h9 := hc.f.k10;have h10 := hc.f.l10;have hnl : (nats (List.range c.bs.length)).length = c.bs.length := by simp
  refine zH8 c hc ?_ (AT (DQ hc) (by omega) (by omega) (by omega))
  rw [hbl];exact BO _ (by omega)
theorem XO : aR Tryz.prog 34 [] [] (.ptr 0 0) [.cells (gS c0 (rB c0))] := by
  have hn := RS c0 GB;change aR _ _ [.agg [.i 1,.i 1,.i 0,.i 0],.rowE [[.v (.string ⟨#[110,117,116]⟩),.i 10]] 2,.rowE [[.i 0,.i 0,.b false],[.i 0,.i 0,.b false],[.i 0,.i 0,.b false]] 3,.rowE [[.i 0,.i 5,.i 0],[.i 1,.i 3,.i 0],[.i 2,.i 2,.i 0]] 3] _ _ _ at hn;generalize hL : gS c0 (rB c0) = L at *;have hLi : AV.idfL L = true := by rw [← hL];rfl
  refine bQ T Tryz.func34 rfl rfl rfl rfl ?_
  (repeat' (first|refine wS ?_|(refine rg 0 (aV ?_))|(refine rg 1 (vV (by exact eQ T rfl rfl rfl rfl) ?_);refine bS (by exact bB T rfl rfl (by decide) (by decide) rfl rfl rfl) rfl ?_;refine mE 7 rfl rfl rfl rfl ?_;refine aV ?_)|(refine rg 2 (vV (by exact eQ T rfl rfl rfl rfl) ?_);refine vV (by exact eQ T rfl rfl rfl rfl) ?_;refine vV (by exact eQ T rfl rfl rfl rfl) ?_;refine bS (by exact bB T rfl rfl (by decide) (by decide) rfl rfl rfl) rfl ?_;refine mE 11 rfl rfl rfl rfl ?_;refine aV ?_)|(refine rg 3 (vV (by exact eQ T rfl rfl rfl rfl) ?_);refine vV (by exact eQ T rfl rfl rfl rfl) ?_;refine vV (by exact eQ T rfl rfl rfl rfl) ?_;refine bS (by exact bB T rfl rfl (by decide) (by decide) rfl rfl rfl) rfl ?_;refine mE 15 rfl rfl rfl rfl ?_;refine aV ?_)|refine nZ ?_));all_goals try (exfalso;omega)
  (repeat' (first|refine wS ?_|refine wK ?_|refine wR ?_|refine wU ?_|(refine rg 4 (vV (by exact eQ T rfl rfl rfl rfl) ?_);refine dX rfl (mW rfl (bS (by exact fK rfl rfl hn (.inr ⟨rfl,rfl,by simp⟩)) rfl ?_));refine mW rfl (xW rfl (xW rfl (pT ?_))))|(refine rg 5 (mW rfl (vV (fI rfl rfl) ?_)))|(refine rg 7 (mW rfl (aV ?_)))|refine nZ ?_));all_goals try (exfalso;omega)
  exact ⟨.inl rfl,[3],_,rfl,rfl,rfl,⟨.inr (by show some (AB.cells (AV.mapL _ L)) = some (AB.cells (AV.mapL _ L));rw [nT _ L hLi,nT _ L hLi]),trivial⟩,by decide,lH _⟩
end Go.Proofs.YtmmkhmilpeodnaaGreat
namespace Go.Ld
open Go.Ab Go.Proofs.YtmmkhmilpeodnaaGreat
def e1 : Ev := ⟨4,0,1,0,[]⟩
def e2 : Ev := ⟨0,0,0,0,[1]⟩
def zC6 : List G := rB c0
def J9 : List G := (nL c0 zC6 e1).2
def OU : List G := (nL c0 J9 e2).2
def FJ : List G := (nL c0 OU e2).2
theorem zN8 : oA c0 zC6 := RP GB (by decide) (by decide)
theorem zB4 : oA c0 J9 := AZ zN8 (by decide) (by decide)
theorem zL6 : oA c0 OU := AZ zB4 (by decide) (by decide)
theorem zK1 : oA c0 FJ := AZ zL6 (by decide) (by decide)
theorem x0 : (nL c0 zC6 e1).1 = 0 := by decide +kernel
theorem x1 : (nL c0 J9 e2).1 = 0 := by decide +kernel
theorem x2 : (nL c0 OU e2).1 = 0 := by decide +kernel
theorem zK4 : L4 J9 0 = some (mO J9 0,0) := by kernel_rfl
theorem zO7 : L4 J9 2 = some (mO J9 1,0) := by kernel_rfl
theorem zO6 : L4 OU 0 = some (mO OU 0,0) := by kernel_rfl
theorem zM0 : L4 FJ 0 = some (mO FJ 0,0) := by kernel_rfl
theorem zP0 : (mO J9 0).1 = [0,1] := by decide +kernel
theorem zO9 : (mO FJ 0).1 = [0] := by decide +kernel
theorem zK0 : pE (mO J9 0) 0 = [0,1] := by unfold pE;rw [pJ];decide +kernel
theorem zL5 : pE (mO J9 1) 0 = [2] := by unfold pE;rw [pJ];decide +kernel
theorem zO5 : (zK3 (pE (mO OU 0) 0)).2 = false := by unfold pE;rw [pJ];decide +kernel
theorem zJ9 : pE (mO FJ 0) 0 = [1] := by unfold pE;rw [pJ];decide +kernel
theorem zN5 : EH (mO J9 0) 0 = (3,6) := by decide +kernel
theorem zO4 : EH (mO J9 1) 0 = (2,3) := by decide +kernel
theorem zO3 : EH (mO FJ 0) 0 = (3,4) := by decide +kernel
theorem a3 : ZS c0 FJ [1,0,2] [5,3,2] = true := by unfold ZS Go.Pm.permB;rw [pJ];decide +kernel
end Go.Ld
namespace Go.Proofs.YtmmkhmilpeodnaaGreat
open Go Go.Ab Go.Ld
attribute [local irreducible] VC AW cF aR kZ
set_option maxHeartbeats 4000000
theorem QA (a b : List Int) (ha : a.length ≤ 9223372036854775807) : aR Tryz.prog 15 [.rowE (ints a) 1,.rowE (ints b) 1] [] (.b (decide (a = b))) [] := by
  have hal : (ints a).length = a.length := by simp
  have hbl : (ints b).length = b.length := by simp
  by_cases hl : a.length = b.length
  · refine bQ T Tryz.func15 rfl rfl rfl rfl ?_
    (repeat' (first|refine wS ?_|refine wB ?_|refine wK ?_|(refine wC rfl ?_ ?_<;>(intro hb;(try simp only [nm] at hb);try (exfalso;omega)))|(refine rg 0 (aV ?_))|(refine rg 1 (mW rfl (qW T rfl (mW rfl (qW T rfl (vV (fI rfl rfl) ?_))))))|(refine rg 3 (aV ?_))|refine nZ ?_));all_goals try (exfalso;omega)
    refine dA (X := {i : Nat // i ≤ a.length ∧ a.take i = b.take i}) (fun i => [(0,.rowE (ints a) 1),(1,.rowE (ints b) 1),(5,.i i.1)]) (fun _ => []) (fun i => a.length - i.1) ⟨0,by omega,rfl⟩ (eW []) ?_
    rintro ⟨i,hi,hg⟩;dsimp only;by_cases hlt : i < a.length
    · have q1 := mC (l := a) (k := i) hlt;have q2 := mC (l := b) (k := i) (by omega)
      by_cases e : a[i] = b[i]
      · (repeat' (first|refine wS ?_|refine wB ?_|refine wK ?_|(refine wC rfl (fun hb => ?_) (fun hb => ?_) <;> (((try simp only [nm] at hb);try (exfalso;omega))))|(refine rg 4 (dX rfl (qW T rfl (vV (aO rfl rfl) ?_))))|(refine bL (id := 6) 26 zU0 (rM 17 9) zU1 cC rfl (by decide +kernel) (dN rfl (dN rfl (dV rfl (ix T rfl (by omega) (cH a) q1) (dO T rfl (dN rfl (dN rfl (dV rfl (ix T rfl (by omega) (cH b) q2) (dO T rfl (dV rfl (fI rfl rfl) ?_)))))))));refine dE ?_)|(refine iA 5 rfl rfl rfl (by omega) (by omega) ?_)|(refine nZ ?_)));all_goals try (exfalso;omega)
        refine ⟨⟨i + 1,hlt,?_⟩,by dsimp only;omega,eW []⟩
        rw [aX hlt,aX (by omega),hg,e]
      · rw [show decide (a = b) = false from decide_eq_false (fun h => e (by subst h;rfl))]
        (repeat' (first|refine wS ?_|refine wB ?_|refine wK ?_|refine wR ?_|(refine wC rfl ?_ ?_<;>(intro hb;(try simp only [nm] at hb);try (exfalso;omega)))|(refine rg 4 (dX rfl (qW T rfl (vV (aO rfl rfl) ?_))))|(refine bL (id := 6) 26 zU0 (rM 17 9) zU1 cC rfl (by decide +kernel) (dN rfl (dN rfl (dV rfl (ix T rfl (by omega) (cH a) q1) (dO T rfl (dN rfl (dN rfl (dV rfl (ix T rfl (by omega) (cH b) q2) (dO T rfl (dV rfl (fI rfl rfl) ?_)))))))));refine dE ?_)|(refine rg 7 (aV ?_))|refine nZ ?_));all_goals first | (exfalso;omega) | exact rQ
    · rw [cW (by omega),cW (by omega)] at hg
      rw [show decide (a = b) = true from decide_eq_true hg]
      (repeat' (first|refine wS ?_|refine wR ?_|refine wE ?_|(refine wC rfl ?_ ?_<;>(intro hb;(try simp only [nm] at hb);try (exfalso;omega)))|(refine rg 4 (dX rfl (qW T rfl (vV (aO rfl rfl) ?_))))|(refine rg 8 (aV ?_))|refine nZ ?_));all_goals first | (exfalso;omega) | exact rQ
  · rw [show decide (a = b) = false from decide_eq_false (fun h => hl (by rw [h]))]
    refine bQ T Tryz.func15 rfl rfl rfl rfl ?_
    (repeat' (first|refine wS ?_|refine wR ?_|(refine wC rfl ?_ ?_<;>(intro hb;(try simp only [nm] at hb);try (exfalso;omega)))|(refine rg 0 (aV ?_))|(refine rg 1 (mW rfl (qW T rfl (mW rfl (qW T rfl (vV (fI rfl rfl) ?_))))))|(refine rg 2 (aV ?_))|refine nZ ?_));all_goals first | (exfalso;omega) | exact rQ
theorem UP {S : Nat → Prop} {w : World} {ρ : Pl} {a b d e : AV} {y : Value} (h : R S w (.agg [a,b,d,e,.nils]) ρ y) : R S w (.agg [a,b,d,e,.rowE [] 1]) ρ y := by
  simp only [R] at h ⊢;obtain ⟨ys,e1,h1⟩ := h;exact ⟨ys,e1,lO (fun _ h => h) (fun _ => lO (fun _ h => h) fun _ => lO (fun _ h => h) fun _ => lO (fun _ h => h) fun _ => lO (fun _ h => JF h) fun _ h => h) h1⟩
theorem zA7 : aR Tryz.prog 11 [.ptr 0 0,.agg [.i 4,.i 0,.i 1,.i 0,.nils]] [.cells (gS c0 zC6)] (.i 0) [.cells (gS c0 J9)] := by
  have h := KB c0 zC6 e1 GB zN8 (by decide)
  rw [x0] at h;exact OO h fun S w ρ ys => lO (fun _ h => h) fun ys => lO (fun _ h => UP h) fun _ h => h
theorem zA6 : aR Tryz.prog 11 [.ptr 0 0,.agg [.i 0,.i 0,.i 0,.i 0,.rowE [[.i 1]] 1]] [.cells (gS c0 J9)] (.i 0) [.cells (gS c0 OU)] := by
  have h := KB c0 J9 e2 GB zB4 (by decide)
  rw [x1] at h;exact h
theorem zA5 : aR Tryz.prog 11 [.ptr 0 0,.agg [.i 0,.i 0,.i 0,.i 0,.rowE [[.i 1]] 1]] [.cells (gS c0 OU)] (.i 0) [.cells (gS c0 FJ)] := by
  have h := KB c0 OU e2 GB zL6 (by decide)
  rw [x2] at h;exact h
theorem QL : aR Tryz.prog 27 [.pr (gS c0 J9) 0,.i 0] [] (.sl 0 0 2 1) [.arr [[.i 0],[.i 1]] 1] := by
  have h := FK c0 J9 0 zB4 zK4;rw [zP0] at h;exact h
theorem QK : aR Tryz.prog 27 [.pr (gS c0 FJ) 0,.i 0] [] (.sl 0 0 1 1) [.arr [[.i 0]] 1] := by
  have h := FK c0 FJ 0 zK1 zM0;rw [zO9] at h;exact h
theorem WM : aR Tryz.prog 16 [.pr (gS c0 J9) 0,.i 0] [] (.sl 0 0 2 1) [.arr [[.i 0],[.i 1]] 1] := by
  have h := HT c0 J9 0 zB4 zK4;rw [zK0] at h;exact h
theorem QG : aR Tryz.prog 18 [.pr (gS c0 J9) 0,.i 0] [] (kI 3 6) [] := by
  have h := KG c0 J9 0 zB4 zK4;rw [zN5] at h;exact h
theorem QJ : aR Tryz.prog 20 [.pr (gS c0 J9) 0,.i 0,.i 0] [] (.i 0) [] := by
  have h := R2 c0 J9 0 0 zB4 zK4 (by rw [zK0];decide) (by rw [zK0];decide)
  rw [zK0,zN5] at h;exact h
theorem QI : aR Tryz.prog 20 [.pr (gS c0 J9) 0,.i 2,.i 2] [] (.i 2) [] := by
  have h := R2 c0 J9 2 2 zB4 zO7 (by rw [zL5];decide) (by rw [zL5];decide)
  rw [zL5,zO4] at h;exact h
theorem QH : aR Tryz.prog 20 [.pr (gS c0 FJ) 0,.i 0,.i 1] [] (.i 3) [] := by
  have h := R2 c0 FJ 0 1 zK1 zM0 (by rw [zJ9];decide) (by rw [zJ9];decide)
  rw [zJ9,zO3] at h;exact h
theorem zH0 : ∃ v : Int,aR Tryz.prog 13 [.pr (gS c0 OU) 0,.i 0] [] (.tup [.i v,.b false]) [] := by
  have h := R6 c0 OU 0 zL6 zO6;rw [zO5] at h;exact ⟨_,h⟩
theorem zG9 : aR Tryz.prog 13 [.pr (gS c0 FJ) 0,.i 0] [] (.tup [.i 1,.b true]) [] := by
  have h := R6 c0 FJ 0 zK1 zM0;rw [zJ9] at h;exact h
theorem QM : aR Tryz.prog 22 [.pr (gS c0 FJ) 0,.rowE [[.i 1],[.i 0],[.i 2]] 1,.rowE [[.i 5],[.i 3],[.i 2]] 1] [] (.b true) [] := by
  have h := AK c0 FJ [1,0,2] [5,3,2] zK1 (by decide) (by decide) (by decide)
  rw [a3] at h;exact h
theorem zH1 : Tryz.prog.underlying 33 = some (.pointer 81) := by kernel_rfl
theorem X0 : aR Tryz.prog 7 [] [] (.b true) [] := by
  have hgv := XO;change aR _ _ _ _ _ [.cells (gS c0 zC6)] at hgv;have s1 := zA7;have s2 := zA6;have s3 := zA5;have k1 := QL;have k2 := WM;have k3 := QG;have k4 := QJ;have k5 := QI;obtain ⟨v,k6⟩ := zH0;have k7 := zG9;have k8 := QH;have k9 := QK;have k10 := QM;generalize zC6 = G0 at *;generalize J9 = G1 at *;generalize OU = G2 at *;generalize FJ = G3 at *;have t1 := QA [0,1] [0,1] (by decide)
  rw [show decide (([0,1] : List Int) = [0,1]) = true from rfl] at t1
  have t2 := QA [0] [0] (by decide)
  rw [show decide (([0] : List Int) = [0]) = true from rfl] at t2
  refine bQ T Tryz.func7 rfl rfl rfl rfl ?_
  (repeat' (first|refine wS ?_|(refine rg 0 (aV ?_))|(refine rg 1 (bS (by exact fK rfl rfl hgv (.inr ⟨rfl,rfl,by simp⟩)) rfl ?_);refine aV ?_)|refine nZ ?_));refine fE [(1,.ptr 0 0)] [.cells (gS c0 G0)] ⟨[0],rfl,(by repeat first|exact trivial|refine ⟨rfl,?_⟩),⟨.inr rfl,trivial⟩,by decide,lH _⟩ ?_
  (repeat' (first|refine wS ?_|refine wK ?_|refine wU ?_|(refine rg 2 (mW rfl (vV (by exact R8 zH1 rfl rfl rfl) ?_)))|(refine rg 4 (mW rfl (vV (by exact eQ T rfl rfl rfl rfl) ?_));refine fQ [0] rfl rfl (s1) rfl rfl (by decide) ⟨.inr rfl,trivial⟩ (by simp) rfl ?_;refine aV ?_)|refine nZ ?_));all_goals try (exfalso;omega)
  refine fE [(1,.ptr 0 0),(2,.i 0)] [.cells (gS c0 G1)] ⟨[0],rfl,(by repeat first|exact trivial|refine ⟨rfl,?_⟩),⟨.inr rfl,trivial⟩,by decide,lH _⟩ ?_
  (repeat' (first|refine wS ?_|(refine rg 5 (mW rfl (bS (by exact fK rfl rfl k1 (.inl ⟨.cons (.ptr rfl (fZ _ rfl)) (.cons (.v _) .nil),rfl⟩)) rfl ?_));refine mE 17 rfl rfl rfl rfl ?_;refine bS (by exact bB T rfl rfl (by decide) (by decide) rfl rfl rfl) rfl ?_;refine mE 18 rfl rfl rfl rfl ?_;refine vV (kC (t1)) (mW rfl (yN rfl (gT (bS (by exact fK rfl rfl k2 (.inl ⟨.cons (.ptr rfl (fZ _ rfl)) (.cons (.v _) .nil),rfl⟩)) rfl ?_))));refine mE 22 rfl rfl rfl rfl ?_;refine gT (bS (by exact bB T rfl rfl (by decide) (by decide) rfl rfl rfl) rfl ?_);refine mE 23 rfl rfl rfl rfl ?_;refine yV (kC (t1)) (pW rfl (mW rfl (yN rfl (yV (by exact eT rfl rfl k3 (.cons (.ptr rfl (fZ _ rfl)) (.cons (.v _) .nil)) rfl rfl) ?_))));refine yV (by exact eQ T rfl rfl rfl rfl) ?_;refine yV (XT ZK rfl rfl) (pW rfl (mW rfl (yN rfl (yV (by exact eT rfl rfl k4 (.cons (.ptr rfl (fZ _ rfl)) (.cons (.v _) (.cons (.v _) .nil))) rfl rfl) ?_))));refine yV (dJ rfl rfl) (pW rfl (mW rfl (yN rfl (yV (by exact eT rfl rfl k5 (.cons (.ptr rfl (fZ _ rfl)) (.cons (.v _) (.cons (.v _) .nil))) rfl rfl) ?_))));refine yV (dJ rfl rfl) (pW rfl (aV ?_)))|refine nZ ?_));all_goals try (exfalso;omega)
  refine fE [(1,.ptr 0 0),(2,.i 0),(3,.b true)] [.cells (gS c0 G1)] ⟨[0],rfl,(by repeat first|exact trivial|refine ⟨rfl,?_⟩),⟨.inr rfl,trivial⟩,by decide,lH _⟩ ?_
  (repeat' (first|refine wS ?_|(refine rg 6 (mW rfl (bS (by exact bB T rfl rfl (by decide) (by decide) rfl rfl rfl) rfl ?_));refine mE 43 rfl rfl rfl rfl ?_;refine vV (by exact eQ T rfl rfl rfl rfl) ?_;refine fQ [0] rfl rfl (s2) rfl rfl (by decide) ⟨.inr rfl,trivial⟩ (by simp) rfl ?_;refine aV ?_)|refine nZ ?_));all_goals try (exfalso;omega)
  refine fE [(1,.ptr 0 0),(2,.i 0),(3,.b true),(4,.i 0)] [.cells (gS c0 G2)] ⟨[0],rfl,(by repeat first|exact trivial|refine ⟨rfl,?_⟩),⟨.inr rfl,trivial⟩,by decide,lH _⟩ ?_
  (repeat' (first|refine wS ?_|(refine rg 7 (mW rfl (vV (by exact eT rfl rfl k6 (.cons (.ptr rfl (fZ _ rfl)) (.cons (.v _) .nil)) rfl rfl) ?_));refine mW rfl (xW rfl (xW rfl (pT ?_))))|refine nZ ?_));all_goals try (exfalso;omega)
  refine fE [(1,.ptr 0 0),(2,.i 0),(3,.b true),(4,.i 0),(6,.b false)] [.cells (gS c0 G2)] ⟨[0],rfl,(by repeat first|exact trivial|refine ⟨rfl,?_⟩),⟨.inr rfl,trivial⟩,by decide,lH _⟩ ?_
  (repeat' (first|refine wS ?_|(refine rg 8 (mW rfl (bS (by exact bB T rfl rfl (by decide) (by decide) rfl rfl rfl) rfl ?_));refine mE 52 rfl rfl rfl rfl ?_;refine vV (by exact eQ T rfl rfl rfl rfl) ?_;refine fQ [0] rfl rfl (s3) rfl rfl (by decide) ⟨.inr rfl,trivial⟩ (by simp) rfl ?_;refine aV ?_)|refine nZ ?_));all_goals try (exfalso;omega)
  refine fE [(1,.ptr 0 0),(2,.i 0),(3,.b true),(4,.i 0),(6,.b false),(7,.i 0)] [.cells (gS c0 G3)] ⟨[0],rfl,(by repeat first|exact trivial|refine ⟨rfl,?_⟩),⟨.inr rfl,trivial⟩,by decide,lH _⟩ ?_
  (repeat' (first|refine wS ?_|(refine rg 9 (mW rfl (vV (by exact eT rfl rfl k7 (.cons (.ptr rfl (fZ _ rfl)) (.cons (.v _) .nil)) rfl rfl) ?_));refine mW rfl (xW rfl (xW rfl (pT ?_))))|refine nZ ?_));all_goals try (exfalso;omega)
  refine fE [(1,.ptr 0 0),(2,.i 0),(3,.b true),(4,.i 0),(6,.b false),(7,.i 0),(8,.i 1),(9,.b true)] [.cells (gS c0 G3)] ⟨[0],rfl,(by repeat first|exact trivial|refine ⟨rfl,?_⟩),⟨.inr rfl,trivial⟩,by decide,lH _⟩ ?_
  (repeat' (first|refine wR ?_|(refine rg 10 (mW rfl (vV (dJ rfl rfl) (mW rfl (yN rfl (pW rfl (mW rfl (yN rfl (yV (dJ rfl rfl) (pV ?_)))))))));refine mW rfl (yN rfl (yV (dH rfl) (pW rfl (mW rfl (yN rfl (yV (dJ rfl rfl) (pW rfl (mW rfl (yM ?_)))))))));refine pW rfl (mW rfl (yN rfl (yV (dJ rfl rfl) (pW rfl (mW rfl (yN rfl (yV (by exact eT rfl rfl k8 (.cons (.ptr rfl (fZ _ rfl)) (.cons (.v _) (.cons (.v _) .nil))) rfl rfl) ?_)))))));refine yV (dJ rfl rfl) (pW rfl (mW rfl (yN rfl (gT (bS (by exact fK rfl rfl k9 (.inl ⟨.cons (.ptr rfl (fZ _ rfl)) (.cons (.v _) .nil),rfl⟩)) rfl ?_)))));refine mE 91 rfl rfl rfl rfl ?_;refine gT (bS (by exact bB T rfl rfl (by decide) (by decide) rfl rfl rfl) rfl ?_);refine mE 92 rfl rfl rfl rfl ?_;refine yV (kC (t2)) (pW rfl (mW rfl (yN rfl (gT (bS (by exact bB T rfl rfl (by decide) (by decide) rfl rfl rfl) rfl ?_)))));refine mE 97 rfl rfl rfl rfl ?_;refine gT (bS (by exact bB T rfl rfl (by decide) (by decide) rfl rfl rfl) rfl ?_);refine mE 98 rfl rfl rfl rfl ?_;refine yV (by exact eT rfl rfl k10 (.cons (.ptr rfl (fZ _ rfl)) (.cons (.row _ _ _) (.cons (.row _ _ _) .nil))) rfl rfl) ?_;refine pW rfl (aV ?_))|refine nZ ?_));all_goals try (exfalso;omega)
  all_goals exact rQ
end Go.Proofs.YtmmkhmilpeodnaaGreat
namespace Go.Ld
open Go.Ab Go.Proofs.YtmmkhmilpeodnaaGreat Go.Pm
theorem F8 : ∀ {gs : List G} {f : As} {M : Int}, Sem gs f M → ∀ {g : G}, g ∈ gs → ∃ w, w ∈ g.2 ∧ nJ g.1 w f
  | [],_,_,_,_,hg => by cases hg
  | x :: gs,f,M,⟨m,⟨w,h1,h2,_⟩,h3⟩,g,hg => by
    rcases bN.1 hg with rfl | hg
    · exact ⟨w,h1,h2⟩
    · exact F8 h3 hg
end Go.Ld
namespace Go.Ld
open Go.Ab Go.Proofs.YtmmkhmilpeodnaaGreat
abbrev CD (l : List Ev) : List (List AV) := l.map yX
theorem jA (l : List Ev) : ∀ e,e ∈ CD l → e.length = 5 := by intro e he;obtain ⟨n,_,rfl⟩ := bI.1 he;rfl
theorem TA {l : List Ev} {k : Nat} (h : k < l.length) : (CD l)[(k : Int).toNat]? = some (yX l[k]) := by simp [h]
end Go.Ld
namespace Go.Proofs.YtmmkhmilpeodnaaGreat
open Go Go.Ab Go.Ld
attribute [local irreducible] VC AW cF aR kZ
set_option maxHeartbeats 4000000
end Go.Proofs.YtmmkhmilpeodnaaGreat
namespace Go.Proofs.YtmmkhmilpeodnaaGreat
open Go Go.Ab
attribute [local irreducible] VC AW cF aR
set_option maxHeartbeats 4000000
def VH (N : Nat) (ks : List KD) (ls : List LT) (ps : List Int) (bs : List BX) : Prop := 1 ≤ ps.length ∧ ps.length ≤ N ∧ bs.length ≤ N ∧ ks.length ≤ 10 ∧ ls.length ≤ 10
theorem SR (N : Nat) (hN : N ≤ 8) (ks : List KD) (ls : List LT) (ps : List Int) (bs : List BX) (m st er sl : Int) (h : ¬ VH N ks ls ps bs) :
    aR Tryz.prog 25 [uF ks ls ps bs,gW m st er sl,.i N] [] (.b false) [] := by
  unfold VH at h;have e1 : (gJ ks).length = ks.length := by simp
  have e2 : (jX ls).length = ls.length := by simp
  have e3 : (ints ps).length = ps.length := by simp
  have e4 : (eB bs).length = bs.length := by simp
  refine bQ T Tryz.func25 rfl rfl rfl rfl ?_
  (repeat' (first|refine wS ?_|refine wR ?_|(refine rg 0 (bS (cE rfl rfl) rfl (bS (cE rfl rfl) rfl (aV ?_))))|(refine rg 1 (iL T rfl (qW T rfl (vV (jP rfl rfl) (mV ?_))));refine cN rfl rfl ?_ ?_<;>(intro hb;rw [hb];(try simp only [nm] at hb);try (exfalso;omega));(all_goals first|(refine gT (fW T rfl (gT (lW T rfl (gT (qW T rfl (gT (mW rfl (gT (vV (kJ rfl rfl) ?_))))))))))|(iterate 5 refine gF ?_));(all_goals (refine pW rfl (mV ?_)));(all_goals first|(refine gK ?_)|(refine cN rfl rfl ?_ ?_<;>(intro hb;rw [hb];(try simp only [nm] at hb);try (exfalso;omega))));(all_goals first|(refine gT (fW T rfl (gT (lW T rfl (gT (qW T rfl (gT (mW rfl (gT (vV (kJ rfl rfl) ?_))))))))))|(iterate 5 refine gF ?_));(all_goals (refine pW rfl (mV ?_)));(all_goals first|(refine gK ?_)|(refine cN rfl rfl ?_ ?_<;>(intro hb;rw [hb];(try simp only [nm] at hb);try (exfalso;omega))));(all_goals first|(refine gT (fW T rfl (gT (lW T rfl (gT (qW T rfl (gT (vV (kJ rfl rfl) ?_))))))))|(iterate 4 refine gF ?_));(all_goals (refine pW rfl (mV ?_)));(all_goals first|(refine gK ?_)|(refine cN rfl rfl ?_ ?_<;>(intro hb;rw [hb];(try simp only [nm] at hb);try (exfalso;omega))));(all_goals first|(refine gT (fW T rfl (gT (lW T rfl (gT (qW T rfl (gT (vV (kJ rfl rfl) ?_))))))))|(iterate 4 refine gF ?_));(all_goals (refine pW rfl (mV ?_)));(all_goals first|(refine gK ?_)|(refine cN rfl rfl ?_ ?_<;>(intro hb;rw [hb];(try simp only [nm] at hb);try (exfalso;omega))));(all_goals ((iterate 2 refine gF ?_);refine pW rfl (mV ?_);(iterate 9 refine gF ?_);refine pW rfl (aV ?_))))|refine nZ ?_));all_goals first | exact rQ | (exfalso;omega) | (refine cY (.inl rfl) rfl (mI ?_);simp;omega)
theorem D4 (N : Nat) (hN : N ≤ 8) (ks : List KD) (ls : List LT) (ps : List Int) (bs : List BX) (m st er sl : Int) (h : VH N ks ls ps bs) {v w : Bool} (hs : xL m st er sl = v) (ht : qX ks ls ps bs = w) :
    aR Tryz.prog 25 [uF ks ls ps bs,gW m st er sl,.i N] [] (.b (v && w)) [] := by
  unfold VH at h;have e1 : (gJ ks).length = ks.length := by simp
  have e2 : (jX ls).length = ls.length := by simp
  have e3 : (ints ps).length = ps.length := by simp
  have e4 : (eB bs).length = bs.length := by simp
  have c1 := hs ▸ PW m st er sl;have c2 := ht ▸ VR ks ls ps bs (by omega) (by omega) (by omega) (by omega)
  cases v <;> cases w
  all_goals
    refine bQ T Tryz.func25 rfl rfl rfl rfl ?_
    repeat' (first|refine wS ?_|refine wR ?_|(refine rg 0 (bS (cE rfl rfl) rfl (bS (cE rfl rfl) rfl (aV ?_))))|(refine rg 1 (iL T rfl (qW T rfl (vV (jP rfl rfl) (mV ?_))));refine cN rfl rfl ?_ ?_<;>(intro hb;rw [hb];(try simp only [nm] at hb);try (exfalso;omega));(all_goals (refine yP T rfl (yO T rfl (gT (qW T rfl (yN rfl (yV (kJ rfl rfl) (pW rfl (mV ?_)))))));refine cN rfl rfl ?_ ?_<;>(intro hb;rw [hb];(try simp only [nm] at hb);try (exfalso;omega))));(all_goals (refine yP T rfl (yO T rfl (gT (qW T rfl (yN rfl (yV (kJ rfl rfl) (pW rfl (mV ?_)))))));refine cN rfl rfl ?_ ?_<;>(intro hb;rw [hb];(try simp only [nm] at hb);try (exfalso;omega))));(all_goals (refine yP T rfl (yO T rfl (gT (qW T rfl (yV (kJ rfl rfl) (pW rfl (mV ?_))))));refine cN rfl rfl ?_ ?_<;>(intro hb;rw [hb];(try simp only [nm] at hb);try (exfalso;omega))));(all_goals (refine yP T rfl (yO T rfl (gT (qW T rfl (yV (kJ rfl rfl) (pW rfl (mV ?_))))));refine cN rfl rfl ?_ ?_<;>(intro hb;rw [hb];(try simp only [nm] at hb);try (exfalso;omega))));(all_goals (refine yO T rfl (yV (kC (c1)) (pW rfl (mV ?_)))));(all_goals first|(refine gT (fW T rfl (gT (lW T rfl (gT (fW T rfl (gT (lW T rfl (gT (fV T ?_)))))))));refine gT (lW T rfl (gT (fW T rfl (gT (lW T rfl (gT (vV (kC (c2)) ?_))))))))|(iterate 9 refine gF ?_));(all_goals (refine pW rfl (aV ?_))))|refine nZ ?_)
  all_goals first | exact rQ | (exfalso;omega)
theorem YB (N : Nat) (hN : N ≤ 8) (ks : List KD) (ls : List LT) (ps : List Int) (bs : List BX) (m st er sl : Int) :
    aR Tryz.prog 25 [uF ks ls ps bs,gW m st er sl,.i N] [] (.b false) [] ∨
    (aR Tryz.prog 25 [uF ks ls ps bs,gW m st er sl,.i N] [] (.b true) [] ∧ VG ks ls ps bs ∧ kR m st er sl ∧ sH ks ls ps bs ∧ ps.length ≤ N) := by
  by_cases h : VH N ks ls ps bs
  · cases hs : xL m st er sl
    · cases ht : qX ks ls ps bs
      · exact .inl (D4 N hN ks ls ps bs m st er sl h hs ht)
      · exact .inl (D4 N hN ks ls ps bs m st er sl h hs ht)
    · cases ht : qX ks ls ps bs
      · exact .inl (D4 N hN ks ls ps bs m st er sl h hs ht)
      · exact .inr ⟨D4 N hN ks ls ps bs m st er sl h hs ht,zD1 ⟨h.1,by have := h.2.1;omega,by have := h.2.2.1;omega,h.2.2.2.1,h.2.2.2.2⟩ ht,ML hs,by unfold qX at ht;simpa using ht,h.2.1⟩
  · exact .inl (SR N hN ks ls ps bs m st er sl h)
end Go.Proofs.YtmmkhmilpeodnaaGreat
namespace Go.Ld
open Go.Ab Go.Proofs.YtmmkhmilpeodnaaGreat
theorem ZY {l u n : Int} (hu : 0 < u) : (l + u - 1) / u ≤ n ↔ l ≤ n * u := by
  have h : (l + u - 1) / u < n + 1 ↔ l + u - 1 < (n + 1) * u := Int.ediv_lt_iff_lt_mul hu;rw [Int.add_mul] at h;omega
theorem ZX {l u n : Int} (hu : 0 < u) : n < l / u + 1 ↔ n * u ≤ l := by
  have h : n ≤ l / u ↔ n * u ≤ l := Int.le_ediv_iff_mul_le hu;omega
theorem mT {f t n : Int} : sQ f t n = true ↔ f ≤ n ∧ n < t := by unfold sQ;simp
theorem T0 {f t v : Int} (h0 : 0 ≤ v) (h1 : v ≤ 20000) : ((D9 f t).2 = true ∧ sQ (D9 f t).1.1 (D9 f t).1.2 v = true) ↔ f ≤ v ∧ v < t := by
  unfold D9;dsimp only;rw [mT];rcases S9 f t with ⟨a,b,d,e⟩ | ⟨a,b,d,e⟩
  · rw [a,b,d];constructor
    · rintro ⟨_,_⟩;omega
    · intro _;exact ⟨rfl,by omega⟩
  · rw [a];constructor
    · rintro ⟨h,_⟩;cases h
    · intro _;omega
theorem VK {t u w e v : Int} (hf : 0 ≤ t ∧ t ≤ 1099511627776 ∧ 0 ≤ u ∧ u ≤ 1099511627776 ∧ 0 ≤ w ∧ w ≤ 1099511627776 ∧ 0 ≤ e ∧ e ≤ 1099511627776) (h0 : 0 ≤ v) (h1 : v ≤ 20000) :
    ((OY t u w e).2 = true ∧ sQ (OY t u w e).1.1 (OY t u w e).1.2 v = true) ↔ w - e ≤ t + v * u ∧ t + v * u ≤ w + e := by
  have b1 : 0 ≤ v * u := Int.mul_nonneg h0 hf.2.2.1;unfold OY;rw [if_pos (show Z9 t u w e = true by unfold Z9;rw [decide_eq_true_eq];exact hf)]
  by_cases c1 : w + e - t < 0 ∨ u = 0 ∧ 0 < w - e - t
  · rw [if_pos c1];constructor
    · rintro ⟨h,_⟩;cases h
    · rintro ⟨a,b⟩;rcases c1 with c1 | ⟨rfl,c1⟩ <;> omega
  · rw [if_neg c1];by_cases c2 : u = 0
    · rw [if_pos c2];dsimp only;rw [mT];subst c2;constructor
      · rintro ⟨_,_⟩;omega
      · rintro _;exact ⟨rfl,by omega⟩
    · rw [if_neg c2,T0 h0 h1];have hu : 0 < u := by omega
      have g1 : zG0 t u w e ≤ v ↔ max (w - e - t) 0 ≤ v * u := ZY hu;have g2 : v < zF9 t u w e ↔ v * u ≤ w + e - t := ZX hu;omega
theorem MB {t u w e v : Int} {r : SP} (hf : 0 ≤ t ∧ t ≤ 1099511627776 ∧ 0 ≤ u ∧ u ≤ 1099511627776 ∧ 0 ≤ w ∧ w ≤ 1099511627776 ∧ 0 ≤ e ∧ e ≤ 1099511627776) (h0 : 0 ≤ v) (h1 : v ≤ 20000) :
    ((sJ t u w e r).2 = true ∧ sQ (sJ t u w e r).1.1 (sJ t u w e r).1.2 v = true) ↔ sQ r.1 r.2 v = true ∧ w - e ≤ t + v * u ∧ t + v * u ≤ w + e := by
  have hw := VK hf h0 h1;unfold sJ;generalize OY t u w e = q at *;dsimp only;by_cases hq : q.2 = true
  · rw [if_pos hq,T0 h0 h1,← hw,mT,mT];constructor
    · intro h;exact ⟨by omega,hq,by omega⟩
    · rintro ⟨a,_,b⟩;omega
  · rw [if_neg hq,← hw];constructor
    · rintro ⟨a,_⟩;exact absurd a hq
    · rintro ⟨_,a,_⟩;exact absurd a hq
theorem LM {c : Cx} {s : Ev} {x : Int × SP} {v : Int} (hb : 0 ≤ (c.bs.getD x.1.toNat (0, 0, 0)).2.2 ∧ (c.bs.getD x.1.toNat (0, 0, 0)).2.2 ≤ 1073741824)
    (hu : 0 ≤ mQ c.ks c.ls (c.bs.getD x.1.toNat (0,0,0)).1 ∧ mQ c.ks c.ls (c.bs.getD x.1.toNat (0,0,0)).1 ≤ 1048576) (hs : kR c.m c.st c.er c.sl) (hn : s.k = 1 → 0 ≤ s.n ∧ s.n ≤ 1099511627776) (h0 : 0 ≤ v) (h1 : v ≤ 20000) (h2 : s.k ≠ 2) :
    ((E2 c s x).2.2 = true ∧ sQ (E2 c s x).1.2.1 (E2 c s x).1.2.2 v = true) ↔ sQ x.2.1 x.2.2 v = true ∧ CW c.st c.er c.sl x.1 v ((c.bs.getD x.1.toNat (0,0,0)).2.2 + v * mQ c.ks c.ls (c.bs.getD x.1.toNat (0,0,0)).1) s.k s.n s.ids = true := by
  unfold kR at hs;unfold E2 CW;by_cases k0 : s.k = 0
  · rw [if_pos k0,if_pos k0];by_cases hm : x.1 ∈ s.ids
    · rw [if_pos hm,if_pos hm];dsimp only;exact And.comm
    · rw [if_neg hm,if_neg hm];dsimp only;rw [Int.sub_zero];exact And.comm
  rw [if_neg k0,if_neg k0];by_cases k1 : s.k = 1
  · rw [if_pos k1,if_pos k1];dsimp only;have hn := hn k1;rw [MB (by omega) h0 h1]
    unfold iI;simp
  rw [if_neg k1,if_neg k1,if_neg h2,if_neg h2];by_cases k3 : s.k = 3
  · rw [if_pos k3,if_pos k3];dsimp only;rw [mT,mT,mT,decide_eq_true_eq];omega
  rw [if_neg k3,if_neg k3];by_cases k5 : s.k = 5
  · rw [if_pos k5,if_pos k5];dsimp only;rw [decide_eq_true_eq,decide_eq_true_eq];constructor
    · rintro ⟨a,b⟩;exact ⟨b,a.symm⟩
    · rintro ⟨a,b⟩;exact ⟨b.symm,a⟩
  · rw [if_neg k5,if_neg k5];exact And.comm
theorem GD {c : Cx} {s : Ev} {x : Int × SP} {v : Int} (hx : 0 ≤ x.2.1 ∧ x.2.1 < x.2.2 ∧ x.2.2 ≤ 20001) (hs : kR c.m c.st c.er c.sl) (hn : 0 ≤ s.n ∧ s.n ≤ 1099511627776) (h0 : 0 ≤ v) (h1 : v ≤ 20000) (h2 : s.k = 2) :
    ((E2 c s x).2.2 = true ∧ sQ (E2 c s x).1.2.1 (E2 c s x).1.2.2 v = true) ↔ ∃ u d : Int,sQ x.2.1 x.2.2 u = true ∧ s.n - c.sl ≤ u ∧ 0 ≤ d ∧ d ≤ u ∧ s.n - c.sl ≤ d ∧ d ≤ s.n + c.sl ∧ v = u - d := by
  unfold kR at hs;unfold E2;rw [if_neg (by omega),if_neg (by omega),if_pos h2]
  dsimp only;unfold wG;rw [if_pos (by omega),T0 h0 h1]
  simp only [mT];constructor
  · intro h;by_cases hc : v + max (s.n - c.sl) 0 ≤ x.2.1
    · exact ⟨x.2.1,x.2.1 - v,by omega,by omega,by omega,by omega,by omega,by omega,by omega⟩
    · exact ⟨v + max (s.n - c.sl) 0,max (s.n - c.sl) 0,by omega,by omega,by omega,by omega,by omega,by omega,by omega⟩
  · rintro ⟨u,d,a1,a2,a3,a4,a5,a6,rfl⟩;omega
theorem GF {c : Cx} {s : Ev} {x : Int × SP} (h : (E2 c s x).2.2 = true) : (E2 c s x).2.1 = VI c.st x.1 s.k s.ids := by
  unfold E2 VI at *;by_cases k0 : s.k = 0
  · rw [if_pos k0] at h ⊢;rw [if_pos k0];by_cases hm : x.1 ∈ s.ids
    · rw [if_pos hm] at h ⊢;simp only [if_pos hm];simp only [decide_eq_true_eq] at h;rw [if_neg (by omega)]
    · rw [if_neg hm] at h ⊢;simp only [if_neg hm];simp only [decide_eq_true_eq] at h;rw [if_neg (by omega)]
  · rw [if_neg k0,if_neg k0]
    repeat' split
    all_goals rfl
def pO (p : List Int) (s : Ev) (done : Int) : List Int := if s.k = 4 ∧ done = 1 then (p.set s.a.toNat (p.getD s.b.toNat 0)).set s.b.toNat (p.getD s.a.toNat 0) else p
def rS (p q : List Int) (s : Ev) (done : Int) : List Int := if s.k = 2 then q.set (p.getD s.a.toNat 0).toNat (q.getD (p.getD s.a.toNat 0).toNat 0 - done) else q
def GN (c : Cx) (p q : List Int) (s : Ev) : Bool :=
  CW c.st c.er c.sl (p.getD s.a.toNat 0) (q.getD (p.getD s.a.toNat 0).toNat 0) ((c.bs.getD (p.getD s.a.toNat 0).toNat (0,0,0)).2.2 + q.getD (p.getD s.a.toNat 0).toNat 0 * mQ c.ks c.ls (c.bs.getD (p.getD s.a.toNat 0).toNat (0,0,0)).1) s.k s.n s.ids
def rR (c : Cx) (p q : List Int) (s : Ev) (done : Int) : Bool := CM c.sl (q.getD (p.getD s.a.toNat 0).toNat 0) s.k s.n done
def rD (c : Cx) (p : List Int) (s : Ev) : Int := VI c.st (p.getD s.a.toNat 0) s.k s.ids
def vJ (c : Cx) (p q : List Int) (f : As) : Prop := ∀ b : Int,0 ≤ b → b < c.bs.length → LY p q (f b) b
structure PQ (c : Cx) (p q : List Int) : Prop where
  pl : p.length = c.bs.length
  ql : q.length = c.bs.length
  pp : p.Perm (nats (List.range c.bs.length))
  q0 : ∀ x,x ∈ q → 0 ≤ x ∧ x ≤ 20000
theorem EQ {p : List Int} {n : Nat} (hl : p.length = n) : Go.Pm.permB p = true ↔ p.Perm (nats (List.range n)) := by
  unfold Go.Pm.permB;rw [decide_eq_true_eq,hl];constructor
  · intro h;rw [← h];exact (Go.Pm.sorted_perm p).symm
  · intro h;refine List.Perm.eq_of_pairwise (le := fun a b => a ≤ b) (fun a b _ _ h1 h2 => Int.le_antisymm h1 h2) ?_ ?_ ((Go.Pm.sorted_perm p).trans h)
    · have := List.pairwise_mergeSort (le := fun x y : Int => decide (x ≤ y)) (fun a b d h1 h2 => decide_eq_true (A0 (of_decide_eq_true h1) (of_decide_eq_true h2))) (fun a b => by rw [yQ,decide_eq_true_eq,decide_eq_true_eq];omega) p
      exact this.imp (fun h => of_decide_eq_true h)
    · exact (V6 (n := n)).imp (fun h => h) |>.map _ (fun a b h => by omega)
theorem PQ.at {c : Cx} {p q : List Int} (h : PQ c p q) {b : Int} (h0 : 0 ≤ b) (h1 : b < c.bs.length) : 0 ≤ p.getD b.toNat 0 ∧ p.getD b.toNat 0 < c.bs.length := by
  have hl := h.pl;have hm : p.getD b.toNat 0 ∈ p := by rw [aC,aA (by omega)];exact aI _
  exact rC.1 (h.pp.mem_iff.1 hm)
theorem PQ.inj {c : Cx} {p q : List Int} (h : PQ c p q) {a b : Int} (h0 : 0 ≤ a) (h1 : a < c.bs.length) (h2 : 0 ≤ b) (h3 : b < c.bs.length) (e : p.getD a.toNat 0 = p.getD b.toNat 0) : a = b := by
  have hl := h.pl;have nd : p.Nodup := h.pp.nodup_iff.2 (xO _);rw [aC,aA (by omega),aC,aA (by omega)] at e
  have := (ZE nd).1 e;omega
theorem PQ.ct {c : Cx} {p q : List Int} (h : PQ c p q) {x : Int} (h0 : 0 ≤ x) (h1 : x < c.bs.length) : 0 ≤ q.getD x.toNat 0 ∧ q.getD x.toNat 0 ≤ 20000 := by
  have hl := h.ql;refine h.q0 _ ?_;rw [aC,aA (by omega)];exact aI _
theorem tV {c : Cx} {p q : List Int} {s : Ev} {done : Int} (hk : s.k = 2) (h : rR c p q s done = true) : 0 ≤ done ∧ done ≤ q.getD (p.getD s.a.toNat 0).toNat 0 ∧ s.n - c.sl ≤ done ∧ done ≤ s.n + c.sl := by
  unfold rR CM iI at h;rw [if_pos hk] at h;simp only [aL,decide_eq_true_eq] at h;omega
theorem xE {p : List Int} {s : Ev} {done : Int} : (pO p s done).length = p.length := by unfold pO;split <;> simp
theorem UN {p q : List Int} {s : Ev} {done : Int} : (rS p q s done).length = q.length := by unfold rS;split <;> simp
theorem X3 {l : List Int} {i j : Nat} (hi : i < l.length) (hj : j < l.length) (hne : i ≠ j) : ((l.set i (l.getD j 0)).set j (l.getD i 0)).Perm l := by
  have h : ((l.set i (l.getD j 0)).set j (l.getD i 0)).Perm l := List.perm_iff_count.2 fun x => by
    have e1 : l.getD i 0 = l[i] := by simp [List.getD,hi]
    have e2 : l.getD j 0 = l[j] := by simp [List.getD,hj]
    rw [e1,e2,List.count_set (by simpa using hj),List.count_set hi,List.getElem_set_ne hne]
    have c1 : l[i] ∈ l := aI _;have c2 : l[j] ∈ l := aI _;have p1 := List.count_pos_iff.2 c1;have p2 := List.count_pos_iff.2 c2;by_cases a1 : l[i] = x
    · by_cases a2 : l[j] = x
      · rw [a1] at p1;simp [a1,a2];omega
      · rw [a1] at p1;simp [a1,a2];omega
    · by_cases a2 : l[j] = x
      · simp [a1,a2]
      · simp [a1,a2]
  exact h
theorem PQ.aft {c : Cx} {p q : List Int} {s : Ev} {done : Int} (h : PQ c p q) (ha : 0 ≤ s.a ∧ s.a < c.bs.length) (hb : s.k = 4 → s.a < s.b ∧ s.b < c.bs.length) (hc : rR c p q s done = true) : PQ c (pO p s done) (rS p q s done) where
  pl := by rw [xE];exact h.pl
  ql := by rw [UN];exact h.ql
  pp := by
    refine List.Perm.trans ?_ h.pp;have hl := h.pl;unfold pO;split
    · rename_i hk;have := hb hk.1;exact X3 (by omega) (by omega) (by omega)
    · exact .refl _
  q0 := fun x hx => by
    unfold rS at hx;split at hx
    · rename_i hk;rcases fM hx with hx | rfl
      · exact h.q0 x hx
      · have := tV hk hc;obtain ⟨i0,i1⟩ := h.at ha.1 ha.2;have := h.ct i0 i1;omega
    · exact h.q0 x hx
theorem wP {l : List Int} {i j : Nat} {x : Int} (hj : i < l.length) : (l.set i x).getD j 0 = if j = i then x else l.getD j 0 := fH hj
theorem qO.box {c : Cx} (h : qO c) {x : Int} (h0 : 0 ≤ x) (h1 : x < c.bs.length) : (0 ≤ (c.bs.getD x.toNat (0,0,0)).2.2 ∧ (c.bs.getD x.toNat (0,0,0)).2.2 ≤ 1073741824) ∧ (0 ≤ mQ c.ks c.ls (c.bs.getD x.toNat (0,0,0)).1 ∧ mQ c.ks c.ls (c.bs.getD x.toNat (0,0,0)).1 ≤ 1048576) := by
  have hx : x.toNat < c.bs.length := by omega
  have hb := h.f.b _ hx;have e : c.bs.getD x.toNat (0,0,0) = c.bs[x.toNat] := by rw [aC,aA hx];rfl
  rw [e];exact ⟨by omega,JQ h.f hb.2.1⟩
theorem MR {c : Cx} {p q : List Int} {f : As} {s : Ev} {done : Int} (hc : qO c) (h : PQ c p q) (hf : vJ c p q f) (hS : ∀ b : Int, 0 ≤ b → b < c.bs.length → HE (f b).2)
    (ha : 0 ≤ s.a ∧ s.a < c.bs.length) (hb : s.k = 4 → s.a < s.b ∧ s.b < c.bs.length) (hn : s.k = 1 ∨ s.k = 2 → 0 ≤ s.n ∧ s.n ≤ 1099511627776) (hag : GN c p q s = true) (hcan : rR c p q s done = true) :
    ∃ f',V4 c s f f' (rD c p s) ∧ vJ c (pO p s done) (rS p q s done) f' := by
  have hpl := h.pl;have hql := h.ql;by_cases hsw : s.k = 4 ∧ done = 1
  · refine ⟨MG f s.a s.b,.inr ⟨hsw.1,rfl,by unfold rD VI;rw [if_neg (by omega)]⟩,fun b b0 b1 => ?_⟩
    have hb := hb hsw.1;have eq : rS p q s done = q := by unfold rS;rw [if_neg (by omega)]
    rw [eq];have ep : (pO p s done).getD b.toNat 0 = if b = s.a then p.getD s.b.toNat 0 else if b = s.b then p.getD s.a.toNat 0 else p.getD b.toNat 0 := by
      unfold pO;rw [if_pos hsw,wP (by simp;omega),wP (by omega)]
      by_cases e1 : b = s.a
      · rw [if_pos e1,if_neg (by omega),if_pos (by omega)]
      · rw [if_neg e1];by_cases e2 : b = s.b
        · rw [if_pos e2,if_pos (by omega)]
        · rw [if_neg e2,if_neg (by omega),if_neg (by omega)]
    have h1 := hf s.a ha.1 ha.2;have h2 := hf s.b (by omega) hb.2
    have h3 := hf b b0 b1;unfold LY MG at *;rw [ep];by_cases e1 : b = s.a
    · rw [if_pos e1,if_pos e1];exact h2
    · rw [if_neg e1,if_neg e1];by_cases e2 : b = s.b
      · rw [if_pos e2,if_pos e2];exact h1
      · rw [if_neg e2,if_neg e2];exact h3
  · have ep : pO p s done = p := by unfold pO;rw [if_neg hsw]
    rw [ep];obtain ⟨i0,i1⟩ := h.at ha.1 ha.2;obtain ⟨q0,q1⟩ := h.ct i0 i1;obtain ⟨o1,o2⟩ := hf s.a ha.1 ha.2;obtain ⟨hbx,hu⟩ := hc.box i0 i1;have hsa := hS s.a ha.1 ha.2;have key : (E2 c s (f s.a)).2.2 = true ∧ sQ (E2 c s (f s.a)).1.2.1 (E2 c s (f s.a)).1.2.2 ((rS p q s done).getD (p.getD s.a.toNat 0).toNat 0) = true := by
      by_cases k2 : s.k = 2
      · have hr := tV k2 hcan;have e : (rS p q s done).getD (p.getD s.a.toNat 0).toNat 0 = q.getD (p.getD s.a.toNat 0).toNat 0 - done := by
          unfold rS;rw [if_pos k2,wP (by omega),if_pos rfl]
        rw [e];refine (GD ⟨hsa.1,hsa.2.1,hsa.2.2⟩ hc.s (hn (.inr k2)) (by omega) (by omega) k2).2 ⟨_,done,o2,?_,by omega,by omega,by omega,by omega,rfl⟩
        unfold GN CW at hag;rw [if_neg (by omega),if_neg (by omega),if_pos k2,decide_eq_true_eq] at hag
        exact hag
      · have e : rS p q s done = q := by unfold rS;rw [if_neg k2]
        rw [e];have o1' : (f s.a).1 = p.getD s.a.toNat 0 := o1;refine (LM (by rw [o1'];exact hbx) (by rw [o1'];exact hu) hc.s (fun k => hn (.inl k)) q0 q1 k2).2 ⟨o2,?_⟩
        rw [o1'];exact hag
    refine ⟨upd f s.a (E2 c s (f s.a)).1,.inl ⟨key.1,rfl,?_⟩,fun b b0 b1 => ?_⟩
    · rw [GF key.1,show (f s.a).1 = p.getD s.a.toNat 0 from o1];rfl
    · have h3 := hf b b0 b1;unfold LY upd at *;by_cases e1 : b = s.a
      · rw [if_pos e1,CQ,e1];exact ⟨o1,key.2⟩
      · rw [if_neg e1];refine ⟨h3.1,?_⟩;have hne : (p.getD b.toNat 0).toNat ≠ (p.getD s.a.toNat 0).toNat := fun e => by
          obtain ⟨j0,j1⟩ := h.at b0 b1;exact e1 (h.inj b0 b1 ha.1 ha.2 (by omega))
        have e : (rS p q s done).getD (p.getD b.toNat 0).toNat 0 = q.getD (p.getD b.toNat 0).toNat 0 := by
          unfold rS;split
          · rw [wP (by omega),if_neg hne]
          · rfl
        rw [e];exact h3.2
theorem MS {c : Cx} {p' q' : List Int} {f f' : As} {s : Ev} {d : Int} (hc : qO c) (h : PQ c p' q') (hst : V4 c s f f' d) (hf : vJ c p' q' f') (hS : ∀ b : Int, 0 ≤ b → b < c.bs.length → HE (f b).2)
    (ha : 0 ≤ s.a ∧ s.a < c.bs.length) (hb : s.k = 4 → s.a < s.b ∧ s.b < c.bs.length) (hn : s.k = 1 ∨ s.k = 2 → 0 ≤ s.n ∧ s.n ≤ 1099511627776) :
    ∃ p q done,PQ c p q ∧ vJ c p q f ∧ GN c p q s = true ∧ rR c p q s done = true ∧ d = rD c p s ∧ p' = pO p s done ∧ q' = rS p q s done := by
  have hpl := h.pl;have hql := h.ql;rcases hst with ⟨hok,rfl,rfl⟩ | ⟨hk,rfl,rfl⟩
  · obtain ⟨i0,i1⟩ := h.at ha.1 ha.2;obtain ⟨q0,q1⟩ := h.ct i0 i1;obtain ⟨hbx,hu⟩ := hc.box i0 i1;obtain ⟨o1,o2⟩ := hf s.a ha.1 ha.2;have hsa := hS s.a ha.1 ha.2;unfold upd at o1 o2;rw [if_pos rfl] at o1 o2;rw [CQ] at o1;have hm : (E2 c s (f s.a)).2.1 = rD c p' s := by rw [GF hok,o1];rfl
    by_cases k2 : s.k = 2
    · obtain ⟨u,dn,a1,a2,a3,a4,a5,a6,a7⟩ := (GD ⟨hsa.1,hsa.2.1,hsa.2.2⟩ hc.s (hn (.inr k2)) q0 q1 k2).1 ⟨hok,o2⟩;have hu2 := mT.1 a1;have hgx : (q'.set (p'.getD s.a.toNat 0).toNat u).getD (p'.getD s.a.toNat 0).toNat 0 = u := by rw [wP (by omega),if_pos rfl]
      refine ⟨p',q'.set (p'.getD s.a.toNat 0).toNat u,dn,⟨hpl,by simpa using hql,h.pp,fun x hx => ?_⟩,fun b b0 b1 => ?_,?_,?_,hm,?_,?_⟩
      · rcases fM hx with hx | rfl
        · exact h.q0 x hx
        · have := hsa.2.2;have := hsa.1;omega
      · have h3 := hf b b0 b1;unfold LY upd at *;by_cases e1 : b = s.a
        · subst e1;rw [hgx];exact ⟨o1,a1⟩
        · rw [if_neg e1] at h3;refine ⟨h3.1,?_⟩;rw [wP (by omega),if_neg]
          · exact h3.2
          · intro e;obtain ⟨j0,j1⟩ := h.at b0 b1;exact e1 (h.inj b0 b1 ha.1 ha.2 (by omega))
      · unfold GN CW;rw [if_neg (by omega),if_neg (by omega),if_pos k2,hgx,decide_eq_true_eq];exact a2
      · unfold rR CM iI;rw [if_pos k2,hgx];simp only [aL,decide_eq_true_eq];omega
      · unfold pO;rw [if_neg (by omega)]
      · unfold rS;rw [if_pos k2,hgx,List.set_set,← a7];exact (EA _ (by omega)).symm
    · have hx := (LM (c := c) (s := s) (x := f s.a) (by rw [o1];exact hbx) (by rw [o1];exact hu) hc.s (fun k => hn (.inl k)) q0 q1 k2).1 ⟨hok,o2⟩
      refine ⟨p',q',0,h,fun b b0 b1 => ?_,?_,?_,hm,?_,?_⟩
      · have h3 := hf b b0 b1;unfold LY upd at *;by_cases e1 : b = s.a
        · subst e1;exact ⟨o1,hx.1⟩
        · rw [if_neg e1] at h3;exact h3
      · have := hx.2;rw [o1] at this;exact this
      · unfold rR CM;rw [if_neg k2];split <;> rfl
      · unfold pO;rw [if_neg (by omega)]
      · unfold rS;rw [if_neg k2]
  · have hb := hb hk;have hag : ∀ p q,GN c p q s = true := fun p q => by unfold GN CW;rw [if_neg (by omega),if_neg (by omega),if_neg (by omega),if_neg (by omega),if_neg (by omega)]
    have hp1 : ((p'.set s.a.toNat (p'.getD s.b.toNat 0)).set s.b.toNat (p'.getD s.a.toNat 0)).Perm p' := X3 (by omega) (by omega) (by omega)
    have g : ∀ b : Int,0 ≤ b → b < c.bs.length → ((p'.set s.a.toNat (p'.getD s.b.toNat 0)).set s.b.toNat (p'.getD s.a.toNat 0)).getD b.toNat 0 = if b = s.a then p'.getD s.b.toNat 0 else if b = s.b then p'.getD s.a.toNat 0 else p'.getD b.toNat 0 := fun b b0 b1 => by
      rw [wP (by simp;omega),wP (by omega)]
      by_cases e1 : b = s.a
      · rw [if_pos e1,if_neg (by omega),if_pos (by omega)]
      · rw [if_neg e1];by_cases e2 : b = s.b
        · rw [if_pos e2,if_pos (by omega)]
        · rw [if_neg e2,if_neg (by omega),if_neg (by omega)]
    refine ⟨(p'.set s.a.toNat (p'.getD s.b.toNat 0)).set s.b.toNat (p'.getD s.a.toNat 0),q',1,⟨by simpa using hpl,hql,hp1.trans h.pp,h.q0⟩,fun b b0 b1 => ?_,hag _ _,?_,?_,?_,?_⟩
    · have h1 := hf s.a ha.1 ha.2;have h2 := hf s.b (by omega) hb.2
      have h3 := hf b b0 b1;unfold LY MG at *;rw [g b b0 b1];rw [if_pos rfl] at h1;rw [if_neg (by omega),if_pos rfl] at h2
      by_cases e1 : b = s.a
      · subst e1;rw [if_pos rfl];exact h2
      · rw [if_neg e1] at h3 ⊢;by_cases e2 : b = s.b
        · subst e2;rw [if_pos rfl];exact h1
        · rw [if_neg e2] at h3 ⊢;exact h3
    · unfold rR CM;rw [if_neg (by omega),if_pos hk];rfl
    · unfold rD VI;rw [if_neg (by omega)]
    · unfold pO;rw [if_pos ⟨hk,rfl⟩,g s.a ha.1 ha.2,g s.b (by omega) hb.2,if_pos rfl,if_neg (by omega),if_pos rfl]
      refine lS (by simp) fun i h1 h2 => ?_
      simp only [List.getElem_set];have ea : p'.getD s.a.toNat 0 = p'[s.a.toNat]'(by omega) := by simp [List.getD,show s.a.toNat < p'.length by omega]
      have eb : p'.getD s.b.toNat 0 = p'[s.b.toNat]'(by omega) := by simp [List.getD,show s.b.toNat < p'.length by omega]
      split
      · rename_i h;subst h;exact eb.symm ▸ rfl
      · split
        · rename_i h;subst h;exact ea.symm ▸ rfl
        · rfl
    · unfold rS;rw [if_neg (by omega)]
theorem SQ {bs : List Int} {w : W} {f : As} (h : nJ bs w f) {b : Int} (hb : b ∈ bs) : gP w (bs.idxOf b) = (f b).1 ∧ gC w (bs.idxOf b) = (f b).2 := by
  obtain ⟨hx,e⟩ := wN hb;have e1 := BR h hx;have e2 := BT h hx;rw [e] at e1 e2;exact ⟨e1,e2⟩
theorem AU {c : Cx} {M0 : Int} {gs : List G} (h : nI c M0 gs) {f : As} {M : Int} (hs : Sem gs f M) {b : Int} (h0 : 0 ≤ b) (h1 : b < c.bs.length) : HE (f b).2 ∧ 0 ≤ (f b).1 ∧ (f b).1 < c.bs.length := by
  obtain ⟨g,hg,hb⟩ := h.find ⟨h0,h1⟩;obtain ⟨w,hw,hf⟩ := F8 hs hg;obtain ⟨e1,e2⟩ := SQ hf hb;have hi := iE hb;obtain ⟨a,d,e⟩ := ((h.out.ok g hg).ws w hw).at hi;rw [e1] at a d;rw [e2] at e;exact ⟨e,a,d⟩
theorem KP {c : Cx} {f : As} {M : Int} : ∀ {l : List Nat}, Sem (l.map (Q7 c)) f M ↔ 0 ≤ M ∧ ∀ i, i ∈ l → f (i : Int) = ((i : Int), ((c.bs.getD i (0, 0, 0)).2.1, (c.bs.getD i (0, 0, 0)).2.1 + 1))
  | [] => by simp [Sem]
  | i :: l => by
    have ih := fun M => KP (c := c) (f := f) (M := M) (l := l);simp only [List.map_cons,Sem,ih];constructor
    · rintro ⟨m,⟨w,hw,hf,hm⟩,h0,h1⟩;obtain rfl := cD.1 hw;obtain ⟨f1,f2⟩ := hf;have f1 : [(i : Int)] = [(f i).1] := f1;have f2 : [((c.bs.getD i (0,0,0)).2.1,(c.bs.getD i (0,0,0)).2.1 + 1)] = [(f i).2] := f2;have hm : (0 : Int) ≤ m := hm;refine ⟨by omega,fun k hk => ?_⟩
      rcases bN.1 hk with rfl | hk
      · exact Prod.ext (List.cons.inj f1).1.symm (List.cons.inj f2).1.symm
      · exact h1 k hk
    · rintro ⟨h0,h1⟩;have hi := h1 i aS;refine ⟨0,⟨_,cD.2 rfl,⟨?_,?_⟩,fG _⟩,by omega,fun k hk => h1 k (aN _ hk)⟩
      · show [(i : Int)] = [(f i).1];rw [hi]
      · show [_] = [(f i).2];rw [hi]
theorem WY {c : Cx} {f : As} {M : Int} : Sem (rB c) f M ↔ 0 ≤ M ∧ ∀ b : Int,0 ≤ b → b < c.bs.length → f b = (b,((c.bs.getD b.toNat (0,0,0)).2.1,(c.bs.getD b.toNat (0,0,0)).2.1 + 1)) := by
  rw [M4,KP];constructor
  · rintro ⟨h0,h⟩;refine ⟨h0,fun b b0 b1 => ?_⟩
    have := h b.toNat (eN.2 (by omega))
    rwa [show ((b.toNat : Nat) : Int) = b by omega] at this
  · rintro ⟨h0,h⟩;refine ⟨h0,fun i hi => ?_⟩
    have := h i (by omega) (by have := eN.1 hi;omega)
    rwa [bV] at this
theorem SY {n : Nat} : ∀ {gs : List G}, (gs.flatMap (·.1)).Nodup → (∀ g, g ∈ gs → vR n g) → (∀ g, g ∈ gs → g.2 ≠ []) → ∃ f, Sem gs f (mR gs)
  | [],_,_,_ => ⟨fun _ => (0,(0,0)),by simp [Sem,mR]⟩
  | g :: gs,nd,ok,ne => by
    obtain ⟨f0,h0⟩ := SY (gs := gs) (by rw [bE] at nd;exact (cK.1 nd).2.1) (fun x hx => ok x (aN _ hx)) (fun x hx => ne x (aN _ hx))
    obtain ⟨w,hw,hm⟩ := Z0 (ne g aS);have og := ok g aS;refine ⟨fun b => if b ∈ g.1 then AJ g w b else f0 b,iJ g,?_,?_⟩
    · refine (G8 (f := AJ g w) (fun b hb => (if_pos hb).symm)).1 ⟨w,hw,E4 og (og.ws w hw),by omega⟩
    · refine (qQ (f := f0) (fun x hx b hb => ?_)).1 (h0.mono (by simp [mR];omega))
      rw [bE] at nd;rw [if_neg (fun q => (cK.1 nd).2.2 b q b (nW hx hb) rfl)]
theorem YG {n : Nat} {gs : List G} (nd : (gs.flatMap (·.1)).Nodup) (ok : ∀ g,g ∈ gs → vR n g) (ne : ∀ g,g ∈ gs → g.2 ≠ []) {g : G} (hg : g ∈ gs) {w : W} (hw : w ∈ g.2) : ∃ f,nJ g.1 w f ∧ Sem gs f (w.2.1 + (mR gs - iJ g)) := by
  obtain ⟨A,B,rfl⟩ := List.append_of_mem hg;have hp : (A ++ g :: B).Perm (g :: (A ++ B)) := lQ;have nd' : ((g :: (A ++ B)).flatMap (·.1)).Nodup := (hp.flatMap_right _).nodup_iff.1 nd;have hs : mR (A ++ g :: B) = iJ g + mR (A ++ B) := by simp [mR];omega
  rw [bE] at nd';obtain ⟨f0,h0⟩ := SY (gs := A ++ B) (cK.1 nd').2.1 (fun x hx => ok x (hp.mem_iff.2 (aN _ hx))) (fun x hx => ne x (hp.mem_iff.2 (aN _ hx)));have og := ok g hg;have hF := E4 og (og.ws w hw);have hc : ∀ b,b ∈ g.1 → AJ g w b = (fun b => if b ∈ g.1 then AJ g w b else f0 b) b := fun b hb => (if_pos hb).symm
  refine ⟨fun b => if b ∈ g.1 then AJ g w b else f0 b,?_,(nQ hp).2 ⟨w.2.1,?_,?_⟩⟩
  · unfold nJ at hF ⊢;rw [← jW (f := fun b => (AJ g w b).1) (fun b hb => by rw [hc b hb]),← jW (f := fun b => (AJ g w b).2) (fun b hb => by rw [hc b hb])]
    exact hF
  · exact (G8 hc).1 ⟨w,hw,hF,fG _⟩
  · refine (qQ (f := f0) (fun x hx b hb => ?_)).1 (h0.mono (by omega))
    rw [if_neg (fun q => (cK.1 nd').2.2 b q b (nW hx hb) rfl)]
theorem yW {α β : Type} (f g : α → List β) : ∀ l : List α, (∀ x, x ∈ l → (f x).Perm (g x)) → (l.flatMap f).Perm (l.flatMap g)
  | [],_ => .refl _
  | x :: l,h => by
    rw [bE,bE];exact (h x aS).append (yW f g l (fun y hy => h y (aN _ hy)))
theorem FA {α β γ : Type} (f : β → γ) (g : α → List β) : ∀ l : List α, (l.flatMap g).map f = l.flatMap fun x => (g x).map f
  | [] => rfl
  | x :: l => by rw [bE,bE,dI,FA f g l]
theorem WG {c : Cx} {M0 : Int} {gs : List G} (h : nI c M0 gs) {f : As} {M : Int} (hs : Sem gs f M) : ((nats (List.range c.bs.length)).map fun b => (f b).1).Perm (nats (List.range c.bs.length)) := by
  refine ((h.cov.symm.map _).trans ?_).trans h.idn;rw [FA];refine yW _ _ _ fun g hg => ?_
  obtain ⟨w,hw,hf⟩ := F8 hs hg;rw [← hf.1];exact (h.out.ok g hg).same w (gY g) hw (iP (h.ne g hg))
theorem BI {n : Nat} {α : Type} (F : Int → α) (d : α) {b : Int} (h0 : 0 ≤ b) (h1 : b < n) : ((nats (List.range n)).map F).getD b.toNat d = F b := by
  rw [aC,aA (by simp;omega)]
  simp only [lR,List.getElem_range,lP];rw [show ((b.toNat : Nat) : Int) = b by omega]
theorem EK {c : Cx} {M0 : Int} {gs : List G} (h : nI c M0 gs) {f : As} {M : Int} (hs : Sem gs f M) : ∃ p q,PQ c p q ∧ vJ c p q f := by
  have hi := WG h hs;have hnl : (nats (List.range c.bs.length)).length = c.bs.length := by simp
  generalize hp : ((nats (List.range c.bs.length)).map fun b => (f b).1) = p at *;have hpl : p.length = c.bs.length := by rw [hi.length_eq,hnl]
  have nd : p.Nodup := hi.nodup_iff.2 (xO _);have hpg : ∀ b : Int,0 ≤ b → b < c.bs.length → p.getD b.toNat 0 = (f b).1 := fun b h0 h1 => by rw [← hp];exact BI _ _ h0 h1
  refine ⟨p,(nats (List.range c.bs.length)).map fun x => if x ∈ p then (f (p.idxOf x)).2.1 else 0,⟨hpl,by simp,hi,fun y hy => ?_⟩,fun b h0 h1 => ⟨(hpg b h0 h1).symm,?_⟩⟩
  · obtain ⟨x,hx,rfl⟩ := bI.1 hy;have hxm := hi.mem_iff.2 hx;rw [if_pos hxm];have hlt := iE hxm;have := (AU h hs (b := (p.idxOf x : Nat)) (by omega) (by omega)).1
    unfold HE at this;omega
  · have hr := AU h hs h0 h1;rw [hpg b h0 h1,BI _ _ hr.2.1 hr.2.2];have hb : b.toNat < p.length := by omega
    have e : (f b).1 = p[b.toNat] := by rw [← hpg b h0 h1,aC,aA hb];rfl
    rw [if_pos (by rw [e];exact aI _),e,nd.idxOf_getElem,show ((b.toNat : Nat) : Int) = b by omega,mT]
    have := hr.1;unfold HE at this;omega
def JH (c : Cx) (gs : List G) : Prop := ∀ g,g ∈ gs → ∀ w,w ∈ g.2 → w.2.1 + (mR gs - iJ g) ≤ c.m
theorem NA {c : Cx} {gs : List G} (h : oA c gs) (hp : JH c gs) {g : G} (hg : g ∈ gs) {w : W} (hw : w ∈ g.2) : ∃ f,nJ g.1 w f ∧ Sem gs f c.m := by
  obtain ⟨f,h1,h2⟩ := YG h.mid.out.nd h.mid.out.ok h.mid.ne hg hw;exact ⟨f,h1,h2.mono (hp g hg w hw)⟩
theorem MO {c : Cx} {gs : List G} (h : oA c gs) (hp : JH c gs) (hn : 0 < c.bs.length) : ∃ f,Sem gs f c.m := by
  obtain ⟨g,hg,_⟩ := h.mid.find (b := 0) ⟨by omega,by omega⟩
  obtain ⟨w,hw⟩ := List.exists_mem_of_ne_nil _ (h.mid.ne g hg);obtain ⟨f,_,h2⟩ := NA h hp hg hw;exact ⟨f,h2⟩
theorem PY (c : Cx) (gs : List G) (s : Ev) : (nL c gs s).1 = 0 ∨ (nL c gs s).1 = 1 ∧ jE c.bs.length s = false ∨ (nL c gs s).1 = 6 ∨ (nL c gs s).1 = 26 := by
  have h2 : ∀ all,(vT c gs all s).1 = 0 ∨ (vT c gs all s).1 = 6 ∨ (vT c gs all s).1 = 26 := fun all => by
    unfold vT;dsimp only;split
    · simp
    · split
      · simp
      · split <;> simp
  unfold nL;split
  · split
    · split
      · simp
      · rename_i all _;have := h2 all;omega
    · have := h2 gs;omega
  · rename_i h;exact .inr (.inl ⟨rfl,Bool.eq_false_iff.2 h⟩)
abbrev TR := List Int × List BX × Int
def jH (bs : List BX) : List Int := bs.map (·.2.1)
theorem E0 (bs : List BX) : (jH bs).length = bs.length := bC _
theorem yB (bs : List BX) (i : Nat) : (jH bs).getD i 0 = (bs.getD i (0,0,0)).2.1 := by
  unfold jH;rw [aC,aC,bR];cases bs[i]? <;> rfl
structure pP (c : Cx) (ps : List Int) (bs : List BX) : Prop where
  t : sH c.ks c.ls ps bs
  len : ps.length = c.bs.length
  same : ∀ i,(bs.getD i (0,0,0)).1 = (c.bs.getD i (0,0,0)).1 ∧ (bs.getD i (0,0,0)).2.2 = (c.bs.getD i (0,0,0)).2.2
theorem pP.pq {c : Cx} {ps : List Int} {bs : List BX} (h : pP c ps bs) : PQ c ps (jH bs) where
  pl := h.len
  ql := by rw [E0,← h.t.len,h.len]
  pp := by
    refine (P8 (nats (List.range c.bs.length)) ps (xO _) (fun x hx => ?_) (by simp [h.len])).symm
    obtain ⟨h0,h1⟩ := rC.1 hx;have := h.t.p x.toNat (by rw [h.len];omega)
    rwa [show ((x.toNat : Nat) : Int) = x by omega] at this
  q0 := fun x hx => by
    obtain ⟨b,hb,rfl⟩ := bI.1 hx;obtain ⟨i,hi,rfl⟩ := JJ hb;have := h.t.b i hi;omega
theorem pP.fit {c : Cx} {ps : List Int} {bs : List BX} (hc : qO c) (h : pP c ps bs) : VG c.ks c.ls ps bs where
  n1 := by have := hc.f.n1;simp at this;rw [h.len];omega
  n8 := by have := hc.f.n8;simp at this;rw [h.len];omega
  len := h.t.len
  k10 := hc.f.k10
  l10 := hc.f.l10
  k := hc.f.k
  l := hc.f.l
  p := fun i hi => by
    have := h.pq.pp.mem_iff.1 (aI hi);rw [h.len];exact rC.1 this
  b := h.t.b
def tZ (ps : List Int) (bs : List BX) (s : Ev) (done : Int) : List BX :=
  if s.k = 2 then bs.set (ps.getD s.a.toNat 0).toNat ((bs.getD (ps.getD s.a.toNat 0).toNat (0,0,0)).1,(bs.getD (ps.getD s.a.toNat 0).toNat (0,0,0)).2.1 - done,(bs.getD (ps.getD s.a.toNat 0).toNat (0,0,0)).2.2) else bs
theorem yH (ps : List Int) (bs : List BX) (s : Ev) (done : Int) : jH (tZ ps bs s done) = rS ps (jH bs) s done := by
  unfold tZ rS;split
  · rw [yB];unfold jH;rw [qG]
  · rfl
theorem E5 (ps : List Int) (bs : List BX) (s : Ev) (done : Int) : (tZ ps bs s done).length = bs.length := by
  unfold tZ;split <;> simp
theorem pP.aft {c : Cx} {ps : List Int} {bs : List BX} {s : Ev} {done : Int} (h : pP c ps bs) (ha : 0 ≤ s.a ∧ s.a < c.bs.length) (hb : s.k = 4 → s.a < s.b ∧ s.b < c.bs.length) (hc : rR c ps (jH bs) s done = true) : pP c (pO ps s done) (tZ ps bs s done) where
  len := by rw [xE];exact h.len
  same := fun i => by
    unfold tZ;split
    · by_cases e : i = (ps.getD s.a.toNat 0).toNat
      · by_cases hl : (ps.getD s.a.toNat 0).toNat < bs.length
        · rw [fH hl,if_pos e,e];exact h.same _
        · rw [List.set_eq_of_length_le (by omega)];exact h.same i
      · by_cases hl : (ps.getD s.a.toNat 0).toNat < bs.length
        · rw [fH hl,if_neg e];exact h.same _
        · rw [List.set_eq_of_length_le (by omega)];exact h.same i
    · exact h.same i
  t := by
    have hp := (h.pq.aft ha hb hc).pp;refine ⟨by rw [xE,E5];exact h.t.len,fun i hi => ?_,h.t.k,h.t.l,fun i hi => ?_⟩
    · rw [xE,h.len] at hi;exact hp.mem_iff.2 (rC.2 ⟨by omega,by omega⟩)
    · rw [E5] at hi;have h0 := h.t.b i hi;by_cases hk : s.k = 2
      · have hr := tV hk hc;rw [yB] at hr;have e : tZ ps bs s done = bs.set (ps.getD s.a.toNat 0).toNat ((bs.getD (ps.getD s.a.toNat 0).toNat (0,0,0)).1,(bs.getD (ps.getD s.a.toNat 0).toNat (0,0,0)).2.1 - done,(bs.getD (ps.getD s.a.toNat 0).toNat (0,0,0)).2.2) := if_pos hk;simp only [e];rw [List.getElem_set];split
        · rename_i hx;rw [hx] at hr ⊢;have eb : bs.getD i (0,0,0) = bs[i] := by rw [aC,aA hi];rfl
          rw [eb] at hr ⊢;dsimp only;refine ⟨h0.1,h0.2.1,by omega,by omega,fun q => ?_,h0.2.2.2.2.2⟩
          have := h0.2.2.2.2.1 q;omega
        · exact h0
      · have e : tZ ps bs s done = bs := if_neg hk;simp only [e];exact h0
def A8 : List TR → TR → List TR
  | [],x => [x]
  | t :: l,x => if t.1 = x.1 ∧ t.2.1 = x.2.1 then (if x.2.2 < t.2.2 then x :: l else t :: l) else t :: A8 l x
theorem V9 : ∀ {l : List TR} {x t : TR}, t ∈ A8 l x → t ∈ l ∨ t = x
  | [],x,t,h => .inr (cD.1 h)
  | y :: l,x,t,h => by
    unfold A8 at h;split at h
    · split at h
      · rcases bN.1 h with rfl | h
        · exact .inr rfl
        · exact .inl (aN _ h)
      · exact .inl h
    · rcases bN.1 h with rfl | h
      · exact .inl aS
      · rcases V9 h with h | h
        · exact .inl (aN _ h)
        · exact .inr h
def LZ (l : List TR) (p : List Int) (bs : List BX) (M : Int) : Prop := ∃ t,t ∈ l ∧ t.1 = p ∧ t.2.1 = bs ∧ t.2.2 ≤ M
theorem W2 : ∀ {l : List TR} {x : TR} {p : List Int} {bs : List BX} {M : Int}, LZ (A8 l x) p bs M ↔ LZ l p bs M ∨ (x.1 = p ∧ x.2.1 = bs ∧ x.2.2 ≤ M)
  | [],x,p,bs,M => by simp [A8,LZ]
  | y :: l,x,p,bs,M => by
    have hc : ∀ (z : TR) (l : List TR),LZ (z :: l) p bs M ↔ (z.1 = p ∧ z.2.1 = bs ∧ z.2.2 ≤ M) ∨ LZ l p bs M := fun z l => by unfold LZ;simp
    unfold A8;split
    · rename_i he;split
      · rename_i hlt;rw [hc,hc];constructor
        · rintro (h | h)
          · exact .inr h
          · exact .inl (.inr h)
        · rintro ((⟨a,b,d⟩ | h) | h)
          · exact .inl ⟨he.1.symm.trans a,he.2.symm.trans b,by omega⟩
          · exact .inr h
          · exact .inl h
      · rename_i hlt;rw [hc];constructor
        · exact .inl
        · rintro (h | ⟨a,b,d⟩)
          · exact h
          · exact .inl ⟨he.1.trans a,he.2.trans b,by omega⟩
    · rw [hc,hc,W2];constructor
      · rintro (h | h | h)
        · exact .inl (.inl h)
        · exact .inl (.inr h)
        · exact .inr h
      · rintro ((h | h) | h)
        · exact .inl h
        · exact .inr (.inl h)
        · exact .inr (.inr h)
theorem Z7 : ∀ {L l : List TR} {t : TR}, t ∈ L.foldl A8 l → t ∈ l ∨ t ∈ L
  | [],l,t,h => .inl h
  | x :: L,l,t,h => by
    rcases Z7 (L := L) h with h | h
    · rcases V9 h with h | h
      · exact .inl h
      · exact .inr (by rw [h];exact aS)
    · exact .inr (aN _ h)
theorem Z8 : ∀ {L l : List TR} {p : List Int} {bs : List BX} {M : Int}, LZ (L.foldl A8 l) p bs M ↔ LZ l p bs M ∨ LZ L p bs M
  | [],l,p,bs,M => by simp [LZ]
  | x :: L,l,p,bs,M => by
    rw [yK,Z8,W2];have hc : LZ (x :: L) p bs M ↔ (x.1 = p ∧ x.2.1 = bs ∧ x.2.2 ≤ M) ∨ LZ L p bs M := by unfold LZ;simp
    rw [hc,or_assoc]
def ZA (c : Cx) (s : Ev) (t : TR) (done : Int) : TR := (pO t.1 s done,tZ t.1 t.2.1 s done,t.2.2 + rD c t.1 s)
def Z4 (c : Cx) (s : Ev) (t : TR) : Bool := GN c t.1 (jH t.2.1) s && decide (t.2.2 + rD c t.1 s ≤ c.m)
def SO (c : Cx) (s : Ev) (t : TR) (k : Nat) : List TR := if Z4 c s t then ((List.range k).filter fun d => rR c t.1 (jH t.2.1) s (d : Nat)).map fun d => ZA c s t (d : Nat) else []
def I4 (c : Cx) (s : Ev) (all : List TR) : List TR := (all.flatMap fun t => SO c s t 4).foldl A8 []
structure JK (c : Cx) (gs : List G) (all : List TR) : Prop where
  ok : ∀ t,t ∈ all → pP c t.1 t.2.1 ∧ 0 ≤ t.2.2 ∧ t.2.2 ≤ c.m ∧ ∀ x,x ∈ jH t.2.1 → x ≤ 3
  iff : ∀ p q,PQ c p q → ∀ M,M ≤ c.m → ((∃ f,vJ c p q f ∧ Sem gs f M) ↔ ∃ t,t ∈ all ∧ t.1 = p ∧ jH t.2.1 = q ∧ t.2.2 ≤ M)
theorem LR (st id k : Int) (ids : List Int) : 0 ≤ VI st id k ids ∧ VI st id k ids ≤ 1 := by
  unfold VI;repeat' split
  all_goals omega
theorem SZ {c : Cx} {gs : List G} (h : oA c gs) {f : As} {M : Int} (hs : Sem gs f M) : ∀ b : Int,0 ≤ b → b < c.bs.length → HE (f b).2 := fun b h0 h1 => (AU h.mid hs h0 h1).1
theorem O9 {c : Cx} {gs : List G} (h : oA c gs) {s : Ev} (hr : jE c.bs.length s = true) : (0 ≤ s.a ∧ s.a < c.bs.length) ∧ (s.k = 4 → s.a < s.b ∧ s.b < c.bs.length) ∧ (s.k = 1 ∨ s.k = 2 ∨ s.k = 3 → 0 ≤ s.n ∧ s.n ≤ 1099511627776) := by
  have hn := h.mid.n12;obtain ⟨r1,r2,r3⟩ := oL hr (by omega)
  refine ⟨r1,fun k => ?_,fun k => ?_⟩
  · have := r2 k;omega
  · unfold jE at hr;rw [aL] at hr;have hr := hr.2;rw [if_neg (by omega),if_pos k,decide_eq_true_eq] at hr
    exact hr
theorem F6 {c : Cx} {gs : List G} {p q : List Int} {f : As} {s : Ev} {M done : Int} (hc : qO c) (h : oA c gs) (hr : jE c.bs.length s = true) (hp : PQ c p q) (hf : vJ c p q f) (hs : Sem gs f M)
    (hag : GN c p q s = true) (hcan : rR c p q s done = true) (hM : M + rD c p s ≤ c.m) :
    (nL c gs s).1 ≠ 26 ∧ ((nL c gs s).1 = 0 → ∃ f',vJ c (pO p s done) (rS p q s done) f' ∧ Sem (nL c gs s).2 f' (M + rD c p s)) := by
  obtain ⟨r1,r2,r3⟩ := O9 h hr;obtain ⟨m0,m1,_⟩ := hc.s;obtain ⟨f',st,ok⟩ := MR hc hp hf (SZ h hs) r1 r2 (fun k => r3 (by omega)) hag hcan
  have hse := KA h m0 m1 hr (f' := f') hM;have hex : ∃ f d,V4 c s f f' d ∧ Sem gs f (M + rD c p s - d) := ⟨f,_,st,hs.mono (by omega)⟩
  exact ⟨fun q => hse.2 q hex,fun q => ⟨f',ok,(hse.1 q).2 hex⟩⟩
theorem Z6 {c : Cx} {s : Ev} {t x : TR} {k : Nat} : x ∈ SO c s t k ↔ Z4 c s t = true ∧ ∃ d : Nat,d < k ∧ rR c t.1 (jH t.2.1) s d = true ∧ x = ZA c s t d := by
  unfold SO;split
  · rename_i h;rw [bI];constructor
    · rintro ⟨d,hd,rfl⟩;obtain ⟨h1,h2⟩ := pD.1 hd;exact ⟨h,d,eN.1 h1,h2,rfl⟩
    · rintro ⟨_,d,h1,h2,rfl⟩;exact ⟨d,pD.2 ⟨eN.2 h1,h2⟩,rfl⟩
  · rename_i h;constructor
    · intro q;cases q
    · rintro ⟨q,_⟩;exact absurd q h
theorem I3 {c : Cx} {s : Ev} {all : List TR} {x : TR} (h : x ∈ I4 c s all) : ∃ t,t ∈ all ∧ Z4 c s t = true ∧ ∃ d : Nat,d < 4 ∧ rR c t.1 (jH t.2.1) s d = true ∧ x = ZA c s t d := by
  rcases Z7 h with h | h
  · cases h
  · obtain ⟨t,ht,hx⟩ := gM.1 h;exact ⟨t,ht,Z6.1 hx⟩
theorem D1 {c : Cx} {s : Ev} {t : TR} : Z4 c s t = true ↔ GN c t.1 (jH t.2.1) s = true ∧ t.2.2 + rD c t.1 s ≤ c.m := by
  unfold Z4;rw [aL,decide_eq_true_eq]
theorem JK.step {c : Cx} {gs : List G} {all : List TR} {s : Ev} (hc : qO c) (h : oA c gs) (hr : jE c.bs.length s = true) (e : JK c gs all) :
    ((nL c gs s).1 = 0 → JK c (nL c gs s).2 (I4 c s all)) ∧ ((nL c gs s).1 = 26 → I4 c s all = []) := by
  obtain ⟨r1,r2,r3⟩ := O9 h hr;obtain ⟨m0,m1,_⟩ := hc.s;have key : ∀ t,t ∈ all → Z4 c s t = true → ∀ d : Nat,rR c t.1 (jH t.2.1) s d = true → ∃ f,vJ c t.1 (jH t.2.1) f ∧ Sem gs f t.2.2 := fun t ht hg d hd => by
    obtain ⟨a,b,b',_⟩ := e.ok t ht;exact (e.iff t.1 (jH t.2.1) a.pq t.2.2 b').2 ⟨t,ht,rfl,rfl,fG _⟩
  constructor
  · intro h0;refine ⟨fun x hx => ?_,fun p q hpq M hM => ⟨?_,?_⟩⟩
    · obtain ⟨t,ht,hg,d,hd,hcan,rfl⟩ := I3 hx;obtain ⟨a,b,b',b3⟩ := e.ok t ht;obtain ⟨g1,g2⟩ := D1.1 hg;have := (LR c.st (t.1.getD s.a.toNat 0) s.k s.ids).1;refine ⟨a.aft r1 r2 hcan,?_,g2,fun y hy => ?_⟩
      · show 0 ≤ t.2.2 + rD c t.1 s;unfold rD;omega
      · change y ∈ jH (tZ t.1 t.2.1 s d) at hy;rw [yH] at hy;unfold rS at hy;split at hy
        · rename_i hk;have hrg := tV hk hcan;rcases fM hy with hy | rfl
          · exact b3 y hy
          · obtain ⟨i0,i1⟩ := a.pq.at r1.1 r1.2;have : (jH t.2.1).getD (t.1.getD s.a.toNat 0).toNat 0 ∈ jH t.2.1 := by
              have := a.pq.ql;rw [aC,aA (by omega)];exact aI _
            have := b3 _ this;omega
        · exact b3 y hy
    · rintro ⟨f',hf',hs'⟩;obtain ⟨f,d,st,hs⟩ := ((KA h m0 m1 hr (f' := f') hM).1 h0).1 hs';obtain ⟨p0,q0,done,hpq0,hf0,hag,hcan,rfl,e1,e2⟩ := MS hc hpq st hf' (SZ h hs) r1 r2 (fun k => r3 (by omega))
      have hm := (LR c.st (p0.getD s.a.toNat 0) s.k s.ids).1;obtain ⟨t,ht,rfl,rfl,htm⟩ := (e.iff p0 q0 hpq0 (M - rD c p0 s) (by unfold rD;omega)).1 ⟨f,hf0,hs⟩
      obtain ⟨a,b,b',b3⟩ := e.ok t ht;have hd : 0 ≤ done ∧ done < 4 := by
        by_cases hk : s.k = 2
        · have hrg := tV hk hcan;obtain ⟨i0,i1⟩ := a.pq.at r1.1 r1.2;have : (jH t.2.1).getD (t.1.getD s.a.toNat 0).toNat 0 ∈ jH t.2.1 := by
            have := a.pq.ql;rw [aC,aA (by omega)];exact aI _
          have := b3 _ this;omega
        · unfold rR CM at hcan;rw [if_neg hk] at hcan;split at hcan
          · rw [yQ,decide_eq_true_eq,decide_eq_true_eq] at hcan;omega
          · rw [decide_eq_true_eq] at hcan;omega
      have hdn : ((done.toNat : Nat) : Int) = done := by omega
      have hx : LZ (I4 c s all) (pO t.1 s done) (tZ t.1 t.2.1 s done) M := by
        refine Z8.2 (.inr ⟨ZA c s t (done.toNat : Nat),gM.2 ⟨t,ht,Z6.2 ⟨D1.2 ⟨hag,by omega⟩,done.toNat,by omega,by rw [hdn];exact hcan,rfl⟩⟩,?_,?_,?_⟩)
        · rw [hdn];rfl
        · rw [hdn];rfl
        · show t.2.2 + rD c t.1 s ≤ M;omega
      obtain ⟨x,hx1,hx2,hx3,hx4⟩ := hx;exact ⟨x,hx1,hx2.trans e1.symm,by rw [hx3,yH];exact e2.symm,hx4⟩
    · rintro ⟨x,hx,rfl,rfl,hxm⟩;obtain ⟨t,ht,hg,d,hd,hcan,rfl⟩ := I3 hx;obtain ⟨f,hf,hs⟩ := key t ht hg d hcan;obtain ⟨a,b,b',b3⟩ := e.ok t ht;obtain ⟨g1,g2⟩ := D1.1 hg;obtain ⟨f',ok,hs'⟩ := (F6 hc h hr a.pq hf hs g1 hcan g2).2 h0;refine ⟨f',?_,hs'.mono hxm⟩;show vJ c (pO t.1 s d) (jH (tZ t.1 t.2.1 s d)) f';rw [yH];exact ok
  · intro h26;cases hn : I4 c s all with
    | nil => rfl
    | cons x l =>
      exfalso;have hx : x ∈ I4 c s all := by rw [hn];exact aS
      obtain ⟨t,ht,hg,d,hd,hcan,rfl⟩ := I3 hx;obtain ⟨f,hf,hs⟩ := key t ht hg d hcan;obtain ⟨a,b,b',b3⟩ := e.ok t ht;obtain ⟨g1,g2⟩ := D1.1 hg;exact (F6 hc h hr a.pq hf hs g1 hcan g2).1 h26
theorem JK.some {c : Cx} {gs : List G} {all : List TR} (hc : qO c) (h : oA c gs) (hp : JH c gs) (e : JK c gs all) : all ≠ [] := by
  have hn := hc.f.n1;simp at hn;obtain ⟨f,hs⟩ := MO h hp (by omega)
  obtain ⟨p,q,hpq,hf⟩ := EK h.mid hs;obtain ⟨t,ht,_⟩ := (e.iff p q hpq c.m (fG _)).1 ⟨f,hf,hs⟩;exact fun q => by rw [q] at ht;cases ht
def UH (all : List TR) (p q : List Int) : Bool := all.any fun t => decide (t.1 = p) && decide (jH t.2.1 = q)
theorem JK.among {c : Cx} {gs : List G} {all : List TR} {p q : List Int} (h : oA c gs) (e : JK c gs all) (hp : PQ c p q) : ZS c gs p q = UH all p q := by
  rw [zF6,LS h];unfold UH;rw [kH];have hi := e.iff p q hp c.m (fG _);constructor
  · rintro ⟨_,_,_,f,hf,hs⟩;obtain ⟨t,ht,e1,e2,_⟩ := hi.1 ⟨f,hf,hs⟩;exact ⟨t,ht,by rw [e1,e2];simp⟩
  · rintro ⟨t,ht,hx⟩;rw [aL,decide_eq_true_eq,decide_eq_true_eq] at hx;obtain ⟨f,hf,hs⟩ := hi.2 ⟨t,ht,hx.1,hx.2,(e.ok t ht).2.2.1⟩;exact ⟨hp.pl,by rw [hp.ql,hp.pl],(EQ hp.pl).2 hp.pp,f,hf,hs⟩
theorem RO {c : Cx} (hc : qO c) : pP c (nats (List.range c.bs.length)) c.bs := ⟨DQ hc,by simp,fun i => ⟨rfl,rfl⟩⟩
theorem XA {n : Nat} {b : Int} (h0 : 0 ≤ b) (h1 : b < n) : (nats (List.range n)).getD b.toNat 0 = b := by
  have := BI (n := n) (fun x => x) 0 h0 h1
  rwa [List.map_id'] at this
theorem WZ {c : Cx} : ∃ f,vJ c (nats (List.range c.bs.length)) (jH c.bs) f ∧ Sem (rB c) f 0 := by
  refine ⟨fun b => (b,((c.bs.getD b.toNat (0,0,0)).2.1,(c.bs.getD b.toNat (0,0,0)).2.1 + 1)),fun b h0 h1 => ?_,WY.2 ⟨fG _,fun b h0 h1 => rfl⟩⟩
  unfold LY;rw [XA h0 h1,yB];exact ⟨rfl,mT.2 ⟨fG _,by dsimp only;omega⟩⟩
end Go.Ld
namespace Go.Proofs.YtmmkhmilpeodnaaGreat
open Go Go.Ab Go.Ld
attribute [local irreducible] VC AW cF aR kZ
set_option maxHeartbeats 4000000
theorem BS {l : List Int} {i : Nat} (h : i < l.length) : l[i]? = some (l.getD i 0) := by
  rw [aC,aA h];rfl
theorem LC {l : List BX} {i : Nat} (h : i < l.length) : l[i]? = some ((l.getD i (0,0,0)).1,(l.getD i (0,0,0)).2.1,(l.getD i (0,0,0)).2.2) := by
  rw [aC,aA h];rfl
theorem UL {c : Cx} {ps : List Int} {bs : List BX} (s : Ev) (h : pP c ps bs) :
    CW c.st c.er c.sl (ps.getD s.a.toNat 0) (bs.getD (ps.getD s.a.toNat 0).toNat (0,0,0)).2.1 ((bs.getD (ps.getD s.a.toNat 0).toNat (0,0,0)).2.2 + (bs.getD (ps.getD s.a.toNat 0).toNat (0,0,0)).2.1 * mQ c.ks c.ls (bs.getD (ps.getD s.a.toNat 0).toNat (0,0,0)).1) s.k s.n s.ids = GN c ps (jH bs) s := by
  unfold GN;have hs := h.same (ps.getD s.a.toNat 0).toNat;rw [yB,← hs.1,← hs.2]
theorem ON {c : Cx} (hc : qO c) {ps : List Int} {bs : List BX} (h : pP c ps bs) {s : Ev} (ha : 0 ≤ s.a ∧ s.a < c.bs.length) (hn : 0 ≤ s.n ∧ s.n ≤ 1099511627776) (hids : s.ids.length ≤ 9223372036854775807) :
    aR Tryz.prog 29 [gW c.m c.st c.er c.sl,.rowE (gJ c.ks) 2,.rowE (jX c.ls) 3,.rowE (ints ps) 1,.rowE (eB bs) 3,zI6 s] [] (.tup [.i (rD c ps s),.b (GN c ps (jH bs) s)]) [] := by
  have hf := h.fit hc;have hpl := h.len;have hbl := h.t.len;obtain ⟨i0,i1⟩ := h.pq.at ha.1 ha.2;have h1 := BS (l := ps) (i := s.a.toNat) (by omega)
  have h2 := LC (l := bs) (i := (ps.getD s.a.toNat 0).toNat) (by omega)
  have := GM (k := s.k) (b := s.b) (n := s.n) (ids := s.ids) hf hc.s ha.1 hn hids h1 h2;rw [UL s h] at this;exact this
theorem UM {c : Cx} (hc : qO c) {ps : List Int} {bs : List BX} (h : pP c ps bs) {s : Ev} (ha : 0 ≤ s.a ∧ s.a < c.bs.length) (hb : s.k = 4 → s.a < s.b ∧ s.b < c.bs.length) (hn : 0 ≤ s.n ∧ s.n ≤ 1099511627776) (hids : s.ids.length ≤ 9223372036854775807) (done : Int) :
    ((GN c ps (jH bs) s && rR c ps (jH bs) s done) = true ∧ aR Tryz.prog 30 [gW c.m c.st c.er c.sl,.rowE (gJ c.ks) 2,.rowE (jX c.ls) 3,.rowE (ints ps) 1,.rowE (eB bs) 3,zI6 s,.i done] [] (.tup [.rowE (ints (pO ps s done)) 1,.rowE (eB (tZ ps bs s done)) 3,.b true]) []) ∨
    ((GN c ps (jH bs) s && rR c ps (jH bs) s done) = false ∧ aR Tryz.prog 30 [gW c.m c.st c.er c.sl,.rowE (gJ c.ks) 2,.rowE (jX c.ls) 3,.rowE (ints ps) 1,.rowE (eB bs) 3,zI6 s,.i done] [] (.tup [.nils,.nils,.b false]) []) := by
  have hf := h.fit hc;have hpl := h.len;have hbl := h.t.len;have hs' := hc.s;unfold kR at hs';obtain ⟨i0,i1⟩ := h.pq.at ha.1 ha.2;have h1 := BS (l := ps) (i := s.a.toNat) (by omega)
  have h2 := LC (l := bs) (i := (ps.getD s.a.toNat 0).toNat) (by omega)
  have hag := GM (k := s.k) (b := s.b) (n := s.n) (ids := s.ids) hf hc.s ha.1 hn hids h1 h2;rw [UL s h] at hag;have hcan := zJ2 c.m c.st c.er c.sl (bs.getD (ps.getD s.a.toNat 0).toNat (0,0,0)).1 (bs.getD (ps.getD s.a.toNat 0).toNat (0,0,0)).2.1 (bs.getD (ps.getD s.a.toNat 0).toNat (0,0,0)).2.2 s.k s.a s.b s.n s.ids done hn (by omega)
  have hcT : CM c.sl (bs.getD (ps.getD s.a.toNat 0).toNat (0,0,0)).2.1 s.k s.n done = rR c ps (jH bs) s done := by unfold rR;rw [yB]
  rw [hcT] at hcan;cases e1 : GN c ps (jH bs) s
  · rw [e1] at hag;exact .inr ⟨rfl,GP hf ha.1 h1 h2 i0 (.inl rfl) hag hcan⟩
  · rw [e1] at hag;cases e2 : rR c ps (jH bs) s done
    · rw [e2] at hcan;exact .inr ⟨rfl,GP hf ha.1 h1 h2 i0 (.inr ⟨rfl,rfl⟩) hag hcan⟩
    · have hrg := fun hk => tV (c := c) (p := ps) (q := jH bs) (s := s) (done := done) hk e2;rw [e2] at hcan;refine .inl ⟨rfl,?_⟩;by_cases hk2 : s.k = 2
      · have hrg := hrg hk2;rw [yB] at hrg;have := IZ hf ha.1 h1 h2 i0 hk2 ⟨hrg.1,hrg.2.1⟩ hag hcan;have ep : pO ps s done = ps := by unfold pO;rw [if_neg (by omega)]
        have eb : tZ ps bs s done = bs.set (ps.getD s.a.toNat 0).toNat ((bs.getD (ps.getD s.a.toNat 0).toNat (0,0,0)).1,(bs.getD (ps.getD s.a.toNat 0).toNat (0,0,0)).2.1 - done,(bs.getD (ps.getD s.a.toNat 0).toNat (0,0,0)).2.2) := if_pos hk2;rw [ep,eb];exact zX (by simp) (by simp) (zL _) (zS _) rfl this
      · have eb : tZ ps bs s done = bs := if_neg hk2;rw [eb];by_cases hk4 : s.k = 4 ∧ done = 1
        · have hb := hb hk4.1;have h3 := BS (l := ps) (i := s.b.toNat) (by omega)
          have := IX hf ha.1 h1 h2 i0 hk4.1 hk4.2 (by omega) (by omega) h3 hag hcan
          have ep : pO ps s done = (ps.set s.a.toNat (ps.getD s.b.toNat 0)).set s.b.toNat (ps.getD s.a.toNat 0) := if_pos hk4;rw [ep];exact zX (by simp) (by simp) (zL _) (zS _) rfl this
        · have := IY hf ha.1 h1 h2 i0 hk2 hk4 hag hcan;have ep : pO ps s done = ps := if_neg hk4;rw [ep];exact zX (by simp) (by simp) (zL _) (zS _) rfl this
theorem VO (bs : List BX) (hl : bs.length ≤ 1000000) : aR Tryz.prog 31 [.rowE (eB bs) 3] [] (.sl 0 0 bs.length 1) [.arr (ints (jH bs)) 1] := by
  have hbl : (eB bs).length = bs.length := bC _;have hcl := E0 bs;refine bQ T Tryz.func31 rfl rfl rfl rfl ?_
  repeat' (first|refine wS ?_|(refine rg 0 (aV ?_))|refine nZ ?_)
  repeat' (first|refine wS ?_|(refine rg 1 (vV (dB rfl) (sK 3 1 rfl (by decide) ?_)))|refine nZ ?_)
  (repeat' (first|refine wB ?_|(refine rg 2 (aV ?_))|refine nZ ?_));refine dA (X := {k : Nat // k ≤ bs.length}) (fun k => [(0,.rowE (eB bs) 3),(3,.sl 0 0 k.1 1),(4,.i (k.1 : Int))]) (fun k => [.arr (ints ((jH bs).take k.1)) 1]) (fun k => bs.length - k.1) ⟨0,cT _⟩ ⟨[0],rfl,(by repeat first|exact trivial|refine ⟨rfl,?_⟩),⟨.inr rfl,trivial⟩,by decide,lH _⟩ ?_
  rintro ⟨k,hk⟩;dsimp only;by_cases hlt : k < bs.length
  · have q1 : (eB bs)[(k : Int).toNat]? = some [AV.i bs[k].1,AV.i bs[k].2.1,AV.i bs[k].2.2] := by rw [bV];exact H9 hlt
    have q4 : (ints ((jH bs).take k)).length = k := by rw [cQ,bD];omega
    have q5 : ints ((jH bs).take (k + 1)) = ints ((jH bs).take k) ++ [[.i bs[k].2.1]] := by
      rw [aX (show k < (jH bs).length by omega),show (jH bs)[k]'(by omega) = bs[k].2.1 from lR _];exact (xR _ _).symm
    generalize ints ((jH bs).take k) = A at *;generalize bs[k] = x at *;obtain ⟨x1,x2,x3⟩ := x;dsimp only at *
    (repeat' (first|refine wS ?_|refine wB ?_|refine wK ?_|(refine wC rfl ?_ ?_<;>(intro hb;(try simp only [nm] at hb);try (exfalso;omega)))|(refine rg 3 (dX rfl (qW T rfl (vV (aO rfl rfl) ?_))))|(refine rg 5 (dX rfl (mW rfl (vV (ix T rfl (by omega) (jN _) q1) (iL T rfl (bS (by exact bB T rfl rfl (by decide) (by decide) rfl rfl rfl) rfl ?_)))));refine gE T rfl rfl rfl rfl rfl rfl (by omega) (kV.whole rfl rfl) rfl (by simp;omega) (by simp;omega) rfl ?_;refine aV ?_)|(refine iA 4 rfl rfl rfl (by omega) (by omega) ?_)|refine nZ ?_));all_goals try (exfalso;omega)
    exact ⟨⟨k + 1,hlt⟩,by dsimp only;omega,⟨[2],rfl,(by repeat first|exact trivial|refine ⟨rfl,?_⟩),⟨.inr (aE rfl (by dsimp only;rw [q5];exact mJ q4.symm) (bJ _)),trivial⟩,by decide,lH _⟩⟩
  · obtain rfl : k = bs.length := by omega
    rw [show (jH bs).take bs.length = jH bs by rw [← hcl,dQ]]
    (repeat' (first|refine wS ?_|refine wR ?_|refine wE ?_|(refine wC rfl ?_ ?_<;>(intro hb;(try simp only [nm] at hb);try (exfalso;omega)))|(refine rg 3 (dX rfl (qW T rfl (vV (aO rfl rfl) ?_))))|(refine rg 6 (mW rfl (aV ?_)))|refine nZ ?_));all_goals try (exfalso;omega)
    exact ⟨.inl rfl,[0],_,rfl,rfl,rfl,⟨.inr (aE rfl rfl (bJ _)),trivial⟩,by decide,lH _⟩
theorem VP (bs : List BX) (hl : bs.length ≤ 1000000) : aR Tryz.prog 31 [.rowE (eB bs) 3] [] (.rowE (ints (jH bs)) 1) [] :=
  oR (by rw [cQ,E0]) (Z2 _) (VO bs hl)
end Go.Proofs.YtmmkhmilpeodnaaGreat
namespace Go.Ld
open Go.Ab Go.Proofs.YtmmkhmilpeodnaaGreat
structure zY (c : Cx) (gs : List G) (ps : List Int) (bs : List BX) (M : Int) : Prop where
  gk : oA c gs
  re : pP c ps bs
  m0 : 0 ≤ M
  m1 : M ≤ c.m
  f : ∃ f,vJ c ps (jH bs) f ∧ Sem gs f M
theorem zY.new {c : Cx} (hc : qO c) (hn : c.bs.length ≤ 12) : zY c (rB c) (nats (List.range c.bs.length)) c.bs 0 :=
  ⟨RP hc hn hc.s.1,RO hc,fG _,hc.s.1,WZ⟩
theorem zY.step {c : Cx} {gs : List G} {ps : List Int} {bs : List BX} {M done : Int} {s : Ev} (hc : qO c) (h : zY c gs ps bs M) (hr : jE c.bs.length s = true) (hag : GN c ps (jH bs) s = true) (hcan : rR c ps (jH bs) s done = true) (hM : M + rD c ps s ≤ c.m) :
    (nL c gs s).1 = 6 ∨ (nL c gs s).1 = 0 ∧ zY c (nL c gs s).2 (pO ps s done) (tZ ps bs s done) (M + rD c ps s) ∧ ZS c (nL c gs s).2 (pO ps s done) (jH (tZ ps bs s done)) = true := by
  obtain ⟨r1,r2,r3⟩ := O9 h.gk hr;obtain ⟨m0,m1,_⟩ := hc.s;obtain ⟨f,hf,hs⟩ := h.f;obtain ⟨t1,t2⟩ := F6 hc h.gk hr h.re.pq hf hs hag hcan hM;have hmis := (LR c.st (ps.getD s.a.toNat 0) s.k s.ids).1;have hm0 := h.m0;have hre := h.re.aft r1 r2 hcan;rcases PY c gs s with h0 | ⟨_,h0⟩ | h0 | h0
  · refine .inr ⟨h0,?_⟩;obtain ⟨f',ok,hs'⟩ := t2 h0;rw [← yH] at ok;have hg := AZ (s := s) h.gk m0 m1;refine ⟨⟨hg,hre,by unfold rD;omega,hM,f',ok,hs'⟩,?_⟩
    exact (LS hg).2 ⟨hre.pq.pl,by rw [hre.pq.ql,hre.pq.pl],(EQ hre.pq.pl).2 hre.pq.pp,f',ok,hs'.mono hM⟩
  · rw [h0] at hr;cases hr
  · exact .inl h0
  · exact absurd h0 t1
end Go.Ld
namespace Go.Proofs.YtmmkhmilpeodnaaGreat
open Go Go.Ab Go.Ld
attribute [local irreducible] VC AW cF aR kZ
set_option maxHeartbeats 4000000
theorem JV (ks : List KD) (ls : List LT) (ps : List Int) (bs : List BX) (m st er sl : Int) (l : List Ev) (d : List Int) (v : Bool) (hb : bs.length ≤ 17592186043904)
    (hf : aR Tryz.prog 25 [uF ks ls (nats (List.range bs.length)) bs,gW m st er sl,.i 8] [] (.b v) []) (hv : v = true → 20 < l.length ∨ d.length ≠ l.length) :
    aR Tryz.prog 5 [uF ks ls ps bs,gW m st er sl,.rowE (CD l) 5,.rowE (ints d) 1] [] (.b true) [] := by
  have hbl : (eB bs).length = bs.length := bC _;have hi := BO bs.length hb;rw [← hbl] at hi;rw [hbl] at hi;have hsm := X0;have hel : (CD l).length = l.length := bC _;have hdl : (ints d).length = d.length := cQ _;generalize nats (List.range bs.length) = I at *;rw [← hbl] at hi;cases v
  all_goals
    first | (have hv := hv rfl) | skip
    refine bQ T Tryz.func5 rfl rfl rfl rfl ?_
    (repeat' (first|refine wS ?_|(refine rg 0 (bS (cE rfl rfl) rfl (bS (cE rfl rfl) rfl (aV ?_))))|(refine rg 1 (vV (kC (hsm)) (aV ?_)))|(refine rg 2 (iL T rfl (qW T rfl (vV (kC (hi)) (fW T rfl (aT T rfl rfl rfl rfl rfl rfl (by decide) rfl ?_))))))|refine nZ ?_));refine fU 4 (cs := [.rowE (gJ ks) 2,.rowE (jX ls) 3,.rowE (ints I) 1,.rowE (eB bs) 3]) rfl rfl rfl ?_
    refine fU 5 (cs := [.i m,.i st,.i er,.i sl]) rfl rfl rfl ?_
    (repeat' (first|refine wS ?_|refine wR ?_|refine wT ?_|(refine wC rfl ?_ ?_<;>(intro hb;(try simp only [nm] at hb);try (exfalso;omega)))|(refine rg 3 (lW T rfl (lW T rfl (vV (kC (hf)) (vV (dH rfl) (mV ?_)))));(all_goals first|(refine gT (mW rfl (gT (qW T rfl (gT (vV (fT rfl rfl) ?_))))))|(iterate 3 refine gF ?_));(all_goals (refine pW rfl (mV ?_)));(all_goals first|(refine gK ?_)|(refine cN rfl rfl ?_ ?_<;>(intro hb;rw [hb];(try simp only [nm] at hb);try (exfalso;omega))));(all_goals first|(refine gT (mW rfl (gT (qW T rfl (gT (mW rfl (gT (qW T rfl (gT (vV (fI rfl rfl) ?_))))))))))|(iterate 5 refine gF ?_));(all_goals (refine pV ?_)))|(refine rg 4 (mW rfl (aV ?_)))|refine nZ ?_));all_goals try (exfalso;omega)
    all_goals exact rQ
theorem PH (c : Cx) (hc : qO c) (ps : List Int) (l : List Ev) (d : List Int)
    (hf : aR Tryz.prog 25 [uF c.ks c.ls (nats (List.range c.bs.length)) c.bs,gW c.m c.st c.er c.sl,.i 8] [] (.b true) [])
    (hids : ∀ s,s ∈ l → s.ids.length ≤ 9223372036854775807) (hl : l.length ≤ 20) (hd : d.length = l.length) :
    aR Tryz.prog 5 [uF c.ks c.ls ps c.bs,gW c.m c.st c.er c.sl,.rowE (CD l) 5,.rowE (ints d) 1] [] (.b true) [] := by
  have hbl : (eB c.bs).length = c.bs.length := bC _;have hn8 := hc.f.n8;have hnl : (nats (List.range c.bs.length)).length = c.bs.length := by simp
  rw [hnl] at hn8;have hi := BO c.bs.length (by omega)
  rw [← hbl] at hi;rw [hbl] at hi;have hsm := X0;have hel : (CD l).length = l.length := bC _;have hdl : (ints d).length = d.length := cQ _;have hn := RS c hc;have hg0 := zY.new hc (by omega)
  have hm0 := hc.s.1;have hm1 := hc.s.2.1;generalize nats (List.range c.bs.length) = I at *;rw [← hbl] at hi;refine bQ T Tryz.func5 rfl rfl rfl rfl ?_
  (repeat' (first|refine wS ?_|(refine rg 0 (bS (cE rfl rfl) rfl (bS (cE rfl rfl) rfl (aV ?_))))|(refine rg 1 (vV (kC (hsm)) (aV ?_)))|(refine rg 2 (iL T rfl (qW T rfl (vV (kC (hi)) (fW T rfl (aT T rfl rfl rfl rfl rfl rfl (by decide) rfl ?_))))))|refine nZ ?_));refine fU 4 (cs := [.rowE (gJ c.ks) 2,.rowE (jX c.ls) 3,.rowE (ints I) 1,.rowE (eB c.bs) 3]) rfl rfl rfl ?_
  refine fU 5 (cs := [.i c.m,.i c.st,.i c.er,.i c.sl]) rfl rfl rfl ?_
  (repeat' (first|refine wS ?_|refine wK ?_|(refine wC rfl ?_ ?_<;>(intro hb;(try simp only [nm] at hb);try (exfalso;omega)))|(refine rg 3 (lW T rfl (lW T rfl (vV (kC (hf)) (vV (dH rfl) (mW rfl (yN rfl (gT (qW T rfl (yV (fT rfl rfl) ?_)))))))));refine pW rfl (mV ?_);refine cN rfl rfl ?_ ?_<;>(intro hb;rw [hb];(try simp only [nm] at hb);try (exfalso;omega));(all_goals (refine yN rfl (gT (qW T rfl (yN rfl (gT (qW T rfl (yV (fI rfl rfl) (pV ?_))))))))))|refine nZ ?_));all_goals try (exfalso;omega)
  (repeat' (first|refine wS ?_|refine wB ?_|refine wK ?_|refine wU ?_|(refine rg 5 (lW T rfl (iL T rfl (iL T rfl (iL T rfl (bS (by exact fK rfl rfl hn (.inr ⟨rfl,rfl,by simp⟩)) rfl ?_)))));refine mW rfl (xW rfl (xW rfl (pT ?_))))|(refine rg 6 (mW rfl (vV (by exact R8 zH1 rfl rfl rfl) ?_));refine mW rfl (yN rfl (yV (fI rfl rfl) (pV ?_))))|(refine rg 8 (iL T rfl (iL T rfl (vV (by exact eQ T rfl rfl rfl rfl) ?_)));refine bS (bO T rfl) rfl (aT T rfl rfl rfl rfl rfl rfl (by decide) rfl ?_))|(refine rg 9 (aV ?_))|refine nZ ?_));all_goals try (exfalso;omega)
  refine dA (X := {x : Nat × List G × List Int × List BX × Int // x.1 ≤ l.length ∧ zY c x.2.1 x.2.2.1 x.2.2.2.1 x.2.2.2.2}) (fun x => [(2,.rowE (CD l) 5),(3,.rowE (ints d) 1),(4,.pr [.rowE (gJ c.ks) 2,.rowE (jX c.ls) 3,.rowE (ints I) 1,.rowE (eB c.bs) 3] 0),(5,.pr [.i c.m,.i c.st,.i c.er,.i c.sl] 0),(9,.b true),(10,.ptr 0 0),(12,.ptr 1 0),(13,.i (x.1.1 : Int))]) (fun x => [.cells (gS c x.1.2.1),.cells [.rowE (ints x.1.2.2.1) 1,.rowE (eB x.1.2.2.2.1) 3,.i x.1.2.2.2.2]]) (fun x => l.length - x.1.1) ⟨(0,rB c,I,c.bs,0),cT _,hg0⟩ (eW [2,3]) ?_;rintro ⟨⟨k,gs,p,bs,M⟩,hk,hT⟩;dsimp only at hk hT ⊢;have hM0 := hT.m0;have hM1 := hT.m1;by_cases hlt : k < l.length
  · have hg := TA hlt;have hdg := mG (l := d) (j := (k : Int)) (i := k) 0 (by omega) rfl
    have hids1 := hids _ (aI hlt);have hright := EI c.bs.length l[k].k l[k].a l[k].b l[k].n l[k].ids hids1 ⟨by omega,by omega⟩
    rw [← hbl] at hright;generalize l[k] = s at *;generalize d.getD k 0 = dn at *;have hsil : (Go.Ab.ints s.ids).length = s.ids.length := bC _;by_cases hi12 : s.ids.length ≤ 12
    · change aR _ _ _ _ (.b (jE _ s)) _ at hright;rw [hbl] at hright;cases hr : jE c.bs.length s with
      | false =>
        rw [hr] at hright;rw [← hbl] at hright
        (repeat' (first|refine wS ?_|refine wB ?_|refine wK ?_|refine wE ?_|refine wT ?_|(refine wC rfl ?_ ?_<;>(intro hb;(try simp only [nm] at hb);try (exfalso;omega)))|(refine rg 10 (dX rfl (qW T rfl (vV (aO rfl rfl) ?_))))|(refine bL (id := 12) 172 zU2 (rM 71 18) zU3 cC rfl (by decide +kernel) (dN rfl (dN rfl (dV rfl (ix T rfl (by omega) (jA _) hg) (dP T rfl (dO T rfl (dV rfl (eP T rfl rfl) (dV rfl (fT rfl rfl) (dM ?_))))))));refine mU rfl rfl rfl rfl ?_ ?_<;>(intro hb;rw [hb];(try simp only [nm] at hb);try (exfalso;omega))<;>(refine tF T ?_);(all_goals (refine tO T rfl (dT rfl (eP T rfl rfl) (tN rfl (tN rfl (dT rfl (ix T rfl (by omega) (jA _) hg) (tO T rfl (dT rfl (kC (hright)) (dT rfl (dH rfl) (dV rfl (fX rfl rfl) (dE ?_))))))))))))|(refine iA 11 rfl rfl rfl (by omega) (by omega) ?_)|refine nZ ?_));all_goals try (exfalso;omega)
        all_goals exact ⟨⟨(k + 1,gs,p,bs,M),by dsimp only;omega,hT⟩,by dsimp only;omega,eW [0,1]⟩
      | true =>
        rw [hr] at hright;rw [← hbl] at hright;obtain ⟨r1,r2,r3,r4⟩ := oL hr (by omega)
        have hag := ON hc hT.re r1 ⟨r3,r4⟩ hids1;have haf := UM hc hT.re r1 r2 ⟨r3,r4⟩ hids1 dn;have hst := fun h1 h2 h3 => hT.step (done := dn) hc hr h1 h2 h3;have hse := KB c gs s hc hT.gk hids1;have hmi := LR c.st (p.getD s.a.toNat 0) s.k s.ids;change 0 ≤ rD c p s ∧ rD c p s ≤ 1 at hmi;have hbnl := hT.re.len;have hbnl2 := hT.re.t.len;have hun := VP (tZ p bs s dn) (by rw [E5];omega)
        have hagl := fun (hgk : oA c (nL c gs s).2) => AK c (nL c gs s).2 (pO p s dn) (jH (tZ p bs s dn)) hgk hm1 (by rw [xE];omega) (by rw [E0,E5];omega)
        generalize rD c p s = mi at *;generalize jH bs = q at *;generalize GN c p q s = ag at *;generalize rR c p q s dn = cn at *;generalize pO p s dn = p' at *;generalize tZ p bs s dn = bs' at *;generalize nL c gs s = R at *;obtain ⟨code,gs'⟩ := R;dsimp only at *;cases ag with
        | false =>
          obtain ⟨_,haf⟩ := haf.resolve_left (fun q => by cases q.1)
          (repeat' (first|refine wS ?_|refine wB ?_|refine wK ?_|refine wE ?_|refine wT ?_|refine wU ?_|(refine wC rfl ?_ ?_<;>(intro hb;(try simp only [nm] at hb);try (exfalso;omega)))|(refine rg 10 (dX rfl (qW T rfl (vV (aO rfl rfl) ?_))))|(refine bL (id := 12) 172 zU2 (rM 71 18) zU3 cC rfl (by decide +kernel) (dN rfl (dN rfl (dV rfl (ix T rfl (by omega) (jA _) hg) (dP T rfl (dO T rfl (dV rfl (eP T rfl rfl) (dV rfl (fT rfl rfl) (dM ?_))))))));refine mU rfl rfl rfl rfl ?_ ?_<;>(intro hb;rw [hb];(try simp only [nm] at hb);try (exfalso;omega))<;>(refine tF T ?_);(all_goals (refine tO T rfl (dT rfl (eP T rfl rfl) (tN rfl (tN rfl (dT rfl (ix T rfl (by omega) (jA _) hg) (tO T rfl (dT rfl (kC (hright)) (dT rfl (dH rfl) (dV rfl (fX rfl rfl) (dE ?_))))))))))))|(refine bL (id := 13) 172 zU4 [90,91,92,93,94,95,96,97,98,99,100,101,102,103,89,104,105,14] zU5 cC rfl (by decide +kernel) (dO T rfl (dP T rfl (dO T rfl (dP T rfl (dO T rfl (dP T rfl (dO T rfl (dP T rfl (dL T ?_)))))))));refine dN rfl (dN rfl (dV rfl (ix T rfl (by omega) (jA _) hg) (dO T rfl (dV rfl (kC (hag)) (dN rfl (dV rfl (by exact dY rfl rfl) ?_))))));refine dV rfl (by exact dY rfl rfl) ?_;refine dV rfl (dB rfl) (dE ?_);refine aV ?_)|(refine bL (id := 14) 172 zU6 [107,108,109,110,111,112,113,114,115,116,117,118,119,120,121,122,123,124,106,125,126,127,16,17] zU7 cC rfl (by decide +kernel) (dO T rfl (dP T rfl (dO T rfl (dP T rfl (dO T rfl (dP T rfl (dO T rfl (dP T rfl (dL T ?_)))))))));refine dN rfl (dN rfl (dV rfl (ix T rfl (by omega) (jA _) hg) (dO T rfl (dN rfl (dN rfl (dV rfl (ix T rfl (by omega) (cH _) hdg) (dO T rfl (dV rfl (kC (haf)) (dM ?_)))))))));refine dV rfl (by exact dY rfl rfl) ?_;refine dV rfl (by exact dY rfl rfl) ?_;refine dV rfl (by exact dY rfl rfl) ?_;refine dV rfl (dB rfl) (dV rfl (dB rfl) (dE ?_));refine aV ?_)|(refine rg 15 (mW rfl (vV (dH rfl) (mV ?_)));(iterate 2 refine gF ?_);refine pW rfl (mV ?_);(iterate 7 refine gF ?_);refine pV ?_)|(refine iA 11 rfl rfl rfl (by omega) (by omega) ?_)|refine nZ ?_));all_goals try (exfalso;omega)
          all_goals exact ⟨⟨(k + 1,gs,p,bs,M),by dsimp only;omega,hT⟩,by dsimp only;omega,eW [0,1]⟩
        | true =>
          cases cn with
          | false =>
            obtain ⟨_,haf⟩ := haf.resolve_left (fun q => by cases q.1)
            (repeat' (first|refine wS ?_|refine wB ?_|refine wK ?_|refine wE ?_|refine wT ?_|refine wU ?_|(refine wC rfl ?_ ?_<;>(intro hb;(try simp only [nm] at hb);try (exfalso;omega)))|(refine rg 10 (dX rfl (qW T rfl (vV (aO rfl rfl) ?_))))|(refine bL (id := 12) 172 zU2 (rM 71 18) zU3 cC rfl (by decide +kernel) (dN rfl (dN rfl (dV rfl (ix T rfl (by omega) (jA _) hg) (dP T rfl (dO T rfl (dV rfl (eP T rfl rfl) (dV rfl (fT rfl rfl) (dM ?_))))))));refine mU rfl rfl rfl rfl ?_ ?_<;>(intro hb;rw [hb];(try simp only [nm] at hb);try (exfalso;omega))<;>(refine tF T ?_);(all_goals (refine tO T rfl (dT rfl (eP T rfl rfl) (tN rfl (tN rfl (dT rfl (ix T rfl (by omega) (jA _) hg) (tO T rfl (dT rfl (kC (hright)) (dT rfl (dH rfl) (dV rfl (fX rfl rfl) (dE ?_))))))))))))|(refine bL (id := 13) 172 zU4 [90,91,92,93,94,95,96,97,98,99,100,101,102,103,89,104,105,14] zU5 cC rfl (by decide +kernel) (dO T rfl (dP T rfl (dO T rfl (dP T rfl (dO T rfl (dP T rfl (dO T rfl (dP T rfl (dL T ?_)))))))));refine dN rfl (dN rfl (dV rfl (ix T rfl (by omega) (jA _) hg) (dO T rfl (dV rfl (kC (hag)) (dN rfl (dV rfl (by exact dY rfl rfl) ?_))))));refine dV rfl (by exact dY rfl rfl) ?_;refine dV rfl (dB rfl) (dE ?_);refine aV ?_)|(refine bL (id := 14) 172 zU6 [107,108,109,110,111,112,113,114,115,116,117,118,119,120,121,122,123,124,106,125,126,127,16,17] zU7 cC rfl (by decide +kernel) (dO T rfl (dP T rfl (dO T rfl (dP T rfl (dO T rfl (dP T rfl (dO T rfl (dP T rfl (dL T ?_)))))))));refine dN rfl (dN rfl (dV rfl (ix T rfl (by omega) (jA _) hg) (dO T rfl (dN rfl (dN rfl (dV rfl (ix T rfl (by omega) (cH _) hdg) (dO T rfl (dV rfl (kC (haf)) (dM ?_)))))))));refine dV rfl (by exact dY rfl rfl) ?_;refine dV rfl (by exact dY rfl rfl) ?_;refine dV rfl (by exact dY rfl rfl) ?_;refine dV rfl (dB rfl) (dV rfl (dB rfl) (dE ?_));refine aV ?_)|(refine rg 15 (mW rfl (vV (dH rfl) (mW rfl (yN rfl (yV (dH rfl) (pW rfl (mV ?_)))))));(iterate 7 refine gF ?_);refine pV ?_)|(refine iA 11 rfl rfl rfl (by omega) (by omega) ?_)|refine nZ ?_));all_goals try (exfalso;omega)
            all_goals exact ⟨⟨(k + 1,gs,p,bs,M),by dsimp only;omega,hT⟩,by dsimp only;omega,eW [0,1]⟩
          | true =>
            obtain ⟨_,haf⟩ := haf.resolve_right (fun q => by cases q.1)
            by_cases hM2 : M + mi ≤ c.m
            · (repeat' (first|refine wS ?_|refine wB ?_|refine wK ?_|refine T6 rfl ?_|(refine wC rfl (fun hb => ?_) (fun hb => ?_) <;> (((try simp only [nm] at hb);try (exfalso;omega))))|(refine rg 10 (dX rfl (qW T rfl (vV (aO rfl rfl) ?_))))|(refine bL (id := 12) 172 zU2 (rM 71 18) zU3 cC rfl (by decide +kernel) (dN rfl (dN rfl (dV rfl (ix T rfl (by omega) (jA _) hg) (dP T rfl (dO T rfl (dV rfl (eP T rfl rfl) (dV rfl (xY rfl rfl (by omega)) (dN rfl (tF T ?_)))))))));refine tO T rfl (dT rfl (eP T rfl rfl) (tN rfl (tN rfl (dT rfl (ix T rfl (by omega) (jA _) hg) (tO T rfl (dT rfl (kC (hright)) (dT rfl (dH rfl) (dV rfl (fX rfl rfl) (dE ?_))))))))))|(refine bL (id := 13) 172 zU4 [90,91,92,93,94,95,96,97,98,99,100,101,102,103,89,104,105,14] zU5 cC rfl (by decide +kernel) (dO T rfl (dP T rfl (dO T rfl (dP T rfl (dO T rfl (dP T rfl (dO T rfl (dP T rfl (dL T ?_)))))))));refine dN rfl (dN rfl (dV rfl (ix T rfl (by omega) (jA _) hg) (dO T rfl (dV rfl (kC (hag)) (dN rfl (dV rfl (by exact dY rfl rfl) ?_))))));refine dV rfl (by exact dY rfl rfl) ?_;refine dV rfl (dB rfl) (dE ?_);refine aV ?_)|(refine bL (id := 14) 172 zU6 [107,108,109,110,111,112,113,114,115,116,117,118,119,120,121,122,123,124,106,125,126,127,16,17] zU7 cC rfl (by decide +kernel) (dO T rfl (dP T rfl (dO T rfl (dP T rfl (dO T rfl (dP T rfl (dO T rfl (dP T rfl (dL T ?_)))))))));refine dN rfl (dN rfl (dV rfl (ix T rfl (by omega) (jA _) hg) (dO T rfl (dN rfl (dN rfl (dV rfl (ix T rfl (by omega) (cH _) hdg) (dO T rfl (dV rfl (kC (haf)) (dM ?_)))))))));refine dV rfl (by exact dY rfl rfl) ?_;refine dV rfl (by exact dY rfl rfl) ?_;refine dV rfl (by exact dY rfl rfl) ?_;refine dV rfl (dB rfl) (dV rfl (dB rfl) (dE ?_));refine aV ?_)|(refine rg 15 (mW rfl (vV (dH rfl) (mW rfl (yN rfl (yV (dH rfl) (pW rfl (mW rfl (yP T rfl (yL T ?_)))))))));refine yN rfl (yV (bT rfl rfl (by omega) (by omega)) (yP T rfl (yO T rfl (yV (xY rfl rfl (by omega)) (pV ?_))))))|(refine nZ ?_)));all_goals try (exfalso;omega)
              rcases hst rfl rfl hM2 with h6 | ⟨h0,hT2,ha2⟩
              · (repeat' (first|refine wS ?_|refine wR ?_|refine pB rfl ?_|(refine rg 16 (dX rfl (mW rfl (vV (ix T rfl (by omega) (jA _) hg) (lW T rfl (fQ [0] rfl rfl (hse) rfl rfl (by decide) ⟨.inr rfl,trivial⟩ (by simp) rfl ?_)))));refine aV ?_)|(refine rg 17 (mW rfl (vV (kO rfl rfl h6) ?_)))|(refine rg 18 (mW rfl (aV ?_)))|(refine nZ ?_)));all_goals try (exfalso;omega)
                all_goals exact rQ
              · have hagl := hagl hT2.gk;rw [ha2] at hagl;subst h0
                (repeat' (first|refine wS ?_|refine wK ?_|refine wU ?_|(refine rg 16 (dX rfl (mW rfl (vV (ix T rfl (by omega) (jA _) hg) (lW T rfl (fQ [0] rfl rfl (hse) rfl rfl (by decide) ⟨.inr rfl,trivial⟩ (by simp) rfl ?_)))));refine aV ?_)|(refine rg 17 (mW rfl (vV (dJ rfl rfl) ?_)))|(refine rg 19 (dX rfl (iL T rfl (mW rfl (vV (bT rfl rfl (by omega) (by omega)) (vV (by exact eQ T rfl rfl rfl rfl) ?_)))));refine aT T rfl rfl rfl rfl rfl rfl (by decide) rfl ?_)|(refine bL (id := 20) 172 [[],[0],[0,1],[0,1,2],[0,1,2],[0,1,2,4],[0,1,2],[0,1,2,6],[0,1,2,6,7],rN 9,rN 10,rN 11] (rM 159 12) [[],[],[],[],[162],[162],[162,163,164],[162,163,164],[162,163,164],[],[],[]] cC rfl (by decide +kernel) (dN rfl (dV rfl (fI rfl rfl) (dN rfl (tN rfl (tP T rfl (tO T rfl (tP T rfl (tO T rfl (dT rfl (kC (hun)) ?_)))))))));refine dT rfl (by exact eT rfl rfl hagl (.cons (.ptr rfl (fZ _ rfl)) (.cons (.row _ _ _) (.cons (.row _ _ _) .nil))) rfl rfl) ?_;refine dT rfl (dH rfl) (dV rfl (fX rfl rfl) (dE ?_)))|(refine iA 11 rfl rfl rfl (by omega) (by omega) ?_)|refine nZ ?_));all_goals try (exfalso;omega)
                all_goals exact ⟨⟨(k + 1,gs',p',bs',M + mi),by dsimp only;omega,hT2⟩,by dsimp only;omega,eW [0,1]⟩
            · (repeat' (first|refine wS ?_|refine wB ?_|refine wK ?_|refine wE ?_|refine pB rfl ?_|refine T6 rfl ?_|(refine wC rfl (fun hb => ?_) (fun hb => ?_) <;> (((try simp only [nm] at hb);try (exfalso;omega))))|(refine rg 10 (dX rfl (qW T rfl (vV (aO rfl rfl) ?_))))|(refine bL (id := 12) 172 zU2 (rM 71 18) zU3 cC rfl (by decide +kernel) (dN rfl (dN rfl (dV rfl (ix T rfl (by omega) (jA _) hg) (dP T rfl (dO T rfl (dV rfl (eP T rfl rfl) (dV rfl (xY rfl rfl (by omega)) (dN rfl (tF T ?_)))))))));refine tO T rfl (dT rfl (eP T rfl rfl) (tN rfl (tN rfl (dT rfl (ix T rfl (by omega) (jA _) hg) (tO T rfl (dT rfl (kC (hright)) (dT rfl (dH rfl) (dV rfl (fX rfl rfl) (dE ?_))))))))))|(refine bL (id := 13) 172 zU4 [90,91,92,93,94,95,96,97,98,99,100,101,102,103,89,104,105,14] zU5 cC rfl (by decide +kernel) (dO T rfl (dP T rfl (dO T rfl (dP T rfl (dO T rfl (dP T rfl (dO T rfl (dP T rfl (dL T ?_)))))))));refine dN rfl (dN rfl (dV rfl (ix T rfl (by omega) (jA _) hg) (dO T rfl (dV rfl (kC (hag)) (dN rfl (dV rfl (by exact dY rfl rfl) ?_))))));refine dV rfl (by exact dY rfl rfl) ?_;refine dV rfl (dB rfl) (dE ?_);refine aV ?_)|(refine bL (id := 14) 172 zU6 [107,108,109,110,111,112,113,114,115,116,117,118,119,120,121,122,123,124,106,125,126,127,16,17] zU7 cC rfl (by decide +kernel) (dO T rfl (dP T rfl (dO T rfl (dP T rfl (dO T rfl (dP T rfl (dO T rfl (dP T rfl (dL T ?_)))))))));refine dN rfl (dN rfl (dV rfl (ix T rfl (by omega) (jA _) hg) (dO T rfl (dN rfl (dN rfl (dV rfl (ix T rfl (by omega) (cH _) hdg) (dO T rfl (dV rfl (kC (haf)) (dM ?_)))))))));refine dV rfl (by exact dY rfl rfl) ?_;refine dV rfl (by exact dY rfl rfl) ?_;refine dV rfl (by exact dY rfl rfl) ?_;refine dV rfl (dB rfl) (dV rfl (dB rfl) (dE ?_));refine aV ?_)|(refine rg 15 (mW rfl (vV (dH rfl) (mW rfl (yN rfl (yV (dH rfl) (pW rfl (mW rfl (yP T rfl (yL T ?_)))))))));refine yN rfl (yV (bT rfl rfl (by omega) (by omega)) (yP T rfl (yO T rfl (yV (LD rfl rfl (by omega)) (pV ?_))))))|(refine iA 11 rfl rfl rfl (by omega) (by omega) ?_)|(refine nZ ?_)));all_goals try (exfalso;omega)
              all_goals exact ⟨⟨(k + 1,gs,p,bs,M),by dsimp only;omega,hT⟩,by dsimp only;omega,eW [0,1]⟩
    · (repeat' (first|refine wS ?_|refine wB ?_|refine wK ?_|refine wE ?_|refine pB rfl ?_|(refine wC rfl (fun hb => ?_) (fun hb => ?_) <;> (((try simp only [nm] at hb);try (exfalso;omega))))|(refine rg 10 (dX rfl (qW T rfl (vV (aO rfl rfl) ?_))))|(refine bL (id := 12) 172 zU2 (rM 71 18) zU3 cC rfl (by decide +kernel) (dN rfl (dN rfl (dV rfl (ix T rfl (by omega) (jA _) hg) (dP T rfl (dO T rfl (dV rfl (eP T rfl rfl) (dV rfl (fT rfl rfl) (dM ?_))))))));refine mU rfl rfl rfl rfl (fun hb => ?_) (fun hb => ?_) <;> ((rw [hb];(try simp only [nm] at hb);try ((exfalso;omega);done))) <;> (refine dG ?_);(all_goals (refine tG rfl (tG rfl (tG rfl (tG rfl (tG rfl (tG rfl (tG rfl (tG rfl (dV rfl (jF rfl rfl) (dE ?_))))))))))))|(refine iA 11 rfl rfl rfl (by omega) (by omega) ?_)|(refine nZ ?_)));all_goals try (exfalso;omega)
      all_goals exact ⟨⟨(k + 1,gs,p,bs,M),by dsimp only;omega,hT⟩,by dsimp only;omega,eW [0,1]⟩
  · (repeat' (first|refine wS ?_|refine wR ?_|refine wE ?_|(refine wC rfl (fun hb => ?_) (fun hb => ?_) <;> (((try simp only [nm] at hb);try (exfalso;omega))))|(refine rg 10 (dX rfl (qW T rfl (vV (aO rfl rfl) ?_))))|(refine rg 22 (mW rfl (aV ?_)))|(refine nZ ?_)));all_goals try (exfalso;omega)
    all_goals exact rQ
end Go.Proofs.YtmmkhmilpeodnaaGreat
namespace Go.Ab
open Go
def O6 (P : Program) (t : TypeId) (i o : Nat) (e : TypeId) : Bool := match P.underlying t with
  | some (.struct fs) => (match fs[i]? with
    | some f => f.offset == o && P.cellsOf f.type == 1 && (match P.underlying f.type with
      | some (.slice e') => e' == e
      | _ => false)
    | none => false)
  | _ => false
theorem CZ {S : Nat → Prop} {w : World} {ρ : Pl} {x : AV} : ∀ {k : Nat} {us : List AV} {ys : List Value}, RL S w us ρ ys → us[k]? = some x → ∃ y, ys[k]? = some y ∧ R S w x ρ y
  | _,[],_,_,h => by simp at h
  | 0,u :: us,ys,hr,h => by
    simp only [RL] at hr;obtain ⟨y,zs,h1,h2,h3⟩ := hr;obtain rfl : u = x := by simpa using h
    first
      | (subst h1;exact ⟨y,rfl,h2⟩)
      | (subst h2;exact ⟨y,rfl,h1⟩)
      | (subst h3;exact ⟨y,rfl,h1⟩)
  | k + 1,u :: us,ys,hr,h => by
    simp only [RL] at hr;obtain ⟨y,zs,h1,h2,h3⟩ := hr;have h' : us[k]? = some x := by simpa using h
    first
      | (subst h1;exact CZ (k := k) h3 h')
      | (subst h3;exact CZ (k := k) h2 h')
theorem IC {P : Program} {H : Type} {enc : TypeId × Value → H} {ts : List TypeId} {ds : List (DataW H)} {j : Nat} {t e : TypeId} {d : DataW H} {W : World} {v : Value} {p : List MemPlace} {S : Nat → Prop} {ρ : Pl} {us : List AV} {cs : List AV} {len sz i o : Nat}
    (hw : (DataW.weightsEach P ts ds).all (· ≤ reachBytes) = true) (hts : ts[j]? = some t) (hds : ds[j]? = some d) (hf : O6 P t i o e = true) (hv : DataW.Trod enc P W 0 (fun _ => true) true t v d p) (hr : R S W (.agg us) ρ v) (hu : us[o]? = some (.row cs len sz)) : len * P.bytesOf e ≤ 140737488351232 := by
  simp only [R] at hr;obtain ⟨ys,rfl,hl⟩ := hr;obtain ⟨y,hy,hry⟩ := CZ hl hu;simp only [R] at hry;obtain ⟨a,cap,rfl,_⟩ := hry;unfold O6 at hf;split at hf
  · rename_i fs ht;split at hf
    · rename_i f hfi;simp only [aL,beq_iff_eq] at hf;obtain ⟨⟨h1,h2⟩,h3⟩ := hf;split at h3
      · rename_i e' hs;have h3 : e' = e := by simpa using h3
        subst h3;obtain ⟨fuel,hft⟩ := hv;have hc : (Value.agg ys).cells.toList = ys.toList := rfl;rw [hc] at hft;obtain ⟨xs,n,rfl,hx,_,hxl,hx2⟩ := DataW.trod_struct ht hft;have hx3 := hx2 i f hfi
        rw [h1,h2,show (ys.toList.drop o).take 1 = [.slice a len cap] by
          rw [List.take_one,List.head?_drop,hy];rfl] at hx3
        have hil : i < xs.length := by rw [hxl];exact (aH.1 hfi).1
        rw [aA hil] at hx3;simp only [Prod.mk.injEq] at hx;rcases DataW.trod_slice hs hx3 with ⟨q1,_⟩ | ⟨a',len',cap',elems,rest,n',_,q2,q3,_,_,_,q4,_⟩
        · simp only [List.cons.injEq,Value.slice.injEq] at q1;rw [q1.1.2.1];simp
        · simp only [List.cons.injEq,Value.slice.injEq] at q2;rw [q2.1.2.1];have hmem : (elems.length + rest.length) * P.bytesOf e' ∈ d.weights P t := by
            rw [hx.1];unfold DataW.weights;rw [ht];refine DataW.weights_mem_each (j := i) (t := f.type) (d := xs[i].1) ?_ ?_ _ ?_
            · rw [bR,iT,hfi];rfl
            · rw [bR,aA hil];rfl
            · rw [q3];simp only [DataW.weights,hs,bC];exact aS
          have h5 := bA.1 hw _ (DataW.weights_mem_each hts hds _ hmem);have hrb : reachBytes = 140737488351232 := by decide
          simp only [decide_eq_true_eq,hrb,eG] at h5;rw [← q4];omega
      · cases h3
    · cases hf
  · cases hf
end Go.Ab
namespace Go.Proofs.YtmmkhmilpeodnaaGreat
open Go Go.Ab Go.Ld
attribute [local irreducible] VC AW cF aR
def A5 (n : Int) : Prop := (Lit.int .i64 n).wf = true
theorem qZ : gO Tryz.prog 3 A5 (fun n => [AV.i n]) := gO.int Tryz.underlying3 (by kernel_rfl)
theorem zB3 : gO Tryz.prog 4 (fun _ => True) (fun b => [AV.b b]) := gO.bool Tryz.underlying4 (by kernel_rfl)
theorem RG : gO Tryz.prog 9 (fun s => s.size ≤ maxLen) (fun s => [.v (.string s)]) := gO.string Tryz.underlying9 (by kernel_rfl)
theorem IA : gO Tryz.prog 24 (fun l : List Int => l.length ≤ maxLen ∧ ∀ a,a ∈ l → A5 a) (fun l => [.rowE (ints l) 1]) :=
  gO.slice Tryz.underlying24 (by kernel_rfl) (by kernel_rfl) (by decide) qZ
theorem zB2 : gO Tryz.prog 74 (fun p : KD => p.1.size ≤ maxLen ∧ A5 p.2) (fun p => [AV.v (.string p.1),AV.i p.2]) :=
  gO.struct (fs := [(9, 0), (3, 1)]) (by kernel_rfl) (by kernel_rfl)
    (fun e W fuel css hl hx => by
      obtain ⟨a,h1,h2,h3⟩ := gZ.cons RG (gZ.cons qZ gZ.nil) e W fuel css hl hx
      exact ⟨(a.1,a.2.1),⟨h1.1,h1.2.1⟩,by simpa using h2,by simpa using h3⟩)
    (fun _ => by kernel_rfl)
theorem zH5 : gO Tryz.prog 77 (fun p : LT => A5 p.1 ∧ A5 p.2.1) (fun p => [AV.i p.1,AV.i p.2.1,AV.b p.2.2]) :=
  gO.struct (fs := [(3, 0), (3, 1), (4, 2)]) (by kernel_rfl) (by kernel_rfl)
    (fun e W fuel css hl hx => by
      obtain ⟨a,h1,h2,h3⟩ := gZ.cons qZ (gZ.cons qZ (gZ.cons zB3 gZ.nil)) e W fuel css hl hx
      exact ⟨(a.1,a.2.1,a.2.2.1),⟨h1.1,h1.2.1⟩,by simpa using h2,by simpa using h3⟩)
    (fun _ => by kernel_rfl)
theorem zH6 : gO Tryz.prog 54 (fun p : BX => A5 p.1 ∧ A5 p.2.1 ∧ A5 p.2.2) (fun p => [AV.i p.1,AV.i p.2.1,AV.i p.2.2]) :=
  gO.struct (fs := [(3, 0), (3, 1), (3, 2)]) (by kernel_rfl) (by kernel_rfl)
    (fun e W fuel css hl hx => by
      obtain ⟨a,h1,h2,h3⟩ := gZ.cons qZ (gZ.cons qZ (gZ.cons qZ gZ.nil)) e W fuel css hl hx
      exact ⟨(a.1,a.2.1,a.2.2.1),⟨h1.1,h1.2.1,h1.2.2.1⟩,by simpa using h2,by simpa using h3⟩)
    (fun _ => by kernel_rfl)
theorem WW : gO Tryz.prog 22 (fun l : List KD => l.length ≤ maxLen ∧ ∀ a,a ∈ l → a.1.size ≤ maxLen ∧ A5 a.2) (fun l => [.rowE (gJ l) 2]) :=
  gO.slice Tryz.underlying22 (by kernel_rfl) (by kernel_rfl) (by decide) zB2
theorem zB1 : gO Tryz.prog 23 (fun l : List LT => l.length ≤ maxLen ∧ ∀ a,a ∈ l → A5 a.1 ∧ A5 a.2.1) (fun l => [.rowE (jX l) 3]) :=
  gO.slice Tryz.underlying23 (by kernel_rfl) (by kernel_rfl) (by decide) zH5
theorem WX : gO Tryz.prog 25 (fun l : List BX => l.length ≤ maxLen ∧ ∀ a,a ∈ l → A5 a.1 ∧ A5 a.2.1 ∧ A5 a.2.2) (fun l => [.rowE (eB l) 3]) :=
  gO.slice Tryz.underlying25 (by kernel_rfl) (by kernel_rfl) (by decide) zH6
theorem WU : gO Tryz.prog 27 (fun _ : List KD × List LT × List Int × List BX => True) (fun x => [.rowE (gJ x.1) 2,.rowE (jX x.2.1) 3,.rowE (ints x.2.2.1) 1,.rowE (eB x.2.2.2) 3]) :=
  gO.struct (fs := [(22, 0), (23, 1), (24, 2), (25, 3)]) (by kernel_rfl) (by kernel_rfl)
    (fun e W fuel css hl hx => by
      obtain ⟨a,h1,h2,h3⟩ := gZ.cons WW (gZ.cons zB1 (gZ.cons IA (gZ.cons WX gZ.nil))) e W fuel css hl hx
      exact ⟨(a.1,a.2.1,a.2.2.1,a.2.2.2.1),trivial,by simpa using h2,by simpa using h3⟩)
    (fun _ => by kernel_rfl)
theorem RI : gO Tryz.prog 29 (fun p : Int × Int × Int × Int => A5 p.1 ∧ A5 p.2.1 ∧ A5 p.2.2.1 ∧ A5 p.2.2.2) (fun p => [AV.i p.1,AV.i p.2.1,AV.i p.2.2.1,AV.i p.2.2.2]) :=
  gO.struct (fs := [(3, 0), (3, 1), (3, 2), (3, 3)]) (by kernel_rfl) (by kernel_rfl)
    (fun e W fuel css hl hx => by
      obtain ⟨a,h1,h2,h3⟩ := gZ.cons qZ (gZ.cons qZ (gZ.cons qZ (gZ.cons qZ gZ.nil))) e W fuel css hl hx
      exact ⟨(a.1,a.2.1,a.2.2.1,a.2.2.2.1),⟨h1.1,h1.2.1,h1.2.2.1,h1.2.2.2.1⟩,by simpa using h2,by simpa using h3⟩)
    (fun _ => by kernel_rfl)
theorem WV : gO Tryz.prog 42 (fun p : Int × Int × Int × Int × List Int => p.2.2.2.2.length ≤ maxLen) (fun p => [AV.i p.1,AV.i p.2.1,AV.i p.2.2.1,AV.i p.2.2.2.1,.rowE (ints p.2.2.2.2) 1]) :=
  gO.struct (fs := [(3, 0), (3, 1), (3, 2), (3, 3), (24, 4)]) (by kernel_rfl) (by kernel_rfl)
    (fun e W fuel css hl hx => by
      obtain ⟨a,h1,h2,h3⟩ := gZ.cons qZ (gZ.cons qZ (gZ.cons qZ (gZ.cons qZ (gZ.cons IA gZ.nil)))) e W fuel css hl hx
      exact ⟨(a.1,a.2.1,a.2.2.1,a.2.2.2.1,a.2.2.2.2.1),h1.2.2.2.2.1.1,by simpa using h2,by simpa using h3⟩)
    (fun _ => by kernel_rfl)
theorem RH : gO Tryz.prog 30 (fun l : List (Int × Int × Int × Int × List Int) => l.length ≤ maxLen ∧ ∀ p,p ∈ l → p.2.2.2.2.length ≤ maxLen) (fun l => [.rowE (l.map fun p => [AV.i p.1,AV.i p.2.1,AV.i p.2.2.1,AV.i p.2.2.2.1,.rowE (ints p.2.2.2.2) 1]) 5]) :=
  gO.slice Tryz.underlying30 (by kernel_rfl) (by kernel_rfl) (by decide) WV
abbrev zM2 (p : Int × Int × Int × Int × List Int) : Ev := ⟨p.1,p.2.1,p.2.2.1,p.2.2.2.1,p.2.2.2.2⟩
theorem zD5 (l : List (Int × Int × Int × Int × List Int)) : (l.map fun p => [AV.i p.1,AV.i p.2.1,AV.i p.2.2.1,AV.i p.2.2.2.1,.rowE (ints p.2.2.2.2) 1]) = CD (l.map zM2) := by
  unfold CD;rw [VB];rfl
theorem YH {l : List (Int × Int × Int × Int × List Int)} (h : ∀ p,p ∈ l → p.2.2.2.2.length ≤ maxLen) : ∀ s,s ∈ l.map zM2 → s.ids.length ≤ 9223372036854775807 := by
  intro s hs;obtain ⟨p,hp,rfl⟩ := bI.1 hs;exact cJ (h p hp) (by decide)
abbrev zO8 (x : List KD × List LT × List Int × List BX) (c : Int × Int × Int × Int) : Cx := ⟨c.1,c.2.1,c.2.2.1,c.2.2.2,x.1,x.2.1,x.2.2.2⟩
theorem HM (x : List KD × List LT × List Int × List BX) (_ : True) (hx : x.2.2.2.length * 24 ≤ 140737488351232) (c : Int × Int × Int × Int) (_ : A5 c.1 ∧ A5 c.2.1 ∧ A5 c.2.2.1 ∧ A5 c.2.2.2) (l : List (Int × Int × Int × Int × List Int)) (hl : l.length ≤ maxLen ∧ ∀ p, p ∈ l → p.2.2.2.2.length ≤ maxLen)
    (d : List Int) (_ : d.length ≤ maxLen ∧ ∀ a,a ∈ d → A5 a) :
    aR Tryz.prog 5 [uF x.1 x.2.1 x.2.2.1 x.2.2.2,gW c.1 c.2.1 c.2.2.1 c.2.2.2,.rowE (l.map fun p => [AV.i p.1,AV.i p.2.1,AV.i p.2.2.1,AV.i p.2.2.2.1,.rowE (ints p.2.2.2.2) 1]) 5,.rowE (ints d) 1] [] (.b true) [] := by
  rw [zD5];have hids := YH hl.2;generalize l.map zM2 = l at *;rcases YB 8 (by omega) x.1 x.2.1 (Go.Ab.nats (List.range x.2.2.2.length)) x.2.2.2 c.1 c.2.1 c.2.2.1 c.2.2.2 with hf | ⟨hf,f,hs,t,_⟩
  · exact JV _ _ _ _ _ _ _ _ l d false (by omega) hf (fun h => by cases h)
  · by_cases hx2 : 20 < l.length ∨ d.length ≠ l.length
    · exact JV _ _ _ _ _ _ _ _ l d true (by omega) hf (fun _ => hx2)
    · exact PH (zO8 x c) ⟨f,hs⟩ _ l d hf hids (by omega) (by omega)
end Go.Proofs.YtmmkhmilpeodnaaGreat
