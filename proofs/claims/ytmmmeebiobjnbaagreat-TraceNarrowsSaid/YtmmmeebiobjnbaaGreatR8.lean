/-
  Texts of the logic and of the layer,in one module (part 8).
-/
import Derived.Test.YtmmmeebiobjnbaaGreatR7
set_option linter.unusedVariables false
set_option linter.unusedSimpArgs false
set_option linter.unnecessarySimpa false
namespace Go.Ld
open Go.Ab Go.Proofs.YtmmmeebiobjnbaaGreat
theorem KY {bs : List Int} {w : W} {f : As} (h : oF bs w f) {b : Int} (hb : b ∈ bs) : gP w (bs.idxOf b) = (f b).1 ∧ gC w (bs.idxOf b) = (f b).2 := by
  obtain ⟨hx,e⟩ := xD hb;have e1 := AX h hx;have e2 := AZ h hx;rw [e] at e1 e2;exact ⟨e1,e2⟩
theorem FQ {c : Cx} {M0 : Int} {gs : List G} (h : nQ c M0 gs) {f : As} {M : Int} (hs : Sem gs f M) {b : Int} (h0 : 0 ≤ b) (h1 : b < c.bs.length) : MP (f b).2 ∧ 0 ≤ (f b).1 ∧ (f b).1 < c.bs.length := by
  obtain ⟨g,hg,hb⟩ := h.find ⟨h0,h1⟩;obtain ⟨w,hw,hf⟩ := vC hs hg;obtain ⟨e1,e2⟩ := KY hf hb;have hi := gS hb;obtain ⟨a,d,e⟩ := ((h.out.ok g hg).ws w hw).at hi;rw [e1] at a d;rw [e2] at e;exact ⟨e,a,d⟩
theorem PZ {c : Cx} {f : As} {M : Int} : ∀ {l : List Nat}, Sem (l.map (T2 c)) f M ↔ 0 ≤ M ∧ ∀ i, i ∈ l → f (i : Int) = ((i : Int), ((c.bs.getD i (0, 0, 0)).2.1, (c.bs.getD i (0, 0, 0)).2.1 + 1))
  | [] => by simp [Sem]
  | i :: l => by
    have ih := fun M => PZ (c := c) (f := f) (M := M) (l := l);simp only [List.map_cons,Sem,ih];constructor
    · rintro ⟨m,⟨w,hw,hf,hm⟩,h0,h1⟩;obtain rfl := bI.1 hw;obtain ⟨f1,f2⟩ := hf;have f1 : [(i : Int)] = [(f i).1] := f1;have f2 : [((c.bs.getD i (0,0,0)).2.1,(c.bs.getD i (0,0,0)).2.1 + 1)] = [(f i).2] := f2;have hm : (0 : Int) ≤ m := hm;refine ⟨by omega,fun k hk => ?_⟩
      rcases bU.1 hk with rfl | hk
      · exact Prod.ext (List.cons.inj f1).1.symm (List.cons.inj f2).1.symm
      · exact h1 k hk
    · rintro ⟨h0,h1⟩;have hi := h1 i aS;refine ⟨0,⟨_,bI.2 rfl,⟨?_,?_⟩,eH _⟩,by omega,fun k hk => h1 k (aI _ hk)⟩
      · show [(i : Int)] = [(f i).1];rw [hi]
      · show [_] = [(f i).2];rw [hi]
theorem zI9 {c : Cx} {f : As} {M : Int} : Sem (pT c) f M ↔ 0 ≤ M ∧ ∀ b : Int,0 ≤ b → b < c.bs.length → f b = (b,((c.bs.getD b.toNat (0,0,0)).2.1,(c.bs.getD b.toNat (0,0,0)).2.1 + 1)) := by
  rw [wZ,PZ];constructor
  · rintro ⟨h0,h⟩;refine ⟨h0,fun b b0 b1 => ?_⟩
    have := h b.toNat (fF.2 (by omega))
    rwa [show ((b.toNat : Nat) : Int) = b by omega] at this
  · rintro ⟨h0,h⟩;refine ⟨h0,fun i hi => ?_⟩
    have := h i (by omega) (by have := fF.1 hi;omega)
    rwa [bM] at this
theorem ZK {n : Nat} : ∀ {gs : List G}, (gs.flatMap (·.1)).Nodup → (∀ g, g ∈ gs → zZ n g) → (∀ g, g ∈ gs → g.2 ≠ []) → ∃ f, Sem gs f (jO gs)
  | [],_,_,_ => ⟨fun _ => (0,(0,0)),by simp [Sem,jO]⟩
  | g :: gs,nd,ok,ne => by
    obtain ⟨f0,h0⟩ := ZK (gs := gs) (by rw [bJ] at nd;exact (cN.1 nd).2.1) (fun x hx => ok x (aI _ hx)) (fun x hx => ne x (aI _ hx))
    obtain ⟨w,hw,hm⟩ := sI (ne g aS);have og := ok g aS;refine ⟨fun b => if b ∈ g.1 then FA g w b else f0 b,gI g,?_,?_⟩
    · refine (N3 (f := FA g w) (fun b hb => (if_pos hb).symm)).1 ⟨w,hw,K8 og (og.ws w hw),by omega⟩
    · refine (sH (f := f0) (fun x hx b hb => ?_)).1 (h0.mono (by simp [jO];omega))
      rw [bJ] at nd;rw [if_neg (fun q => (cN.1 nd).2.2 b q b (oQ hx hb) rfl)]
theorem zN4 {n : Nat} {gs : List G} (nd : (gs.flatMap (·.1)).Nodup) (ok : ∀ g,g ∈ gs → zZ n g) (ne : ∀ g,g ∈ gs → g.2 ≠ []) {g : G} (hg : g ∈ gs) {w : W} (hw : w ∈ g.2) : ∃ f,oF g.1 w f ∧ Sem gs f (w.2.1 + (jO gs - gI g)) := by
  obtain ⟨A,B,rfl⟩ := UX hg;have hp : (A ++ g :: B).Perm (g :: (A ++ B)) := iJ;have nd' : ((g :: (A ++ B)).flatMap (·.1)).Nodup := (hp.flatMap_right _).nodup_iff.1 nd;have hs : jO (A ++ g :: B) = gI g + jO (A ++ B) := by simp [jO];omega
  rw [bJ] at nd';obtain ⟨f0,h0⟩ := ZK (gs := A ++ B) (cN.1 nd').2.1 (fun x hx => ok x (hp.mem_iff.2 (aI _ hx))) (fun x hx => ne x (hp.mem_iff.2 (aI _ hx)));have og := ok g hg;have hF := K8 og (og.ws w hw);have hc : ∀ b,b ∈ g.1 → FA g w b = (fun b => if b ∈ g.1 then FA g w b else f0 b) b := fun b hb => (if_pos hb).symm
  refine ⟨fun b => if b ∈ g.1 then FA g w b else f0 b,?_,(oM hp).2 ⟨w.2.1,?_,?_⟩⟩
  · unfold oF at hF ⊢;rw [← jI (f := fun b => (FA g w b).1) (fun b hb => by rw [hc b hb]),← jI (f := fun b => (FA g w b).2) (fun b hb => by rw [hc b hb])]
    exact hF
  · exact (N3 hc).1 ⟨w,hw,hF,eH _⟩
  · refine (sH (f := f0) (fun x hx b hb => ?_)).1 (h0.mono (by omega))
    rw [if_neg (fun q => (cN.1 nd').2.2 b q b (oQ hx hb) rfl)]
theorem E2 {α β : Type} (f g : α → List β) : ∀ l : List α, (∀ x, x ∈ l → (f x).Perm (g x)) → (l.flatMap f).Perm (l.flatMap g)
  | [],_ => .refl _
  | x :: l,h => by
    rw [bJ,bJ];exact (h x aS).append (E2 f g l (fun y hy => h y (aI _ hy)))
theorem KF {α β γ : Type} (f : β → γ) (g : α → List β) : ∀ l : List α, (l.flatMap g).map f = l.flatMap fun x => (g x).map f
  | [] => rfl
  | x :: l => by rw [bJ,bJ,bO,KF f g l]
theorem zG5 {c : Cx} {M0 : Int} {gs : List G} (h : nQ c M0 gs) {f : As} {M : Int} (hs : Sem gs f M) : ((nats (List.range c.bs.length)).map fun b => (f b).1).Perm (nats (List.range c.bs.length)) := by
  refine ((h.cov.symm.map _).trans ?_).trans h.idn;rw [KF];refine E2 _ _ _ fun g hg => ?_
  obtain ⟨w,hw,hf⟩ := vC hs hg;rw [← hf.1];exact (h.out.ok g hg).same w (iH g) hw (jD (h.ne g hg))
theorem GD {n : Nat} {α : Type} (F : Int → α) (d : α) {b : Int} (h0 : 0 ≤ b) (h1 : b < n) : ((nats (List.range n)).map F).getD b.toNat d = F b := by
  rw [aD,aA (by simp;omega)]
  simp only [oX,List.getElem_range,mQ];rw [show ((b.toNat : Nat) : Int) = b by omega]
theorem JK {c : Cx} {M0 : Int} {gs : List G} (h : nQ c M0 gs) {f : As} {M : Int} (hs : Sem gs f M) : ∃ p q,PQ c p q ∧ wD c p q f := by
  have hi := zG5 h hs;have hnl : (nats (List.range c.bs.length)).length = c.bs.length := by simp
  generalize hp : ((nats (List.range c.bs.length)).map fun b => (f b).1) = p at *;have hpl : p.length = c.bs.length := by rw [hi.length_eq,hnl]
  have nd : p.Nodup := hi.nodup_iff.2 (B1 _);have hpg : ∀ b : Int,0 ≤ b → b < c.bs.length → p.getD b.toNat 0 = (f b).1 := fun b h0 h1 => by rw [← hp];exact GD _ _ h0 h1
  refine ⟨p,(nats (List.range c.bs.length)).map fun x => if x ∈ p then (f (p.idxOf x)).2.1 else 0,⟨hpl,by simp,hi,fun y hy => ?_⟩,fun b h0 h1 => ⟨(hpg b h0 h1).symm,?_⟩⟩
  · obtain ⟨x,hx,rfl⟩ := bB.1 hy;have hxm := hi.mem_iff.2 hx;rw [if_pos hxm];have hlt := gS hxm;have := (FQ h hs (b := (p.idxOf x : Nat)) (by omega) (by omega)).1
    unfold MP at this;omega
  · have hr := FQ h hs h0 h1;rw [hpg b h0 h1,GD _ _ hr.2.1 hr.2.2];have hb : b.toNat < p.length := by omega
    have e : (f b).1 = p[b.toNat] := by rw [← hpg b h0 h1,aD,aA hb];rfl
    rw [if_pos (by rw [e];exact aM _),e,nd.idxOf_getElem,show ((b.toNat : Nat) : Int) = b by omega,nI]
    have := hr.1;unfold MP at this;omega
def rE (c : Cx) (gs : List G) : Prop := ∀ g,g ∈ gs → ∀ w,w ∈ g.2 → w.2.1 + (jO gs - gI g) ≤ c.m
theorem KJ {g g' : G} (h : g.2 ≠ []) (h1 : ∀ w,w ∈ g'.2 → ∃ v,v ∈ g.2 ∧ v.2.1 ≤ w.2.1) (h2 : ∀ w,w ∈ g.2 → ∃ v,v ∈ g'.2 ∧ v.2.1 ≤ w.2.1) : gI g' = gI g := by
  obtain ⟨w,hw,e⟩ := sI h;obtain ⟨v,hv,hvw⟩ := h2 w hw;have hne : g'.2 ≠ [] := fun q => by rw [q] at hv;cases hv
  obtain ⟨w',hw',e'⟩ := sI hne;obtain ⟨v',hv',hvw'⟩ := h1 w' hw';have a := sX hv;have b := sX hv';omega
theorem NJ {c : Cx} {N : List G} (hne : ∀ g,g ∈ paid c N → g.2 ≠ []) : jO (paid c N) = jO N ∧ ∀ g,g ∈ N → gI (g.1,g.2.filter fun w => decide (w.2.1 + (jO N - gI g) ≤ c.m)) = gI g := by
  have key : ∀ g,g ∈ N → gI (g.1,g.2.filter fun w => decide (w.2.1 + (jO N - gI g) ≤ c.m)) = gI g := fun g hg => by
    have hn := hne _ (bB.2 ⟨g,hg,rfl⟩);obtain ⟨w,hw⟩ := P8 _ hn;obtain ⟨hwg,hwm⟩ := eF.1 hw;simp only [decide_eq_true_eq] at hwm;have hgn : g.2 ≠ [] := fun q => by rw [q] at hwg;cases hwg
    have := sX hwg;refine KJ hgn (fun v hv => ⟨v,(eF.1 hv).1,eH _⟩) fun v hv => ?_
    obtain ⟨u,hu,eu⟩ := sI hgn;exact ⟨u,eF.2 ⟨hu,by simp only [decide_eq_true_eq];omega⟩,by have := sX hv;omega⟩
  refine ⟨?_,key⟩;unfold jO;congr 1;unfold paid;rw [CP];exact jI fun g hg => key g hg
theorem SW {c : Cx} {N : List G} (hne : ∀ g,g ∈ paid c N → g.2 ≠ []) : rE c (paid c N) := by
  obtain ⟨e,k⟩ := NJ hne;intro g hg w hw;rw [e];obtain ⟨x,hx,rfl⟩ := bB.1 hg;rw [k x hx];have := (eF.1 hw).2;simp only [decide_eq_true_eq] at this;exact this
theorem EF (g : G) (k : Nat) : gI (nA g k) = 0 := rfl
theorem NR {g : G} {k : Nat} (h : g.2 ≠ []) : gI (jM g k) = gI g := by
  refine KJ h (fun w hw => ?_) fun w hw => ?_
  · obtain ⟨v,hv,rfl⟩ := bB.1 (pP hw);exact ⟨v,hv,eH _⟩
  · obtain ⟨v,hv,_,_,h3⟩ := wX (bB.2 ⟨w,hw,rfl⟩ : (w.1.eraseIdx k,w.2.1,w.2.2.eraseIdx k) ∈ g.2.map fun w => (w.1.eraseIdx k,w.2.1,w.2.2.eraseIdx k));exact ⟨v,hv,h3⟩
theorem rV (l : List G) (g : G) : jO (g :: l) = gI g + jO l := by simp [jO]
theorem AE : ∀ (m : Nat) {g : G}, g.2 ≠ [] → jO (lQ m g) = gI g ∧ ∀ x, x ∈ lQ m g → ∀ w, w ∈ x.2 → ∃ v, v ∈ g.2 ∧ w.2.1 - gI x ≤ v.2.1 - gI g
  | 0,g,h => ⟨by simp [lQ,jO],fun x hx w hw => by obtain rfl := bI.1 hx;exact ⟨w,hw,eH _⟩⟩
  | m + 1,g,h => by
    unfold lQ;split
    · exact ⟨by simp [jO],fun x hx w hw => by obtain rfl := bI.1 hx;exact ⟨w,hw,eH _⟩⟩
    · rename_i k hk;obtain ⟨i1,i2⟩ := AE m (PO (k := k) h);have hl := NR (k := k) h;refine ⟨by rw [rV,i1,EF,hl];omega,fun x hx w hw => ?_⟩
      rcases bU.1 hx with rfl | hx
      · obtain rfl := bI.1 hw;obtain ⟨u,hu,e⟩ := sI h;exact ⟨u,hu,by rw [EF];show (0 : Int) - 0 ≤ _;omega⟩
      · obtain ⟨v,hv,h3⟩ := i2 x hx w hw;obtain ⟨v',hv',rfl⟩ := bB.1 (pP hv);refine ⟨v',hv',?_⟩;rw [hl] at h3;exact h3
theorem SA {a b : List G} (h : a.Perm b) : jO a = jO b := by
  induction h with
  | nil => rfl
  | cons x _ ih => rw [rV,rV,ih]
  | swap x y l => rw [rV,rV,rV,rV];omega
  | trans _ _ h1 h2 => rw [h1,h2]
theorem IP {F : G → List G} : ∀ {l : List G}, (∀ g, g ∈ l → jO (F g) = gI g) → jO (l.flatMap F) = jO l
  | [],_ => rfl
  | g :: l,h => by
    have a := IP (l := l) fun x hx => h x (aI _ hx);have b := h g aS;rw [bJ,rV,← b,← a];simp [jO]
theorem NI {c : Cx} {P : List G} (hp : rE c P) (hne : ∀ g,g ∈ P → g.2 ≠ []) : rE c (qQ P) := by
  have hs : jO (qQ P) = jO P := by
    unfold qQ;rw [SA (dI cG _)];exact IP fun g hg => (AE _ (hne g hg)).1
  intro x hx w hw;rw [hs];unfold qQ at hx;obtain ⟨g,hg,hxg⟩ := gD.1 ((dI cG _).mem_iff.1 hx);obtain ⟨v,hv,h3⟩ := (AE _ (hne g hg)).2 x hxg w hw;have := hp g hg v hv;omega
theorem RW {c : Cx} {N : List G} (h : (uM c N).any (fun g => g.2.isEmpty) = false) : rE c (uM c N) := by
  have hne : ∀ g,g ∈ paid c N → g.2 ≠ [] := fun g hg q => by
    have : g ∈ uM c N := by
      unfold uM qQ;refine (dI cG _).mem_iff.2 (gD.2 ⟨g,hg,?_⟩);rw [JP q];exact bI.2 rfl
    rw [List.any_eq_false] at h;have := h g this;rw [List.isEmpty_iff.2 q] at this;exact this rfl
  unfold uM;exact NI (SW hne) hne
theorem DH {c : Cx} {l all : List G} {s : Ev} (hl : rE c l) : rE c (rH c l all s).2 := by
  unfold rH;dsimp only;split
  · exact hl
  · split
    · exact hl
    · split
      · exact hl
      · rename_i h;exact RW (Bool.eq_false_iff.2 h)
theorem WJ {c : Cx} {l : List G} {s : Ev} (hl : rE c l) : rE c (eZ c l s).2 := by
  unfold eZ;split
  · split
    · split
      · exact hl
      · exact DH hl
    · exact DH hl
  · exact hl
theorem XU {c : Cx} (hm : 0 ≤ c.m) : rE c (pT c) := by
  have h0 : ∀ l : List Nat,jO (l.map (T2 c)) = 0 := fun l => by
    induction l with
    | nil => rfl
    | cons i l ih => rw [List.map_cons,rV,ih];rfl
  intro g hg w hw;rw [wZ,h0];rw [wZ] at hg;obtain ⟨i,_,rfl⟩ := bB.1 hg;obtain rfl := bI.1 hw;show (0 : Int) + (0 - 0) ≤ c.m;omega
theorem SV {c : Cx} {gs : List G} (h : oZ c gs) (hp : rE c gs) {g : G} (hg : g ∈ gs) {w : W} (hw : w ∈ g.2) : ∃ f,oF g.1 w f ∧ Sem gs f c.m := by
  obtain ⟨f,h1,h2⟩ := zN4 h.mid.out.nd h.mid.out.ok h.mid.ne hg hw;exact ⟨f,h1,h2.mono (hp g hg w hw)⟩
theorem M7 {c : Cx} {gs : List G} (h : oZ c gs) (hp : rE c gs) (hn : 0 < c.bs.length) : ∃ f,Sem gs f c.m := by
  obtain ⟨g,hg,_⟩ := h.mid.find (b := 0) ⟨by omega,by omega⟩
  obtain ⟨w,hw⟩ := P8 _ (h.mid.ne g hg);obtain ⟨f,_,h2⟩ := SV h hp hg hw;exact ⟨f,h2⟩
def gN : List G → Nat
  | [] => 1
  | g :: l => g.2.length * gN l
theorem A9 : ∀ a b : List G, gN (a ++ b) = gN a * gN b
  | [],b => by simp [gN]
  | g :: a,b => by simp only [List.cons_append,gN,A9 a b,tJ]
theorem pF {a b : List G} (h : a.Perm b) : gN a = gN b := by
  induction h with
  | nil => rfl
  | cons x _ ih => simp only [gN,ih]
  | swap x y l => simp only [gN];rw [Nat.mul_left_comm]
  | trans _ _ h1 h2 => rw [h1,h2]
theorem M8 : ∀ {l : List G}, (∀ g, g ∈ l → g.2 ≠ []) → 0 < gN l
  | [],_ => MF
  | g :: l,h => Nat.mul_pos (fJ.2 (h g aS)) (M8 fun x hx => h x (aI _ hx))
theorem Z6 {F : G → List G} : ∀ {l : List G}, (∀ g, g ∈ l → gN (F g) ≤ g.2.length) → gN (l.flatMap F) ≤ gN l
  | [],_ => aX _
  | g :: l,h => by
    rw [bJ,A9];exact MG (h g aS) (Z6 fun x hx => h x (aI _ hx))
theorem DN {F : G → G} : ∀ {l : List G}, (∀ g, g ∈ l → (F g).2.length ≤ g.2.length) → gN (l.map F) ≤ gN l
  | [],_ => aX _
  | g :: l,h => MG (h g aS) (DN fun x hx => h x (aI _ hx))
theorem WS (g : G) (k : Nat) : (jM g k).2.length ≤ g.2.length := by
  show (gJ _).length ≤ _;refine bK (rJ _) ?_;rw [aY];exact aX _
theorem DO : ∀ (m : Nat) {g : G}, gN (lQ m g) ≤ g.2.length
  | 0,g => by simp [lQ,gN]
  | m + 1,g => by
    unfold lQ;split
    · simp [gN]
    · rename_i k _;show 1 * gN (lQ m (jM g k)) ≤ _;rw [R9];exact bK (DO m) (WS g k)
theorem RV (c : Cx) (N : List G) : gN (uM c N) ≤ gN N := by
  unfold uM qQ;rw [pF (dI cG _)];refine bK (Z6 fun g _ => DO _) (DN fun g _ => ?_);exact fG _ _
def VT (s : Ev) : Nat := if s.k = 4 then 2 else 1
theorem QN {α β : Type} (F : α → List β) (n : Nat) : ∀ l : List α, (∀ x, x ∈ l → (F x).length ≤ n) → (l.flatMap F).length ≤ l.length * n
  | [],_ => by simp
  | x :: l,h => by
    have a := QN F n l fun y hy => h y (aI _ hy);have b := h x aS;rw [bJ,aF,List.length_cons,eE];omega
theorem JZ (c : Cx) (s : Ev) (g : G) : (gJ (mF c s g)).length ≤ g.2.length * VT s := by
  refine bK (rJ _) ?_;unfold mF;refine QN _ _ _ fun w _ => ?_
  unfold VT;rw [aF];split <;> split <;> simp
theorem WD {all : List G} {i : Nat} {g y : G} {k : Nat} (h : all[i]? = some g) (hy : y.2.length ≤ g.2.length * k) : gN (all.set i y) ≤ gN all * k := by
  obtain ⟨A,B,e1,e2⟩ := pN (y := y) h;rw [e2,e1,A9,A9];simp only [gN];have := fN (gN B) hy;have := Nat.mul_le_mul_left (gN A) this;rw [show gN A * (g.2.length * gN B) * k = gN A * (g.2.length * k * gN B) by rw [tJ,tJ,yK0 (gN B) k,tJ]]
  exact this
theorem DG {c : Cx} {M0 : Int} {l all : List G} {s : Ev} (h : yC c M0 all s) (hl : gN l ≤ gN all * VT s) : gN (rH c l all s).2 ≤ gN all * VT s := by
  obtain ⟨i,g,hi,hg,hgm,hat,ha,hb⟩ := h.at;unfold rH;dsimp only;rw [hat,hi,bM];split
  · exact hl
  · split
    · exact hl
    · split
      · exact hl
      · exact bK (RV c _) (WD hg (JZ c s g))
theorem EH {gs all : List G} {a b : Int} {c : Cx} {M : Int} (h : nQ c M gs) (ha : 0 ≤ a ∧ a < c.bs.length) (hb : 0 ≤ b ∧ b < c.bs.length) (e : join gs a b = some all) : gN all = gN gs := by
  obtain ⟨i,x,hi,hix,hax⟩ := iN (h.find ha);obtain ⟨k,y,hk,hky,hby⟩ := iN (h.find hb);unfold join at e;dsimp only at e;rw [hi,hk] at e;split at e
  · cases e;rfl
  · rename_i hik;have gi : mA gs ((i : Int)).toNat = x := by unfold mA;rw [aD];show (gs[i]?).getD _ = x;rw [hix];rfl
    have gk : mA gs ((k : Int)).toNat = y := by unfold mA;rw [aD];show (gs[k]?).getD _ = y;rw [hky];rfl
    rw [gi,gk] at e;split at e
    · cases e
    · cases e;have hj := EI x y;generalize mI x y = J at *;rcases iS (show i ≠ k by omega) with hlt | hlt
      · obtain ⟨P,Q,R,e1,e2⟩ := mD J hlt hix hky;rw [show (min (i : Int) (k : Int)).toNat = i by omega,show (max (i : Int) (k : Int)).toNat = k by omega,e2,e1,pF zD,pF iJ]
        simp only [gN,hj,tJ]
      · obtain ⟨P,Q,R,e1,e2⟩ := mD J hlt hky hix;rw [show (min (i : Int) (k : Int)).toNat = k by omega,show (max (i : Int) (k : Int)).toNat = i by omega,e2,e1,pF zD,pF iJ]
        simp only [gN,hj,tJ,Nat.mul_left_comm]
theorem WI {c : Cx} {gs : List G} {s : Ev} (h : oZ c gs) (hm0 : 0 ≤ c.m) (hm1 : c.m ≤ 1048576) : gN (eZ c gs s).2 ≤ gN gs * VT s := by
  have hn := h.mid.n12;have hself : gN gs ≤ gN gs * VT s := by unfold VT;split <;> omega
  unfold eZ;by_cases hr : iB c.bs.length s = true
  · rw [if_pos hr];obtain ⟨r1,r2,_⟩ := nH hr (by omega)
    by_cases hk : s.k = 4
    · rw [if_pos hk];cases hj : join gs s.a s.b with
      | none => exact hself
      | some all =>
        dsimp only;have hb := r2 hk;have he := EH h.mid r1 ⟨by omega,by omega⟩ hj
        have := DG (l := gs) (sT h (by omega) hm0 hm1 hr hk hj) (by rw [he];exact hself)
        rwa [he] at this
    · rw [if_neg hk];exact DG (vD h (by omega) hm0 hr hk) hself
  · rw [if_neg hr];exact hself
theorem zS8 {l : List G} (ne : ∀ g,g ∈ l → g.2 ≠ []) {i k : Nat} {x y : G} (hik : i ≠ k) (hi : l[i]? = some x) (hk : l[k]? = some y) : x.2.length * y.2.length ≤ gN l ∧ x.1.length + y.1.length ≤ (l.flatMap (·.1)).length := by
  have key : ∀ {i k : Nat} {x y : G},i < k → l[i]? = some x → l[k]? = some y → x.2.length * y.2.length ≤ gN l ∧ x.1.length + y.1.length ≤ (l.flatMap (·.1)).length := fun {i k x y} hlt hi hk => by
    obtain ⟨P,Q,R,e1,-⟩ := mD x hlt hi hk;have hp : l.Perm (x :: y :: (P ++ (Q ++ R))) := by rw [e1];exact zD
    have h0 := M8 (l := P ++ (Q ++ R)) fun g hg => ne g (hp.mem_iff.2 (aI _ (aI _ hg)));rw [pF hp,(hp.flatMap_right _).length_eq];constructor
    · simp only [gN];rw [← tJ];exact BZ _ h0
    · simp only [bJ,aF];omega
  rcases iS hik with hlt | hlt
  · exact key hlt hi hk
  · have := key hlt hk hi;rw [yK0];omega
theorem zU4 {l : List G} (ne : ∀ g,g ∈ l → g.2 ≠ []) {g : G} (hg : g ∈ l) : g.2.length ≤ gN l := by
  obtain ⟨A,B,rfl⟩ := UX hg;have h0 := M8 (l := A ++ B) fun x hx => ne x ((iJ (a := g)).mem_iff.2 (aI _ hx));rw [pF iJ];exact BZ _ h0
theorem DF {c : Cx} {M0 : Int} {l all : List G} {s : Ev} (h : yC c M0 all s) (ne : ∀ g,g ∈ all → g.2 ≠ []) (hr : 2 * gN all ≤ 1000) : (rH c l all s).1 ≠ 6 := by
  obtain ⟨i,g,hi,hg,hgm,hat,ha,hb⟩ := h.at;unfold rH;dsimp only;rw [hat,hi,bM];have h1 := JZ c s g;have h2 := zU4 ne hgm;have h3 : g.2.length * VT s ≤ 2 * g.2.length := by unfold VT;split <;> omega
  split
  · simp
  · split
    · omega
    · split <;> simp
theorem WH {c : Cx} {gs : List G} {s : Ev} (h : oZ c gs) (hm0 : 0 ≤ c.m) (hm1 : c.m ≤ 1048576) (hn6 : c.bs.length ≤ 6) (hr : 2 * gN gs ≤ 1000) : (eZ c gs s).1 ≠ 6 := by
  have hn := h.mid.n12;unfold eZ;by_cases hri : iB c.bs.length s = true
  · rw [if_pos hri];obtain ⟨r1,r2,_⟩ := nH hri (by omega)
    by_cases hk : s.k = 4
    · rw [if_pos hk];have hb := r2 hk;cases hj : join gs s.a s.b with
      | none =>
        exfalso;obtain ⟨i,x,hi,hix,hax⟩ := iN (h.mid.find r1);obtain ⟨k,y,hk,hky,hby⟩ := iN (h.mid.find (b := s.b) ⟨by omega,by omega⟩)
        unfold join at hj;dsimp only at hj;rw [hi,hk] at hj;split at hj
        · cases hj
        · rename_i hik;have gi : mA gs ((i : Int)).toNat = x := by unfold mA;rw [aD];show (gs[i]?).getD _ = x;rw [hix];rfl
          have gk : mA gs ((k : Int)).toNat = y := by unfold mA;rw [aD];show (gs[k]?).getD _ = y;rw [hky];rfl
          rw [gi,gk] at hj;obtain ⟨t1,t2⟩ := zS8 h.mid.ne (show i ≠ k by omega) hix hky
          have hc := h.mid.cov.length_eq;simp only [aY,List.length_range] at hc;split at hj
          · rename_i hbad;rcases hbad with hbad | hbad <;> omega
          · cases hj
      | some all =>
        dsimp only;have he := EH h.mid r1 ⟨by omega,by omega⟩ hj
        have so := sT h (by omega) hm0 hm1 hri hk hj
        exact DF so so.mid.ne (by omega)
    · rw [if_neg hk];have so := vD h (by omega) hm0 hri hk
      exact DF so so.mid.ne hr
  · rw [if_neg hri];simp
theorem XT (c : Cx) : gN (pT c) = 1 := by
  rw [wZ];generalize List.range c.bs.length = l
  induction l with
  | nil => rfl
  | cons i l ih => rw [List.map_cons];simp only [gN,ih];rfl
theorem JE (c : Cx) (gs : List G) (s : Ev) : (eZ c gs s).1 = 0 ∨ (eZ c gs s).1 = 1 ∧ iB c.bs.length s = false ∨ (eZ c gs s).1 = 6 ∨ (eZ c gs s).1 = 26 := by
  have h2 : ∀ all,(rH c gs all s).1 = 0 ∨ (rH c gs all s).1 = 6 ∨ (rH c gs all s).1 = 26 := fun all => by
    unfold rH;dsimp only;split
    · simp
    · split
      · simp
      · split <;> simp
  unfold eZ;split
  · split
    · split
      · simp
      · rename_i all _;have := h2 all;omega
    · have := h2 gs;omega
  · rename_i h;exact .inr (.inl ⟨rfl,Bool.eq_false_iff.2 h⟩)
theorem WG {c : Cx} {gs : List G} {s : Ev} (h : (eZ c gs s).1 ≠ 0) : (eZ c gs s).2 = gs := by
  have h2 : ∀ all,(rH c gs all s).1 ≠ 0 → (rH c gs all s).2 = gs := fun all h => by
    unfold rH at h ⊢;dsimp only at h ⊢;split
    · rfl
    · rename_i h1;rw [if_neg h1] at h;split
      · rfl
      · rename_i h2;rw [if_neg h2] at h;split
        · rfl
        · rename_i h3;rw [if_neg h3] at h;exact absurd rfl h
  unfold eZ at h ⊢;split
  · rename_i h1;rw [if_pos h1] at h;split
    · rename_i h3;rw [if_pos h3] at h;cases hj : join gs s.a s.b with
      | none => rfl
      | some all => rw [hj] at h;exact h2 all h
    · rename_i h3;rw [if_neg h3] at h;exact h2 gs h
  · rfl
abbrev TR := List Int × List BX × Int
def oH (bs : List BX) : List Int := bs.map (·.2.1)
theorem ZP (bs : List BX) : (oH bs).length = bs.length := aY _
theorem GY (bs : List BX) (i : Nat) : (oH bs).getD i 0 = (bs.getD i (0,0,0)).2.1 := by
  unfold oH;rw [aD,aD,bL];cases bs[i]? <;> rfl
structure tI (c : Cx) (ps : List Int) (bs : List BX) : Prop where
  t : uI c.ks c.ls ps bs
  len : ps.length = c.bs.length
  same : ∀ i,(bs.getD i (0,0,0)).1 = (c.bs.getD i (0,0,0)).1 ∧ (bs.getD i (0,0,0)).2.2 = (c.bs.getD i (0,0,0)).2.2
theorem tI.pq {c : Cx} {ps : List Int} {bs : List BX} (h : tI c ps bs) : PQ c ps (oH bs) where
  pl := h.len
  ql := by rw [ZP,← h.t.len,h.len]
  pp := by
    refine (AC (nats (List.range c.bs.length)) ps (B1 _) (fun x hx => ?_) (by simp [h.len])).symm
    obtain ⟨h0,h1⟩ := vJ.1 hx;have := h.t.p x.toNat (by rw [h.len];omega)
    rwa [show ((x.toNat : Nat) : Int) = x by omega] at this
  q0 := fun x hx => by
    obtain ⟨b,hb,rfl⟩ := bB.1 hx;obtain ⟨i,hi,rfl⟩ := List.getElem_of_mem hb;have := h.t.b i hi;omega
theorem tI.fit {c : Cx} {ps : List Int} {bs : List BX} (hc : iU c) (h : tI c ps bs) : zZ6 c.ks c.ls ps bs where
  n1 := by have := hc.f.n1;simp at this;rw [h.len];omega
  n8 := by have := hc.f.n8;simp at this;rw [h.len];omega
  len := h.t.len
  k10 := hc.f.k10
  l10 := hc.f.l10
  k := hc.f.k
  l := hc.f.l
  p := fun i hi => by
    have := h.pq.pp.mem_iff.1 (aM hi);rw [h.len];exact vJ.1 this
  b := h.t.b
def G3 (ps : List Int) (bs : List BX) (s : Ev) (done : Int) : List BX :=
  if s.k = 2 then bs.set (ps.getD s.a.toNat 0).toNat ((bs.getD (ps.getD s.a.toNat 0).toNat (0,0,0)).1,(bs.getD (ps.getD s.a.toNat 0).toNat (0,0,0)).2.1 - done,(bs.getD (ps.getD s.a.toNat 0).toNat (0,0,0)).2.2) else bs
theorem vZ (ps : List Int) (bs : List BX) (s : Ev) (done : Int) : oH (G3 ps bs s done) = tS ps (oH bs) s done := by
  unfold G3 tS;split
  · rw [GY];unfold oH;rw [wG]
  · rfl
theorem LZ (ps : List Int) (bs : List BX) (s : Ev) (done : Int) : (G3 ps bs s done).length = bs.length := by
  unfold G3;split <;> simp
theorem tI.aft {c : Cx} {ps : List Int} {bs : List BX} {s : Ev} {done : Int} (h : tI c ps bs) (ha : 0 ≤ s.a ∧ s.a < c.bs.length) (hb : s.k = 4 → s.a < s.b ∧ s.b < c.bs.length) (hc : zP c ps (oH bs) s done = true) : tI c (uU ps s done) (G3 ps bs s done) where
  len := by rw [K9];exact h.len
  same := fun i => by
    unfold G3;split
    · by_cases e : i = (ps.getD s.a.toNat 0).toNat
      · by_cases hl : (ps.getD s.a.toNat 0).toNat < bs.length
        · rw [fO hl,if_pos e,e];exact h.same _
        · rw [List.set_eq_of_length_le (by omega)];exact h.same i
      · by_cases hl : (ps.getD s.a.toNat 0).toNat < bs.length
        · rw [fO hl,if_neg e];exact h.same _
        · rw [List.set_eq_of_length_le (by omega)];exact h.same i
    · exact h.same i
  t := by
    have hp := (h.pq.aft ha hb hc).pp;refine ⟨by rw [K9,LZ];exact h.t.len,fun i hi => ?_,h.t.k,h.t.l,fun i hi => ?_⟩
    · rw [K9,h.len] at hi;exact hp.mem_iff.2 (vJ.2 ⟨by omega,by omega⟩)
    · rw [LZ] at hi;have h0 := h.t.b i hi;by_cases hk : s.k = 2
      · have hr := zO hk hc;rw [GY] at hr;have e : G3 ps bs s done = bs.set (ps.getD s.a.toNat 0).toNat ((bs.getD (ps.getD s.a.toNat 0).toNat (0,0,0)).1,(bs.getD (ps.getD s.a.toNat 0).toNat (0,0,0)).2.1 - done,(bs.getD (ps.getD s.a.toNat 0).toNat (0,0,0)).2.2) := if_pos hk;simp only [e];rw [List.getElem_set];split
        · rename_i hx;rw [hx] at hr ⊢;have eb : bs.getD i (0,0,0) = bs[i] := by rw [aD,aA hi];rfl
          rw [eb] at hr ⊢;dsimp only;refine ⟨h0.1,h0.2.1,by omega,by omega,fun q => ?_,h0.2.2.2.2.2⟩
          have := h0.2.2.2.2.1 q;omega
        · exact h0
      · have e : G3 ps bs s done = bs := if_neg hk;simp only [e];exact h0
def H2 : List TR → TR → List TR
  | [],x => [x]
  | t :: l,x => if t.1 = x.1 ∧ t.2.1 = x.2.1 then (if x.2.2 < t.2.2 then x :: l else t :: l) else t :: H2 l x
theorem CU : ∀ {l : List TR} {x t : TR}, t ∈ H2 l x → t ∈ l ∨ t = x
  | [],x,t,h => .inr (bI.1 h)
  | y :: l,x,t,h => by
    unfold H2 at h;split at h
    · split at h
      · rcases bU.1 h with rfl | h
        · exact .inr rfl
        · exact .inl (aI _ h)
      · exact .inl h
    · rcases bU.1 h with rfl | h
      · exact .inl aS
      · rcases CU h with h | h
        · exact .inl (aI _ h)
        · exact .inr h
def RM (l : List TR) (p : List Int) (bs : List BX) (M : Int) : Prop := ∃ t,t ∈ l ∧ t.1 = p ∧ t.2.1 = bs ∧ t.2.2 ≤ M
theorem CV : ∀ {l : List TR} {x : TR} {p : List Int} {bs : List BX} {M : Int}, RM (H2 l x) p bs M ↔ RM l p bs M ∨ (x.1 = p ∧ x.2.1 = bs ∧ x.2.2 ≤ M)
  | [],x,p,bs,M => by simp [H2,RM]
  | y :: l,x,p,bs,M => by
    have hc : ∀ (z : TR) (l : List TR),RM (z :: l) p bs M ↔ (z.1 = p ∧ z.2.1 = bs ∧ z.2.2 ≤ M) ∨ RM l p bs M := fun z l => by unfold RM;simp
    unfold H2;split
    · rename_i he;split
      · rename_i hlt;rw [hc,hc];constructor
        · rintro (h | h)
          · exact .inr h
          · exact .inl (.inr h)
        · rintro ((⟨a,b,d⟩ | h) | h)
          · exact .inl ⟨he.1.symm.trans a,he.2.symm.trans b,by omega⟩
          · exact .inr h
          · exact .inl h
      · rename_i hlt;rw [hc];constructor
        · exact .inl
        · rintro (h | ⟨a,b,d⟩)
          · exact h
          · exact .inl ⟨he.1.trans a,he.2.trans b,by omega⟩
    · rw [hc,hc,CV];constructor
      · rintro (h | h | h)
        · exact .inl (.inl h)
        · exact .inl (.inr h)
        · exact .inr h
      · rintro ((h | h) | h)
        · exact .inl h
        · exact .inr (.inl h)
        · exact .inr (.inr h)
theorem EM : ∀ {L l : List TR} {t : TR}, t ∈ L.foldl H2 l → t ∈ l ∨ t ∈ L
  | [],l,t,h => .inl h
  | x :: L,l,t,h => by
    rcases EM (L := L) h with h | h
    · rcases CU h with h | h
      · exact .inl h
      · exact .inr (by rw [h];exact aS)
    · exact .inr (aI _ h)
theorem EN : ∀ {L l : List TR} {p : List Int} {bs : List BX} {M : Int}, RM (L.foldl H2 l) p bs M ↔ RM l p bs M ∨ RM L p bs M
  | [],l,p,bs,M => by simp [RM]
  | x :: L,l,p,bs,M => by
    rw [D3,EN,CV];have hc : RM (x :: L) p bs M ↔ (x.1 = p ∧ x.2.1 = bs ∧ x.2.2 ≤ M) ∨ RM L p bs M := by unfold RM;simp
    rw [hc,or_assoc]
def zP8 (c : Cx) (s : Ev) (t : TR) (done : Int) : TR := (uU t.1 s done,G3 t.1 t.2.1 s done,t.2.2 + rK c t.1 s)
def EK (c : Cx) (s : Ev) (t : TR) : Bool := zC3 c t.1 (oH t.2.1) s && decide (t.2.2 + rK c t.1 s ≤ c.m)
def ZA (c : Cx) (s : Ev) (t : TR) (k : Nat) : List TR := if EK c s t then ((List.range k).filter fun d => zP c t.1 (oH t.2.1) s (d : Nat)).map fun d => zP8 c s t (d : Nat) else []
def P3 (c : Cx) (s : Ev) (all : List TR) : List TR := (all.flatMap fun t => ZA c s t 4).foldl H2 []
structure OZ (c : Cx) (gs : List G) (all : List TR) : Prop where
  ok : ∀ t,t ∈ all → tI c t.1 t.2.1 ∧ 0 ≤ t.2.2 ∧ t.2.2 ≤ c.m ∧ ∀ x,x ∈ oH t.2.1 → x ≤ 3
  iff : ∀ p q,PQ c p q → ∀ M,M ≤ c.m → ((∃ f,wD c p q f ∧ Sem gs f M) ↔ ∃ t,t ∈ all ∧ t.1 = p ∧ oH t.2.1 = q ∧ t.2.2 ≤ M)
theorem RG (st id k : Int) (ids : List Int) : 0 ≤ zR9 st id k ids ∧ zR9 st id k ids ≤ 1 := by
  unfold zR9;repeat' split
  all_goals omega
theorem NZ {c : Cx} {gs : List G} (h : oZ c gs) {f : As} {M : Int} (hs : Sem gs f M) : ∀ b : Int,0 ≤ b → b < c.bs.length → MP (f b).2 := fun b h0 h1 => (FQ h.mid hs h0 h1).1
theorem H9 {c : Cx} {gs : List G} (h : oZ c gs) {s : Ev} (hr : iB c.bs.length s = true) : (0 ≤ s.a ∧ s.a < c.bs.length) ∧ (s.k = 4 → s.a < s.b ∧ s.b < c.bs.length) ∧ (s.k = 1 ∨ s.k = 2 ∨ s.k = 3 → 0 ≤ s.n ∧ s.n ≤ 1099511627776) := by
  have hn := h.mid.n12;obtain ⟨r1,r2,r3⟩ := nH hr (by omega)
  refine ⟨r1,fun k => ?_,fun k => ?_⟩
  · have := r2 k;omega
  · unfold iB at hr;rw [aK] at hr;have hr := hr.2;rw [if_neg (by omega),if_pos k,decide_eq_true_eq] at hr
    exact hr
theorem M3 {c : Cx} {gs : List G} {p q : List Int} {f : As} {s : Ev} {M done : Int} (hc : iU c) (h : oZ c gs) (hr : iB c.bs.length s = true) (hp : PQ c p q) (hf : wD c p q f) (hs : Sem gs f M)
    (hag : zC3 c p q s = true) (hcan : zP c p q s done = true) (hM : M + rK c p s ≤ c.m) :
    (eZ c gs s).1 ≠ 26 ∧ ((eZ c gs s).1 = 0 → ∃ f',wD c (uU p s done) (tS p q s done) f' ∧ Sem (eZ c gs s).2 f' (M + rK c p s)) := by
  obtain ⟨r1,r2,r3⟩ := H9 h hr;obtain ⟨m0,m1,_⟩ := hc.s;obtain ⟨f',st,ok⟩ := DK hc hp hf (NZ h hs) r1 r2 (fun k => r3 (by omega)) hag hcan
  have hse := tW h m0 m1 hr (f' := f') hM;have hex : ∃ f d,D0 c s f f' d ∧ Sem gs f (M + rK c p s - d) := ⟨f,_,st,hs.mono (by omega)⟩
  exact ⟨fun q => hse.2 q hex,fun q => ⟨f',ok,(hse.1 q).2 hex⟩⟩
theorem EL {c : Cx} {s : Ev} {t x : TR} {k : Nat} : x ∈ ZA c s t k ↔ EK c s t = true ∧ ∃ d : Nat,d < k ∧ zP c t.1 (oH t.2.1) s d = true ∧ x = zP8 c s t d := by
  unfold ZA;split
  · rename_i h;rw [bB];constructor
    · rintro ⟨d,hd,rfl⟩;obtain ⟨h1,h2⟩ := eF.1 hd;exact ⟨h,d,fF.1 h1,h2,rfl⟩
    · rintro ⟨_,d,h1,h2,rfl⟩;exact ⟨d,eF.2 ⟨fF.2 h1,h2⟩,rfl⟩
  · rename_i h;constructor
    · intro q;cases q
    · rintro ⟨q,_⟩;exact absurd q h
theorem P2 {c : Cx} {s : Ev} {all : List TR} {x : TR} (h : x ∈ P3 c s all) : ∃ t,t ∈ all ∧ EK c s t = true ∧ ∃ d : Nat,d < 4 ∧ zP c t.1 (oH t.2.1) s d = true ∧ x = zP8 c s t d := by
  rcases EM h with h | h
  · cases h
  · obtain ⟨t,ht,hx⟩ := gD.1 h;exact ⟨t,ht,EL.1 hx⟩
theorem J2 {c : Cx} {s : Ev} {t : TR} : EK c s t = true ↔ zC3 c t.1 (oH t.2.1) s = true ∧ t.2.2 + rK c t.1 s ≤ c.m := by
  unfold EK;rw [aK,decide_eq_true_eq]
theorem OZ.step {c : Cx} {gs : List G} {all : List TR} {s : Ev} (hc : iU c) (h : oZ c gs) (hr : iB c.bs.length s = true) (e : OZ c gs all) :
    ((eZ c gs s).1 = 0 → OZ c (eZ c gs s).2 (P3 c s all)) ∧ ((eZ c gs s).1 = 26 → P3 c s all = []) := by
  obtain ⟨r1,r2,r3⟩ := H9 h hr;obtain ⟨m0,m1,_⟩ := hc.s;have key : ∀ t,t ∈ all → EK c s t = true → ∀ d : Nat,zP c t.1 (oH t.2.1) s d = true → ∃ f,wD c t.1 (oH t.2.1) f ∧ Sem gs f t.2.2 := fun t ht hg d hd => by
    obtain ⟨a,b,b',_⟩ := e.ok t ht;exact (e.iff t.1 (oH t.2.1) a.pq t.2.2 b').2 ⟨t,ht,rfl,rfl,eH _⟩
  constructor
  · intro h0;refine ⟨fun x hx => ?_,fun p q hpq M hM => ⟨?_,?_⟩⟩
    · obtain ⟨t,ht,hg,d,hd,hcan,rfl⟩ := P2 hx;obtain ⟨a,b,b',b3⟩ := e.ok t ht;obtain ⟨g1,g2⟩ := J2.1 hg;have := (RG c.st (t.1.getD s.a.toNat 0) s.k s.ids).1;refine ⟨a.aft r1 r2 hcan,?_,g2,fun y hy => ?_⟩
      · show 0 ≤ t.2.2 + rK c t.1 s;unfold rK;omega
      · change y ∈ oH (G3 t.1 t.2.1 s d) at hy;rw [vZ] at hy;unfold tS at hy;split at hy
        · rename_i hk;have hrg := zO hk hcan;rcases fT hy with hy | rfl
          · exact b3 y hy
          · obtain ⟨i0,i1⟩ := a.pq.at r1.1 r1.2;have : (oH t.2.1).getD (t.1.getD s.a.toNat 0).toNat 0 ∈ oH t.2.1 := by
              have := a.pq.ql;rw [aD,aA (by omega)];exact aM _
            have := b3 _ this;omega
        · exact b3 y hy
    · rintro ⟨f',hf',hs'⟩;obtain ⟨f,d,st,hs⟩ := ((tW h m0 m1 hr (f' := f') hM).1 h0).1 hs';obtain ⟨p0,q0,done,hpq0,hf0,hag,hcan,rfl,e1,e2⟩ := SL hc hpq st hf' (NZ h hs) r1 r2 (fun k => r3 (by omega))
      have hm := (RG c.st (p0.getD s.a.toNat 0) s.k s.ids).1;obtain ⟨t,ht,rfl,rfl,htm⟩ := (e.iff p0 q0 hpq0 (M - rK c p0 s) (by unfold rK;omega)).1 ⟨f,hf0,hs⟩
      obtain ⟨a,b,b',b3⟩ := e.ok t ht;have hd : 0 ≤ done ∧ done < 4 := by
        by_cases hk : s.k = 2
        · have hrg := zO hk hcan;obtain ⟨i0,i1⟩ := a.pq.at r1.1 r1.2;have : (oH t.2.1).getD (t.1.getD s.a.toNat 0).toNat 0 ∈ oH t.2.1 := by
            have := a.pq.ql;rw [aD,aA (by omega)];exact aM _
          have := b3 _ this;omega
        · unfold zP UO at hcan;rw [if_neg hk] at hcan;split at hcan
          · rw [D5,decide_eq_true_eq,decide_eq_true_eq] at hcan;omega
          · rw [decide_eq_true_eq] at hcan;omega
      have hdn : ((done.toNat : Nat) : Int) = done := by omega
      have hx : RM (P3 c s all) (uU t.1 s done) (G3 t.1 t.2.1 s done) M := by
        refine EN.2 (.inr ⟨zP8 c s t (done.toNat : Nat),gD.2 ⟨t,ht,EL.2 ⟨J2.2 ⟨hag,by omega⟩,done.toNat,by omega,by rw [hdn];exact hcan,rfl⟩⟩,?_,?_,?_⟩)
        · rw [hdn];rfl
        · rw [hdn];rfl
        · show t.2.2 + rK c t.1 s ≤ M;omega
      obtain ⟨x,hx1,hx2,hx3,hx4⟩ := hx;exact ⟨x,hx1,hx2.trans e1.symm,by rw [hx3,vZ];exact e2.symm,hx4⟩
    · rintro ⟨x,hx,rfl,rfl,hxm⟩;obtain ⟨t,ht,hg,d,hd,hcan,rfl⟩ := P2 hx;obtain ⟨f,hf,hs⟩ := key t ht hg d hcan;obtain ⟨a,b,b',b3⟩ := e.ok t ht;obtain ⟨g1,g2⟩ := J2.1 hg;obtain ⟨f',ok,hs'⟩ := (M3 hc h hr a.pq hf hs g1 hcan g2).2 h0;refine ⟨f',?_,hs'.mono hxm⟩;show wD c (uU t.1 s d) (oH (G3 t.1 t.2.1 s d)) f';rw [vZ];exact ok
  · intro h26;cases hn : P3 c s all with
    | nil => rfl
    | cons x l =>
      exfalso;have hx : x ∈ P3 c s all := by rw [hn];exact aS
      obtain ⟨t,ht,hg,d,hd,hcan,rfl⟩ := P2 hx;obtain ⟨f,hf,hs⟩ := key t ht hg d hcan;obtain ⟨a,b,b',b3⟩ := e.ok t ht;obtain ⟨g1,g2⟩ := J2.1 hg;exact (M3 hc h hr a.pq hf hs g1 hcan g2).1 h26
theorem OZ.some {c : Cx} {gs : List G} {all : List TR} (hc : iU c) (h : oZ c gs) (hp : rE c gs) (e : OZ c gs all) : all ≠ [] := by
  have hn := hc.f.n1;simp at hn;obtain ⟨f,hs⟩ := M7 h hp (by omega)
  obtain ⟨p,q,hpq,hf⟩ := JK h.mid hs;obtain ⟨t,ht,_⟩ := (e.iff p q hpq c.m (eH _)).1 ⟨f,hf,hs⟩;exact fun q => by rw [q] at ht;cases ht
def zB7 (all : List TR) (p q : List Int) : Bool := all.any fun t => decide (t.1 = p) && decide (oH t.2.1 = q)
theorem OZ.among {c : Cx} {gs : List G} {all : List TR} {p q : List Int} (h : oZ c gs) (e : OZ c gs all) (hp : PQ c p q) : zY4 c gs p q = zB7 all p q := by
  rw [FH,HL h];unfold zB7;rw [lE];have hi := e.iff p q hp c.m (eH _);constructor
  · rintro ⟨_,_,_,f,hf,hs⟩;obtain ⟨t,ht,e1,e2,_⟩ := hi.1 ⟨f,hf,hs⟩;exact ⟨t,ht,by rw [e1,e2];simp⟩
  · rintro ⟨t,ht,hx⟩;rw [aK,decide_eq_true_eq,decide_eq_true_eq] at hx;obtain ⟨f,hf,hs⟩ := hi.2 ⟨t,ht,hx.1,hx.2,(e.ok t ht).2.2.1⟩;exact ⟨hp.pl,by rw [hp.ql,hp.pl],(JO hp.pl).2 hp.pp,f,hf,hs⟩
theorem KC {c : Cx} (hc : iU c) : tI c (nats (List.range c.bs.length)) c.bs := ⟨IJ hc,by simp,fun i => ⟨rfl,rfl⟩⟩
theorem zJ0 {n : Nat} {b : Int} (h0 : 0 ≤ b) (h1 : b < n) : (nats (List.range n)).getD b.toNat 0 = b := by
  have := GD (n := n) (fun x => x) 0 h0 h1
  rwa [List.map_id'] at this
theorem QA {c : Cx} : ∃ f,wD c (nats (List.range c.bs.length)) (oH c.bs) f ∧ Sem (pT c) f 0 := by
  refine ⟨fun b => (b,((c.bs.getD b.toNat (0,0,0)).2.1,(c.bs.getD b.toNat (0,0,0)).2.1 + 1)),fun b h0 h1 => ?_,zI9.2 ⟨eH _,fun b h0 h1 => rfl⟩⟩
  unfold RK;rw [zJ0 h0 h1,GY];exact ⟨rfl,nI.2 ⟨eH _,by dsimp only;omega⟩⟩
end Go.Ld
namespace Go.Proofs.YtmmmeebiobjnbaaGreat
open Go Go.Ab Go.Ld
attribute [local irreducible] VC AW cE aU iV
set_option maxHeartbeats 4000000
theorem zL4 {l : List BX} {i : Nat} (h : i < l.length) : l[i]? = some ((l.getD i (0,0,0)).1,(l.getD i (0,0,0)).2.1,(l.getD i (0,0,0)).2.2) := by
  rw [aD,aA h];rfl
end Go.Proofs.YtmmmeebiobjnbaaGreat
namespace Go.Ld
open Go.Ab Go.Proofs.YtmmmeebiobjnbaaGreat
structure BT (c : Cx) (gs : List G) (ps : List Int) (bs : List BX) (M : Int) : Prop where
  gk : oZ c gs
  re : tI c ps bs
  m0 : 0 ≤ M
  m1 : M ≤ c.m
  f : ∃ f,wD c ps (oH bs) f ∧ Sem gs f M
theorem BT.new {c : Cx} (hc : iU c) (hn : c.bs.length ≤ 12) : BT c (pT c) (nats (List.range c.bs.length)) c.bs 0 :=
  ⟨XV hc hn hc.s.1,KC hc,eH _,hc.s.1,QA⟩
theorem BT.step {c : Cx} {gs : List G} {ps : List Int} {bs : List BX} {M done : Int} {s : Ev} (hc : iU c) (h : BT c gs ps bs M) (hr : iB c.bs.length s = true) (hag : zC3 c ps (oH bs) s = true) (hcan : zP c ps (oH bs) s done = true) (hM : M + rK c ps s ≤ c.m) :
    (eZ c gs s).1 = 6 ∨ (eZ c gs s).1 = 0 ∧ BT c (eZ c gs s).2 (uU ps s done) (G3 ps bs s done) (M + rK c ps s) ∧ zY4 c (eZ c gs s).2 (uU ps s done) (oH (G3 ps bs s done)) = true := by
  obtain ⟨r1,r2,r3⟩ := H9 h.gk hr;obtain ⟨m0,m1,_⟩ := hc.s;obtain ⟨f,hf,hs⟩ := h.f;obtain ⟨t1,t2⟩ := M3 hc h.gk hr h.re.pq hf hs hag hcan hM;have hmis := (RG c.st (ps.getD s.a.toNat 0) s.k s.ids).1;have hm0 := h.m0;have hre := h.re.aft r1 r2 hcan;rcases JE c gs s with h0 | ⟨_,h0⟩ | h0 | h0
  · refine .inr ⟨h0,?_⟩;obtain ⟨f',ok,hs'⟩ := t2 h0;rw [← vZ] at ok;have hg := FS (s := s) h.gk m0 m1;refine ⟨⟨hg,hre,by unfold rK;omega,hM,f',ok,hs'⟩,?_⟩
    exact (HL hg).2 ⟨hre.pq.pl,by rw [hre.pq.ql,hre.pq.pl],(JO hre.pq.pl).2 hre.pq.pp,f',ok,hs'.mono hM⟩
  · rw [h0] at hr;cases hr
  · exact .inl h0
  · exact absurd h0 t1
end Go.Ld
namespace Go.Proofs.YtmmmeebiobjnbaaGreat
open Go Go.Ab Go.Ld
attribute [local irreducible] VC AW cE aU iV
set_option maxHeartbeats 4000000
end Go.Proofs.YtmmmeebiobjnbaaGreat
namespace Go.Ld
open Go.Ab Go.Proofs.YtmmmeebiobjnbaaGreat
def BY (c : Cx) : List Ev → As → As → Int → Prop
  | [],f,f',d => f' = f ∧ d = 0
  | s :: L,f,f',d => ∃ f1 d1 d2,D0 c s f f1 d1 ∧ BY c L f1 f' d2 ∧ d = d1 + d2
def OW (c : Cx) : List G → List Ev → List G → Prop
  | gs,[],gs' => gs' = gs
  | gs,s :: L,gs' => (eZ c gs s).1 = 0 ∧ OW c (eZ c gs s).2 L gs'
def uB (c : Cx) : List G → List Ev → Bool
  | _,[] => true
  | gs,s :: L => !decide ((eZ c gs s).1 = 26) && uB c (eZ c gs s).2 L
theorem yD6 {c : Cx} {s : Ev} {x : Int × SP} : 0 ≤ (wL c s x).2.1 ∧ (wL c s x).2.1 ≤ 1 := by
  unfold wL;dsimp only
  repeat' split
  all_goals (dsimp only;omega)
theorem zT4 {c : Cx} {s : Ev} {f f' : As} {d : Int} (h : D0 c s f f' d) : 0 ≤ d := by
  rcases h with ⟨_,_,rfl⟩ | ⟨_,_,rfl⟩
  · exact yD6.1
  · exact eH _
theorem M9 {c : Cx} : ∀ {L : List Ev} {f f' : As} {d : Int}, BY c L f f' d → 0 ≤ d
  | [],_,_,_,⟨_,h⟩ => by omega
  | s :: L,_,_,_,⟨f1,d1,d2,h1,h2,h3⟩ => by
    have := zT4 h1;have := M9 h2;omega
theorem DQ {c : Cx} {s : Ev} : ∀ {L : List Ev} {f f' f'' : As} {d e : Int}, BY c L f f' d → D0 c s f' f'' e → BY c (L ++ [s]) f f'' (d + e)
  | [],f,f',f'',d,e,⟨h1,h2⟩,h => by
    subst h1;subst h2;exact ⟨f'',e,0,h,⟨rfl,rfl⟩,by omega⟩
  | x :: L,f,f',f'',d,e,⟨f1,d1,d2,h1,h2,h3⟩,h => ⟨f1,d1,d2 + e,h1,DQ h2 h,by omega⟩
theorem DI {c : Cx} {s : Ev} : ∀ {L : List Ev} {gs gs' : List G}, OW c gs L gs' → (eZ c gs' s).1 = 0 → OW c gs (L ++ [s]) (eZ c gs' s).2
  | [],gs,gs',h,h0 => by
    have e : gs' = gs := h;subst e;exact ⟨h0,rfl⟩
  | x :: L,gs,gs',⟨h1,h2⟩,h0 => ⟨h1,DI h2 h0⟩
theorem DY {c : Cx} {s : Ev} : ∀ {L : List Ev} {gs : List G}, uB c gs (L ++ [s]) = true → uB c gs L = true
  | [],_,_ => rfl
  | x :: L,gs,h => by
    rw [List.cons_append] at h;unfold uB at h ⊢;rw [aK] at h ⊢;exact ⟨h.1,DY h.2⟩
structure MJ (c : Cx) (gs : List G) (m : Nat) : Prop where
  gk : oZ c gs
  pd : rE c gs
  pr : gN gs ≤ 2 ^ m
theorem zT8 {m : Nat} (h : m ≤ 5) : 2 ^ m ≤ 32 := Nat.pow_le_pow_right (by decide) h
theorem yA7 (s : Ev) (m : Nat) : 2 ^ m * VT s = 2 ^ (m + if s.k = 4 then 1 else 0) := by
  unfold VT;split <;> simp [Nat.pow_succ]
theorem MJ.see {c : Cx} {gs : List G} {m : Nat} (hc : iU c) (h : MJ c gs m) (s : Ev) : MJ c (eZ c gs s).2 (m + if s.k = 4 then 1 else 0) := by
  have hm0 := hc.s.1;have hm1 := hc.s.2.1;refine ⟨FS h.gk hm0 hm1,WJ h.pd,?_⟩;rw [← yA7];exact bK (WI h.gk hm0 hm1) (fN _ h.pr)
theorem MJ.new {c : Cx} (hc : iU c) : MJ c (pT c) 0 := by
  have hn := hc.f.n8;simp at hn;exact ⟨XV hc (by omega) hc.s.1,XU hc.s.1,by rw [XT];exact aX _⟩
theorem MJ.room {c : Cx} {gs : List G} {m : Nat} (hc : iU c) (hn : c.bs.length ≤ 6) (h : MJ c gs m) (hm : m ≤ 5) (s : Ev) : (eZ c gs s).1 ≠ 6 := by
  have := zT8 hm;have := h.pr;exact WH h.gk hc.s.1 hc.s.2.1 hn (by omega)
theorem MJ.code {c : Cx} {gs : List G} {m : Nat} (hc : iU c) (hn : c.bs.length ≤ 6) (h : MJ c gs m) (hm : m ≤ 5) {s : Ev} (hr : iB c.bs.length s = true) : (eZ c gs s).1 = 0 ∨ (eZ c gs s).1 = 26 := by
  have h6 := h.room hc hn hm s;rcases JE c gs s with h1 | ⟨_,h1⟩ | h1 | h1
  · exact .inl h1
  · rw [hr] at h1;cases h1
  · exact absurd h1 h6
  · exact .inr h1
theorem X8 (s : Ev) (L : List Ev) : yT (s :: L) = (if s.k = 4 then 1 else 0) + yT L := by
  unfold yT;rw [List.countP_cons];by_cases h : s.k = 4 <;> simp [h,pX]
theorem FM (a b : List Ev) : yT (a ++ b) = yT a + yT b := UW
theorem JG {c : Cx} (hc : iU c) : ∀ {L : List Ev} {gs gs' : List G} {m : Nat},MJ c gs m → (∀ s,s ∈ L → iB c.bs.length s = true) → OW c gs L gs' → ∀ {f' : As} {M : Int},M ≤ c.m →
    (Sem gs' f' M ↔ ∃ f d,BY c L f f' d ∧ Sem gs f (M - d))
  | [],gs,gs',m,h,hr,e,f',M,hM => by
    have e : gs' = gs := e;subst e;constructor
    · intro q;exact ⟨f',0,⟨rfl,rfl⟩,by rw [G7];exact q⟩
    · rintro ⟨f,d,⟨rfl,rfl⟩,q⟩;rw [G7] at q;exact q
  | s :: L,gs,gs',m,h,hr,⟨e0,e1⟩,f',M,hM => by
    have hs := hr s aS;rw [JG hc (h.see hc s) (fun x hx => hr x (aI _ hx)) e1 hM];constructor
    · rintro ⟨f1,d2,p,q⟩;have := M9 p;obtain ⟨f,d1,st,q1⟩ := ((tW h.gk hc.s.1 hc.s.2.1 hs (f' := f1) (M := M - d2) (by omega)).1 e0).1 q
      exact ⟨f,d1 + d2,⟨f1,d1,d2,st,p,rfl⟩,by rw [show M - (d1 + d2) = M - d2 - d1 by omega];exact q1⟩
    · rintro ⟨f,d,⟨f1,d1,d2,st,p,rfl⟩,q⟩;have := M9 p;refine ⟨f1,d2,p,((tW h.gk hc.s.1 hc.s.2.1 hs (f' := f1) (M := M - d2) (by omega)).1 e0).2 ⟨f,d1,st,?_⟩⟩
      rw [show M - d2 - d1 = M - (d1 + d2) by omega];exact q
theorem DZ {c : Cx} (hc : iU c) (hn : c.bs.length ≤ 6) : ∀ {L : List Ev} {gs : List G} {m : Nat},MJ c gs m → m + yT L ≤ 5 → (∀ s,s ∈ L → iB c.bs.length s = true) →
    (uB c gs L = true ↔ ∃ f f' d,BY c L f f' d ∧ Sem gs f (c.m - d))
  | [],gs,m,h,hm,hr => by
    have h1 := hc.f.n1;simp at h1;obtain ⟨f,hf⟩ := M7 h.gk h.pd (by omega)
    exact ⟨fun _ => ⟨f,f,0,⟨rfl,rfl⟩,by rw [G7];exact hf⟩,fun _ => rfl⟩
  | s :: L,gs,m,h,hm,hr => by
    have hs := hr s aS;rw [X8] at hm;have ih := DZ hc hn (h.see hc s) (by omega) fun x hx => hr x (aI _ hx)
    unfold uB;rw [aK];rcases h.code hc hn (by omega) hs with h0 | h0
    · rw [ih];constructor
      · rintro ⟨_,f1,f',d2,p,q⟩;have := M9 p;obtain ⟨f,d1,st,q1⟩ := ((tW h.gk hc.s.1 hc.s.2.1 hs (f' := f1) (M := c.m - d2) (by omega)).1 h0).1 q
        exact ⟨f,f',d1 + d2,⟨f1,d1,d2,st,p,rfl⟩,by rw [show c.m - (d1 + d2) = c.m - d2 - d1 by omega];exact q1⟩
      · rintro ⟨f,f',d,⟨f1,d1,d2,st,p,rfl⟩,q⟩;have := M9 p;refine ⟨by rw [h0];rfl,f1,f',d2,p,((tW h.gk hc.s.1 hc.s.2.1 hs (f' := f1) (M := c.m - d2) (by omega)).1 h0).2 ⟨f,d1,st,?_⟩⟩
        rw [show c.m - d2 - d1 = c.m - (d1 + d2) by omega];exact q
    · constructor
      · rintro ⟨q,_⟩;rw [h0] at q;cases q
      · rintro ⟨f,f',d,⟨f1,d1,d2,st,p,rfl⟩,q⟩;exfalso;have := M9 p;refine (tW h.gk hc.s.1 hc.s.2.1 hs (f' := f1) (M := c.m) (eH _)).2 h0 ⟨f,d1,st,q.mono ?_⟩;omega
structure Sl where
  t : Int
  o : Int
  b : Int
  n : Int
structure Sd where
  s : Sl
  gs : List G
  n : Nat
structure Tr where
  gs : List G
  seen : List Ev
  sales : List Sd
  ord : List Bool
def oE (b i : Int) : Ev := ⟨5,b,0,i,[]⟩
def zG6 (c : Cx) (t : Tr) (s : Ev) : Int × Tr :=
  if (eZ c t.gs s).1 = 0 then (0,⟨(eZ c t.gs s).2,t.seen ++ [s],t.sales,t.ord ++ [false]⟩) else ((eZ c t.gs s).1,t)
def AO (t : Tr) : Int := (t.sales.getLast?.map fun x => x.s.t).getD 0
def qB (c : Cx) (t : Tr) (x : Sl) : Int :=
  if x.b < 0 ∨ (c.bs.length : Int) ≤ x.b then 4
  else if x.n < 1 ∨ 20000 < x.n ∨ x.o < 0 ∨ x.t < 0 ∨ 20000 < x.t then 1
  else if 0 < t.sales.length ∧ x.t < AO t then 3
  else if 500 ≤ t.sales.length then 6
  else 0
def E0 (c : Cx) (seen : List Ev) (x : Sd) (i : Int) : Bool := uB c x.gs (oE x.s.b i :: seen.drop x.n)
def C9 (x : Sd) : List Int := match T3 x.gs x.s.b with
  | some (g,i) => tZ g i
  | none => []
def hC (c : Cx) (seen : List Ev) (x : Sd) : List Int := (C9 x).filter (E0 c seen x)
structure yH1 (c : Cx) (t : Tr) (x : Sd) : Prop where
  b : 0 ≤ x.s.b ∧ x.s.b < c.bs.length
  n : x.n ≤ t.seen.length
  lk : MJ c x.gs (yT (t.seen.take x.n))
  ru : OW c x.gs (t.seen.drop x.n) t.gs
structure kH (c : Cx) (t : Tr) : Prop where
  lk : MJ c t.gs (yT t.seen)
  rt : ∀ s,s ∈ t.seen → iB c.bs.length s = true
  sd : ∀ x,x ∈ t.sales → yH1 c t x
theorem kH.new {c : Cx} (hc : iU c) : kH c ⟨pT c,[],[],[]⟩ := ⟨MJ.new hc,fun s hs => absurd hs jZ,fun x hx => absurd hx jZ⟩
theorem SI {c : Cx} {gs : List G} {s : Ev} (h : (eZ c gs s).1 = 0) : iB c.bs.length s = true := by
  unfold eZ at h;split at h
  · assumption
  · cases h
theorem kH.see {c : Cx} {t : Tr} {s : Ev} (hc : iU c) (h : kH c t) (h0 : (eZ c t.gs s).1 = 0) : kH c ⟨(eZ c t.gs s).2,t.seen ++ [s],t.sales,t.ord ++ [false]⟩ := by
  refine ⟨?_,fun x hx => ?_,fun x hx => ?_⟩
  · have := h.lk.see hc s;show MJ c _ (yT (t.seen ++ [s]));rw [FM,show yT [s] = if s.k = 4 then 1 else 0 by rw [X8];rfl]
    exact this
  · rcases bF.1 hx with hx | hx
    · exact h.rt x hx
    · rw [bI.1 hx];exact SI h0
  · obtain ⟨b,n,lk,ru⟩ := h.sd x hx;refine ⟨b,by show x.n ≤ (t.seen ++ [s]).length;rw [aF];omega,?_,?_⟩
    · show MJ c x.gs (yT ((t.seen ++ [s]).take x.n));rw [pS n];exact lk
    · show OW c x.gs ((t.seen ++ [s]).drop x.n) _;rw [zY n];exact DI ru h0
theorem kH.sell {c : Cx} {t : Tr} (h : kH c t) (x : Sl) (hb : 0 ≤ x.b ∧ x.b < c.bs.length) : kH c ⟨t.gs,t.seen,t.sales ++ [⟨x,t.gs,t.seen.length⟩],t.ord ++ [true]⟩ := by
  refine ⟨h.lk,h.rt,fun y hy => ?_⟩
  rcases bF.1 hy with hy | hy
  · obtain ⟨b,n,lk,ru⟩ := h.sd y hy;exact ⟨b,n,lk,ru⟩
  · rw [bI.1 hy];refine ⟨hb,aX _,?_,?_⟩
    · show MJ c t.gs (yT (t.seen.take t.seen.length));rw [cM];exact h.lk
    · show OW c t.gs (t.seen.drop t.seen.length) t.gs;rw [List.drop_length];rfl
theorem VR (L : List Ev) (n : Nat) : yT (L.take n) + yT (L.drop n) = yT L := by rw [← FM,bQ]
theorem NP {c : Cx} {f : As} {b : Int} : D0 c (oE b (f b).1) f f 0 := by
  refine .inl ⟨?_,?_,?_⟩
  · unfold wL oE;simp
  · unfold wL oE upd;funext x;simp only;by_cases e : x = b
    · subst e;simp
    · rw [if_neg e]
  · unfold wL oE;simp
theorem zJ7 {c : Cx} {f f' : As} {b i d : Int} (h : D0 c (oE b i) f f' d) : (f b).1 = i ∧ f' = f ∧ d = 0 := by
  rcases h with ⟨h1,h2,h3⟩ | ⟨h1,_⟩
  · have e : wL c (oE b i) (f b) = (f b,0,decide ((f b).1 = i)) := by unfold wL oE;simp
    change (wL c (oE b i) (f b)).2.2 = true at h1;change f' = upd f b (wL c (oE b i) (f b)).1 at h2;change d = (wL c (oE b i) (f b)).2.1 at h3;rw [e] at h1 h2 h3;refine ⟨of_decide_eq_true h1,?_,h3⟩;rw [h2];funext x;unfold upd;dsimp only;by_cases q : x = b
    · rw [if_pos q,q]
    · rw [if_neg q]
  · cases h1
theorem KH {n : Nat} {b i : Int} (hb : 0 ≤ b ∧ b < n) (hi : 0 ≤ i ∧ i < n) : iB n (oE b i) = true := by
  unfold iB oE;dsimp only;rw [if_neg (by decide),if_neg (by decide),if_neg (by decide),if_pos rfl,decide_eq_true ⟨hb.1,by omega⟩,decide_eq_true (.inr rfl),decide_eq_true (.inr rfl),decide_eq_true ⟨hi.1,by omega⟩];rfl
theorem kH.poss {c : Cx} {t : Tr} {x : Sd} {i : Int} (hc : iU c) (hn : c.bs.length ≤ 6) (h : kH c t) (h5 : yT t.seen ≤ 5) (hx : x ∈ t.sales) (hi : 0 ≤ i ∧ i < c.bs.length) :
    E0 c t.seen x i = true ↔ ∃ f f' d,(f x.s.b).1 = i ∧ BY c (t.seen.drop x.n) f f' d ∧ Sem x.gs f (c.m - d) := by
  obtain ⟨b,n,lk,ru⟩ := h.sd x hx;have hd := VR t.seen x.n;unfold E0;have e0 : yT (oE x.s.b i :: t.seen.drop x.n) = yT (t.seen.drop x.n) := by
    rw [X8,if_neg (show ¬ (oE x.s.b i).k = 4 from fun q => by cases q),Nat.zero_add]
  rw [DZ hc hn lk (by rw [e0];omega) (fun s hs => by
    rcases bU.1 hs with rfl | hs
    · exact KH b hi
    · exact h.rt s (dS hs))]
  constructor
  · rintro ⟨f,f',d,⟨f1,d1,d2,st,p,rfl⟩,q⟩;obtain ⟨e1,rfl,rfl⟩ := zJ7 st;exact ⟨_,f',d2,e1,p,by rw [Int.zero_add] at q;exact q⟩
  · rintro ⟨f,f',d,rfl,p,q⟩;exact ⟨f,f',0 + d,⟨f,0,d,NP,p,rfl⟩,by rw [Int.zero_add];exact q⟩
theorem PR {c : Cx} {t : Tr} {x : Sd} (h : kH c t) (hx : x ∈ t.sales) : (∀ i,i ∈ C9 x → 0 ≤ i ∧ i < c.bs.length) ∧ ∀ f M,Sem x.gs f M → (f x.s.b).1 ∈ C9 x := by
  obtain ⟨b,n,lk,ru⟩ := h.sd x hx;obtain ⟨g,hg,hgm,hbg⟩ := AT (lk.gk.mid.find b);have e : C9 x = tZ g (g.1.idxOf x.s.b) := by unfold C9;rw [hg]
  have hi := gS hbg;rw [e];refine ⟨WX lk.gk hgm hi,fun f M hs => ?_⟩
  obtain ⟨w,hw,hf⟩ := vC hs hgm;exact Z8.2 ⟨w,hw,(KY hf hbg).1⟩
theorem kH.ids {c : Cx} {t : Tr} {x : Sd} {i : Int} (hc : iU c) (hn : c.bs.length ≤ 6) (h : kH c t) (h5 : yT t.seen ≤ 5) (hx : x ∈ t.sales) :
    i ∈ hC c t.seen x ↔ ∃ f f' d,(f x.s.b).1 = i ∧ BY c (t.seen.drop x.n) f f' d ∧ Sem x.gs f (c.m - d) := by
  obtain ⟨r1,r2⟩ := PR h hx;unfold hC;rw [eF];constructor
  · rintro ⟨a,b⟩;exact (h.poss hc hn h5 hx (r1 i a)).1 b
  · rintro ⟨f,f',d,rfl,p,q⟩;have := r2 f _ q;exact ⟨this,(h.poss hc hn h5 hx (r1 _ this)).2 ⟨f,f',d,rfl,p,q⟩⟩
theorem kH.some {c : Cx} {t : Tr} {x : Sd} (hc : iU c) (hn : c.bs.length ≤ 6) (h : kH c t) (h5 : yT t.seen ≤ 5) (hx : x ∈ t.sales) : hC c t.seen x ≠ [] := by
  have h1 := hc.f.n1;simp at h1;obtain ⟨f',hf⟩ := M7 h.lk.gk h.lk.pd (by omega)
  obtain ⟨b,n,lk,ru⟩ := h.sd x hx;obtain ⟨f,d,p,q⟩ := (JG hc lk (fun s hs => h.rt s (dS hs)) ru (eH c.m)).1 hf;exact List.ne_nil_of_mem ((h.ids hc hn h5 hx).2 ⟨f,f',d,rfl,p,q⟩)
theorem YP {c : Cx} {x : Sd} {seen : List Ev} {s : Ev} (hn : x.n ≤ seen.length) : ∀ i,i ∈ hC c (seen ++ [s]) x → i ∈ hC c seen x := fun i hi => by
  unfold hC at hi ⊢;obtain ⟨a,b⟩ := eF.1 hi;refine eF.2 ⟨a,?_⟩;unfold E0 at b ⊢;rw [zY hn,← List.cons_append] at b;exact DY b
end Go.Ld
namespace Go.Ld
open Go.Ab Go.Proofs.YtmmmeebiobjnbaaGreat Go.Pm
def tR (c : Cx) (i : Int) : Int := (c.bs.getD i.toNat (0,0,0)).1
def jK (c : Cx) (l : List Int) : List Int := yA (iG (l.map (tR c)))
def lR (l : List Int) : List Int := l.filter fun a => !decide (a < 0)
def oL (l : List Int) : Int × Bool := if l.length = 1 ∧ 0 ≤ l.getD 0 0 then (l.getD 0 0,true) else (0,false)
theorem vY {c : Cx} {l : List Int} {a : Int} : a ∈ jK c l ↔ ∃ i,i ∈ l ∧ tR c i = a := by
  unfold jK yA;rw [K2 _ _ _ (aX _),cM,(sorted_perm _).mem_iff,bB]
theorem zC1 (c : Cx) (l : List Int) : yH6 (jK c l) := by
  have hs : (iG (l.map (tR c))).Pairwise (· ≤ ·) := by
    unfold iG;have := CA (le := fun x y : Int => decide (x ≤ y)) (by intro a b c h1 h2;simp at *;omega) (by intro a b;simp;omega) (l.map (tR c))
    exact this.imp (by simp)
  exact LL hs _ (aX _)
theorem zC0 (c : Cx) (l : List Int) : (jK c l).length ≤ l.length := by
  unfold jK yA;refine bK (oT _ _) ?_;rw [(sorted_perm _).length_eq,aY];exact aX _
theorem zP4 {l : List Int} {a : Int} (h : yH6 l) (ne : l ≠ []) (ha : ∀ x,x ∈ l → x = a) : l = [a] := by
  match l,h,ne,ha with
  | [],_,ne,_ => exact absurd rfl ne
  | [x],_,_,ha => rw [ha x (by simp)]
  | x :: y :: l,h,_,ha =>
    exfalso;have e1 := ha x (by simp)
    have e2 := ha y (by simp)
    have := List.rel_of_pairwise_cons h (a' := y) (by simp)
    omega
theorem X9 {l : List Int} : (oL l).2 = true ↔ ∃ a,0 ≤ a ∧ l = [a] := by
  unfold oL;constructor
  · intro h;split at h
    · rename_i q;obtain ⟨a,rfl⟩ := CQ.1 q.1;exact ⟨a,q.2,rfl⟩
    · cases h
  · rintro ⟨a,h0,rfl⟩;rw [if_pos ⟨rfl,h0⟩]
theorem RY {c : Cx} {l l' : List Int} (hs : ∀ i,i ∈ l' → i ∈ l) (ne : l' ≠ []) (h : (oL (jK c l)).2 = true) : (oL (jK c l')).2 = true := by
  obtain ⟨a,h0,e⟩ := X9.1 h;refine X9.2 ⟨a,h0,zP4 (zC1 c l') ?_ fun x hx => ?_⟩
  · obtain ⟨i,hi⟩ := P8 _ ne;exact List.ne_nil_of_mem (vY.2 ⟨i,hi,rfl⟩)
  · obtain ⟨i,hi,rfl⟩ := vY.1 hx;have : tR c i ∈ jK c l := vY.2 ⟨i,hs i hi,rfl⟩;rw [e] at this;exact bI.1 this
theorem TG {c : Cx} {l l' : List Int} (hs : ∀ i,i ∈ l' → i ∈ l) : ∀ a,a ∈ lR (jK c l') → a ∈ lR (jK c l) := fun a ha => by
  obtain ⟨h1,h2⟩ := eF.1 ha;obtain ⟨i,hi,rfl⟩ := vY.1 h1;exact eF.2 ⟨vY.2 ⟨i,hs i hi,rfl⟩,h2⟩
theorem YA {l : List Int} {a : Int} : a ∈ lR l ↔ a ∈ l ∧ 0 ≤ a := by
  unfold lR;rw [eF];simp
structure BU (c : Cx) (t : Tr) (p : List Int) (bs : List BX) (M : Int) (real : List Int) : Prop where
  tr : kH c t
  re : tI c p bs
  m0 : 0 ≤ M
  m1 : M ≤ c.m
  f : ∃ f,wD c p (oH bs) f ∧ Sem t.gs f M ∧ ∀ (k : Nat) x r,t.sales[k]? = some x → real[k]? = some r → ∃ g d,BY c (t.seen.drop x.n) g f d ∧ Sem x.gs g (M - d) ∧ (g x.s.b).1 = r
  len : real.length = t.sales.length
  rg : ∀ r,r ∈ real → 0 ≤ r ∧ r < c.bs.length
theorem BU.new {c : Cx} (hc : iU c) : BU c ⟨pT c,[],[],[]⟩ (nats (List.range c.bs.length)) c.bs 0 [] := by
  obtain ⟨f,h1,h2⟩ := QA (c := c);exact ⟨kH.new hc,KC hc,eH _,hc.s.1,⟨f,h1,h2,fun k x r hx => by cases hx⟩,rfl,fun r hr => absurd hr jZ⟩
theorem BU.see {c : Cx} {t : Tr} {p : List Int} {bs : List BX} {M done : Int} {real : List Int} {s : Ev} (hc : iU c) (hn : c.bs.length ≤ 6) (h : BU c t p bs M real) (h5 : yT t.seen ≤ 5) (hr : iB c.bs.length s = true)
    (hag : zC3 c p (oH bs) s = true) (hcan : zP c p (oH bs) s done = true) (hM : M + rK c p s ≤ c.m) :
    (eZ c t.gs s).1 = 0 ∧ BU c ⟨(eZ c t.gs s).2,t.seen ++ [s],t.sales,t.ord ++ [false]⟩ (uU p s done) (G3 p bs s done) (M + rK c p s) real := by
  obtain ⟨r1,r2,r3⟩ := H9 h.tr.lk.gk hr;obtain ⟨m0,m1,_⟩ := hc.s;obtain ⟨f,hf,hs,hp⟩ := h.f;have hmis := (RG c.st (p.getD s.a.toNat 0) s.k s.ids).1;have hm0 := h.m0;obtain ⟨f',st,ok⟩ := DK hc h.re.pq hf (NZ h.tr.lk.gk hs) r1 r2 (fun k => r3 (by omega)) hag hcan
  have hsem := tW h.tr.lk.gk m0 m1 hr (f' := f') hM;have hex : ∃ f d,D0 c s f f' d ∧ Sem t.gs f (M + rK c p s - d) := ⟨f,_,st,hs.mono (by omega)⟩
  have h0 : (eZ c t.gs s).1 = 0 := (h.tr.lk.code hc hn h5 hr).resolve_right fun q => hsem.2 q hex
  refine ⟨h0,h.tr.see hc h0,h.re.aft r1 r2 hcan,by unfold rK;omega,hM,⟨f',by rw [vZ];exact ok,(hsem.1 h0).2 hex,fun k x r hx hk => ?_⟩,h.len,h.rg⟩
  obtain ⟨g,d,q1,q2,q3⟩ := hp k x r hx hk;refine ⟨g,d + rK c p s,?_,by rw [show M + rK c p s - (d + rK c p s) = M - d by omega];exact q2,q3⟩
  show BY c ((t.seen ++ [s]).drop x.n) g f' _;rw [zY (h.tr.sd x (aL hx)).n];exact DQ q1 st
theorem BU.sell {c : Cx} {t : Tr} {p : List Int} {bs : List BX} {M : Int} {real : List Int} (h : BU c t p bs M real) (x : Sl) (hb : 0 ≤ x.b ∧ x.b < c.bs.length) :
    BU c ⟨t.gs,t.seen,t.sales ++ [⟨x,t.gs,t.seen.length⟩],t.ord ++ [true]⟩ p bs M (real ++ [p.getD x.b.toNat 0]) := by
  obtain ⟨f,hf,hs,hp⟩ := h.f;refine ⟨h.tr.sell x hb,h.re,h.m0,h.m1,⟨f,hf,hs,fun k y r hy hr => ?_⟩,by simp [h.len],fun r hr => ?_⟩
  · have hl := h.len;by_cases e : k < t.sales.length
    · rw [aH e] at hy;rw [aH (by omega)] at hr
      exact hp k y r hy hr
    · have hk : k = t.sales.length := by
        have := (aB.1 hy).1;rw [aF,List.length_singleton] at this;omega
      subst hk;rw [aE (aX _),dX] at hy;rw [← hl,aE (aX _),dX] at hr;cases hy;cases hr;refine ⟨f,0,?_,by rw [G7];exact hs,(hf x.b hb.1 hb.2).1⟩
      show BY c (t.seen.drop t.seen.length) f f 0;rw [List.drop_length];exact ⟨rfl,rfl⟩
  · rcases bF.1 hr with hr | hr
    · exact h.rg r hr
    · rw [bI.1 hr];exact h.re.pq.at hb.1 hb.2
theorem BU.has {c : Cx} {t : Tr} {p : List Int} {bs : List BX} {M : Int} {real : List Int} {k : Nat} {x : Sd} {r : Int} (hc : iU c) (hn : c.bs.length ≤ 6) (h : BU c t p bs M real) (h5 : yT t.seen ≤ 5) (hx : t.sales[k]? = some x) (hr : real[k]? = some r) :
    r ∈ hC c t.seen x := by
  obtain ⟨f,hf,hs,hp⟩ := h.f;obtain ⟨g,d,q1,q2,q3⟩ := hp k x r hx hr;have := h.m1;exact (h.tr.ids hc hn h5 (aL hx)).2 ⟨g,f,d,q3,q1,q2.mono (by omega)⟩
theorem BU.fin {c : Cx} {l : List Int} {r : Int} (hr : r ∈ l) : (0 ≤ tR c r → tR c r ∈ lR (jK c l)) ∧ ((oL (jK c l)).2 = true → (oL (jK c l)).1 = tR c r) := by
  have hm : tR c r ∈ jK c l := vY.2 ⟨r,hr,rfl⟩;refine ⟨fun h => YA.2 ⟨hm,h⟩,fun h => ?_⟩
  obtain ⟨a,h0,e⟩ := X9.1 h;rw [e] at hm ⊢;rw [bI.1 hm];unfold oL;rw [if_pos ⟨rfl,h0⟩];rfl
end Go.Ld
namespace Go.Ld
open Go.Ab Go.Proofs.YtmmmeebiobjnbaaGreat
abbrev oU (l : List Bool) : List (List AV) := l.map fun b => [AV.b b]
abbrev zE0 (x : Sl) : List AV := [.i x.t,.i x.o,.i x.b,.i x.n]
abbrev zG8 (c : Cx) (x : Sd) : List AV := [.i x.s.t,.i x.s.o,.i x.s.b,.i x.s.n,.pr (jP c x.gs) 0,.i (x.n : Int)]
abbrev Y6 (l : List Sl) : List (List AV) := l.map zE0
abbrev rT (c : Cx) (l : List Sd) : List (List AV) := l.map (zG8 c)
abbrev FK (c : Cx) (t : Tr) : List AV := [.rowE (kU c.ls) 3,.rowE (fP c.bs) 3,.pr (jP c t.gs) 0,.rowE (oG t.seen) 5,.rowE (rT c t.sales) 6,.rowE (oU t.ord) 1]
abbrev yI1 (c : Cx) (n m q : Nat) : List AV := [.rowE (kU c.ls) 3,.rowE (fP c.bs) 3,.ptr 1 0,.sl 2 0 n 5,.sl 3 0 m 6,.sl 4 0 q 1]
abbrev HW (c : Cx) (t : Tr) : Hp := [.cells (yI1 c t.seen.length t.sales.length t.ord.length),.cells (jP c t.gs),.arr (oG t.seen) 5,.arr (rT c t.sales) 6,.arr (oU t.ord) 1]
abbrev D7 (c : Cx) (t : Tr) : Hp := [.cells [.rowE (kU c.ls) 3,.rowE (fP c.bs) 3,.ptr 1 0,.sl 5 0 t.seen.length 5,.sl 3 0 t.sales.length 6,.sl 6 0 t.ord.length 1],.cells (jP c t.gs),.gone,.arr (rT c t.sales) 6,.gone,.arr (oG t.seen) 5,.arr (oU t.ord) 1]
abbrev F2 (c : Cx) (t : Tr) : Hp := [.cells [.rowE (kU c.ls) 3,.rowE (fP c.bs) 3,.ptr 1 0,.sl 2 0 t.seen.length 5,.sl 5 0 t.sales.length 6,.sl 6 0 t.ord.length 1],.cells (jP c t.gs),.arr (oG t.seen) 5,.gone,.gone,.arr (rT c t.sales) 6,.arr (oU t.ord) 1]
theorem eI (l : List Bool) : ∀ e,e ∈ oU l → AV.idfL e = true := by intro e he;obtain ⟨i,_,rfl⟩ := bB.1 he;rfl
theorem fM (c : Cx) (l : List Sd) : ∀ e,e ∈ rT c l → AV.idfL e = true := by intro e he;obtain ⟨i,_,rfl⟩ := bB.1 he;rfl
theorem eY (l : List Ev) : ∀ e,e ∈ oG l → AV.idfL e = true := by intro e he;obtain ⟨i,_,rfl⟩ := bB.1 he;rfl
theorem PJ (l : List Sl) : ∀ e,e ∈ Y6 l → AV.idfL e = true := by intro e he;obtain ⟨i,_,rfl⟩ := bB.1 he;rfl
theorem U6 (c : Cx) (l : List Sd) : ∀ e,e ∈ rT c l → e.length = 6 := by intro e he;obtain ⟨n,_,rfl⟩ := bB.1 he;rfl
theorem sV (c : Cx) (l : List Sd) : (rT c l).length = l.length := aY _
theorem rA (l : List Ev) : (oG l).length = l.length := aY _
theorem tE (l : List Bool) : (oU l).length = l.length := aY _
theorem MZ (l : List Sl) : (Y6 l).length = l.length := aY _
theorem Z0 {c : Cx} {l : List Sd} {j : Int} {k : Nat} {x : Sd} (h : l[k]? = some x) (e : j = k) : (rT c l)[j.toNat]? = some (zG8 c x) := by
  subst e;rw [bM,bL,h];rfl
theorem NB {c : Cx} {l : List Sd} {j : Int} {k : Nat} {x : Sd} (h : l[k]? = some x) (e : j = k) : (rT c l)[0 + j.toNat]? = some (zG8 c x) := by rw [Nat.zero_add];exact Z0 h e
end Go.Ld
namespace Go.Proofs.YtmmmeebiobjnbaaGreat
open Go Go.Ab Go.Ld
attribute [local irreducible] VC AW cE aU iV
set_option maxHeartbeats 4000000
theorem VM (c : Cx) (hc : iU c) :
    aU Tryz.prog 10 [qA c.m c.st c.er c.sl,.rowE (jN c.ks) 2,.rowE (kU c.ls) 3,.rowE (fP c.bs) 3] [] (.tup [.ptr 0 0,.i 0]) [.cells [.rowE (kU c.ls) 3,.rowE (fP c.bs) 3,.ptr 1 0,.nils,.nils,.nils],.cells (jP c (pT c))] := by
  have hn := zU8 c hc;have hn8 := hc.f.n8;have hl10 := hc.f.l10;simp at hn8;have c2 := LN c.ls (by omega)
  have c3 := LO c.bs (by omega)
  refine bX T Tryz.func10 rfl rfl rfl rfl ?_
  (repeat' (first|refine wS ?_|(refine rg 0 (cH (cY rfl rfl) rfl (uV ?_)))|refine nZ ?_));refine gL 4 (cs := [.i c.m,.i c.st,.i c.er,.i c.sl]) rfl rfl rfl ?_
  (repeat' (first|refine wS ?_|refine wK ?_|refine wR ?_|refine wU ?_|(refine rg 1 (lW T rfl (dK rfl (mW rfl (cH (by exact fQ rfl rfl hn (.inr ⟨rfl,rfl,by simp⟩)) rfl ?_))));refine mW rfl (xW rfl (xW rfl (uV ?_))))|(refine rg 2 (mW rfl (vV (fY rfl rfl) ?_)))|(refine rg 4 (mW rfl (vV (kC (c2)) (mW rfl (vV (kC (c3)) (mW rfl (vV (by exact eR T rfl rfl rfl rfl) ?_))))));refine cH (cY rfl rfl) rfl (uV ?_))|refine nZ ?_));all_goals try (exfalso;omega)
  all_goals exact ⟨.inl rfl,[2,1],_,rfl,rfl,rfl,⟨.inr rfl,.inr rfl,trivial⟩,by decide,kI _⟩
theorem XY (a b : Nat) : ∀ i : Nat,i < 5 → ([0,1,2,3,4,a,b] : List Nat)[i]? = some i := by intro i hi;match i,hi with | 0,_ => rfl | 1,_ => rfl | 2,_ => rfl | 3,_ => rfl | 4,_ => rfl
theorem zQ9 : ∀ i : Nat,i < 5 → ([0,1,2,3,4] : List Nat)[i]? = some i := by decide
theorem PH (c : Cx) (t : Tr) (s : Ev) (hc : iU c) (h : kH c t) (hids : s.ids.length ≤ 1000000) (hn : t.seen.length ≤ 100000) (hm : t.ord.length ≤ 100000) (h0 : (eZ c t.gs s).1 = 0) :
    aU Tryz.prog 21 [.ptr 0 0,yC7 s] (HW c t) (.i 0) (D7 c ⟨(eZ c t.gs s).2,t.seen ++ [s],t.sales,t.ord ++ [false]⟩) := by
  have hse := WK c t.gs s hc h.lk.gk (by omega)
  have hcl := kE (len := s.ids.length) (dA _).symm (gE (bN _)) (HB s.ids (by omega))
  obtain ⟨gs,seen,sales,ord⟩ := t;dsimp only at *;generalize eZ c gs s = R at *;obtain ⟨code,gs'⟩ := R;dsimp only at *;have hel := rA seen;have hol := tE ord;subst h0;have e1 : oG (seen ++ [s]) = oG seen ++ [yU s] := by rw [oG,bO];rfl
  have e2 : oU (ord ++ [false]) = oU ord ++ [[.b false]] := by rw [oU,bO];rfl
  have i1 := eY (seen ++ [s]);have i2 := eI (ord ++ [false]);have i3 := fM c sales;have l1 : (seen ++ [s]).length = seen.length + 1 := by simp
  have l2 : (ord ++ [false]).length = ord.length + 1 := by simp
  unfold D7;dsimp only;rw [l1,l2];refine bX T Tryz.func21 rfl rfl rfl rfl ?_
  (repeat' (first|refine wS ?_|refine wK ?_|refine wU ?_|(refine rg 0 (cH (cY rfl rfl) rfl (aV ?_)))|(refine lN (id := 1) 38 [[],[0],[0,1],[0,1,2],[],rN 5] (rM 6 6) [[],[],[],[],rM 6 4,[]] [(5,1)] cW rfl (by decide +kernel) (cC rfl rfl rfl rfl (by exact bR rfl) ?_);refine cC rfl rfl rfl rfl (by exact cF rfl rfl) ?_;refine cC rfl rfl rfl rfl (by exact bG T rfl rfl rfl) ?_;refine cC rfl rfl rfl rfl (by exact aN T rfl rfl rfl rfl) ?_;refine cC rfl rfl rfl rfl (by exact aN T rfl rfl rfl rfl) ?_;refine mG rfl rfl rfl rfl (aG rfl) (by exact qM [1] rfl rfl (pJ hse) (fun _=>rfl) rfl (by decide) (fun _=>⟨.inr rfl,trivial⟩) (by simp) rfl (fun _ _=>rfl) rfl rfl) ?_;refine pB rfl rfl rfl (by exact rfl) ?_;refine aV ?_)|(refine rg 2 (mW rfl (vV (fY rfl rfl) ?_)))|(refine rg 4 (iP T rfl (vV (kC (hcl)) (fW T rfl (bA T rfl rfl rfl rfl rfl rfl (by decide) rfl ?_)))))|refine nZ ?_));all_goals try (exfalso;omega)
  refine gL 3 (cs := yU s) rfl rfl rfl ?_
  (repeat' (first|refine wS ?_|refine wR ?_|(refine lN (id := 5) 38 [[],[],[],[2],[2,3],[2,3,4],[],[6],rM 2 6,[],[9],[9,10],[9,10,11],[],rM 2 12,[0,2,3,4,5,6,7,8,9,10,11,12,13,14],[0,2,3,4,5,6,7,8,9,10,11,12,13,14,15],[0,2,3,4,5,6,7,8,9,10,11,12,13,14,15,16],rN 18,rN 19,rN 20] (rM 19 19) [[],[19],[19,20],[19,20],[19,20],[19,20],rM 19 6,rM 19 6,[19,20],rM 19 9,rM 19 9,rM 19 9,rM 19 9,rM 19 13,[19,20],[20],[20],[20],[],[],[]] [(8,2),(14,4),(17,0),(20,0)] cW rfl (by decide +kernel) (cC rfl rfl rfl rfl (by exact bR rfl) ?_);refine cC rfl rfl rfl rfl (by exact bR rfl) ?_;refine cC rfl rfl rfl rfl (by exact bR rfl) ?_;refine cC rfl rfl rfl rfl (by exact cF rfl rfl) ?_;refine cC rfl rfl rfl rfl (by exact bG T rfl rfl rfl) ?_;refine cC rfl rfl rfl rfl (by exact aN T rfl rfl rfl rfl) ?_;refine cC rfl rfl rfl rfl (by exact aN T rfl rfl rfl rfl) ?_;refine uF rfl rfl rfl rfl (by exact bD T rfl rfl (by decide) (by decide) rfl rfl rfl) rfl ?_;refine mG rfl rfl rfl rfl (aG rfl) (by exact lO T rfl rfl rfl rfl rfl rfl (by omega) (iY.whole rfl rfl) rfl (by simp;omega) (by simp;omega)) ?_;refine cC rfl rfl rfl rfl (by exact bR rfl) ?_;refine cC rfl rfl rfl rfl (by exact cF rfl rfl) ?_;refine cC rfl rfl rfl rfl (by exact bG T rfl rfl rfl) ?_;refine cC rfl rfl rfl rfl (by exact aN T rfl rfl rfl rfl) ?_;refine uF rfl rfl rfl rfl (by exact bD T rfl rfl (by decide) (by decide) rfl rfl rfl) rfl ?_;refine mG rfl rfl rfl rfl (aG rfl) (by exact lO T rfl rfl rfl rfl rfl rfl (by omega) (iY.whole rfl rfl) rfl (by simp;omega) (by simp;omega)) ?_;refine cC rfl rfl rfl rfl (by exact cF rfl rfl) ?_;refine cC rfl rfl rfl rfl (by exact bG T rfl rfl rfl) ?_;refine uR rfl rfl rfl rfl (aG rfl) T rfl rfl rfl rfl rfl rfl (by decide) rfl ?_;refine cC rfl rfl rfl rfl (by exact cF rfl rfl) ?_;refine cC rfl rfl rfl rfl (by exact bG T rfl rfl rfl) ?_;refine uR rfl rfl rfl rfl (aG rfl) T rfl rfl rfl rfl rfl rfl (by decide) rfl ?_;refine pB rfl rfl rfl (by exact rfl) ?_)|(refine rg 6 (aV ?_))|refine nZ ?_));all_goals try (exfalso;omega)
  all_goals exact ⟨.inl rfl,[0,1,2,3,4,8,10],_,rfl,rfl,rfl,⟨.inr rfl,.inr rfl,.inl rfl,.inr (aC rfl rfl i3),.inl rfl,.inr (aC rfl (by rw [e1];exact iO hel.symm) i1),.inr (aC rfl (by rw [e2];exact iO hol.symm) i2),trivial⟩,by decide,XY _ _⟩
theorem zF0 (c : Cx) (t : Tr) (s : Ev) (hc : iU c) (h : kH c t) (hids : s.ids.length ≤ 1000000) (h0 : (eZ c t.gs s).1 ≠ 0) :
    aU Tryz.prog 21 [.ptr 0 0,yC7 s] (HW c t) (.i (eZ c t.gs s).1) (HW c t) := by
  have hse := WK c t.gs s hc h.lk.gk (by omega)
  rw [WG h0] at hse;obtain ⟨gs,seen,sales,ord⟩ := t;dsimp only at *;generalize (eZ c gs s).1 = code at *;refine bX T Tryz.func21 rfl rfl rfl rfl ?_
  (repeat' (first|refine wS ?_|refine wR ?_|(refine wC rfl ?_ ?_<;>(intro hb;(try simp only [nm] at hb);try (exfalso;omega)))|(refine rg 0 (cH (cY rfl rfl) rfl (aV ?_)))|(refine lN (id := 1) 38 [[],[0],[0,1],[0,1,2],[],rN 5] (rM 6 6) [[],[],[],[],rM 6 4,[]] [(5,1)] cW rfl (by decide +kernel) (cC rfl rfl rfl rfl (by exact bR rfl) ?_);refine cC rfl rfl rfl rfl (by exact cF rfl rfl) ?_;refine cC rfl rfl rfl rfl (by exact bG T rfl rfl rfl) ?_;refine cC rfl rfl rfl rfl (by exact aN T rfl rfl rfl rfl) ?_;refine cC rfl rfl rfl rfl (by exact aN T rfl rfl rfl rfl) ?_;refine mG rfl rfl rfl rfl (aG rfl) (by exact qM [1] rfl rfl (pJ hse) (fun _=>rfl) rfl (by decide) (fun _=>⟨.inr rfl,trivial⟩) (by simp) rfl (fun _ _=>rfl) rfl rfl) ?_;refine pB rfl rfl rfl (by exact rfl) ?_;refine aV ?_)|(refine rg 2 (mW rfl (vV (fY rfl rfl) ?_)))|(refine rg 3 (mW rfl (aV ?_)))|refine nZ ?_));all_goals try (exfalso;omega)
  all_goals exact ⟨.inl rfl,[0,1,2,3,4],_,rfl,rfl,rfl,⟨.inr rfl,.inr rfl,.inr (aC rfl rfl (eY _)),.inr (aC rfl rfl (fM _ _)),.inr (aC rfl rfl (eI _)),trivial⟩,by decide,zQ9⟩
end Go.Proofs.YtmmmeebiobjnbaaGreat
namespace Go.Ab
open Go
theorem pC.freezeElP {n : Nat × Nat} {c : oI} {ρ : Pl} {S : Nat → Prop} {env : dW} {h : Hp} {a : Act} {w : World} {j f k off sz : Nat} {es es' : List (List AV)} {cs : List AV} (s : pC n c ρ S env h a w) (hj : h[j]? = some (.arr es sz)) (hne : j ≠ k) (h0 : es ≠ []) (hf : es.flatten[f]? = some (.ptr k off)) (hk : h[k]? = some (.cells cs)) (hi : AV.idfL cs = true)
    (hl : ∀ e,e ∈ es' → e.length = sz) (he : es'.flatten = es.flatten.set f (.pr cs off)) :
    pC n c ρ (fun b => S b ∨ ∃ o,ρ k = some (b,o)) env ((h.set k .gone).set j (.arr es' sz)) a w := by
  have h1 := s.hs.freezeC hk (by simp)
  have hj' : (h.set k .gone)[j]? = some (.arr es sz) := by rw [iT (Ne.symm hne)];exact hj
  refine ⟨s.size,s.defers.st (fun _ h => .inl h),fun t' x hx => US (fun _ h => .inl h) (s.env t' x hx),h1.alter hj' (fun _ => ?_) (by simp),s.cm⟩
  have hb := s.hs.blk j _ hj;simp only [RB] at hb ⊢;obtain ⟨b1,b2,b3⟩ := hb;refine ⟨hl,b2,?_⟩;rcases b3 with ⟨e,_⟩ | ⟨b,o,ys,e1,e2,e3⟩
  · exact absurd e h0
  · refine .inr ⟨b,o,ys,e1,e2,?_⟩;rw [he];exact W6 (fun _ h => .inl h) (fun y hy => BA hi (s.hs.blk k _ hk) hy) hf e3
section
variable {P : Program} {n : Nat × Nat} {env : dW} {h : Hp} {Q : Exit → dW → Hp → Prop} {code : Code}
theorem EY (j f : Nat) {k off sz : Nat} {es : List (List AV)} (es' : List (List AV)) {cs : List AV} (hj : h[j]? = some (.arr es sz)) (hne : j ≠ k) (h0 : es ≠ []) (hf : es.flatten[f]? = some (.ptr k off)) (hk : h[k]? = some (.cells cs)) (hi : AV.idfL cs = true)
    (hl : ∀ e,e ∈ es' → e.length = sz) (he : es'.flatten = es.flatten.set f (.pr cs off)) (hv : AW P n code env ((h.set k .gone).set j (.arr es' sz)) Q) : AW P n code env h Q :=
  fun c ρ S a w QQ s hQ => hv c ρ _ a w QQ (s.freezeElP hj hne h0 hf hk hi hl he) hQ
end
end Go.Ab
namespace Go.Ld
open Go.Ab Go.Proofs.YtmmmeebiobjnbaaGreat
def xT (t : Tr) (x : Sl) : Tr := ⟨t.gs,t.seen,t.sales ++ [⟨x,t.gs,t.seen.length⟩],t.ord ++ [true]⟩
theorem yC1 (a b d : Nat) : ∀ i : Nat,i < 5 → ([0,1,2,3,4,a,b,d] : List Nat)[i]? = some i := by intro i hi;match i,hi with | 0,_ => rfl | 1,_ => rfl | 2,_ => rfl | 3,_ => rfl | 4,_ => rfl
theorem Y8 (c : Cx) (t : Tr) (x : Sl) :
    (qB c t x = 4 ∧ (x.b < 0 ∨ (c.bs.length : Int) ≤ x.b)) ∨ (¬ (x.b < 0 ∨ (c.bs.length : Int) ≤ x.b) ∧
    ((qB c t x = 1 ∧ (x.n < 1 ∨ 20000 < x.n ∨ x.o < 0 ∨ x.t < 0 ∨ 20000 < x.t)) ∨ (¬ (x.n < 1 ∨ 20000 < x.n ∨ x.o < 0 ∨ x.t < 0 ∨ 20000 < x.t) ∧
    ((qB c t x = 3 ∧ 0 < t.sales.length ∧ x.t < AO t) ∨ (¬ (0 < t.sales.length ∧ x.t < AO t) ∧
    ((qB c t x = 6 ∧ 500 ≤ t.sales.length) ∨ (qB c t x = 0 ∧ t.sales.length < 500))))))) := by
  unfold qB;by_cases c1 : x.b < 0 ∨ (c.bs.length : Int) ≤ x.b
  · exact .inl ⟨if_pos c1,c1⟩
  · rw [if_neg c1];refine .inr ⟨c1,?_⟩;by_cases c2 : x.n < 1 ∨ 20000 < x.n ∨ x.o < 0 ∨ x.t < 0 ∨ 20000 < x.t
    · exact .inl ⟨if_pos c2,c2⟩
    · rw [if_neg c2];refine .inr ⟨c2,?_⟩;by_cases c3 : 0 < t.sales.length ∧ x.t < AO t
      · exact .inl ⟨if_pos c3,c3⟩
      · rw [if_neg c3];refine .inr ⟨c3,?_⟩;by_cases c4 : 500 ≤ t.sales.length
        · exact .inl ⟨if_pos c4,c4⟩
        · exact .inr ⟨if_neg c4,by omega⟩
theorem zK1 {t : Tr} (h0 : 0 < t.sales.length) : ∃ y,t.sales[t.sales.length - 1]? = some y ∧ AO t = y.s.t := by
  refine ⟨t.sales[t.sales.length - 1],aA (by omega),?_⟩
  unfold AO;rw [List.getLast?_eq_getElem?,aA (by omega)];rfl
theorem QP {A : List (List AV)} {a b c d x e : AV} : (A ++ [[a,b,c,d,x,e]]).flatten[A.flatten.length + 4]? = some x := by
  rw [fK,aE (by omega),show A.flatten.length + 4 - A.flatten.length = 4 by omega];rfl
theorem QO {A : List (List AV)} {a b c d x y e : AV} : (A ++ [[a,b,c,d,y,e]]).flatten = (A ++ [[a,b,c,d,x,e]]).flatten.set (A.flatten.length + 4) y := by
  rw [fK,fK,iL _ _ (by omega),show A.flatten.length + 4 - A.flatten.length = 4 by omega];rfl
end Go.Ld
namespace Go.Proofs.YtmmmeebiobjnbaaGreat
open Go Go.Ab Go.Ld
attribute [local irreducible] VC AW cE aU iV
set_option maxHeartbeats 4000000
theorem zO5 (c : Cx) (gs : List G) (hl : gs.length ≤ 1000) : aU Tryz.prog 39 [.pr (jP c gs) 0] [] (.ptr 0 0) [.cells (jP c gs)] := by
  have hc := kE (jH gs).symm (gE (eG gs)) (K4 gs (by omega))
  refine bX T Tryz.func39 rfl rfl rfl rfl ?_
  (repeat' (first|refine wS ?_|refine wR ?_|(refine rg 0 (aV ?_))|(refine rg 1 (mW rfl (nV ?_));refine lW T rfl (cH (cK T rfl) rfl (bA T rfl rfl rfl rfl rfl rfl (by decide) rfl ?_)))|(refine rg 2 (mW rfl (nV ?_));refine iP T rfl (vV (kC (hc)) (fW T rfl (bA T rfl rfl rfl rfl rfl rfl (by decide) rfl ?_))))|(refine rg 3 (aV ?_))|refine nZ ?_));all_goals exact ⟨.inl rfl,[0],_,rfl,rfl,rfl,⟨.inr rfl,trivial⟩,by decide,kI _⟩
theorem zO4 (c : Cx) (gs : List G) (hl : gs.length ≤ 1000) : aU Tryz.prog 39 [.ptr 0 0] [.cells (jP c gs)] (.ptr 1 0) ([.cells (jP c gs)] ++ [.cells (jP c gs)]) := by
  have hc := kE (jH gs).symm (gE (eG gs)) (K4 gs (by omega))
  refine bX T Tryz.func39 rfl rfl rfl rfl ?_
  (repeat' (first|refine wS ?_|refine wR ?_|(refine rg 0 (aV ?_))|(refine rg 1 (mW rfl (nV ?_));refine lW T rfl (cH (cK T rfl) rfl (bA T rfl rfl rfl rfl rfl rfl (by decide) rfl ?_)))|(refine rg 2 (mW rfl (nV ?_));refine iP T rfl (vV (kC (hc)) (fW T rfl (bA T rfl rfl rfl rfl rfl rfl (by decide) rfl ?_))))|(refine rg 3 (aV ?_))|refine nZ ?_));all_goals exact ⟨.inl rfl,[0,1],_,rfl,rfl,rfl,⟨.inr rfl,.inr rfl,trivial⟩,by decide,G8 _⟩
theorem PG (c : Cx) (t : Tr) (x : Sl) (h : kH c t) (hb : c.bs.length ≤ 1000) (hn : t.seen.length ≤ 100000) (hq : t.ord.length ≤ 100000) (hm : t.sales.length ≤ 100000) :
    aU Tryz.prog 17 [.ptr 0 0,.agg (zE0 x)] (HW c t) (.i (qB c t x)) (if qB c t x = 0 then F2 c (xT t x) else HW c t) := by
  have hgl : t.gs.length ≤ 12 := bK h.lk.gk.mid.out.len h.lk.gk.mid.out.ln;have hcs := Y8 c t x;have hlast := zK1 (t := t);unfold xT;generalize qB c t x = code at *;generalize AO t = lt at *;obtain ⟨gs,seen,sales,ord⟩ := t;obtain ⟨xt,xo,xb,xn⟩ := x;dsimp only at *;have hel := rA seen;have hol := tE ord;have hsl := sV c sales;have hbl : (fP c.bs).length = c.bs.length := aY _;have e1 : rT c (sales ++ [⟨⟨xt,xo,xb,xn⟩,gs,seen.length⟩]) = rT c sales ++ [[.i xt,.i xo,.i xb,.i xn,.pr (jP c gs) 0,.i (seen.length : Int)]] := by rw [rT,bO];rfl
  have e2 : oU (ord ++ [true]) = oU ord ++ [[.b true]] := by rw [oU,bO];rfl
  have l1 : (sales ++ [(⟨⟨xt,xo,xb,xn⟩,gs,seen.length⟩ : Sd)]).length = sales.length + 1 := by simp
  have l2 : (ord ++ [true]).length = ord.length + 1 := by simp
  have i2 := eI (ord ++ [true]);have hcp := zO4 c gs (by omega)
  rcases hcs with ⟨he,c1⟩ | ⟨c1,⟨he,c2⟩ | ⟨c2,⟨he,c3,c4⟩ | ⟨c3,⟨he,c4⟩ | ⟨he,c4⟩⟩⟩⟩
  · rw [he,if_neg (by decide)]
    refine bX T Tryz.func17 rfl rfl rfl rfl ?_
    (repeat' (first|refine wS ?_|refine wB ?_|(refine rg 0 (cH (cY rfl rfl) rfl (aV ?_)))|(refine rg 1 (mW rfl (nV ?_));refine iP T rfl (qW T rfl (aV ?_)))|refine nZ ?_));refine gL 3 (cs := zE0 ⟨xt,xo,xb,xn⟩) rfl rfl rfl ?_
    (repeat' (first|refine wS ?_|refine wR ?_|refine wT ?_|(refine wC rfl ?_ ?_<;>(intro hb;(try simp only [nm] at hb);try (exfalso;omega)))|(refine cO (id := 2) 100 yO7 [12,13,14,15,16,17,18,19,20,21,22,23,24,11] yO8 cW rfl (by decide +kernel) (dP T rfl (dO T rfl (dV rfl (aJ rfl rfl) (dM ?_))));(refine kZ rfl rfl rfl rfl ?_ ?_<;>(intro hb;rw [hb];(try simp only [nm] at hb);try (exfalso;omega))<;>first|(refine tF T ?_)|(refine dG ?_));(all_goals first|(refine tL T ?_)|(refine dG ?_));(all_goals first|(refine tM ?_)|(refine dG ?_));(all_goals first|(refine dT rfl (by exact cF rfl rfl) ?_)|(refine dG ?_));(all_goals first|(refine tF T ?_)|(refine dG ?_));(all_goals first|(refine tL T ?_)|(refine dG ?_));(all_goals first|(refine dT rfl (lM T rfl rfl) ?_)|(refine dG ?_));(all_goals first|(refine dT rfl (gV rfl rfl) ?_)|(refine dG ?_));(all_goals (refine dV rfl (by first|exact kM rfl rfl|exact jV rfl rfl) ?_;refine dV rfl (dJ rfl) (dE ?_))))|(refine rg 3 (aV ?_))|refine nZ ?_));all_goals try (exfalso;omega)
    all_goals exact ⟨.inl rfl,[0,1,2,3,4],_,rfl,rfl,rfl,⟨.inr rfl,.inr rfl,.inr (aC rfl rfl (eY _)),.inr (aC rfl rfl (fM _ _)),.inr (aC rfl rfl (eI _)),trivial⟩,by decide,zQ9⟩
  · rw [he,if_neg (by decide)]
    refine bX T Tryz.func17 rfl rfl rfl rfl ?_
    (repeat' (first|refine wS ?_|refine wB ?_|(refine rg 0 (cH (cY rfl rfl) rfl (aV ?_)))|(refine rg 1 (mW rfl (nV ?_));refine iP T rfl (qW T rfl (aV ?_)))|refine nZ ?_));refine gL 3 (cs := zE0 ⟨xt,xo,xb,xn⟩) rfl rfl rfl ?_
    (repeat' (first|refine wS ?_|refine wR ?_|refine wT ?_|(refine wC rfl ?_ ?_<;>(intro hb;(try simp only [nm] at hb);try (exfalso;omega)))|(refine cO (id := 2) 100 yO7 [12,13,14,15,16,17,18,19,20,21,22,23,24,11] yO8 cW rfl (by decide +kernel) (dP T rfl (dO T rfl (dV rfl (aJ rfl rfl) (dM ?_))));refine kZ rfl rfl rfl rfl ?_ ?_<;>(intro hb;rw [hb];(try simp only [nm] at hb);try (exfalso;omega))<;>(refine tF T ?_);(all_goals (refine tO T rfl (tN rfl (dT rfl (by exact cF rfl rfl) ?_));refine tP T rfl (tO T rfl (dT rfl (lM T rfl rfl) (dT rfl (gV rfl rfl) (dV rfl (jV rfl rfl) (dV rfl (dJ rfl) (dE ?_)))))))))|(refine rg 4 (iP T rfl (vV (aJ rfl rfl) (mV ?_)));refine bT rfl rfl ?_ ?_<;>(intro hb;rw [hb];(try simp only [nm] at hb);try (exfalso;omega));(all_goals first|(refine gT (fW T rfl (gT (lW T rfl (gT (vV (fB rfl rfl) ?_))))))|(iterate 3 refine gF ?_));(all_goals (refine pW rfl (mV ?_)));(all_goals first|(refine gK ?_)|(refine bT rfl rfl ?_ ?_<;>(intro hb;rw [hb];(try simp only [nm] at hb);try (exfalso;omega))));(all_goals first|(refine gT (fW T rfl (gT (lW T rfl (gT (vV (aJ rfl rfl) ?_))))))|(iterate 3 refine gF ?_));(all_goals (refine pW rfl (mV ?_)));(all_goals first|(refine gK ?_)|(refine bT rfl rfl ?_ ?_<;>(intro hb;rw [hb];(try simp only [nm] at hb);try (exfalso;omega))));(all_goals first|(refine gT (fW T rfl (gT (lW T rfl (gT (vV (aJ rfl rfl) ?_))))))|(iterate 3 refine gF ?_));(all_goals (refine pW rfl (mV ?_)));(all_goals first|(refine gK ?_)|(refine bT rfl rfl ?_ ?_<;>(intro hb;rw [hb];(try simp only [nm] at hb);try (exfalso;omega))));(all_goals first|(refine gT (fW T rfl (gT (lW T rfl (gT (vV (fB rfl rfl) ?_))))))|(iterate 3 refine gF ?_));(all_goals (refine pW rfl (aV ?_))))|(refine rg 5 (aV ?_))|refine nZ ?_));all_goals try (exfalso;omega)
    all_goals exact ⟨.inl rfl,[0,1,2,3,4],_,rfl,rfl,rfl,⟨.inr rfl,.inr rfl,.inr (aC rfl rfl (eY _)),.inr (aC rfl rfl (fM _ _)),.inr (aC rfl rfl (eI _)),trivial⟩,by decide,zQ9⟩
  · obtain ⟨y,hy,rfl⟩ := hlast c3;have qy := NB (c := c) (j := (sales.length : Int) - 1) hy (by omega)
    rw [he,if_neg (by decide)]
    refine bX T Tryz.func17 rfl rfl rfl rfl ?_
    (repeat' (first|refine wS ?_|refine wB ?_|(refine rg 0 (cH (cY rfl rfl) rfl (aV ?_)))|(refine rg 1 (mW rfl (nV ?_));refine iP T rfl (qW T rfl (aV ?_)))|refine nZ ?_));refine gL 3 (cs := zE0 ⟨xt,xo,xb,xn⟩) rfl rfl rfl ?_
    (repeat' (first|refine wS ?_|refine wR ?_|(refine wC rfl ?_ ?_<;>(intro hb;(try simp only [nm] at hb);try (exfalso;omega)))|(refine cO (id := 2) 100 yO7 [12,13,14,15,16,17,18,19,20,21,22,23,24,11] yO8 cW rfl (by decide +kernel) (dP T rfl (dO T rfl (dV rfl (aJ rfl rfl) (dM ?_))));refine kZ rfl rfl rfl rfl ?_ ?_<;>(intro hb;rw [hb];(try simp only [nm] at hb);try (exfalso;omega))<;>(refine tF T ?_);(all_goals (refine tO T rfl (tN rfl (dT rfl (by exact cF rfl rfl) ?_));refine tP T rfl (tO T rfl (dT rfl (lM T rfl rfl) (dT rfl (gV rfl rfl) (dV rfl (jV rfl rfl) (dV rfl (dJ rfl) (dE ?_)))))))))|(refine rg 4 (fW T rfl (vV (aN T rfl rfl rfl rfl) (vV (aJ rfl rfl) (mV ?_))));refine bT rfl rfl ?_ ?_<;>(intro hb;rw [hb];(try simp only [nm] at hb);try (exfalso;omega));(all_goals (refine yP T rfl (yV (aN T rfl rfl rfl rfl) (yV (fB rfl rfl) (pW rfl (mV ?_))));refine bT rfl rfl ?_ ?_<;>(intro hb;rw [hb];(try simp only [nm] at hb);try (exfalso;omega))));(all_goals (refine yP T rfl (yV (aN T rfl rfl rfl rfl) (yV (aJ rfl rfl) (pW rfl (mV ?_))));refine bT rfl rfl ?_ ?_<;>(intro hb;rw [hb];(try simp only [nm] at hb);try (exfalso;omega))));(all_goals (refine yP T rfl (yV (aN T rfl rfl rfl rfl) (yV (aJ rfl rfl) (pW rfl (mV ?_))));refine bT rfl rfl ?_ ?_<;>(intro hb;rw [hb];(try simp only [nm] at hb);try (exfalso;omega))));(all_goals (refine yP T rfl (yV (aN T rfl rfl rfl rfl) (yV (fB rfl rfl) (pW rfl (aV ?_)))))))|(refine cO (id := 6) 100 yO9 [50,51,52,53,54,55,56,57,58,59,60,61,62,63,64,65,66,49] yP0 cW rfl (by decide +kernel) (dN rfl (dV rfl (fB rfl rfl) (dM ?_)));refine kZ rfl rfl rfl rfl ?_ ?_<;>(intro hb;rw [hb];(try simp only [nm] at hb);try (exfalso;omega))<;>(refine tF T ?_);(all_goals (refine tO T rfl (tN rfl (dT rfl (by exact cF rfl rfl) ?_));refine tP T rfl (tO T rfl (tN rfl (dT rfl (cX rfl rfl (by omega) (by omega)) (dT rfl (by exact aO T rfl rfl rfl rfl rfl (by omega) (by omega)) ?_))));refine tP T rfl (tP T rfl (dT rfl (by exact aN T rfl rfl (bP rfl qy) rfl) ?_));refine dT rfl (aJ rfl rfl) (dV rfl (kM rfl rfl) (dV rfl (dJ rfl) (dE ?_))))))|(refine rg 7 (aV ?_))|refine nZ ?_));all_goals try (exfalso;omega)
    all_goals exact ⟨.inl rfl,[0,1,2,3,4],_,rfl,rfl,rfl,⟨.inr rfl,.inr rfl,.inr (aC rfl rfl (eY _)),.inr (aC rfl rfl (fM _ _)),.inr (aC rfl rfl (eI _)),trivial⟩,by decide,zQ9⟩
  · by_cases hs0 : 0 < sales.length
    · obtain ⟨y,hy,rfl⟩ := hlast hs0;have qy := NB (c := c) (j := (sales.length : Int) - 1) hy (by omega)
      have c5 : ¬ xt < y.s.t := fun q => c3 ⟨hs0,q⟩
      rw [he,if_neg (by decide)]
      refine bX T Tryz.func17 rfl rfl rfl rfl ?_
      (repeat' (first|refine wS ?_|refine wB ?_|(refine rg 0 (cH (cY rfl rfl) rfl (aV ?_)))|(refine rg 1 (mW rfl (nV ?_));refine iP T rfl (qW T rfl (aV ?_)))|refine nZ ?_));refine gL 3 (cs := zE0 ⟨xt,xo,xb,xn⟩) rfl rfl rfl ?_
      (repeat' (first|refine wS ?_|refine wR ?_|(refine wC rfl ?_ ?_<;>(intro hb;(try simp only [nm] at hb);try (exfalso;omega)))|(refine cO (id := 2) 100 yO7 [12,13,14,15,16,17,18,19,20,21,22,23,24,11] yO8 cW rfl (by decide +kernel) (dP T rfl (dO T rfl (dV rfl (aJ rfl rfl) (dM ?_))));refine kZ rfl rfl rfl rfl ?_ ?_<;>(intro hb;rw [hb];(try simp only [nm] at hb);try (exfalso;omega))<;>(refine tF T ?_);(all_goals (refine tO T rfl (tN rfl (dT rfl (by exact cF rfl rfl) ?_));refine tP T rfl (tO T rfl (dT rfl (lM T rfl rfl) (dT rfl (gV rfl rfl) (dV rfl (jV rfl rfl) (dV rfl (dJ rfl) (dE ?_)))))))))|(refine rg 4 (fW T rfl (vV (aN T rfl rfl rfl rfl) (vV (aJ rfl rfl) (mV ?_))));refine bT rfl rfl ?_ ?_<;>(intro hb;rw [hb];(try simp only [nm] at hb);try (exfalso;omega));(all_goals (refine yP T rfl (yV (aN T rfl rfl rfl rfl) (yV (fB rfl rfl) (pW rfl (mV ?_))));refine bT rfl rfl ?_ ?_<;>(intro hb;rw [hb];(try simp only [nm] at hb);try (exfalso;omega))));(all_goals (refine yP T rfl (yV (aN T rfl rfl rfl rfl) (yV (aJ rfl rfl) (pW rfl (mV ?_))));refine bT rfl rfl ?_ ?_<;>(intro hb;rw [hb];(try simp only [nm] at hb);try (exfalso;omega))));(all_goals (refine yP T rfl (yV (aN T rfl rfl rfl rfl) (yV (aJ rfl rfl) (pW rfl (mV ?_))));refine bT rfl rfl ?_ ?_<;>(intro hb;rw [hb];(try simp only [nm] at hb);try (exfalso;omega))));(all_goals (refine yP T rfl (yV (aN T rfl rfl rfl rfl) (yV (fB rfl rfl) (pW rfl (aV ?_)))))))|(refine cO (id := 6) 100 yO9 [50,51,52,53,54,55,56,57,58,59,60,61,62,63,64,65,66,49] yP0 cW rfl (by decide +kernel) (dN rfl (dV rfl (fB rfl rfl) (dM ?_)));refine kZ rfl rfl rfl rfl ?_ ?_<;>(intro hb;rw [hb];(try simp only [nm] at hb);try (exfalso;omega))<;>(refine tF T ?_);(all_goals (refine tO T rfl (tN rfl (dT rfl (by exact cF rfl rfl) ?_));refine tP T rfl (tO T rfl (tN rfl (dT rfl (cX rfl rfl (by omega) (by omega)) (dT rfl (by exact aO T rfl rfl rfl rfl rfl (by omega) (by omega)) ?_))));refine tP T rfl (tP T rfl (dT rfl (by exact aN T rfl rfl (bP rfl qy) rfl) ?_));refine dT rfl (aJ rfl rfl) (dV rfl (kM rfl rfl) (dV rfl (dJ rfl) (dE ?_))))))|(refine rg 8 (mW rfl (vV (gV rfl rfl) (aV ?_))))|(refine rg 9 (aV ?_))|refine nZ ?_));all_goals try (exfalso;omega)
      all_goals exact ⟨.inl rfl,[0,1,2,3,4],_,rfl,rfl,rfl,⟨.inr rfl,.inr rfl,.inr (aC rfl rfl (eY _)),.inr (aC rfl rfl (fM _ _)),.inr (aC rfl rfl (eI _)),trivial⟩,by decide,zQ9⟩
    · rw [he,if_neg (by decide)]
      refine bX T Tryz.func17 rfl rfl rfl rfl ?_
      (repeat' (first|refine wS ?_|refine wB ?_|(refine rg 0 (cH (cY rfl rfl) rfl (aV ?_)))|(refine rg 1 (mW rfl (nV ?_));refine iP T rfl (qW T rfl (aV ?_)))|refine nZ ?_));refine gL 3 (cs := zE0 ⟨xt,xo,xb,xn⟩) rfl rfl rfl ?_
      repeat' ((((refine cO (id := 2) 100 [[],[0],[0,1],[0,1,2],[0,1,2,3],[0,1,2,3,4],[0,1,2,3],[0,1,2,3,6],[0,1,2,3,6,7],[0,1,2,3,6,7,8],[0,1,2,3,6,7,8,9],[0,1,2,3,4,5,6,7,8,9,10],[0,1,2,3,4,5,6,7,8,9,10,11],[0,1,2,3,4,5,6,7,8,9,10,11,12]] [12,13,14,15,16,17,18,19,20,21,22,23,24,11] [[],[],[],[],[],[],[16,17],[16,17],[16,17],[16,17],[16,17],[],[],[]] cW rfl (by decide +kernel) ?_));(all_goals (refine dV rfl (by exact bG T rfl rfl rfl) ?_));(all_goals (refine dV rfl (by exact aN T rfl rfl rfl rfl) ?_));(all_goals (refine dV rfl (by exact aJ rfl rfl) ?_));(all_goals (refine dV rfl (by exact bR rfl) ?_));(all_goals (refine kZ rfl rfl rfl rfl ?_ ?_<;>(intro hb;rw [hb];(try simp only [nm] at hb);try (exfalso;omega))<;>fail));(all_goals fail);(all_goals fail);(all_goals fail);(all_goals fail);(all_goals fail);(all_goals fail);(all_goals fail);(all_goals fail);(all_goals fail);(all_goals (refine BH rfl rfl (by (fail)) ?_))))
      all_goals try (exfalso;omega)
      all_goals exact ⟨.inl rfl,[0,1,2,3,4],_,rfl,rfl,rfl,⟨.inr rfl,.inr rfl,.inr (aC rfl rfl (eY _)),.inr (aC rfl rfl (fM _ _)),.inr (aC rfl rfl (eI _)),trivial⟩,by decide,zQ9⟩
  · by_cases hs0 : 0 < sales.length
    · obtain ⟨y,hy,rfl⟩ := hlast hs0;have qy := NB (c := c) (j := (sales.length : Int) - 1) hy (by omega)
      have c5 : ¬ xt < y.s.t := fun q => c3 ⟨hs0,q⟩
      rw [he,if_pos rfl];unfold F2;dsimp only;rw [l1,l2];refine bX T Tryz.func17 rfl rfl rfl rfl ?_
      (repeat' (first|refine wS ?_|refine wB ?_|(refine rg 0 (cH (cY rfl rfl) rfl (aV ?_)))|(refine rg 1 (mW rfl (nV ?_));refine iP T rfl (qW T rfl (aV ?_)))|refine nZ ?_));refine gL 3 (cs := zE0 ⟨xt,xo,xb,xn⟩) rfl rfl rfl ?_
      (repeat' (first|refine wS ?_|refine wK ?_|(refine wC rfl ?_ ?_<;>(intro hb;(try simp only [nm] at hb);try (exfalso;omega)))|(refine cO (id := 2) 100 yO7 [12,13,14,15,16,17,18,19,20,21,22,23,24,11] yO8 cW rfl (by decide +kernel) (dP T rfl (dO T rfl (dV rfl (aJ rfl rfl) (dM ?_))));refine kZ rfl rfl rfl rfl ?_ ?_<;>(intro hb;rw [hb];(try simp only [nm] at hb);try (exfalso;omega))<;>(refine tF T ?_);(all_goals (refine tO T rfl (tN rfl (dT rfl (by exact cF rfl rfl) ?_));refine tP T rfl (tO T rfl (dT rfl (lM T rfl rfl) (dT rfl (gV rfl rfl) (dV rfl (jV rfl rfl) (dV rfl (dJ rfl) (dE ?_)))))))))|(refine rg 4 (fW T rfl (vV (aN T rfl rfl rfl rfl) (vV (aJ rfl rfl) (mV ?_))));refine bT rfl rfl ?_ ?_<;>(intro hb;rw [hb];(try simp only [nm] at hb);try (exfalso;omega));(all_goals (refine yP T rfl (yV (aN T rfl rfl rfl rfl) (yV (fB rfl rfl) (pW rfl (mV ?_))));refine bT rfl rfl ?_ ?_<;>(intro hb;rw [hb];(try simp only [nm] at hb);try (exfalso;omega))));(all_goals (refine yP T rfl (yV (aN T rfl rfl rfl rfl) (yV (aJ rfl rfl) (pW rfl (mV ?_))));refine bT rfl rfl ?_ ?_<;>(intro hb;rw [hb];(try simp only [nm] at hb);try (exfalso;omega))));(all_goals (refine yP T rfl (yV (aN T rfl rfl rfl rfl) (yV (aJ rfl rfl) (pW rfl (mV ?_))));refine bT rfl rfl ?_ ?_<;>(intro hb;rw [hb];(try simp only [nm] at hb);try (exfalso;omega))));(all_goals (refine yP T rfl (yV (aN T rfl rfl rfl rfl) (yV (fB rfl rfl) (pW rfl (aV ?_)))))))|(refine cO (id := 6) 100 yO9 [50,51,52,53,54,55,56,57,58,59,60,61,62,63,64,65,66,49] yP0 cW rfl (by decide +kernel) (dN rfl (dV rfl (fB rfl rfl) (dM ?_)));refine kZ rfl rfl rfl rfl ?_ ?_<;>(intro hb;rw [hb];(try simp only [nm] at hb);try (exfalso;omega))<;>(refine tF T ?_);(all_goals (refine tO T rfl (tN rfl (dT rfl (by exact cF rfl rfl) ?_));refine tP T rfl (tO T rfl (tN rfl (dT rfl (cX rfl rfl (by omega) (by omega)) (dT rfl (by exact aO T rfl rfl rfl rfl rfl (by omega) (by omega)) ?_))));refine tP T rfl (tP T rfl (dT rfl (by exact aN T rfl rfl (bP rfl qy) rfl) ?_));refine dT rfl (aJ rfl rfl) (dV rfl (kM rfl rfl) (dV rfl (dJ rfl) (dE ?_))))))|(refine rg 8 (mW rfl (vV (gV rfl rfl) (aV ?_))))|(refine lN (id := 10) 100 yP1 (rM 70 30) yP2 [(11,1),(19,3),(25,4),(28,0),(31,0)] cW rfl (by decide +kernel) (cC rfl rfl rfl rfl (by exact bR rfl) ?_);refine cC rfl rfl rfl rfl (by exact bR rfl) ?_;refine cC rfl rfl rfl rfl (by exact bR rfl) ?_;refine cC rfl rfl rfl rfl (by exact cF rfl rfl) ?_;refine cC rfl rfl rfl rfl (by exact bG T rfl rfl rfl) ?_;refine cC rfl rfl rfl rfl (by exact aN T rfl rfl rfl rfl) ?_;refine cC rfl rfl rfl rfl (by exact aN T rfl rfl rfl rfl) ?_;refine cC rfl rfl rfl rfl (by exact bR rfl) ?_;refine cC rfl rfl rfl rfl (by exact cF rfl rfl) ?_;refine cC rfl rfl rfl rfl (by exact bG T rfl rfl rfl) ?_;refine cC rfl rfl rfl rfl (by exact aN T rfl rfl rfl rfl) ?_;refine mG rfl rfl rfl rfl (aG rfl) (by exact qM [1] rfl rfl hcp (fun _=>rfl) rfl (by decide) (fun _=>⟨.inr rfl,trivial⟩) (by simp) rfl (fun _ _=>rfl) rfl rfl) ?_;refine cC rfl rfl rfl rfl (by exact bR rfl) ?_;refine cC rfl rfl rfl rfl (by exact cF rfl rfl) ?_;refine cC rfl rfl rfl rfl (by exact bG T rfl rfl rfl) ?_;refine cC rfl rfl rfl rfl (by exact aN T rfl rfl rfl rfl) ?_;refine cC rfl rfl rfl rfl (by exact O6 T rfl rfl) ?_;refine cC rfl rfl rfl rfl (by exact eR T rfl rfl rfl rfl) ?_;refine uF rfl rfl rfl rfl (by exact bD T rfl rfl (by decide) (by decide) rfl rfl rfl) rfl ?_;refine mG rfl rfl rfl rfl (aG rfl) (by exact lO T rfl rfl rfl rfl rfl rfl (by omega) (iY.whole rfl rfl) rfl (by simp;omega) (by simp;omega)) ?_;refine cC rfl rfl rfl rfl (by exact bR rfl) ?_;refine cC rfl rfl rfl rfl (by exact cF rfl rfl) ?_;refine cC rfl rfl rfl rfl (by exact bG T rfl rfl rfl) ?_;refine cC rfl rfl rfl rfl (by exact aN T rfl rfl rfl rfl) ?_;refine uF rfl rfl rfl rfl (by exact bD T rfl rfl (by decide) (by decide) rfl rfl rfl) rfl ?_;refine mG rfl rfl rfl rfl (aG rfl) (by exact lO T rfl rfl rfl rfl rfl rfl (by omega) (iY.whole rfl rfl) rfl (by simp;omega) (by simp;omega)) ?_;refine cC rfl rfl rfl rfl (by exact cF rfl rfl) ?_;refine cC rfl rfl rfl rfl (by exact bG T rfl rfl rfl) ?_;refine uR rfl rfl rfl rfl (aG rfl) T rfl rfl rfl rfl rfl rfl (by decide) rfl ?_;refine cC rfl rfl rfl rfl (by exact cF rfl rfl) ?_;refine cC rfl rfl rfl rfl (by exact bG T rfl rfl rfl) ?_;refine uR rfl rfl rfl rfl (aG rfl) T rfl rfl rfl rfl rfl rfl (by decide) rfl ?_;refine pB rfl rfl rfl (by exact rfl) ?_)|refine nZ ?_));all_goals try (exfalso;omega)
      refine eU [] [.cells [.rowE (kU c.ls) 3,.rowE (fP c.bs) 3,.ptr 1 0,.sl 2 0 seen.length 5,.sl 5 0 (sales.length + 1) 6,.sl 6 0 (ord.length + 1) 1],.cells (jP c gs),.arr (oG seen) 5,.gone,.gone,.arr (rT c sales ++ [[.i xt,.i xo,.i xb,.i xn,.ptr 7 0,.i (seen.length : Int)]]) 6,.arr (oU (ord ++ [true])) 1,.cells (jP c gs)] ⟨[0,1,2,3,4,8,10,6],rfl,trivial,⟨.inr rfl,.inr rfl,.inr (aC rfl rfl (eY _)),.inl rfl,.inl rfl,.inr (OC rfl (by rw [lZ];exact bS (by omega)) rfl (fM _ _)),.inr (aC rfl (by rw [e2];exact iO hol.symm) i2),.inr rfl,trivial⟩,by decide,yC1 _ _ _⟩ ?_
      refine EY 5 ((rT c sales).flatten.length + 4) (rT c (sales ++ [⟨⟨xt,xo,xb,xn⟩,gs,seen.length⟩])) rfl (by decide) (by simp) QP rfl rfl (U6 _ _) (by rw [e1];exact QO) ?_
      (repeat' (first|refine wR ?_|(refine rg 11 (aV ?_))|refine nZ ?_));all_goals try (exfalso;omega)
      all_goals exact ⟨.inl rfl,[0,1,2,3,4,5,6],_,rfl,rfl,rfl,⟨.inr rfl,.inr rfl,.inr (aC rfl rfl (eY _)),.inl rfl,.inl rfl,.inr (aC rfl rfl (fM _ _)),.inr (aC rfl rfl (eI _)),trivial⟩,by decide,XY _ _⟩
    · rw [he,if_pos rfl];unfold F2;dsimp only;rw [l1,l2];refine bX T Tryz.func17 rfl rfl rfl rfl ?_
      (repeat' (first|refine wS ?_|refine wB ?_|(refine rg 0 (cH (cY rfl rfl) rfl (aV ?_)))|(refine rg 1 (mW rfl (nV ?_));refine iP T rfl (qW T rfl (aV ?_)))|refine nZ ?_));refine gL 3 (cs := zE0 ⟨xt,xo,xb,xn⟩) rfl rfl rfl ?_
      (repeat' (first|refine wS ?_|refine wK ?_|refine wU ?_|(refine wC rfl ?_ ?_<;>(intro hb;(try simp only [nm] at hb);try (exfalso;omega)))|(refine cO (id := 2) 100 yO7 [12,13,14,15,16,17,18,19,20,21,22,23,24,11] yO8 cW rfl (by decide +kernel) (dP T rfl (dO T rfl (dV rfl (aJ rfl rfl) (dM ?_))));refine kZ rfl rfl rfl rfl ?_ ?_<;>(intro hb;rw [hb];(try simp only [nm] at hb);try (exfalso;omega))<;>(refine tF T ?_);(all_goals (refine tO T rfl (tN rfl (dT rfl (by exact cF rfl rfl) ?_));refine tP T rfl (tO T rfl (dT rfl (lM T rfl rfl) (dT rfl (gV rfl rfl) (dV rfl (jV rfl rfl) (dV rfl (dJ rfl) (dE ?_)))))))))|(refine rg 4 (iP T rfl (vV (aJ rfl rfl) (mV ?_)));refine bT rfl rfl ?_ ?_<;>(intro hb;rw [hb];(try simp only [nm] at hb);try (exfalso;omega));(all_goals (refine yP T rfl (yO T rfl (yV (fB rfl rfl) (pW rfl (mV ?_))));refine bT rfl rfl ?_ ?_<;>(intro hb;rw [hb];(try simp only [nm] at hb);try (exfalso;omega))));(all_goals (refine yP T rfl (yO T rfl (yV (aJ rfl rfl) (pW rfl (mV ?_))));refine bT rfl rfl ?_ ?_<;>(intro hb;rw [hb];(try simp only [nm] at hb);try (exfalso;omega))));(all_goals (refine yP T rfl (yO T rfl (yV (aJ rfl rfl) (pW rfl (mV ?_))));refine bT rfl rfl ?_ ?_<;>(intro hb;rw [hb];(try simp only [nm] at hb);try (exfalso;omega))));(all_goals (refine yP T rfl (yO T rfl (yV (fB rfl rfl) (pW rfl (aV ?_)))))))|(refine cO (id := 6) 100 yO9 [50,51,52,53,54,55,56,57,58,59,60,61,62,63,64,65,66,49] yP0 cW rfl (by decide +kernel) (dN rfl (dV rfl (fB rfl rfl) (dM ?_)));refine kZ rfl rfl rfl rfl ?_ ?_<;>(intro hb;rw [hb];(try simp only [nm] at hb);try (exfalso;omega))<;>(refine dG ?_);(all_goals (refine tG rfl (tG rfl (tG rfl (tG rfl (tG rfl (tG rfl (tG rfl (tG rfl (tG rfl (dG ?_)))))))));refine tG rfl (tG rfl (dV rfl (jV rfl rfl) (dV rfl (dJ rfl) (dE ?_)))))))|(refine rg 8 (mW rfl (vV (gV rfl rfl) (aV ?_))))|(refine lN (id := 10) 100 yP1 (rM 70 30) yP2 [(11,1),(19,3),(25,4),(28,0),(31,0)] cW rfl (by decide +kernel) (cC rfl rfl rfl rfl (by exact bR rfl) ?_);refine cC rfl rfl rfl rfl (by exact bR rfl) ?_;refine cC rfl rfl rfl rfl (by exact bR rfl) ?_;refine cC rfl rfl rfl rfl (by exact cF rfl rfl) ?_;refine cC rfl rfl rfl rfl (by exact bG T rfl rfl rfl) ?_;refine cC rfl rfl rfl rfl (by exact aN T rfl rfl rfl rfl) ?_;refine cC rfl rfl rfl rfl (by exact aN T rfl rfl rfl rfl) ?_;refine cC rfl rfl rfl rfl (by exact bR rfl) ?_;refine cC rfl rfl rfl rfl (by exact cF rfl rfl) ?_;refine cC rfl rfl rfl rfl (by exact bG T rfl rfl rfl) ?_;refine cC rfl rfl rfl rfl (by exact aN T rfl rfl rfl rfl) ?_;refine mG rfl rfl rfl rfl (aG rfl) (by exact qM [1] rfl rfl hcp (fun _=>rfl) rfl (by decide) (fun _=>⟨.inr rfl,trivial⟩) (by simp) rfl (fun _ _=>rfl) rfl rfl) ?_;refine cC rfl rfl rfl rfl (by exact bR rfl) ?_;refine cC rfl rfl rfl rfl (by exact cF rfl rfl) ?_;refine cC rfl rfl rfl rfl (by exact bG T rfl rfl rfl) ?_;refine cC rfl rfl rfl rfl (by exact aN T rfl rfl rfl rfl) ?_;refine cC rfl rfl rfl rfl (by exact O6 T rfl rfl) ?_;refine cC rfl rfl rfl rfl (by exact eR T rfl rfl rfl rfl) ?_;refine uF rfl rfl rfl rfl (by exact bD T rfl rfl (by decide) (by decide) rfl rfl rfl) rfl ?_;refine mG rfl rfl rfl rfl (aG rfl) (by exact lO T rfl rfl rfl rfl rfl rfl (by omega) (iY.whole rfl rfl) rfl (by simp;omega) (by simp;omega)) ?_;refine cC rfl rfl rfl rfl (by exact bR rfl) ?_;refine cC rfl rfl rfl rfl (by exact cF rfl rfl) ?_;refine cC rfl rfl rfl rfl (by exact bG T rfl rfl rfl) ?_;refine cC rfl rfl rfl rfl (by exact aN T rfl rfl rfl rfl) ?_;refine uF rfl rfl rfl rfl (by exact bD T rfl rfl (by decide) (by decide) rfl rfl rfl) rfl ?_;refine mG rfl rfl rfl rfl (aG rfl) (by exact lO T rfl rfl rfl rfl rfl rfl (by omega) (iY.whole rfl rfl) rfl (by simp;omega) (by simp;omega)) ?_;refine cC rfl rfl rfl rfl (by exact cF rfl rfl) ?_;refine cC rfl rfl rfl rfl (by exact bG T rfl rfl rfl) ?_;refine uR rfl rfl rfl rfl (aG rfl) T rfl rfl rfl rfl rfl rfl (by decide) rfl ?_;refine cC rfl rfl rfl rfl (by exact cF rfl rfl) ?_;refine cC rfl rfl rfl rfl (by exact bG T rfl rfl rfl) ?_;refine uR rfl rfl rfl rfl (aG rfl) T rfl rfl rfl rfl rfl rfl (by decide) rfl ?_;refine pB rfl rfl rfl (by exact rfl) ?_)|refine nZ ?_));all_goals try (exfalso;omega)
      refine eU [] [.cells [.rowE (kU c.ls) 3,.rowE (fP c.bs) 3,.ptr 1 0,.sl 2 0 seen.length 5,.sl 5 0 (sales.length + 1) 6,.sl 6 0 (ord.length + 1) 1],.cells (jP c gs),.arr (oG seen) 5,.gone,.gone,.arr (rT c sales ++ [[.i xt,.i xo,.i xb,.i xn,.ptr 7 0,.i (seen.length : Int)]]) 6,.arr (oU (ord ++ [true])) 1,.cells (jP c gs)] ⟨[0,1,2,3,4,8,10,6],rfl,trivial,⟨.inr rfl,.inr rfl,.inr (aC rfl rfl (eY _)),.inl rfl,.inl rfl,.inr (OC rfl (by rw [lZ];exact bS (by omega)) rfl (fM _ _)),.inr (aC rfl (by rw [e2];exact iO hol.symm) i2),.inr rfl,trivial⟩,by decide,yC1 _ _ _⟩ ?_
      refine EY 5 ((rT c sales).flatten.length + 4) (rT c (sales ++ [⟨⟨xt,xo,xb,xn⟩,gs,seen.length⟩])) rfl (by decide) (by simp) QP rfl rfl (U6 _ _) (by rw [e1];exact QO) ?_
      (repeat' (first|refine wR ?_|(refine rg 11 (aV ?_))|refine nZ ?_));all_goals try (exfalso;omega)
      all_goals exact ⟨.inl rfl,[0,1,2,3,4,5,6],_,rfl,rfl,rfl,⟨.inr rfl,.inr rfl,.inr (aC rfl rfl (eY _)),.inl rfl,.inl rfl,.inr (aC rfl rfl (fM _ _)),.inr (aC rfl rfl (eI _)),trivial⟩,by decide,XY _ _⟩
theorem VI (c : Cx) (t : Tr) (hm : t.sales.length ≤ 100000) : aU Tryz.prog 11 [.pr (FK c t) 0] [] (.sl 0 0 t.sales.length 4) [.arr (Y6 (t.sales.map (·.s))) 4] := by
  obtain ⟨gs,seen,sales,ord⟩ := t;dsimp only at *;have hsl := sV c sales;refine bX T Tryz.func11 rfl rfl rfl rfl ?_
  (repeat' (first|refine wS ?_|(refine rg 0 (aV ?_))|refine nZ ?_));all_goals try (exfalso;omega)
  (repeat' (first|refine wS ?_|(refine rg 1 (vV (dJ rfl) (nG 3 4 rfl (by decide) ?_)))|refine nZ ?_));all_goals try (exfalso;omega)
  (repeat' (first|refine wB ?_|(refine rg 2 (mW rfl (nV ?_));refine iP T rfl (qW T rfl (mV ?_)))|refine nZ ?_));all_goals try (exfalso;omega)
  refine dC (X := {k : Nat // k ≤ sales.length}) (fun k => [(3,.sl 0 0 k.1 4),(9,.rowE (rT c sales) 6),(10,.i (rT c sales).length),(11,.i k.1)]) (fun k => [.arr (Y6 ((sales.take k.1).map (·.s))) 4]) (fun k => sales.length - k.1) ⟨0,bY _⟩ ⟨[0],rfl,(by repeat first|exact trivial|refine ⟨rfl,?_⟩),⟨.inr rfl,trivial⟩,by decide,kI _⟩ ?_
  rintro ⟨k,hk⟩;dsimp only;by_cases hlt : k < sales.length
  · have hg := Z0 (c := c) (j := (k : Int)) (aA hlt) rfl;have e1 : Y6 ((sales.take (k + 1)).map (·.s)) = Y6 ((sales.take k).map (·.s)) ++ [zE0 sales[k].s] := by rw [aP hlt,bO,Y6,bO];rfl
    have hl : (Y6 ((sales.take k).map (·.s))).length = k := by rw [MZ,aY,bC];omega
    have i1 := PJ ((sales.take (k + 1)).map (·.s));generalize Y6 ((sales.take k).map (·.s)) = A at *;generalize sales[k] = x at *;obtain ⟨⟨xt,xo,xb,xn⟩,xg,xm⟩ := x;dsimp only at *
    (repeat' (first|refine wS ?_|refine wB ?_|refine wK ?_|(refine wC rfl ?_ ?_<;>(intro hb;(try simp only [nm] at hb);try (exfalso;omega)))|(refine rg 3 (vV (aJ rfl rfl) ?_))|(refine rg 4 (vV (ix T rfl (by omega) (U6 _ _) hg) (lW T rfl (cH (cK T rfl) rfl (bA T rfl rfl rfl rfl rfl rfl (by decide) rfl ?_)))))|refine nZ ?_));all_goals try (exfalso;omega)
    refine gL 5 (cs := zG8 c ⟨⟨xt,xo,xb,xn⟩,xg,xm⟩) rfl rfl rfl ?_
    (repeat' (first|(refine rg 5 (mW rfl (iP T rfl (cH (by exact bD T rfl rfl (by decide) (by decide) rfl rfl rfl) rfl ?_)));refine fR T rfl rfl rfl rfl rfl rfl (by omega) (iY.whole rfl rfl) rfl (by simp;omega) (by simp;omega) rfl ?_;refine aV ?_)|(refine rg 6 (vV (cJ rfl rfl (by omega) (by omega)) (mV ?_)))|refine nZ ?_));all_goals try (exfalso;omega)
    all_goals exact ⟨⟨k + 1,hlt⟩,by dsimp only;omega,⟨[3],rfl,(by repeat first|exact trivial|refine ⟨rfl,?_⟩),⟨.inr (aC rfl (by dsimp only;rw [e1];exact iO hl.symm) i1),trivial⟩,by decide,kI _⟩⟩
  · obtain rfl : k = sales.length := by omega
    rw [cM]
    (repeat' (first|refine wS ?_|refine wR ?_|refine wE ?_|(refine wC rfl ?_ ?_<;>(intro hb;(try simp only [nm] at hb);try (exfalso;omega)))|(refine rg 3 (vV (aJ rfl rfl) ?_))|(refine rg 7 (mW rfl (aV ?_)))|refine nZ ?_));all_goals try (exfalso;omega)
    exact ⟨.inl rfl,[0],_,rfl,rfl,rfl,⟨.inr (aC rfl rfl (PJ _)),trivial⟩,by decide,kI _⟩
end Go.Proofs.YtmmmeebiobjnbaaGreat
namespace Go.Ld
theorem NN (c : Cx) (gs : List G) (s : Ev) (L : List Ev) : uB c gs (s :: L) = (!decide ((eZ c gs s).1 = 26) && uB c (eZ c gs s).2 L) := rfl
def FT (c : Cx) : List G → List Ev → List G
  | gs,[] => gs
  | gs,s :: L => if (eZ c gs s).1 = 26 then (eZ c gs s).2 else FT c (eZ c gs s).2 L
def GI (c : Cx) : List G → List Ev → Nat → Int
  | _,[],_ => -1
  | gs,s :: L,k => if (eZ c gs s).1 = 26 then (k : Int) else GI c (eZ c gs s).2 L (k + 1)
theorem DJ (c : Cx) (gs : List G) (s : Ev) (L : List Ev) : FT c gs (s :: L) = if (eZ c gs s).1 = 26 then (eZ c gs s).2 else FT c (eZ c gs s).2 L := rfl
theorem O4 (c : Cx) (gs : List G) (s : Ev) (L : List Ev) (k : Nat) : GI c gs (s :: L) k = if (eZ c gs s).1 = 26 then (k : Int) else GI c (eZ c gs s).2 L (k + 1) := rfl
theorem QJ {c : Cx} : ∀ {L : List Ev} {gs : List G} {k : Nat}, decide (0 ≤ GI c gs L k) = !uB c gs L
  | [],gs,k => by simp [GI,uB]
  | s :: L,gs,k => by
    rw [O4,NN];by_cases h : (eZ c gs s).1 = 26
    · rw [if_pos h,decide_eq_true h];simp
    · rw [if_neg h,decide_eq_false h,QJ];simp
end Go.Ld
namespace Go.Proofs.YtmmmeebiobjnbaaGreat
open Go Go.Ab Go.Ld
attribute [local irreducible] VC AW cE aU iV yD
set_option maxHeartbeats 4000000
abbrev CM (c : Cx) (gs : List G) : Hp := [.cells [.ptr 1 0],.cells (jP c gs)]
theorem TF : ∀ i : Nat,i < 2 → ([0,1] : List Nat)[i]? = some i := by decide
theorem LD (c : Cx) (gs : List G) (s : Ev) (hc : iU c) (h : oZ c gs) (hids : s.ids.length ≤ 9223372036854775807) :
    aU Tryz.prog 56 [yC7 s,.ptr 0 0] (CM c gs) (.b (decide ((eZ c gs s).1 = 26))) (CM c (eZ c gs s).2) := by
  have hse := WK c gs s hc h hids;generalize eZ c gs s = R at *;obtain ⟨code,gs'⟩ := R;dsimp only at *;refine bX T Tryz.func56 rfl rfl rfl rfl ?_
  (repeat' (first|refine wS ?_|(refine rg 0 (cH (cY rfl rfl) rfl (aV ?_)))|refine nZ ?_));refine gL 2 (cs := yU s) rfl rfl rfl ?_
  (repeat' (first|refine wR ?_|(refine rg 1 (lW T rfl (lW T rfl (eA [1] rfl rfl (hse) rfl rfl (by decide) ⟨.inr rfl,trivial⟩ (by simp) rfl ?_)));refine vV (eX rfl rfl) (aV ?_))|refine nZ ?_));all_goals try (exfalso;omega)
  all_goals exact ⟨.inl rfl,[0,1],_,rfl,rfl,rfl,⟨.inr rfl,.inr rfl,trivial⟩,by decide,TF⟩
theorem UG (c : Cx) (gs : List G) (b i : Int) (hc : iU c) (h : oZ c gs) :
    aU Tryz.prog 56 [.agg [.i 5,.i b,.i 0,.i i,.nils],.ptr 0 0] (CM c gs) (.b (decide ((eZ c gs (oE b i)).1 = 26))) (CM c (eZ c gs (oE b i)).2) :=
  FB (LD c gs (oE b i) hc h (bY _)) fun S w ρ ys => lX (fun _ h => MB h) fun _ h => h
theorem zK6 (c : Cx) (gs : List G) (L : List Ev) (hc : iU c) (h : oZ c gs) (hl : L.length ≤ 100000) (hids : ∀ s,s ∈ L → s.ids.length ≤ 9223372036854775807) :
    aU Tryz.prog 80 [.rowE (oG L) 5,.clo (.func 56) [] [.ptr 0 0]] (CM c gs) (.i (GI c gs L 0)) (CM c (FT c gs L)) := by
  have hel := rA L;have hm0 := hc.s.1;have hm1 := hc.s.2.1;refine bX T Tryz.func80 rfl rfl rfl rfl ?_
  (repeat' (first|refine wS ?_|refine wB ?_|(refine rg 0 (aV ?_))|(refine rg 1 (mW rfl (qW T rfl (mV ?_))))|refine nZ ?_));refine dC (X := {x : Nat × List G // x.1 ≤ L.length ∧ oZ c x.2 ∧ FT c gs L = FT c x.2 (L.drop x.1) ∧ GI c gs L 0 = GI c x.2 (L.drop x.1) x.1}) (fun x => [(0,.rowE (oG L) 5),(1,.clo (.func 56) [] [.ptr 0 0]),(7,.i (oG L).length),(8,.i x.1.1)]) (fun x => CM c x.1.2) (fun x => L.length - x.1.1) ⟨(0,gs),bY _,h,rfl,rfl⟩ ⟨[0,1],rfl,(by repeat first|exact trivial|refine ⟨rfl,?_⟩),⟨.inr rfl,.inr rfl,trivial⟩,by decide,TF⟩ ?_
  rintro ⟨⟨k,g⟩,hk,hg,hok,hix⟩;dsimp only at hk hg hok hix ⊢;rw [hok,hix];by_cases hlt : k < L.length
  · have hgt := LF hlt;have hfc := LD c g L[k] hc hg (hids _ (aM hlt));have hg2 := FS (s := L[k]) hg hm0 hm1;rw [aT hlt,DJ] at hok;rw [aT hlt,O4] at hix;rw [aT hlt,DJ,O4];generalize L[k] = s at *;generalize eZ c g s = R at *;obtain ⟨code,g'⟩ := R;dsimp only at *;by_cases h26 : code = 26
    · rw [decide_eq_true h26] at hfc;rw [if_pos h26,if_pos h26]
      (repeat' (first|refine wS ?_|refine wB ?_|refine wK ?_|refine wR ?_|refine wT ?_|(refine wC rfl ?_ ?_<;>(intro hb;(try simp only [nm] at hb);try (exfalso;omega)))|(refine rg 2 (vV (aJ rfl rfl) ?_))|(refine rg 3 (mW rfl (aV ?_)))|(refine rg 4 (dK rfl (mW rfl (vV (ix T rfl (by omega) (uE _) hgt) (lW T rfl (eA [0,1] rfl rfl (hfc) rfl rfl (by decide) ⟨.inr rfl,.inr rfl,trivial⟩ (by simp) rfl ?_))))))|(refine rg 5 (mW rfl (aV ?_)))|refine nZ ?_));all_goals try (exfalso;omega)
      all_goals exact ⟨.inl rfl,[0,1],_,rfl,rfl,rfl,⟨.inr rfl,.inr rfl,trivial⟩,by decide,TF⟩
    · rw [decide_eq_false h26] at hfc;rw [if_neg h26] at hok hix;rw [if_neg h26,if_neg h26];rw [← hok,← hix]
      (repeat' (first|refine wS ?_|refine wB ?_|refine wK ?_|refine wU ?_|(refine wC rfl ?_ ?_<;>(intro hb;(try simp only [nm] at hb);try (exfalso;omega)))|(refine rg 2 (vV (aJ rfl rfl) ?_))|(refine rg 3 (mW rfl (aV ?_)))|(refine rg 4 (dK rfl (mW rfl (vV (ix T rfl (by omega) (uE _) hgt) (lW T rfl (eA [0,1] rfl rfl (hfc) rfl rfl (by decide) ⟨.inr rfl,.inr rfl,trivial⟩ (by simp) rfl ?_))))))|(refine rg 6 (vV (cJ rfl rfl (by omega) (by omega)) (mV ?_)))|refine nZ ?_));all_goals try (exfalso;omega)
      all_goals exact ⟨⟨(k + 1,g'),hlt,hg2,hok,hix⟩,by dsimp only;omega,⟨[0,1],rfl,(by repeat first|exact trivial|refine ⟨rfl,?_⟩),⟨.inr rfl,.inr rfl,trivial⟩,by decide,TF⟩⟩
  · have e : L.drop k = [] := cT (by omega)
    rw [e]
    (repeat' (first|refine wS ?_|refine wR ?_|refine wE ?_|(refine wC rfl ?_ ?_<;>(intro hb;(try simp only [nm] at hb);try (exfalso;omega)))|(refine rg 2 (vV (aJ rfl rfl) ?_))|(refine rg 7 (aV ?_))|refine nZ ?_));all_goals try (exfalso;omega)
    all_goals exact ⟨.inl rfl,[0,1],_,rfl,rfl,rfl,⟨.inr rfl,.inr rfl,trivial⟩,by decide,TF⟩
theorem YW (c : Cx) (gs : List G) (L : List Ev) (hc : iU c) (h : oZ c gs) (hl : L.length ≤ 100000) (hids : ∀ s,s ∈ L → s.ids.length ≤ 9223372036854775807) :
    aU Tryz.prog 57 [.rowE (oG L) 5,.clo (.func 56) [] [.ptr 0 0]] (CM c gs) (.b (!uB c gs L)) (CM c (FT c gs L)) := by
  have hix := zK6 c gs L hc h hl hids;have hok := QJ (c := c) (L := L) (gs := gs) (k := 0);generalize GI c gs L 0 = n at *;generalize FT c gs L = g' at *;rw [← hok];refine bX T Tryz.func57 rfl rfl rfl rfl ?_
  (repeat' (first|refine wS ?_|refine wR ?_|(refine rg 0 (aV ?_))|(refine rg 1 (dK rfl (eA [0,1] rfl rfl (hix) rfl rfl (by decide) ⟨.inr rfl,.inr rfl,trivial⟩ (by simp) rfl ?_));refine vV (gV rfl rfl) (aV ?_))|refine nZ ?_));all_goals exact ⟨.inl rfl,[0,1],_,rfl,rfl,rfl,⟨.inr rfl,.inr rfl,trivial⟩,by decide,TF⟩
theorem YS {c : Cx} {g' : List G} {pp : Nat} {h : Hp} (h2 : h[2]? = some (.cells [.ptr 1 0])) : ∀ H : Hp,(∀ (j : Nat) b,h[j]? = some b → b ≠ .gone → H[j]? = some b) → yK H [2,1] ((CM c g').map (AB.map (oV [2,1] pp))) = H.set 1 (.cells (jP c g')) := fun H hb => by
  have h1 := hb 2 _ h2 (by simp)
  obtain ⟨h3,h4⟩ := aB.1 h1;show (H.set 2 (.cells [.ptr 1 0])).set 1 (.cells (jP c g')) = _;rw [← h4,List.set_getElem_self]
theorem WY (c : Cx) (t : Tr) (x : Sd) (i : Int) (hc : iU c) (h : kH c t) (hx : x ∈ t.sales) (hl : t.seen.length ≤ 100000) (hids : ∀ s,s ∈ t.seen → s.ids.length ≤ 9223372036854775807) :
    aU Tryz.prog 37 [.pr (FK c t) 0,.agg (zG8 c x),.i i] [] (.b (E0 c t.seen x i)) [] := by
  obtain ⟨sb,sn,lk,ru⟩ := h.sd x hx;have hm0 := hc.s.1;have hm1 := hc.s.2.1;have hgl : x.gs.length ≤ 12 := bK lk.gk.mid.out.len lk.gk.mid.out.ln;obtain ⟨gs,seen,sales,ord⟩ := t;obtain ⟨⟨xt,xo,xb,xn⟩,xg,xm⟩ := x;dsimp only at *;have hel := rA seen;have hcp := zO5 c xg (by omega)
  have hfc := UG c xg xb i hc lk.gk;have hg2 := FS (s := oE xb i) lk.gk hm0 hm1;have e0 : E0 c seen ⟨⟨xt,xo,xb,xn⟩,xg,xm⟩ i = (!decide ((eZ c xg (oE xb i)).1 = 26) && uB c (eZ c xg (oE xb i)).2 (seen.drop xm)) := rfl;rw [e0];clear e0;generalize eZ c xg (oE xb i) = R at *;obtain ⟨code,g'⟩ := R;dsimp only at *;have hhas := YW c g' (seen.drop xm) hc hg2 (by rw [dD];omega) (fun s hs => hids s (dS hs))
  refine bX T Tryz.func37 rfl rfl rfl rfl ?_
  (repeat' (first|refine wS ?_|(refine rg 0 (cH (cY rfl rfl) rfl (aV ?_)))|refine nZ ?_));refine gL 4 (cs := zG8 c ⟨⟨xt,xo,xb,xn⟩,xg,xm⟩) rfl rfl rfl ?_
  (repeat' (first|refine wS ?_|(refine rg 1 (iP T rfl (cH (by exact fQ rfl rfl hcp (.inr ⟨rfl,rfl,by simp⟩)) rfl ?_));refine cH (cK T rfl) rfl (bA T rfl rfl rfl rfl rfl rfl (by decide) rfl ?_))|(refine rg 2 (vV (by exact kT rfl rfl) ?_);refine aV ?_)|refine nZ ?_));by_cases h26 : code = 26
  · rw [decide_eq_true h26] at hfc ⊢
    (repeat' (first|refine wR ?_|(refine lN (id := 3) 33 yP3 (rM 13 20) yP4 [(6,1)] cW rfl (by decide +kernel) (cC rfl rfl rfl rfl (by exact bR rfl) ?_);refine cC rfl rfl rfl rfl (by exact bG T rfl rfl rfl) ?_;refine cC rfl rfl rfl rfl (by exact bG T rfl rfl rfl) ?_;refine cC rfl rfl rfl rfl (by exact aN T rfl rfl rfl rfl) ?_;refine cC rfl rfl rfl rfl (by exact bR rfl) ?_;refine cC rfl rfl rfl rfl (by exact eR T rfl rfl rfl rfl) ?_;refine mG rfl rfl rfl rfl (aG rfl) (by exact qM [2,1] rfl rfl (pJ hfc) (fun _=>rfl) rfl (by decide) (fun _=>⟨.inr rfl,.inr rfl,trivial⟩) (by simp) rfl (YS rfl) rfl rfl) ?_;refine cC rfl rfl rfl rfl (by exact eM rfl) ?_;refine cC rfl rfl rfl rfl (by exact bR rfl) ?_;refine uS rfl rfl rfl rfl rfl rfl ?_;refine uS rfl rfl rfl rfl rfl rfl ?_;refine uS rfl rfl rfl rfl rfl rfl ?_;refine uS rfl rfl rfl rfl rfl rfl ?_;refine uS rfl rfl rfl rfl rfl rfl ?_;refine uS rfl rfl rfl rfl rfl rfl ?_;refine uS rfl rfl rfl rfl rfl rfl ?_;refine uS rfl rfl rfl rfl rfl rfl ?_;refine uS rfl rfl rfl rfl rfl rfl ?_;refine uS rfl rfl rfl rfl rfl rfl ?_;refine cC rfl rfl rfl rfl (by exact jV rfl rfl) ?_;refine pB rfl rfl rfl (by exact rfl) ?_;refine aV ?_)|refine nZ ?_));all_goals first | (exfalso;omega) | exact rQ
  · rw [decide_eq_false h26] at hfc ⊢;have hd : oG (seen.drop xm) = (oG seen).drop xm := by unfold oG;rw [yH4]
    rw [hd] at hhas;generalize uB c g' (seen.drop xm) = ok at *;generalize FT c g' (seen.drop xm) = g2 at *
    (repeat' (first|refine wR ?_|(refine lN (id := 3) 33 yP3 (rM 13 20) yP4 [(6,1),(17,1)] cW rfl (by decide +kernel) (cC rfl rfl rfl rfl (by exact bR rfl) ?_);refine cC rfl rfl rfl rfl (by exact bG T rfl rfl rfl) ?_;refine cC rfl rfl rfl rfl (by exact bG T rfl rfl rfl) ?_;refine cC rfl rfl rfl rfl (by exact aN T rfl rfl rfl rfl) ?_;refine cC rfl rfl rfl rfl (by exact bR rfl) ?_;refine cC rfl rfl rfl rfl (by exact eR T rfl rfl rfl rfl) ?_;refine mG rfl rfl rfl rfl (aG rfl) (by exact qM [2,1] rfl rfl (pJ hfc) (fun _=>rfl) rfl (by decide) (fun _=>⟨.inr rfl,.inr rfl,trivial⟩) (by simp) rfl (YS rfl) rfl rfl) ?_;refine cC rfl rfl rfl rfl (by exact eM rfl) ?_;refine cC rfl rfl rfl rfl (by exact bR rfl) ?_;refine xK rfl rfl rfl rfl rfl rfl (by exact bR rfl) ?_;refine xK rfl rfl rfl rfl rfl rfl (by exact cF rfl rfl) ?_;refine xK rfl rfl rfl rfl rfl rfl (by exact bG T rfl rfl rfl) ?_;refine xK rfl rfl rfl rfl rfl rfl (by exact aN T rfl rfl rfl rfl) ?_;refine xK rfl rfl rfl rfl rfl rfl (by exact bG T rfl rfl rfl) ?_;refine xK rfl rfl rfl rfl rfl rfl (by exact aN T rfl rfl rfl rfl) ?_;refine xK rfl rfl rfl rfl rfl rfl (by exact CL T rfl rfl rfl rfl rfl (by dsimp only;omega) (uE _)) ?_;refine xK rfl rfl rfl rfl rfl rfl (by exact bR rfl) ?_;refine zN7 rfl rfl rfl rfl (aG rfl) rfl rfl (by exact qM [2,1] rfl rfl (pJ hhas) (fun _=>rfl) rfl (by decide) (fun _=>⟨.inr rfl,.inr rfl,trivial⟩) (by simp) rfl (YS rfl) rfl rfl) ?_;refine xK rfl rfl rfl rfl rfl rfl (by exact eM rfl) ?_;refine cC rfl rfl rfl rfl (by exact kM rfl rfl) ?_;refine pB rfl rfl rfl (by exact rfl) ?_;refine aV ?_)|refine nZ ?_));all_goals try (exfalso;omega)
    all_goals refine dH (.inl rfl) rfl (nD ?_)
    all_goals simp
theorem zV4 (c : Cx) (t : Tr) (x : Sd) (i : Int) (hc : iU c) (h : kH c t) (hx : x ∈ t.sales) (hl : t.seen.length ≤ 100000) (hids : ∀ s,s ∈ t.seen → s.ids.length ≤ 9223372036854775807) :
    aU Tryz.prog 36 [.i i,.pr [.pr (FK c t) 0] 0,.pr (zG8 c x) 0] [] (.b (!E0 c t.seen x i)) [] := by
  have hp := WY c t x i hc h hx hl hids;generalize E0 c t.seen x i = v at *;refine bX T Tryz.func36 rfl rfl rfl rfl ?_
  (repeat' (first|refine wS ?_|refine wR ?_|(refine rg 0 (aV ?_))|(refine rg 1 (lW T rfl (lW T rfl (mW rfl (vV (kC (hp)) (vV (eM rfl) (aV ?_)))))))|refine nZ ?_));all_goals first | (exfalso;omega) | exact rQ
theorem zG7 (c : Cx) (l : List Sd) : AV.plnL (rT c l).flatten = true := qD (fun _ => rfl) l
theorem QU (l : List Ev) : AV.plnL (oG l).flatten = true := qD (fun _ => rfl) l
theorem zP3 (l : List Bool) : AV.plnL (oU l).flatten = true := qD (fun _ => rfl) l
theorem GK (c : Cx) (t : Tr) (k : Nat) {x : Sd} (hc : iU c) (h : kH c t) (hk : t.sales[k]? = some x) (hl : t.seen.length ≤ 100000) (hids : ∀ s,s ∈ t.seen → s.ids.length ≤ 9223372036854775807) :
    aU Tryz.prog 13 [.pr (FK c t) 0,.i (k : Int)] [] (.sl 0 0 (hC c t.seen x).length 1) [.arr (ints (hC c t.seen x)) 1] := by
  have hx := aL hk;have hkl : k < t.sales.length := (aB.1 hk).1;obtain ⟨sb,sn,lk,ru⟩ := h.sd x hx;obtain ⟨g,hg,hgm,hbg⟩ := AT (lk.gk.mid.find sb);have hp := zT9 c x.gs x.s.b lk.gk hg;have hpl := I2 (g := g) (i := g.1.idxOf x.s.b);have hwl := lk.gk.mid.wl g hgm;have e : C9 x = tZ g (g.1.idxOf x.s.b) := by unfold C9;rw [hg]
  rw [← e] at hp hpl;have hb := fun i (_ : i ∈ C9 x) => zV4 c t x i hc h hx hl hids;have hd := EQ (F := 36) (caps := [.pr [.pr (FK c t) 0] 0,.pr (zG8 c x) 0]) (q := fun i => !E0 c t.seen x i) (C9 x) (by omega) rfl rfl hb
  have ek : mB (fun i => !E0 c t.seen x i) (C9 x) = hC c t.seen x := by unfold hC mB;simp
  rw [ek] at hd;have qk := Z0 (c := c) (j := (k : Int)) hk rfl;have hsl := sV c t.sales;generalize hC c t.seen x = R at *;generalize C9 x = Q at *;clear hb ek;have hql : (ints Q).length = Q.length := dA _;refine bX T Tryz.func13 rfl rfl rfl rfl ?_
  (repeat' (first|refine wS ?_|(refine rg 0 (cH (cY rfl rfl) rfl (aV ?_)))|refine nZ ?_));refine gL 2 (cs := [.pr (FK c t) 0]) rfl rfl rfl ?_
  (repeat' (first|refine wS ?_|refine wK ?_|(refine wC rfl ?_ ?_<;>(intro hb;(try simp only [nm] at hb);try (exfalso;omega)))|(refine rg 1 (mW rfl (vV (aJ rfl rfl) (mW rfl (yN rfl (yO T rfl (gT (nV ?_)))))));refine yP T rfl (yO T rfl (gT (qW T rfl (yV (gV rfl rfl) (pV ?_))))))|(refine rg 3 (lW T rfl (nV ?_));refine iP T rfl (mW rfl (vV (ix T rfl (by omega) (U6 _ _) qk) (lW T rfl (cH (cK T rfl) rfl (bA T rfl rfl rfl rfl rfl rfl (by decide) rfl ?_))))))|refine nZ ?_));all_goals try (exfalso;omega)
  refine gL 5 (cs := zG8 c x) rfl rfl rfl ?_
  (repeat' (first|refine wR ?_|(refine rg 4 (iP T rfl (fW T rfl (iP T rfl (cH (by exact fQ rfl rfl hp (.inr ⟨rfl,rfl,by simp⟩)) rfl ?_))));refine vV (by exact kT rfl rfl) ?_;refine eA [2] rfl rfl hd rfl rfl (by decide) ⟨.inr (aC rfl (bE _ (bN _)) (bN _)),trivial⟩ (by simp) rfl ?_;refine aV ?_)|refine nZ ?_));all_goals try (exfalso;omega)
  all_goals exact ⟨.inl rfl,[2],_,rfl,rfl,rfl,⟨.inr (aC rfl (bE _ (bN _)) (bN _)),trivial⟩,by decide,kI _⟩
theorem zL0 (c : Cx) (t : Tr) (k : Nat) {x : Sd} (hc : iU c) (h : kH c t) (hk : t.sales[k]? = some x) (hl : t.seen.length ≤ 100000) (hids : ∀ s,s ∈ t.seen → s.ids.length ≤ 9223372036854775807) :
    aU Tryz.prog 13 [.pr (FK c t) 0,.i (k : Int)] [] (.rowE (ints (hC c t.seen x)) 1) [] :=
  kE (dA _).symm (gE (bN _)) (GK c t k hc h hk hl hids)
theorem zB9 (c : Cx) (t : Tr) (k : Nat) {x : Sd} (hc : iU c) (h : kH c t) (hk : t.sales[k]? = some x) (hl : t.seen.length ≤ 100000) (hids : ∀ s,s ∈ t.seen → s.ids.length ≤ 9223372036854775807) :
    aU Tryz.prog 33 [.pr (FK c t) 0,.i (k : Int)] [] (.sl 0 0 (jK c (hC c t.seen x)).length 1) [.arr (ints (jK c (hC c t.seen x))) 1] := by
  have hx := aL hk;have hi := zL0 c t k hc h hk hl hids;obtain ⟨sb,sn,lk,ru⟩ := h.sd x hx;obtain ⟨g,hg,hgm,hbg⟩ := AT (lk.gk.mid.find sb);have hwl := lk.gk.mid.wl g hgm;have hrg : ∀ i,i ∈ hC c t.seen x → 0 ≤ i ∧ i < c.bs.length := fun i hi => (PR h hx).1 i (eF.1 hi).1;have hrl : (hC c t.seen x).length ≤ 1000 := by
    refine bK (fG _ _) ?_;unfold C9;rw [hg];exact bK (I2 (g := g) (i := g.1.idxOf x.s.b)) hwl
  clear hg hgm hbg hwl;generalize hC c t.seen x = l at *;have hbl : (fP c.bs).length = c.bs.length := aY _;have hll : (ints l).length = l.length := dA _;have hs1 := MY (l.map (tR c)) (by rw [aY];omega)
  have hs2 := ER (iG (l.map (tR c))) (by rw [(Go.Pm.sorted_perm _).length_eq,aY];omega)
  have e0 : yA (iG (l.map (tR c))) = jK c l := rfl;rw [e0] at hs2;have hsl : (iG (l.map (tR c))).length = l.length := by rw [(Go.Pm.sorted_perm _).length_eq,aY]
  rw [hsl] at hs2;rw [aY] at hs1;refine bX T Tryz.func33 rfl rfl rfl rfl ?_
  (repeat' (first|refine wS ?_|(refine rg 0 (aV ?_))|refine nZ ?_));all_goals try (exfalso;omega)
  (repeat' (first|refine wS ?_|(refine rg 1 (vV (dJ rfl) (nG 5 1 rfl (by decide) ?_)))|refine nZ ?_));all_goals try (exfalso;omega)
  (repeat' (first|refine wB ?_|(refine rg 2 (dK rfl (vV (kC (hi)) (qW T rfl (mV ?_)))))|refine nZ ?_));all_goals try (exfalso;omega)
  refine dC (X := {k : Nat // k ≤ l.length}) (fun k => [(0,.pr (FK c t) 0),(5,.sl 0 0 k.1 1),(10,.rowE (ints l) 1),(11,.i (ints l).length),(12,.i k.1)]) (fun k => [.arr (ints ((l.take k.1).map (tR c))) 1]) (fun k => l.length - k.1) ⟨0,bY _⟩ ⟨[0],rfl,(by repeat first|exact trivial|refine ⟨rfl,?_⟩),⟨.inr rfl,trivial⟩,by decide,kI _⟩ ?_
  rintro ⟨j,hj⟩;dsimp only;by_cases hlt : j < l.length
  · have q := kX (l := l) (k := j) hlt;obtain ⟨i0,i1⟩ := hrg _ (aM hlt);have e1 : ints ((l.take (j + 1)).map (tR c)) = ints ((l.take j).map (tR c)) ++ [[.i (tR c l[j])]] := by rw [aP hlt,bO,ints,bO];rfl
    have hal : (ints ((l.take j).map (tR c))).length = j := by rw [dA,aY,bC];omega
    have ii := bN ((l.take (j + 1)).map (tR c));generalize l[j] = v at *;have hbx := zL4 (l := c.bs) (i := v.toNat) (by omega)
    have qb : (fP c.bs)[v.toNat]? = some [.i (tR c v),.i (c.bs.getD v.toNat (0,0,0)).2.1,.i (c.bs.getD v.toNat (0,0,0)).2.2] := by rw [bL,hbx];rfl
    generalize tR c v = lv at *;generalize ints ((l.take j).map (tR c)) = A at *
    (repeat' (first|refine wS ?_|refine wB ?_|refine wK ?_|(refine wC rfl ?_ ?_<;>(intro hb;(try simp only [nm] at hb);try (exfalso;omega)))|(refine rg 3 (vV (aJ rfl rfl) ?_))|(refine rg 4 (vV (ix T rfl (by omega) (eB _) q) (lW T rfl (aV ?_))))|(refine rg 5 (dK rfl (nV ?_));refine iP T rfl (mW rfl (vV (ix T rfl (by omega) (rB _) qb) (iP T rfl (cH (by exact bD T rfl rfl (by decide) (by decide) rfl rfl rfl) rfl ?_))));refine fR T rfl rfl rfl rfl rfl rfl (by omega) (iY.whole rfl rfl) rfl (by simp;omega) (by simp;omega) rfl ?_;refine aV ?_)|(refine rg 6 (vV (cJ rfl rfl (by omega) (by omega)) (mV ?_)))|refine nZ ?_));all_goals try (exfalso;omega)
    all_goals exact ⟨⟨j + 1,hlt⟩,by dsimp only;omega,⟨[2],rfl,(by repeat first|exact trivial|refine ⟨rfl,?_⟩),⟨.inr (aC rfl (by dsimp only;rw [e1];exact iO hal.symm) ii),trivial⟩,by decide,kI _⟩⟩
  · obtain rfl : j = l.length := by omega
    rw [cM]
    (repeat' (first|refine wS ?_|refine wR ?_|refine wE ?_|(refine wC rfl ?_ ?_<;>(intro hb;(try simp only [nm] at hb);try (exfalso;omega)))|(refine rg 3 (vV (aJ rfl rfl) ?_))|(refine rg 7 (mW rfl (eA [0] rfl rfl (hs1) rfl rfl (by decide) ⟨.inr (by exact aC rfl rfl (bN _)),trivial⟩ (by simp) rfl ?_)))|(refine rg 8 (mW rfl (eA [0] rfl rfl (hs2) rfl rfl (by decide) ⟨.inr (by exact aC rfl (bE _ (bN _)) (bN _)),trivial⟩ (by simp) rfl ?_));refine aV ?_)|refine nZ ?_));all_goals try (exfalso;omega)
    exact ⟨.inl rfl,[0],_,rfl,rfl,rfl,⟨.inr (by first|exact aC rfl rfl (bN _)|exact aC rfl (bE _ (bN _)) (bN _)),trivial⟩,by decide,kI _⟩
theorem zJ5 (a : Int) : aU Tryz.prog 38 [.i a] [] (.b (decide (a < 0))) [] := by
  refine bX T Tryz.func38 rfl rfl rfl rfl ?_
  (repeat' (first|refine wS ?_|refine wR ?_|(refine rg 0 (aV ?_))|(refine rg 1 (mW rfl (vV (aJ rfl rfl) (aV ?_))))|refine nZ ?_));all_goals first | (exfalso;omega) | exact rQ
section
variable {c : Cx} {t : Tr} {k : Nat} {x : Sd}
theorem zS (h : kH c t) (hk : t.sales[k]? = some x) : (jK c (hC c t.seen x)).length ≤ 1000 := by
  have hx := aL hk;obtain ⟨sb,sn,lk,ru⟩ := h.sd x hx;obtain ⟨g,hg,hgm,hbg⟩ := AT (lk.gk.mid.find sb);have hwl := lk.gk.mid.wl g hgm;refine bK (zC0 _ _) (bK (fG _ _) ?_);unfold C9;rw [hg];exact bK (I2 (g := g) (i := g.1.idxOf x.s.b)) hwl
theorem I5 (hc : iU c) (h : kH c t) (hk : t.sales[k]? = some x) (hl : t.seen.length ≤ 100000) (hids : ∀ s,s ∈ t.seen → s.ids.length ≤ 9223372036854775807) :
    aU Tryz.prog 14 [.pr (FK c t) 0,.i (k : Int)] [] (.sl 0 0 (lR (jK c (hC c t.seen x))).length 1) [.arr (ints (lR (jK c (hC c t.seen x)))) 1] := by
  have ha := zB9 c t k hc h hk hl hids;have hal := zS h hk;generalize jK c (hC c t.seen x) = A at *;have hd := EQ (F := 38) (caps := []) (q := fun a => decide (a < 0)) A (by omega) rfl rfl (fun a _ => zJ5 a)
  have ek : mB (fun a => decide (a < 0)) A = lR A := rfl;rw [ek] at hd;generalize lR A = B at *;clear ek;refine bX T Tryz.func14 rfl rfl rfl rfl ?_
  (repeat' (first|refine wS ?_|refine wR ?_|(refine rg 0 (aV ?_))|(refine rg 1 (dK rfl (cH (by exact fQ rfl rfl ha (.inr ⟨rfl,rfl,by simp⟩)) rfl ?_));refine eA [0] rfl rfl hd rfl rfl (by decide) ⟨.inr (aC rfl (bE _ (bN _)) (bN _)),trivial⟩ (by simp) rfl ?_;refine aV ?_)|refine nZ ?_));all_goals try (exfalso;omega)
  all_goals exact ⟨.inl rfl,[0],_,rfl,rfl,rfl,⟨.inr (aC rfl (bE _ (bN _)) (bN _)),trivial⟩,by decide,kI _⟩
theorem YB (hc : iU c) (h : kH c t) (hk : t.sales[k]? = some x) (hl : t.seen.length ≤ 100000) (hids : ∀ s,s ∈ t.seen → s.ids.length ≤ 9223372036854775807) :
    aU Tryz.prog 14 [.pr (FK c t) 0,.i (k : Int)] [] (.rowE (ints (lR (jK c (hC c t.seen x)))) 1) [] :=
  kE (dA _).symm (gE (bN _)) (I5 hc h hk hl hids)
theorem zY3 (hc : iU c) (h : kH c t) (hk : t.sales[k]? = some x) (hl : t.seen.length ≤ 100000) (hids : ∀ s,s ∈ t.seen → s.ids.length ≤ 9223372036854775807) :
    aU Tryz.prog 33 [.pr (FK c t) 0,.i (k : Int)] [] (.rowE (ints (jK c (hC c t.seen x))) 1) [] :=
  kE (dA _).symm (gE (bN _)) (zB9 c t k hc h hk hl hids)
theorem Y0 (hc : iU c) (h : kH c t) (hk : t.sales[k]? = some x) (hl : t.seen.length ≤ 100000) (hids : ∀ s,s ∈ t.seen → s.ids.length ≤ 9223372036854775807) :
    aU Tryz.prog 12 [.pr (FK c t) 0,.i (k : Int)] [] (.tup [.i (oL (jK c (hC c t.seen x))).1,.b (oL (jK c (hC c t.seen x))).2]) [] := by
  have ha := zY3 hc h hk hl hids;have hal := zS h hk;generalize jK c (hC c t.seen x) = A at *;have hll : (ints A).length = A.length := dA _;unfold oL;by_cases h1 : A.length = 1
  · have q : (ints A)[(0 : Int).toNat]? = some [AV.i (A.getD 0 0)] := rY (l := A) (j := 0) (i := 0) 0 (by omega) rfl
    generalize A.getD 0 0 = a at *;by_cases h2 : 0 ≤ a
    · rw [if_pos ⟨h1,h2⟩];refine bX T Tryz.func12 rfl rfl rfl rfl ?_
      (repeat' (first|refine wS ?_|refine wR ?_|(refine wC rfl ?_ ?_<;>(intro hb;(try simp only [nm] at hb);try (exfalso;omega)))|(refine rg 0 (uV ?_))|(refine rg 1 (dK rfl (vV (kC (ha)) (aV ?_))))|(refine rg 2 (mW rfl (qW T rfl (vV (lA rfl rfl (by omega)) (mW rfl (yN rfl (yV (ix T rfl (by omega) (eB _) q) (yO T rfl (yV (gV rfl rfl) (pV ?_))))))))))|(refine rg 3 (mW rfl (vV (ix T rfl (by omega) (eB _) q) (lW T rfl (uV ?_)))))|refine nZ ?_));all_goals first | (exfalso;omega) | exact rQ
    · rw [if_neg (fun q => h2 q.2)];refine bX T Tryz.func12 rfl rfl rfl rfl ?_
      (repeat' (first|refine wS ?_|refine wK ?_|refine wR ?_|(refine wC rfl ?_ ?_<;>(intro hb;(try simp only [nm] at hb);try (exfalso;omega)))|(refine rg 0 (uV ?_))|(refine rg 1 (dK rfl (vV (kC (ha)) (aV ?_))))|(refine rg 2 (mW rfl (qW T rfl (vV (lA rfl rfl (by omega)) (mW rfl (yN rfl (yV (ix T rfl (by omega) (eB _) q) (yO T rfl (yV (gV rfl rfl) (pV ?_))))))))))|(refine rg 4 (uV ?_))|refine nZ ?_));all_goals first | (exfalso;omega) | exact rQ
  · rw [if_neg (fun q => h1 q.1)];refine bX T Tryz.func12 rfl rfl rfl rfl ?_
    (repeat' (first|refine wS ?_|refine wK ?_|refine wR ?_|refine wU ?_|(refine rg 0 (uV ?_))|(refine rg 1 (dK rfl (vV (kC (ha)) (aV ?_))))|(refine rg 2 (mW rfl (qW T rfl (vV (gR rfl rfl (by omega)) (mV ?_))));(iterate 4 refine gF ?_);refine pV ?_)|(refine rg 4 (uV ?_))|refine nZ ?_));all_goals first | (exfalso;omega) | exact rQ
end
end Go.Proofs.YtmmmeebiobjnbaaGreat
namespace Go.Ld
open Go.Ab Go.Proofs.YtmmmeebiobjnbaaGreat
def rP (c : Cx) (t : Tr) (k : Nat) : List Int := match t.sales[k]? with
  | some x => lR (jK c (hC c t.seen x))
  | none => []
def zH5 (c : Cx) (t : Tr) (lot : Int) : List Int := nats ((List.range t.sales.length).filter fun k => decide (lot ∈ rP c t k))
structure En where
  sold : Bool
  s : Ev
  x : Sl
abbrev zR5 (e : En) : List AV := [.b e.sold,.i e.s.k,.i e.s.a,.i e.s.b,.i e.s.n,.rowE (Go.Ab.ints e.s.ids) 1,.i e.x.t,.i e.x.o,.i e.x.b,.i e.x.n]
abbrev vS (l : List En) : List (List AV) := l.map zR5
theorem C4 (l : List En) : ∀ e,e ∈ vS l → e.length = 10 := by intro e he;obtain ⟨n,_,rfl⟩ := bB.1 he;rfl
theorem F8 (l : List En) : (vS l).length = l.length := aY _
theorem LH {l : List En} {k : Nat} (h : k < l.length) : (vS l)[(k : Int).toNat]? = some (zR5 l[k]) := by
  rw [bM,bL,aA h];rfl
def pU (l : List En) : List Ev := (l.filter fun e => !e.sold).map (·.s)
def IX (l : List En) : Nat := l.countP (·.sold)
def LC (l : List En) (n m : Nat) : Bool := decide (l.length ≤ n + m) && decide (IX (l.take (n + m + 1)) ≤ m) && GU (pU (l.take (n + m + 1))) n
theorem C2 (l : List En) (e : En) : pU (l ++ [e]) = pU l ++ if e.sold then [] else [e.s] := by
  unfold pU;rw [tV,bO];cases h : e.sold <;> simp [h]
theorem A6 (l : List En) (e : En) : IX (l ++ [e]) = IX l + if e.sold then 1 else 0 := by
  unfold IX;rw [UW];cases h : e.sold <;> simp [h]
theorem LG (l : List En) : (pU l).length ≤ l.length := by
  unfold pU;rw [aY];exact fG _ _
theorem IW (l : List En) : IX l ≤ l.length := List.countP_le_length
end Go.Ld
namespace Go.Proofs.YtmmmeebiobjnbaaGreat
open Go Go.Ab Go.Ld
attribute [local irreducible] VC AW cE aU iV yD
set_option maxHeartbeats 4000000
theorem WT (c : Cx) (t : Tr) (lot : Int) (hc : iU c) (h : kH c t) (hl : t.seen.length ≤ 100000) (hs : t.sales.length ≤ 100000) (hids : ∀ s,s ∈ t.seen → s.ids.length ≤ 9223372036854775807) :
    aU Tryz.prog 22 [.pr (FK c t) 0,.i lot] [] (.sl 0 0 (zH5 c t lot).length 1) [.arr (ints (zH5 c t lot)) 1] := by
  have hsl := sV c t.sales;have hrl : ∀ k,(nats ((List.range k).filter fun k => decide (lot ∈ rP c t k))).length ≤ k := fun k => by
    rw [aY];exact bK (fG _ _) (by simp)
  refine bX T Tryz.func22 rfl rfl rfl rfl ?_
  (repeat' (first|refine wS ?_|(refine rg 0 (aV ?_))|refine nZ ?_));all_goals try (exfalso;omega)
  (repeat' (first|refine wS ?_|(refine rg 1 (vV (dJ rfl) (nG 5 1 rfl (by decide) ?_)))|refine nZ ?_));all_goals try (exfalso;omega)
  (repeat' (first|refine wB ?_|(refine rg 2 (mW rfl (nV ?_));refine iP T rfl (qW T rfl (mV ?_)))|refine nZ ?_));all_goals try (exfalso;omega)
  refine dC (X := {k : Nat // k ≤ t.sales.length}) (fun k => [(0,.pr (FK c t) 0),(1,.i lot),(5,.sl 0 0 (nats ((List.range k.1).filter fun k => decide (lot ∈ rP c t k))).length 1),(11,.i (rT c t.sales).length),(12,.i k.1)]) (fun k => [.arr (ints (nats ((List.range k.1).filter fun k => decide (lot ∈ rP c t k)))) 1]) (fun k => t.sales.length - k.1) ⟨0,bY _⟩ ⟨[0],rfl,(by repeat first|exact trivial|refine ⟨rfl,?_⟩),⟨.inr rfl,trivial⟩,by decide,kI _⟩ ?_
  rintro ⟨k,hk⟩;dsimp only;by_cases hlt : k < t.sales.length
  · have hx : t.sales[k]? = some t.sales[k] := aA hlt;have hlo := YB hc h hx hl hids;have hlen : (lR (jK c (hC c t.seen t.sales[k]))).length ≤ 1000 := bK (fG _ _) (zS h hx);have ek : rP c t k = lR (jK c (hC c t.seen t.sales[k])) := by unfold rP;rw [hx]
    rw [← ek] at hlo hlen;have hcn := G0 (rP c t k) lot (by omega)
    have e0 : (nats ((List.range (k + 1)).filter fun k => decide (lot ∈ rP c t k))) = nats ((List.range k).filter fun k => decide (lot ∈ rP c t k)) ++ if lot ∈ rP c t k then [(k : Int)] else [] := by
      rw [D2,tV,nats,bO];by_cases q : lot ∈ rP c t k <;> simp [q]
    have hrk := hrl k;clear ek;generalize rP c t k = Q at *;by_cases q : lot ∈ Q
    · rw [if_pos q] at e0;rw [decide_eq_true q] at hcn;have hii := bN (nats ((List.range (k + 1)).filter fun k => decide (lot ∈ rP c t k)));generalize hB : nats ((List.range k).filter fun k => decide (lot ∈ rP c t k)) = B at *;have e1 : ints (nats ((List.range (k + 1)).filter fun k => decide (lot ∈ rP c t k))) = ints B ++ [[.i (k : Int)]] := by rw [e0,ints,bO];rfl
      have e2 : (nats ((List.range (k + 1)).filter fun k => decide (lot ∈ rP c t k))).length = B.length + 1 := by rw [e0];simp
      have hBl : (ints B).length = B.length := dA _
      (repeat' (first|refine wS ?_|refine wB ?_|refine wK ?_|refine wT ?_|(refine wC rfl ?_ ?_<;>(intro hb;(try simp only [nm] at hb);try (exfalso;omega)))|(refine rg 3 (vV (aJ rfl rfl) ?_))|(refine rg 4 (mW rfl (aV ?_)))|(refine rg 5 (dK rfl (vV (kC (hlo)) (mW rfl (vV (kC (hcn)) ?_)))))|(refine rg 6 (dK rfl (cH (by exact bD T rfl rfl (by decide) (by decide) rfl rfl rfl) rfl ?_));refine fR T rfl rfl rfl rfl rfl rfl (by omega) (iY.whole rfl rfl) rfl (by simp;omega) (by simp;omega) rfl ?_;refine aV ?_)|(refine rg 7 (vV (cJ rfl rfl (by omega) (by omega)) (mV ?_)))|refine nZ ?_));all_goals try (exfalso;omega)
      all_goals exact ⟨⟨k + 1,hlt⟩,by dsimp only;omega,⟨[2],rfl,(by dsimp only;rw [e2];(repeat (first | exact trivial | refine ⟨rfl,?_⟩))),⟨.inr (aC rfl (by dsimp only;rw [e1];exact iO hBl.symm) hii),trivial⟩,by decide,kI _⟩⟩
    · rw [if_neg q,List.append_nil] at e0;rw [decide_eq_false q] at hcn
      (repeat' (first|refine wS ?_|refine wB ?_|refine wK ?_|refine wU ?_|(refine wC rfl ?_ ?_<;>(intro hb;(try simp only [nm] at hb);try (exfalso;omega)))|(refine rg 3 (vV (aJ rfl rfl) ?_))|(refine rg 4 (mW rfl (aV ?_)))|(refine rg 5 (dK rfl (vV (kC (hlo)) (mW rfl (vV (kC (hcn)) ?_)))))|(refine rg 7 (vV (cJ rfl rfl (by omega) (by omega)) (mV ?_)))|refine nZ ?_));all_goals try (exfalso;omega)
      all_goals exact ⟨⟨k + 1,hlt⟩,by dsimp only;omega,⟨[0],rfl,(by dsimp only;rw [e0];(repeat (first | exact trivial | refine ⟨rfl,?_⟩))),⟨.inr (aC rfl (by dsimp only;rw [e0]) (bN _)),trivial⟩,by decide,kI _⟩⟩
  · obtain rfl : k = t.sales.length := by omega
    (repeat' (first|refine wS ?_|refine wR ?_|refine wE ?_|(refine wC rfl ?_ ?_<;>(intro hb;(try simp only [nm] at hb);try (exfalso;omega)))|(refine rg 3 (vV (aJ rfl rfl) ?_))|(refine rg 8 (mW rfl (aV ?_)))|refine nZ ?_));all_goals try (exfalso;omega)
    exact ⟨.inl rfl,[0],_,rfl,rfl,rfl,⟨.inr (aC rfl rfl (bN _)),trivial⟩,by decide,kI _⟩
theorem yC6 (n : Nat) (hn : n ≤ 17592186043904) : aU Tryz.prog 7 [.i (n : Int)] [] (.sl 0 0 n 1) [.arr (ints (nats (List.range n))) 1] := by
  refine bX T Tryz.func7 rfl rfl rfl rfl ?_
  (repeat' (first|refine wS ?_|(refine rg 0 (aV ?_))|refine nZ ?_));all_goals try (exfalso;omega)
  (repeat' (first|refine wS ?_|(refine rg 1 (vV (dJ rfl) (nG 3 1 rfl (by decide) ?_)))|refine nZ ?_));all_goals try (exfalso;omega)
  (repeat' (first|refine wB ?_|(refine rg 2 (aV ?_))|refine nZ ?_));all_goals try (exfalso;omega)
  refine dC (X := {k : Nat // k ≤ n}) (fun k => [(0,.i (n : Int)),(3,.sl 0 0 k.1 1),(4,.i k.1)]) (fun k => [.arr (ints (nats (List.range k.1))) 1]) (fun k => n - k.1) ⟨0,bY _⟩ ⟨[0],rfl,(by repeat first|exact trivial|refine ⟨rfl,?_⟩),⟨.inr rfl,trivial⟩,by decide,kI _⟩ ?_
  rintro ⟨k,hk⟩;dsimp only;have hl : (ints (nats (List.range k))).length = k := by simp
  by_cases hlt : k < n
  · have e1 : ints (nats (List.range (k + 1))) = ints (nats (List.range k)) ++ [[.i (k : Int)]] := by rw [D2,nats,bO,ints,bO];rfl
    have hii := bN (nats (List.range (k + 1)));generalize ints (nats (List.range k)) = B at *
    (repeat' (first|refine wS ?_|refine wB ?_|refine wK ?_|(refine wC rfl ?_ ?_<;>(intro hb;(try simp only [nm] at hb);try (exfalso;omega)))|(refine rg 3 (dK rfl (vV (aJ rfl rfl) ?_)))|(refine rg 5 (dK rfl (cH (by exact bD T rfl rfl (by decide) (by decide) rfl rfl rfl) rfl ?_));refine fR T rfl rfl rfl rfl rfl rfl (by omega) (iY.whole rfl rfl) rfl (by simp;omega) (by simp;omega) rfl ?_;refine aV ?_)|(refine iA 4 rfl rfl rfl (by omega) (by omega) ?_)|refine nZ ?_));all_goals try (exfalso;omega)
    all_goals exact ⟨⟨k + 1,hlt⟩,by dsimp only;omega,⟨[2],rfl,(by repeat first|exact trivial|refine ⟨rfl,?_⟩),⟨.inr (aC rfl (by dsimp only;rw [e1];exact iO hl.symm) hii),trivial⟩,by decide,kI _⟩⟩
  · obtain rfl : k = n := by omega
    (repeat' (first|refine wS ?_|refine wR ?_|refine wE ?_|(refine wC rfl ?_ ?_<;>(intro hb;(try simp only [nm] at hb);try (exfalso;omega)))|(refine rg 3 (dK rfl (vV (aJ rfl rfl) ?_)))|(refine rg 6 (mW rfl (aV ?_)))|refine nZ ?_));all_goals try (exfalso;omega)
    exact ⟨.inl rfl,[0],_,rfl,rfl,rfl,⟨.inr (aC rfl rfl (bN _)),trivial⟩,by decide,kI _⟩
theorem ZI (l : List En) (n m : Nat) (hn : n ≤ 1000) (hm : m ≤ 1000) (hids : ∀ e,e ∈ l → e.s.ids.length ≤ 9223372036854775807) :
    aU Tryz.prog 8 [.rowE (vS l) 10,.i (n : Int),.i (m : Int)] [] (.b (LC l n m)) [] := by
  have hll := F8 l;refine bX T Tryz.func8 rfl rfl rfl rfl ?_
  (repeat' (first|refine wS ?_|(refine rg 0 (aV ?_))|refine nZ ?_));all_goals try (exfalso;omega)
  (repeat' (first|refine wS ?_|(refine rg 1 (vV (dJ rfl) (nG 7 5 rfl (by decide) ?_)))|refine nZ ?_));all_goals try (exfalso;omega)
  (repeat' (first|refine wS ?_|refine wB ?_|(refine rg 2 (aV ?_))|(refine rg 3 (aV ?_))|refine nZ ?_));all_goals try (exfalso;omega)
  refine dC (X := {k : Nat // k ≤ l.length ∧ k ≤ n + m + 1}) (fun k => [(0,.rowE (vS l) 10),(1,.i (n : Int)),(2,.i (m : Int)),(7,.sl 0 0 (pU (l.take k.1)).length 5),(8,.i (IX (l.take k.1) : Nat)),(9,.i k.1)]) (fun k => [.arr (oG (pU (l.take k.1))) 5]) (fun k => l.length - k.1) ⟨0,bY _,bY _⟩ ⟨[0],rfl,(by repeat first|exact trivial|refine ⟨rfl,?_⟩),⟨.inr rfl,trivial⟩,by decide,kI _⟩ ?_
  rintro ⟨k,hk,hk2⟩;dsimp only;have h1 := LG (l.take k);have h2 := IW (l.take k);rw [bC] at h1 h2;have h3 := rA (pU (l.take k));by_cases hlt : k < l.length ∧ k ≤ n + m
  · have hg := LH hlt.1;have e1 := C2 (l.take k) (l[k]'hlt.1);have e2 := A6 (l.take k) (l[k]'hlt.1);rw [← aP hlt.1] at e1 e2;generalize (l[k]'hlt.1) = e at *;obtain ⟨es,⟨ek,ea,eb,en,eids⟩,⟨xt,xo,xb,xn⟩⟩ := e;dsimp only at *;cases es with
    | true =>
      rw [if_pos rfl] at e2;rw [if_pos rfl,List.append_nil] at e1
      (repeat' (first|refine wS ?_|refine wB ?_|refine wK ?_|refine wT ?_|(refine wC rfl ?_ ?_<;>(intro hb;(try simp only [nm] at hb);try (exfalso;omega)))|(refine rg 4 (dK rfl (qW T rfl (vV (aJ rfl rfl) (mV ?_))));refine bT rfl rfl ?_ ?_<;>(intro hb;rw [hb];(try simp only [nm] at hb);try (exfalso;omega));(all_goals (refine yN rfl (yN rfl (yN rfl (yV (cJ rfl rfl (by omega) (by omega)) (yV (iC rfl rfl) (pV ?_))))))))|(refine rg 6 (dK rfl (vV (ix T rfl (by omega) (C4 _) hg) (KX T ?_))))|(refine iA 7 rfl rfl rfl (by omega) (by omega) ?_)|(refine iA 5 rfl rfl rfl (by omega) (by omega) ?_)|refine nZ ?_));all_goals try (exfalso;omega)
      all_goals exact ⟨⟨k + 1,hlt.1,by omega⟩,by dsimp only;omega,⟨[0],rfl,(by dsimp only;rw [e1,e2];(repeat (first | exact trivial | refine ⟨rfl,?_⟩))),⟨.inr (aC rfl (by dsimp only;rw [e1]) (eY _)),trivial⟩,by decide,kI _⟩⟩
    | false =>
      rw [if_neg (by decide),Nat.add_zero] at e2
      rw [if_neg (by decide)] at e1
      have i1 := eY (pU (l.take (k + 1)));have e3 : oG (pU (l.take (k + 1))) = oG (pU (l.take k)) ++ [[.i ek,.i ea,.i eb,.i en,.rowE (Go.Ab.ints eids) 1]] := by rw [e1,oG,bO];rfl
      have e4 : (pU (l.take (k + 1))).length = (pU (l.take k)).length + 1 := by rw [e1];simp
      generalize pU (l.take k) = B at *
      (repeat' (first|refine wS ?_|refine wB ?_|refine wK ?_|refine wU ?_|(refine wC rfl ?_ ?_<;>(intro hb;(try simp only [nm] at hb);try (exfalso;omega)))|(refine rg 4 (dK rfl (qW T rfl (vV (aJ rfl rfl) (mV ?_))));refine bT rfl rfl ?_ ?_<;>(intro hb;rw [hb];(try simp only [nm] at hb);try (exfalso;omega));(all_goals (refine yN rfl (yN rfl (yN rfl (yV (cJ rfl rfl (by omega) (by omega)) (yV (iC rfl rfl) (pV ?_))))))))|(refine rg 6 (dK rfl (vV (ix T rfl (by omega) (C4 _) hg) (KX T ?_))))|(refine rg 8 (dK rfl (mW rfl (vV (ix T rfl (by omega) (C4 _) hg) (iP T rfl (cH (by exact bD T rfl rfl (by decide) (by decide) rfl rfl rfl) rfl ?_)))));refine fR T rfl rfl rfl rfl rfl rfl (by omega) (iY.whole rfl rfl) rfl (by simp;omega) (by simp;omega) rfl ?_;refine aV ?_)|(refine iA 5 rfl rfl rfl (by omega) (by omega) ?_)|refine nZ ?_));all_goals try (exfalso;omega)
      all_goals exact ⟨⟨k + 1,hlt.1,by omega⟩,by dsimp only;omega,⟨[2],rfl,(by dsimp only;rw [e4,e2];(repeat (first | exact trivial | refine ⟨rfl,?_⟩))),⟨.inr (aC rfl (by dsimp only;rw [e3];exact iO h3.symm) i1),trivial⟩,by decide,kI _⟩⟩
  · have ek : l.take (n + m + 1) = l.take k := by
      by_cases q : k < l.length
      · rw [show k = n + m + 1 by omega]
      · rw [bS (by omega),bS (by omega)]
    have hfe := zW6 (pU (l.take k)) n hn (fun s hs => by
      obtain ⟨e,he,rfl⟩ := bB.1 hs
      exact hids e (eK (eF.1 he).1))
    unfold LC;rw [ek];generalize GU (pU (l.take k)) n = fe at *;have hvw : nN [AB.arr (oG (pU (l.take k))) 5] (.sl 0 0 (pU (l.take k)).length 5) (.rowE (oG (pU (l.take k))) 5) := nU rfl h3.symm (QU _);by_cases q1 : l.length ≤ n + m
    · by_cases q2 : IX (l.take k) ≤ m
      · rw [decide_eq_true q1,decide_eq_true q2]
        (repeat' (first|refine wS ?_|refine wR ?_|refine wE ?_|refine wU ?_|(refine rg 4 (dK rfl (qW T rfl (vV (aJ rfl rfl) (mV ?_))));refine bT rfl rfl ?_ ?_<;>(intro hb;rw [hb];(try simp only [nm] at hb);try (exfalso;omega));(all_goals ((iterate 5 refine gF ?_);refine pV ?_)))|(refine rg 9 (mW rfl (qW T rfl (dK rfl (vV (cJ rfl rfl (by omega) (by omega)) (vV (iC rfl rfl) (mV ?_))))));refine bT rfl rfl ?_ ?_<;>(intro hb;rw [hb];(try simp only [nm] at hb);try (exfalso;omega));(all_goals (refine yN rfl (yN rfl (yV (iC rfl rfl) (pW rfl (mV ?_))));refine bT rfl rfl ?_ ?_<;>(intro hb;rw [hb];(try simp only [nm] at hb);try (exfalso;omega))));(all_goals (refine yN rfl (yN rfl (yV (by exact eW rfl rfl hfe (.cons hvw (.cons (.v _) .nil)) rfl rfl) ?_));refine pW rfl (aV ?_))))|refine nZ ?_));all_goals first | (exfalso;omega) | exact rQ
      · rw [decide_eq_true q1,decide_eq_false q2]
        (repeat' (first|refine wS ?_|refine wR ?_|refine wE ?_|refine wU ?_|(refine rg 4 (dK rfl (qW T rfl (vV (aJ rfl rfl) (mV ?_))));refine bT rfl rfl ?_ ?_<;>(intro hb;rw [hb];(try simp only [nm] at hb);try (exfalso;omega));(all_goals ((iterate 5 refine gF ?_);refine pV ?_)))|(refine rg 9 (mW rfl (qW T rfl (dK rfl (vV (cJ rfl rfl (by omega) (by omega)) (vV (iC rfl rfl) (mV ?_))))));refine bT rfl rfl ?_ ?_<;>(intro hb;rw [hb];(try simp only [nm] at hb);try (exfalso;omega));(all_goals (refine yN rfl (yN rfl (yV (iC rfl rfl) (pW rfl (mV ?_))));refine bT rfl rfl ?_ ?_<;>(intro hb;rw [hb];(try simp only [nm] at hb);try (exfalso;omega))));(all_goals ((iterate 3 refine gF ?_);refine pW rfl (aV ?_))))|refine nZ ?_));all_goals first | (exfalso;omega) | exact rQ
    · rw [decide_eq_false q1]
      (repeat' (first|refine wS ?_|refine wR ?_|refine wE ?_|refine wU ?_|(refine wC rfl ?_ ?_<;>(intro hb;(try simp only [nm] at hb);try (exfalso;omega)))|(refine rg 4 (dK rfl (qW T rfl (vV (aJ rfl rfl) (mV ?_))));refine bT rfl rfl ?_ ?_<;>(intro hb;rw [hb];(try simp only [nm] at hb);try (exfalso;omega));(all_goals first|(refine gT (mW rfl (gT (mW rfl (gT (mW rfl (gT (vV (cJ rfl rfl (by omega) (by omega)) (gT (vV (iC rfl rfl) ?_))))))))))|(iterate 5 refine gF ?_));(all_goals (refine pV ?_)))|(refine rg 9 (mW rfl (qW T rfl (dK rfl (vV (cJ rfl rfl (by omega) (by omega)) (vV (iC rfl rfl) (mV ?_))))));refine bT rfl rfl ?_ ?_<;>(intro hb;rw [hb];(try simp only [nm] at hb);try (exfalso;omega));(all_goals ((iterate 3 refine gF ?_);refine pW rfl (mV ?_);(iterate 3 refine gF ?_);refine pW rfl (aV ?_))))|refine nZ ?_));all_goals first | (exfalso;omega) | exact rQ
end Go.Proofs.YtmmmeebiobjnbaaGreat
namespace Go.Ld
open Go.Ab Go.Proofs.YtmmmeebiobjnbaaGreat
def L0 (c : Cx) (t : Tr) (e : En) : Int × Tr := if e.sold then (if qB c t e.x = 0 then (0,xT t e.x) else (qB c t e.x,t)) else zG6 c t e.s
def UR (c : Cx) (t : Tr) (e : En) : Hp := if e.sold then (if qB c t e.x = 0 then F2 c (xT t e.x) else HW c t) else if (eZ c t.gs e.s).1 = 0 then D7 c (zG6 c t e.s).2 else HW c t
theorem P4 (c : Cx) (t : Tr) (e : En) :
    ((L0 c t e).2 = t ∧ UR c t e = HW c t) ∨
    (∃ s,e.sold = false ∧ s = e.s ∧ (eZ c t.gs s).1 = 0 ∧ (L0 c t e).1 = 0 ∧ (L0 c t e).2 = ⟨(eZ c t.gs s).2,t.seen ++ [s],t.sales,t.ord ++ [false]⟩ ∧ UR c t e = D7 c (L0 c t e).2) ∨
    (e.sold = true ∧ qB c t e.x = 0 ∧ (L0 c t e).1 = 0 ∧ (L0 c t e).2 = xT t e.x ∧ UR c t e = F2 c (L0 c t e).2) := by
  unfold L0 UR;by_cases h : e.sold = true
  · rw [if_pos h,if_pos h];by_cases q : qB c t e.x = 0
    · rw [if_pos q,if_pos q];exact .inr (.inr ⟨h,q,rfl,rfl,rfl⟩)
    · rw [if_neg q,if_neg q];exact .inl ⟨rfl,rfl⟩
  · rw [if_neg h,if_neg h];unfold zG6;by_cases q : (eZ c t.gs e.s).1 = 0
    · rw [if_pos q,if_pos q];exact .inr (.inl ⟨_,by simpa using h,rfl,q,rfl,rfl,rfl⟩)
    · rw [if_neg q,if_neg q];exact .inl ⟨rfl,rfl⟩
theorem SH {c : Cx} {t : Tr} {x : Sl} (h : qB c t x = 0) : 0 ≤ x.b ∧ x.b < c.bs.length := by
  rcases Y8 c t x with ⟨q,_⟩ | ⟨q,_⟩
  · omega
  · omega
structure L3 (c : Cx) (l : List En) (k : Nat) (t : Tr) : Prop where
  tr : kH c t
  sub : t.seen.Sublist (pU (l.take k))
  sl : t.sales.length ≤ IX (l.take k)
  od : t.ord.length ≤ k
theorem L3.new {c : Cx} (hc : iU c) (l : List En) : L3 c l 0 ⟨pT c,[],[],[]⟩ := ⟨kH.new hc,List.nil_sublist _,bY _,bY _⟩
theorem sF {l : List En} {k : Nat} (h : k < l.length) : l.take (k + 1) = l.take k ++ [l[k]] := aP h
theorem L3.skip {c : Cx} {l : List En} {k : Nat} {t : Tr} (h : L3 c l k t) (hk : k < l.length) : L3 c l (k + 1) t := by
  refine ⟨h.tr,?_,?_,zD2 h.od⟩
  · rw [sF hk,C2];exact h.sub.trans (List.sublist_append_left _ _)
  · rw [sF hk,A6];have := h.sl;omega
theorem L3.see {c : Cx} {l : List En} {k : Nat} {t : Tr} (hc : iU c) (h : L3 c l k t) (hk : k < l.length) (hs : l[k].sold = false) (h0 : (eZ c t.gs l[k].s).1 = 0) : L3 c l (k + 1) ⟨(eZ c t.gs l[k].s).2,t.seen ++ [l[k].s],t.sales,t.ord ++ [false]⟩ := by
  refine ⟨h.tr.see hc h0,?_,?_,by simp;exact h.od⟩
  · rw [sF hk,C2,if_neg (by rw [hs];decide)]
    exact h.sub.append (List.Sublist.refl _)
  · rw [sF hk,A6];have := h.sl;dsimp only;omega
theorem L3.sell {c : Cx} {l : List En} {k : Nat} {t : Tr} (h : L3 c l k t) (hk : k < l.length) (hs : l[k].sold = true) (h0 : qB c t l[k].x = 0) : L3 c l (k + 1) (xT t l[k].x) := by
  refine ⟨h.tr.sell _ (SH h0),?_,?_,by unfold xT;simp;exact h.od⟩
  · rw [sF hk,C2];exact h.sub.trans (List.sublist_append_left _ _)
  · rw [sF hk,A6,if_pos hs];have := h.sl;unfold xT;simp;omega
theorem L3.add {c : Cx} {l : List En} {k : Nat} {t : Tr} (hc : iU c) (h : L3 c l k t) (hk : k < l.length) : L3 c l (k + 1) (L0 c t l[k]).2 := by
  rcases P4 c t l[k] with ⟨e,_⟩ | ⟨s,e1,rfl,e2,_,e,_⟩ | ⟨e1,e2,_,e,_⟩
  · rw [e];exact h.skip hk
  · rw [e];exact h.see hc hk e1 e2
  · rw [e];exact h.sell hk e1 e2
theorem L3.swap {c : Cx} {l : List En} {k : Nat} {t : Tr} (h : L3 c l k t) (h5 : yT (pU l) ≤ 5) : yT t.seen ≤ 5 := by
  refine bK (List.Sublist.countP_le h.sub) (bK ?_ h5);have e : pU l = pU (l.take k) ++ pU (l.drop k) := by
    unfold pU;rw [← bO,← tV,bQ]
  rw [e,FM];exact iI _ _
theorem L3.mem {c : Cx} {l : List En} {k : Nat} {t : Tr} (h : L3 c l k t) : ∀ s,s ∈ t.seen → ∃ e,e ∈ l ∧ e.s = s := fun s hs => by
  obtain ⟨e,he,rfl⟩ := bB.1 (h.sub.mem hs);exact ⟨e,eK (eF.1 he).1,rfl⟩
theorem L3.len {c : Cx} {l : List En} {k : Nat} {t : Tr} (h : L3 c l k t) : t.seen.length ≤ k ∧ t.sales.length ≤ k := by
  have h1 := h.sub.length_le;have h2 := LG (l.take k);have h3 := IW (l.take k);have h4 := h.sl;rw [bC] at h2 h3;omega
theorem ZJ {l : List En} {n m : Nat} (h : LC l n m = true) : l.length ≤ n + m ∧ yT (pU l) ≤ 5 ∧ ∀ s,s ∈ pU l → s.ids.length ≤ 12 := by
  unfold LC at h;simp only [aK,decide_eq_true_eq] at h;obtain ⟨⟨h1,h2⟩,h3⟩ := h;rw [bS (by omega)] at h3
  unfold GU at h3;simp only [aK,decide_eq_true_eq,bH] at h3;obtain ⟨⟨h4,h5⟩,h6⟩ := h3;rw [bS (by omega)] at h4 h6
  exact ⟨h1,h6,h4⟩
theorem L3.ids {c : Cx} {l : List En} {k : Nat} {t : Tr} (h : L3 c l k t) (hx : ∀ s,s ∈ pU l → s.ids.length ≤ 12) : ∀ s,s ∈ t.seen → s.ids.length ≤ 9223372036854775807 := fun s hs => by
  obtain ⟨e,he,rfl⟩ := bB.1 (h.sub.mem hs);obtain ⟨h1,h2⟩ := eF.1 he;have := hx e.s (bB.2 ⟨e,eF.2 ⟨eK h1,h2⟩,rfl⟩);omega
def Later (t t' : Tr) : Prop := (t'.seen = t.seen ∨ ∃ s,t'.seen = t.seen ++ [s]) ∧ ∃ r,t'.sales = t.sales ++ r
theorem TL (c : Cx) (t : Tr) (e : En) : Later t (L0 c t e).2 := by
  rcases P4 c t e with ⟨e,_⟩ | ⟨s,e1,rfl,e2,_,e,_⟩ | ⟨e1,e2,_,e,_⟩
  · rw [e];exact ⟨.inl rfl,[],by simp⟩
  · rw [e];exact ⟨.inr ⟨_,rfl⟩,[],by simp⟩
  · rw [e];exact ⟨.inl rfl,_,rfl⟩
theorem Later.get {t t' : Tr} (h : Later t t') {k : Nat} {x : Sd} (hk : t.sales[k]? = some x) : t'.sales[k]? = some x := by
  obtain ⟨_,r,e⟩ := h;rw [e,aH (aB.1 hk).1];exact hk
theorem Later.ids {c : Cx} {t t' : Tr} (h : Later t t') {x : Sd} (hn : x.n ≤ t.seen.length) : ∀ i,i ∈ hC c t'.seen x → i ∈ hC c t.seen x := by
  rcases h.1 with e | ⟨s,e⟩
  · rw [e];exact fun _ h => h
  · rw [e];exact YP hn
end Go.Ld
namespace Go.Proofs.YtmmmeebiobjnbaaGreat
open Go Go.Ab Go.Ld
attribute [local irreducible] VC AW cE aU iV yD
set_option maxHeartbeats 4000000
theorem kR {h : Hp} {c : Cx} {t : Tr} {a b d e f n m q : Nat} (h0 : h[a]? = some (.cells [.rowE (kU c.ls) 3, .rowE (fP c.bs) 3, .ptr b 0, .sl d 0 n 5, .sl e 0 m 6, .sl f 0 q 1])) (h1 : h[b]? = some (.cells (jP c t.gs))) (h2 : h[d]? = some (.arr (oG t.seen) 5)) (h3 : h[e]? = some (.arr (rT c t.sales) 6)) (h4 : h[f]? = some (.arr (oU t.ord) 1))
    (e1 : n = t.seen.length) (e2 : m = t.sales.length) (e3 : q = t.ord.length) : nN h (.ptr a 0) (.pr (FK c t) 0) :=
  .ptr h0 (.cons (.row _ _ _) (.cons (.row _ _ _) (.cons (.ptr h1 (kW _ rfl)) (.cons (nU h2 (by rw [e1,rA]) (QU _)) (.cons (nU h3 (by rw [e2,sV]) (zG7 _ _)) (.cons (nU h4 (by rw [e3,tE]) (zP3 _)) .nil))))))
theorem yD9 (c : Cx) (t : Tr) (e : En) (hc : iU c) (h : kH c t) (hb : c.bs.length ≤ 1000) (hids : e.sold = false → e.s.ids.length ≤ 1000000) (hn : t.seen.length ≤ 100000) (hm : t.sales.length ≤ 100000) (hq : t.ord.length ≤ 100000) :
    aU Tryz.prog 15 [.ptr 0 0,.agg (zR5 e)] (HW c t) (.i (L0 c t e).1) (UR c t e) := by
  have hs1 := PG c t e.x h hb hn hq hm;have hs2 := fun q => PH c t e.s hc h (hids q) hn hq;have hs3 := fun q => zF0 c t e.s hc h (hids q);obtain ⟨es,⟨ek,ea,eb,en,eids⟩,⟨xt,xo,xb,xn⟩⟩ := e;unfold L0 UR zG6;dsimp only at *;have i1 := eY t.seen;have i2 := fM c t.sales;have i3 := eI t.ord;cases es with
  | true =>
    rw [if_pos rfl,if_pos rfl];by_cases q : qB c t ⟨xt,xo,xb,xn⟩ = 0
    · rw [if_pos q] at hs1;rw [if_pos q,if_pos q];rw [q] at hs1;have j1 := eY (xT t ⟨xt,xo,xb,xn⟩).seen;have j2 := fM c (xT t ⟨xt,xo,xb,xn⟩).sales;have j3 := eI (xT t ⟨xt,xo,xb,xn⟩).ord;generalize xT t ⟨xt,xo,xb,xn⟩ = t' at *;refine bX T Tryz.func15 rfl rfl rfl rfl ?_
      (repeat' (first|refine wS ?_|(refine rg 0 (cH (cY rfl rfl) rfl (aV ?_)))|refine nZ ?_));refine gL 3 (cs := zR5 ⟨true,⟨ek,ea,eb,en,eids⟩,⟨xt,xo,xb,xn⟩⟩) rfl rfl rfl ?_
      (repeat' (first|refine wS ?_|refine wR ?_|refine wT ?_|(refine rg 1 (KX T ?_))|(refine rg 2 (mW rfl (iP T rfl (eA [0,1,2,3,4] rfl rfl (hs1) rfl rfl (by decide) ⟨.inr rfl,.inr rfl,.inr (aC rfl rfl i1),.inr (aC rfl rfl i2),.inr (aC rfl rfl i3),trivial⟩ (by simp) rfl ?_)));refine aV ?_)|refine nZ ?_));all_goals try (exfalso;omega)
      all_goals exact ⟨.inl rfl,[0,1,2,3,4,6,7],_,rfl,rfl,rfl,⟨.inr rfl,.inr rfl,.inr (aC rfl (bE _ j1) j1),.inl rfl,.inl rfl,.inr (aC rfl (bE _ j2) j2),.inr (aC rfl (bE _ j3) j3),trivial⟩,by decide,XY _ _⟩
    · rw [if_neg q] at hs1;rw [if_neg q,if_neg q];generalize qB c t ⟨xt,xo,xb,xn⟩ = code at *;refine bX T Tryz.func15 rfl rfl rfl rfl ?_
      (repeat' (first|refine wS ?_|(refine rg 0 (cH (cY rfl rfl) rfl (aV ?_)))|refine nZ ?_));refine gL 3 (cs := zR5 ⟨true,⟨ek,ea,eb,en,eids⟩,⟨xt,xo,xb,xn⟩⟩) rfl rfl rfl ?_
      (repeat' (first|refine wS ?_|refine wR ?_|refine wT ?_|(refine rg 1 (KX T ?_))|(refine rg 2 (mW rfl (iP T rfl (eA [0,1,2,3,4] rfl rfl (hs1) rfl rfl (by decide) ⟨.inr rfl,.inr rfl,.inr (aC rfl rfl i1),.inr (aC rfl rfl i2),.inr (aC rfl rfl i3),trivial⟩ (by simp) rfl ?_)));refine aV ?_)|refine nZ ?_));all_goals try (exfalso;omega)
      all_goals exact ⟨.inl rfl,[0,1,2,3,4],_,rfl,rfl,rfl,⟨.inr rfl,.inr rfl,.inr (aC rfl (bE _ i1) i1),.inr (aC rfl (bE _ i2) i2),.inr (aC rfl (bE _ i3) i3),trivial⟩,by decide,zQ9⟩
  | false =>
    rw [if_neg mZ,if_neg mZ];by_cases q : (eZ c t.gs ⟨ek,ea,eb,en,eids⟩).1 = 0
    · have hs2 := hs2 rfl q;rw [if_pos q,if_pos q];dsimp only;have j1 := eY (t.seen ++ [⟨ek,ea,eb,en,eids⟩]);have j3 := eI (t.ord ++ [false]);generalize (eZ c t.gs ⟨ek,ea,eb,en,eids⟩).2 = g' at *;generalize t.seen ++ [⟨ek,ea,eb,en,eids⟩] = se' at *;generalize t.ord ++ [false] = or' at *;refine bX T Tryz.func15 rfl rfl rfl rfl ?_
      (repeat' (first|refine wS ?_|(refine rg 0 (cH (cY rfl rfl) rfl (aV ?_)))|refine nZ ?_));refine gL 3 (cs := zR5 ⟨false,⟨ek,ea,eb,en,eids⟩,⟨xt,xo,xb,xn⟩⟩) rfl rfl rfl ?_
      (repeat' (first|refine wS ?_|refine wK ?_|refine wR ?_|refine wU ?_|(refine rg 1 (KX T ?_))|(refine rg 3 (mW rfl (iP T rfl (eA [0,1,2,3,4] rfl rfl (hs2) rfl rfl (by decide) ⟨.inr rfl,.inr rfl,.inr (aC rfl rfl i1),.inr (aC rfl rfl i2),.inr (aC rfl rfl i3),trivial⟩ (by simp) rfl ?_)));refine aV ?_)|refine nZ ?_));all_goals try (exfalso;omega)
      all_goals exact ⟨.inl rfl,[0,1,2,3,4,6,7],_,rfl,rfl,rfl,⟨.inr rfl,.inr rfl,.inl rfl,.inr (aC rfl (bE _ i2) i2),.inl rfl,.inr (aC rfl (bE _ j1) j1),.inr (aC rfl (bE _ j3) j3),trivial⟩,by decide,XY _ _⟩
    · have hs3 := hs3 rfl q;rw [if_neg q,if_neg q];dsimp only;generalize (eZ c t.gs ⟨ek,ea,eb,en,eids⟩).1 = code at *;refine bX T Tryz.func15 rfl rfl rfl rfl ?_
      (repeat' (first|refine wS ?_|(refine rg 0 (cH (cY rfl rfl) rfl (aV ?_)))|refine nZ ?_));refine gL 3 (cs := zR5 ⟨false,⟨ek,ea,eb,en,eids⟩,⟨xt,xo,xb,xn⟩⟩) rfl rfl rfl ?_
      (repeat' (first|refine wS ?_|refine wK ?_|refine wR ?_|refine wU ?_|(refine rg 1 (KX T ?_))|(refine rg 3 (mW rfl (iP T rfl (eA [0,1,2,3,4] rfl rfl (hs3) rfl rfl (by decide) ⟨.inr rfl,.inr rfl,.inr (aC rfl rfl i1),.inr (aC rfl rfl i2),.inr (aC rfl rfl i3),trivial⟩ (by simp) rfl ?_)));refine aV ?_)|refine nZ ?_));all_goals try (exfalso;omega)
      all_goals exact ⟨.inl rfl,[0,1,2,3,4],_,rfl,rfl,rfl,⟨.inr rfl,.inr rfl,.inr (aC rfl (bE _ i1) i1),.inr (aC rfl (bE _ i2) i2),.inr (aC rfl (bE _ i3) i3),trivial⟩,by decide,zQ9⟩
end Go.Proofs.YtmmmeebiobjnbaaGreat
namespace Go.Ld
open Go.Ab Go.Proofs.YtmmmeebiobjnbaaGreat
def d0 : Cx := ⟨0,0,0,0,[(⟨#[110,117,116]⟩,10)],[(0,0,false),(0,0,false),(0,0,false)],[(0,5,0),(1,3,0),(2,2,0)]⟩
theorem qJ : iU d0 := ⟨⟨by decide,by decide,by decide,by decide,by decide,by decide,by decide,by decide,by decide⟩,by unfold nO d0;decide⟩
def y1 : Ev := ⟨4,0,1,0,[]⟩
def y2 : Ev := ⟨5,1,0,1,[]⟩
def y3 : Ev := ⟨5,0,0,0,[]⟩
def z1 : Sl := ⟨1,0,0,1⟩
def h0 : List G := pT d0
def h1 : List G := (eZ d0 h0 y1).2
def yI9 : List G := (eZ d0 h1 y2).2
def yE2 : List G := (eZ d0 h1 y1).2
def yI8 : List G := (eZ d0 yE2 y3).2
def CF : Sd := ⟨z1,h1,1⟩
def u0 : Tr := ⟨h0,[],[],[]⟩
def u1 : Tr := ⟨h1,[y1],[],[false]⟩
def u2 : Tr := ⟨h1,[y1],[CF],[false,true]⟩
def zE9 : Tr := ⟨yI9,[y1,y2],[CF],[false,true,false]⟩
def zQ6 : Tr := ⟨yE2,[y1,y1],[CF],[false,true,false]⟩
def zE8 : Tr := ⟨yI8,[y1,y1,y3],[CF],[false,true,false,false]⟩
theorem v0 : (eZ d0 h0 y1).1 = 0 := by decide +kernel
theorem yH9 : (eZ d0 h1 y2).1 = 0 := by decide +kernel
theorem yH8 : (eZ d0 h1 y1).1 = 0 := by decide +kernel
theorem yH7 : (eZ d0 yE2 y3).1 = 0 := by decide +kernel
theorem k0 : kH d0 u0 := kH.new qJ
theorem k1 : kH d0 u1 := k0.see qJ v0
theorem k2 : kH d0 u2 := k1.sell z1 (by decide)
theorem yF8 : kH d0 zE9 := by
  have h : kH d0 ⟨yI9,[y1] ++ [y2],[CF],[false,true] ++ [false]⟩ := kH.see (t := u2) (s := y2) qJ k2 yH9;exact h
theorem yI7 : kH d0 zQ6 := by
  have h : kH d0 ⟨yE2,[y1] ++ [y1],[CF],[false,true] ++ [false]⟩ := kH.see (t := u2) (s := y1) qJ k2 yH8;exact h
theorem yF7 : kH d0 zE8 := by
  have h : kH d0 ⟨yI8,[y1,y1] ++ [y3],[CF],[false,true,false] ++ [false]⟩ := kH.see (t := zQ6) (s := y3) qJ yI7 yH7;exact h
theorem yI3 : qB d0 u1 z1 = 0 := by decide +kernel
theorem yJ8 : T3 h1 0 = some (mA h1 0,0) := by kernel_rfl
theorem yF3 : C9 CF = [0,1] := by
  unfold C9;rw [show T3 CF.gs CF.s.b = _ from yJ8]
  show tZ (mA h1 0) 0 = [0,1];unfold tZ;rw [sS];decide +kernel
theorem yG1 : hC d0 u2.seen CF = [0,1] := by unfold hC;rw [yF3];decide +kernel
theorem yG0 : hC d0 zE9.seen CF = [0] := by unfold hC;rw [yF3];decide +kernel
theorem yF9 : hC d0 zE8.seen CF = [0,1] := by unfold hC;rw [yF3];decide +kernel
theorem zZ5 : jK d0 [0,1] = [0,1] := by unfold jK;rw [sS];decide +kernel
theorem yH0 : jK d0 [0] = [0] := by unfold jK;rw [sS];decide +kernel
theorem zH4 {c : Cx} {t : Tr} {x : Sd} (h : t.sales = [x]) (lot : Int) : zH5 c t lot = if lot ∈ lR (jK c (hC c t.seen x)) then [0] else [] := by
  unfold zH5 rP;rw [h];by_cases q : lot ∈ lR (jK c (hC c t.seen x)) <;> simp [q,D2,nats]
end Go.Ld
namespace Go.Proofs.YtmmmeebiobjnbaaGreat
open Go Go.Ab Go.Ld
attribute [local irreducible] VC AW cE aU iV yD
set_option maxHeartbeats 4000000
theorem PS : Tryz.prog.underlying 35 = some (.pointer 83) := by kernel_rfl
theorem T9 (c : Cx) (t : Tr) (k a b n : Int) (hc : iU c) (h : kH c t) (hn : t.seen.length ≤ 100000) (hm : t.ord.length ≤ 100000) (h0 : (eZ c t.gs ⟨k,a,b,n,[]⟩).1 = 0) :
    aU Tryz.prog 21 [.ptr 0 0,.agg [.i k,.i a,.i b,.i n,.nils]] (HW c t) (.i 0) (D7 c ⟨(eZ c t.gs ⟨k,a,b,n,[]⟩).2,t.seen ++ [⟨k,a,b,n,[]⟩],t.sales,t.ord ++ [false]⟩) :=
  FB (PH c t ⟨k,a,b,n,[]⟩ hc h (bY _) hn hm h0) fun S w ρ ys => lX (fun _ h => h) fun ys => lX (fun _ h => MB h) fun _ h => h
theorem TY : aU Tryz.prog 26 [] [] (.ptr 0 0) (HW d0 u2) := by
  have hn := VM d0 qJ;have hs := T9 d0 u0 4 0 1 0 qJ k0 (by decide) (by decide) v0
  change aU _ _ _ _ _ (D7 d0 u1) at hs;have hz := PG d0 u1 z1 k1 (by decide) (by decide) (by decide) (by decide)
  rw [if_pos yI3,yI3] at hz;change aU _ _ [.ptr 0 0,.agg [.i 1,.i 0,.i 0,.i 1]] _ _ (F2 d0 u2) at hz;change aU _ _ [.agg [.i 0,.i 0,.i 0,.i 0],.rowE [[.v (.string ⟨#[110,117,116]⟩),.i 10]] 2,.rowE [[.i 0,.i 0,.b false],[.i 0,.i 0,.b false],[.i 0,.i 0,.b false]] 3,.rowE [[.i 0,.i 5,.i 0],[.i 1,.i 3,.i 0],[.i 2,.i 2,.i 0]] 3] _ _ [.cells [.rowE (kU d0.ls) 3,.rowE (fP d0.bs) 3,.ptr 1 0,.nils,.nils,.nils],.cells (jP d0 h0)] at hn;have i1 := eY u1.seen;have i2 := fM d0 u1.sales;have i3 := eI u1.ord;have j1 := eY u2.seen;have j2 := fM d0 u2.sales;have j3 := eI u2.ord;have e0 : u0.gs = h0 := rfl;have e1 : u0.seen = [] := rfl;have e2 : u0.sales = [] := rfl;have e3 : u0.ord = [] := rfl;generalize u0 = U0 at *;generalize u1 = U1 at *;generalize u2 = U2 at *;generalize h0 = H0 at *;obtain ⟨g0,s0,sa0,o0⟩ := U0;have hD : True := trivial;dsimp only at e0 e1 e2 e3;subst e0 e1 e2 e3;clear hD;generalize d0 = D at *;refine bX T Tryz.func26 rfl rfl rfl rfl ?_
  (repeat' (first|refine wS ?_|(refine rg 0 (aV ?_))|(refine rg 1 (vV (by exact eR T rfl rfl rfl rfl) ?_);refine cH (by exact bD T rfl rfl (by decide) (by decide) rfl rfl rfl) rfl ?_;refine mJ 7 rfl rfl rfl rfl ?_;refine aV ?_)|(refine rg 2 (vV (by exact eR T rfl rfl rfl rfl) ?_);refine vV (by exact eR T rfl rfl rfl rfl) ?_;refine vV (by exact eR T rfl rfl rfl rfl) ?_;refine cH (by exact bD T rfl rfl (by decide) (by decide) rfl rfl rfl) rfl ?_;refine mJ 11 rfl rfl rfl rfl ?_;refine aV ?_)|(refine rg 3 (vV (by exact eR T rfl rfl rfl rfl) ?_);refine vV (by exact eR T rfl rfl rfl rfl) ?_;refine vV (by exact eR T rfl rfl rfl rfl) ?_;refine cH (by exact bD T rfl rfl (by decide) (by decide) rfl rfl rfl) rfl ?_;refine mJ 15 rfl rfl rfl rfl ?_;refine aV ?_)|refine nZ ?_));all_goals try (exfalso;omega)
  (repeat' (first|refine wS ?_|(refine rg 4 (vV (by exact eR T rfl rfl rfl rfl) ?_);refine dK rfl (mW rfl (cH (by exact fQ rfl rfl hn (.inr ⟨rfl,rfl,by simp⟩)) rfl ?_));refine mW rfl (xW rfl (xW rfl (uV ?_))))|refine nZ ?_));all_goals try (exfalso;omega)
  refine nX 3 3 5 rfl rfl (by decide) ?_
  refine nX 3 4 6 rfl rfl (by decide) ?_
  refine nX 3 5 1 rfl rfl (by decide) ?_
  refine eU [(4,.ptr 0 0),(5,.i 0)] [.cells [.rowE (kU D.ls) 3,.rowE (fP D.bs) 3,.ptr 1 0,.sl 2 0 0 5,.sl 3 0 0 6,.sl 4 0 0 1],.cells (jP D g0),.arr [] 5,.arr [] 6,.arr [] 1] ⟨[3,4,5,6,7],rfl,(by repeat first|exact trivial|refine ⟨rfl,?_⟩),⟨.inr rfl,.inr rfl,.inr rfl,.inr rfl,.inr rfl,trivial⟩,by decide,kI _⟩ ?_
  (repeat' (first|refine wS ?_|refine wK ?_|refine wR ?_|refine wU ?_|(refine rg 5 (mW rfl (vV (fY rfl rfl) (mW rfl (yN rfl (yV (by exact xF PS rfl rfl rfl) ?_)))));refine pV ?_)|(refine rg 7 (mW rfl (vV (by exact eR T rfl rfl rfl rfl) ?_));refine eA [0,1,2,3,4] rfl rfl (hs) rfl rfl (by decide) ⟨.inr rfl,.inr rfl,.inr rfl,.inr rfl,.inr rfl,trivial⟩ (by simp) rfl ?_;refine vV (fY rfl rfl) (mW rfl (yN rfl (yV (by exact eR T rfl rfl rfl rfl) ?_)));refine gT (eA [0,1,5,3,6] rfl rfl (hz) rfl rfl (by decide) ⟨.inr rfl,.inr rfl,.inr (aC rfl (bE _ i1) i1),.inr (aC rfl (bE _ i2) i2),.inr (aC rfl (bE _ i3) i3),trivial⟩ (by simp) rfl ?_);refine yV (fY rfl rfl) (pV ?_))|(refine rg 9 (mW rfl (aV ?_)))|refine nZ ?_));all_goals try (exfalso;omega)
  all_goals exact ⟨.inl rfl,[0,1,5,7,8],_,rfl,rfl,rfl,⟨.inr rfl,.inr rfl,.inr (aC rfl (bE _ j1) j1),.inr (aC rfl (bE _ j2) j2),.inr (aC rfl (bE _ j3) j3),trivial⟩,by decide,kI _⟩
end Go.Proofs.YtmmmeebiobjnbaaGreat
