/-
  Texts of the logic and of the layer,in one module (part 6).
-/
import Derived.Test.YtmmkhmilpeodnaaGreatJ5
import Derived.Shelf.Spec.SlicesGrow
import Derived.Ground.Names8Prog
set_option linter.unusedVariables false
set_option linter.unusedSimpArgs false
set_option linter.unnecessarySimpa false
namespace Go.Ld
open Go.Ab Go.Proofs.YtmmkhmilpeodnaaGreat
abbrev gL (c : Cx) (gs : List G) : List AV := [.i c.m,.i c.st,.i c.er,.i c.sl,.rowE (iI c.ks) 2,.rowE (kX c.ls) 3,.rowE (fS c.bs) 3,.rowE (iW gs) 2]
theorem NA (c : Cx) (r : Int) (l : List W) : fR (fun w => decide (w.2.1 + r > c.m)) l = l.filter fun w => decide (w.2.1 + r ≤ c.m) := by
  unfold fR;congr 1;funext w;show (!decide (w.2.1 + r > c.m)) = decide (w.2.1 + r ≤ c.m);by_cases h : w.2.1 + r ≤ c.m
  · rw [decide_eq_true h,decide_eq_false (by omega)];rfl
  · rw [decide_eq_false h,decide_eq_true (by omega)];rfl
theorem MO {c : Cx} {all : List G} {k : Nat} (h : k < all.length) : (paid c all).take (k + 1) = (paid c all).take k ++ [(all[k].1,fR (fun w => decide (w.2.1 + (mJ all - iH all[k]) > c.m)) all[k].2)] := by
  rw [NA];unfold paid;rw [← kG,← kG,aQ h,dH];rfl
theorem QW (c : Cx) (all : List G) : (paid c all).length = all.length := by unfold paid;rw [bC]
theorem F6 (c : Cx) (all : List G) : (paid c all).flatMap (·.1) = all.flatMap (·.1) := by
  unfold paid;rw [V3]
theorem vK.sub {n : Nat} {g : G} (h : vK n g) {ws : List W} (hs : ∀ w,w ∈ ws → w ∈ g.2) : vK n (g.1,ws) := ⟨h.ne,h.up,h.rg,h.ln,fun w hw => h.ws w (hs w hw),fun w v hw hv => h.same w v (hs w hw) (hs v hv)⟩
theorem mP.paid {n : Nat} {all : List G} (h : mP n all) (c : Cx) : mP n (paid c all) where
  ok g hg := by
    obtain ⟨x,hx,rfl⟩ := bI.1 hg;exact (h.ok x hx).sub fun w hw => (oZ.1 hw).1
  nd := by rw [F6];exact h.nd
  ln := by rw [F6];exact h.ln
  ws g hg := by
    obtain ⟨x,hx,rfl⟩ := bI.1 hg;exact bY (DG _ _) (h.ws x hx)
theorem JL {c : Cx} {all : List G} (h : GW all) : GW (paid c all) := by
  unfold paid;refine UZ.2 (h.imp fun h => h)
theorem Z9 {n : Nat} {g : G} (h : vK n g) (hne : g.2 ≠ []) : 0 ≤ iH g ∧ iH g ≤ 4000000 := by
  obtain ⟨w,hw,e⟩ := Z8 hne;have := h.ws w hw;rw [← e];exact ⟨this.m0,this.m1⟩
end Go.Ld
namespace Go.Proofs.YtmmkhmilpeodnaaGreat
open Go Go.Ab Go.Ld
attribute [local irreducible] VC AW bX aT
set_option maxHeartbeats 4000000
theorem VT (c : Cx) (gs : List G) (w : W) (r : Int) (h1 : 0 ≤ w.2.1 ∧ w.2.1 ≤ 4000000) (h2 : -100000000 ≤ r ∧ r ≤ 100000000) : aT Tryz.prog 105 [HI w,.pr [.i r] 0,.pr [.pr (gL c gs) 0] 0] [] (.b (decide (w.2.1 + r > c.m))) [] := by
  refine bT T Tryz.func105 rfl rfl rfl rfl ?_
  (repeat' (first|refine wS ?_|refine wR ?_|(refine rg 0 (bV (cO rfl rfl) rfl (aV ?_)))|(refine cM (id := 1) 15 [[],[0],[],[0,1,2],[],[4],[4,5],[4,5,6],rM 4 4,rN 9] (rM 5 10) [[],[],[5,6],[],rM 5 4,rM 5 4,rM 5 4,rM 5 4,rM 5 4,[]] dA rfl (by decide +kernel) (dP T rfl (dO T rfl (dO T rfl (dV rfl (bU rfl rfl (by omega) (by omega)) (dO T rfl (dV rfl (by exact eI rfl rfl) ?_))))));refine dP T rfl (dP T rfl (dO T rfl (dV rfl (fP rfl rfl) (dE ?_))));refine aV ?_)|refine nZ ?_));all_goals first | (exfalso;omega) | exact rQ
end Go.Proofs.YtmmkhmilpeodnaaGreat
namespace Go.Ab
open Go
theorem JB {P : Program} {f : FuncId} {n : Nat} (hfn : ∃ fn, P.funcs[f]? = some fn ∧ (fn.name == "runtime.NumGoroutine") = false ∧ fn.body.isNone = false)
    (hs : ∀ w : World,Calls P f #[.slice none 0 0,.int .i64 n] w fun e w' => ∃ (g : Nat) (cs : Array Value) (t : TypeId),e = .returned (.slice (some ⟨w.heap.size,0,none⟩) 0 g) ∧ g ≤ maxLen ∧ g ≤ cs.size ∧ w' = w.drew.alloc (.cells cs t)) :
    aT P f [.nils,.i n] [] (.sl 0 0 0 1) [.arr [] 1] := by
  refine ⟨hfn,fun ρ S w vs s ha => ?_⟩
  simp only [RL,R] at ha;obtain ⟨y,_,rfl,rfl,y2,_,rfl,rfl,rfl⟩ := ha;refine (hs w).mono fun e w' ⟨g,cs,t,he,hg,hgc,hw⟩ => ?_
  subst hw;have hnew : (w.drew.alloc (.cells cs t)).heap[w.heap.size]? = some (.cells cs t (0,0)) := (MapKept.heap_alloc w.drew _).1;obtain ⟨ρ', g1, g2, _⟩ := s.made (x := .sl 0 0 0 1) (b := .arr [] 1) (y := .slice (some ⟨w.heap.size, 0, none⟩) 0 g) (q := some (w.heap.size, 0)) ((mH.drew1 w).trans (oK w.drew (.cells cs t) (fun _ => False)) (fun _ h => h.elim)) (fun p hp => by cases hp; exact ⟨aY _, by rw [World.size_alloc]; exact Nat.lt_succ_self _⟩)
    (fun ρ' e1 e2 l' => ⟨by simp only [R];exact ⟨_,_,rfl,hg,.inr ⟨_,_,e1,rfl,cK _,⟨cs,t,(0,0),hnew,by omega⟩⟩⟩,⟨(fun e he => nomatch he),ZV,.inl ⟨rfl,fun b o hbo => by cases hbo;exact ⟨cs,t,hnew⟩⟩⟩⟩)
  exact ⟨_,ρ',S,he,g1,g2⟩
end Go.Ab
namespace Go.Proofs.YtmmkhmilpeodnaaGreat
open Go Go.Ab Go.Ld Go.Shelf Go.Proofs
attribute [local irreducible] VC AW bX aT
set_option maxHeartbeats 4000000
shelf_lay_g Lays8.n4 Nm8 4 at Tryz 126 as laysGrow
theorem zD0 (n : Nat) (h0 : 0 < n) (h1 : n ≤ 1000000) : aT Tryz.prog 126 [.nils,.i n] [] (.sl 0 0 0 1) [.arr [] 1] := by
  obtain ⟨inf,z,t1,t2,t3,t4,t5,t6,t7⟩ := T.tiOk 3 _ rfl;have hz : z.cells.size = 1 := by have := congrArg List.length t5;simpa using this
  refine JB ⟨_,Tryz.func126,by kernel_rfl,by kernel_rfl⟩ (fun w => ?_)
  refine (Any8.slices_Grow_grow laysGrow inf z t1 t4 (by rw [t2];decide) none 0 0 n [] w (aY _) (by omega) (by rw [t3];simp;omega) (by omega) (by simp) (fun _ => rfl) (fun a h => by cases h)).mono ?_
  rintro e w' ⟨rfl,rfl⟩;have hge := grownCap_ge w (0 + n) 0 3;refine ⟨_,_,_,rfl,grownCap_le_maxLen w _ _ _ (by unfold maxLen;omega),?_,rfl⟩
  simp only [Array.size_append,Builtin.zeroCells,Array.size_map,Array.size_range,hz,mQ,List.length_nil];omega
theorem TC (p q : List Int) (hp : 0 < p.length ∧ p.length ≤ 1000) (hq : 0 < q.length ∧ q.length ≤ 1000) : aT Tryz.prog 86 [.rowE [[.rowE (ints p) 1],[.rowE (ints q) 1]] 1] [] (.rowE (ints (p ++ q)) 1) [] := by
  have hgr := zD0 (p.length + q.length) (by omega) (by omega)
  rw [show ((p.length + q.length : Nat) : Int) = (p.length : Int) + q.length by omega] at hgr
  have hlp : (ints p).length = p.length := cT _;have hlq : (ints q).length = q.length := cT _;have hpq : ints (p ++ q) = ints p ++ ints q := dH;have hle : ∀ e,e ∈ [[AV.rowE (ints p) 1],[AV.rowE (ints q) 1]] → e.length = 1 := by intro e he;simp at he;rcases he with rfl | rfl <;> rfl
  have g0 : [[AV.rowE (ints p) 1],[AV.rowE (ints q) 1]][((0 : Nat) : Int).toNat]? = some [AV.rowE (ints p) 1] := rfl;have g1 : [[AV.rowE (ints p) 1],[AV.rowE (ints q) 1]][((1 : Nat) : Int).toNat]? = some [AV.rowE (ints q) 1] := rfl;refine nB (by rw [cT] : (p ++ q).length = (ints (p ++ q)).length) (gX (bS _)) ?_
  rw [hpq,aF];have o1 := B8 p;have o2 := B8 q;have n1 := cN p;have n2 := cN q;have i1 := bS p;have i2 := bS q;generalize ints p = P' at *;generalize ints q = Q' at *;obtain ⟨sz,s0,s1,s2⟩ : ∃ sz : Nat → Int,sz 0 = 0 ∧ sz 1 = P'.length ∧ sz 2 = P'.length + Q'.length := ⟨fun k => if k = 0 then 0 else if k = 1 then (P'.length : Int) else P'.length + Q'.length,by simp,by simp,by simp⟩
  obtain ⟨cc,c0,c1,c2⟩ : ∃ cc : Nat → List (List AV),cc 0 = [] ∧ cc 1 = P' ∧ cc 2 = P' ++ Q' := ⟨fun k => if k = 0 then [] else if k = 1 then P' else P' ++ Q',by simp,by simp,by simp⟩
  refine bT T Tryz.func86 rfl rfl rfl rfl ?_
  (repeat' (first|refine wS ?_|refine wB ?_|(refine rg 0 (aV ?_))|(refine rg 1 (aV ?_))|(refine rg 2 (mW rfl (qW T rfl (mV ?_))))|refine nZ ?_));refine dB (X := {k : Nat // k ≤ 2}) (fun k => [(0,.rowE [[.rowE P' 1],[.rowE Q' 1]] 1),(3,.i (sz k.1)),(9,.rowE [[.rowE P' 1],[.rowE Q' 1]] 1),(10,.i 2),(11,.i k.1)]) (fun _ => []) (fun k => 2 - k.1) ⟨0,by omega⟩ ⟨[],rfl,⟨rfl,by rw [s0];rfl,rfl,rfl,rfl,trivial⟩,trivial,cX,lB _⟩ ?_
  rintro ⟨k,hk⟩;dsimp only;rcases (by omega : k = 0 ∨ k = 1 ∨ k = 2) with rfl | rfl | rfl
  · (repeat' (first|refine wS ?_|refine wB ?_|refine wK ?_|refine tQ rfl ?_|(refine wC rfl (fun hb => ?_) (fun hb => ?_) <;> (((try simp only [nm] at hb);try (exfalso;omega))))|(refine rg 3 (vV (aO rfl rfl) ?_))|(refine rg 4 (vV (ix T rfl (by omega) hle g0) (lW T rfl (aV ?_))))|(refine rg 5 (dS rfl (qW T rfl (vV (bU rfl rfl (by omega) (by omega)) (aV ?_)))))|(refine rg 6 (mW rfl (vV (aO rfl rfl) ?_)))|(refine rg 8 (vV (bU rfl rfl (by omega) (by omega)) (mV ?_)))|(refine nZ ?_)));all_goals first | (exfalso;omega) | exact ⟨⟨1,by omega⟩,by dsimp only;omega,[],rfl,⟨rfl,by dsimp only;rw [show sz 1 = sz 0 + P'.length by omega];rfl,rfl,rfl,rfl,trivial⟩,trivial,cX,lB _⟩
  · (repeat' (first|refine wS ?_|refine wB ?_|refine wK ?_|refine tQ rfl ?_|(refine wC rfl (fun hb => ?_) (fun hb => ?_) <;> (((try simp only [nm] at hb);try (exfalso;omega))))|(refine rg 3 (vV (aO rfl rfl) ?_))|(refine rg 4 (vV (ix T rfl (by omega) hle g1) (lW T rfl (aV ?_))))|(refine rg 5 (dS rfl (qW T rfl (vV (bU rfl rfl (by omega) (by omega)) (aV ?_)))))|(refine rg 6 (mW rfl (vV (aO rfl rfl) ?_)))|(refine rg 8 (vV (bU rfl rfl (by omega) (by omega)) (mV ?_)))|(refine nZ ?_)));all_goals first | (exfalso;omega) | exact ⟨⟨2,by omega⟩,by dsimp only;omega,[],rfl,⟨rfl,by dsimp only;rw [show sz 2 = sz 1 + Q'.length by omega];rfl,rfl,rfl,rfl,trivial⟩,trivial,cX,lB _⟩
  · rw [← hlp,← hlq,← s2] at hgr
    (repeat' (first|refine wS ?_|refine wB ?_|refine wE ?_|refine wU ?_|(refine rg 3 (vV (aO rfl rfl) ?_))|(refine rg 9 (mW rfl (bV (by exact fZ rfl rfl hgr (.inr ⟨rfl,rfl,by simp⟩)) rfl ?_));refine aV ?_)|(refine rg 10 (mW rfl (qW T rfl (mV ?_))))|refine nZ ?_));all_goals try (exfalso;omega)
    refine dB (X := {k : Nat // k ≤ 2}) (fun k => [(6,.sl 0 0 (cc k.1).length 1),(25,.rowE [[.rowE P' 1],[.rowE Q' 1]] 1),(26,.i 2),(27,.i k.1)]) (fun k => [.arr (cc k.1) 1]) (fun k => 2 - k.1) ⟨0,by omega⟩ ⟨[0],rfl,⟨by dsimp only;rw [c0];rfl,rfl,rfl,rfl,trivial⟩,⟨.inr (aE rfl (by dsimp only;rw [c0];rfl) (by rw [c0];intro e he;cases he)),trivial⟩,by decide,lB _⟩ ?_
    clear hk;rintro ⟨k,hk⟩;dsimp only;rcases (by omega : k = 0 ∨ k = 1 ∨ k = 2) with rfl | rfl | rfl
    · rw [c0]
      (repeat' (first|refine wS ?_|refine wB ?_|refine wK ?_|refine wT ?_|(refine rg 11 (vV (aO rfl rfl) ?_))|(refine rg 12 (vV (ix T rfl (by omega) hle g0) (lW T rfl (aV ?_))))|(refine rg 13 (dS rfl (hO T rfl rfl rfl rfl rfl rfl (by simp) (.row n1) o1 (by simp;omega) (by simp;omega) rfl ?_));refine aV ?_)|(refine rg 14 (vV (bU rfl rfl (by omega) (by omega)) (mV ?_)))|refine nZ ?_));all_goals first | (exfalso;omega) | skip
      exact ⟨⟨1,by omega⟩,by dsimp only;omega,⟨[1],rfl,⟨by dsimp only;rw [c1];show some (AV.sl 1 0 (0 + P'.length) 1) = some (AV.sl 1 0 P'.length 1);rw [Nat.zero_add],rfl,rfl,rfl,trivial⟩,⟨.inr (aE rfl (by dsimp only;rw [c1];rfl) (by rw [c1];exact i1)),trivial⟩,by decide,lB _⟩⟩
    · rw [c1]
      (repeat' (first|refine wS ?_|refine wB ?_|refine wK ?_|refine wT ?_|(refine rg 11 (vV (aO rfl rfl) ?_))|(refine rg 12 (vV (ix T rfl (by omega) hle g1) (lW T rfl (aV ?_))))|(refine rg 13 (dS rfl (hO T rfl rfl rfl rfl rfl rfl (by omega) (.row n2) o2 (by (simp;omega)) (by omega) rfl ?_));refine aV ?_)|(refine rg 14 (vV (bU rfl rfl (by omega) (by omega)) (mV ?_)))|refine nZ ?_));all_goals first | (exfalso;omega) | skip
      exact ⟨⟨2,by omega⟩,by dsimp only;omega,⟨[1],rfl,⟨by dsimp only;rw [c2,aF];rfl,rfl,rfl,rfl,trivial⟩,⟨.inr (aE rfl (by dsimp only;rw [c2,nS,dD]) (by rw [c2];intro e he;rcases bB.1 he with he | he;exact i1 e he;exact i2 e he)),trivial⟩,by decide,lB _⟩⟩
    · rw [c2,aF]
      (repeat' (first|refine wS ?_|refine wR ?_|refine wE ?_|refine wU ?_|(refine rg 11 (vV (aO rfl rfl) ?_))|(refine rg 15 (mW rfl (aV ?_)))|refine nZ ?_));all_goals first | (exfalso;omega) | exact ⟨.inl rfl,[0],_,rfl,by rw [hlp,hlq];rfl,rfl,⟨.inr (aE rfl rfl (by intro e he;rcases bB.1 he with he | he;exact i1 e he;exact i2 e he)),trivial⟩,by decide,lB _⟩
theorem GF (l : List G) (hl : l.length ≤ 1000000) : aT Tryz.prog 43 [.rowE (iW l) 2] [] (.sl 0 0 l.length 2) [.arr (iW l) 2] := by
  have hll : (iW l).length = l.length := iV l;refine bT T Tryz.func43 rfl rfl rfl rfl ?_
  repeat' (first|refine wS ?_|refine wK ?_|refine wT ?_|refine wU ?_|(refine rg 0 (aV ?_))|(refine rg 1 (mV ?_);refine qN T rfl rfl rfl rfl fun b hb=>?_;cases b)|refine nZ ?_)
  · (repeat' (first|refine wR ?_|(refine rg 3 (bV (by exact bE T rfl rfl (by decide) (by decide) rfl rfl rfl) rfl ?_);refine mW rfl (hO T rfl rfl rfl rfl rfl rfl (by decide) (.row (oT l)) (SI l) (by simp;omega) (by simp;omega) rfl ?_);refine aV ?_)|(refine nZ ?_)));exact ⟨.inl rfl,[1],_,rfl,(by show AV.sl 1 0 (0 + (iW l).length) 2 = AV.sl 1 0 l.length 2;simp),rfl,⟨.inr (aE rfl rfl (dX _)),trivial⟩,by decide,Q7⟩
  · have hl0 : l = [] := fE.1 (Classical.byContradiction fun h => by have := hb (by omega);cases this)
    subst hl0
    (repeat' (first|refine wR ?_|(refine rg 2 (vV (fF rfl) (tY 2 2 rfl (by decide) ?_)))|refine nZ ?_));exact ⟨.inl rfl,[0],_,rfl,rfl,rfl,⟨.inr (aE rfl rfl (dX _)),trivial⟩,by decide,Q7⟩
theorem YH (g : G) (b : Int) (h : g.1.length ≤ 1000000) : aT Tryz.prog 90 [OK g,.pr [.i b] 0] [] (.b (decide (b ∈ g.1))) [] := by
  have hc := T5 g.1 b (by omega)
  refine bT T Tryz.func90 rfl rfl rfl rfl ?_
  (repeat' (first|refine wS ?_|refine wR ?_|(refine rg 0 (bV (cO rfl rfl) rfl (aV ?_)))|(refine rg 1 (iP T rfl (lW T rfl (vV (kC (hc)) (aV ?_)))))|refine nZ ?_));all_goals first | (exfalso;omega) | exact rQ
theorem wL (l : List G) (b : Int) (hl : l.length ≤ 1000000) (hg : ∀ g,g ∈ l → g.1.length ≤ 1000000) : aT Tryz.prog 45 [.rowE (iW l) 2,.i b] [] (.i (nO l b)) [] := by
  have hc := ZO (caps := [.pr [.i b] 0]) (p := fun g => decide (b ∈ g.1)) hl rfl (fun x hx => YH x b (hg x hx));have e : qY (fun g : G => decide (b ∈ g.1)) l 0 = nO l b := by
    rw [AA];unfold nO;cases l.findIdx? fun g => decide (b ∈ g.1) with
    | none => rfl
    | some i => simp
  rw [e] at hc;generalize nO l b = v at *;refine bT T Tryz.func45 rfl rfl rfl rfl ?_
  (repeat' (first|refine wS ?_|refine wR ?_|(refine rg 0 (bV (cO rfl rfl) rfl (aV ?_)))|(refine rg 1 (mW rfl (vV (by exact jD rfl rfl) ?_));refine vV (by exact eU rfl rfl hc (.cons (.row _ _ _) (.cons (.clo .nil (.cons (.ptr rfl (.cons (.v _) .nil)) .nil)) .nil)) rfl rfl) ?_;refine aV ?_)|refine nZ ?_));all_goals first | (exfalso;omega) | exact rQ
end Go.Proofs.YtmmkhmilpeodnaaGreat
namespace Go.Ld
open Go.Ab Go.Proofs.YtmmkhmilpeodnaaGreat
theorem FV {α β : Type} {f : α → List β} {n : Nat} : ∀ (l : List α) (hf : ∀ x, x ∈ l → (f x).length = n) (i j : Nat) (hi : i < l.length) (hj : j < n), (l.flatMap f)[n * i + j]? = (f l[i])[j]?
  | [],hf,i,j,hi,hj => by simp at hi
  | x :: l,hf,0,j,hi,hj => by
    rw [bF,Nat.mul_zero,Nat.zero_add,aG (by rw [hf x aR];exact hj)];rfl
  | x :: l,hf,i + 1,j,hi,hj => by
    have h1 := hf x aR;rw [bF,aD (by rw [h1,UX];omega),h1,show n * (i + 1) + j - n = n * i + j by rw [UX];omega]
    exact FV l (fun x hx => hf x (aN _ hx)) i j (by simpa using hi) hj
theorem FU {α β : Type} {f : α → List β} {n : Nat} : ∀ (l : List α) (hf : ∀ x, x ∈ l → (f x).length = n), (l.flatMap f).length = n * l.length
  | [],hf => by simp
  | x :: l,hf => by
    rw [bF,aF,hf x aR,FU l (fun x hx => hf x (aN _ hx)),List.length_cons,UX];omega
theorem Y8 (a b : G) (l : List Int) : (oA a b l).length = b.2.length * a.2.length := FU _ fun x _ => bC _
theorem MN {a b : G} {l : List Int} {i j : Nat} (hi : i < a.2.length) (hj : j < b.2.length) : (oA a b l)[b.2.length * i + j]? = some (yK a b a.2[i] b.2[j] l) := by
  unfold oA;rw [FV _ (fun x _ => bC _) i j hi hj];simp [hj]
theorem xN : ∀ (l : List Int) (v : Int) (k : Nat), v ∈ l → uH l v k = ((k + l.idxOf v : Nat) : Int)
  | [],v,k,h => by cases h
  | x :: l,v,k,h => by
    unfold uH;by_cases e : v = x
    · rw [if_pos e,e,List.idxOf_cons_self];rfl
    · have e' : (x :: l).idxOf v = l.idxOf v + 1 := by rw [List.idxOf_cons,beq_eq_false_iff_ne.2 (fun h => e h.symm)];rfl
      rw [if_neg e,show ((k : Int) + 1) = ((k + 1 : Nat) : Int) by omega,xN l v (k + 1) (by rcases bL.1 h with h | h;exact absurd h e;exact h),e']
      omega
theorem KU : ∀ (l : List Int) (v k : Int), v ∉ l → uH l v k = -1
  | [],v,k,h => rfl
  | x :: l,v,k,h => by
    unfold uH;rw [if_neg (fun e : v = x => h (by rw [e];exact aR)),KU l v (k + 1) (fun q => h (aN _ q))]
def P9 (a b : G) (l : List Int) (k : Nat) : List AV := match (oA a b l)[k]? with
  | some w => [.agg (wA w)]
  | none => []
theorem QK {a b : G} {l : List Int} {i j : Nat} (hi : i < a.2.length) (hj : j < b.2.length) : P9 a b l (b.2.length * i + j) = [.agg (wA (yK a b a.2[i] b.2[j] l))] := by
  unfold P9;rw [MN hi hj]
theorem DU {α β : Type} {f : α → β} {l : List α} {m : Nat} (h : m < l.length) : (l.map f).take (m + 1) = (l.map f).take m ++ [f l[m]] := by
  rw [aQ (by simpa using h)];simp
end Go.Ld
namespace Go.Proofs.YtmmkhmilpeodnaaGreat
open Go Go.Ab Go.Ld
attribute [local irreducible] VC AW bX aT AY VY V5 kT
set_option maxHeartbeats 4000000
abbrev zB2 (a b : G) (l : List Int) : AV := .clo (.func 127) [] [.pr (gA a) 0,.pr (gA b) 0,.pr [.rowE (ints l) 1] 0]
theorem WT (a b : G) (l : List Int) : aT Tryz.prog 87 [OK a,OK b,.rowE (ints l) 1] [] (zB2 a b l) [] := by
  refine zR (res := .clo (.func 127) [] [.ptr 0 0,.ptr 1 0,.ptr 2 0]) (hout := [.cells (gA a),.cells (gA b),.cells [.rowE (ints l) 1]]) ?_ (.clo .nil (.cons (.ptr rfl (.cons (.row _ _ _) (.cons (.row _ _ _) .nil))) (.cons (.ptr rfl (.cons (.row _ _ _) (.cons (.row _ _ _) .nil))) (.cons (.ptr rfl (.cons (.row _ _ _) .nil)) .nil))));refine bT T Tryz.func87 rfl rfl rfl rfl ?_
  (repeat' (first|refine wS ?_|refine wR ?_|(refine rg 0 (bV (cO rfl rfl) rfl (bV (cO rfl rfl) rfl (bV (cO rfl rfl) rfl (aV ?_)))))|(refine rg 1 (vV (by exact jD rfl rfl) ?_);refine aV ?_)|refine nZ ?_));all_goals exact ⟨.inl rfl,[0,1,2],_,rfl,rfl,rfl,⟨.inr rfl,.inr rfl,.inr rfl,trivial⟩,by decide,lB _⟩
theorem QU (a b : G) (l : List Int) (sa : zF8 a) (sb : zF8 b) (hl : l.length ≤ 1000) (hm : ∀ k,k ∈ l → k ∈ a.1 ∨ k ∈ b.1) (h1 : ∀ w,w ∈ a.2 → 0 ≤ w.2.1 ∧ w.2.1 ≤ 4000000) (h2 : ∀ w,w ∈ b.2 → 0 ≤ w.2.1 ∧ w.2.1 ≤ 4000000) :
    V5 Tryz.prog 127 [] [.pr (gA a) 0,.pr (gA b) 0,.pr [.rowE (ints l) 1] 0] [] (P9 a b l) (oA a b l).length := by
  have hnn := Y8 a b l;have hla : (fL a.2).length = a.2.length := eM _;have hlb : (fL b.2).length = b.2.length := eM _;have hll : (ints l).length = l.length := cT _;have hwa := sa.w;have hwb := sb.w;refine ZT T Tryz.func127 rfl rfl rfl rfl ?_;intro J A y hJ hy
  (repeat' (first|(first|(refine uP ?_)|(refine wW ?_))|(((refine pC hJ (eG (id := 0) ?_)));(all_goals (refine SM T ?_;(refine qV T ?_);refine mV ?_)))|refine nZ ?_));refine CU (X := {i : Nat // i ≤ a.2.length}) (fun i => [(0,.clo (.yield y) [] []),(1,.pr (gA a) 0),(2,.pr (gA b) 0),(3,.pr [.rowE (ints l) 1] 0),(15,.rowE (fL a.2) 3),(16,.i (fL a.2).length),(17,.i i.1)]) (fun _ => []) (fun i => (b.2.length * i.1,false)) (fun i => a.2.length - i.1) ⟨0,cK _⟩ rfl (eL []) ?_
  rintro ⟨i,hi⟩;dsimp only;by_cases hlt : i < a.2.length
  · have ga := pZ hlt;have hx := sa.p _ (aH hlt);have hx2 := sa.c _ (aH hlt);have hx3 := h1 _ (aH hlt);have hpi := fun (j : Nat) (hj : j < b.2.length) => QK (a := a) (b := b) (l := l) hlt hj;generalize a.2[i] = x at *
    (repeat' (first|(first|(refine uP ?_)|(refine wW ?_)|(refine N2 ?_))|((refine uQ rfl (fun hb=>?_) (fun hb=>?_)<;>(((try simp only [nm] at hb);try ((exfalso;omega);done)))))|(((refine pC hJ (eG (id := 1) ?_)));(all_goals (refine vV (aO rfl rfl) ?_)))|(((refine pC hJ (eG (id := 2) ?_)));(all_goals (refine vV (ix T rfl (by omega) (kP _) ga) ?_;refine lV T ?_;refine bV (bN T rfl) rfl ?_;refine aU T rfl rfl rfl rfl rfl rfl (by decide) rfl ?_)))|(((refine pC hJ (eG (id := 3) ?_)));(all_goals (refine SM T ?_;(refine qV T ?_);refine mV ?_)))|refine nZ ?_));all_goals try (exfalso;omega)
    refine CU (X := {j : Nat // j ≤ b.2.length}) (fun j => [(0,.clo (.yield y) [] []),(1,.pr (gA a) 0),(2,.pr (gA b) 0),(3,.pr [.rowE (ints l) 1] 0),(6,.ptr 0 0),(15,.rowE (fL a.2) 3),(16,.i (fL a.2).length),(17,.i i),(22,.rowE (fL b.2) 3),(23,.i (fL b.2).length),(24,.i j.1)]) (fun _ => [.cells (wA x)]) (fun j => (b.2.length * i + j.1,false)) (fun j => b.2.length - j.1) ⟨0,cK _⟩ rfl ⟨[0],rfl,(by repeat first|exact trivial|refine ⟨rfl,?_⟩),⟨.inr rfl,trivial⟩,by decide,lB _⟩ ?_
    rintro ⟨j,hj⟩;dsimp only;by_cases hjl : j < b.2.length
    · have gb := pZ hjl;have hy1 := sb.p _ (aH hjl);have hy2 := sb.c _ (aH hjl);have hy3 := h2 _ (aH hjl);have hit := hpi j hjl;have hk : b.2.length * i + j < (oA a b l).length := by
        rw [hnn];have := Nat.mul_le_mul_left b.2.length (show i + 1 ≤ a.2.length by omega)
        rw [UX] at this;omega
      generalize b.2[j] = z at *
      (repeat' (first|(first|(refine uP ?_)|(refine wW ?_)|(refine N2 ?_))|((refine uQ rfl (fun hb=>?_) (fun hb=>?_)<;>(((try simp only [nm] at hb);try ((exfalso;omega);done)))))|(((refine pC hJ (eG (id := 4) ?_)));(all_goals (refine vV (aO rfl rfl) ?_)))|(((refine pC hJ (eG (id := 5) ?_)));(all_goals (refine vV (ix T rfl (by omega) (kP _) gb) ?_;refine lV T ?_;refine bV (bN T rfl) rfl ?_;refine aU T rfl rfl rfl rfl rfl rfl (by decide) rfl ?_)))|(((refine pC hJ (eG (id := 6) ?_)));(all_goals (refine SM T ?_;refine SM T ?_;refine vV (bU rfl rfl (by omega) (by omega)) ?_;refine vV (by exact eW T rfl rfl rfl rfl) ?_;refine bV (bN T rfl) rfl ?_;refine aU T rfl rfl rfl rfl rfl rfl (by decide) rfl ?_)))|(((refine pC hJ (eG (id := 7) ?_)));(all_goals (refine lV T ?_;(refine qV T ?_);refine mV ?_)))|refine nZ ?_));all_goals try (exfalso;omega)
      refine pC hJ ?_;refine uR 2 0 1 rfl rfl (by decide) ?_
      refine uR 2 2 2 rfl rfl (by decide) ?_
      let fp : Int → Int := fun k => if k ∈ a.1 then gP x (a.1.idxOf k) else gP z (b.1.idxOf k)
      let fc : Int → SP := fun k => if k ∈ a.1 then gC x (a.1.idxOf k) else gC z (b.1.idxOf k)
      have hw : yK a b x z l = (l.map fp,x.2.1 + z.2.1,l.map fc) := rfl;rw [hw] at hit;have hplen : (l.map fp).length = l.length := bC _;have hclen : (l.map fc).length = l.length := bC _;have hpt : ∀ m (h : m < l.length),(l.map fp).take (m + 1) = (l.map fp).take m ++ [fp l[m]] := fun m h => DU h
      have hct : ∀ m (h : m < l.length),(l.map fc).take (m + 1) = (l.map fc).take m ++ [fc l[m]] := fun m h => DU h
      have hfa : ∀ k,k ∈ a.1 → fp k = x.1.getD (a.1.idxOf k) 0 ∧ fc k = x.2.2.getD (a.1.idxOf k) (0,0) := fun k h => ⟨if_pos h,if_pos h⟩
      have hfb : ∀ k,k ∉ a.1 → fp k = z.1.getD (b.1.idxOf k) 0 ∧ fc k = z.2.2.getD (b.1.idxOf k) (0,0) := fun k h => ⟨if_neg h,if_neg h⟩
      clear_value fp fc
      clear hw;generalize l.map fp = PP at *;generalize l.map fc = CC at *;refine dB (X := {m : Nat // m ≤ l.length}) (fun m => [(0, .clo (.yield y) [] []), (1, .pr (gA a) 0), (2, .pr (gA b) 0), (3, .pr [.rowE (ints l) 1] 0), (6, .ptr 0 0), (8, .ptr 1 0), (9, .ptr 2 0), (15, .rowE (fL a.2) 3), (16, .i (fL a.2).length), (17, .i i), (22, .rowE (fL b.2) 3), (23, .i (fL b.2).length), (24, .i j), (34, .rowE (ints l) 1), (35, .i (ints l).length), (36, .i m.1)])
        (fun m => [.cells (wA x),.cells (wA z),.cells [.sl 3 0 m.1 1,.i (x.2.1 + z.2.1),.sl 4 0 m.1 2],.arr (ints (PP.take m.1)) 1,.arr (eS (CC.take m.1)) 2]) (fun m => l.length - m.1) ⟨0,cK _⟩ ⟨[0,1,2,3,4],rfl,(by repeat first|exact trivial|refine ⟨rfl,?_⟩),⟨.inr rfl,.inr rfl,.inr rfl,.inr rfl,.inr rfl,trivial⟩,by decide,lB _⟩ ?_
      rintro ⟨m,hm'⟩;dsimp only;have hTp : (ints (PP.take m)).length = m := by rw [cT,bD];omega
      have hTc : (eS (CC.take m)).length = m := by rw [fX,bD];omega
      by_cases hml : m < l.length
      · have hgl := KO hml;have hkm := hm l[m] (aH hml);have hp1 := hpt m hml;have hc1 := hct m hml;generalize l[m] = k at *;by_cases hka : k ∈ a.1
        · obtain ⟨e1,e2⟩ := hfa k hka;have hix := uF a.1 k (by have := sa.b;omega)
          have hxi : uH a.1 k 0 = ((a.1.idxOf k : Nat) : Int) := by have := xN a.1 k 0 hka;simpa using this
          rw [hxi] at hix;have hio := fM hka;generalize a.1.idxOf k = ia at *;have qp := lG (l := x.1) (j := (ia : Int)) (i := ia) 0 (by omega) rfl
          have qc := pN (l := x.2.2) (j := (ia : Int)) (i := ia) (by omega) rfl
          have hlp : (ints x.1).length = x.1.length := cT _;have hlc : (eS x.2.2).length = x.2.2.length := fX _;rw [← e1] at qp;rw [← e2] at qc;have hPs : ints (PP.take (m + 1)) = ints (PP.take m) ++ [[AV.i (fp k)]] := by rw [hp1,G8]
          have hCs : eS (CC.take (m + 1)) = eS (CC.take m) ++ [[AV.i (fc k).1,AV.i (fc k).2]] := by rw [hc1,eS,dH];rfl
          generalize ints (PP.take m) = P0 at *;generalize eS (CC.take m) = C0 at *;generalize fp k = vp at *;generalize fc k = vc at *
          (repeat' (first|refine wS ?_|refine wB ?_|refine wK ?_|refine wU ?_|(refine wC rfl ?_ ?_<;>(intro hb;(try simp only [nm] at hb);try (exfalso;omega)))|(refine rg 8 (vV (aO rfl rfl) ?_))|(refine rg 9 (vV (ix T rfl (by omega) (cN _) hgl) (lW T rfl (aV ?_))))|(refine rD (id := 10) 6 79 [[],[],[1],[],[1,2,3],[],rN 6,rN 7] [[],[],[1],[],[1,2,3],[]] [40,41,42,43,44,12] [[],[40],[40],[40,41,42],[40],rM 40 5] dA rfl (by decide +kernel) (by decide +kernel) ?_;(dsimp only [List.take,List.drop]);refine dO T rfl (dP T rfl (dO T rfl (dN rfl (dV rfl (kC (hix)) (zM rfl rfl rfl (by exact bN T rfl) rfl ?_)))));refine CK rfl rfl (by ((dsimp only [List.nil_append,List.cons_append,List.append_nil,List.length_cons,List.length_nil,List.set_cons_zero,List.set_cons_succ,List.map_cons,List.map_nil,jL,lE,lJ,pX,HP,zA,O2,O0,N9,O1,yZ,zC,yY,zB,Nat.zero_add,Nat.add_zero,Nat.reduceAdd,Bool.not_true,Bool.not_false];done))) ?_;refine gR ?_;refine aU T rfl rfl rfl rfl rfl rfl (by decide) rfl (aV ?_))|(refine rg 11 (mW rfl (vV (aO rfl rfl) ?_)))|(refine tK (id := 13) 79 zS5 (rM 52 19) zS6 [(8,3),(17,4),(19,2)] dA rfl (by decide +kernel) (fJ rfl rfl rfl rfl (by exact bZ T rfl rfl rfl) ?_);refine fJ rfl rfl rfl rfl (by exact aX T rfl rfl rfl rfl) ?_;refine fJ rfl rfl rfl rfl (by exact bZ T rfl rfl rfl) ?_;refine fJ rfl rfl rfl rfl (by exact aX T rfl rfl rfl rfl) ?_;refine fJ rfl rfl rfl rfl (by exact bW rfl) ?_;refine fJ rfl rfl rfl rfl (by exact ix T rfl (by omega) (cN _) qp) ?_;refine fJ rfl rfl rfl rfl (by exact aX T rfl rfl rfl rfl) ?_;refine J7 rfl rfl rfl rfl (by exact bE T rfl rfl (by decide) (by decide) rfl rfl rfl) rfl ?_;refine wM rfl rfl rfl rfl (aP rfl) (by exact qJ T rfl rfl rfl rfl rfl rfl (by omega) (lD.whole rfl rfl) rfl (by simp;omega) (by simp;omega)) ?_;refine fJ rfl rfl rfl rfl (by exact bZ T rfl rfl rfl) ?_;refine fJ rfl rfl rfl rfl (by exact aX T rfl rfl rfl rfl) ?_;refine fJ rfl rfl rfl rfl (by exact bZ T rfl rfl rfl) ?_;refine fJ rfl rfl rfl rfl (by exact aX T rfl rfl rfl rfl) ?_;refine fJ rfl rfl rfl rfl (by exact bW rfl) ?_;refine fJ rfl rfl rfl rfl (by exact ix T rfl (by omega) (iO _) qc) ?_;refine fJ rfl rfl rfl rfl (by exact aX T rfl rfl rfl rfl) ?_;refine J7 rfl rfl rfl rfl (by exact bE T rfl rfl (by decide) (by decide) rfl rfl rfl) rfl ?_;refine wM rfl rfl rfl rfl (aP rfl) (by exact qJ T rfl rfl rfl rfl rfl rfl (by omega) (lD.whole rfl rfl) rfl (by simp;omega) (by simp;omega)) ?_;refine fJ rfl rfl rfl rfl (by exact bZ T rfl rfl rfl) ?_;refine CJ rfl rfl rfl rfl (aP rfl) T rfl rfl rfl rfl rfl rfl (by decide) rfl ?_;refine D2 rfl rfl rfl (by exact rfl) ?_;refine fW T rfl (aU T rfl rfl rfl rfl rfl rfl (by decide) rfl ?_))|(refine rg 14 (vV (bU rfl rfl (by omega) (by omega)) (mV ?_)))|refine nZ ?_));all_goals try (exfalso;omega)
          exact ⟨⟨m + 1,hml⟩,by dsimp only;omega,⟨[0,1,2,7,9],rfl,(by repeat first|exact trivial|refine ⟨rfl,?_⟩),⟨.inr rfl,.inr rfl,.inr rfl,.inr (aE rfl (by dsimp only;rw [hPs];exact mZ hTp.symm) (bS _)),.inr (aE rfl (by dsimp only;rw [hCs];exact mZ hTc.symm) (eR _)),trivial⟩,by decide,lB _⟩⟩
        · obtain ⟨e1,e2⟩ := hfb k hka;have hkb : k ∈ b.1 := hkm.resolve_left hka;have hix := uF a.1 k (by have := sa.b;omega)
          have hiy := uF b.1 k (by have := sb.b;omega)
          have hyi : uH b.1 k 0 = ((b.1.idxOf k : Nat) : Int) := by have := xN b.1 k 0 hkb;simpa using this
          rw [KU _ _ _ hka] at hix;rw [hyi] at hiy;have hio := fM hkb;generalize b.1.idxOf k = ia at *;have qp := lG (l := z.1) (j := (ia : Int)) (i := ia) 0 (by omega) rfl
          have qc := pN (l := z.2.2) (j := (ia : Int)) (i := ia) (by omega) rfl
          have hlp : (ints z.1).length = z.1.length := cT _;have hlc : (eS z.2.2).length = z.2.2.length := fX _;rw [← e1] at qp;rw [← e2] at qc;have hPs : ints (PP.take (m + 1)) = ints (PP.take m) ++ [[AV.i (fp k)]] := by rw [hp1,G8]
          have hCs : eS (CC.take (m + 1)) = eS (CC.take m) ++ [[AV.i (fc k).1,AV.i (fc k).2]] := by rw [hc1,eS,dH];rfl
          generalize ints (PP.take m) = P0 at *;generalize eS (CC.take m) = C0 at *;generalize fp k = vp at *;generalize fc k = vc at *
          (repeat' (first|refine wS ?_|refine wB ?_|refine wK ?_|refine wT ?_|(refine wC rfl ?_ ?_<;>(intro hb;(try simp only [nm] at hb);try (exfalso;omega)))|(refine rg 8 (vV (aO rfl rfl) ?_))|(refine rg 9 (vV (ix T rfl (by omega) (cN _) hgl) (lW T rfl (aV ?_))))|(refine rD (id := 10) 6 79 [[],[],[1],[],[1,2,3],[],rN 6,rN 7] [[],[],[1],[],[1,2,3],[]] [40,41,42,43,44,12] [[],[40],[40],[40,41,42],[40],rM 40 5] dA rfl (by decide +kernel) (by decide +kernel) ?_;(dsimp only [List.take,List.drop]);refine dO T rfl (dP T rfl (dO T rfl (dN rfl (dV rfl (kC (hix)) (zM rfl rfl rfl (by exact bN T rfl) rfl ?_)))));refine CK rfl rfl (by ((dsimp only [List.nil_append,List.cons_append,List.append_nil,List.length_cons,List.length_nil,List.set_cons_zero,List.set_cons_succ,List.map_cons,List.map_nil,jL,lE,lJ,pX,HP,zA,O2,O0,N9,O1,yZ,zC,yY,zB,Nat.zero_add,Nat.add_zero,Nat.reduceAdd,Bool.not_true,Bool.not_false];done))) ?_;refine gR ?_;refine aU T rfl rfl rfl rfl rfl rfl (by decide) rfl (aV ?_))|(refine rg 11 (mW rfl (vV (aO rfl rfl) ?_)))|(refine mX (id := 12) 79 [[],[],[1],[],[1,2,3],rN 5] (rM 47 5) [[],[47],[47],[47,48,49],[47],[]] [(5,5)] dA rfl (by decide +kernel) (cH rfl rfl rfl rfl (by exact aX T rfl rfl rfl rfl) ?_);refine cH rfl rfl rfl rfl (by exact bZ T rfl rfl rfl) ?_;refine cH rfl rfl rfl rfl (by exact aX T rfl rfl rfl rfl) ?_;refine cH rfl rfl rfl rfl (by exact bW rfl) ?_;refine cH rfl rfl rfl rfl (by exact kC (hiy)) ?_;refine uM rfl rfl rfl rfl (aP rfl) T rfl rfl rfl rfl rfl rfl (by decide) rfl ?_;refine qF rfl rfl rfl (by exact rfl) ?_;refine aV ?_)|(refine tK (id := 13) 79 zS5 (rM 52 19) zS6 [(8,3),(17,4),(19,2)] dA rfl (by decide +kernel) (fJ rfl rfl rfl rfl (by exact bZ T rfl rfl rfl) ?_);refine fJ rfl rfl rfl rfl (by exact aX T rfl rfl rfl rfl) ?_;refine fJ rfl rfl rfl rfl (by exact bZ T rfl rfl rfl) ?_;refine fJ rfl rfl rfl rfl (by exact aX T rfl rfl rfl rfl) ?_;refine fJ rfl rfl rfl rfl (by exact bW rfl) ?_;refine fJ rfl rfl rfl rfl (by exact ix T rfl (by omega) (cN _) qp) ?_;refine fJ rfl rfl rfl rfl (by exact aX T rfl rfl rfl rfl) ?_;refine J7 rfl rfl rfl rfl (by exact bE T rfl rfl (by decide) (by decide) rfl rfl rfl) rfl ?_;refine wM rfl rfl rfl rfl (aP rfl) (by exact qJ T rfl rfl rfl rfl rfl rfl (by omega) (lD.whole rfl rfl) rfl (by simp;omega) (by simp;omega)) ?_;refine fJ rfl rfl rfl rfl (by exact bZ T rfl rfl rfl) ?_;refine fJ rfl rfl rfl rfl (by exact aX T rfl rfl rfl rfl) ?_;refine fJ rfl rfl rfl rfl (by exact bZ T rfl rfl rfl) ?_;refine fJ rfl rfl rfl rfl (by exact aX T rfl rfl rfl rfl) ?_;refine fJ rfl rfl rfl rfl (by exact bW rfl) ?_;refine fJ rfl rfl rfl rfl (by exact ix T rfl (by omega) (iO _) qc) ?_;refine fJ rfl rfl rfl rfl (by exact aX T rfl rfl rfl rfl) ?_;refine J7 rfl rfl rfl rfl (by exact bE T rfl rfl (by decide) (by decide) rfl rfl rfl) rfl ?_;refine wM rfl rfl rfl rfl (aP rfl) (by exact qJ T rfl rfl rfl rfl rfl rfl (by omega) (lD.whole rfl rfl) rfl (by simp;omega) (by simp;omega)) ?_;refine fJ rfl rfl rfl rfl (by exact bZ T rfl rfl rfl) ?_;refine CJ rfl rfl rfl rfl (aP rfl) T rfl rfl rfl rfl rfl rfl (by decide) rfl ?_;refine D2 rfl rfl rfl (by exact rfl) ?_;refine fW T rfl (aU T rfl rfl rfl rfl rfl rfl (by decide) rfl ?_))|(refine rg 14 (vV (bU rfl rfl (by omega) (by omega)) (mV ?_)))|refine nZ ?_));all_goals try (exfalso;omega)
          exact ⟨⟨m + 1,hml⟩,by dsimp only;omega,⟨[0,1,2,7,9],rfl,(by repeat first|exact trivial|refine ⟨rfl,?_⟩),⟨.inr rfl,.inr rfl,.inr rfl,.inr (aE rfl (by dsimp only;rw [hPs];exact mZ hTp.symm) (bS _)),.inr (aE rfl (by dsimp only;rw [hCs];exact mZ hTc.symm) (eR _)),trivial⟩,by decide,lB _⟩⟩
      · obtain rfl : m = l.length := by omega
        rw [show PP.take l.length = PP by rw [← hplen,dD],show CC.take l.length = CC by rw [← hclen,dD]]
        refine mL 2 0 rfl rfl rfl (by rw [cT,hplen]) (gX (bS _)) ?_
        refine mL 2 2 rfl rfl rfl (by rw [fX,hclen]) (gX (eR _)) ?_
        (repeat' (first|refine wS ?_|refine wE ?_|(refine wC rfl ?_ ?_<;>(intro hb;(try simp only [nm] at hb);try (exfalso;omega)))|(refine rg 8 (vV (aO rfl rfl) ?_))|refine nZ ?_));all_goals try (exfalso;omega)
        show AY _ _ _ _ _ _ _ _ _
        (repeat' (first|(first|(refine uP ?_)|(refine N2 ?_)|(refine TP ?_))|((refine uQ rfl (fun hb=>?_) (fun hb=>?_)<;>(((try simp only [nm] at hb);try ((exfalso;omega);done)))))|(((refine AN (id := 15) ?_));((refine OO 2 hJ ?_));(dsimp only [List.take,List.drop]);(all_goals (refine mV ?_;refine lV T ?_;refine gR ?_;refine DO hJ hy rfl rfl rfl hk hit rfl ?_));(all_goals (intro yes));(all_goals (refine ZK hJ ?_;refine vV (eD rfl) ?_;refine L7 (by ((dsimp only [List.nil_append,List.cons_append,List.append_nil,List.length_cons,List.length_nil,List.set_cons_zero,List.set_cons_succ,List.map_cons,List.map_nil,jL,lE,lJ,pX,HP,zA,O2,O0,N9,O1,yZ,zC,yY,zB,Nat.zero_add,Nat.add_zero,Nat.reduceAdd,Bool.not_true,Bool.not_false];done))) ?_)))|(((refine pC hJ (eG (id := 16) ?_)));(all_goals (refine vV (bU rfl rfl (by omega) (by omega)) ?_;refine mV ?_)))|refine nZ ?_));all_goals first | (exfalso;omega) | skip
        · exact ⟨.inl rfl,fun h => (by first | (subst hb;cases h) | (cases h;done)),[],rfl⟩
        · obtain rfl := hb;exact ⟨⟨j + 1,hjl⟩,by dsimp only;omega,rfl,⟨[0],rfl,(by repeat first|exact trivial|refine ⟨rfl,?_⟩),⟨.inr rfl,trivial⟩,by decide,lB _⟩⟩
    · obtain rfl : j = b.2.length := by omega
      (repeat' (first|(first|(refine uP ?_)|(refine CV ?_))|((refine uQ rfl (fun hb=>?_) (fun hb=>?_)<;>(((try simp only [nm] at hb);try ((exfalso;omega);done)))))|(((refine pC hJ (eG (id := 4) ?_)));(all_goals (refine vV (aO rfl rfl) ?_)))|(((refine pC hJ (eG (id := 17) ?_)));(all_goals (refine vV (bU rfl rfl (by omega) (by omega)) ?_;refine mV ?_)))|refine nZ ?_));all_goals first | (exfalso;omega) | skip
      exact ⟨⟨i + 1,hlt⟩,by dsimp only;omega,rfl,eL []⟩
  · obtain rfl : i = a.2.length := by omega
    (repeat' (first|(first|(refine uP ?_)|(refine CV ?_))|((refine uQ rfl (fun hb=>?_) (fun hb=>?_)<;>(((try simp only [nm] at hb);try ((exfalso;omega);done)))))|(((refine pC hJ (eG (id := 1) ?_)));(all_goals (refine vV (aO rfl rfl) ?_)))|refine nZ ?_));all_goals first | (exfalso;omega) | skip
    exact ⟨.inr rfl,fun _ => by rw [hnn],[],rfl⟩
end Go.Proofs.YtmmkhmilpeodnaaGreat
namespace Go.Ab
open Go
theorem qA {P : Program} {env : dQ} {h : Hp} {d : Option Nat} {ty : TypeId} {pos : String} {af : Array Edge} {g : Option (Nat × Bool)} (T : oO P) {t e sz : Nat} {es : List (List AV)} {c : List AV} {i : TI} {x y : Operand} {kk : IntKind} {j : Int} (hx : evu env x = some (.rowE es sz)) (hy : evu env y = some (.v (.int kk j))) (ha : T.elem t = some e) (he : T.ti e = some i) (hs : i.size = sz) (h0 : 0 ≤ j) (hl : ∀ e,e ∈ es → e.length = sz) (hc : es[j.toNat]? = some c) :
    UV P ⟨d,.indexAddr t x y,ty,pos,af,g⟩ env h (.pr c 0) := by
  intro ρ S a w p;have h1 : j < es.length := by have := (aB.1 hc).1;omega
  have h2 := p.evu hx;simp only [R] at h2;obtain ⟨ad,cap,h3,_,_,_,_,h4⟩ := h2;rcases h4 with h4 | ⟨b,o,ys,h5,h6,h7,h8⟩
  · omega
  have h9 := rJ (p.evu hy);subst h5;refine ⟨.pointer (some ⟨b,o + j.toNat * sz,none⟩),fun w' => by simp [execOp,h3,h9,Instr.indexAt,asIntOf,run_underlying (T.elemOk _ _ ha),h0,h1,T.sizeOf he,Addr.add_lit,hs],KC hl hc ?_⟩
  simp only [R];exact ⟨b,o,ys,rfl,h6,h7,h8⟩
end Go.Ab
namespace Go.Ld
open Go.Ab Go.Proofs.YtmmkhmilpeodnaaGreat
theorem jM {l : List G} {b : Int} (h : ∃ g,g ∈ l ∧ b ∈ g.1) : ∃ (i : Nat) (g : G),nO l b = (i : Int) ∧ l[i]? = some g ∧ b ∈ g.1 := by
  obtain ⟨g,hg,hb⟩ := h;unfold nO;cases hf : l.findIdx? fun g => decide (b ∈ g.1) with
  | none => have := List.findIdx?_eq_none_iff.1 hf g hg;simp at this;exact absurd hb this
  | some i =>
    obtain ⟨h1,h2,_⟩ := List.findIdx?_eq_some_iff_getElem.1 hf;exact ⟨i,l[i],rfl,aA h1,by simpa using h2⟩
theorem pF (l : List Int) : iC l = dR cI l :=
  zE oV (Go.Pm.sorted_perm l) ((Go.Pm.sorted_up l).imp fun {a b} h => by unfold cI;split <;> (try split) <;> omega)
theorem MK {a b : G} {l : List Int} {k : Nat} {w : W} (h : (oA a b l)[k]? = some w) : P9 a b l k = [.agg (wA w)] := by unfold P9;rw [h]
end Go.Ld
namespace Go.Proofs.YtmmkhmilpeodnaaGreat
open Go Go.Ab Go.Ld
attribute [local irreducible] VC AW bX aT AY VY V5 kT
set_option maxHeartbeats 4000000
theorem zL9 : ∀ i : Nat,i < 1 → ([0,4] : List Nat)[i]? = some i := by decide
theorem XI {n : Nat} (l : List G) (a b : Int) (ok : mP n l) (ha : ∃ g,g ∈ l ∧ a ∈ g.1) (hb : ∃ g,g ∈ l ∧ b ∈ g.1) (hs : nO l a = nO l b) : aT Tryz.prog 44 [.sl 0 0 l.length 2,.i a,.i b] [.arr (iW l) 2] (.tup [.sl 0 0 l.length 2,.i 0]) [.arr (iW l) 2] := by
  have hl12 : l.length ≤ 12 := bY ok.len ok.ln;have hgl : ∀ g,g ∈ l → g.1.length ≤ 1000000 := fun g hg => by have := (ok.ok g hg).ln;omega
  have f1 := wL l a (by omega) hgl
  have f2 := wL l b (by omega) hgl
  obtain ⟨i,x,e1,hx,hax⟩ := jM ha;obtain ⟨k,y,e2,hy,hby⟩ := jM hb;rw [e1] at f1;rw [e2] at f2;have hil := (aB.1 hx).1;have hkl := (aB.1 hy).1;have hll : (iW l).length = l.length := iV _;have qx : (iW l)[(i : Int).toNat]? = some (gA x) := by rw [bQ,bP,hx];rfl
  have qy : (iW l)[(k : Int).toNat]? = some (gA y) := by rw [bQ,bP,hy];rfl
  have ax : kO l (i : Int).toNat = x := by unfold kO;rw [bQ,aC,hx];rfl
  have ay : kO l (k : Int).toNat = y := by unfold kO;rw [bQ,aC,hy];rfl
  have hik : i = k := by omega
  subst hik;have hvw : nF [.arr (iW l) 2] (.sl 0 0 l.length 2) (.rowE (iW l) 2) := sS rfl hll.symm (sW (fun _ => rfl) _);refine bT T Tryz.func44 rfl rfl rfl rfl ?_
  (repeat' (first|refine wS ?_|refine wR ?_|refine wT ?_|(refine rg 0 (rZ ?_))|(refine rg 1 (dS rfl (vV (by exact eU rfl rfl f1 (.cons hvw (.cons (.v _) .nil)) rfl rfl) ?_));refine dS rfl (vV (by exact eU rfl rfl f2 (.cons hvw (.cons (.v _) .nil)) rfl rfl) ?_);refine rZ ?_)|(refine rg 2 (dS rfl (vV (kK rfl rfl rfl) ?_)))|(refine rg 3 (mW rfl (rZ ?_)))|refine nZ ?_));all_goals first | (exfalso;omega) | exact ⟨.inl rfl,[0],_,rfl,rfl,rfl,⟨.inr (aE rfl rfl (dX _)),trivial⟩,by decide,BR⟩
theorem XK {n : Nat} (l : List G) (a b : Int) (ok : mP n l) (ha : ∃ g,g ∈ l ∧ a ∈ g.1) (hb : ∃ g,g ∈ l ∧ b ∈ g.1) (hj : join l a b = none) : aT Tryz.prog 44 [.rowE (iW l) 2,.i a,.i b] [] (.tup [.nils,.i 6]) [] := by
  have hl12 : l.length ≤ 12 := bY ok.len ok.ln;have hgl : ∀ g,g ∈ l → g.1.length ≤ 1000000 := fun g hg => by have := (ok.ok g hg).ln;omega
  have f1 := wL l a (by omega) hgl
  have f2 := wL l b (by omega) hgl
  obtain ⟨i,x,e1,hx,hax⟩ := jM ha;obtain ⟨k,y,e2,hy,hby⟩ := jM hb;rw [e1] at f1;rw [e2] at f2;have hil := (aB.1 hx).1;have hkl := (aB.1 hy).1;have hll : (iW l).length = l.length := iV _;have qx : (iW l)[(i : Int).toNat]? = some (gA x) := by rw [bQ,bP,hx];rfl
  have qy : (iW l)[(k : Int).toNat]? = some (gA y) := by rw [bQ,bP,hy];rfl
  have ax : kO l (i : Int).toNat = x := by unfold kO;rw [bQ,aC,hx];rfl
  have ay : kO l (k : Int).toNat = y := by unfold kO;rw [bQ,aC,hy];rfl
  unfold join at hj;dsimp only at hj;rw [e1,e2,ax,ay] at hj;clear ha hb;have hik : i ≠ k := fun q => by subst q;rw [if_pos rfl] at hj;cases hj
  rw [if_neg (by omega)] at hj
  have hf : 6 < x.1.length + y.1.length ∨ 1000 < x.2.length * y.2.length := by
    by_cases hf : 6 < x.1.length + y.1.length ∨ 1000 < x.2.length * y.2.length
    · exact hf
    · rw [if_neg hf] at hj;cases hj
  clear hj;have xo := ok.ok x (aL hx);have yo := ok.ok y (aL hy);have xw := ok.ws x (aL hx);have yw := ok.ws y (aL hy);have xl := xo.ln;have yl := yo.ln;have xp := eY.2 xo.ne;have yp := eY.2 yo.ne;have sx := xo.sz xw;have sy := yo.sz yw;have l1 : (ints x.1).length = x.1.length := cT _;have l2 : (ints y.1).length = y.1.length := cT _;have l3 : (fL x.2).length = x.2.length := eM _;have l4 : (fL y.2).length = y.2.length := eM _;have hmx : x.2.length * y.2.length ≤ 2000 * 2000 := Nat.mul_le_mul xw yw;have hml : ((x.2.length : Int) * y.2.length) = ((x.2.length * y.2.length : Nat) : Int) := by push_cast;rfl
  obtain ⟨bx,wx⟩ := x;obtain ⟨by_,wy⟩ := y;have hmI : (((fL wx).length : Nat) : Int) * ((fL wy).length : Nat) = ((wx.length * wy.length : Nat) : Int) := by rw [eM,eM];push_cast;rfl
  dsimp only at *;refine bT T Tryz.func44 rfl rfl rfl rfl ?_
  (repeat' (first|refine wS ?_|refine wK ?_|refine wU ?_|(refine rg 0 (rZ ?_))|(refine rg 1 (dS rfl (vV (kC (f1)) (dS rfl (vV (kC (f2)) (rZ ?_))))))|(refine rg 2 (dS rfl (vV (gB rfl rfl (by omega)) ?_)))|refine nZ ?_));refine TV [(0,.rowE (iW l) 2),(8,.i i),(9,.i k),(10,.ptr 0 0),(11,.ptr 1 0)] [.cells [.rowE (ints bx) 1,.rowE (fL wx) 3],.cells [.rowE (ints by_) 1,.rowE (fL wy) 3]] ?_ ?_
  · refine GR (id := 4) dA ?_;refine vC 0 rfl rfl (by decide +kernel) (by decide +kernel) (by decide +kernel) (by exact rP rfl) rfl ?_
    refine vC 1 rfl rfl (by decide +kernel) (by decide +kernel) (by decide +kernel) (by exact rP rfl) rfl ?_
    refine vC 2 rfl rfl (by decide +kernel) (by decide +kernel) (by decide +kernel) (by exact qA T rfl rfl rfl rfl rfl (by omega) (oT _) qx) rfl ?_
    refine vC 4 rfl rfl (by decide +kernel) (by decide +kernel) (by decide +kernel) (by exact rP rfl) rfl ?_
    refine vC 5 rfl rfl (by decide +kernel) (by decide +kernel) (by decide +kernel) (by exact rP rfl) rfl ?_
    refine vC 6 rfl rfl (by decide +kernel) (by decide +kernel) (by decide +kernel) (by exact qA T rfl rfl rfl rfl rfl (by omega) (oT _) qy) rfl ?_
    refine LK [(0,[]),(1,[]),(2,[0,1]),(3,[2]),(4,[]),(5,[]),(6,[4,5]),(7,[6]),(8,[]),(9,[]),(10,[8,3,0,1,2,3,8,9]),(11,[9,7,10,0,1,2,3,4,5,6,7,8,9,10])] (by decide +kernel) [true,true,true,false,true,true,true,false,false,false,false,false] rfl rfl ?_
    (repeat' (first|(refine UG rfl rfl ?_;(first|(refine lV T ?_)|(refine bV (bN T rfl) rfl ?_)|(refine aU T rfl rfl rfl rfl rfl rfl (by decide) rfl ?_));refine gR ?_;dsimp only [List.set_cons_zero,List.set_cons_succ])|(refine UF rfl rfl rfl ?_ ?_<;>((first|(refine lV T ?_)|(refine bV (bN T rfl) rfl ?_)|(refine aU T rfl rfl rfl rfl rfl rfl (by decide) rfl ?_));refine gR ?_;dsimp only [List.set_cons_zero,List.set_cons_succ]))|(refine UE rfl rfl rfl rfl ?_ ?_ ?_<;>((first|(refine lV T ?_)|(refine bV (bN T rfl) rfl ?_));refine gR ?_;dsimp only [List.set_cons_zero,List.set_cons_succ]))|(refine UD rfl rfl rfl rfl rfl ?_ ?_ ?_ ?_<;>((first|(refine lV T ?_)|(refine bV (bN T rfl) rfl ?_));refine gR ?_;dsimp only [List.set_cons_zero,List.set_cons_succ]))));all_goals first | exact xY rfl ⟨rfl,[0,1],rfl,(by repeat first|exact trivial|refine ⟨rfl,?_⟩),⟨.inr rfl,.inr rfl,trivial⟩,by decide,lB _⟩ | exact xY rfl ⟨rfl,[1,0],rfl,(by repeat first|exact trivial|refine ⟨rfl,?_⟩),⟨.inr rfl,.inr rfl,trivial⟩,by decide,lB _⟩
  intro v g hsub;refine IY hsub ?_
  (repeat' (first|refine wS ?_|refine wR ?_|refine wT ?_|(refine wC rfl ?_ ?_<;>(intro hb;(try simp only [nm] at hb);try (exfalso;omega)))|(refine rg 5 (iP T rfl (qW T rfl (iP T rfl (qW T rfl (vV (bU rfl rfl (by omega) (by omega)) (vV (fP rfl rfl) (mV ?_)))))));refine cE rfl rfl ?_ ?_<;>(intro hb;rw [hb];(try simp only [nm] at hb);try (exfalso;omega));(all_goals first|(refine gT (fW T rfl (gT (lW T rfl (gT (qW T rfl (gT (fW T rfl (gT (lV T ?_)))))))));refine gT (qW T rfl (gT (vV (xO rfl rfl (by omega) (by omega)) (gT (vV (fP rfl rfl) ?_))))))|(iterate 8 refine gF ?_));(all_goals (refine pV ?_)))|(refine rg 6 (rZ ?_))|refine nZ ?_));all_goals first | (exfalso;omega) | exact rQ
theorem XJ {n : Nat} (l : List G) (a b : Int) (ok : mP n l) (ha : ∃ g,g ∈ l ∧ a ∈ g.1) (hb : ∃ g,g ∈ l ∧ b ∈ g.1) {all : List G} (hj : join l a b = some all) (hne : nO l a ≠ nO l b) : aT Tryz.prog 44 [.rowE (iW l) 2,.i a,.i b] [] (.tup [.sl 0 0 all.length 2,.i 0]) [.arr (iW all) 2] := by
  have hl12 : l.length ≤ 12 := bY ok.len ok.ln;have hgl : ∀ g,g ∈ l → g.1.length ≤ 1000000 := fun g hg => by have := (ok.ok g hg).ln;omega
  have f1 := wL l a (by omega) hgl
  have f2 := wL l b (by omega) hgl
  obtain ⟨i,x,e1,hx,hax⟩ := jM ha;obtain ⟨k,y,e2,hy,hby⟩ := jM hb;rw [e1] at f1;rw [e2] at f2;have hil := (aB.1 hx).1;have hkl := (aB.1 hy).1;have hll : (iW l).length = l.length := iV _;have qx : (iW l)[(i : Int).toNat]? = some (gA x) := by rw [bQ,bP,hx];rfl
  have qy : (iW l)[(k : Int).toNat]? = some (gA y) := by rw [bQ,bP,hy];rfl
  have ax : kO l (i : Int).toNat = x := by unfold kO;rw [bQ,aC,hx];rfl
  have ay : kO l (k : Int).toNat = y := by unfold kO;rw [bQ,aC,hy];rfl
  unfold join at hj;dsimp only at hj;rw [e1,e2,ax,ay] at hj;clear ha hb;have hik : i ≠ k := fun q => by subst q;exact hne (e1.trans e2.symm)
  rw [if_neg (by omega)] at hj
  have hf : ¬ (6 < x.1.length + y.1.length ∨ 1000 < x.2.length * y.2.length) := fun hf => by rw [if_pos hf] at hj;cases hj
  rw [if_neg hf] at hj
  replace hj := (Option.some.inj hj).symm
  have xo := ok.ok x (aL hx);have yo := ok.ok y (aL hy);have xw := ok.ws x (aL hx);have yw := ok.ws y (aL hy);have xl := xo.ln;have yl := yo.ln;have xp := eY.2 xo.ne;have yp := eY.2 yo.ne;have sx := xo.sz xw;have sy := yo.sz yw;have l1 : (ints x.1).length = x.1.length := cT _;have l2 : (ints y.1).length = y.1.length := cT _;have l3 : (fL x.2).length = x.2.length := eM _;have l4 : (fL y.2).length = y.2.length := eM _;have hmx : x.2.length * y.2.length ≤ 2000 * 2000 := Nat.mul_le_mul xw yw;have hml : ((x.2.length : Int) * y.2.length) = ((x.2.length * y.2.length : Nat) : Int) := by push_cast;rfl
  obtain ⟨bx,wx⟩ := x;obtain ⟨by_,wy⟩ := y;have hmI : (((fL wx).length : Nat) : Int) * ((fL wy).length : Nat) = ((wx.length * wy.length : Nat) : Int) := by rw [eM,eM];push_cast;rfl
  have hjG : lT (bx,wx) (by_,wy) = (dR cI (bx ++ by_),oA (bx,wx) (by_,wy) (dR cI (bx ++ by_))) := rfl;rw [hjG,← pF] at hj;have hbl : (iC (bx ++ by_)).length = bx.length + by_.length := by rw [pE,aF]
  have hmm : ∀ q,q ∈ iC (bx ++ by_) → q ∈ bx ∨ q ∈ by_ := fun q hq => bB.1 ((Go.Pm.sorted_perm _).mem_iff.1 hq);have h1 := TC bx by_ ⟨by dsimp only at *;omega,by dsimp only at *;omega⟩ ⟨by dsimp only at *;omega,by dsimp only at *;omega⟩
  have h2 := zY (bx ++ by_);have h3 := O4 (bx ++ by_) (by rw [aF];dsimp only at *;omega)
  have hPl := Y8 (bx,wx) (by_,wy) (iC (bx ++ by_));generalize iC (bx ++ by_) = bod at *;have h4 := WT (bx,wx) (by_,wy) bod;have hit := QU (bx,wx) (by_,wy) bod sx sy (by dsimp only at *;omega) hmm (fun w hw => ⟨(xo.ws w hw).m0,(xo.ws w hw).m1⟩) (fun w hw => ⟨(yo.ws w hw).m0,(yo.ws w hw).m1⟩)
  have hpg : ∀ (q : Nat) (w : W),(oA (bx,wx) (by_,wy) bod)[q]? = some w → P9 (bx,wx) (by_,wy) bod q = [.agg (wA w)] := fun q w h => MK h
  generalize P9 (bx,wx) (by_,wy) bod = IT at *;generalize oA (bx,wx) (by_,wy) bod = P at *;have hP : P.length ≤ 1000 := by rw [hPl,Nat.mul_comm];dsimp only at *;omega
  clear hPl hmm h2;have h2 := zY (bx ++ by_);dsimp only at *;have hcl := GF l (by omega)
  have hS : min (i : Int) (k : Int) = ((min i k : Nat) : Int) := by omega
  have hM : max (i : Int) (k : Int) = ((max i k : Nat) : Int) := by omega
  rw [hS,hM,bQ,bQ] at hj;have ts := C2 (L := l) (j := min (i : Int) (k : Int)) (i := min i k) (x := (bod,P)) hS;have qm := wG (L := l) (j := min (i : Int) (k : Int)) (i := min i k) (x := l[min i k]'(by omega)) (aA _) hS
  have hdl := zE4 (l.set (min i k) (bod,P)) (max i k) (max i k + 1) (by omega) (by rw [gH];omega) (by intro h;have := congrArg List.length h;rw [gH,List.length_nil] at this;omega)
  rw [C9,gH,show l.length - (max i k + 1 - max i k) = l.length - 1 by omega,show ((max i k + 1 : Nat) : Int) = max (i : Int) (k : Int) + 1 by omega,← hM] at hdl
  have hel : ((l.set (min i k) (bod,P)).eraseIdx (max i k)).length = l.length - 1 := by rw [fO,gH,if_pos (by omega)]
  generalize l[min i k]'(by omega) = gm at *
  subst hj;rw [hel];refine bT T Tryz.func44 rfl rfl rfl rfl ?_
  (repeat' (first|refine wS ?_|refine wK ?_|refine wU ?_|(refine rg 0 (rZ ?_))|(refine rg 1 (dS rfl (vV (kC (f1)) (dS rfl (vV (kC (f2)) (rZ ?_))))))|(refine rg 2 (dS rfl (vV (gB rfl rfl (by omega)) ?_)))|refine nZ ?_));refine TV [(0,.rowE (iW l) 2),(8,.i i),(9,.i k),(10,.ptr 0 0),(11,.ptr 1 0)] [.cells [.rowE (ints bx) 1,.rowE (fL wx) 3],.cells [.rowE (ints by_) 1,.rowE (fL wy) 3]] ?_ ?_
  · refine GR (id := 4) dA ?_;refine vC 0 rfl rfl (by decide +kernel) (by decide +kernel) (by decide +kernel) (by exact rP rfl) rfl ?_
    refine vC 1 rfl rfl (by decide +kernel) (by decide +kernel) (by decide +kernel) (by exact rP rfl) rfl ?_
    refine vC 2 rfl rfl (by decide +kernel) (by decide +kernel) (by decide +kernel) (by exact qA T rfl rfl rfl rfl rfl (by omega) (oT _) qx) rfl ?_
    refine vC 4 rfl rfl (by decide +kernel) (by decide +kernel) (by decide +kernel) (by exact rP rfl) rfl ?_
    refine vC 5 rfl rfl (by decide +kernel) (by decide +kernel) (by decide +kernel) (by exact rP rfl) rfl ?_
    refine vC 6 rfl rfl (by decide +kernel) (by decide +kernel) (by decide +kernel) (by exact qA T rfl rfl rfl rfl rfl (by omega) (oT _) qy) rfl ?_
    refine LK [(0,[]),(1,[]),(2,[0,1]),(3,[2]),(4,[]),(5,[]),(6,[4,5]),(7,[6]),(8,[]),(9,[]),(10,[8,3,0,1,2,3,8,9]),(11,[9,7,10,0,1,2,3,4,5,6,7,8,9,10])] (by decide +kernel) [true,true,true,false,true,true,true,false,false,false,false,false] rfl rfl ?_
    (repeat' (first|(refine UG rfl rfl ?_;(first|(refine lV T ?_)|(refine bV (bN T rfl) rfl ?_)|(refine aU T rfl rfl rfl rfl rfl rfl (by decide) rfl ?_));refine gR ?_;dsimp only [List.set_cons_zero,List.set_cons_succ])|(refine UF rfl rfl rfl ?_ ?_<;>((first|(refine lV T ?_)|(refine bV (bN T rfl) rfl ?_)|(refine aU T rfl rfl rfl rfl rfl rfl (by decide) rfl ?_));refine gR ?_;dsimp only [List.set_cons_zero,List.set_cons_succ]))|(refine UE rfl rfl rfl rfl ?_ ?_ ?_<;>((first|(refine lV T ?_)|(refine bV (bN T rfl) rfl ?_));refine gR ?_;dsimp only [List.set_cons_zero,List.set_cons_succ]))|(refine UD rfl rfl rfl rfl rfl ?_ ?_ ?_ ?_<;>((first|(refine lV T ?_)|(refine bV (bN T rfl) rfl ?_));refine gR ?_;dsimp only [List.set_cons_zero,List.set_cons_succ]))));all_goals first | exact xY rfl ⟨rfl,[0,1],rfl,(by repeat first|exact trivial|refine ⟨rfl,?_⟩),⟨.inr rfl,.inr rfl,trivial⟩,by decide,lB _⟩ | exact xY rfl ⟨rfl,[1,0],rfl,(by repeat first|exact trivial|refine ⟨rfl,?_⟩),⟨.inr rfl,.inr rfl,trivial⟩,by decide,lB _⟩
  intro v g hsub;refine IY hsub ?_
  (repeat' (first|refine wS ?_|refine wB ?_|refine wK ?_|(refine wC rfl ?_ ?_<;>(intro hb;(try simp only [nm] at hb);try (exfalso;omega)))|(refine rg 5 (iP T rfl (qW T rfl (iP T rfl (qW T rfl (vV (bU rfl rfl (by omega) (by omega)) (vV (fP rfl rfl) (mV ?_)))))));refine cE rfl rfl ?_ ?_<;>(intro hb;rw [hb];(try simp only [nm] at hb);try (exfalso;omega));(all_goals (refine yP T rfl (yO T rfl (gT (qW T rfl (yP T rfl (yO T rfl (gT (qW T rfl (yV (xO rfl rfl (by omega) (by omega)) (yV (fP rfl rfl) ?_)))))))));refine pV ?_)))|(refine rg 7 (iP T rfl (iP T rfl (bV (by exact bE T rfl rfl (by decide) (by decide) rfl rfl rfl) rfl ?_)));refine lZ 55 rfl rfl rfl rfl ?_;refine vV (kC (h1)) (vV (kC (h2)) (vV (kC (h3)) (vV (by exact eW T rfl rfl rfl rfl) ?_)));refine bV (bN T rfl) rfl (aU T rfl rfl rfl rfl rfl rfl (by decide) rfl ?_))|(refine rg 8 (lW T rfl (lW T rfl (iP T rfl (vV (kC (h4)) ?_)))))|refine nZ ?_));all_goals try (exfalso;omega)
  refine uR 3 1 3 rfl rfl (by decide) ?_
  refine GM [] [3,4] [(0,.rowE (iW l) 2),(8,.i i),(9,.i k),(12,.ptr 0 0)] (fun m => [.cells [.rowE (ints bod) 1,.sl 1 0 m 3],.arr (fL (P.take m)) 3]) 1 rfl hit rfl rfl rfl trivial cX rfl (by repeat first|exact trivial|refine ⟨rfl,?_⟩) ⟨.inr rfl,.inr rfl,trivial⟩ (by decide) (lB _) (by simp) (cK _) (aP rfl) rfl (by decide) (fun m hm => by rw [hpg m P[m] (aA hm)];exact ⟨rfl,rfl⟩) ?_ ?_
  · intro m hm;rw [hpg m P[m] (aA hm)];have hks := aQ hm;have hkl' : (fL (P.take m)).length = m := by rw [eM,bD];omega
    have hW : fL (P.take (m + 1)) = fL (P.take m) ++ [wA P[m]] := by rw [hks,fL,dH];rfl
    generalize P[m] = w at *;obtain ⟨wp,wm,wc⟩ := w;generalize fL (P.take m) = Q at *;refine eG (id := 9) ?_;refine bV (by exact bN T rfl) rfl ?_
    refine aU T rfl rfl rfl rfl rfl rfl (by decide) rfl ?_
    refine gR ?_;refine ⟨rfl,?_⟩
    repeat' (first|refine wB ?_|(refine rg 10 (iP T rfl (lW T rfl (bV (by exact bE T rfl rfl (by decide) (by decide) rfl rfl rfl) rfl ?_)));refine hO T rfl rfl rfl rfl rfl rfl (by omega) (lD.whole rfl rfl) rfl (by simp;omega) (by simp;omega) rfl ?_;refine fW T rfl (aU T rfl rfl rfl rfl rfl rfl (by decide) rfl ?_))|refine nZ ?_)
    show DJ _ _ _ _ [.cells [.rowE (ints bod) 1,.sl 1 0 (m + 1) 3],.arr (fL (P.take (m + 1))) 3];rw [hW];exact ⟨[0,4],rfl,trivial,⟨.inr (by simp;rfl),.inr (aE rfl (by first | exact mZ hkl'.symm | simp) (by rw [← hW];exact bG _)),trivial⟩,by decide,zL9⟩
  · rw [dD];refine mL 0 1 rfl rfl rfl (eM _).symm (gX (bG _)) ?_;show AW _ _ _ _ _ _
    (repeat' (first|refine wS ?_|(refine rg 11 (mW rfl (bV (by exact fZ rfl rfl hcl (.inr ⟨rfl,rfl,by simp⟩)) rfl ?_));refine aV ?_)|refine nZ ?_));refine fA [(8,.i i),(9,.i k),(12,.ptr 0 0),(14,.sl 1 0 l.length 2)] [.cells [.rowE (ints bod) 1,.rowE (fL P) 3],.arr (iW l) 2] ⟨[0,2],rfl,(by repeat first|exact trivial|refine ⟨rfl,?_⟩),⟨.inr rfl,.inr (aE rfl (cC _ (dX _)) (dX _)),trivial⟩,by decide,lB _⟩ ?_
    (repeat' (first|refine wS ?_|(refine rg 12 (dS rfl (mW rfl (vV (BZ rfl rfl) (lW T rfl (vV (by exact aM T rfl rfl rfl rfl rfl (by omega) (by omega)) ?_)))));refine aU T rfl rfl rfl rfl rfl rfl (by decide) (mA rfl qm rfl) ?_)|refine nZ ?_));refine fA [(8,.i i),(9,.i k),(14,.sl 0 0 l.length 2)] [.arr (iW (l.set (min i k) (bod,P))) 2] ⟨[1],rfl,(by repeat first|exact trivial|refine ⟨rfl,?_⟩),⟨.inr (aE rfl ts (dX _)),trivial⟩,by decide,lB _⟩ ?_
    (repeat' (first|refine wR ?_|(refine rg 13 (dS rfl (mW rfl (vV (wJ rfl rfl) (dS rfl (vV (wJ rfl rfl) (vV (bU rfl rfl (by omega) (by omega)) (fQ [0] rfl rfl (hdl) rfl rfl (by decide) ⟨.inr (aE rfl rfl (dX _)),trivial⟩ (by simp) rfl ?_)))))));refine rZ ?_)|refine nZ ?_));all_goals exact ⟨.inl rfl,[0],_,rfl,rfl,rfl,⟨.inr (aE rfl (cC _ (dX _)) (dX _)),trivial⟩,by decide,lB _⟩
end Go.Proofs.YtmmkhmilpeodnaaGreat
namespace Go.Ld
open Go.Ab Go.Proofs.YtmmkhmilpeodnaaGreat
structure rK (c : Cx) : Prop where
  f : zG3 c.ks c.ls (nats (List.range c.bs.length)) c.bs
  s : mO c.m c.st c.er c.sl
theorem rK.unit {c : Cx} (h : rK c) (lot : Int) : 0 ≤ pA c.ks c.ls lot := by
  unfold pA;split
  · exact fC _
  · rw [aC];cases hq : c.ks[(c.ls.getD lot.toNat (0,0,false)).1.toNat]? with
    | none => exact fC _
    | some x =>
      obtain ⟨h1,h2⟩ := aB.1 hq;have := (h.f.k _ h1).1;rw [h2] at this;exact this
end Go.Ld
namespace Go.Proofs.YtmmkhmilpeodnaaGreat
open Go Go.Ab Go.Ld
attribute [local irreducible] VC AW bX aT kT
set_option maxHeartbeats 4000000
theorem LR (t u w e : Int) (hu : 0 ≤ u) : aT Tryz.prog 92 [.i t,.i u,.i w,.i e] [] (.tup [kE (ON t u w e).1.1 (ON t u w e).1.2,.b (ON t u w e).2]) [] := by
  unfold ON;by_cases h : CE t u w e
  · rw [if_pos (show AH t u w e = true from decide_eq_true h)]
    by_cases h1 : w + e - t < 0 ∨ u = 0 ∧ 0 < w - e - t
    · rw [if_pos h1];exact DM t u w e h h1
    · rw [if_neg h1];by_cases h2 : u = 0
      · rw [if_pos h2];exact DN t u w e h (by omega) h2 (by omega)
      · rw [if_neg h2];exact HM t u w e h (by omega) (by omega)
  · have h' : ¬ AH t u w e = true := fun q => h (by simpa [AH,CE] using q)
    rw [if_neg h'];exact HL t u w e h
theorem XL (r q : SP) : aT Tryz.prog 93 [kE r.1 r.2,kE q.1 q.2] [] (.tup [kE (D3 (max r.1 q.1) (min r.2 q.2)).1.1 (D3 (max r.1 q.1) (min r.2 q.2)).1.2,.b (D3 (max r.1 q.1) (min r.2 q.2)).2]) [] := XM r.1 r.2 q.1 q.2
theorem QL (r : SP) (n s : Int) (hf : 0 ≤ r.1 ∧ r.1 ≤ 20001 ∧ 0 ≤ r.2 ∧ r.2 ≤ 20001) : aT Tryz.prog 94 [kE r.1 r.2,.i n,.i s] [] (.tup [kE (vW r n s).1.1 (vW r n s).1.2,.b (vW r n s).2]) [] := by
  unfold vW;by_cases h : 0 ≤ n ∧ n ≤ 1099511627776 ∧ 0 ≤ s ∧ s ≤ 1099511627776
  · rw [if_pos h];exact ML r.1 r.2 n s hf h
  · rw [if_neg h];exact HY r.1 r.2 n s h
abbrev zO1 (s : Ev) : AV := PN s.k s.a s.b s.n s.ids
theorem TO (c : Cx) (gs : List G) {n q : Nat} (w : W) {i : Nat} (s : Ev) (hc : rK c) (hw : V9 n q w) (hn : n = c.bs.length) (hi : i < q) (hq : q ≤ 1000) (hids : s.ids.length ≤ 9223372036854775807) (hsn : 0 ≤ s.n ∧ s.n ≤ 1099511627776) :
    aT Tryz.prog 47 [.pr (gL c gs) 0,HI w,.i i,zO1 s] [] (.tup [.agg [.sl 0 0 w.1.length 1,.i (jG c w i s).1.2.1,.sl 1 0 w.2.2.length 2],.b (jG c w i s).2]) [.arr (ints w.1) 1,.arr (eS (jG c w i s).1.2.2) 2] := by
  have hpl := hw.pl;have hcl := hw.cl;have hcw := CN w ⟨by omega,by omega⟩
  obtain ⟨g1,g2,g3,g4,g5⟩ := hw.at hi;have hm0 := hw.m0;have hm1 := hw.m1;have hids' : (ints s.ids).length = s.ids.length := cT _;obtain ⟨st1,st2,st3,st4,st5,st6,st7,st8⟩ := hc.s;have hbo : (jG c w i s).1.2.2 = (jG c w i s).1.2.2 := rfl;unfold jG gP gC at *;obtain ⟨p,m,cs⟩ := w;obtain ⟨sk,sa,sb,sn,ids⟩ := s;dsimp only at *;have hlp : (ints p).length = p.length := cT _;have hlc : (eS cs).length = cs.length := fX _;have qp := B9 (l := p) (j := (i : Int)) (i := i) 0 (by omega) rfl
  have qc := A5 (l := cs) (j := (i : Int)) (i := i) (by omega) rfl
  have ct : ∀ r : SP,_ := fun r => O3 (l := cs) (j := (i : Int)) (i := i) (r := r) rfl;have ctn : ∀ x y : Int,(eS cs).set (0 + (i : Int).toNat) [AV.i x,AV.i y] = eS (cs.set i (x,y)) := fun x y => ct (x,y);clear ct hbo;generalize hx : p.getD i 0 = x at *;generalize hr : cs.getD i (0,0) = r at *;obtain ⟨r1,r2⟩ := r;dsimp only at *;have hbx : c.bs[x.toNat]? = some (c.bs.getD x.toNat (0,0,0)) := by
    rw [aC,aA (by omega)];rfl
  refine bT T Tryz.func47 rfl rfl rfl rfl ?_
  (repeat' (first|refine wS ?_|refine wB ?_|(refine rg 0 (bV (cO rfl rfl) rfl (bV (cO rfl rfl) rfl (bV (bN T rfl) rfl (aV ?_)))))|(refine rg 1 (lW T rfl (bV (by exact fZ rfl rfl hcw (.inr ⟨rfl,rfl,by simp⟩)) rfl ?_));refine aU T rfl rfl rfl rfl rfl rfl (by decide) rfl ?_)|(refine rg 2 (aV ?_))|(refine rg 3 (SM T ?_))|refine nZ ?_));refine fA [(0, .pr (gL c gs) 0), (2, .i i), (5, .ptr 0 0), (7, .ptr 1 0), (8, .ptr 2 0), (10, .b true), (18, .i sk)] [.cells [.sl 3 0 p.length 1, .i m, .sl 4 0 cs.length 2], .cells [.i sk, .i sa, .i sb, .i sn, .rowE (ints ids) 1], .cells [.nils, .i 0, .nils], .arr (ints p) 1, .arr (eS cs) 2]
    ⟨[0,1,2,3,4],rfl,(by repeat first|exact trivial|refine ⟨rfl,?_⟩),⟨.inr rfl,.inr rfl,.inr rfl,.inr (aE rfl (cC _ (bS _)) (bS _)),.inr (aE rfl (cC _ (eR _)) (eR _)),trivial⟩,by decide,lB _⟩ ?_
  by_cases k0 : sk = 0
  · rw [if_pos k0];have hct := T5 ids x hids;by_cases hin : x ∈ ids
    · rw [if_pos hin];rw [decide_eq_true hin] at hct;dsimp only
      (repeat' (first|refine wS ?_|refine wR ?_|refine wT ?_|(refine rg 4 (vV (kK rfl rfl (by omega)) (aV ?_)))|(refine rg 5 (fW T rfl (vV (aX T rfl rfl rfl rfl) (qW T rfl (aV ?_)))))|(refine rD (id := 6) 7 153 [[],[0],[],[2],[],[2,3,4],rM 2 4,rN 7] [[],[0],[],[2],[],[2,3,4],rM 2 4] (rM 24 7) zS7 dA rfl (by decide +kernel) (by decide +kernel) ?_;(dsimp only [List.take,List.drop]);refine dP T rfl (dO T rfl (dP T rfl (dO T rfl (dN rfl (dV rfl (by exact aM T rfl rfl rfl rfl rfl (by omega) (by omega)) ?_)))));refine dV rfl (by exact aX T rfl rfl (bJ rfl qp) rfl) ?_;refine dE ?_;refine gR ?_;refine vV (kC (hct)) ?_)|(refine rg 7 (mW rfl (vV (cQ rfl rfl (by omega) (by omega)) (aV ?_))))|(refine rg 9 (dS rfl (nV ?_));refine fW T rfl (fW T rfl (vV (aX T rfl rfl rfl rfl) (vV (iX rfl rfl) (aV ?_)))))|(refine rg 23 (vV (aX T rfl rfl rfl rfl) (mW rfl (aU T rfl rfl rfl rfl rfl rfl (by decide) rfl (aV ?_)))))|refine nZ ?_));all_goals first | (exfalso;omega) | exact ⟨.inl rfl,[3,4],_,rfl,by rw [← hids'];rfl,rfl,⟨.inr (aE rfl rfl (bS _)),.inr (aE rfl rfl (eR _)),trivial⟩,by decide,lB _⟩
    · rw [if_neg hin];rw [decide_eq_false hin] at hct;dsimp only
      (repeat' (first|refine wS ?_|refine wR ?_|refine wT ?_|refine wU ?_|(refine rg 4 (vV (kK rfl rfl (by omega)) (aV ?_)))|(refine rg 5 (fW T rfl (vV (aX T rfl rfl rfl rfl) (qW T rfl (aV ?_)))))|(refine rD (id := 6) 7 153 [[],[0],[],[2],[],[2,3,4],rM 2 4,rN 7] [[],[0],[],[2],[],[2,3,4],rM 2 4] (rM 24 7) zS7 dA rfl (by decide +kernel) (by decide +kernel) ?_;(dsimp only [List.take,List.drop]);refine dP T rfl (dO T rfl (dP T rfl (dO T rfl (dN rfl (dV rfl (by exact aM T rfl rfl rfl rfl rfl (by omega) (by omega)) ?_)))));refine dV rfl (by exact aX T rfl rfl (bJ rfl qp) rfl) ?_;refine dE ?_;refine gR ?_;refine vV (kC (hct)) ?_)|(refine rg 8 (fW T rfl (vV (aX T rfl rfl rfl rfl) (vV (bU rfl rfl (by omega) (by omega)) (fW T rfl (aU T rfl rfl rfl rfl rfl rfl (by decide) rfl ?_))))))|(refine rg 9 (dS rfl (nV ?_));refine fW T rfl (fW T rfl (vV (aX T rfl rfl rfl rfl) (vV (iX rfl rfl) (aV ?_)))))|(refine rg 23 (vV (aX T rfl rfl rfl rfl) (mW rfl (aU T rfl rfl rfl rfl rfl rfl (by decide) rfl (aV ?_)))))|refine nZ ?_));all_goals first | (exfalso;omega) | exact ⟨.inl rfl,[3,4],_,rfl,by rw [← hids'];rfl,rfl,⟨.inr (aE rfl rfl (bS _)),.inr (aE rfl rfl (eR _)),trivial⟩,by decide,lB _⟩
  by_cases k1 : sk = 1
  · rw [if_neg k0,if_pos k1];have hbl := hc.f.b x.toNat (by omega)
    have hgx : c.bs[x.toNat]'(by omega) = c.bs.getD x.toNat (0,0,0) := by rw [aC,aA (by omega)];rfl
    rw [hgx] at hbl;have hbxl : (fS c.bs).length = c.bs.length := bC _;have qb : (fS c.bs)[x.toNat]? = some [.i (c.bs.getD x.toNat (0,0,0)).1,.i (c.bs.getD x.toNat (0,0,0)).2.1,.i (c.bs.getD x.toNat (0,0,0)).2.2] := by rw [bP,hbx];rfl
    generalize c.bs.getD x.toNat (0,0,0) = bx at *;obtain ⟨lot,cnt,ta⟩ := bx;dsimp only at *;have hun := zA2 hc.f (lot := lot) (by omega)
    have hu0 := hc.unit lot;generalize pA c.ks c.ls lot = u at *;have hwg := LR ta u sn c.er hu0;unfold sE sC;dsimp only;generalize ON ta u sn c.er = z at *;obtain ⟨⟨z1,z2⟩,zb⟩ := z;dsimp only at *;cases zb with
    | true =>
      rw [if_pos rfl];have hin := XL (r1,r2) (z1,z2);dsimp only at *;generalize D3 (max r1 z1) (min r2 z2) = y at *;obtain ⟨⟨y1,y2⟩,yb⟩ := y;dsimp only at *
      (repeat' (first|refine wS ?_|refine wR ?_|refine wT ?_|refine wU ?_|(refine rg 4 (vV (gB rfl rfl (by omega)) (aV ?_)))|(refine rg 10 (vV (kK rfl rfl (by omega)) (aV ?_)))|(refine cM (id := 11) 153 zS8 [47,48,49,50,51,52,53,54,55,56,57,12] zS9 dA rfl (by decide +kernel) (dN rfl (dV rfl (by exact eI rfl rfl) ?_));refine dP T rfl (dO T rfl (dP T rfl (dO T rfl (dN rfl (dV rfl (by exact aM T rfl rfl rfl rfl rfl (by omega) (by omega)) ?_)))));refine dV rfl (by exact aX T rfl rfl (bJ rfl qp) rfl) ?_;refine dV rfl (ix T rfl (by omega) (oL _) qb) (dO T rfl (zM rfl rfl rfl (by exact bN T rfl) rfl ?_));refine dE ?_;refine aU T rfl rfl rfl rfl rfl rfl (by decide) rfl ?_)|(refine D6 (id := 12) 23 25 153 (by (dsimp only [zQ];done)) (by decide +kernel) zT0 [59,60,61,62,63,64,65,66,67,68,69,70,71,72,73,74,75,76,77,78,79,58,80,81,13] zT1 dA rfl (by decide +kernel) (dP T rfl (dO T rfl (dN rfl (dV rfl (by exact eI rfl rfl) ?_))));refine dP T rfl (dO T rfl (dN rfl (dV rfl (by exact eI rfl rfl) ?_)));refine dP T rfl (dO T rfl (dP T rfl (dO T rfl (dV rfl (kC (hun)) (dP T rfl (dO T rfl (dN rfl (dV rfl (by exact eI rfl rfl) ?_))))))));refine dP T rfl (dP T rfl (dO T rfl (dV rfl (kC (hwg)) (dN rfl (dV rfl (by exact iY rfl rfl) ?_)))));refine dV rfl (by exact iY rfl rfl) ?_;refine zM rfl rfl rfl (by exact bN T rfl) rfl ?_;refine dE ?_;refine aU T rfl rfl rfl rfl rfl rfl (by decide) rfl (aV ?_))|(refine rg 13 (mV ?_))|(refine D6 (id := 14) 9 10 153 (by (dsimp only [zQ];done)) (by decide +kernel) [[],[0],[],[0,1,2],rN 4,[],rN 6,rN 7,rN 8,rN 8] [84,85,86,87,88,89,90,83,91,92] [[],[],[84,85],[],[],rM 84 5,[],[],[],[91]] dA rfl (by decide +kernel) (dP T rfl (dO T rfl (dN rfl (dV rfl (by exact aM T rfl rfl rfl rfl rfl (by omega) (by omega)) ?_))));refine dV rfl (by exact aX T rfl rfl (bJ rfl qc) rfl) ?_;refine dO T rfl (dV rfl (kC (hin)) (dN rfl (dV rfl (by exact iY rfl rfl) ?_)));refine dV rfl (by exact iY rfl rfl) ?_;refine dE ?_;refine aU T rfl rfl rfl rfl rfl rfl (by decide) rfl (aV ?_))|(refine rg 15 (fW T rfl (vV (aX T rfl rfl rfl rfl) (mW rfl (vV (aX T rfl rfl rfl rfl) (mW rfl (vV (by exact aM T rfl rfl rfl rfl rfl (by omega) (by omega)) ?_))))));refine aU T rfl rfl rfl rfl rfl rfl (by decide) (mA rfl qc rfl) (aV ?_))|(refine rg 23 (vV (aX T rfl rfl rfl rfl) (mW rfl (aU T rfl rfl rfl rfl rfl rfl (by decide) rfl (aV ?_)))))|refine nZ ?_));all_goals first | (exfalso;omega) | exact ⟨.inl rfl,[3,4],_,rfl,rfl,rfl,⟨.inr (aE rfl rfl (bS _)),.inr (aE rfl (ctn y1 y2) (eR _)),trivial⟩,by decide,lB _⟩
    | false =>
      rw [if_neg (by simp)]
      (repeat' (first|refine wS ?_|refine wK ?_|refine wR ?_|refine wT ?_|refine wU ?_|(refine rg 4 (vV (gB rfl rfl (by omega)) (aV ?_)))|(refine rg 10 (vV (kK rfl rfl (by omega)) (aV ?_)))|(refine cM (id := 11) 153 zS8 [47,48,49,50,51,52,53,54,55,56,57,12] zS9 dA rfl (by decide +kernel) (dN rfl (dV rfl (by exact eI rfl rfl) ?_));refine dP T rfl (dO T rfl (dP T rfl (dO T rfl (dN rfl (dV rfl (by exact aM T rfl rfl rfl rfl rfl (by omega) (by omega)) ?_)))));refine dV rfl (by exact aX T rfl rfl (bJ rfl qp) rfl) ?_;refine dV rfl (ix T rfl (by omega) (oL _) qb) (dO T rfl (zM rfl rfl rfl (by exact bN T rfl) rfl ?_));refine dE ?_;refine aU T rfl rfl rfl rfl rfl rfl (by decide) rfl ?_)|(refine D6 (id := 12) 23 25 153 (by (dsimp only [zQ];done)) (by decide +kernel) zT0 [59,60,61,62,63,64,65,66,67,68,69,70,71,72,73,74,75,76,77,78,79,58,80,81,13] zT1 dA rfl (by decide +kernel) (dP T rfl (dO T rfl (dN rfl (dV rfl (by exact eI rfl rfl) ?_))));refine dP T rfl (dO T rfl (dN rfl (dV rfl (by exact eI rfl rfl) ?_)));refine dP T rfl (dO T rfl (dP T rfl (dO T rfl (dV rfl (kC (hun)) (dP T rfl (dO T rfl (dN rfl (dV rfl (by exact eI rfl rfl) ?_))))))));refine dP T rfl (dP T rfl (dO T rfl (dV rfl (kC (hwg)) (dN rfl (dV rfl (by exact iY rfl rfl) ?_)))));refine dV rfl (by exact iY rfl rfl) ?_;refine zM rfl rfl rfl (by exact bN T rfl) rfl ?_;refine dE ?_;refine aU T rfl rfl rfl rfl rfl rfl (by decide) rfl (aV ?_))|(refine rg 13 (mV ?_))|(refine rg 15 (fW T rfl (vV (aX T rfl rfl rfl rfl) (mW rfl (vV (aX T rfl rfl rfl rfl) (mW rfl (vV (by exact aM T rfl rfl rfl rfl rfl (by omega) (by omega)) ?_))))));refine aU T rfl rfl rfl rfl rfl rfl (by decide) (mA rfl qc rfl) (aV ?_))|(refine rg 23 (vV (aX T rfl rfl rfl rfl) (mW rfl (aU T rfl rfl rfl rfl rfl rfl (by decide) rfl (aV ?_)))))|refine nZ ?_));all_goals first | (exfalso;omega) | exact ⟨.inl rfl,[3,4],_,rfl,rfl,rfl,⟨.inr (aE rfl rfl (bS _)),.inr (aE rfl (ctn z1 z2) (eR _)),trivial⟩,by decide,lB _⟩
  by_cases k2 : sk = 2
  · have hpk := QL (r1,r2) sn c.sl ⟨by omega,by omega,by omega,by omega⟩
    rw [if_neg k0,if_neg k1,if_pos k2];unfold sC;dsimp only at *;generalize vW (r1,r2) sn c.sl = z at *;obtain ⟨⟨z1,z2⟩,zb⟩ := z;dsimp only at *
    (repeat' (first|refine wS ?_|refine wR ?_|refine wT ?_|refine wU ?_|(refine rg 4 (vV (gB rfl rfl (by omega)) (aV ?_)))|(refine rg 10 (vV (gB rfl rfl (by omega)) (aV ?_)))|(refine rg 16 (vV (kK rfl rfl (by omega)) (aV ?_)))|(refine D6 (id := 17) 18 20 153 (by (dsimp only [zQ];done)) (by decide +kernel) [[],[0],[],[],[3],[],[3,4,5],rM 3 4,[],[8],[],[10],[10,11],[10,11,12],rM 10 4,rM 3 12,rM 3 13,rM 3 14,rM 3 14,rN 18] [102,103,104,105,106,107,108,109,110,111,112,113,114,115,116,117,101,118,119,120] [[],[],[102,103],[102,103,104],[102,103,104],rM 102 5,[102,103,104],[102,103,104],rM 102 8,rM 102 8,rM 102 10,rM 102 10,rM 102 10,rM 102 10,rM 102 10,[102,103,104],[102,103,104],[102,103,104],[102,103,104,118],[119]] dA rfl (by decide +kernel) (dP T rfl (dO T rfl (dN rfl (dP T rfl (dO T rfl (dN rfl (dV rfl (by exact aM T rfl rfl rfl rfl rfl (by omega) (by omega)) ?_)))))));refine dV rfl (by exact aX T rfl rfl (bJ rfl qc) rfl) ?_;refine dP T rfl (dO T rfl (dN rfl (dV rfl (by exact eI rfl rfl) ?_)));refine dP T rfl (dP T rfl (dO T rfl (dV rfl (kC (hpk)) (dN rfl (dV rfl (by exact iY rfl rfl) ?_)))));refine dV rfl (by exact iY rfl rfl) ?_;refine dV rfl (by exact aM T rfl rfl rfl rfl rfl (by omega) (by omega)) ?_;refine dE ?_;refine aU T rfl rfl rfl rfl rfl rfl (by decide) (mA rfl qc rfl) (aV ?_))|(refine rg 23 (vV (aX T rfl rfl rfl rfl) (mW rfl (aU T rfl rfl rfl rfl rfl rfl (by decide) rfl (aV ?_)))))|refine nZ ?_));all_goals first | (exfalso;omega) | exact ⟨.inl rfl,[3,4],_,rfl,rfl,rfl,⟨.inr (aE rfl rfl (bS _)),.inr (aE rfl (ctn z1 z2) (eR _)),trivial⟩,by decide,lB _⟩
  by_cases k3 : sk = 3
  · rw [if_neg k0,if_neg k1,if_neg k2,if_pos k3];have hhs := KB r1 r2 sn;unfold sC;dsimp only;generalize rG r1 r2 sn = hb' at *
    (repeat' (first|refine wS ?_|refine wR ?_|refine wT ?_|refine wU ?_|(refine rg 4 (vV (gB rfl rfl (by omega)) (aV ?_)))|(refine rg 10 (vV (gB rfl rfl (by omega)) (aV ?_)))|(refine rg 16 (vV (gB rfl rfl (by omega)) (aV ?_)))|(refine rg 18 (vV (kK rfl rfl (by omega)) (aV ?_)))|(refine cM (id := 19) 153 [[],[0],[],[0,1,2],rN 4,[],[5],rN 7] (rM 123 8) [[],[],[123,124],[],[],rM 123 5,rM 123 5,[]] dA rfl (by decide +kernel) (dP T rfl (dO T rfl (dN rfl (dV rfl (by exact aM T rfl rfl rfl rfl rfl (by omega) (by omega)) ?_))));refine dV rfl (by exact aX T rfl rfl (bJ rfl qc) rfl) ?_;refine dP T rfl (dO T rfl (dV rfl (kC (hhs)) (dE ?_)));refine aV ?_)|(refine rg 20 (fW T rfl (vV (aX T rfl rfl rfl rfl) (mW rfl (fW T rfl (vV (aX T rfl rfl rfl rfl) (fW T rfl (vV (aX T rfl rfl rfl rfl) (vV (bU rfl rfl (by omega) (by omega)) (vV (by exact eW T rfl rfl rfl rfl) ?_)))))))));refine vV (by exact aM T rfl rfl rfl rfl rfl (by omega) (by omega)) ?_;refine aU T rfl rfl rfl rfl rfl rfl (by decide) (mA rfl qc rfl) ?_)|(refine rg 23 (vV (aX T rfl rfl rfl rfl) (mW rfl (aU T rfl rfl rfl rfl rfl rfl (by decide) rfl (aV ?_)))))|refine nZ ?_));all_goals first | (exfalso;omega) | exact ⟨.inl rfl,[3,4],_,rfl,rfl,rfl,⟨.inr (aE rfl rfl (bS _)),.inr (aE rfl (ctn sn (sn + 1)) (eR _)),trivial⟩,by decide,lB _⟩
  by_cases k5 : sk = 5
  · rw [if_neg k0,if_neg k1,if_neg k2,if_neg k3,if_pos k5];dsimp only
    (repeat' (first|refine wS ?_|refine wR ?_|refine wT ?_|refine wU ?_|(refine rg 4 (vV (gB rfl rfl (by omega)) (aV ?_)))|(refine rg 10 (vV (gB rfl rfl (by omega)) (aV ?_)))|(refine rg 16 (vV (gB rfl rfl (by omega)) (aV ?_)))|(refine rg 18 (vV (gB rfl rfl (by omega)) (aV ?_)))|(refine rg 21 (vV (kK rfl rfl (by omega)) (aV ?_)))|(refine cM (id := 22) 153 [[],[0],[],[0,1,2],rN 4,[],[5],rN 7] (rM 143 8) [[],[],[143,144],[],[],rM 143 5,rM 143 5,[]] dA rfl (by decide +kernel) (dP T rfl (dO T rfl (dN rfl (dV rfl (by exact aM T rfl rfl rfl rfl rfl (by omega) (by omega)) ?_))));refine dV rfl (by exact aX T rfl rfl (bJ rfl qp) rfl) ?_;refine dP T rfl (dO T rfl (dV rfl (eP rfl rfl) (dE ?_)));refine aV ?_)|(refine rg 23 (vV (aX T rfl rfl rfl rfl) (mW rfl (aU T rfl rfl rfl rfl rfl rfl (by decide) rfl (aV ?_)))))|refine nZ ?_));all_goals first | (exfalso;omega) | exact ⟨.inl rfl,[3,4],_,rfl,rfl,rfl,⟨.inr (aE rfl rfl (bS _)),.inr (aE rfl rfl (eR _)),trivial⟩,by decide,lB _⟩
  · rw [if_neg k0,if_neg k1,if_neg k2,if_neg k3,if_neg k5]
    (repeat' (first|refine wS ?_|refine wK ?_|refine wR ?_|refine wU ?_|(refine rg 4 (vV (gB rfl rfl (by omega)) (aV ?_)))|(refine rg 10 (vV (gB rfl rfl (by omega)) (aV ?_)))|(refine rg 16 (vV (gB rfl rfl (by omega)) (aV ?_)))|(refine rg 18 (vV (gB rfl rfl (by omega)) (aV ?_)))|(refine rg 21 (vV (gB rfl rfl (by omega)) (aV ?_)))|(refine rg 23 (lW T rfl (mW rfl (aU T rfl rfl rfl rfl rfl rfl (by decide) rfl (aV ?_)))))|refine nZ ?_));all_goals first | (exfalso;omega) | exact ⟨.inl rfl,[3,4],_,rfl,rfl,rfl,⟨.inr (aE rfl rfl (bS _)),.inr (aE rfl rfl (eR _)),trivial⟩,by decide,lB _⟩
end Go.Proofs.YtmmkhmilpeodnaaGreat
namespace Go.Ld
open Go.Ab Go.Proofs.YtmmkhmilpeodnaaGreat
theorem CS (c : Cx) (w : W) (i : Nat) (s : Ev) : (jG c w i s).1.1 = w.1 ∧ (jG c w i s).1.2.2.length = w.2.2.length := by
  unfold jG sC;dsimp only
  repeat' split
  all_goals exact ⟨rfl,by first | rfl | exact gH⟩
end Go.Ld
namespace Go.Proofs.YtmmkhmilpeodnaaGreat
open Go Go.Ab Go.Ld
end Go.Proofs.YtmmkhmilpeodnaaGreat
namespace Go.Ld
open Go.Ab Go.Proofs.YtmmkhmilpeodnaaGreat
theorem zI7 : ∀ i : Nat,i < 3 → ([0,1,2] : List Nat)[i]? = some i := by decide
theorem SC {r : Int} {L : List AV} (h : AV.idfL L = true) : AV.idfL [AV.pr [.i r] 0,.pr [.pr L 0] 0] = true := by simp [AV.idfL,AV.idf,h]
theorem qP {h : Hp} {i : Nat} {θ : Nat → Nat} {cs : List AV} (hk : h[i]? = some (.cells cs)) (hi : AV.idfL cs = true) : h[i]? = some ((AB.cells cs).map θ) := by
  rw [hk];show _ = some (AB.cells (AV.mapL θ cs));rw [nL θ cs hi]
theorem AX {h : Hp} (x : W) : nF h (.agg (wA x)) (.agg (wA x)) := .agg (.cons (.row _ _ _) (.cons (.v _) (.cons (.row _ _ _) .nil)))
end Go.Ld
namespace Go.Proofs.YtmmkhmilpeodnaaGreat
open Go Go.Ab Go.Ld
attribute [local irreducible] VC AW bX aT
set_option maxHeartbeats 4000000
theorem NS {F : FuncId} {r : Int} {L : List AV} {q : W → Bool} (l : List W) (hl : l.length ≤ 1000000) (hL : AV.idfL L = true) (hp : AV.plnL L = true) (hF : ∀ x,x ∈ l → aT Tryz.prog F [.agg (wA x),.pr [.i r] 0,.pr [.pr L 0] 0] [] (.b (q x)) []) :
    aT Tryz.prog 104 [.sl 0 0 l.length 3,.clo (.func F) [] [.pr [.i r] 0,.ptr 1 0]] [.arr (fL l) 3,.cells [.ptr 2 0],.cells L] (.sl 0 0 (fR q l).length 3) [.arr (fL (fR q l)) 3,.cells [.ptr 2 0],.cells L] := by
  have hll : (fL l).length = l.length := eM l;have hi : AV.idfL [AV.pr [.i r] 0,.pr [.pr L 0] 0] = true := SC hL;have hix := RU hl hi hF;have hvc : ∀ {X : AB} {Y : Hp},kZ (X :: .cells [.ptr 2 0] :: .cells L :: Y) [AV.pr [.i r] 0,.ptr 1 0] [.pr [.i r] 0,.pr [.pr L 0] 0] := fun {X Y} => .cons (.pr _ _) (.cons (.ptr rfl (.cons (.ptr rfl (gD _ hp)) .nil)) .nil);have hvw : nF [.arr (fL l) 3,.cells [.ptr 2 0],.cells L] (.sl 0 0 l.length 3) (.rowE (fL l) 3) := sS rfl hll.symm (sW (fun _ => rfl) _);refine bT T Tryz.func104 rfl rfl rfl rfl ?_;rcases H0 q l 0 with ⟨h1,h2⟩ | ⟨j,hj,h1,h2,h3⟩
  · rw [h1] at hix;have hk : fR q l = l := yW.2 fun x hx => by rw [h2 x hx];rfl
    rw [hk]
    (repeat' (first|refine wS ?_|refine wR ?_|refine wT ?_|(refine rg 0 (aV ?_))|(refine rg 1 (dS rfl (vV (by exact eU rfl rfl hix (.cons hvw (.cons (.clo .nil hvc) .nil)) rfl rfl) ?_));refine aV ?_)|(refine rg 2 (mW rfl (vV (eP rfl rfl) ?_)))|(refine rg 3 (mW rfl (aV ?_)))|refine nZ ?_));all_goals first | (exfalso;omega) | exact ⟨.inl rfl,[0,1,2],_,rfl,rfl,rfl,⟨.inr (aE rfl rfl (bG _)),.inr rfl,.inr (qP rfl hL),trivial⟩,by decide,zI7⟩
  · rw [h1,Nat.zero_add] at hix;have hk0 : fR q (l.take (j + 1)) = l.take j := by
      rw [uE hj,if_pos h2];exact yW.2 fun x hx => by rw [h3 x hx];rfl
    have hkl : (fR q (l.take (j + 1))).length = j := by rw [hk0];simp;omega
    have hka : fR q (l.take (j + 1)) ++ l.drop (fR q (l.take (j + 1))).length = l := by rw [hkl,hk0,bK]
    have hkf : fR q l = fR q (l.take l.length) := by rw [dD]
    rw [hkf]
    (repeat' (first|refine wS ?_|refine wB ?_|refine wK ?_|refine wU ?_|(refine rg 0 (aV ?_))|(refine rg 1 (dS rfl (vV (by exact eU rfl rfl hix (.cons hvw (.cons (.clo .nil hvc) .nil)) rfl rfl) ?_));refine aV ?_)|(refine rg 2 (mW rfl (vV (eP rfl rfl) ?_)))|(refine iA 4 rfl rfl rfl (by omega) (by omega) ?_)|refine nZ ?_));all_goals try (exfalso;omega)
    refine dB (X := {m : Nat // m ≤ l.length}) (fun m => [(0,.sl 0 0 l.length 3),(1,.clo (.func F) [] [.pr [.i r] 0,.ptr 1 0]),(5,.i (fR q (l.take m.1)).length),(6,.i m.1)]) (fun m => [.arr (fL (fR q (l.take m.1) ++ l.drop (fR q (l.take m.1)).length)) 3,.cells [.ptr 2 0],.cells L]) (fun m => l.length - m.1) ⟨j + 1,hj⟩ ⟨[0,1,2],rfl,⟨rfl,rfl,by dsimp only;rw [hkl];rfl,rfl,trivial⟩,⟨.inr (aE rfl (by dsimp only;rw [hka]) (bG _)),.inr rfl,.inr (qP rfl hL),trivial⟩,by decide,zI7⟩ ?_
    rintro ⟨m,hm⟩;dsimp only;have hle := FJ q l m;by_cases hlt : m < l.length
    · have hs := uE (q := q) hlt;have hget := IZ (G := fR q (l.take m)) (l := l) (m := m) (i := 0 + (m : Int).toNat) hle hlt (by omega)
      have hg2 := IZ (G := fR q (l.take m)) (l := l) (m := (fR q (l.take m)).length) (i := 0 + (((fR q (l.take m)).length : Nat) : Int).toNat) (aY _) (by omega) (by omega)
      rw [nM hlt] at hget;have hset := zA6 (G := fR q (l.take m)) (l := l) (x := l[m]) (j := (((fR q (l.take m)).length : Nat) : Int)) (by omega) rfl
      have hc := hF l[m] (aH hlt);have hal := MY (G := fR q (l.take m)) (l := l) (by omega)
      generalize l[m] = x at *;generalize l.getD (fR q (l.take m)).length w0 = y at *;generalize hG : fR q (l.take m) = G at *;generalize hA : fL (G ++ l.drop G.length) = A at *;cases e : q x
      · rw [e] at hc hs;rw [if_neg (by simp)] at hs
        (repeat' (first|refine wS ?_|refine wB ?_|refine wK ?_|refine wT ?_|(refine wC rfl ?_ ?_<;>(intro hb;(try simp only [nm] at hb);try (exfalso;omega)))|(refine rg 5 (dS rfl (qW T rfl (vV (aO rfl rfl) ?_))))|(refine rg 7 (dS rfl (vV (by exact aM T rfl rfl rfl rfl rfl (by omega) (by omega)) ?_));refine vV (by exact aX T rfl rfl (bJ rfl hget) rfl) ?_;refine bV (bN T rfl) rfl (aU T rfl rfl rfl rfl rfl rfl (by decide) rfl ?_))|(refine rg 8 (mW rfl (vV (aX T rfl rfl rfl rfl) (vV (by exact eU rfl rfl hc (.cons (AX x) hvc) rfl rfl) ?_)));refine vV (eD rfl) ?_)|(refine rg 9 (dS rfl (vV (aX T rfl rfl rfl rfl) (vV (by exact aM T rfl rfl rfl rfl rfl (by omega) (by omega)) ?_)));refine aU T rfl rfl rfl rfl rfl rfl (by decide) (mA rfl hg2 rfl) ?_)|(refine iA 10 rfl rfl rfl (by omega) (by omega) ?_)|(refine iA 6 rfl rfl rfl (by omega) (by omega) ?_)|refine nZ ?_));all_goals try (exfalso;omega)
        all_goals exact ⟨⟨m + 1,hlt⟩,by dsimp only;omega,[0,1,2],rfl,⟨rfl,rfl,by rw [hs];simp only [aF];rfl,rfl,trivial⟩,⟨.inr (aE rfl (by rw [hs];exact hset) (bG _)),.inr rfl,.inr (qP rfl hL),trivial⟩,by decide,zI7⟩
      · rw [e] at hc hs;rw [if_pos rfl] at hs
        (repeat' (first|refine wS ?_|refine wB ?_|refine wK ?_|refine wU ?_|(refine wC rfl ?_ ?_<;>(intro hb;(try simp only [nm] at hb);try (exfalso;omega)))|(refine rg 5 (dS rfl (qW T rfl (vV (aO rfl rfl) ?_))))|(refine rg 7 (dS rfl (vV (by exact aM T rfl rfl rfl rfl rfl (by omega) (by omega)) ?_));refine vV (by exact aX T rfl rfl (bJ rfl hget) rfl) ?_;refine bV (bN T rfl) rfl (aU T rfl rfl rfl rfl rfl rfl (by decide) rfl ?_))|(refine rg 8 (mW rfl (vV (aX T rfl rfl rfl rfl) (vV (by exact eU rfl rfl hc (.cons (AX x) hvc) rfl rfl) ?_)));refine vV (eD rfl) ?_)|(refine iA 6 rfl rfl rfl (by omega) (by omega) ?_)|refine nZ ?_));all_goals try (exfalso;omega)
        all_goals exact ⟨⟨m + 1,hlt⟩,by dsimp only;omega,[0,1,2],rfl,⟨rfl,rfl,by rw [hs];rfl,rfl,trivial⟩,⟨.inr (aE rfl (by rw [hs];exact hA.symm) (bG _)),.inr rfl,.inr (qP rfl hL),trivial⟩,by decide,zI7⟩
    · obtain rfl : m = l.length := by omega
      have hal := MY (G := fR q (l.take l.length)) (l := l) (by omega)
      have htk := OX (G := fR q (l.take l.length)) (l := l);generalize fR q (l.take l.length) = G at *
      (repeat' (first|refine wS ?_|refine wR ?_|refine wE ?_|(refine wC rfl ?_ ?_<;>(intro hb;(try simp only [nm] at hb);try (exfalso;omega)))|(refine rg 5 (dS rfl (qW T rfl (vV (aO rfl rfl) ?_))))|(refine rg 11 (dS rfl (vV (by exact jX T rfl rfl rfl rfl rfl rfl (by omega) (by omega) (by omega)) ?_));refine E8 T rfl rfl rfl ⟨rfl,rfl,by decide⟩ rfl (by rw [hal];omega) ?_)|(refine rg 12 (dS rfl (vV (by exact jX T rfl rfl rfl rfl rfl rfl (by omega) (by omega) (by omega)) ?_));refine aV ?_)|refine nZ ?_));all_goals try (exfalso;omega)
      all_goals exact ⟨.inl rfl,[0,1,2],_,rfl,(by show AV.sl 0 0 ((G.length : Int) - 0).toNat 3 = AV.sl 0 0 G.length 3;rw [show ((G.length : Int) - 0).toNat = G.length by omega]),rfl,⟨.inr (aE rfl htk (bG _)),.inr rfl,.inr (qP rfl hL),trivial⟩,by decide,zI7⟩
end Go.Proofs.YtmmkhmilpeodnaaGreat
namespace Go.Ab
open Go
theorem JC {P : Program} {f : FuncId} {args : List AV} {hin hout : Hp} {es : List (List AV)} {len sz k : Nat} (hk : k = hout.length) (hn : len = es.length) (hi : AV.idfL es.flatten = true) (h : aT P f args hin (.sl k 0 len sz) (hout ++ [.arr es sz])) : aT P f args hin (.rowE es sz) (hout ++ [.gone]) := by
  refine ⟨h.1,fun ρ S w vs hs ha => (h.2 ρ S w vs hs ha).mono ?_⟩;rintro e w' ⟨y,ρ',S',rfl,h2,h3⟩;rw [hn] at h3;have hb : (hout ++ [AB.arr es sz])[k]? = some (.arr es sz) := by subst hk;simp
  have e : (hout ++ [AB.arr es sz]).set k .gone = hout ++ [.gone] := by subst hk;simp
  exact ⟨y,_,_,rfl,e ▸ h2.freeze (k := k) hb,C7 hi (h2.blk k _ hb) h3⟩
theorem B7 (L : List Nat) : ∀ i : Nat,i < 1 → (0 :: L)[i]? = some i := fun i hi => by cases i with | zero => rfl | succ i => omega
end Go.Ab
namespace Go.Proofs.YtmmkhmilpeodnaaGreat
open Go Go.Ab Go.Ld
attribute [local irreducible] VC AW bX aT
set_option maxHeartbeats 4000000
theorem VR (c : Cx) (gs all : List G) {n : Nat} (ok : mP n all) (up : GW all) (hne : ∀ g,g ∈ all → g.2 ≠ []) :
    aT Tryz.prog 50 [.ptr 0 0,.rowE (iW all) 2] [.cells (gL c gs)] (.rowE (iW (A0 c all)) 2) [.cells (gL c gs),.gone] := by
  have h12 : all.length ≤ 12 := bY ok.len ok.ln;have hal : (iW all).length = all.length := iV _;have hlb : ∀ g,g ∈ all → 0 ≤ iH g ∧ iH g ≤ 4000000 := fun g hg => Z9 (ok.ok g hg) (hne g hg);have hsb := BB hlb;refine JC (k := 1) (hout := [.cells (gL c gs)]) rfl (by rw [iV] : (A0 c all).length = (iW (A0 c all)).length) (gX (dX _)) ?_
  refine bT T Tryz.func50 rfl rfl rfl rfl ?_
  repeat' (first|refine wS ?_|(refine rg 0 (bV (cO rfl rfl) rfl (aV ?_)))|(refine rg 1 (aV ?_))|refine nZ ?_)
  (repeat' (first|refine wB ?_|(refine rg 2 (mW rfl (qW T rfl (mV ?_))))|refine nZ ?_));refine dB (X := {k : Nat // k ≤ all.length}) (fun k => [(1,.rowE (iW all) 2),(2,.ptr 1 0),(5,.i (mJ (all.take k.1))),(16,.rowE (iW all) 2),(17,.i (iW all).length),(18,.i k.1)]) (fun _ => [.cells (gL c gs),.cells [.ptr 0 0]]) (fun k => all.length - k.1) ⟨0,cK _⟩ ⟨[0,1],rfl,(by repeat first|exact trivial|refine ⟨rfl,?_⟩),⟨.inr rfl,.inr rfl,trivial⟩,by decide,B7 _⟩ ?_
  rintro ⟨k,hk⟩;dsimp only;by_cases hlt : k < all.length
  · have hg := M8 hlt;have hs := PF hlt;have hb := BB (l := all.take k) fun g hg => hlb g (fB hg);have hkl : (all.take k).length ≤ 12 := by rw [bD];omega
    have hl1 := hlb _ (aH hlt);have hc := KN all[k] (hne _ (aH hlt)) (by have := ok.ws _ (aH hlt);omega)
    generalize all[k] = g at *;generalize mJ (all.take k) = S at *;generalize iH g = v at *
    (repeat' (first|refine wS ?_|refine wB ?_|refine wK ?_|(refine wC rfl ?_ ?_<;>(intro hb;(try simp only [nm] at hb);try (exfalso;omega)))|(refine rg 3 (vV (aO rfl rfl) ?_))|(refine rg 4 (vV (ix T rfl (by omega) (oT _) hg) (lW T rfl (bV (bN T rfl) rfl (aU T rfl rfl rfl rfl rfl rfl (by decide) rfl ?_)))))|(refine rg 5 (mW rfl (lW T rfl (vV (kC (hc)) (vV (bU rfl rfl (by omega) (by omega)) (aV ?_))))))|(refine rg 6 (vV (bU rfl rfl (by omega) (by omega)) (mV ?_)))|refine nZ ?_));all_goals first | (exfalso;omega) | exact ⟨⟨k + 1,hlt⟩,by dsimp only;omega,[0,1],rfl,⟨rfl,rfl,by dsimp only;rw [hs];rfl,rfl,rfl,rfl,trivial⟩,⟨.inr rfl,.inr rfl,trivial⟩,by decide,B7 _⟩
  obtain rfl : k = all.length := by omega
  rw [dD]
  (repeat' (first|refine wS ?_|refine wB ?_|refine wE ?_|(refine wC rfl ?_ ?_<;>(intro hb;(try simp only [nm] at hb);try (exfalso;omega)))|(refine rg 3 (vV (aO rfl rfl) ?_))|(refine rg 7 (vV (fF rfl) (tY 8 2 rfl (by decide) ?_)))|(refine rg 8 (mW rfl (qW T rfl (mV ?_))))|refine nZ ?_));all_goals try (exfalso;omega)
  refine dB (X := {k : Nat // k ≤ all.length}) (fun k => [(2,.ptr 1 0),(5,.i (mJ all)),(8,.sl 2 0 k.1 2),(27,.rowE (iW all) 2),(28,.i (iW all).length),(29,.i k.1)]) (fun k => [.cells (gL c gs),.cells [.ptr 0 0],.arr (iW ((paid c all).take k.1)) 2]) (fun k => all.length - k.1) ⟨0,cK _⟩ ⟨[0,1,2],rfl,(by repeat first|exact trivial|refine ⟨rfl,?_⟩),⟨.inr rfl,.inr rfl,.inr rfl,trivial⟩,by decide,B7 _⟩ ?_
  clear hk hlt;rintro ⟨k,hk⟩;dsimp only;have hpl := QW c all;by_cases hlt : k < all.length
  · have hg := M8 hlt;have hp := MO (c := c) hlt;have hl1 := hlb _ (aH hlt);have hgo := ok.ok _ (aH hlt);have hgw := ok.ws _ (aH hlt);have hc := KN all[k] (hne _ (aH hlt)) (by omega)
    have htl : ((paid c all).take k).length = k := by rw [bD];omega
    generalize (paid c all).take k = Q at *;generalize all[k] = g at *;obtain ⟨bs,ws⟩ := g;dsimp only at hgw hp;generalize hv : iH (bs,ws) = v at *;generalize mJ all = S at *;have hcl := GD ws (by omega)
    have hd := NS (r := S - v) (L := gL c gs) (q := fun w => decide (w.2.1 + (S - v) > c.m)) ws (by omega) rfl rfl (fun x hx => VT c gs x (S - v) ⟨(hgo.ws x hx).m0,(hgo.ws x hx).m1⟩ (by omega))
    generalize fR (fun w => decide (w.2.1 + (S - v) > c.m)) ws = ws' at *;have hQl : (iW Q).length = k := by rw [iV,htl]
    have hQ : iW (Q ++ [(bs,ws')]) = iW Q ++ [[.rowE (ints bs) 1,.rowE (fL ws') 3]] := by rw [iW,dH];rfl
    rw [← hp] at hQ;generalize iW Q = Q' at *
    (repeat' (first|refine wS ?_|refine wB ?_|refine wK ?_|(refine wC rfl ?_ ?_<;>(intro hb;(try simp only [nm] at hb);try (exfalso;omega)))|(refine rg 9 (vV (aO rfl rfl) ?_))|(refine rg 10 (vV (ix T rfl (by omega) (oT _) hg) (lW T rfl (bV (bN T rfl) rfl (aU T rfl rfl rfl rfl rfl rfl (by decide) rfl ?_)))))|(refine rg 11 (mW rfl (lW T rfl (vV (kC (hc)) (vV (cQ rfl rfl (by omega) (by omega)) (bV (bN T rfl) rfl (aU T rfl rfl rfl rfl rfl rfl (by decide) rfl ?_)))))))|refine nZ ?_));all_goals try (exfalso;omega)
    refine fN 11 rfl rfl rfl ?_
    repeat' (first|(refine rg 12 (iP T rfl (bV (by exact fZ rfl rfl hcl (.inr ⟨rfl,rfl,by simp⟩)) rfl ?_));refine vV (by exact jD rfl rfl) ?_;refine fQ [5,1,0] rfl rfl (hd) rfl rfl (by decide) ⟨.inr (aE rfl (cC _ (bG _)) (bG _)),.inr rfl,.inr rfl,trivial⟩ (by simp) rfl ?_;refine lZ (es := fL ws') 41 rfl (congrArg (fun x=>some (AB.arr x 3)) (cC _ (bG _))) (eM _).symm (gX (bG _)) ?_;refine fW T rfl (aU T rfl rfl rfl rfl rfl rfl (by decide) rfl ?_))|(refine rg 13 (mW rfl (lW T rfl (bV (by exact bE T rfl rfl (by decide) (by decide) rfl rfl rfl) rfl ?_)));refine hO T rfl rfl rfl rfl rfl rfl (by omega) (lD.whole rfl rfl) rfl (by simp;omega) (by simp;omega) rfl ?_;refine aV ?_)|(refine rg 14 (vV (bU rfl rfl (by omega) (by omega)) (mV ?_)))|refine nZ ?_)
    show ∃ x',_;exact ⟨⟨k + 1,hlt⟩,by dsimp only;omega,⟨[0,1,7],rfl,(by repeat first|exact trivial|refine ⟨rfl,?_⟩),⟨.inr rfl,.inr rfl,.inr (aE rfl (by dsimp only;rw [hQ];exact mZ hQl.symm) (dX _)),trivial⟩,by decide,B7 _⟩⟩
  obtain rfl : k = all.length := by omega
  rw [← hpl,dD,hpl];have pok := ok.paid c;have pst := nX.start pok (JL up (c := c));rw [← hpl];generalize hL : paid c all = L at *;rw [show A0 c all = uY L by rw [← hL];rfl]
  (repeat' (first|refine wS ?_|refine wB ?_|refine wE ?_|(refine wC rfl ?_ ?_<;>(intro hb;(try simp only [nm] at hb);try (exfalso;omega)))|(refine rg 9 (vV (aO rfl rfl) ?_))|(refine rg 15 (aV ?_))|refine nZ ?_));all_goals try (exfalso;omega)
  refine dB (X := {q : List G × Nat // nX n L q.1 q.2}) (fun q => [(8,.sl 1 0 q.1.1.length 2),(12,.i q.1.2)]) (fun q => [.cells (gL c gs),.arr (iW q.1.1) 2]) (fun q => 100 * ZI q.1.1 + (q.1.1.length - q.1.2)) ⟨(L,0),pst⟩ ⟨[0,2],rfl,(by repeat first|exact trivial|refine ⟨rfl,?_⟩),⟨.inr rfl,.inr (aE rfl rfl (dX _)),trivial⟩,by decide,B7 _⟩ ?_
  clear hsb hlb hne h12 hal pok up ok;rintro ⟨⟨o,i⟩,hq⟩;dsimp only at hq ⊢;have hol : (iW o).length = o.length := iV _;have ho12 : o.length ≤ 12 := bY hq.ok.len hq.ok.ln;have hio := hq.hi;by_cases hlt : i < o.length
  · have hgi : o[i]? = some o[i] := aA hlt;have hgm := aH hlt;generalize o[i] = g at *;have hgo := hq.ok.ok g hgm;have hgw := hq.ok.ws g hgm;have hsz := hgo.sz hgw;have q1 := wG (L := o) (j := (i : Int)) (i := i) hgi rfl;have hcc := NX g hsz;cases hcr : gS g with
    | none =>
      have hk := hq.keep hgi hcr;rw [show wQ g = -1 by unfold wQ;rw [hcr]] at hcc
      (repeat' (first|refine wS ?_|refine wB ?_|refine wK ?_|refine wU ?_|(refine wC rfl ?_ ?_<;>(intro hb;(try simp only [nm] at hb);try (exfalso;omega)))|(refine rg 16 (dS rfl (qW T rfl (vV (aO rfl rfl) ?_))))|(refine rg 18 (dS rfl (vV (by exact aM T rfl rfl rfl rfl rfl (by omega) (by omega)) ?_));refine vV (by exact aX T rfl rfl (bJ rfl q1) rfl) ?_;refine vV (kC (hcc)) (aV ?_))|(refine rg 19 (mW rfl (vV (jE rfl rfl) ?_)))|(refine iA 17 rfl rfl rfl (by omega) (by omega) ?_)|refine nZ ?_));all_goals try (exfalso;omega)
      exact ⟨⟨(o,i + 1),hk⟩,by dsimp only;omega,⟨[0,1],rfl,(by repeat first|exact trivial|refine ⟨rfl,?_⟩),⟨.inr rfl,.inr (aE rfl rfl (dX _)),trivial⟩,by decide,B7 _⟩⟩
    | some k =>
      have hk := hq.next hgi hcr
      obtain ⟨f1,f2,f3,_⟩ := jA hcr;have hwg := RH hgi hcr;have hno := KJ hq.ok hgi hcr;have hsp := WB g hsz f3 f1 f2 (by omega)
      have hll : (o.set i (jK g k) ++ [mG g k]).length = o.length + 1 := by simp
      have hso := WD (o.set i (jK g k) ++ [mG g k]) hno.dist (by have := hno.len;have := hno.ln;omega) hno.hd
      have hw2 : ZI (Z3 o i k g) = ZI (o.set i (jK g k) ++ [mG g k]) := OM (dK _ _);have hl2 : (Z3 o i k g).length = o.length + 1 := by rw [Z3,(dK _ _).length_eq,hll]
      rw [show wQ g = (k : Int) by unfold wQ;rw [hcr]] at hcc
      have t1 := C2 (L := o) (j := (i : Int)) (i := i) (x := jK g k) rfl;have e1 : iW (o.set i (jK g k) ++ [mG g k]) = (iW o).set (0 + (i : Int).toNat) (gA (jK g k)) ++ [gA (mG g k)] := by rw [t1,iW,dH];rfl
      have e2 : ((iW o).set (0 + (i : Int).toNat) (gA (jK g k))).length = o.length := by rw [gH,hol]
      change aT _ _ _ _ _ [.arr (iW (Z3 o i k g)) 2] at hso;rw [hll] at hso;generalize Z3 o i k g = o' at *;generalize hN : o.set i (jK g k) ++ [mG g k] = N at *;generalize jK g k = r at *;generalize mG g k = u at *;obtain ⟨rb,rw_⟩ := r;obtain ⟨ub,uw⟩ := u
      (repeat' (first|refine wS ?_|refine wB ?_|refine wK ?_|refine wT ?_|(refine wC rfl ?_ ?_<;>(intro hb;(try simp only [nm] at hb);try (exfalso;omega)))|(refine rg 16 (dS rfl (qW T rfl (vV (aO rfl rfl) ?_))))|(refine rg 18 (dS rfl (vV (by exact aM T rfl rfl rfl rfl rfl (by omega) (by omega)) ?_));refine vV (by exact aX T rfl rfl (bJ rfl q1) rfl) ?_;refine vV (kC (hcc)) (aV ?_))|(refine rg 19 (mW rfl (vV (jE rfl rfl) ?_)))|(refine rg 20 (dS rfl (vV (by exact aM T rfl rfl rfl rfl rfl (by omega) (by omega)) ?_));refine vV (by exact aX T rfl rfl (bJ rfl q1) rfl) ?_;refine mW rfl (vV (kC (hsp)) (mW rfl (xW rfl (xW rfl (bV (bN T rfl) rfl (bV (bN T rfl) rfl (aU T rfl rfl rfl rfl rfl rfl (by decide) rfl (aU T rfl rfl rfl rfl rfl rfl (by decide) rfl ?_)))))))))|(refine rg 21 (dS rfl (vV (aX T rfl rfl rfl rfl) (vV (by exact aM T rfl rfl rfl rfl rfl (by omega) (by omega)) ?_)));refine aU T rfl rfl rfl rfl rfl rfl (by decide) (mA rfl q1 rfl) ?_)|(refine rg 22 (mW rfl (vV (aX T rfl rfl rfl rfl) (bV (by exact bE T rfl rfl (by decide) (by decide) rfl rfl rfl) rfl ?_)));refine hO T rfl rfl rfl rfl rfl rfl (by simp) (lD.whole rfl rfl) rfl (by simp;omega) (by simp;omega) rfl ?_;refine aV ?_)|refine nZ ?_));all_goals try (exfalso;omega)
      refine fA [(8,.sl 1 0 (o.length + 1) 2),(12,.i i)] [.cells (gL c gs),.arr (iW N) 2] ⟨[0,5],rfl,(by repeat first|exact trivial|refine ⟨rfl,?_⟩),⟨.inr rfl,.inr (aE rfl (by rw [e1];exact mZ e2.symm) (dX _)),trivial⟩,by decide,B7 _⟩ ?_
      (repeat' (first|(refine rg 23 (mW rfl (fQ [1] rfl rfl (hso) rfl rfl (by decide) ⟨.inr (aE rfl rfl (dX _)),trivial⟩ (by simp) rfl ?_)))|(refine rg 24 (aV ?_))|(refine iA 17 rfl rfl rfl (by omega) (by omega) ?_)|refine nZ ?_));all_goals try (exfalso;omega)
      exact ⟨⟨(o',0),hk⟩,by dsimp only;omega,⟨[0,1],rfl,⟨by dsimp only;rw [hl2];rfl,rfl,trivial⟩,⟨.inr rfl,.inr (aE rfl (cC _ (dX _)) (dX _)),trivial⟩,by decide,B7 _⟩⟩
  · have hfin := hq.fin (by omega)
    rw [hfin]
    (repeat' (first|refine wS ?_|refine wR ?_|refine wE ?_|(refine wC rfl ?_ ?_<;>(intro hb;(try simp only [nm] at hb);try (exfalso;omega)))|(refine rg 16 (dS rfl (qW T rfl (vV (aO rfl rfl) ?_))))|(refine rg 25 (mW rfl (aV ?_)))|refine nZ ?_));all_goals first | (exfalso;omega) | exact ⟨.inl rfl,[0,1],_,rfl,rfl,rfl,⟨.inr rfl,.inr (aE rfl rfl (dX _)),trivial⟩,by decide,B7 _⟩
end Go.Proofs.YtmmkhmilpeodnaaGreat
namespace Go.Ld
open Go.Ab Go.Proofs.YtmmkhmilpeodnaaGreat
structure nD (c : Cx) (M : Int) (gs : List G) : Prop where
  out : mP c.bs.length gs
  up : GW gs
  ne : ∀ g,g ∈ gs → g.2 ≠ []
  ml : ∀ g,g ∈ gs → ∀ w,w ∈ g.2 → w.2.1 ≤ M
  cov : (gs.flatMap (·.1)).Perm (nats (List.range c.bs.length))
  idn : (gs.flatMap fun g => (gV g).1).Perm (nats (List.range c.bs.length))
  wl : ∀ g,g ∈ gs → g.2.length ≤ 1000
structure mR (c : Cx) (gs : List G) : Prop where
  mid : nD c c.m gs
  cer : ∀ g,g ∈ gs → gS g = none
  asc : ∀ g,g ∈ gs → g.2.Pairwise fun a b => nK a b < 0
theorem xI (n : Nat) : (nats (List.range n)).Nodup := List.Pairwise.map (R := fun a b => a ≠ b) _ (fun a b h e => h (Int.ofNat.inj e)) ZF
theorem qU {n : Nat} {b : Int} : b ∈ nats (List.range n) ↔ 0 ≤ b ∧ b < n := by
  constructor
  · intro h;obtain ⟨i,hi,rfl⟩ := bI.1 h;have := eJ.1 hi;exact ⟨by omega,by omega⟩
  · intro h;exact bI.2 ⟨b.toNat,eJ.2 (by omega),by omega⟩
theorem nD.find {c : Cx} {M : Int} {gs : List G} (h : nD c M gs) {b : Int} (hb : 0 ≤ b ∧ b < c.bs.length) : ∃ g,g ∈ gs ∧ b ∈ g.1 := by
  have := h.cov.mem_iff.2 (qU.2 hb);obtain ⟨g,hg,hbg⟩ := gJ.1 this;exact ⟨g,hg,hbg⟩
theorem Y9 {α : Type} {A B l : List Int} {x y : List α} {d : α} (hA : A.Nodup) (hB : B.Nodup) (dj : ∀ b,b ∈ A → b ∉ B) (hl : l.Perm (A ++ B)) (hx : x.length = A.length) (hy : y.length = B.length) :
    (l.map fun k => if k ∈ A then x.getD (A.idxOf k) d else y.getD (B.idxOf k) d).Perm (x ++ y) := by
  refine (hl.map _).trans ?_;rw [dH];have e1 : A.map (fun k => if k ∈ A then x.getD (A.idxOf k) d else y.getD (B.idxOf k) d) = x := by
    refine kB (by simp [hx]) fun i h1 h2 => ?_
    rw [nQ,if_pos (aH _),hA.idxOf_getElem,aC,aA h2];rfl
  have e2 : B.map (fun k => if k ∈ A then x.getD (A.idxOf k) d else y.getD (B.idxOf k) d) = y := by
    refine kB (by simp [hy]) fun i h1 h2 => ?_
    have hb : B[i]'(by simpa using h1) ∈ B := aH _
    rw [nQ,if_neg (fun q => dj _ q hb),hB.idxOf_getElem,aC,aA h2];rfl
  rw [e1,e2]
structure sO (n : Nat) (x y : G) : Prop where
  gx : vK n x
  gy : vK n y
  nx : x.2 ≠ []
  ny : y.2 ≠ []
  dj : ∀ b,b ∈ x.1 → b ∉ y.1
  di : ∀ b,b ∈ (gV x).1 → b ∉ (gV y).1
  ln : x.1.length + y.1.length ≤ 6
theorem xK {x y : G} {w : W} (h : w ∈ (lT x y).2) : ∃ u v,u ∈ x.2 ∧ v ∈ y.2 ∧ w = yK x y u v (lT x y).1 := by
  obtain ⟨u,hu,h⟩ := gJ.1 h;obtain ⟨v,hv,h⟩ := bI.1 h;exact ⟨u,v,hu,hv,h.symm⟩
theorem lF (x y : G) : (lT x y).1.Perm (x.1 ++ y.1) := dK _ _
theorem sO.pair {n : Nat} {x y : G} (h : sO n x y) {u v : W} (hu : u ∈ x.2) (hv : v ∈ y.2) : (yK x y u v (lT x y).1).1.Perm (u.1 ++ v.1) ∧ (yK x y u v (lT x y).1).2.2.Perm (u.2.2 ++ v.2.2) :=
  ⟨Y9 h.gx.nd h.gy.nd h.dj (lF x y) (h.gx.ws u hu).pl (h.gy.ws v hv).pl,Y9 h.gx.nd h.gy.nd h.dj (lF x y) (h.gx.ws u hu).cl (h.gy.ws v hv).cl⟩
theorem sO.same {n : Nat} {x y : G} (h : sO n x y) {w : W} (hw : w ∈ (lT x y).2) : w.1.Perm ((gV x).1 ++ (gV y).1) := by
  obtain ⟨u,v,hu,hv,rfl⟩ := xK hw;exact (h.pair hu hv).1.trans ((h.gx.same _ _ hu (iL h.nx)).append (h.gy.same _ _ hv (iL h.ny)))
theorem sO.ok {n : Nat} {x y : G} (h : sO n x y) {M : Int} (h1 : ∀ w, w ∈ x.2 → w.2.1 ≤ M) (h2 : ∀ w, w ∈ y.2 → w.2.1 ≤ M) (hM : M ≤ 2000000) : vK n (lT x y) where
  ne e := by
    have := (lF x y).length_eq;rw [e] at this;have := eY.2 h.gx.ne;simp at *;omega
  up := by
    have h1 := kJ oV (x.1 ++ y.1);have hnd : (lT x y).1.Nodup := (lF x y).nodup_iff.2 (cF.2 ⟨h.gx.nd,h.gy.nd,fun a ha b hb e => h.dj a ha (e ▸ hb)⟩);refine (h1.and hnd).imp fun {a b} h => ?_
    have := h.1;have := h.2;unfold cI at *;by_cases e : a < b
    · exact e
    · rw [if_neg e] at *;by_cases e' : b < a
      · rw [if_pos e'] at *;omega
      · omega
  rg b hb := by
    rcases bB.1 ((lF x y).mem_iff.1 hb) with hb | hb
    · exact h.gx.rg b hb
    · exact h.gy.rg b hb
  ln := by rw [(lF x y).length_eq,aF];exact h.ln
  ws w hw := by
    have hs := h.same hw;obtain ⟨u,v,hu,hv,rfl⟩ := xK hw;obtain ⟨p1,p2⟩ := h.pair hu hv;have ou := h.gx.ws u hu;have ov := h.gy.ws v hv;refine ⟨bC _,bC _,fun b hb => ?_,hs.nodup_iff.2 (cF.2 ⟨(h.gx.ws _ (iL h.nx)).nd,(h.gy.ws _ (iL h.ny)).nd,fun a ha b hb e => h.di a ha (e ▸ hb)⟩),?_,?_,fun r hr => ?_⟩
    · rcases bB.1 (p1.mem_iff.1 hb) with hb | hb
      · exact ou.pr b hb
      · exact ov.pr b hb
    · have := ou.m0;have := ov.m0;show 0 ≤ u.2.1 + v.2.1;omega
    · have := h1 u hu;have := h2 v hv;show u.2.1 + v.2.1 ≤ 4000000;omega
    · rcases bB.1 (p2.mem_iff.1 hr) with hr | hr
      · exact ou.sp r hr
      · exact ov.sp r hr
  same w v hw hv := (h.same hw).trans (h.same hv).symm
theorem RT {x y : G} (hx : x.2 ≠ []) (hy : y.2 ≠ []) : (lT x y).2 ≠ [] := by
  show oA x y _ ≠ [];unfold oA;cases hu : x.2 with
  | nil => exact absurd hu hx
  | cons u l =>
    cases hv : y.2 with
    | nil => exact absurd hv hy
    | cons v m => simp
theorem NC (x y : G) : (lT x y).2.length = x.2.length * y.2.length := by
  show (oA x y _).length = _;unfold oA;generalize dR cI (x.1 ++ y.1) = l
  induction x.2 with
  | nil => simp
  | cons u m ih => rw [bF,aF,ih,bC,List.length_cons,Nat.succ_mul,pY]
theorem oH {α : Type} {l : List α} {i k : Nat} {u v : α} (J : α) (hik : i < k) (hi : l[i]? = some u) (hk : l[k]? = some v) : ∃ P Q R,l = P ++ u :: (Q ++ v :: R) ∧ (l.set i J).eraseIdx k = P ++ J :: (Q ++ R) := by
  obtain ⟨hl,e2⟩ := aB.1 hk;have hil : i < l.length := by omega
  have e1 : l[i] = u := (aB.1 hi).2;have d1 : l.drop i = u :: l.drop (i + 1) := by rw [aS hil,e1]
  have d2 : l.drop k = v :: l.drop (k + 1) := by rw [aS hl,e2]
  have d3 : l.drop (i + 1) = (l.drop (i + 1)).take (k - (i + 1)) ++ v :: l.drop (k + 1) := by
    have : l.drop (i + 1) = (l.drop (i + 1)).take (k - (i + 1)) ++ (l.drop (i + 1)).drop (k - (i + 1)) := (bK _ _).symm;rw [HF,show i + 1 + (k - (i + 1)) = k by omega,d2] at this
    exact this
  have e : l = l.take i ++ u :: ((l.drop (i + 1)).take (k - (i + 1)) ++ v :: l.drop (k + 1)) := by
    rw [← d3,← d1,bK]
  refine ⟨_,_,_,e,?_⟩;have ht : (l.take i).length = i := by rw [bD];omega
  have hq : ((l.drop (i + 1)).take (k - (i + 1))).length = k - (i + 1) := by rw [bD,dJ];omega
  generalize l.take i = P at *;generalize (l.drop (i + 1)).take (k - (i + 1)) = Q at *;generalize l.drop (k + 1) = R at *;clear d1 d2 d3;subst e;rw [jY _ _ (by omega),show i - P.length = 0 by omega,List.set_cons_zero,List.eraseIdx_append_of_length_le (by omega),show k - P.length = (k - (i + 1)) + 1 by omega,List.eraseIdx_cons_succ,List.eraseIdx_append_of_length_le (by omega),hq,eQ,List.eraseIdx_cons_zero]
theorem ZA (l : List Int) (n : Int) : ZB l n = CX l n := by
  by_cases h : ∀ i,i < l.length → L0 l n i
  · rw [U2 h];unfold ZB;exact bA.2 fun i hi => decide_eq_true (h i (eJ.1 hi))
  · obtain ⟨i,hi⟩ := Classical.not_forall.1 h;obtain ⟨hi,ho⟩ := Classical.not_forall.1 hi;rw [CW hi ho];unfold ZB;unfold L0 at ho;exact K6.2 ⟨i,eJ.2 hi,fun q => ho (of_decide_eq_true q)⟩
theorem YQ {p q : Prop} [Decidable p] [Decidable q] : decide (p ∧ q) = (decide p && decide q) := by simp
theorem pI (n k a b m : Int) (ids : List Int) : jV n ⟨k,a,b,m,ids⟩ = (iF a 0 (n - 1) && decide (k = 0 ∨ ids.length = 0) && decide (k = 4 ∨ b = 0) && (if k = 0 then decide (m = 0) && CX ids n else if k = 1 ∨ k = 2 ∨ k = 3 then iF m 0 1099511627776 else if k = 4 then decide (m = 0) && iF b (a + 1) (n - 1) else if k = 5 then iF m 0 (n - 1) else false)) := by
  unfold jV iF;simp only [YQ,ZA]
end Go.Ld
namespace Go.Proofs.YtmmkhmilpeodnaaGreat
open Go Go.Ab Go.Ld
attribute [local irreducible] VC AW bX aT
set_option maxHeartbeats 4000000
theorem PW (n k a b m : Int) (ids : List Int) (hl : ids.length ≤ 9223372036854775807) (hn : 0 ≤ n ∧ n ≤ 1000) :
    aT Tryz.prog 28 [.i n,PN k a b m ids] [] (.b (jV n ⟨k,a,b,m,ids⟩)) [] := by
  have hil : (ints ids).length = ids.length := by simp
  have ca := qL a 0 (n - 1);have cs := AO ids n hl hn;cases hA : iF a 0 (n - 1)
  · rw [hA] at ca;have e : jV n ⟨k,a,b,m,ids⟩ = (false) := by rw [pI];first | (rw [hA];rfl) | (rw [hAb];rcases h1 with h | h;(rw [decide_eq_false (by omega : ¬ (k = 0 ∨ ids.length = 0))];simp);(rw [decide_eq_false (by omega : ¬ (k = 4 ∨ b = 0))];simp)) | (rw [hAb,decide_eq_true hid,decide_eq_true hbz];simp only [iG];first | rw [if_pos k0] | rw [if_neg k0,if_pos k1] | rw [if_neg k0,if_neg k1,if_pos k4] | rw [if_neg k0,if_neg k1,if_neg k4,if_pos k5] | rw [if_neg k0,if_neg k1,if_neg k4,if_neg k5])
    rw [e];refine bT T Tryz.func28 rfl rfl rfl rfl ?_
    (repeat' (first|refine wS ?_|refine wR ?_|refine wT ?_|(refine rg 0 (bV (cO rfl rfl) rfl (aV ?_)))|(refine rg 1 (iP T rfl (mW rfl (vV (cQ rfl rfl (by omega) (by omega)) (vV (kC (ca)) (vV (eD rfl) (mV ?_))))));(iterate 4 refine gF ?_);(iterate 4 refine gU ?_);refine gF (pW rfl (mV ?_));(iterate 4 refine gF ?_);(iterate 3 refine gU ?_);refine gF (pV ?_))|(refine rg 2 (aV ?_))|refine nZ ?_));exact rQ
  · rw [hA] at ca;have hAb := hA;simp only [iF,aJ,decide_eq_true_eq] at hA;by_cases h1 : k ≠ 0 ∧ 0 < ids.length ∨ k ≠ 4 ∧ b ≠ 0
    · have e : jV n ⟨k,a,b,m,ids⟩ = (false) := by rw [pI];first | (rw [hA];rfl) | (rw [hAb];rcases h1 with h | h;(rw [decide_eq_false (by omega : ¬ (k = 0 ∨ ids.length = 0))];simp);(rw [decide_eq_false (by omega : ¬ (k = 4 ∨ b = 0))];simp)) | (rw [hAb,decide_eq_true hid,decide_eq_true hbz];simp only [iG];first | rw [if_pos k0] | rw [if_neg k0,if_pos k1] | rw [if_neg k0,if_neg k1,if_pos k4] | rw [if_neg k0,if_neg k1,if_neg k4,if_pos k5] | rw [if_neg k0,if_neg k1,if_neg k4,if_neg k5])
      rw [e];refine bT T Tryz.func28 rfl rfl rfl rfl ?_
      (repeat' (first|refine wS ?_|refine wR ?_|refine wT ?_|(refine wC rfl ?_ ?_<;>(intro hb;(try simp only [nm] at hb);try (exfalso;omega)))|(refine rg 0 (bV (cO rfl rfl) rfl (aV ?_)))|(refine rg 1 (iP T rfl (mW rfl (vV (cQ rfl rfl (by omega) (by omega)) (vV (kC (ca)) (vV (eD rfl) (mW rfl (yP T rfl (yO T rfl (yV (fI rfl rfl) ?_)))))))));refine yM ?_;refine cE rfl rfl ?_ ?_<;>(intro hb;rw [hb];(try simp only [nm] at hb);try (exfalso;omega));(all_goals first|(refine gT (fW T rfl (gT (lW T rfl (gT (qW T rfl (gT (vV (fP rfl rfl) ?_))))))))|(iterate 4 refine gF ?_));(all_goals (refine gT (pW rfl (pW rfl (mV ?_)))));(all_goals first|(refine gK ?_)|(refine cE rfl rfl ?_ ?_<;>(intro hb;rw [hb];(try simp only [nm] at hb);try (exfalso;omega))));(all_goals first|(refine gT (fW T rfl (gT (lW T rfl (gT (vV (fI rfl rfl) (gT (mV ?_))))))))|(iterate 4 refine gF ?_));(all_goals first|(refine gK ?_)|(refine cE rfl rfl ?_ ?_<;>(intro hb;rw [hb];(try simp only [nm] at hb);try (exfalso;omega))));(all_goals first|(refine gT (fW T rfl (gT (lW T rfl (gT (vV (fI rfl rfl) ?_))))))|(iterate 3 refine gU ?_));(all_goals first|(refine gT (pV ?_))|(refine gF ?_));(all_goals (refine pV ?_)))|(refine rg 2 (aV ?_))|refine nZ ?_));all_goals exact rQ
    · have hid : k = 0 ∨ ids.length = 0 := by omega
      have hbz : k = 4 ∨ b = 0 := by omega
      by_cases k0 : k = 0
      · have e : jV n ⟨k,a,b,m,ids⟩ = (decide (m = 0) && CX ids n) := by rw [pI];first | (rw [hA];rfl) | (rw [hAb];rcases h1 with h | h;(rw [decide_eq_false (by omega : ¬ (k = 0 ∨ ids.length = 0))];simp);(rw [decide_eq_false (by omega : ¬ (k = 4 ∨ b = 0))];simp)) | (rw [hAb,decide_eq_true hid,decide_eq_true hbz];simp only [iG];first | rw [if_pos k0] | rw [if_neg k0,if_pos k1] | rw [if_neg k0,if_neg k1,if_pos k4] | rw [if_neg k0,if_neg k1,if_neg k4,if_pos k5] | rw [if_neg k0,if_neg k1,if_neg k4,if_neg k5])
        rw [e];refine bT T Tryz.func28 rfl rfl rfl rfl ?_
        (repeat' (first|refine wS ?_|refine wB ?_|refine wK ?_|refine wR ?_|(refine wC rfl ?_ ?_<;>(intro hb;(try simp only [nm] at hb);try (exfalso;omega)))|(refine rg 0 (bV (cO rfl rfl) rfl (aV ?_)))|(refine rg 1 (iP T rfl (mW rfl (vV (cQ rfl rfl (by omega) (by omega)) (vV (kC (ca)) (vV (eD rfl) (mW rfl (yP T rfl (yO T rfl (yV (fI rfl rfl) ?_)))))))));refine yM ?_;refine cE rfl rfl ?_ ?_<;>(intro hb;rw [hb];(try simp only [nm] at hb);try (exfalso;omega));(all_goals ((iterate 4 refine gF ?_);refine gT (pW rfl (pW rfl (mW rfl (yP T rfl (yO T rfl (yV (fI rfl rfl) (yM ?_)))))));refine cE rfl rfl ?_ ?_<;>(intro hb;rw [hb];(try simp only [nm] at hb);try (exfalso;omega))));(all_goals (refine yP T rfl (yO T rfl (yV (fI rfl rfl) (gT (pW rfl (pV ?_))))))))|(refine rg 3 (SM T ?_))|(refine rg 4 (vV (eP rfl rfl) (aV ?_)))|(refine rg 5 (iP T rfl (vV (eP rfl rfl) (mV ?_)));refine cE rfl rfl ?_ ?_<;>(intro hb;rw [hb];(try simp only [nm] at hb);try (exfalso;omega));(all_goals first|(refine gT (fW T rfl (gT (lW T rfl (gT (mW rfl (gT (vV (kC (cs)) ?_))))))))|(iterate 4 refine gF ?_));(all_goals (refine pW rfl (aV ?_))))|refine nZ ?_));all_goals first | (exfalso;omega) | (refine cY (.inl rfl) rfl (mD ?_);simp [*])
      · by_cases k1 : k = 1 ∨ k = 2 ∨ k = 3
        · have e : jV n ⟨k,a,b,m,ids⟩ = (iF m 0 1099511627776) := by rw [pI];first | (rw [hA];rfl) | (rw [hAb];rcases h1 with h | h;(rw [decide_eq_false (by omega : ¬ (k = 0 ∨ ids.length = 0))];simp);(rw [decide_eq_false (by omega : ¬ (k = 4 ∨ b = 0))];simp)) | (rw [hAb,decide_eq_true hid,decide_eq_true hbz];simp only [iG];first | rw [if_pos k0] | rw [if_neg k0,if_pos k1] | rw [if_neg k0,if_neg k1,if_pos k4] | rw [if_neg k0,if_neg k1,if_neg k4,if_pos k5] | rw [if_neg k0,if_neg k1,if_neg k4,if_neg k5])
          rw [e];refine bT T Tryz.func28 rfl rfl rfl rfl ?_
          (repeat' (first|refine wS ?_|refine wB ?_|refine wK ?_|refine wR ?_|(refine wC rfl ?_ ?_<;>(intro hb;(try simp only [nm] at hb);try (exfalso;omega)))|(refine rg 0 (bV (cO rfl rfl) rfl (aV ?_)))|(refine rg 1 (iP T rfl (mW rfl (vV (cQ rfl rfl (by omega) (by omega)) (vV (kC (ca)) (vV (eD rfl) (mW rfl (yP T rfl (yO T rfl (yV (fI rfl rfl) ?_)))))))));refine yM ?_;refine cE rfl rfl ?_ ?_<;>(intro hb;rw [hb];(try simp only [nm] at hb);try (exfalso;omega));(all_goals (refine yP T rfl (yO T rfl (gT (qW T rfl (yV (fP rfl rfl) (gT (pW rfl (pW rfl (mV ?_))))))));refine cE rfl rfl ?_ ?_<;>(intro hb;rw [hb];(try simp only [nm] at hb);try (exfalso;omega))));(all_goals (refine yP T rfl (yO T rfl (yV (fI rfl rfl) (yM ?_)));refine cE rfl rfl ?_ ?_<;>(intro hb;rw [hb];(try simp only [nm] at hb);try (exfalso;omega))));(all_goals (refine yP T rfl (yO T rfl (yV (fI rfl rfl) (gT (pW rfl (pV ?_))))))))|(refine rg 3 (SM T ?_))|(refine rg 4 (vV (eP rfl rfl) (aV ?_)))|(refine rg 6 (vV (eP rfl rfl) (aV ?_)))|(refine rg 7 (vV (eP rfl rfl) (aV ?_)))|(refine rg 8 (vV (eP rfl rfl) (aV ?_)))|(refine rg 9 (iP T rfl (vV (by exact eV rfl rfl (qL _ _ _) rfl rfl rfl) ?_));refine aV ?_)|refine nZ ?_));all_goals first | (exfalso;omega) | exact rQ
        · by_cases k4 : k = 4
          · have e : jV n ⟨k,a,b,m,ids⟩ = (decide (m = 0) && iF b (a + 1) (n - 1)) := by rw [pI];first | (rw [hA];rfl) | (rw [hAb];rcases h1 with h | h;(rw [decide_eq_false (by omega : ¬ (k = 0 ∨ ids.length = 0))];simp);(rw [decide_eq_false (by omega : ¬ (k = 4 ∨ b = 0))];simp)) | (rw [hAb,decide_eq_true hid,decide_eq_true hbz];simp only [iG];first | rw [if_pos k0] | rw [if_neg k0,if_pos k1] | rw [if_neg k0,if_neg k1,if_pos k4] | rw [if_neg k0,if_neg k1,if_neg k4,if_pos k5] | rw [if_neg k0,if_neg k1,if_neg k4,if_neg k5])
            rw [e];refine bT T Tryz.func28 rfl rfl rfl rfl ?_
            (repeat' (first|refine wS ?_|refine wB ?_|refine wK ?_|refine wR ?_|refine wU ?_|(refine wC rfl ?_ ?_<;>(intro hb;(try simp only [nm] at hb);try (exfalso;omega)))|(refine rg 0 (bV (cO rfl rfl) rfl (aV ?_)))|(refine rg 1 (iP T rfl (mW rfl (vV (cQ rfl rfl (by omega) (by omega)) (vV (kC (ca)) (vV (eD rfl) (mW rfl (yP T rfl (yO T rfl (yV (fI rfl rfl) ?_)))))))));refine yM ?_;refine cE rfl rfl ?_ ?_<;>(intro hb;rw [hb];(try simp only [nm] at hb);try (exfalso;omega));(all_goals (refine yP T rfl (yO T rfl (gT (qW T rfl (yV (fP rfl rfl) (gT (pW rfl (pW rfl (mV ?_))))))));refine cE rfl rfl ?_ ?_<;>(intro hb;rw [hb];(try simp only [nm] at hb);try (exfalso;omega))));(all_goals (refine yP T rfl (yO T rfl (yV (fI rfl rfl) (yM ?_)));refine cE rfl rfl ?_ ?_<;>(intro hb;rw [hb];(try simp only [nm] at hb);try (exfalso;omega))));(all_goals ((iterate 3 refine gF ?_);refine gT (pW rfl (pV ?_)))))|(refine rg 3 (SM T ?_))|(refine rg 4 (vV (eP rfl rfl) (aV ?_)))|(refine rg 6 (vV (eP rfl rfl) (aV ?_)))|(refine rg 7 (vV (eP rfl rfl) (aV ?_)))|(refine rg 8 (vV (eP rfl rfl) (aV ?_)))|(refine rg 10 (vV (eP rfl rfl) (aV ?_)))|(refine rg 11 (iP T rfl (vV (eP rfl rfl) (mV ?_)));refine cE rfl rfl ?_ ?_<;>(intro hb;rw [hb];(try simp only [nm] at hb);try (exfalso;omega));(all_goals first|(refine gT (fW T rfl (gT (lW T rfl (gT (fW T rfl (gT (lW T rfl (gT (vV (bU rfl rfl (by omega) (by omega)) ?_)))))))));refine gT (mW rfl (gT (vV (cQ rfl rfl (by omega) (by omega)) (gT (vV (by exact eV rfl rfl (qL _ _ _) rfl rfl rfl) ?_))))))|(iterate 8 refine gF ?_));(all_goals (refine pW rfl (aV ?_))))|refine nZ ?_));all_goals first | (exfalso;omega) | (refine cY (.inl rfl) rfl (mD ?_);simp [*])
          · by_cases k5 : k = 5
            · have e : jV n ⟨k,a,b,m,ids⟩ = (iF m 0 (n - 1)) := by rw [pI];first | (rw [hA];rfl) | (rw [hAb];rcases h1 with h | h;(rw [decide_eq_false (by omega : ¬ (k = 0 ∨ ids.length = 0))];simp);(rw [decide_eq_false (by omega : ¬ (k = 4 ∨ b = 0))];simp)) | (rw [hAb,decide_eq_true hid,decide_eq_true hbz];simp only [iG];first | rw [if_pos k0] | rw [if_neg k0,if_pos k1] | rw [if_neg k0,if_neg k1,if_pos k4] | rw [if_neg k0,if_neg k1,if_neg k4,if_pos k5] | rw [if_neg k0,if_neg k1,if_neg k4,if_neg k5])
              rw [e];refine bT T Tryz.func28 rfl rfl rfl rfl ?_
              (repeat' (first|refine wS ?_|refine wB ?_|refine wK ?_|refine wR ?_|(refine wC rfl ?_ ?_<;>(intro hb;(try simp only [nm] at hb);try (exfalso;omega)))|(refine rg 0 (bV (cO rfl rfl) rfl (aV ?_)))|(refine rg 1 (iP T rfl (mW rfl (vV (cQ rfl rfl (by omega) (by omega)) (vV (kC (ca)) (vV (eD rfl) (mW rfl (yP T rfl (yO T rfl (yV (fI rfl rfl) ?_)))))))));refine yM ?_;refine cE rfl rfl ?_ ?_<;>(intro hb;rw [hb];(try simp only [nm] at hb);try (exfalso;omega));(all_goals (refine yP T rfl (yO T rfl (gT (qW T rfl (yV (fP rfl rfl) (gT (pW rfl (pW rfl (mV ?_))))))));refine cE rfl rfl ?_ ?_<;>(intro hb;rw [hb];(try simp only [nm] at hb);try (exfalso;omega))));(all_goals (refine yP T rfl (yO T rfl (yV (fI rfl rfl) (yM ?_)));refine cE rfl rfl ?_ ?_<;>(intro hb;rw [hb];(try simp only [nm] at hb);try (exfalso;omega))));(all_goals (refine yP T rfl (yO T rfl (yV (fI rfl rfl) (gT (pW rfl (pV ?_))))))))|(refine rg 3 (SM T ?_))|(refine rg 4 (vV (eP rfl rfl) (aV ?_)))|(refine rg 6 (vV (eP rfl rfl) (aV ?_)))|(refine rg 7 (vV (eP rfl rfl) (aV ?_)))|(refine rg 8 (vV (eP rfl rfl) (aV ?_)))|(refine rg 10 (vV (eP rfl rfl) (aV ?_)))|(refine rg 12 (vV (eP rfl rfl) (aV ?_)))|(refine rg 13 (iP T rfl (mW rfl (vV (cQ rfl rfl (by omega) (by omega)) (vV (by exact eV rfl rfl (qL _ _ _) rfl rfl rfl) ?_))));refine aV ?_)|refine nZ ?_));all_goals first | (exfalso;omega) | exact rQ
            · have e : jV n ⟨k,a,b,m,ids⟩ = (false) := by rw [pI];first | (rw [hA];rfl) | (rw [hAb];rcases h1 with h | h;(rw [decide_eq_false (by omega : ¬ (k = 0 ∨ ids.length = 0))];simp);(rw [decide_eq_false (by omega : ¬ (k = 4 ∨ b = 0))];simp)) | (rw [hAb,decide_eq_true hid,decide_eq_true hbz];simp only [iG];first | rw [if_pos k0] | rw [if_neg k0,if_pos k1] | rw [if_neg k0,if_neg k1,if_pos k4] | rw [if_neg k0,if_neg k1,if_neg k4,if_pos k5] | rw [if_neg k0,if_neg k1,if_neg k4,if_neg k5])
              rw [e];refine bT T Tryz.func28 rfl rfl rfl rfl ?_
              (repeat' (first|refine wS ?_|refine wB ?_|refine wK ?_|refine wR ?_|(refine wC rfl ?_ ?_<;>(intro hb;(try simp only [nm] at hb);try (exfalso;omega)))|(refine rg 0 (bV (cO rfl rfl) rfl (aV ?_)))|(refine rg 1 (iP T rfl (mW rfl (vV (cQ rfl rfl (by omega) (by omega)) (vV (kC (ca)) (vV (eD rfl) (mW rfl (yP T rfl (yO T rfl (yV (fI rfl rfl) ?_)))))))));refine yM ?_;refine cE rfl rfl ?_ ?_<;>(intro hb;rw [hb];(try simp only [nm] at hb);try (exfalso;omega));(all_goals (refine yP T rfl (yO T rfl (gT (qW T rfl (yV (fP rfl rfl) (gT (pW rfl (pW rfl (mV ?_))))))));refine cE rfl rfl ?_ ?_<;>(intro hb;rw [hb];(try simp only [nm] at hb);try (exfalso;omega))));(all_goals (refine yP T rfl (yO T rfl (yV (fI rfl rfl) (yM ?_)));refine cE rfl rfl ?_ ?_<;>(intro hb;rw [hb];(try simp only [nm] at hb);try (exfalso;omega))));(all_goals (refine yP T rfl (yO T rfl (yV (fI rfl rfl) (gT (pW rfl (pV ?_))))))))|(refine rg 3 (SM T ?_))|(refine rg 4 (vV (eP rfl rfl) (aV ?_)))|(refine rg 6 (vV (eP rfl rfl) (aV ?_)))|(refine rg 7 (vV (eP rfl rfl) (aV ?_)))|(refine rg 8 (vV (eP rfl rfl) (aV ?_)))|(refine rg 10 (vV (eP rfl rfl) (aV ?_)))|(refine rg 12 (vV (eP rfl rfl) (aV ?_)))|(refine rg 14 (aV ?_))|refine nZ ?_));all_goals first | (exfalso;omega) | exact rQ
end Go.Proofs.YtmmkhmilpeodnaaGreat
namespace Go.Ld
open Go.Ab Go.Proofs.YtmmkhmilpeodnaaGreat
theorem BV {l : List Int} (h : l ≠ []) : l.headD 0 ∈ l := by
  cases l with
  | nil => exact absurd rfl h
  | cons x l => exact aR
theorem SF {l : List Int} (h : l.Pairwise (· < ·)) {z : Int} (hz : z ∈ l) : l.headD 0 ≤ z := by
  cases l with
  | nil => cases hz
  | cons x l =>
    rcases bL.1 hz with rfl | hz
    · exact fC _
    · have := (eK.1 h).1 z hz;show x ≤ z;omega
theorem ZS {a b : Int} : cI a b ≤ 0 ↔ a ≤ b := by unfold cI;split <;> (try split) <;> omega
theorem zZ {l : List G} : GW l ↔ (l.map fun g => g.1.headD 0).Pairwise (fun a b => a ≤ b) := by
  rw [UZ];exact ⟨fun h => h.imp fun {a b} h => ZS.1 h,fun h => h.imp fun {a b} h => ZS.2 h⟩
theorem JP {c : Cx} {M : Int} {gs P Q R : List G} {u v J : G} (h : nD c M gs) (e : gs = P ++ u :: (Q ++ v :: R)) (hM : 0 ≤ M) {M' : Int} (hMM : M ≤ M')
    (hp : J.1.Perm (u.1 ++ v.1)) (hJ : vK c.bs.length J) (hne : J.2 ≠ []) (hf : (gV J).1.Perm ((gV u).1 ++ (gV v).1)) (hm : ∀ w,w ∈ J.2 → w.2.1 ≤ M') (hl : J.2.length ≤ 1000) : nD c M' (P ++ J :: (Q ++ R)) := by
  have hmem : ∀ g,g ∈ P ++ J :: (Q ++ R) → g = J ∨ g ∈ gs := fun g hg => by
    subst e;simp only [bB,bL] at hg ⊢;rcases hg with hg | hg | hg | hg
    · exact .inr (.inl hg)
    · exact .inl hg
    · exact .inr (.inr (.inr (.inl hg)))
    · exact .inr (.inr (.inr (.inr (.inr hg))))
  have fl : ∀ F : G → List Int,(F J).Perm (F u ++ F v) → ((P ++ J :: (Q ++ R)).flatMap F).Perm (gs.flatMap F) := fun F hF => by
    subst e;simp only [fK,bF,bH];refine List.Perm.append_left _ ?_;refine (hF.append_right _).trans ?_;rw [bH];refine List.Perm.append_left _ ?_;rw [← bH,← bH];exact List.perm_append_comm.append_right _
  have cov := (fl (·.1) hp).trans h.cov;have hlen : (gs.flatMap (·.1)).length = ((P ++ J :: (Q ++ R)).flatMap (·.1)).length := (fl (·.1) hp).length_eq.symm;refine ⟨⟨fun g hg => ?_,(fl (·.1) hp).nodup_iff.2 h.out.nd,by rw [← hlen];exact h.out.ln,fun g hg => ?_⟩,?_,fun g hg => ?_,fun g hg => ?_,cov,(fl _ hf).trans h.idn,fun g hg => ?_⟩
  · rcases hmem g hg with rfl | hg
    · exact hJ
    · exact h.out.ok g hg
  · rcases hmem g hg with rfl | hg
    · omega
    · exact h.out.ws g hg
  · have hu : u ∈ gs := by subst e;simp
    have hv : v ∈ gs := by subst e;simp
    have hup := zZ.1 h.up;have ou := h.out.ok u hu;have ov := h.out.ok v hv;have huv : u.1.headD 0 ≤ v.1.headD 0 := by
      subst e;simp only [dH,List.map_cons] at hup;exact (eK.1 (eN.1 hup).2.1).1 _ (by simp)
    have hh : J.1.headD 0 = u.1.headD 0 := by
      have h1 : J.1.headD 0 ≤ u.1.headD 0 := SF hJ.up (hp.mem_iff.2 (bB.2 (.inl (BV ou.ne))));have h2 : u.1.headD 0 ≤ J.1.headD 0 := by
        rcases bB.1 (hp.mem_iff.1 (BV hJ.ne)) with hq | hq
        · exact SF ou.up hq
        · have := SF ov.up hq;omega
      omega
    refine zZ.2 (hup.sublist ?_);subst e;simp only [dH,List.map_cons,hh];refine List.Sublist.append_left (List.Sublist.cons_cons _ (List.Sublist.append_left (List.sublist_cons_self _ _) _)) _
  · rcases hmem g hg with rfl | hg
    · exact hne
    · exact h.ne g hg
  · rcases hmem g hg with rfl | hg
    · exact hm
    · exact fun w hw => W8 (h.ml g hg w hw) hMM
  · rcases hmem g hg with rfl | hg
    · exact hl
    · exact h.wl g hg
theorem RS {c : Cx} {gs all : List G} {a b : Int} (h : nD c c.m gs) (hm0 : 0 ≤ c.m) (hm1 : c.m ≤ 1048576) (ha : 0 ≤ a ∧ a < c.bs.length) (hb : 0 ≤ b ∧ b < c.bs.length) (e : join gs a b = some all) :
    nD c (2 * c.m) all ∧ ∃ g,g ∈ all ∧ a ∈ g.1 ∧ b ∈ g.1 := by
  obtain ⟨i,x,hi,hix,hax⟩ := jM (h.find ha);obtain ⟨k,y,hk,hky,hby⟩ := jM (h.find hb);have hx := aL hix;have hy := aL hky;unfold join at e;dsimp only at e;rw [hi,hk] at e;split at e
  · rename_i hik;obtain rfl : i = k := by omega
    cases e;have : x = y := by rw [hix] at hky;exact Option.some.inj hky
    subst this;exact ⟨⟨h.out,h.up,h.ne,fun g hg w hw => by have := h.ml g hg w hw;omega,h.cov,h.idn,h.wl⟩,x,hx,hax,hby⟩
  · rename_i hik;have hxy : x ≠ y := fun q => by
      subst q;have h1 := (aB.1 hix).2;have h2 := (aB.1 hky).2;have l1 := (aB.1 hix).1;have l2 := (aB.1 hky).1;have nd : (gs.map fun g => g.1.headD 0).Nodup := by
        have := h.out.nd;have aux : ∀ o : List G,(∀ g,g ∈ o → g.1 ≠ []) → (o.flatMap (·.1)).Nodup → (o.map fun g => g.1.headD 0).Nodup := by
          intro o
          induction o with
          | nil => intro _ _;exact cX
          | cons g o ih =>
            intro hg hn;rw [bF] at hn;obtain ⟨n1,n2,n3⟩ := cF.1 hn;rw [List.map_cons,eX];refine ⟨fun hc => ?_,ih (fun g h => hg g (aN _ h)) n2⟩;obtain ⟨g',hg',e'⟩ := bI.1 hc;exact n3 _ (BV (hg g aR)) _ (nN hg' (e' ▸ BV (hg g' (aN _ hg')))) rfl
        exact aux gs (fun g hg => (h.out.ok g hg).ne) this
      have e1 : (gs.map fun g => g.1.headD 0)[i]'(by simpa using l1) = (gs.map fun g => g.1.headD 0)[k]'(by simpa using l2) := by rw [nQ,nQ,h1,h2]
      have := (ZG nd).1 e1;omega
    have gi : kO gs ((i : Int)).toNat = x := by unfold kO;rw [aC];show (gs[i]?).getD _ = x;rw [hix];rfl
    have gk : kO gs ((k : Int)).toNat = y := by unfold kO;rw [aC];show (gs[k]?).getD _ = y;rw [hky];rfl
    rw [gi,gk] at e;split at e
    · cases e
    · rename_i hsz;have hln : x.1.length + y.1.length ≤ 6 := by omega
      have hwl : x.2.length * y.2.length ≤ 1000 := by omega
      cases e;have dj : ∀ (u v : G),u ∈ gs → v ∈ gs → u ≠ v → ∀ b,b ∈ u.1 → b ∉ v.1 := fun u v hu hv huv b h1 h2 => huv (M5 h.out.nd hu hv h1 h2);have ndi : (gs.flatMap fun g => (gV g).1).Nodup := h.idn.nodup_iff.2 (xI _);have ndi' : ((gs.map fun g => ((gV g).1,g.2)).flatMap (·.1)).Nodup := by rw [V3];exact ndi
      have jo : sO c.bs.length x y := by
        refine ⟨h.out.ok x hx,h.out.ok y hy,h.ne x hx,h.ne y hy,dj x y hx hy hxy,fun b h1 h2 => ?_,hln⟩
        have l1 := (aB.1 hix).1;have l2 := (aB.1 hky).1;rcases jZ (show i ≠ k by omega) with hlt | hlt
        · obtain ⟨P,Q,R,e1,-⟩ := oH x hlt hix hky;rw [e1] at ndi;simp only [fK,bF] at ndi;exact (cF.1 (cF.1 ndi).2.1).2.2 b h1 b (by simp [h2]) rfl
        · obtain ⟨P,Q,R,e1,-⟩ := oH y hlt hky hix;rw [e1] at ndi;simp only [fK,bF] at ndi;exact (cF.1 (cF.1 ndi).2.1).2.2 b h2 b (by simp [h1]) rfl
      have hJ := jo.ok (h.ml x hx) (h.ml y hy) (by omega)
      have hJn := RT (h.ne x hx) (h.ne y hy);have hJf := jo.same (iL hJn);have hJm : ∀ w,w ∈ (lT x y).2 → w.2.1 ≤ 2 * c.m := fun w hw => by
        obtain ⟨u,v,hu,hv,rfl⟩ := xK hw;have := h.ml x hx u hu;have := h.ml y hy v hv;show u.2.1 + v.2.1 ≤ _;omega
      have hJp := lF x y;have hJl : (lT x y).2.length ≤ 1000 := by rw [NC];exact hwl
      have hJa : a ∈ (lT x y).1 := hJp.mem_iff.2 (bB.2 (.inl hax));have hJb : b ∈ (lT x y).1 := hJp.mem_iff.2 (bB.2 (.inr hby));generalize lT x y = J at *;rcases jZ (show i ≠ k by omega) with hlt | hlt
      · obtain ⟨P,Q,R,e1,e2⟩ := oH J hlt hix hky;rw [show (min (i : Int) (k : Int)).toNat = i by omega,show (max (i : Int) (k : Int)).toNat = k by omega,e2]
        exact ⟨JP h e1 hm0 (by omega) hJp hJ hJn hJf hJm hJl,J,by simp,hJa,hJb⟩
      · obtain ⟨P,Q,R,e1,e2⟩ := oH J hlt hky hix;rw [show (min (i : Int) (k : Int)).toNat = k by omega,show (max (i : Int) (k : Int)).toNat = i by omega,e2]
        exact ⟨JP h e1 hm0 (by omega) (hJp.trans vE) hJ hJn (hJf.trans vE) hJm hJl,J,by simp,hJa,hJb⟩
theorem KZ {f t : Int} (h : (D3 f t).2 = true) : GX (D3 f t).1 := by
  have := T3 f t;unfold D3 at h ⊢;unfold GX;dsimp only at h ⊢;rcases this with ⟨h1,h2,h3,h4⟩ | ⟨h1,_⟩
  · rw [h2,h3];omega
  · rw [h1] at h;cases h
theorem LU {t u w e : Int} {r : SP} (h : (sE t u w e r).2 = true) : GX (sE t u w e r).1 := by
  unfold sE at h ⊢;dsimp only at h ⊢;split at h
  · rename_i hq;rw [if_pos hq];exact KZ h
  · rename_i hq;exact absurd h hq
theorem QM {n s : Int} {r : SP} (h : (vW r n s).2 = true) : GX (vW r n s).1 := by
  unfold vW at h ⊢;split at h
  · rename_i hq;rw [if_pos hq];exact KZ h
  · cases h
theorem V9.sC {n q : Nat} {w : W} (h : V9 n q w) {i : Nat} {r : SP} (hr : GX r) : V9 n q (sC w i r) where
  pl := h.pl
  cl := by show (w.2.2.set i r).length = q;rw [gH];exact h.cl
  pr := h.pr
  nd := h.nd
  m0 := h.m0
  m1 := h.m1
  sp x hx := by
    rcases fH hx with hx | rfl
    · exact h.sp x hx
    · exact hr
theorem OB {c : Cx} {n q : Nat} {w : W} {i : Nat} {s : Ev} (h : V9 n q w) (hi : i < q) (hs : 0 ≤ s.n) (hm : w.2.1 ≤ 3000000) (hb : (jG c w i s).2 = true) : V9 n q (jG c w i s).1 ∧ (jG c w i s).1.1 = w.1 ∧ (jG c w i s).1.2.1 ≤ w.2.1 + 1 := by
  obtain ⟨g1,g2,g3⟩ := h.at hi;unfold jG at hb ⊢;by_cases k0 : s.k = 0
  · rw [if_pos k0] at hb ⊢;split
    · exact ⟨h,rfl,by dsimp only;omega⟩
    · exact ⟨⟨h.pl,h.cl,h.pr,h.nd,by have := h.m0;dsimp only;omega,by dsimp only;omega,h.sp⟩,rfl,by dsimp only;omega⟩
  rw [if_neg k0] at hb ⊢;by_cases k1 : s.k = 1
  · rw [if_pos k1] at hb ⊢;dsimp only at hb ⊢;exact ⟨h.sC (LU hb),rfl,by show w.2.1 ≤ _;omega⟩
  rw [if_neg k1] at hb ⊢;by_cases k2 : s.k = 2
  · rw [if_pos k2] at hb ⊢;dsimp only at hb ⊢;exact ⟨h.sC (QM hb),rfl,by show w.2.1 ≤ _;omega⟩
  rw [if_neg k2] at hb ⊢;by_cases k3 : s.k = 3
  · rw [if_pos k3] at hb ⊢;dsimp only at hb ⊢;unfold rG at hb;simp only [aJ,decide_eq_true_eq] at hb;unfold GX at g3;exact ⟨h.sC (show GX (s.n,s.n + 1) from ⟨by dsimp only;omega,by dsimp only;omega,by dsimp only;omega⟩),rfl,by show w.2.1 ≤ _;omega⟩
  rw [if_neg k3] at hb ⊢;split
  · exact ⟨h,rfl,by dsimp only;omega⟩
  · exact ⟨h,rfl,by dsimp only;omega⟩
theorem X6 {α : Type} {l : List α} {i k : Nat} {d : α} (hi : i < l.length) (hk : k < l.length) : ((l.set i (l.getD k d)).set k (l.getD i d)).Perm l := by
  have e1 : l.getD k d = l[k] := by rw [aC,aA hk];rfl
  have e2 : l.getD i d = l[i] := by rw [aC,aA hi];rfl
  rw [e1,e2];exact List.set_set_perm hi hk
theorem YI {n q : Nat} {w : W} {i k : Nat} (h : V9 n q w) (hi : i < q) (hk : k < q) : V9 n q (nP w i k) ∧ (nP w i k).1.Perm w.1 := by
  have p1 : (nP w i k).1.Perm w.1 := X6 (by rw [h.pl];exact hi) (by rw [h.pl];exact hk)
  have p2 : (nP w i k).2.2.Perm w.2.2 := X6 (by rw [h.cl];exact hi) (by rw [h.cl];exact hk)
  exact ⟨⟨p1.length_eq.trans h.pl,p2.length_eq.trans h.cl,fun x hx => h.pr x (p1.mem_iff.1 hx),p1.nodup_iff.2 h.nd,h.m0,h.m1,fun r hr => h.sp r (p2.mem_iff.1 hr)⟩,p1⟩
theorem FC {c : Cx} {M : Int} {gs : List G} (h : nD c M gs) (hM : M ≤ 2200000) {g : G} (hg : g ∈ gs) {s : Ev} (hs : 0 ≤ s.n) (ha : s.a ∈ g.1) (hb : s.k = 4 → s.b ∈ g.1) {w : W} (hw : w ∈ lR c s g) : V9 c.bs.length g.1.length w ∧ w.1.Perm (gV g).1 ∧ w.2.1 ≤ M + 1 := by
  have og := h.out.ok g hg;obtain ⟨v,hv,hw⟩ := gJ.1 hw;have ov := og.ws v hv;have hvm := h.ml g hg v hv;have hp := og.same v _ hv (iL (h.ne g hg));obtain ⟨hi,_⟩ := uG ha;rcases bB.1 hw with hw | hw
  · split at hw
    · rename_i hbt;obtain rfl := bO.1 hw;obtain ⟨h1,h2,h3⟩ := OB ov hi hs (by omega) hbt
      exact ⟨h1,h2 ▸ hp,by omega⟩
    · cases hw
  · split at hw
    · rename_i hk;obtain rfl := bO.1 hw;obtain ⟨hj,_⟩ := uG (hb hk);obtain ⟨h1,h2⟩ := YI ov hi hj;exact ⟨h1,h2.trans hp,by show v.2.1 ≤ _;omega⟩
    · cases hw
theorem MT {c : Cx} {s : Ev} {g : G} : (lR c s g).length ≤ 2 * g.2.length := by
  unfold lR;dsimp only
  induction g.2 with
  | nil => simp
  | cons w l ih =>
    rw [bF,aF,List.length_cons,aF];have h1 : ∀ {p : Prop} [Decidable p] {x : W},(if p then [x] else []).length ≤ 1 := by
      intro p _ x;split <;> simp
    have := @h1 ((jG c w (g.1.idxOf s.a) s).2 = true) _ (jG c w (g.1.idxOf s.a) s).1;have := @h1 (s.k = 4) _ (nP w (g.1.idxOf s.a) (g.1.idxOf s.b));omega
theorem WQ {c : Cx} {M M' : Int} {gs : List G} (h : nD c M gs) {i : Nat} {g : G} (hi : gs[i]? = some g) {ws : List W} (hne : ws ≠ []) (hl : ws.length ≤ 1000) (hM : M ≤ M')
    (hw : ∀ w,w ∈ ws → V9 c.bs.length g.1.length w ∧ w.1.Perm (gV g).1 ∧ w.2.1 ≤ M') : nD c M' (gs.set i (g.1,ws)) := by
  have hg := aL hi;have og := h.out.ok g hg;obtain ⟨A,B,e1,e2⟩ := pG (y := (g.1,ws)) hi;rw [e2];subst e1;have hmem : ∀ x,x ∈ A ++ (g.1,ws) :: B → x = (g.1,ws) ∨ x ∈ A ++ g :: B := fun x hx => by
    simp only [bB,bL] at hx ⊢;rcases hx with hx | hx | hx
    · exact .inr (.inl hx)
    · exact .inl hx
    · exact .inr (.inr (.inr hx))
  have hbod : ((A ++ (g.1,ws) :: B).flatMap (·.1)) = ((A ++ g :: B).flatMap (·.1)) := by simp only [fK,bF]
  have hf := (hw _ (iL (g := (g.1,ws)) hne)).2.1;have ok : vK c.bs.length (g.1,ws) := ⟨og.ne,og.up,og.rg,og.ln,fun w h => (hw w h).1,fun w v h1 h2 => (hw w h1).2.1.trans (hw v h2).2.1.symm⟩;refine ⟨⟨fun x hx => ?_,by rw [hbod];exact h.out.nd,by rw [hbod];exact h.out.ln,fun x hx => ?_⟩,?_,fun x hx => ?_,fun x hx => ?_,by rw [hbod];exact h.cov,?_,fun x hx => ?_⟩
  · rcases hmem x hx with rfl | hx
    · exact ok
    · exact h.out.ok x hx
  · rcases hmem x hx with rfl | hx
    · show ws.length ≤ 2000;omega
    · exact h.out.ws x hx
  · have := zZ.1 h.up;refine zZ.2 ?_;simp only [dH,List.map_cons] at this ⊢;exact this
  · rcases hmem x hx with rfl | hx
    · exact hne
    · exact h.ne x hx
  · rcases hmem x hx with rfl | hx
    · exact fun w hw' => (hw w hw').2.2
    · exact fun w hw' => W8 (h.ml x hx w hw') hM
  · refine List.Perm.trans ?_ h.idn;simp only [fK,bF];exact List.Perm.append_left _ (hf.append_right _)
  · rcases hmem x hx with rfl | hx
    · exact hl
    · exact h.wl x hx
theorem EM {g : G} {k : Nat} {w : W} (h : w ∈ (jK g k).2) : ∃ v,v ∈ g.2 ∧ w = YM k v := by
  obtain ⟨v,hv,e⟩ := bI.1 (rR h);exact ⟨v,hv,e.symm⟩
theorem WL {g : G} {k : Nat} (h : g.2 ≠ []) : (jK g k).2 ≠ [] := fun e => h (by
  have := I6.1 e
  exact lA.1 this)
theorem WS {m : Nat} {M : Int} (hM : 0 ≤ M) : ∀ {g : G},(∀ w,w ∈ g.2 → w.2.1 ≤ M) → ∀ x,x ∈ mF m g → ∀ w,w ∈ x.2 → w.2.1 ≤ M := by
  induction m with
  | zero => intro g h x hx;simp [mF] at hx;subst hx;exact h
  | succ m ih =>
    intro g h x hx;unfold mF at hx;split at hx
    · simp at hx;subst hx;exact h
    · rename_i k hk;rcases bL.1 hx with rfl | hx
      · intro w hw;obtain rfl := bO.1 hw;exact hM
      · refine ih (fun w hw => ?_) x hx;obtain ⟨v,hv,rfl⟩ := EM hw;exact h v hv
theorem QP {m : Nat} : ∀ {g : G},g.2.Pairwise (fun a b => nK a b < 0) → ∀ x,x ∈ mF m g → x.2.Pairwise (fun a b => nK a b < 0) := by
  induction m with
  | zero => intro g h x hx;simp [mF] at hx;subst hx;exact h
  | succ m ih =>
    intro g h x hx;unfold mF at hx;split at hx
    · simp at hx;subst hx;exact h
    · rcases bL.1 hx with rfl | hx
      · exact kS _ _
      · exact ih (Q4 _) x hx
theorem EX {n : Nat} : ∀ (m : Nat) {g : G}, vK n g → g.2 ≠ [] → ((mF m g).flatMap fun x => (gV x).1).Perm (gV g).1
  | 0,g,h,hne => by simp [mF]
  | m + 1,g,h,hne => by
    unfold mF;split
    · simp
    · rename_i k hk;have hr := WL (k := k) hne;obtain ⟨v,hv,e⟩ := EM (iL hr);have ih := EX m (h.rest hk) hr;rw [bF];have ofw := h.ws _ (iL hne);have ov := h.ws v hv;obtain ⟨_,_,hkl,hs⟩ := jA hk;have hgv := (hs v hv).1;refine (List.Perm.append_left _ ih).trans ?_;rw [e];show (gP (gV g) k :: (v.1.eraseIdx k)).Perm _;rw [← hgv];exact (iZ v.1 k 0 (by rw [ov.pl];exact hkl)).trans (h.same _ _ hv (iL hne))
theorem qE {α β γ : Type} {F : β → List γ} {F' : α → List γ} {P : α → List β} : ∀ {l : List α}, (∀ g, g ∈ l → ((P g).flatMap F).Perm (F' g)) → ((l.flatMap P).flatMap F).Perm (l.flatMap F')
  | [],_ => .refl _
  | g :: l,h => by
    rw [bF,fK,bF];exact (h g aR).append (qE fun x hx => h x (aN _ hx))
theorem J0 {α β γ : Type} {F : β → List γ} {F' : α → List γ} {f : α → β} : ∀ {l : List α}, (∀ g, g ∈ l → (F (f g)).Perm (F' g)) → ((l.map f).flatMap F).Perm (l.flatMap F')
  | [],_ => .refl _
  | g :: l,h => by
    rw [List.map_cons,bF,bF];exact (h g aR).append (J0 fun x hx => h x (aN _ hx))
theorem PG : ∀ {l : List G}, (∀ g, g ∈ l → 0 ≤ iH g) → 0 ≤ mJ l
  | [],_ => fC _
  | g :: l,h => by
    have := PG fun x hx => h x (aN _ hx);have := h g aR;show 0 ≤ iH g + mJ l;omega
theorem PH : ∀ {l : List G}, (∀ g, g ∈ l → 0 ≤ iH g) → ∀ {g : G}, g ∈ l → iH g ≤ mJ l
  | x :: l,h,g,hg => by
    have h0 := PG fun x hx => h x (aN _ hx);have h1 := h x aR;show iH g ≤ iH x + mJ l;rcases bL.1 hg with rfl | hg
    · omega
    · have := PH (fun x hx => h x (aN _ hx)) hg;omega
theorem QS {c : Cx} {L : List G} (h : nD c c.m L) (hm0 : 0 ≤ c.m) (hasc : ∀ g,g ∈ L → g.2.Pairwise fun a b => nK a b < 0) : mR c (uY L) := by
  have hp := dK cG (L.flatMap fun g => mF g.1.length g);have hmem : ∀ x,x ∈ uY L → ∃ g,g ∈ L ∧ x ∈ mF g.1.length g := fun x hx => gJ.1 (hp.mem_iff.1 hx);have bod : ((uY L).flatMap (·.1)).Perm (L.flatMap (·.1)) := (hp.flatMap_right _).trans (qE fun g hg => vY _ (h.out.ok g hg));have idn : ((uY L).flatMap fun g => (gV g).1).Perm (L.flatMap fun g => (gV g).1) := (hp.flatMap_right _).trans (qE fun g hg => EX _ (h.out.ok g hg) (h.ne g hg));have wl : ∀ x,x ∈ uY L → x.2.length ≤ 1000 := fun x hx => by
    obtain ⟨g,hg,hx⟩ := hmem x hx;exact EW (by omega) (h.wl g hg) x hx
  refine ⟨⟨⟨fun x hx => ?_,bod.nodup_iff.2 h.out.nd,by rw [bod.length_eq];exact h.out.ln,fun x hx => by have := wl x hx;omega⟩,qH _,fun x hx => ?_,fun x hx => ?_,bod.trans h.cov,idn.trans h.idn,wl⟩,fun x hx => ?_,fun x hx => ?_⟩
  all_goals obtain ⟨g,hg,hx⟩ := hmem x hx
  · exact BK _ (h.out.ok g hg) x hx
  · exact WR (h.ne g hg) x hx
  · exact WS hm0 (h.ml g hg) x hx
  · exact Y7 _ (h.out.ok g hg) (aY _) x hx
  · exact QP (hasc g hg) x hx
theorem QV {c : Cx} {M : Int} {gs : List G} (h : nD c M gs) (hne : ∀ g,g ∈ paid c gs → g.2 ≠ []) : nD c c.m (paid c gs) := by
  have h0 : ∀ g,g ∈ gs → 0 ≤ iH g := fun g hg => (Z9 (h.out.ok g hg) (h.ne g hg)).1;refine ⟨h.out.paid c,JL h.up,hne,fun g hg w hw => ?_,by rw [F6];exact h.cov,?_,fun g hg => ?_⟩
  · obtain ⟨x,hx,rfl⟩ := bI.1 hg;have := of_decide_eq_true (oZ.1 hw).2;have := PH h0 hx;omega
  · refine List.Perm.trans (J0 (F' := fun g => (gV g).1) fun g hg => ?_) h.idn;have h1 := hne _ (bI.2 ⟨g,hg,rfl⟩);have h2 := iL h1;exact (h.out.ok g hg).same _ _ (oZ.1 h2).1 (iL (h.ne g hg))
  · obtain ⟨x,hx,rfl⟩ := bI.1 hg;exact bY (DG _ _) (h.wl x hx)
theorem VQ {c : Cx} {M : Int} {gs : List G} (h : nD c M gs) (hm0 : 0 ≤ c.m) (hasc : ∀ g,g ∈ gs → g.2.Pairwise fun a b => nK a b < 0) (hne : ∀ g,g ∈ A0 c gs → g.2 ≠ []) : mR c (A0 c gs) := by
  refine QS (QV h fun g hg e => ?_) hm0 fun g hg => ?_
  · refine hne g ?_ e;refine (dK cG _).mem_iff.2 (gJ.2 ⟨g,hg,?_⟩);rw [QO e];exact bO.2 rfl
  · obtain ⟨x,hx,rfl⟩ := bI.1 hg;exact (hasc x hx).sublist List.filter_sublist
theorem pP {n : Int} {s : Ev} (h : jV n s = true) (hn : n ≤ 1000000) : (0 ≤ s.a ∧ s.a < n) ∧ (s.k = 4 → s.a < s.b ∧ s.b < n) ∧ 0 ≤ s.n ∧ s.n ≤ 1099511627776 := by
  obtain ⟨k,a,b,m,ids⟩ := s;unfold jV at h;simp only [aJ,decide_eq_true_eq] at h;obtain ⟨⟨⟨h1,h2⟩,h3⟩,h4⟩ := h;dsimp only;refine ⟨by omega,fun hk => ?_,?_⟩
  · subst hk;simp at h4;omega
  · by_cases k0 : k = 0
    · subst k0;simp at h4;omega
    · rw [if_neg k0] at h4;split at h4
      · simp at h4;omega
      · split at h4
        · simp at h4;omega
        · split at h4
          · simp at h4;omega
          · cases h4
theorem NB {gs all : List G} {a b : Int} (e : join gs a b = some all) (ha : ∃ g,g ∈ gs ∧ a ∈ g.1) : ∀ g,g ∈ all → g ∈ gs ∨ a ∈ g.1 := by
  intro g hg;obtain ⟨i,x,hi,hix,hax⟩ := jM ha;unfold join at e;dsimp only at e;split at e
  · cases e;exact .inl hg
  · split at e
    · cases e
    · cases e;rcases fH (List.mem_of_mem_eraseIdx hg) with hg | rfl
      · exact .inl hg
      · refine .inr ((lF _ _).mem_iff.2 (bB.2 (.inl ?_)));rw [hi];unfold kO;rw [aC,show ((i : Int)).toNat = i from rfl,hix]
        exact hax
structure yU (c : Cx) (M : Int) (all : List G) (s : Ev) : Prop where
  mid : nD c M all
  asc : ∀ g,g ∈ all → (g.2.Pairwise fun a b => nK a b < 0) ∨ s.a ∈ g.1
  a : 0 ≤ s.a ∧ s.a < c.bs.length
  b : s.k = 4 → ∃ g,g ∈ all ∧ s.a ∈ g.1 ∧ s.b ∈ g.1
  n0 : 0 ≤ s.n
  n1 : s.n ≤ 1099511627776
theorem yU.at {c : Cx} {M : Int} {all : List G} {s : Ev} (h : yU c M all s) : ∃ (i : Nat) (g : G),nO all s.a = (i : Int) ∧ all[i]? = some g ∧ g ∈ all ∧ kO all (nO all s.a).toNat = g ∧ s.a ∈ g.1 ∧ (s.k = 4 → s.b ∈ g.1) := by
  obtain ⟨i,g,hi,hg,ha⟩ := jM (h.mid.find h.a);have hm := aL hg;refine ⟨i,g,hi,hg,hm,?_,ha,fun hk => ?_⟩
  · rw [hi];unfold kO;rw [aC,show ((i : Int)).toNat = i from rfl,hg];rfl
  · obtain ⟨x,hx,h1,h2⟩ := h.b hk;rw [M5 h.mid.out.nd hm hx ha h1];exact h2
theorem yU.next {c : Cx} {M : Int} {all : List G} {s : Ev} (h : yU c M all s) (hM : M ≤ 2200000) {i : Nat} {g : G} (hi : all[i]? = some g) (ha : s.a ∈ g.1) (hb : s.k = 4 → s.b ∈ g.1) (hne : fY (lR c s g) ≠ []) (hl : (fY (lR c s g)).length ≤ 1000) :
    nD c (M + 1) (all.set i (g.1,fY (lR c s g))) ∧ ∀ x,x ∈ all.set i (g.1,fY (lR c s g)) → x.2.Pairwise fun a b => nK a b < 0 := by
  have hg := aL hi;refine ⟨WQ h.mid hi hne hl (by omega) fun w hw => FC h.mid hM hg h.n0 ha hb (rR hw),fun x hx => ?_⟩
  obtain ⟨A,B,e1,e2⟩ := pG (y := (g.1,fY (lR c s g))) hi;rw [e2] at hx;have nd := h.mid.out.nd;have hall : x = (g.1,fY (lR c s g)) ∨ x ∈ all ∧ s.a ∉ x.1 := by
    subst e1;simp only [fK,bF] at nd;obtain ⟨_,n1,n2⟩ := cF.1 nd;obtain ⟨_,_,n3⟩ := cF.1 n1;simp only [bB,bL] at hx ⊢;rcases hx with hx | hx | hx
    · exact .inr ⟨.inl hx,fun q => n2 _ (nN hx q) _ (bB.2 (.inl ha)) rfl⟩
    · exact .inl hx
    · exact .inr ⟨.inr (.inr hx),fun q => n3 _ ha _ (nN hx q) rfl⟩
  rcases hall with rfl | ⟨h1,h2⟩
  · exact Q4 _
  · exact (h.asc x h1).resolve_right h2
theorem JZ {c : Cx} {M : Int} {l all : List G} {s : Ev} (h : yU c M all s) (hM : M ≤ 2200000) (hm0 : 0 ≤ c.m) (hl : mR c l) : mR c (vO c l all s).2 := by
  obtain ⟨i,g,hi,hg,hgm,hat,ha,hb⟩ := h.at;unfold vO;dsimp only;rw [hat];split
  · exact hl
  · rename_i hne;split
    · exact hl
    · rename_i hwl;split
      · exact hl
      · rename_i hany;obtain ⟨hm,hasc⟩ := h.next hM hg ha hb hne (by omega)
        rw [hi] at hany ⊢;refine VQ hm hm0 hasc fun x hx e => hany (jJ.2 ⟨x,hx,by rw [e];rfl⟩)
theorem F3 {c : Cx} {gs : List G} {s : Ev} (h : mR c gs) (hn : c.bs.length ≤ 1000) (hm0 : 0 ≤ c.m) (hr : jV c.bs.length s = true) (hk : s.k ≠ 4) : yU c c.m gs s := by
  obtain ⟨h1,h2,h3,h4⟩ := pP hr (by omega)
  exact ⟨h.mid,fun g hg => .inl (h.asc g hg),h1,fun q => absurd q hk,h3,h4⟩
theorem zF {c : Cx} {gs all : List G} {s : Ev} (h : mR c gs) (hn : c.bs.length ≤ 1000) (hm0 : 0 ≤ c.m) (hm1 : c.m ≤ 1048576) (hr : jV c.bs.length s = true) (hk : s.k = 4) (e : join gs s.a s.b = some all) : yU c (2 * c.m) all s := by
  obtain ⟨h1,h2,h3,h4⟩ := pP hr (by omega)
  have h2 := h2 hk;obtain ⟨j1,j2⟩ := RS h.mid hm0 hm1 h1 ⟨by omega,by omega⟩ e
  exact ⟨j1,fun g hg => (NB e (h.mid.find h1) g hg).imp_left fun hg => h.asc g hg,h1,fun _ => j2,h3,h4⟩
theorem nD.n12 {c : Cx} {M : Int} {gs : List G} (h : nD c M gs) : c.bs.length ≤ 12 := by
  have := h.cov.length_eq;have := h.out.ln;simp at *;omega
theorem O8 {c : Cx} {gs : List G} {s : Ev} (h : mR c gs) (hm0 : 0 ≤ c.m) (hm1 : c.m ≤ 1048576) : mR c (nY c gs s).2 := by
  have hn := h.mid.n12;unfold nY;split
  · rename_i hr;split
    · rename_i hk;split
      · exact h
      · rename_i all e;exact JZ (zF h (by omega) hm0 hm1 hr hk e) (by omega) hm0 h
    · rename_i hk;exact JZ (F3 h (by omega) hm0 hr hk) (by omega) hm0 h
  · exact h
def DZ (c : Cx) (s : Ev) (g : G) (w : W) : List W :=
  (if (jG c w (g.1.idxOf s.a) s).2 then [(jG c w (g.1.idxOf s.a) s).1] else []) ++ (if s.k = 4 then [nP w (g.1.idxOf s.a) (g.1.idxOf s.b)] else [])
def sY (c : Cx) (s : Ev) (g : G) (k : Nat) : List W := (g.2.take k).flatMap (DZ c s g)
theorem MU (c : Cx) (s : Ev) (g : G) : sY c s g g.2.length = lR c s g := by unfold sY;rw [dD];rfl
theorem Q9 {c : Cx} {s : Ev} {g : G} {k : Nat} (h : k < g.2.length) : sY c s g (k + 1) = sY c s g k ++ DZ c s g g.2[k] := by
  unfold sY;rw [aQ h,fK,bF,ZH,List.append_nil]
theorem LZ {c : Cx} {s : Ev} {g : G} {w : W} : (DZ c s g w).length ≤ 2 := by
  unfold DZ;rw [aF];split <;> split <;> simp
theorem Z4 {c : Cx} {s : Ev} {g : G} : ∀ {k : Nat}, k ≤ g.2.length → (sY c s g k).length ≤ 2 * k
  | 0,_ => by simp [sY]
  | k + 1,h => by
    rw [Q9 (by omega),aF]
    have := Z4 (c := c) (s := s) (g := g) (k := k) (by omega)
    have := LZ (c := c) (s := s) (g := g) (w := g.2[k]'(by omega))
    omega
theorem WK (l : List Int) : AB.rf (.arr (Go.Ab.ints l) 1) = true := by
  show (Go.Ab.ints l).all AV.rfL = true;rw [bA];intro e he;obtain ⟨x,_,rfl⟩ := bI.1 he;rfl
theorem PX (l : List SP) : AB.rf (.arr (eS l) 2) = true := by
  show (eS l).all AV.rfL = true;rw [bA];intro e he;obtain ⟨x,_,rfl⟩ := bI.1 he;rfl
theorem WJ (a : List Int) (b : List SP) : [AB.arr (Go.Ab.ints a) 1,.arr (eS b) 2].all AB.rf = true := by
  simp only [L4,WK,PX,List.all_nil,Bool.and_self]
theorem DT {c : Cx} {n : Nat} {gs : List G} (h : mP n gs) : mP n (A0 c gs) := by
  have h := h.paid c;unfold A0;generalize paid c gs = L at *;have hp := dK cG (L.flatMap fun g => mF g.1.length g);have hmem : ∀ x,x ∈ uY L → ∃ g,g ∈ L ∧ x ∈ mF g.1.length g := fun x hx => gJ.1 (hp.mem_iff.1 hx);have bod : ((uY L).flatMap (·.1)).Perm (L.flatMap (·.1)) := (hp.flatMap_right _).trans (qE fun g hg => vY _ (h.ok g hg));refine ⟨fun x hx => ?_,bod.nodup_iff.2 h.nd,by rw [bod.length_eq];exact h.ln,fun x hx => ?_⟩
  all_goals obtain ⟨g,hg,hx⟩ := hmem x hx
  · exact BK _ (h.ok g hg) x hx
  · exact EW (by omega) (h.ws g hg) x hx
abbrev yR (s : Ev) : List AV := [.i s.k,.i s.a,.i s.b,.i s.n,.rowE (Go.Ab.ints s.ids) 1]
end Go.Ld
namespace Go.Proofs.YtmmkhmilpeodnaaGreat
open Go Go.Ab Go.Ld
attribute [local irreducible] VC AW bX aT kT
set_option maxHeartbeats 4000000
theorem zB0 (g : G) : aT Tryz.prog 52 [OK g] [] (.b g.2.isEmpty) [] := by
  obtain ⟨bs,ws⟩ := g;cases ws with
  | nil =>
    refine bT T Tryz.func52 rfl rfl rfl rfl ?_
    (repeat' (first|refine wS ?_|refine wR ?_|(refine rg 0 (bV (cO rfl rfl) rfl (aV ?_)))|(refine rg 1 (iP T rfl (qW T rfl (vV (eP rfl rfl) (aV ?_)))))|refine nZ ?_));all_goals first | (exfalso;omega) | exact rQ
  | cons w ws =>
    have hl : (fL (w :: ws)).length ≠ 0 := by rw [eM];simp
    refine bT T Tryz.func52 rfl rfl rfl rfl ?_
    (repeat' (first|refine wS ?_|refine wR ?_|(refine rg 0 (bV (cO rfl rfl) rfl (aV ?_)))|(refine rg 1 (iP T rfl (qW T rfl (vV (eP rfl rfl) (aV ?_)))))|refine nZ ?_));all_goals first | (exfalso;omega) | exact rQ
noncomputable def zH3 : Code := match Tryz.f11.body with
  | some (.seq _ (.seq _ (.seq _ (.seq _ c)))) => c
  | _ => .skip
noncomputable def zL4 : Code := match zH3 with
  | .seq a _ => a
  | _ => .skip
noncomputable def zL5 : Code := match zH3 with
  | .seq _ b => b
  | _ => .skip
theorem HT (c : Cx) (l all : List G) (s : Ev) {M : Int} (hc : rK c) (h : yU c M all s) (hM : M ≤ 2200000) (hids : s.ids.length ≤ 9223372036854775807) :
    AW Tryz.prog (Tryz.f11.ntmps,1) zL4 [(0,.ptr 0 0),(3,.pr (yR s) 0),(5,.sl 1 0 all.length 2)] [.cells (gL c l),.arr (iW all) 2] (FE (fun v h => AW Tryz.prog (Tryz.f11.ntmps,1) zL5 v h (PY T Tryz.f11.results.toList 1 (.i (vO c l all s).1) [.cells (gL c (vO c l all s).2)])) (PY T Tryz.f11.results.toList 1 (.i (vO c l all s).1) [.cells (gL c (vO c l all s).2)])) := by
  obtain ⟨i,g,hi,hg,hgm,hat,ha,hb⟩ := h.at;have hn12 := h.mid.n12;have hal : (iW all).length = all.length := iV _;have hl12 : all.length ≤ 12 := bY h.mid.out.len h.mid.out.ln;have og := h.mid.out.ok g hgm;have hwl := h.mid.wl g hgm;have hln := og.ln;have hil := (aB.1 hg).1;have f1 := wL all s.a (by omega) (fun g hg => by have := (h.mid.out.ok g hg).ln;omega)
  have hvw : ∀ {x : AB} {r : Hp},nF (x :: .arr (iW all) 2 :: r) (.sl 1 0 all.length 2) (.rowE (iW all) 2) := fun {x r} => sS rfl hal.symm (sW (fun _ => rfl) _);have hix := uF g.1 s.a (by omega)
  have hxi : uH g.1 s.a 0 = ((g.1.idxOf s.a : Nat) : Int) := by have := xN g.1 s.a 0 ha;simpa using this
  rw [hxi] at hix;rw [hi] at f1;have q1 := wG (L := all) (j := (i : Int)) (i := i) hg rfl;unfold vO;dsimp only;rw [hat,hi,bQ];obtain ⟨bs,ws⟩ := g;dsimp only at *;have hwsl : (fL ws).length = ws.length := eM _
  (repeat' (first|refine wS ?_|(refine rg 9 (mW rfl (fW T rfl (vV (aX T rfl rfl rfl rfl) (vV (by exact eU rfl rfl f1 (.cons hvw (.cons (.v _) .nil)) rfl rfl) ?_))));refine aV ?_)|(refine rg 10 (dS rfl (vV (by exact aM T rfl rfl rfl rfl rfl (by omega) (by omega)) ?_));refine fW T rfl (vV (by exact aX T rfl rfl (bJ rfl q1) rfl) ?_);refine vV (by exact eW T rfl rfl rfl rfl) ?_;refine bV (bN T rfl) rfl (aU T rfl rfl rfl rfl rfl rfl (by decide) rfl ?_))|refine nZ ?_));all_goals try (exfalso;omega)
  refine uR 2 1 3 rfl rfl (by decide) ?_
  (repeat' (first|refine wS ?_|refine wB ?_|(refine rg 11 (fW T rfl (vV (aX T rfl rfl rfl rfl) (fW T rfl (vV (aX T rfl rfl rfl rfl) (vV (kC (hix)) (aV ?_)))))))|(refine rg 12 (dS rfl (vV (by exact aM T rfl rfl rfl rfl rfl (by omega) (by omega)) ?_));refine fW T rfl (vV (by exact aX T rfl rfl (bJ rfl q1) rfl) ?_);refine qW T rfl (mV ?_))|refine nZ ?_));all_goals try (exfalso;omega)
  refine dB (X := {k : Nat // k ≤ ws.length}) (fun k => [(0,.ptr 0 0),(3,.pr (yR s) 0),(5,.sl 1 0 all.length 2),(8,.i i),(9,.ptr 2 0),(10,.i (bs.idxOf s.a : Nat)),(63,.rowE (fL ws) 3),(64,.i (fL ws).length),(65,.i k.1)]) (fun k => [.cells (gL c l),.arr (iW all) 2,.cells [.rowE (ints bs) 1,.sl 3 0 (sY c s (bs,ws) k.1).length 3],.arr (fL (sY c s (bs,ws) k.1)) 3]) (fun k => ws.length - k.1) ⟨0,cK _⟩ ⟨[0,1,2,3],rfl,(by repeat first|exact trivial|refine ⟨rfl,?_⟩),⟨.inr rfl,.inr (aE rfl rfl (dX _)),.inr rfl,.inr rfl,trivial⟩,by decide,B7 _⟩ ?_
  rintro ⟨k,hk⟩;dsimp only;by_cases hlt : k < ws.length
  · have hgk := pZ hlt;have hst := Q9 (c := c) (s := s) (g := (bs,ws)) (k := k) hlt;have hal2 := Z4 (c := c) (s := s) (g := (bs,ws)) (k := k) hk;have ow := og.ws ws[k] (aH hlt);obtain ⟨hidx,_⟩ := uG ha;have hbw := TO c l ws[k] s hc ow rfl hidx (by show bs.length ≤ 1000;omega) hids ⟨h.n0,h.n1⟩
    obtain ⟨e1,e2⟩ := CS c ws[k] (bs.idxOf s.a) s;have hk4 : s.k = 4 → (jG c ws[k] (bs.idxOf s.a) s).2 = true := fun q => by unfold jG;rw [q];rfl
    have hex : s.k = 4 → ∃ j : Nat,uH bs s.b 0 = (j : Int) ∧ j = bs.idxOf s.b ∧ j < bs.length := fun q => by
      obtain ⟨hj,_⟩ := uG (hb q);exact ⟨bs.idxOf s.b,by have := xN bs s.b 0 (hb q);simpa using this,rfl,hj⟩
    have hiy := uF bs s.b (by omega)
    unfold DZ at hst;dsimp only at hst;have hpl := ow.pl;have hcl := ow.cl;have hal3 : (fL (sY c s (bs,ws) k)).length = (sY c s (bs,ws) k).length := eM _;generalize sY c s (bs,ws) k = acc at *;generalize hN : sY c s (bs,ws) (k + 1) = acc' at *;generalize bs.idxOf s.a = ia at *;generalize hw : ws[k] = w at *;generalize jG c w ia s = z at *;obtain ⟨⟨zp,zm,zc⟩,zb⟩ := z;dsimp only at e1 e2 hst hk4 hbw;subst e1;obtain ⟨wp,wm,wc⟩ := w;dsimp only at *;have hz1 : (ints wp).length = wp.length := cT _;have hz2 : (eS zc).length = zc.length := fX _
    (repeat' (first|refine wS ?_|refine wB ?_|refine wK ?_|(refine wC rfl ?_ ?_<;>(intro hb;(try simp only [nm] at hb);try (exfalso;omega)))|(refine rg 13 (vV (aO rfl rfl) ?_))|(refine rg 14 (vV (ix T rfl (by omega) (kP _) hgk) (lW T rfl (bV (bN T rfl) rfl (aU T rfl rfl rfl rfl rfl rfl (by decide) rfl ?_)))))|refine nZ ?_));all_goals try (exfalso;omega)
    refine fN 12 (cs := wA (wp,wm,wc)) rfl rfl rfl ?_
    (repeat' (first|refine wS ?_|(refine rg 15 (mW rfl (lW T rfl (mW rfl (lW T rfl (bV (by exact fZ rfl rfl hbw (.inl ⟨.cons (.ptr rfl (gD _ rfl)) (.cons (AX _) (.cons (.v _) (.cons (.agg (gD _ rfl)) .nil))),WJ _ _⟩)) rfl ?_)))));refine mW rfl (xW rfl (xW rfl (bV (bN T rfl) rfl (aU T rfl rfl rfl rfl rfl rfl (by decide) rfl (aV ?_))))))|refine nZ ?_));all_goals try (exfalso;omega)
    refine fA [(0, .ptr 0 0), (3, .pr (yR s) 0), (5, .sl 1 0 all.length 2), (8, .i i), (9, .ptr 2 0), (10, .i ia), (63, .rowE (fL ws) 3), (64, .i (fL ws).length), (65, .i k), (12, .pr (wA (wp, wm, wc)) 0), (13, .ptr 6 0), (14, .b zb)] [.cells (gL c l), .arr (iW all) 2, .cells [.rowE (ints bs) 1, .sl 3 0 acc.length 3], .arr (fL acc) 3, .arr (ints wp) 1, .arr (eS zc) 2, .cells [.sl 4 0 wp.length 1, .i zm, .sl 5 0 wc.length 2]]
      ⟨[0,1,2,3,5,6,7],rfl,(by repeat first|exact trivial|refine ⟨rfl,?_⟩),⟨.inr rfl,.inr (aE rfl rfl (dX _)),.inr rfl,.inr (aE rfl rfl (bG _)),.inr (aE rfl (cC _ (bS _)) (bS _)),.inr (aE rfl (cC _ (eR _)) (eR _)),.inr rfl,trivial⟩,by decide,B7 _⟩ ?_
    refine mL 6 0 (es := ints wp) rfl rfl rfl hz1.symm (gX (bS _)) ?_;refine mL 6 2 (es := eS zc) rfl rfl rfl (by omega) (gX (eR _)) ?_
    refine fN 13 (cs := wA (wp,zm,zc)) rfl rfl rfl ?_;refine fA [(0, .ptr 0 0), (3, .pr (yR s) 0), (5, .sl 1 0 all.length 2), (8, .i i), (9, .ptr 2 0), (10, .i ia), (63, .rowE (fL ws) 3), (64, .i (fL ws).length), (65, .i k), (12, .pr (wA (wp, wm, wc)) 0), (13, .pr (wA (wp, zm, zc)) 0), (14, .b zb)] [.cells (gL c l), .arr (iW all) 2, .cells [.rowE (ints bs) 1, .sl 3 0 acc.length 3], .arr (fL acc) 3]
      ⟨[0,1,2,3],rfl,(by repeat first|exact trivial|refine ⟨rfl,?_⟩),⟨.inr rfl,.inr (aE rfl rfl (dX _)),.inr rfl,.inr (aE rfl rfl (bG _)),trivial⟩,by decide,B7 _⟩ ?_
    have hA1 : ∀ (l : List W) (w : W),fL (l ++ [w]) = fL l ++ [wA w] := fun l w => by rw [fL,dH];rfl
    by_cases k4 : s.k = 4
    · obtain rfl := hk4 k4;rw [if_pos rfl,if_pos k4] at hst;obtain ⟨j,hj1,hj2,hj3⟩ := hex k4;rw [hj1] at hiy;rw [← hj2] at hst;have hxc := zD8 (wp,wm,wc) (i := ia) (k := j) ⟨by dsimp only;omega,by dsimp only;omega⟩ (by dsimp only;omega) (by dsimp only;omega) (by dsimp only;omega)
      generalize nP (wp,wm,wc) ia j = u at *;obtain ⟨up,um,uc⟩ := u;have hW := hA1 acc (wp,zm,zc);have hW2 := hA1 (acc ++ [(wp,zm,zc)]) (up,um,uc);rw [bH,← hst] at hW2;have hacl : acc'.length = acc.length + 2 := by rw [hst];simp
      have hWl : (fL (acc ++ [(wp,zm,zc)])).length = acc.length + 1 := by rw [eM];simp
      have hidA := bG (acc ++ [(wp,zm,zc)]);generalize fL (acc ++ [(wp,zm,zc)]) = B at *;generalize fL acc = A at *
      (repeat' (first|refine wS ?_|refine wT ?_|(refine rg 16 (mV ?_))|(refine rg 17 (iP T rfl (lW T rfl (bV (by exact bE T rfl rfl (by decide) (by decide) rfl rfl rfl) rfl ?_)));refine hO T rfl rfl rfl rfl rfl rfl (by omega) (lD.whole rfl rfl) rfl (by simp;omega) (by simp;omega) rfl ?_;refine fW T rfl (aU T rfl rfl rfl rfl rfl rfl (by decide) rfl ?_))|refine nZ ?_));all_goals try (exfalso;omega)
      refine fA [(0, .ptr 0 0), (3, .pr (yR s) 0), (5, .sl 1 0 all.length 2), (8, .i i), (9, .ptr 2 0), (10, .i ia), (63, .rowE (fL ws) 3), (64, .i (fL ws).length), (65, .i k), (12, .pr (wA (wp, wm, wc)) 0)] [.cells (gL c l), .arr (iW all) 2, .cells [.rowE (ints bs) 1, .sl 3 0 (acc.length + 1) 3], .arr B 3]
        ⟨[0,1,2,5],rfl,(by repeat first|exact trivial|refine ⟨rfl,?_⟩),⟨.inr rfl,.inr (aE rfl rfl (dX _)),.inr rfl,.inr (aE rfl (by rw [hW];exact mZ hal3.symm) hidA),trivial⟩,by decide,B7 _⟩ ?_
      (repeat' (first|refine wT ?_|(refine rg 18 (iP T rfl (vV (kK rfl rfl k4) ?_)))|(refine tK (id := 19) 128 [[],[0],[],[],[],[4],[],[6],rM 4 4,rM 2 7,rM 2 8,rN 11] (rM 87 12) [[],[],[87,88],[87,88,89],rM 87 4,rM 87 4,rM 87 6,rM 87 6,rM 87 4,[87,88],[87,88],[]] [(11,3)] dA rfl (by decide +kernel) (fJ rfl rfl rfl rfl (by exact bZ T rfl rfl rfl) ?_);refine fJ rfl rfl rfl rfl (by exact aX T rfl rfl rfl rfl) ?_;refine fJ rfl rfl rfl rfl (by exact aX T rfl rfl rfl rfl) ?_;refine fJ rfl rfl rfl rfl (by exact bW rfl) ?_;refine fJ rfl rfl rfl rfl (by exact bZ T rfl rfl rfl) ?_;refine fJ rfl rfl rfl rfl (by exact aX T rfl rfl rfl rfl) ?_;refine fJ rfl rfl rfl rfl (by exact bZ T rfl rfl rfl) ?_;refine fJ rfl rfl rfl rfl (by exact aX T rfl rfl rfl rfl) ?_;refine fJ rfl rfl rfl rfl (by exact kC (hiy)) ?_;refine fJ rfl rfl rfl rfl (by exact kC (hxc)) ?_;refine J7 rfl rfl rfl rfl (by exact bE T rfl rfl (by decide) (by decide) rfl rfl rfl) rfl ?_;refine wM rfl rfl rfl rfl (aP rfl) (by exact qJ T rfl rfl rfl rfl rfl rfl (by omega) (lD.whole rfl rfl) rfl (by simp;omega) (by simp;omega)) ?_;refine D2 rfl rfl rfl (by exact rfl) ?_;refine fW T rfl (aU T rfl rfl rfl rfl rfl rfl (by decide) rfl ?_))|(refine rg 20 (vV (bU rfl rfl (by omega) (by omega)) (mV ?_)))|refine nZ ?_));all_goals try (exfalso;omega)
      exact ⟨⟨k + 1,hlt⟩,by dsimp only;omega,⟨[0,1,2,5],rfl,(by repeat first|exact trivial|refine ⟨rfl,?_⟩),⟨.inr rfl,.inr (aE rfl rfl (dX _)),.inr (by dsimp only;rw [hN,hacl];rfl),.inr (aE rfl (by dsimp only;rw [hN,hW2];exact mZ hWl.symm) (bG _)),trivial⟩,by decide,B7 _⟩⟩
    · rw [if_neg k4,List.append_nil] at hst;cases zb with
      | true =>
        rw [if_pos rfl] at hst;have hW := hA1 acc (wp,zm,zc);rw [← hst] at hW;have hacl : acc'.length = acc.length + 1 := by rw [hst];simp
        generalize fL acc = A at *
        (repeat' (first|refine wS ?_|refine wK ?_|refine wT ?_|refine wU ?_|(refine rg 16 (mV ?_))|(refine rg 17 (iP T rfl (lW T rfl (bV (by exact bE T rfl rfl (by decide) (by decide) rfl rfl rfl) rfl ?_)));refine hO T rfl rfl rfl rfl rfl rfl (by omega) (lD.whole rfl rfl) rfl (by simp;omega) (by simp;omega) rfl ?_;refine fW T rfl (aU T rfl rfl rfl rfl rfl rfl (by decide) rfl ?_))|(refine rg 18 (iP T rfl (vV (gB rfl rfl (by omega)) ?_)))|(refine rg 20 (vV (bU rfl rfl (by omega) (by omega)) (mV ?_)))|refine nZ ?_));all_goals try (exfalso;omega)
        exact ⟨⟨k + 1,hlt⟩,by dsimp only;omega,⟨[0,1,2,5],rfl,(by repeat first|exact trivial|refine ⟨rfl,?_⟩),⟨.inr rfl,.inr (aE rfl rfl (dX _)),.inr (by dsimp only;rw [hN,hacl];rfl),.inr (aE rfl (by dsimp only;rw [hN,hW];exact mZ hal3.symm) (bG _)),trivial⟩,by decide,B7 _⟩⟩
      | false =>
        rw [if_neg (by simp),List.append_nil] at hst
        subst hst
        (repeat' (first|refine wS ?_|refine wK ?_|refine wU ?_|(refine rg 16 (mV ?_))|(refine rg 18 (iP T rfl (vV (gB rfl rfl (by omega)) ?_)))|(refine rg 20 (vV (bU rfl rfl (by omega) (by omega)) (mV ?_)))|refine nZ ?_));all_goals try (exfalso;omega)
        exact ⟨⟨k + 1,hlt⟩,by dsimp only;omega,⟨[0,1,2,3],rfl,(by repeat first|exact trivial|refine ⟨rfl,?_⟩),⟨.inr rfl,.inr (aE rfl rfl (dX _)),.inr (by dsimp only;rw [hN];rfl),.inr (aE rfl (by dsimp only;rw [hN]) (bG _)),trivial⟩,by decide,B7 _⟩⟩
  · obtain rfl : k = ws.length := by omega
    have hNA := MU c s (bs,ws);dsimp only at hNA;rw [hNA];have hnl := MT (c := c) (s := s) (g := (bs,ws));dsimp only at hnl;have hno : ∀ w,w ∈ lR c s (bs,ws) → V9 c.bs.length bs.length w := fun w hw => (FC h.mid hM hgm h.n0 ha hb hw).1;have hoc := Z1 (lR c s (bs,ws)) (by omega) (fun w hw => ⟨by have := (hno w hw).pl;omega,by have := (hno w hw).cl;omega⟩)
    have hnx := h.next hM hg ha hb
    dsimp only at hnx;have hol := vZ (lR c s (bs,ws));have hNl : (fL (lR c s (bs,ws))).length = (lR c s (bs,ws)).length := eM _;generalize lR c s (bs,ws) = nw at *
    (repeat' (first|refine wS ?_|refine wE ?_|(refine wC rfl ?_ ?_<;>(intro hb;(try simp only [nm] at hb);try (exfalso;omega)))|(refine rg 13 (vV (aO rfl rfl) ?_))|refine nZ ?_));all_goals try (exfalso;omega)
    refine mL 2 1 (es := fL nw) rfl rfl rfl hNl.symm (gX (bG _)) ?_;generalize fY nw = ow at *;have how : (fL ow).length = ow.length := eM _
    (repeat' (first|refine wS ?_|refine wB ?_|(refine rg 21 (iP T rfl (vV (kC (hoc)) (fW T rfl (aU T rfl rfl rfl rfl rfl rfl (by decide) rfl ?_)))))|refine nZ ?_));all_goals try (exfalso;omega)
    refine fA [(0,.ptr 0 0),(3,.pr (yR s) 0),(5,.sl 1 0 all.length 2),(8,.i i),(9,.ptr 2 0)] [.cells (gL c l),.arr (iW all) 2,.cells (gA (bs,ow))] ⟨[0,1,2],rfl,(by repeat first|exact trivial|refine ⟨rfl,?_⟩),⟨.inr rfl,.inr (aE rfl rfl (dX _)),.inr rfl,trivial⟩,by decide,B7 _⟩ ?_
    by_cases h0 : ow = []
    · subst h0;rw [if_pos rfl]
      (repeat' (first|refine wS ?_|refine wR ?_|refine wT ?_|(refine rg 22 (iP T rfl (qW T rfl (vV (eP rfl rfl) (aV ?_)))))|(refine rg 23 (aV ?_))|refine nZ ?_));all_goals try (exfalso;omega)
      exact ⟨.inl rfl,[0],_,rfl,rfl,rfl,⟨.inr rfl,trivial⟩,by decide,B7 _⟩
    · rw [if_neg h0];have hop := eY.2 h0;by_cases h1 : 1000 < ow.length
      · rw [if_pos h1]
        (repeat' (first|refine wS ?_|refine wR ?_|(refine wC rfl ?_ ?_<;>(intro hb;(try simp only [nm] at hb);try (exfalso;omega)))|(refine rg 22 (iP T rfl (qW T rfl (vV (eP rfl rfl) (aV ?_)))))|(refine rg 24 (iP T rfl (qW T rfl (vV (fP rfl rfl) (aV ?_)))))|(refine rg 25 (aV ?_))|refine nZ ?_));all_goals try (exfalso;omega)
        exact ⟨.inl rfl,[0],_,rfl,rfl,rfl,⟨.inr rfl,trivial⟩,by decide,B7 _⟩
      · rw [if_neg h1];obtain ⟨hm1,hasc⟩ := hnx h0 (by omega)
        have hty := VR c l (all.set i (bs,ow)) hm1.out hm1.up hm1.ne;have hset := C2 (L := all) (j := (i : Int)) (i := i) (x := (bs,ow)) rfl;have hto := (DT hm1.out (c := c)).len;have hto2 := (DT hm1.out (c := c)).ln;have hcf := zC6 (l := A0 c (all.set i (bs,ow))) (F := 52) (caps := []) (p := fun g => g.2.isEmpty) (by omega) rfl (fun x hx => zB0 x)
        have hNl2 : all.length = (iW (all.set i (bs,ow))).length := by rw [iV,gH]
        (repeat' (first|refine wS ?_|refine wK ?_|(refine wC rfl ?_ ?_<;>(intro hb;(try simp only [nm] at hb);try (exfalso;omega)))|(refine rg 22 (iP T rfl (qW T rfl (vV (eP rfl rfl) (aV ?_)))))|(refine rg 24 (iP T rfl (qW T rfl (vV (fP rfl rfl) (aV ?_)))))|(refine rg 26 (dS rfl (lW T rfl (vV (by exact aM T rfl rfl rfl rfl rfl (by omega) (by omega)) ?_)));refine aU T rfl rfl rfl rfl rfl rfl (by decide) (mA rfl q1 rfl) ?_)|refine nZ ?_));all_goals try (exfalso;omega)
        generalize all.set i (bs,ow) = N at *;refine fA [(0,.ptr 0 0),(5,.sl 1 0 all.length 2)] [.cells (gL c l),.arr (iW N) 2] ⟨[0,1],rfl,(by repeat first|exact trivial|refine ⟨rfl,?_⟩),⟨.inr rfl,.inr (aE rfl hset (dX _)),trivial⟩,by decide,B7 _⟩ ?_
        refine H7 5 (es := iW N) rfl rfl hNl2 (gX (dX _)) ?_;generalize A0 c N = out at *
        (repeat' (first|refine wS ?_|(refine rg 27 (dS rfl (fQ [0] rfl rfl (hty) rfl rfl (by decide) ⟨.inr rfl,trivial⟩ (by simp) rfl ?_));refine aV ?_)|refine nZ ?_));all_goals try (exfalso;omega)
        cases hany : out.any fun g => g.2.isEmpty with
        | true =>
          rw [hany] at hcf;rw [if_pos rfl]
          (repeat' (first|refine wS ?_|refine wR ?_|refine wT ?_|(refine rg 28 (mW rfl (vV (kC (hcf)) ?_)))|(refine rg 29 (aV ?_))|refine nZ ?_));all_goals try (exfalso;omega)
          exact ⟨.inl rfl,[0],_,rfl,rfl,rfl,⟨.inr rfl,trivial⟩,by decide,B7 _⟩
        | false =>
          rw [hany] at hcf;rw [if_neg (by simp)]
          (repeat' (first|refine wS ?_|refine wK ?_|refine wR ?_|refine wU ?_|(refine rg 28 (mW rfl (vV (kC (hcf)) ?_)))|(refine rg 30 (dS rfl (nV ?_));refine fW T rfl (aU T rfl rfl rfl rfl rfl rfl (by decide) rfl ?_))|(refine rg 31 (aV ?_))|refine nZ ?_));all_goals try (exfalso;omega)
          exact ⟨.inl rfl,[0],_,rfl,rfl,rfl,⟨.inr rfl,trivial⟩,by decide,B7 _⟩
theorem JY (c : Cx) (gs : List G) (s : Ev) (hc : rK c) (h : mR c gs) (hids : s.ids.length ≤ 9223372036854775807) :
    aT Tryz.prog 11 [.ptr 0 0,zO1 s] [.cells (gL c gs)] (.i (nY c gs s).1) [.cells (gL c (nY c gs s).2)] := by
  have hn12 := h.mid.n12;obtain ⟨hm0,hm1,_⟩ := hc.s;have hgl : (iW gs).length = gs.length := iV _;have hgl12 : gs.length ≤ 12 := bY h.mid.out.len h.mid.out.ln;have hbl : (fS c.bs).length = c.bs.length := bC _;have hright := PW c.bs.length s.k s.a s.b s.n s.ids hids ⟨by omega,by omega⟩
  have hcl := GF gs (by omega)
  have hst := F3 (s := s) h (by omega) hm0
  have hjo := fun (hr : jV c.bs.length s = true) (hk : s.k = 4) (all : List G) => zF (s := s) (all := all) h (by omega) hm0 hm1 hr hk
  unfold nY;generalize hv : jV c.bs.length s = v at *;rw [← hbl] at hright;cases v with
  | false =>
    rw [if_neg (by simp)]
    refine bT T Tryz.func11 rfl rfl rfl rfl ?_
    (repeat' (first|refine wS ?_|(refine rg 0 (bV (cO rfl rfl) rfl (aV ?_)))|refine nZ ?_));refine fN 3 (cs := yR s) rfl rfl rfl ?_
    (repeat' (first|refine wS ?_|refine wR ?_|refine wT ?_|(refine cM (id := 1) 128 zT2 (rM 15 8) zT3 dA rfl (by decide +kernel) (dN rfl (dV rfl (by exact eI rfl rfl) ?_));refine dP T rfl (dO T rfl (dV rfl (gN T rfl rfl) (dO T rfl (dV rfl (kC (hright)) (dV rfl (eD rfl) (dE ?_)))))))|(refine rg 2 (aV ?_))|refine nZ ?_));all_goals try (exfalso;omega)
    exact ⟨.inl rfl,[0],_,rfl,rfl,rfl,⟨.inr rfl,trivial⟩,by decide,B7 _⟩
  | true =>
    rw [if_pos rfl];by_cases k4 : s.k = 4
    · rw [if_pos k4];obtain ⟨r1,r2,_⟩ := pP hv (by omega)
      have r2 := r2 k4;have fa := h.mid.find r1;have fb := h.mid.find (b := s.b) ⟨by omega,by omega⟩
      cases hj : join gs s.a s.b with
      | none =>
        dsimp only;have hjc := XK gs s.a s.b h.mid.out fa fb hj;refine bT T Tryz.func11 rfl rfl rfl rfl ?_
        (repeat' (first|refine wS ?_|(refine rg 0 (bV (cO rfl rfl) rfl (aV ?_)))|refine nZ ?_));refine fN 3 (cs := yR s) rfl rfl rfl ?_
        (repeat' (first|refine wS ?_|refine wK ?_|refine wU ?_|(refine cM (id := 1) 128 zT2 (rM 15 8) zT3 dA rfl (by decide +kernel) (dN rfl (dV rfl (by exact eI rfl rfl) ?_));refine dP T rfl (dO T rfl (dV rfl (gN T rfl rfl) (dO T rfl (dV rfl (kC (hright)) (dV rfl (eD rfl) (dE ?_)))))))|(refine rg 3 (mW rfl (nV ?_));refine iP T rfl (bV (by exact fZ rfl rfl hcl (.inr ⟨rfl,rfl,by simp⟩)) rfl ?_);refine aV ?_)|refine nZ ?_));all_goals try (exfalso;omega)
        refine fA [(0,.ptr 0 0),(3,.pr (yR s) 0),(5,.sl 1 0 gs.length 2)] [.cells (gL c gs),.arr (iW gs) 2] ⟨[0,2],rfl,(by repeat first|exact trivial|refine ⟨rfl,?_⟩),⟨.inr rfl,.inr (aE rfl (cC _ (dX _)) (dX _)),trivial⟩,by decide,B7 _⟩ ?_
        refine H7 5 (es := iW gs) rfl rfl hgl.symm (gX (dX _)) ?_
        (repeat' (first|refine wS ?_|refine wR ?_|refine wT ?_|(refine rg 4 (iP T rfl (vV (kK rfl rfl k4) ?_)))|(refine rg 5 (mW rfl (iP T rfl (iP T rfl (vV (kC (hjc)) (mW rfl (xW rfl (xW rfl (rZ ?_)))))))))|(refine rg 6 (mW rfl (vV (fI rfl rfl) ?_)))|(refine rg 7 (mW rfl (aV ?_)))|refine nZ ?_));all_goals try (exfalso;omega)
        exact ⟨.inl rfl,[0],_,rfl,rfl,rfl,⟨.inr rfl,trivial⟩,by decide,B7 _⟩
      | some all =>
        dsimp only;have hso := hjo rfl k4 all hj;refine bT T Tryz.func11 rfl rfl rfl rfl ?_
        (repeat' (first|refine wS ?_|(refine rg 0 (bV (cO rfl rfl) rfl (aV ?_)))|refine nZ ?_));refine fN 3 (cs := yR s) rfl rfl rfl ?_
        (repeat' (first|refine wS ?_|refine wK ?_|refine wU ?_|(refine cM (id := 1) 128 zT2 (rM 15 8) zT3 dA rfl (by decide +kernel) (dN rfl (dV rfl (by exact eI rfl rfl) ?_));refine dP T rfl (dO T rfl (dV rfl (gN T rfl rfl) (dO T rfl (dV rfl (kC (hright)) (dV rfl (eD rfl) (dE ?_)))))))|(refine rg 3 (mW rfl (nV ?_));refine iP T rfl (bV (by exact fZ rfl rfl hcl (.inr ⟨rfl,rfl,by simp⟩)) rfl ?_);refine aV ?_)|refine nZ ?_));all_goals try (exfalso;omega)
        refine fA [(0,.ptr 0 0),(3,.pr (yR s) 0),(5,.sl 1 0 gs.length 2)] [.cells (gL c gs),.arr (iW gs) 2] ⟨[0,2],rfl,(by repeat first|exact trivial|refine ⟨rfl,?_⟩),⟨.inr rfl,.inr (aE rfl (cC _ (dX _)) (dX _)),trivial⟩,by decide,B7 _⟩ ?_
        by_cases hs : nO gs s.a = nO gs s.b
        · have hjc := XI gs s.a s.b h.mid.out fa fb hs;have : all = gs := by unfold join at hj;dsimp only at hj;rw [if_pos hs] at hj;exact (Option.some.inj hj).symm
          subst this
          (repeat' (first|refine wS ?_|refine wK ?_|refine wT ?_|refine wU ?_|(refine rg 4 (iP T rfl (vV (kK rfl rfl k4) ?_)))|(refine rg 5 (mW rfl (iP T rfl (iP T rfl (fQ [1] rfl rfl (hjc) rfl rfl (by decide) ⟨.inr (aE rfl rfl (dX _)),trivial⟩ (by simp) rfl ?_))));refine mW rfl (xW rfl (xW rfl (rZ ?_))))|(refine rg 6 (mW rfl (vV (fI rfl rfl) ?_)))|(refine rg 8 (mW rfl (aV ?_)))|refine nZ ?_));all_goals try (exfalso;omega)
          refine fA [(0,.ptr 0 0),(3,.pr (yR s) 0),(5,.sl 1 0 all.length 2)] [.cells (gL c all),.arr (iW all) 2] ⟨[0,1],rfl,(by repeat first|exact trivial|refine ⟨rfl,?_⟩),⟨.inr rfl,.inr (aE rfl (cC _ (dX _)) (dX _)),trivial⟩,by decide,B7 _⟩ ?_
          exact HT c all all s hc hso (by omega) hids
        · have hjc := XJ gs s.a s.b h.mid.out fa fb hj hs;refine H7 5 (es := iW gs) rfl rfl hgl.symm (gX (dX _)) ?_
          (repeat' (first|refine wS ?_|refine wK ?_|refine wT ?_|refine wU ?_|(refine rg 4 (iP T rfl (vV (kK rfl rfl k4) ?_)))|(refine rg 5 (mW rfl (iP T rfl (iP T rfl (bV (by exact fZ rfl rfl hjc (.inr ⟨rfl,rfl,by simp⟩)) rfl ?_))));refine mW rfl (xW rfl (xW rfl (rZ ?_))))|(refine rg 6 (mW rfl (vV (fI rfl rfl) ?_)))|(refine rg 8 (mW rfl (aV ?_)))|refine nZ ?_));all_goals try (exfalso;omega)
          refine fA [(0,.ptr 0 0),(3,.pr (yR s) 0),(5,.sl 1 0 all.length 2)] [.cells (gL c gs),.arr (iW all) 2] ⟨[0,2],rfl,(by repeat first|exact trivial|refine ⟨rfl,?_⟩),⟨.inr rfl,.inr (aE rfl (cC _ (dX _)) (dX _)),trivial⟩,by decide,B7 _⟩ ?_
          exact HT c gs all s hc hso (by omega) hids
    · rw [if_neg k4];refine bT T Tryz.func11 rfl rfl rfl rfl ?_
      (repeat' (first|refine wS ?_|(refine rg 0 (bV (cO rfl rfl) rfl (aV ?_)))|refine nZ ?_));refine fN 3 (cs := yR s) rfl rfl rfl ?_
      (repeat' (first|refine wS ?_|refine wK ?_|refine wU ?_|(refine cM (id := 1) 128 zT2 (rM 15 8) zT3 dA rfl (by decide +kernel) (dN rfl (dV rfl (by exact eI rfl rfl) ?_));refine dP T rfl (dO T rfl (dV rfl (gN T rfl rfl) (dO T rfl (dV rfl (kC (hright)) (dV rfl (eD rfl) (dE ?_)))))))|(refine rg 3 (mW rfl (nV ?_));refine iP T rfl (bV (by exact fZ rfl rfl hcl (.inr ⟨rfl,rfl,by simp⟩)) rfl ?_);refine aV ?_)|(refine rg 4 (iP T rfl (vV (gB rfl rfl (by omega)) ?_)))|refine nZ ?_));all_goals try (exfalso;omega)
      refine fA [(0,.ptr 0 0),(3,.pr (yR s) 0),(5,.sl 1 0 gs.length 2)] [.cells (gL c gs),.arr (iW gs) 2] ⟨[0,2],rfl,(by repeat first|exact trivial|refine ⟨rfl,?_⟩),⟨.inr rfl,.inr (aE rfl (cC _ (dX _)) (dX _)),trivial⟩,by decide,B7 _⟩ ?_
      exact HT c gs gs s hc (hst rfl k4) (by omega) hids
end Go.Proofs.YtmmkhmilpeodnaaGreat
