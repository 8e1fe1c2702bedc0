/-
  Texts of the logic and of the layer,in one module (part 9).
-/
import Derived.Test.YtmmmeebiobjnbaaGreatV8
set_option linter.unusedVariables false
set_option linter.unusedSimpArgs false
set_option linter.unnecessarySimpa false
namespace Go.Ld
open Go.Ab Go.Proofs.YtmmmeebiobjnbaaGreat
def d0 : Cx := ⟨0,0,0,0,[(⟨#[110,117,116]⟩,10)],[(0,0,false),(0,0,false),(0,0,false)],[(0,5,0),(1,3,0),(2,2,0)]⟩
theorem qL : iY d0 := ⟨⟨by decide,by decide,by decide,by decide,by decide,by decide,by decide,by decide,by decide⟩,by unfold lS d0;decide⟩
def y1 : Ev := ⟨4,0,1,0,[]⟩
def y2 : Ev := ⟨5,1,0,1,[]⟩
def y3 : Ev := ⟨5,0,0,0,[]⟩
def z1 : Sl := ⟨1,0,0,1⟩
def h0 : List G := pT d0
def h1 : List G := (fK d0 h0 y1).2
def yH5 : List G := (fK d0 h1 y2).2
def yC8 : List G := (fK d0 h1 y1).2
def yH4 : List G := (fK d0 yC8 y3).2
def BW : Sd := ⟨z1,h1,1⟩
def u0 : Tr := ⟨h0,[],[],[]⟩
def u1 : Tr := ⟨h1,[y1],[],[false]⟩
def u2 : Tr := ⟨h1,[y1],[BW],[false,true]⟩
def zD9 : Tr := ⟨yH5,[y1,y2],[BW],[false,true,false]⟩
def zP0 : Tr := ⟨yC8,[y1,y1],[BW],[false,true,false]⟩
def zD8 : Tr := ⟨yH4,[y1,y1,y3],[BW],[false,true,false,false]⟩
theorem v0 : (fK d0 h0 y1).1 = 0 := by decide +kernel
theorem yG5 : (fK d0 h1 y2).1 = 0 := by decide +kernel
theorem yG4 : (fK d0 h1 y1).1 = 0 := by decide +kernel
theorem yG3 : (fK d0 yC8 y3).1 = 0 := by decide +kernel
theorem k0 : kS d0 u0 := kS.new qL
theorem k1 : kS d0 u1 := k0.see qL v0
theorem k2 : kS d0 u2 := k1.sell z1 (by decide)
theorem yE4 : kS d0 zD9 := by
  have h : kS d0 ⟨yH5,[y1] ++ [y2],[BW],[false,true] ++ [false]⟩ := kS.see (t := u2) (s := y2) qL k2 yG5;exact h
theorem yH3 : kS d0 zP0 := by
  have h : kS d0 ⟨yC8,[y1] ++ [y1],[BW],[false,true] ++ [false]⟩ := kS.see (t := u2) (s := y1) qL k2 yG4;exact h
theorem yE3 : kS d0 zD8 := by
  have h : kS d0 ⟨yH4,[y1,y1] ++ [y3],[BW],[false,true,false] ++ [false]⟩ := kS.see (t := zP0) (s := y3) qL yH3 yG3;exact h
theorem yG9 : pM d0 u1 z1 = 0 := by decide +kernel
theorem yI4 : T1 h1 0 = some (lY h1 0,0) := by kernel_rfl
theorem yD9 : D0 BW = [0,1] := by
  unfold D0;rw [show T1 BW.gs BW.s.b = _ from yI4]
  show uC (lY h1 0) 0 = [0,1];unfold uC;rw [sT];decide +kernel
theorem yE7 : kR d0 u2.seen BW = [0,1] := by unfold kR;rw [yD9];decide +kernel
theorem yE6 : kR d0 zD9.seen BW = [0] := by unfold kR;rw [yD9];decide +kernel
theorem yE5 : kR d0 zD8.seen BW = [0,1] := by unfold kR;rw [yD9];decide +kernel
theorem zY3 : nO d0 [0,1] = [0,1] := by unfold nO;rw [sT];decide +kernel
theorem yF7 : nO d0 [0] = [0] := by unfold nO;rw [sT];decide +kernel
theorem zG1 {c : Cx} {t : Tr} {x : Sd} (h : t.sales = [x]) (lot : Int) : S8 c t lot = if lot ∈ qS (nO c (kR c t.seen x)) then [0] else [] := by
  unfold S8 qT;rw [h];by_cases q : lot ∈ qS (nO c (kR c t.seen x)) <;> simp [q,D4,nats]
end Go.Ld
namespace Go.Proofs.YtmmmeebiobjnbaaGreat
open Go Go.Ab Go.Ld
attribute [local irreducible] VC AW cF aS iZ yK
set_option maxHeartbeats 4000000
theorem PT : Tryz.prog.underlying 35 = some (.pointer 83) := by kernel_rfl
theorem T8 (c : Cx) (t : Tr) (k a b n : Int) (hc : iY c) (h : kS c t) (hn : t.seen.length ≤ 100000) (hm : t.ord.length ≤ 100000) (h0 : (fK c t.gs ⟨k,a,b,n,[]⟩).1 = 0) :
    aS Tryz.prog 21 [.ptr 0 0,.agg [.i k,.i a,.i b,.i n,.nils]] (UU c t) (.i 0) (H8 c ⟨(fK c t.gs ⟨k,a,b,n,[]⟩).2,t.seen ++ [⟨k,a,b,n,[]⟩],t.sales,t.ord ++ [false]⟩) :=
  ET (PJ c t ⟨k,a,b,n,[]⟩ hc h (cM _) hn hm h0) fun S w ρ ys => lU (fun _ h => h) fun ys => lU (fun _ h => LZ h) fun _ h => h
theorem TU : aS Tryz.prog 26 [] [] (.ptr 0 0) (UU d0 u2) := by
  have hn := VK d0 qL;have hs := T8 d0 u0 4 0 1 0 qL k0 (by decide) (by decide) v0
  change aS _ _ _ _ _ (H8 d0 u1) at hs;have hz := PI d0 u1 z1 k1 (by decide) (by decide) (by decide) (by decide)
  rw [if_pos yG9,yG9] at hz;change aS _ _ [.ptr 0 0,.agg [.i 1,.i 0,.i 0,.i 1]] _ _ (M3 d0 u2) at hz;change aS _ _ [.agg [.i 0,.i 0,.i 0,.i 0],.rowE [[.v (.string ⟨#[110,117,116]⟩),.i 10]] 2,.rowE [[.i 0,.i 0,.b false],[.i 0,.i 0,.b false],[.i 0,.i 0,.b false]] 3,.rowE [[.i 0,.i 5,.i 0],[.i 1,.i 3,.i 0],[.i 2,.i 2,.i 0]] 3] _ _ [.cells [.rowE (iS d0.ls) 3,.rowE (dR d0.bs) 3,.ptr 1 0,.nils,.nils,.nils],.cells (jT d0 h0)] at hn;have i1 := fO u1.seen;have i2 := fU d0 u1.sales;have i3 := gB u1.ord;have j1 := fO u2.seen;have j2 := fU d0 u2.sales;have j3 := gB u2.ord;have e0 : u0.gs = h0 := rfl;have e1 : u0.seen = [] := rfl;have e2 : u0.sales = [] := rfl;have e3 : u0.ord = [] := rfl;generalize u0 = U0 at *;generalize u1 = U1 at *;generalize u2 = U2 at *;generalize h0 = H0 at *;obtain ⟨g0,s0,sa0,o0⟩ := U0;have hD : True := trivial;dsimp only at e0 e1 e2 e3;subst e0 e1 e2 e3;clear hD;generalize d0 = D at *;refine bW T Tryz.func26 rfl rfl rfl rfl ?_
  (repeat' (first|refine wS ?_|(refine rg 0 (aV ?_))|(refine rg 1 (vV (by exact eS T rfl rfl rfl rfl) ?_);refine cD (by exact bD T rfl rfl (by decide) (by decide) rfl rfl rfl) rfl ?_;refine mL 7 rfl rfl rfl rfl ?_;refine aV ?_)|(refine rg 2 (vV (by exact eS T rfl rfl rfl rfl) ?_);refine vV (by exact eS T rfl rfl rfl rfl) ?_;refine vV (by exact eS T rfl rfl rfl rfl) ?_;refine cD (by exact bD T rfl rfl (by decide) (by decide) rfl rfl rfl) rfl ?_;refine mL 11 rfl rfl rfl rfl ?_;refine aV ?_)|(refine rg 3 (vV (by exact eS T rfl rfl rfl rfl) ?_);refine vV (by exact eS T rfl rfl rfl rfl) ?_;refine vV (by exact eS T rfl rfl rfl rfl) ?_;refine cD (by exact bD T rfl rfl (by decide) (by decide) rfl rfl rfl) rfl ?_;refine mL 15 rfl rfl rfl rfl ?_;refine aV ?_)|refine nZ ?_));all_goals try (exfalso;omega)
  (repeat' (first|refine wS ?_|(refine rg 4 (vV (by exact eS T rfl rfl rfl rfl) ?_);refine dH rfl (mW rfl (cD (by exact fL rfl rfl hn (.inr ⟨rfl,rfl,by simp⟩)) rfl ?_));refine mW rfl (xW rfl (xW rfl (rK ?_))))|refine nZ ?_));all_goals try (exfalso;omega)
  refine nY 3 3 5 rfl rfl (by decide) ?_
  refine nY 3 4 6 rfl rfl (by decide) ?_
  refine nY 3 5 1 rfl rfl (by decide) ?_
  refine fC [(4,.ptr 0 0),(5,.i 0)] [.cells [.rowE (iS D.ls) 3,.rowE (dR D.bs) 3,.ptr 1 0,.sl 2 0 0 5,.sl 3 0 0 6,.sl 4 0 0 1],.cells (jT D g0),.arr [] 5,.arr [] 6,.arr [] 1] ⟨[3,4,5,6,7],rfl,(by repeat first|exact trivial|refine ⟨rfl,?_⟩),⟨.inr rfl,.inr rfl,.inr rfl,.inr rfl,.inr rfl,trivial⟩,by decide,kQ _⟩ ?_
  (repeat' (first|refine wS ?_|refine wK ?_|refine wR ?_|refine wU ?_|(refine rg 5 (mW rfl (vV (fZ rfl rfl) (mW rfl (yN rfl (yV (by exact xI PT rfl rfl rfl) ?_)))));refine pV ?_)|(refine rg 7 (mW rfl (vV (by exact eS T rfl rfl rfl rfl) ?_));refine eP [0,1,2,3,4] rfl rfl (hs) rfl rfl (by decide) ⟨.inr rfl,.inr rfl,.inr rfl,.inr rfl,.inr rfl,trivial⟩ (by simp) rfl ?_;refine vV (fZ rfl rfl) (mW rfl (yN rfl (yV (by exact eS T rfl rfl rfl rfl) ?_)));refine gT (eP [0,1,5,3,6] rfl rfl (hz) rfl rfl (by decide) ⟨.inr rfl,.inr rfl,.inr (aC rfl (bE _ i1) i1),.inr (aC rfl (bE _ i2) i2),.inr (aC rfl (bE _ i3) i3),trivial⟩ (by simp) rfl ?_);refine yV (fZ rfl rfl) (pV ?_))|(refine rg 9 (mW rfl (aV ?_)))|refine nZ ?_));all_goals try (exfalso;omega)
  all_goals exact ⟨.inl rfl,[0,1,5,7,8],_,rfl,rfl,rfl,⟨.inr rfl,.inr rfl,.inr (aC rfl (bE _ j1) j1),.inr (aC rfl (bE _ j2) j2),.inr (aC rfl (bE _ j3) j3),trivial⟩,by decide,kQ _⟩
end Go.Proofs.YtmmmeebiobjnbaaGreat
namespace Go.Ld
open Go.Ab Go.Proofs.YtmmmeebiobjnbaaGreat
abbrev zP1 (c : Cx) (t : Tr) (l : Hp) : Hp := .cells (yG7 c t.seen.length t.sales.length t.ord.length) :: .cells (jT c t.gs) :: .arr (oH t.seen) 5 :: .arr (sX c t.sales) 6 :: .arr (yW t.ord) 1 :: l
abbrev yC6 (c : Cx) (t : Tr) : Hp := [.cells [.rowE (iS c.ls) 3,.rowE (dR c.bs) 3,.ptr 6 0,.sl 7 0 t.seen.length 5,.sl 8 0 t.sales.length 6,.sl 9 0 t.ord.length 1],.cells (jT c t.gs),.arr (oH t.seen) 5,.arr (sX c t.sales) 6,.arr (yW t.ord) 1]
end Go.Ld
namespace Go.Proofs.YtmmmeebiobjnbaaGreat
open Go Go.Ab Go.Ld
attribute [local irreducible] VC AW cF aS iZ yK
set_option maxHeartbeats 4000000
theorem T9 {c : Cx} {t : Tr} {x : Sd} {l a : List Int} (hc : iY c) (h : kS c t) (hk : t.sales[0]? = some x) (hl : t.seen.length ≤ 10) (hids : ∀ s,s ∈ t.seen → s.ids = []) (e1 : kR c t.seen x = l) (e2 : nO c l = a) :
    aS Tryz.prog 12 [.pr (HP c t) 0,.i 0] [] (.tup [.i (xZ a).1,.b (xZ a).2]) [] := by
  have h1 := IH (k := 0) hc h hk (by omega) (fun s hs => by rw [hids s hs];exact cM _)
  rw [e1,e2] at h1;exact h1
theorem FV {c : Cx} {t : Tr} {x : Sd} {l a : List Int} (hc : iY c) (h : kS c t) (hk : t.sales[0]? = some x) (hl : t.seen.length ≤ 10) (hids : ∀ s,s ∈ t.seen → s.ids = []) (e1 : kR c t.seen x = l) (e2 : nO c l = a) :
    aS Tryz.prog 14 [.pr (HP c t) 0,.i 0] [] (.sl 0 0 (qS a).length 1) [.arr (ints (qS a)) 1] := by
  have h1 := KC (k := 0) hc h hk (by omega) (fun s hs => by rw [hids s hs];exact cM _)
  rw [e1,e2] at h1;exact h1
theorem NB {c : Cx} {t : Tr} {x : Sd} {l a : List Int} (lot : Int) (hc : iY c) (h : kS c t) (hk : t.sales = [x]) (hl : t.seen.length ≤ 10) (hids : ∀ s,s ∈ t.seen → s.ids = []) (e1 : kR c t.seen x = l) (e2 : nO c l = a) :
    aS Tryz.prog 22 [.pr (HP c t) 0,.i lot] [] (.sl 0 0 (if lot ∈ qS a then [0] else [] : List Int).length 1) [.arr (ints (if lot ∈ qS a then [0] else [])) 1] := by
  have h1 := JG c t lot hc h (by omega) (by rw [hk];exact (by decide : 1 ≤ 100000)) (fun s hs => by rw [hids s hs];exact cM _)
  rw [zG1 hk,e1,e2] at h1;exact h1
theorem zT4 : ∀ s,s ∈ u2.seen → s.ids = [] := by intro s hs;simp only [u2,bS,kB,or_false] at hs;subst hs;rfl
theorem zT3 : ∀ s,s ∈ zD9.seen → s.ids = [] := by intro s hs;simp only [zD9,bS,kB,or_false] at hs;rcases hs with rfl | rfl <;> rfl
theorem zT2 : ∀ s,s ∈ zD8.seen → s.ids = [] := by intro s hs;simp only [zD8,bS,kB,or_false] at hs;rcases hs with rfl | rfl | rfl <;> rfl
theorem CT : aS Tryz.prog 6 [] [] (.b true) [] := by
  have hgv := TU;have s1 := T8 d0 u2 5 1 0 1 qL k2 (by decide) (by decide) yG5
  change aS _ _ _ _ _ (H8 d0 zD9) at s1;have s2 := T8 d0 u2 4 0 1 0 qL k2 (by decide) (by decide) yG4
  change aS _ _ _ _ _ (H8 d0 zP0) at s2;have s3 := T8 d0 zP0 5 0 0 0 qL yH3 (by decide) (by decide) yG3
  change aS _ _ _ _ _ (H8 d0 zD8) at s3;have q1 := T9 qL k2 (x := BW) rfl (by decide) zT4 yE7 zY3
  have q2 := FV qL k2 (x := BW) rfl (by decide) zT4 yE7 zY3
  have q3 := NB 1 qL k2 (x := BW) rfl (by decide) zT4 yE7 zY3
  have q4 := T9 qL yE4 (x := BW) rfl (by decide) zT3 yE6 yF7
  have q5 := FV qL yE4 (x := BW) rfl (by decide) zT3 yE6 yF7
  have q6 := NB 1 qL yE4 (x := BW) rfl (by decide) zT3 yE6 yF7
  have q7 := T9 qL yE3 (x := BW) rfl (by decide) zT2 yE5 zY3
  have q8 := FV qL yE3 (x := BW) rfl (by decide) zT2 yE5 zY3
  have q9 := NB 1 qL yE3 (x := BW) rfl (by decide) zT2 yE5 zY3
  change aS _ _ _ _ (.tup [.i 0,.b false]) _ at q1 q7;change aS _ _ _ _ (.tup [.i 0,.b true]) _ at q4;change aS _ _ _ _ (.sl 0 0 2 1) [.arr [[.i 0],[.i 1]] 1] at q2 q8;change aS _ _ _ _ (.sl 0 0 1 1) [.arr [[.i 0]] 1] at q5 q3 q9;change aS _ _ _ _ (.sl 0 0 0 1) [.arr [] 1] at q6;have i1 := fO u2.seen;have i2 := fU d0 u2.sales;have i3 := gB u2.ord;have j1 := fO zD9.seen;have j2 := fU d0 zD9.sales;have j3 := gB zD9.ord;have l1 := fO zP0.seen;have l2 := fU d0 zP0.sales;have l3 := gB zP0.ord;have m1 := fO zD8.seen;have m2 := fU d0 zD8.sales;have m3 := gB zD8.ord;generalize u2 = U2 at *;generalize zD9 = U3 at *;generalize zP0 = V3 at *;generalize zD8 = V4 at *;generalize d0 = D at *;have t1 := WI [0,1] [0,1] (by decide)
  rw [show decide (([0,1] : List Int) = [0,1]) = true from rfl] at t1
  have t2 := WI [0] [0] (by decide)
  rw [show decide (([0] : List Int) = [0]) = true from rfl] at t2
  refine bW T Tryz.func6 rfl rfl rfl rfl ?_
  (repeat' (first|refine wS ?_|(refine rg 0 (aV ?_))|(refine rg 1 (cD (by exact fL rfl rfl hgv (.inr ⟨rfl,rfl,by simp⟩)) rfl ?_);refine aV ?_)|refine nZ ?_));refine fC [(1,.ptr 0 0)] (UU D U2) ⟨[0,1,2,3,4],rfl,(by repeat first|exact trivial|refine ⟨rfl,?_⟩),⟨.inr rfl,.inr rfl,.inr (aC rfl (bE _ i1) i1),.inr (aC rfl (bE _ i2) i2),.inr (aC rfl (bE _ i3) i3),trivial⟩,by decide,kQ _⟩ ?_
  (repeat' (first|refine wS ?_|(refine rg 2 (cD (by exact fL rfl rfl hgv (.inr ⟨rfl,rfl,by simp⟩)) rfl ?_);refine aV ?_)|refine nZ ?_));refine fC [(1,.ptr 0 0),(2,.ptr 5 0)] (zP1 D U2 (yC6 D U2)) ⟨[0,1,2,3,4,5,6,7,8,9],rfl,(by repeat first|exact trivial|refine ⟨rfl,?_⟩),⟨.inr rfl,.inr rfl,.inr (aC rfl rfl i1),.inr (aC rfl rfl i2),.inr (aC rfl rfl i3),.inr rfl,.inr rfl,.inr (aC rfl (bE _ i1) i1),.inr (aC rfl (bE _ i2) i2),.inr (aC rfl (bE _ i3) i3),trivial⟩,by decide,kQ _⟩ ?_
  (repeat' (first|refine wS ?_|refine wK ?_|refine wU ?_|(refine rg 3 (mW rfl (vV (by exact xI PT rfl rfl rfl) ?_));refine mW rfl (yN rfl (yV (by exact xI PT rfl rfl rfl) ?_));refine pV ?_)|refine nZ ?_));all_goals try (exfalso;omega)
  (repeat' (first|refine wS ?_|(refine rg 5 (mW rfl (vV (by exact fB rfl rfl q1 (.cons (mD rfl rfl rfl rfl rfl rfl rfl rfl) (.cons (.v _) .nil)) rfl rfl) ?_));refine mW rfl (xW rfl (xW rfl (rK ?_))))|refine nZ ?_));all_goals try (exfalso;omega)
  (repeat' (first|refine wS ?_|(refine rg 6 (mW rfl (cD (by exact fL rfl rfl q2 (.inl ⟨.cons (mD rfl rfl rfl rfl rfl rfl rfl rfl) (.cons (.v _) .nil),rfl⟩)) rfl ?_));refine mL 26 rfl rfl rfl rfl ?_;refine cD (by exact bD T rfl rfl (by decide) (by decide) rfl rfl rfl) rfl ?_;refine mL 27 rfl rfl rfl rfl ?_;refine vV (kC (t1)) (mW rfl (yN rfl (gT (cD (by exact fL rfl rfl q3 (.inl ⟨.cons (mD rfl rfl rfl rfl rfl rfl rfl rfl) (.cons (.v _) .nil),rfl⟩)) rfl ?_))));refine mL 31 rfl rfl rfl rfl ?_;refine gT (cD (by exact bD T rfl rfl (by decide) (by decide) rfl rfl rfl) rfl ?_);refine mL 32 rfl rfl rfl rfl ?_;refine yV (kC (t2)) (pW rfl (mW rfl (yN rfl (yV (dI rfl) (pW rfl (aV ?_)))))))|refine nZ ?_));all_goals try (exfalso;omega)
  refine fC [(1,.ptr 0 0),(2,.ptr 5 0),(5,.b true)] (zP1 D U2 (yC6 D U2)) ⟨[0,1,2,3,4,5,6,7,8,9],rfl,(by repeat first|exact trivial|refine ⟨rfl,?_⟩),⟨.inr rfl,.inr rfl,.inr (aC rfl rfl i1),.inr (aC rfl rfl i2),.inr (aC rfl rfl i3),.inr rfl,.inr rfl,.inr (aC rfl rfl i1),.inr (aC rfl rfl i2),.inr (aC rfl rfl i3),trivial⟩,by decide,kQ _⟩ ?_
  (repeat' (first|refine wS ?_|(refine rg 7 (mW rfl (vV (by exact eS T rfl rfl rfl rfl) ?_));refine eP [0,1,2,3,4] rfl rfl (s1) rfl rfl (by decide) ⟨.inr rfl,.inr rfl,.inr (aC rfl rfl i1),.inr (aC rfl rfl i2),.inr (aC rfl rfl i3),trivial⟩ (by simp) rfl ?_;refine aV ?_)|refine nZ ?_));all_goals try (exfalso;omega)
  refine fC [(1,.ptr 0 0),(2,.ptr 5 0),(5,.b true),(6,.i 0)] (zP1 D U3 (yC6 D U2)) ⟨[0,1,10,3,11,5,6,7,8,9],rfl,(by repeat first|exact trivial|refine ⟨rfl,?_⟩),⟨.inr rfl,.inr rfl,.inr (aC rfl (bE _ j1) j1),.inr (aC rfl (bE _ j2) j2),.inr (aC rfl (bE _ j3) j3),.inr rfl,.inr rfl,.inr (aC rfl rfl i1),.inr (aC rfl rfl i2),.inr (aC rfl rfl i3),trivial⟩,by decide,kQ _⟩ ?_
  (repeat' (first|refine wS ?_|(refine rg 8 (mW rfl (vV (by exact fB rfl rfl q4 (.cons (mD rfl rfl rfl rfl rfl rfl rfl rfl) (.cons (.v _) .nil)) rfl rfl) ?_));refine mW rfl (xW rfl (xW rfl (rK ?_))))|refine nZ ?_));all_goals try (exfalso;omega)
  (repeat' (first|refine wS ?_|(refine rg 9 (mW rfl (vV (dX rfl rfl) (mW rfl (yN rfl (gT (cD (by exact fL rfl rfl q5 (.inl ⟨.cons (mD rfl rfl rfl rfl rfl rfl rfl rfl) (.cons (.v _) .nil),rfl⟩)) rfl ?_))))));refine mL 51 rfl rfl rfl rfl ?_;refine gT (cD (by exact bD T rfl rfl (by decide) (by decide) rfl rfl rfl) rfl ?_);refine mL 52 rfl rfl rfl rfl ?_;refine yV (kC (t2)) (pW rfl (mW rfl (yN rfl (gT (cD (by exact fL rfl rfl q6 (.inl ⟨.cons (mD rfl rfl rfl rfl rfl rfl rfl rfl) (.cons (.v _) .nil),rfl⟩)) rfl ?_)))));refine mL 57 rfl rfl rfl rfl ?_;refine gT (qW T rfl (yV (dX rfl rfl) (pW rfl (mW rfl (yN rfl (pW rfl (mW rfl (yN rfl (yV (dX rfl rfl) ?_)))))))));refine pW rfl (aV ?_))|refine nZ ?_));all_goals try (exfalso;omega)
  refine fC [(1,.ptr 0 0),(2,.ptr 5 0),(5,.b true),(9,.b true)] (zP1 D U3 (yC6 D U2)) ⟨[0,1,2,3,4,5,6,7,8,9],rfl,(by repeat first|exact trivial|refine ⟨rfl,?_⟩),⟨.inr rfl,.inr rfl,.inr (aC rfl rfl j1),.inr (aC rfl rfl j2),.inr (aC rfl rfl j3),.inr rfl,.inr rfl,.inr (aC rfl rfl i1),.inr (aC rfl rfl i2),.inr (aC rfl rfl i3),trivial⟩,by decide,kQ _⟩ ?_
  (repeat' (first|refine wS ?_|(refine rg 10 (mW rfl (vV (by exact eS T rfl rfl rfl rfl) ?_));refine eP [5,6,7,8,9] rfl rfl (s2) rfl rfl (by decide) ⟨.inr rfl,.inr rfl,.inr (aC rfl rfl i1),.inr (aC rfl rfl i2),.inr (aC rfl rfl i3),trivial⟩ (by simp) rfl ?_;refine aV ?_)|refine nZ ?_));all_goals try (exfalso;omega)
  refine fC [(2,.ptr 0 0),(5,.b true),(9,.b true),(10,.i 0)] (UU D V3) ⟨[5,6,10,8,11],rfl,(by repeat first|exact trivial|refine ⟨rfl,?_⟩),⟨.inr rfl,.inr rfl,.inr (aC rfl (bE _ l1) l1),.inr (aC rfl (bE _ l2) l2),.inr (aC rfl (bE _ l3) l3),trivial⟩,by decide,kQ _⟩ ?_
  (repeat' (first|refine wS ?_|(refine rg 11 (mW rfl (vV (by exact eS T rfl rfl rfl rfl) ?_));refine eP [0,1,2,3,4] rfl rfl (s3) rfl rfl (by decide) ⟨.inr rfl,.inr rfl,.inr (aC rfl rfl l1),.inr (aC rfl rfl l2),.inr (aC rfl rfl l3),trivial⟩ (by simp) rfl ?_;refine aV ?_)|refine nZ ?_));all_goals try (exfalso;omega)
  refine fC [(2,.ptr 0 0),(5,.b true),(9,.b true),(10,.i 0),(11,.i 0)] (UU D V4) ⟨[0,1,5,3,6],rfl,(by repeat first|exact trivial|refine ⟨rfl,?_⟩),⟨.inr rfl,.inr rfl,.inr (aC rfl (bE _ m1) m1),.inr (aC rfl (bE _ m2) m2),.inr (aC rfl (bE _ m3) m3),trivial⟩,by decide,kQ _⟩ ?_
  (repeat' (first|refine wS ?_|(refine rg 12 (mW rfl (vV (by exact fB rfl rfl q7 (.cons (mD rfl rfl rfl rfl rfl rfl rfl rfl) (.cons (.v _) .nil)) rfl rfl) ?_));refine mW rfl (xW rfl (xW rfl (aV ?_))))|refine nZ ?_));all_goals try (exfalso;omega)
  (repeat' (first|refine wR ?_|(refine rg 13 (dH rfl (yN rfl (pW rfl (mW rfl (yN rfl (yV (dX rfl rfl) (pW rfl (mW rfl (yM ?_)))))))));refine yV (dX rfl rfl) (pW rfl (mW rfl (yN rfl (gT (cD (by exact fL rfl rfl q8 (.inl ⟨.cons (mD rfl rfl rfl rfl rfl rfl rfl rfl) (.cons (.v _) .nil),rfl⟩)) rfl ?_)))));refine mL 93 rfl rfl rfl rfl ?_;refine gT (cD (by exact bD T rfl rfl (by decide) (by decide) rfl rfl rfl) rfl ?_);refine mL 94 rfl rfl rfl rfl ?_;refine yV (kC (t1)) (pW rfl (mW rfl (yN rfl (gT (cD (by exact fL rfl rfl q9 (.inl ⟨.cons (mD rfl rfl rfl rfl rfl rfl rfl rfl) (.cons (.v _) .nil),rfl⟩)) rfl ?_)))));refine mL 99 rfl rfl rfl rfl ?_;refine gT (cD (by exact bD T rfl rfl (by decide) (by decide) rfl rfl rfl) rfl ?_);refine mL 100 rfl rfl rfl rfl ?_;refine yV (kC (t2)) (pW rfl (mW rfl (yN rfl (yV (dI rfl) (pW rfl (aV ?_)))))))|refine nZ ?_));all_goals try (exfalso;omega)
  all_goals exact rQ
end Go.Proofs.YtmmmeebiobjnbaaGreat
namespace Go.Ld
open Go.Ab Go.Proofs.YtmmmeebiobjnbaaGreat
theorem D1.nids {c : Cx} {l : List En} {k : Nat} {t : Tr} {x : Sd} (h : D1 c l k t) (hn : c.bs.length ≤ 6) (hx : x ∈ t.sales) : (kR c t.seen x).length ≤ 1000 := by
  obtain ⟨sb,sn,lk,ru⟩ := h.tr.sd x hx;obtain ⟨g,hg,hgm,hbg⟩ := AL (lk.gk.mid.find sb);have hwl := lk.gk.mid.wl g hgm;refine bL (fQ _ _) ?_;unfold D0;rw [hg];exact bL (I6 (g := g) (i := g.1.idxOf x.s.b)) hwl
end Go.Ld
namespace Go.Proofs.YtmmmeebiobjnbaaGreat
open Go Go.Ab Go.Ld
attribute [local irreducible] VC AW cF aS iZ yK
set_option maxHeartbeats 4000000
theorem zP9 (n : Nat) (hn : n ≤ 17592186043904) : aS Tryz.prog 7 [.i (n : Int)] [] (.rowE (ints (nats (List.range n))) 1) [] :=
  kH (by simp) (fX (bB _)) (yB4 n hn)
end Go.Proofs.YtmmmeebiobjnbaaGreat
namespace Go.Ab
open Go
section
variable {P : Program} {env : eA} {h : Hp} {d : Option Nat} {ty : TypeId} {pos : String} {af : Array Edge} {g : Option (Nat × Bool)}
theorem vU {x : Operand} {f : FuncId} {fs cs us xs : List AV} {args : List Operand} {ats : Array TypeId} {es : List (List AV)} {len sz : Nat} (hx : evu env x = some (.clo (.func f) fs cs)) (ha : wM env args = some us)
    (hc : aS P f xs [] (.sl 0 0 len sz) [.arr es sz]) (hv : mB h (fs ++ us ++ cs) xs) (hn : len = es.length) (hr : AB.rf (.arr es sz) = true) (hi : AV.idfL es.flatten = true) :
    cF P ⟨d,.call { callee := .value x,args := args.toArray,argTypes := ats },ty,pos,af,g⟩ env h 0 (fun _ => .rowE es sz) (fun _ => []) := by
  intro ρ S a w p q hq K Q hk;have hxv := p.evu hx;simp only [R] at hxv;obtain ⟨ys,zs,e1,h1,h2⟩ := hxv;have hall : RL S w (fs ++ us ++ cs) ρ (ys.toList ++ args.map a.eval ++ zs.toList) := iJ (iJ h1 (sF p ha)) h2;obtain ⟨hf,hc⟩ := hc;have hargs := lF p.blk hv hall;have hS1w : ∀ b,(S b ∨ kM h ρ b) → b < w.heap.size := fun b hb => by
    rcases hb with hb | ⟨k,x,o,_,_,hb⟩
    · exact p.stab b hb
    · exact p.rng k _ hb
  have hs0 : HS (nA w (fun _ => none) (fun b => S b ∨ kM h ρ b) []) (fun _ => none) (fun b => S b ∨ kM h ρ b) [] w := ⟨fun _ _ => rfl,(fun _ _ h => by cases h),(fun k b hb => by simp at hb),(fun k b p hb => by simp at hb),(fun k _ b _ _ _ hb => by simp at hb),hS1w,nF.refl _ _,fun _ h => h,fun _ h => .inl h,aX _,(fun _ h => by simp [nA] at h),p.glob.st fun _ h => .inl h⟩
  have hcall := hc (fun _ => none) (fun b => S b ∨ kM h ρ b) w _ hs0 hargs;unfold Oper.wp;have hrun : (execOp a.eval ⟨d,.call { callee := .value x,args := args.toArray,argTypes := ats },ty,pos,af,g⟩).run P w = .ok (.enter f (ys.toList ++ args.map a.eval ++ zs.toList).toArray) w := by
    have e2 : (ys ++ (args.toArray.map a.eval) ++ zs) = (ys.toList ++ args.map a.eval ++ zs.toList).toArray := by
      apply Array.ext';simp
    simp only [execOp,resolve,e1,Deferred.ofValue,Sem.run_bind,Sem.run_pure,Result.andThen_ok,invoke];rw [e2];exact vI hf
  rw [hrun];simp only [Oper.upon];refine hcall.mono ?_;rintro e w' ⟨y,ρ',S',rfl,hs,hy⟩;simp only;have hM : ∀ b,(nA w (fun _ => none) (fun b => S b ∨ kM h ρ b) []).M b → w.heap.size ≤ b := fun b hb => by
    rcases hb with hb | ⟨k,x,o,hb,_⟩
    · exact hb
    · simp at hb
  have hext : nF (fun _ => False) w w' := hs.ext.mono fun b hb hm => by have := hM b hm;simp [nA] at hb;omega
  have hb0 : RB S w' ρ' (ρ' 0) (.arr es sz) := zQ5 hr (hs.blk 0 _ rfl);have hy0 : R S w' (.sl 0 0 es.length sz) ρ' y := by
    rw [← hn];exact UO ρ' _ _ rfl hy
  have hz := L0 ρ' ρ _ _ rfl (uH hi hb0 hy0);refine hk y ρ (fun b => S b ∨ ∃ o,ρ' 0 = some (b,o)) w' ⟨hext,rfl,fun _ _ => rfl,fun _ h => .inl h,fun b hb => ?_,fun k r h1 h2 => by omega,fun k k' r r' h1 h2 => by omega,?_,fun j b hb => by simp at hb⟩
  · rcases hb with hb | ⟨o,ho⟩
    · exact .inl hb
    · exact .inr ⟨hM _ (hs.live 0 _ _ rfl (by simp) ho).1,hs.rng 0 _ ho⟩
  · exact hz
end
end Go.Ab
namespace Go.Ld
open Go.Ab Go.Proofs.YtmmmeebiobjnbaaGreat
theorem zG2 {c : Cx} {t : Tr} {lot : Int} {j : Nat} (h : (j : Int) ∈ S8 c t lot ∨ ∃ x,t.sales[j]? = some x ∧ lot ∈ qS (nO c (kR c t.seen x))) : (j : Int) ∈ S8 c t lot := by
  rcases h with h | ⟨x,hx,h⟩
  · exact h
  · unfold S8;refine bC.2 ⟨j,eJ.2 ⟨eW.2 (aA.1 hx).1,decide_eq_true ?_⟩,rfl⟩;unfold qT;rw [hx];exact h
theorem zG3 {c : Cx} {t : Tr} {lot : Int} : (S8 c t lot).length ≤ t.sales.length := by
  unfold S8;rw [nats,aY];exact bL (fQ _ _) (by simp)
theorem D1.see' {c : Cx} {l : List En} {k : Nat} {t : Tr} {e : En} (hc : iY c) (h : D1 c l k t) (hk : k < l.length) (he : l[k] = e) (hs : e.sold = false) (h0 : (fK c t.gs e.s).1 = 0) : D1 c l (k + 1) ⟨(fK c t.gs e.s).2,t.seen ++ [e.s],t.sales,t.ord ++ [false]⟩ := by subst he;exact h.see hc hk hs h0
theorem D1.sell' {c : Cx} {l : List En} {k : Nat} {t : Tr} {e : En} (h : D1 c l k t) (hk : k < l.length) (he : l[k] = e) (hs : e.sold = true) (h0 : pM c t e.x = 0) : D1 c l (k + 1) (yB t e.x) := by subst he;exact h.sell hk hs h0
end Go.Ld
namespace Go.Proofs.YtmmmeebiobjnbaaGreat
open Go Go.Ab Go.Ld
attribute [local irreducible] VC AW cF aS iZ yK
set_option maxHeartbeats 8000000
theorem VG (ks : List KD) (ls : List LT) (ps : List Int) (bs : List BX) (m st er sl : Int) (l : List En) (d : List Int) (w : Bool) (hb : bs.length ≤ 17592186043904) (hids : ∀ e, e ∈ l → e.s.ids.length ≤ 9223372036854775807)
    (hf : aS Tryz.prog 9 [wQ ks ls (nats (List.range bs.length)) bs,iE m st er sl,.i 6] [] (.b w) []) (hx : KX l 12 4 = false ∨ w = false ∨ 20 < d.length) :
    aS Tryz.prog 4 [wQ ks ls ps bs,iE m st er sl,.rowE (O8 l) 10,.rowE (ints d) 1] [] (.b true) [] := by
  have hbl : (dR bs).length = bs.length := aY _;have hi := zP9 bs.length hb;rw [← hbl] at hi;rw [hbl] at hi;have hsm := CT;have hel := F8 l;have hdl : (ints d).length = d.length := cW _;have hfe := YY l 12 4 (by omega) (by omega) hids
  generalize KX l 12 4 = v at *;generalize nats (List.range bs.length) = I at *;rw [← hbl] at hi;cases v
  all_goals cases w
  all_goals
    first | (have hx := (hx.resolve_left (by decide)).resolve_left (by decide)) | skip
    refine bW T Tryz.func4 rfl rfl rfl rfl ?_
    (repeat' (first|refine wS ?_|(refine rg 0 (cD (cQ rfl rfl) rfl (cD (cQ rfl rfl) rfl (aV ?_))))|(refine rg 1 (vV (kC (hsm)) (aV ?_)))|(refine rg 2 (iB T rfl (qW T rfl (vV (kC (hi)) (fW T rfl (bA T rfl rfl rfl rfl rfl rfl (by decide) rfl ?_))))))|refine nZ ?_));refine gY 4 (cs := [.rowE (gN ks) 2,.rowE (iS ls) 3,.rowE (ints I) 1,.rowE (dR bs) 3]) rfl rfl rfl ?_
    refine gY 5 (cs := [.i m,.i st,.i er,.i sl]) rfl rfl rfl ?_
    (repeat' (first|refine wS ?_|refine wR ?_|refine wT ?_|(refine wC rfl ?_ ?_<;>(intro hb;(try simp only [nm] at hb);try (exfalso;omega)))|(refine rg 3 (mW rfl (vV (kC (hfe)) (vV (dI rfl) (mV ?_))));(all_goals first|(refine gT (lW T rfl (gT (lW T rfl (gT (vV (kC (hf)) (gT (vV (dI rfl) ?_))))))))|(iterate 4 refine gF ?_));(all_goals (refine pW rfl (mV ?_)));(all_goals first|(refine gT (mW rfl (gT (qW T rfl (gT (vV (eU rfl rfl) ?_))))))|(iterate 3 refine gF ?_));(all_goals (refine pV ?_)))|(refine rg 4 (mW rfl (aV ?_)))|refine nZ ?_));all_goals try (exfalso;omega)
    all_goals exact rQ
theorem zR3 (c : Cx) (hc : iY c) (hn6 : c.bs.length ≤ 6) (ps : List Int) (l : List En) (d : List Int)
    (hf : aS Tryz.prog 9 [wQ c.ks c.ls (nats (List.range c.bs.length)) c.bs,iE c.m c.st c.er c.sl,.i 6] [] (.b true) [])
    (hids : ∀ e,e ∈ l → e.s.ids.length ≤ 9223372036854775807) (hfew : KX l 12 4 = true) (hd20 : d.length ≤ 20) :
    aS Tryz.prog 4 [wQ c.ks c.ls ps c.bs,iE c.m c.st c.er c.sl,.rowE (O8 l) 10,.rowE (ints d) 1] [] (.b true) [] := by
  have hbl : (dR c.bs).length = c.bs.length := aY _;have hi := zP9 c.bs.length (by omega)
  rw [← hbl] at hi;rw [hbl] at hi;have hsm := CT;have hel := F8 l;have hdl : (ints d).length = d.length := cW _;have hfe := YY l 12 4 (by omega) (by omega) hids
  rw [hfew] at hfe;obtain ⟨hl16,h5,hid2⟩ := YZ hfew;have hn := VK c hc;have hg0 := D1.new hc l;have ht0 := G8.new hc;have hm0 := hc.s.1;have hm1 := hc.s.2.1;generalize nats (List.range c.bs.length) = I at *;rw [← hbl] at hi;refine bW T Tryz.func4 rfl rfl rfl rfl ?_
  (repeat' (first|refine wS ?_|(refine rg 0 (cD (cQ rfl rfl) rfl (cD (cQ rfl rfl) rfl (aV ?_))))|(refine rg 1 (vV (kC (hsm)) (aV ?_)))|(refine rg 2 (iB T rfl (qW T rfl (vV (kC (hi)) (fW T rfl (bA T rfl rfl rfl rfl rfl rfl (by decide) rfl ?_))))))|refine nZ ?_));refine gY 4 (cs := [.rowE (gN c.ks) 2,.rowE (iS c.ls) 3,.rowE (ints I) 1,.rowE (dR c.bs) 3]) rfl rfl rfl ?_
  refine gY 5 (cs := [.i c.m,.i c.st,.i c.er,.i c.sl]) rfl rfl rfl ?_
  (repeat' (first|refine wS ?_|refine wK ?_|(refine wC rfl ?_ ?_<;>(intro hb;(try simp only [nm] at hb);try (exfalso;omega)))|(refine rg 3 (mW rfl (vV (kC (hfe)) (vV (dI rfl) (mW rfl (yO T rfl (yO T rfl (yV (kC (hf)) (yV (dI rfl) (pV ?_)))))))));refine mW rfl (yN rfl (gT (qW T rfl (yV (eU rfl rfl) (pV ?_))))))|refine nZ ?_));all_goals try (exfalso;omega)
  (repeat' (first|refine wS ?_|(refine rg 5 (lW T rfl (iB T rfl (iB T rfl (iB T rfl (cD (by exact fL rfl rfl hn (.inr ⟨rfl,rfl,by simp⟩)) rfl ?_)))));refine mW rfl (xW rfl (xW rfl (rK ?_))))|refine nZ ?_));all_goals try (exfalso;omega)
  refine nY 2 3 5 rfl rfl (by decide) ?_
  refine nY 2 4 6 rfl rfl (by decide) ?_
  refine nY 2 5 1 rfl rfl (by decide) ?_
  refine fC [(2,.rowE (O8 l) 10),(3,.rowE (ints d) 1),(4,.pr [.rowE (gN c.ks) 2,.rowE (iS c.ls) 3,.rowE (ints I) 1,.rowE (dR c.bs) 3] 0),(5,.pr [.i c.m,.i c.st,.i c.er,.i c.sl] 0),(9,.b true),(10,.ptr 0 0),(11,.i 0)] (UU c ⟨pT c,[],[],[]⟩) ⟨[2,3,4,5,6],rfl,(by repeat first|exact trivial|refine ⟨rfl,?_⟩),⟨.inr rfl,.inr rfl,.inr rfl,.inr rfl,.inr rfl,trivial⟩,by decide,kQ _⟩ ?_
  (repeat' (first|refine wS ?_|refine wK ?_|refine wU ?_|(refine rg 6 (mW rfl (vV (fZ rfl rfl) (mW rfl (yN rfl (yV (by exact xI PT rfl rfl rfl) ?_)))));refine pV ?_)|(refine rg 8 (iB T rfl (aV ?_)))|(refine rg 9 (iB T rfl (aV ?_)))|(refine rg 10 (aV ?_))|refine nZ ?_));all_goals try (exfalso;omega)
  (repeat' (first|refine wS ?_|refine wB ?_|(refine rg 11 (vV (dJ rfl) (qC 15 1 rfl (by decide) ?_)))|(refine rg 12 (aV ?_))|refine nZ ?_));all_goals try (exfalso;omega)
  refine dQ (X := {x : Nat × Tr × List Int × List BX × Int × List Int // x.1 ≤ l.length ∧ D1 c l x.1 x.2.1 ∧ G8 c x.2.1 x.2.2.1 x.2.2.2.1 x.2.2.2.2.1 x.2.2.2.2.2}) (fun x => [(2,.rowE (O8 l) 10),(3,.rowE (ints d) 1),(4,.pr [.rowE (gN c.ks) 2,.rowE (iS c.ls) 3,.rowE (ints I) 1,.rowE (dR c.bs) 3] 0),(5,.pr [.i c.m,.i c.st,.i c.er,.i c.sl] 0),(9,.b true),(10,.ptr 0 0),(12,.rowE (ints x.1.2.2.1) 1),(13,.rowE (dR x.1.2.2.2.1) 3),(14,.i x.1.2.2.2.2.1),(15,.sl 5 0 x.1.2.2.2.2.2.length 1),(16,.i (x.1.1 : Int))]) (fun x => zP1 c x.1.2.1 [.arr (ints x.1.2.2.2.2.2) 1]) (fun x => l.length - x.1.1) ⟨(0,⟨pT c,[],[],[]⟩,I,c.bs,0,[]),cM _,hg0,ht0⟩ ⟨[0,1,2,3,4,5],rfl,(by repeat first|exact trivial|refine ⟨rfl,?_⟩),⟨.inr rfl,.inr rfl,.inr rfl,.inr rfl,.inr rfl,.inr rfl,trivial⟩,by decide,kQ _⟩ ?_
  rintro ⟨⟨k,t,p,bs,M,real⟩,hk,hL,hT⟩;dsimp only at hk hL hT ⊢;have hM0 := hT.m0;have hM1 := hT.m1;obtain ⟨hsn,hll⟩ := hL.len;have hod := hL.od;have hrl := hT.len;have hpl : (ints p).length = c.bs.length := by rw [cW];exact hT.re.len
  have hpl2 : p.length = c.bs.length := hT.re.len;have hrr : (ints real).length = real.length := cW _;by_cases hlt : k < l.length
  · have hg := LC hlt;have hidk := hid2 l[k].s;have hmem : l[k].sold = false → l[k].s ∈ pX l := fun hq => bC.2 ⟨l[k],eJ.2 ⟨aQ hlt,by rw [hq];rfl⟩,rfl⟩
    generalize he : l[k] = e at *;have hL3 := hL.skip hlt;obtain ⟨es,s,x⟩ := e;dsimp only at *;cases es with
    | true =>
      have hsl := PI c t x hL.tr (by omega) (by omega) (by omega) (by omega)
      by_cases h0 : pM c t x = 0
      · have hb := CW h0;have hq : ∀ j : Int,j = x.b → (ints p)[j.toNat]? = some [AV.i (p.getD x.b.toNat 0)] := fun j hj => qG (l := p) (j := j) (i := x.b.toNat) 0 (by omega) (by omega)
        have hL2 := hL.sell' hlt he rfl h0;have hT2 := hT.sell x hb;have e1 : ints (real ++ [p.getD x.b.toNat 0]) = ints real ++ [[.i (p.getD x.b.toNat 0)]] := by rw [ints,bY];rfl
        have e2 : (real ++ [p.getD x.b.toNat 0]).length = real.length + 1 := by simp
        have i1 := bB (real ++ [p.getD x.b.toNat 0]);rw [e1] at i1;rw [if_pos h0,h0] at hsl;change D1 c l (k + 1) (yB t x) at hL2;change G8 c (yB t x) _ _ _ _ at hT2;generalize yB t x = t' at *;generalize p.getD x.b.toNat 0 = pv at *;obtain ⟨xt,xo,xb,xn⟩ := x;dsimp only at *;generalize ints real = A at *;dsimp only [yF1] at hg
        (repeat' (first|refine wS ?_|refine wB ?_|refine wK ?_|refine wE ?_|refine wT ?_|(refine wC rfl ?_ ?_<;>(intro hb;(try simp only [nm] at hb);try (exfalso;omega)))|(refine rg 13 (dH rfl (qW T rfl (vV (aM rfl rfl) ?_))))|(refine rg 15 (dH rfl (vV (ix T rfl (by omega) (pA _) hg) (GG T ?_))))|(refine rg 16 (dH rfl (mW rfl (vV (ix T rfl (by omega) (pA _) hg) (iB T rfl (eP [0,1,2,3,4] rfl rfl (hsl) rfl rfl (by decide) ⟨.inr rfl,.inr rfl,.inr (aC rfl rfl (fO _)),.inr (aC rfl rfl (fU _ _)),.inr (aC rfl rfl (gB _)),trivial⟩ (by simp) rfl ?_)))));refine vV (dX rfl rfl) ?_)|(refine rg 17 (dH rfl (dH rfl (vV (ix T rfl (by omega) (pA _) hg) (fW T rfl (iB T rfl (mW rfl (qW T rfl (vV (cP rfl rfl (by omega) (by omega)) (vV (GF rfl rfl) ?_)))))))));refine vV (zM rfl rfl) (vV (ix T rfl (by omega) (dU p) (hq _ (by omega))) (lW T rfl (cD (by exact bD T rfl rfl (by decide) (by decide) rfl rfl rfl) rfl ?_)));refine fY T rfl rfl rfl rfl rfl rfl (by omega) (jJ.whole rfl rfl) rfl (by simp;omega) (by simp;omega) rfl ?_;refine aV ?_)|(refine iA 14 rfl rfl rfl (by omega) (by omega) ?_)|refine nZ ?_));all_goals try (exfalso;omega)
        all_goals exact ⟨⟨(k + 1,t',p,bs,M,real ++ [pv]),by dsimp only;omega,hL2,hT2⟩,by dsimp only;omega,⟨[0,1,2,6,7,9],rfl,(by dsimp only;rw [e2];(repeat (first | exact trivial | refine ⟨rfl,?_⟩))),⟨.inr rfl,.inr rfl,.inr (aC rfl (bE _ (fO _)) (fO _)),.inr (aC rfl (bE _ (fU _ _)) (fU _ _)),.inr (aC rfl (bE _ (gB _)) (gB _)),.inr (aC rfl (by dsimp only;rw [e1];exact jN (by omega)) (by dsimp only;rw [e1];exact i1)),trivial⟩,by decide,kQ _⟩⟩
      · rw [if_neg h0] at hsl;generalize pM c t x = code at *;obtain ⟨xt,xo,xb,xn⟩ := x
        (repeat' (first|refine wS ?_|refine wB ?_|refine wK ?_|refine wE ?_|refine wT ?_|refine wU ?_|(refine wC rfl ?_ ?_<;>(intro hb;(try simp only [nm] at hb);try (exfalso;omega)))|(refine rg 13 (dH rfl (qW T rfl (vV (aM rfl rfl) ?_))))|(refine rg 15 (dH rfl (vV (ix T rfl (by omega) (pA _) hg) (GG T ?_))))|(refine rg 16 (dH rfl (mW rfl (vV (ix T rfl (by omega) (pA _) hg) (iB T rfl (eP [0,1,2,3,4] rfl rfl (hsl) rfl rfl (by decide) ⟨.inr rfl,.inr rfl,.inr (aC rfl rfl (fO _)),.inr (aC rfl rfl (fU _ _)),.inr (aC rfl rfl (gB _)),trivial⟩ (by simp) rfl ?_)))));refine vV (gX rfl rfl (by omega)) ?_)|(refine iA 14 rfl rfl rfl (by omega) (by omega) ?_)|refine nZ ?_));all_goals try (exfalso;omega)
        all_goals exact ⟨⟨(k + 1,t,p,bs,M,real),by dsimp only;omega,hL3,hT⟩,by dsimp only;omega,⟨[0,1,2,3,4,5],rfl,(by repeat first|exact trivial|refine ⟨rfl,?_⟩),⟨.inr rfl,.inr rfl,.inr (aC rfl (bE _ (fO _)) (fO _)),.inr (aC rfl (bE _ (fU _ _)) (fU _ _)),.inr (aC rfl (bE _ (gB _)) (gB _)),.inr (aC rfl rfl (bB _)),trivial⟩,by decide,kQ _⟩⟩
    | false =>
      have hids0 := hidk (hmem rfl);have hids1 : s.ids.length ≤ 9223372036854775807 := by omega
      have hright := JE c.bs.length s.k s.a s.b s.n s.ids hids1 ⟨by omega,by omega⟩
      rw [← hpl] at hright;change aS _ _ _ _ (.b (iC _ s)) _ at hright;rw [hpl] at hright;have hRok := fun q => mJ (n := c.bs.length) (s := s) q (by omega)
      have hsee1 := fun q => PJ c t s hc hL.tr (by omega) (by omega) (by omega) q
      have hL2 := fun q => hL.see' (e := ⟨false,s,x⟩) hc hlt he rfl q;have hTs := fun (dn : Int) hr a b h => hT.see (s := s) (done := dn) hc hn6 (hL.swap h5) hr a b h;have hagr := fun r1 r3 r4 => UM (s := s) hc hT.re r1 ⟨r3,r4⟩ hids1;have haft := fun r1 r2 r3 r4 dn => zB4 (s := s) hc hT.re r1 r2 ⟨r3,r4⟩ hids1 dn;have hmi := LV c.st (p.getD s.a.toNat 0) s.k s.ids;change 0 ≤ pU c p s ∧ pU c p s ≤ 1 at hmi;obtain ⟨sk,sa,sb,sn,sids⟩ := s;obtain ⟨xt,xo,xb,xn⟩ := x;dsimp only at *;cases hr : iC c.bs.length ⟨sk,sa,sb,sn,sids⟩ with
      | false =>
        rw [hr] at hright;rw [← hpl] at hright
        (repeat' (first|refine wS ?_|refine wB ?_|refine wK ?_|refine wU ?_|(refine wC rfl ?_ ?_<;>(intro hb;(try simp only [nm] at hb);try (exfalso;omega)))|(refine rg 13 (dH rfl (qW T rfl (vV (aM rfl rfl) ?_))))|(refine rg 15 (dH rfl (vV (ix T rfl (by omega) (pA _) hg) (GG T ?_))))|(refine rg 18 (dH rfl (vV (ix T rfl (by omega) (pA _) hg) (iB T rfl (cD (cK T rfl) rfl (bA T rfl rfl rfl rfl rfl rfl (by decide) rfl ?_))))))|refine nZ ?_));all_goals try (exfalso;omega)
        refine gY 17 (cs := wM ⟨sk,sa,sb,sn,sids⟩) rfl rfl rfl ?_
        (repeat' (first|refine wE ?_|refine wT ?_|(refine rg 19 (mW rfl (qW T rfl (lW T rfl (vV (kC (hright)) (vV (dI rfl) ?_))))))|(refine iA 14 rfl rfl rfl (by omega) (by omega) ?_)|refine nZ ?_));all_goals try (exfalso;omega)
        all_goals exact ⟨⟨(k + 1,t,p,bs,M,real),by dsimp only;omega,hL3,hT⟩,by dsimp only;omega,⟨[0,1,2,3,4,5],rfl,(by repeat first|exact trivial|refine ⟨rfl,?_⟩),⟨.inr rfl,.inr rfl,.inr (aC rfl rfl (fO _)),.inr (aC rfl rfl (fU _ _)),.inr (aC rfl rfl (gB _)),.inr (aC rfl rfl (bB _)),trivial⟩,by decide,kQ _⟩⟩
      | true =>
        rw [hr] at hright;rw [← hpl] at hright;obtain ⟨r1,r2,r3,r4⟩ := hRok hr;have hag := hagr r1 r3 r4;have haf0 := haft r1 r2 r3 r4;have hst := fun dn => hTs dn hr
        generalize pU c p ⟨sk,sa,sb,sn,sids⟩ = mi at *;generalize lQ bs = q at *;generalize HR c p q ⟨sk,sa,sb,sn,sids⟩ = ag at *
        (repeat' (first|refine wS ?_|refine wB ?_|refine wK ?_|refine wU ?_|(refine wC rfl ?_ ?_<;>(intro hb;(try simp only [nm] at hb);try (exfalso;omega)))|(refine rg 13 (dH rfl (qW T rfl (vV (aM rfl rfl) ?_))))|(refine rg 15 (dH rfl (vV (ix T rfl (by omega) (pA _) hg) (GG T ?_))))|(refine rg 18 (dH rfl (vV (ix T rfl (by omega) (pA _) hg) (iB T rfl (cD (cK T rfl) rfl (bA T rfl rfl rfl rfl rfl rfl (by decide) rfl ?_))))))|refine nZ ?_));all_goals try (exfalso;omega)
        refine gY 17 (cs := wM ⟨sk,sa,sb,sn,sids⟩) rfl rfl rfl ?_
        (repeat' (first|refine wS ?_|refine wK ?_|refine wU ?_|(refine rg 19 (mW rfl (qW T rfl (lW T rfl (vV (kC (hright)) (vV (dI rfl) ?_))))))|(refine rg 20 (lW T rfl (iB T rfl (iB T rfl (dH rfl (lW T rfl (vV (kC (hag)) (mW rfl (xW rfl (xV ?_)))))))));refine rK ?_)|(refine rg 21 (aV ?_))|refine nZ ?_));all_goals try (exfalso;omega)
        apply Go.Ab.cutT (T := ∀ dn : Int,_)
        · intro rest;by_cases hkd : k < d.length
          · have hdg := qG (l := d) (j := (k : Int)) (i := k) 0 (by omega) rfl
            obtain ⟨dn,hdn⟩ : ∃ dn,dn = d.getD k 0 := ⟨_,rfl⟩;rw [← hdn] at hdg
            (repeat' (first|refine wS ?_|(refine wC rfl ?_ ?_<;>(intro hb;(try simp only [nm] at hb);try (exfalso;omega)))|(refine rg 22 (dH rfl (qW T rfl (vV (aM rfl rfl) ?_))))|(refine rg 23 (dH rfl (vV (ix T rfl (by omega) (dU _) hdg) (lW T rfl (aV ?_)))))|refine nZ ?_));all_goals try (exfalso;omega)
            all_goals exact fC [(2,.rowE (O8 l) 10),(3,.rowE (ints d) 1),(4,.pr [.rowE (gN c.ks) 2,.rowE (iS c.ls) 3,.rowE (ints I) 1,.rowE (dR c.bs) 3] 0),(5,.pr [.i c.m,.i c.st,.i c.er,.i c.sl] 0),(9,.b true),(10,.ptr 0 0),(12,.rowE (ints p) 1),(13,.rowE (dR bs) 3),(14,.i M),(15,.sl 5 0 real.length 1),(16,.i (k : Int)),(17,.pr (wM ⟨sk,sa,sb,sn,sids⟩) 0),(18,.i mi),(19,.b ag),(20,.i dn)] (zP1 c t [.arr (ints real) 1]) ⟨[0,1,2,3,4,5],rfl,(by repeat first|exact trivial|refine ⟨rfl,?_⟩),⟨.inr rfl,.inr rfl,.inr (aC rfl rfl (fO _)),.inr (aC rfl rfl (fU _ _)),.inr (aC rfl rfl (gB _)),.inr (aC rfl rfl (bB _)),trivial⟩,by decide,kQ _⟩ (rest.get dn)
          · (repeat' (first|refine wS ?_|refine wK ?_|(refine wC rfl (fun hb => ?_) (fun hb => ?_) <;> (((try simp only [nm] at hb);try (exfalso;omega))))|(refine rg 22 (dH rfl (qW T rfl (vV (aM rfl rfl) ?_))))|(refine nZ ?_)));all_goals try (exfalso;omega)
            all_goals exact fC [(2,.rowE (O8 l) 10),(3,.rowE (ints d) 1),(4,.pr [.rowE (gN c.ks) 2,.rowE (iS c.ls) 3,.rowE (ints I) 1,.rowE (dR c.bs) 3] 0),(5,.pr [.i c.m,.i c.st,.i c.er,.i c.sl] 0),(9,.b true),(10,.ptr 0 0),(12,.rowE (ints p) 1),(13,.rowE (dR bs) 3),(14,.i M),(15,.sl 5 0 real.length 1),(16,.i (k : Int)),(17,.pr (wM ⟨sk,sa,sb,sn,sids⟩) 0),(18,.i mi),(19,.b ag),(20,.i 0)] (zP1 c t [.arr (ints real) 1]) ⟨[0,1,2,3,4,5],rfl,(by repeat first|exact trivial|refine ⟨rfl,?_⟩),⟨.inr rfl,.inr rfl,.inr (aC rfl rfl (fO _)),.inr (aC rfl rfl (fU _ _)),.inr (aC rfl rfl (gB _)),.inr (aC rfl rfl (bB _)),trivial⟩,by decide,kQ _⟩ (rest.get 0)
        intro dn;have haf := haf0 dn;have hst := hst dn;generalize tI c p q ⟨sk,sa,sb,sn,sids⟩ dn = cn at *;generalize rF p ⟨sk,sa,sb,sn,sids⟩ dn = p' at *;generalize xU p bs ⟨sk,sa,sb,sn,sids⟩ dn = bs' at *;rcases haf with ⟨e1,haf⟩ | ⟨e1,haf⟩
        · obtain ⟨rfl,rfl⟩ := Bool.and_eq_true_iff.1 e1;by_cases hM2 : M + mi ≤ c.m
          · obtain ⟨h0,hT2⟩ := hst rfl rfl hM2;have hse := hsee1 h0;have hL2 := hL2 h0;generalize (⟨(fK c t.gs ⟨sk,sa,sb,sn,sids⟩).2,t.seen ++ [⟨sk,sa,sb,sn,sids⟩],t.sales,t.ord ++ [false]⟩ : Tr) = t' at *
            (repeat' (first|refine wS ?_|refine wK ?_|refine wU ?_|(refine rg 24 (lW T rfl (iB T rfl (iB T rfl (dH rfl (lW T rfl (mW rfl (vV (kC (haf)) (mW rfl (xV ?_)))))))));refine xW rfl (xW rfl (UX rfl (aV ?_))))|(refine rg 25 (mW rfl (vV (dI rfl) (mW rfl (yN rfl (yV (dI rfl) (pW rfl (mW rfl (yN rfl (yM ?_)))))))));refine yV (cC rfl rfl (by omega) (by omega)) (yP T rfl (yO T rfl (yV (V5 rfl rfl (by omega)) (pV ?_)))))|(refine rg 26 (mW rfl (lW T rfl (eP [0,1,2,3,4] rfl rfl (hse) rfl rfl (by decide) ⟨.inr rfl,.inr rfl,.inr (aC rfl rfl (fO _)),.inr (aC rfl rfl (fU _ _)),.inr (aC rfl rfl (gB _)),trivial⟩ (by simp) rfl ?_)));refine aV ?_)|(refine rg 27 (mW rfl (vV (dX rfl rfl) ?_)))|(refine rg 28 (mW rfl (vV (fZ rfl rfl) ?_)))|(refine rg 30 (dH rfl (vV (cC rfl rfl (by omega) (by omega)) (aV ?_))))|(refine rg 31 (mW rfl (aV ?_)))|(refine rg 32 (mW rfl (aV ?_)))|(refine iA 14 rfl rfl rfl (by omega) (by omega) ?_)|refine nZ ?_));all_goals try (exfalso;omega)
            all_goals exact ⟨⟨(k + 1,t',p',bs',M + mi,real),by dsimp only;omega,hL2,hT2⟩,by dsimp only;omega,⟨[0,1,6,3,7,5],rfl,(by repeat first|exact trivial|refine ⟨rfl,?_⟩),⟨.inr rfl,.inr rfl,.inr (aC rfl (bE _ (fO _)) (fO _)),.inr (aC rfl (bE _ (fU _ _)) (fU _ _)),.inr (aC rfl (bE _ (gB _)) (gB _)),.inr (aC rfl rfl (bB _)),trivial⟩,by decide,kQ _⟩⟩
          · (repeat' (first|refine wS ?_|refine wE ?_|refine tK rfl ?_|(refine rg 24 (lW T rfl (iB T rfl (iB T rfl (dH rfl (lW T rfl (mW rfl (vV (kC (haf)) (mW rfl (xV ?_)))))))));refine xW rfl (xW rfl (UX rfl (aV ?_))))|(refine rg 25 (mW rfl (vV (dI rfl) (mW rfl (yN rfl (yV (dI rfl) (pW rfl (mW rfl (yN rfl (yM ?_)))))))));refine yV (cC rfl rfl (by omega) (by omega)) (yP T rfl (yO T rfl (yV (QP rfl rfl (by omega)) (pV ?_)))))|(refine iA 14 rfl rfl rfl (by omega) (by omega) ?_)|(refine nZ ?_)));all_goals try (exfalso;omega)
            all_goals exact ⟨⟨(k + 1,t,p,bs,M,real),by dsimp only;omega,hL3,hT⟩,by dsimp only;omega,⟨[0,1,2,3,4,5],rfl,(by repeat first|exact trivial|refine ⟨rfl,?_⟩),⟨.inr rfl,.inr rfl,.inr (aC rfl rfl (fO _)),.inr (aC rfl rfl (fU _ _)),.inr (aC rfl rfl (gB _)),.inr (aC rfl rfl (bB _)),trivial⟩,by decide,kQ _⟩⟩
        · cases ag with
          | false =>
            (repeat' (first|refine wS ?_|refine wE ?_|refine wT ?_|(refine rg 24 (lW T rfl (iB T rfl (iB T rfl (dH rfl (lW T rfl (mW rfl (vV (kC (haf)) (mW rfl (xV ?_)))))))));refine xW rfl (xW rfl (UX rfl (aV ?_))))|(refine rg 25 (mW rfl (vV (dI rfl) (mV ?_)));(iterate 2 refine gF ?_);refine pW rfl (mV ?_);(iterate 6 refine gF ?_);refine pV ?_)|(refine iA 14 rfl rfl rfl (by omega) (by omega) ?_)|refine nZ ?_));all_goals try (exfalso;omega)
            all_goals exact ⟨⟨(k + 1,t,p,bs,M,real),by dsimp only;omega,hL3,hT⟩,by dsimp only;omega,⟨[0,1,2,3,4,5],rfl,(by repeat first|exact trivial|refine ⟨rfl,?_⟩),⟨.inr rfl,.inr rfl,.inr (aC rfl rfl (fO _)),.inr (aC rfl rfl (fU _ _)),.inr (aC rfl rfl (gB _)),.inr (aC rfl rfl (bB _)),trivial⟩,by decide,kQ _⟩⟩
          | true =>
            (repeat' (first|refine wS ?_|refine wE ?_|refine wT ?_|(refine rg 24 (lW T rfl (iB T rfl (iB T rfl (dH rfl (lW T rfl (mW rfl (vV (kC (haf)) (mW rfl (xV ?_)))))))));refine xW rfl (xW rfl (UX rfl (aV ?_))))|(refine rg 25 (mW rfl (vV (dI rfl) (mW rfl (yN rfl (yV (dI rfl) (pW rfl (mV ?_)))))));(iterate 6 refine gF ?_);refine pV ?_)|(refine iA 14 rfl rfl rfl (by omega) (by omega) ?_)|refine nZ ?_));all_goals try (exfalso;omega)
            all_goals exact ⟨⟨(k + 1,t,p,bs,M,real),by dsimp only;omega,hL3,hT⟩,by dsimp only;omega,⟨[0,1,2,3,4,5],rfl,(by repeat first|exact trivial|refine ⟨rfl,?_⟩),⟨.inr rfl,.inr rfl,.inr (aC rfl rfl (fO _)),.inr (aC rfl rfl (fU _ _)),.inr (aC rfl rfl (gB _)),.inr (aC rfl rfl (bB _)),trivial⟩,by decide,kQ _⟩⟩
  · obtain rfl : k = l.length := by omega
    (repeat' (first|refine wS ?_|refine wB ?_|refine wE ?_|(refine wC rfl ?_ ?_<;>(intro hb;(try simp only [nm] at hb);try (exfalso;omega)))|(refine rg 13 (dH rfl (qW T rfl (vV (aM rfl rfl) ?_))))|(refine rg 33 (aV ?_))|refine nZ ?_));all_goals try (exfalso;omega)
    refine dQ (X := {j : Nat // j ≤ real.length}) (fun j => [(4,.pr [.rowE (gN c.ks) 2,.rowE (iS c.ls) 3,.rowE (ints I) 1,.rowE (dR c.bs) 3] 0),(9,.b true),(10,.ptr 0 0),(15,.sl 5 0 real.length 1),(25,.i (j.1 : Int))]) (fun _ => zP1 c t [.arr (ints real) 1]) (fun j => real.length - j.1) ⟨0,cM _⟩ ⟨[0,1,2,3,4,5],rfl,(by repeat first|exact trivial|refine ⟨rfl,?_⟩),⟨.inr rfl,.inr rfl,.inr (aC rfl rfl (fO _)),.inr (aC rfl rfl (fU _ _)),.inr (aC rfl rfl (gB _)),.inr (aC rfl rfl (bB _)),trivial⟩,by decide,kQ _⟩ ?_
    rintro ⟨j,hj⟩;dsimp only;by_cases hjl : j < real.length
    · have hr : real[j]? = some real[j] := aB hjl;have hx : t.sales[j]? = some (t.sales[j]'(by omega)) := aB (by omega)
      have hidk := hL.ids hid2;have has := hT.has hc hn6 (hL.swap h5) hx hr;obtain ⟨hfi1,hfi2⟩ := G8.fin (c := c) has;obtain ⟨g0,g1⟩ := hT.rg real[j] (aQ hjl);have q1 := IH hc hL.tr hx (by omega) hidk
      have q2 := QM c t j hc hL.tr hx (by omega) hidk
      have q4 := JG c t (rT c real[j]) hc hL.tr (by omega) (by omega) hidk
      have n1 := hL.nids hn6 (aN hx);have n4 := zG3 (c := c) (t := t) (lot := rT c real[j]);have hbx := U9 (l := c.bs) (i := real[j].toNat) (by omega)
      have qb : (dR c.bs)[real[j].toNat]? = some [.i (rT c real[j]),.i (c.bs.getD real[j].toNat (0,0,0)).2.1,.i (c.bs.getD real[j].toNat (0,0,0)).2.2] := by rw [bT,hbx];rfl
      have qr : (ints real)[0 + (j : Int).toNat]? = some [.i real[j]] := by rw [Nat.zero_add];exact lO hjl
      have hrm : 0 ≤ rT c real[j] → (j : Int) ∈ S8 c t (rT c real[j]) := fun q => zG2 (.inr ⟨_,hx,hfi1 q⟩);generalize (t.sales[j]'(by omega)) = x at *
      have hh1 := YL (kR c t.seen x) real[j] n1;rw [decide_eq_true has] at hh1;have hh2 := YL (S8 c t (rT c real[j])) j (by omega)
      clear has hfi1 hr hx;generalize real[j] = r at *;generalize rT c r = lot at *;generalize (xZ (nO c (kR c t.seen x))).2 = sb at *;generalize (xZ (nO c (kR c t.seen x))).1 = si at *;generalize kR c t.seen x = L1 at *;generalize S8 c t lot = L2 at *;have f1 : (ints L1).length = L1.length := cW L1;have f2 : (ints L2).length = L2.length := cW L2
      (repeat' (first|refine wS ?_|refine wB ?_|refine wK ?_|(refine wC rfl ?_ ?_<;>(intro hb;(try simp only [nm] at hb);try (exfalso;omega)))|(refine rg 34 (dH rfl (qW T rfl (vV (aM rfl rfl) ?_))))|(refine cH (id := 36) 228 [[],[0],[],[],[2,3],[2,3,4],rN 6,rN 7,rN 8] (rM 183 9) [[],[],[183,184],[183,184,185],[183,184],[183,184],[],[],[]] cO rfl (by decide +kernel) (dP T rfl (dO T rfl (dN rfl (dN rfl (dV rfl (by exact aK T rfl rfl rfl rfl rfl (by omega) (by omega)) ?_)))));refine dV rfl (by exact aJ T rfl rfl (bM rfl qr) rfl) ?_;refine dV rfl (ix T rfl (by omega) (kG _) qb) (dP T rfl (dO T rfl (dE ?_)));refine aV ?_)|(refine rg 37 (dH rfl (vV (by exact fB rfl rfl q1 (.cons (mD rfl rfl rfl rfl rfl rfl rfl rfl) (.cons (.v _) .nil)) rfl rfl) ?_));refine mW rfl (xW rfl (xW rfl (rK ?_))))|refine nZ ?_));all_goals try (exfalso;omega)
      by_cases hlot : 0 ≤ lot
      · rw [decide_eq_true (hrm hlot)] at hh2;cases sb with
        | true =>
          obtain rfl := hfi2 rfl
          (repeat' (first|refine wK ?_|refine wU ?_|(refine cH (id := 38) 228 yO2 (rM 198 29) yO3 cO rfl (by decide +kernel) (dN rfl (dN rfl (dV rfl (by exact vU rfl rfl q2 (.cons (mD rfl rfl rfl rfl rfl rfl rfl rfl) (.cons (.v _) .nil)) f1.symm (wX _) (fX (bB _))) ?_)));refine dN rfl (dN rfl (dV rfl (by exact aK T rfl rfl rfl rfl rfl (by omega) (by omega)) ?_));refine dV rfl (by exact aJ T rfl rfl (bM rfl qr) rfl) ?_;refine dV rfl (kC (hh1)) (dV rfl (dI rfl) (dN rfl (tN rfl (dT rfl (QS rfl rfl (by omega)) (tN rfl (tN rfl (tN rfl (dT rfl (by exact vU rfl rfl q4 (.cons (mD rfl rfl rfl rfl rfl rfl rfl rfl) (.cons (.v _) .nil)) f2.symm (wX _) (fX (bB _))) ?_))))))));refine tN rfl (dT rfl (kC (hh2)) (dT rfl (dI rfl) (dT rfl (iT rfl rfl) (dV rfl (fD rfl rfl) (dN rfl (tN rfl (tN rfl (tN rfl (tM ?_)))))))));refine dT rfl (C1 rfl rfl rfl) (dT rfl (iT rfl rfl) (dV rfl (fD rfl rfl) (dE ?_))))|(refine iA 35 rfl rfl rfl (by omega) (by omega) ?_)|refine nZ ?_));all_goals try (exfalso;omega)
          all_goals exact ⟨⟨j + 1,hjl⟩,by dsimp only;omega,⟨[0,1,2,3,4,5],rfl,(by repeat first|exact trivial|refine ⟨rfl,?_⟩),⟨.inr rfl,.inr rfl,.inr (aC rfl rfl (fO _)),.inr (aC rfl rfl (fU _ _)),.inr (aC rfl rfl (gB _)),.inr (aC rfl rfl (bB _)),trivial⟩,by decide,kQ _⟩⟩
        | false =>
          (repeat' (first|refine wK ?_|refine wU ?_|(refine cH (id := 38) 228 yO2 (rM 198 29) yO3 cO rfl (by decide +kernel) (dN rfl (dN rfl (dV rfl (by exact vU rfl rfl q2 (.cons (mD rfl rfl rfl rfl rfl rfl rfl rfl) (.cons (.v _) .nil)) f1.symm (wX _) (fX (bB _))) ?_)));refine dN rfl (dN rfl (dV rfl (by exact aK T rfl rfl rfl rfl rfl (by omega) (by omega)) ?_));refine dV rfl (by exact aJ T rfl rfl (bM rfl qr) rfl) ?_;refine dV rfl (kC (hh1)) (dV rfl (dI rfl) (dN rfl (tN rfl (dT rfl (QS rfl rfl (by omega)) (tN rfl (tN rfl (tN rfl (dT rfl (by exact vU rfl rfl q4 (.cons (mD rfl rfl rfl rfl rfl rfl rfl rfl) (.cons (.v _) .nil)) f2.symm (wX _) (fX (bB _))) ?_))))))));refine tN rfl (dT rfl (kC (hh2)) (dT rfl (dI rfl) (dT rfl (iT rfl rfl) (dV rfl (fD rfl rfl) (dN rfl (tN rfl (tN rfl (tG rfl (dG ?_)))))))));refine tG rfl (dT rfl (fD rfl rfl) (dV rfl (fD rfl rfl) (dE ?_))))|(refine iA 35 rfl rfl rfl (by omega) (by omega) ?_)|refine nZ ?_));all_goals try (exfalso;omega)
          all_goals exact ⟨⟨j + 1,hjl⟩,by dsimp only;omega,⟨[0,1,2,3,4,5],rfl,(by repeat first|exact trivial|refine ⟨rfl,?_⟩),⟨.inr rfl,.inr rfl,.inr (aC rfl rfl (fO _)),.inr (aC rfl rfl (fU _ _)),.inr (aC rfl rfl (gB _)),.inr (aC rfl rfl (bB _)),trivial⟩,by decide,kQ _⟩⟩
      · cases sb with
        | true =>
          obtain rfl := hfi2 rfl
          (repeat' (first|refine wK ?_|refine wU ?_|(refine cH (id := 38) 228 yO2 (rM 198 29) yO3 cO rfl (by decide +kernel) (dN rfl (dN rfl (dV rfl (by exact vU rfl rfl q2 (.cons (mD rfl rfl rfl rfl rfl rfl rfl rfl) (.cons (.v _) .nil)) f1.symm (wX _) (fX (bB _))) ?_)));refine dN rfl (dN rfl (dV rfl (by exact aK T rfl rfl rfl rfl rfl (by omega) (by omega)) ?_));refine dV rfl (by exact aJ T rfl rfl (bM rfl qr) rfl) ?_;refine dV rfl (kC (hh1)) (dV rfl (dI rfl) (dN rfl (tN rfl (dT rfl (QT rfl rfl (by omega)) (tN rfl (tG rfl (tG rfl (tG rfl (dG ?_)))))))));refine tG rfl (tG rfl (dT rfl (fD rfl rfl) (dV rfl (fD rfl rfl) (dN rfl (tN rfl (tN rfl (tN rfl (tN rfl (dT rfl (C1 rfl rfl rfl) ?_)))))))));refine dT rfl (iT rfl rfl) (dV rfl (fD rfl rfl) (dE ?_)))|(refine iA 35 rfl rfl rfl (by omega) (by omega) ?_)|refine nZ ?_));all_goals try (exfalso;omega)
          all_goals exact ⟨⟨j + 1,hjl⟩,by dsimp only;omega,⟨[0,1,2,3,4,5],rfl,(by repeat first|exact trivial|refine ⟨rfl,?_⟩),⟨.inr rfl,.inr rfl,.inr (aC rfl rfl (fO _)),.inr (aC rfl rfl (fU _ _)),.inr (aC rfl rfl (gB _)),.inr (aC rfl rfl (bB _)),trivial⟩,by decide,kQ _⟩⟩
        | false =>
          (repeat' (first|refine wK ?_|refine wU ?_|(refine cH (id := 38) 228 yO2 (rM 198 29) yO3 cO rfl (by decide +kernel) (dN rfl (dN rfl (dV rfl (by exact vU rfl rfl q2 (.cons (mD rfl rfl rfl rfl rfl rfl rfl rfl) (.cons (.v _) .nil)) f1.symm (wX _) (fX (bB _))) ?_)));refine dN rfl (dN rfl (dV rfl (by exact aK T rfl rfl rfl rfl rfl (by omega) (by omega)) ?_));refine dV rfl (by exact aJ T rfl rfl (bM rfl qr) rfl) ?_;refine dV rfl (kC (hh1)) (dV rfl (dI rfl) (dN rfl (tN rfl (dT rfl (QT rfl rfl (by omega)) (tN rfl (tG rfl (tG rfl (tG rfl (dG ?_)))))))));refine tG rfl (tG rfl (dT rfl (fD rfl rfl) (dV rfl (fD rfl rfl) (dN rfl (tN rfl (tN rfl (tG rfl (tG rfl (dG ?_)))))))));refine dT rfl (fD rfl rfl) (dV rfl (fD rfl rfl) (dE ?_)))|(refine iA 35 rfl rfl rfl (by omega) (by omega) ?_)|refine nZ ?_));all_goals try (exfalso;omega)
          all_goals exact ⟨⟨j + 1,hjl⟩,by dsimp only;omega,⟨[0,1,2,3,4,5],rfl,(by repeat first|exact trivial|refine ⟨rfl,?_⟩),⟨.inr rfl,.inr rfl,.inr (aC rfl rfl (fO _)),.inr (aC rfl rfl (fU _ _)),.inr (aC rfl rfl (gB _)),.inr (aC rfl rfl (bB _)),trivial⟩,by decide,kQ _⟩⟩
    · (repeat' (first|refine wS ?_|refine wR ?_|refine wE ?_|(refine wC rfl (fun hb => ?_) (fun hb => ?_) <;> (((try simp only [nm] at hb);try (exfalso;omega))))|(refine rg 34 (dH rfl (qW T rfl (vV (aM rfl rfl) ?_))))|(refine rg 40 (mW rfl (aV ?_)))|(refine nZ ?_)));all_goals try (exfalso;omega)
      all_goals exact rQ
end Go.Proofs.YtmmmeebiobjnbaaGreat
namespace Go.Proofs.YtmmmeebiobjnbaaGreat
open Go Go.Ab Go.Ld
attribute [local irreducible] VC AW cF aS iZ
set_option maxHeartbeats 4000000
end Go.Proofs.YtmmmeebiobjnbaaGreat
namespace Go.Ab
open Go
def X9 (P : Program) (t : TypeId) (i o : Nat) (e : TypeId) : Bool := match P.underlying t with
  | some (.struct fs) => (match fs[i]? with
    | some f => f.offset == o && P.cellsOf f.type == 1 && (match P.underlying f.type with
      | some (.slice e') => e' == e
      | _ => false)
    | none => false)
  | _ => false
theorem HH {S : Nat → Prop} {w : World} {ρ : Pl} {x : AV} : ∀ {k : Nat} {us : List AV} {ys : List Value}, RL S w us ρ ys → us[k]? = some x → ∃ y, ys[k]? = some y ∧ R S w x ρ y
  | _,[],_,_,h => by simp at h
  | 0,u :: us,ys,hr,h => by
    simp only [RL] at hr;obtain ⟨y,zs,h1,h2,h3⟩ := hr;obtain rfl : u = x := by simpa using h
    first
      | (subst h1;exact ⟨y,rfl,h2⟩)
      | (subst h2;exact ⟨y,rfl,h1⟩)
      | (subst h3;exact ⟨y,rfl,h1⟩)
  | k + 1,u :: us,ys,hr,h => by
    simp only [RL] at hr;obtain ⟨y,zs,h1,h2,h3⟩ := hr;have h' : us[k]? = some x := by simpa using h
    first
      | (subst h1;exact HH (k := k) h3 h')
      | (subst h3;exact HH (k := k) h2 h')
theorem NO {P : Program} {H : Type} {enc : TypeId × Value → H} {ts : List TypeId} {ds : List (DataW H)} {j : Nat} {t e : TypeId} {d : DataW H} {W : World} {v : Value} {p : List MemPlace} {S : Nat → Prop} {ρ : Pl} {us : List AV} {cs : List AV} {len sz i o : Nat}
    (hw : (DataW.weightsEach P ts ds).all (· ≤ reachBytes) = true) (hts : ts[j]? = some t) (hds : ds[j]? = some d) (hf : X9 P t i o e = true) (hv : DataW.Trod enc P W 0 (fun _ => true) true t v d p) (hr : R S W (.agg us) ρ v) (hu : us[o]? = some (.row cs len sz)) : len * P.bytesOf e ≤ 140737488351232 := by
  simp only [R] at hr;obtain ⟨ys,rfl,hl⟩ := hr;obtain ⟨y,hy,hry⟩ := HH hl hu;simp only [R] at hry;obtain ⟨a,cap,rfl,_⟩ := hry;unfold X9 at hf;split at hf
  · rename_i fs ht;split at hf
    · rename_i f hfi;simp only [aL,beq_iff_eq] at hf;obtain ⟨⟨h1,h2⟩,h3⟩ := hf;split at h3
      · rename_i e' hs;have h3 : e' = e := by simpa using h3
        subst h3;obtain ⟨fuel,hft⟩ := hv;have hc : (Value.agg ys).cells.toList = ys.toList := rfl;rw [hc] at hft;obtain ⟨xs,n,rfl,hx,_,hxl,hx2⟩ := DataW.trod_struct ht hft;have hx3 := hx2 i f hfi
        rw [h1,h2,show (ys.toList.drop o).take 1 = [.slice a len cap] by
          rw [List.take_one,List.head?_drop,hy];rfl] at hx3
        have hil : i < xs.length := by rw [hxl];exact (aO.1 hfi).1
        rw [aB hil] at hx3;simp only [Prod.mk.injEq] at hx;rcases DataW.trod_slice hs hx3 with ⟨q1,_⟩ | ⟨a',len',cap',elems,rest,n',_,q2,q3,_,_,_,q4,_⟩
        · simp only [List.cons.injEq,Value.slice.injEq] at q1;rw [q1.1.2.1];simp
        · simp only [List.cons.injEq,Value.slice.injEq] at q2;rw [q2.1.2.1];have hmem : (elems.length + rest.length) * P.bytesOf e' ∈ d.weights P t := by
            rw [hx.1];unfold DataW.weights;rw [ht];refine DataW.weights_mem_each (j := i) (t := f.type) (d := xs[i].1) ?_ ?_ _ ?_
            · rw [bT,jO,hfi];rfl
            · rw [bT,aB hil];rfl
            · rw [q3];simp only [DataW.weights,hs,aY];exact aR
          have h5 := bI.1 hw _ (DataW.weights_mem_each hts hds _ hmem);have hrb : reachBytes = 140737488351232 := by decide
          simp only [decide_eq_true_eq,hrb,eG] at h5;rw [← q4];omega
      · cases h3
    · cases hf
  · cases hf
end Go.Ab
namespace Go.Proofs.YtmmmeebiobjnbaaGreat
open Go Go.Ab Go.Ld
attribute [local irreducible] VC AW cF aS
def Q2 (n : Int) : Prop := (Lit.int .i64 n).wf = true
theorem qE : gV Tryz.prog 3 Q2 (fun n => [AV.i n]) := gV.int Tryz.underlying3 (by kernel_rfl)
theorem XG : gV Tryz.prog 4 (fun _ => True) (fun b => [AV.b b]) := gV.bool Tryz.underlying4 (by kernel_rfl)
theorem XE : gV Tryz.prog 9 (fun s => s.size ≤ maxLen) (fun s => [.v (.string s)]) := gV.string Tryz.underlying9 (by kernel_rfl)
theorem NK : gV Tryz.prog 24 (fun l : List Int => l.length ≤ maxLen ∧ ∀ a,a ∈ l → Q2 a) (fun l => [.rowE (ints l) 1]) :=
  gV.slice Tryz.underlying24 (by kernel_rfl) (by kernel_rfl) (by decide) qE
theorem zT0 : gV Tryz.prog 96 (fun p : KD => p.1.size ≤ maxLen ∧ Q2 p.2) (fun p => [AV.v (.string p.1),AV.i p.2]) :=
  gV.struct (fs := [(9, 0), (3, 1)]) (by kernel_rfl) (by kernel_rfl)
    (fun e W fuel css hl hx => by
      obtain ⟨a,h1,h2,h3⟩ := gI.cons XE (gI.cons qE gI.nil) e W fuel css hl hx
      exact ⟨(a.1,a.2.1),⟨h1.1,h1.2.1⟩,by simpa using h2,by simpa using h3⟩)
    (fun _ => by kernel_rfl)
theorem yA2 : gV Tryz.prog 79 (fun p : LT => Q2 p.1 ∧ Q2 p.2.1) (fun p => [AV.i p.1,AV.i p.2.1,AV.b p.2.2]) :=
  gV.struct (fs := [(3, 0), (3, 1), (4, 2)]) (by kernel_rfl) (by kernel_rfl)
    (fun e W fuel css hl hx => by
      obtain ⟨a,h1,h2,h3⟩ := gI.cons qE (gI.cons qE (gI.cons XG gI.nil)) e W fuel css hl hx
      exact ⟨(a.1,a.2.1,a.2.2.1),⟨h1.1,h1.2.1⟩,by simpa using h2,by simpa using h3⟩)
    (fun _ => by kernel_rfl)
theorem yA3 : gV Tryz.prog 61 (fun p : BX => Q2 p.1 ∧ Q2 p.2.1 ∧ Q2 p.2.2) (fun p => [AV.i p.1,AV.i p.2.1,AV.i p.2.2]) :=
  gV.struct (fs := [(3, 0), (3, 1), (3, 2)]) (by kernel_rfl) (by kernel_rfl)
    (fun e W fuel css hl hx => by
      obtain ⟨a,h1,h2,h3⟩ := gI.cons qE (gI.cons qE (gI.cons qE gI.nil)) e W fuel css hl hx
      exact ⟨(a.1,a.2.1,a.2.2.1),⟨h1.1,h1.2.1,h1.2.2.1⟩,by simpa using h2,by simpa using h3⟩)
    (fun _ => by kernel_rfl)
theorem zH4 : gV Tryz.prog 22 (fun l : List KD => l.length ≤ maxLen ∧ ∀ a,a ∈ l → a.1.size ≤ maxLen ∧ Q2 a.2) (fun l => [.rowE (gN l) 2]) :=
  gV.slice Tryz.underlying22 (by kernel_rfl) (by kernel_rfl) (by decide) zT0
theorem zS9 : gV Tryz.prog 23 (fun l : List LT => l.length ≤ maxLen ∧ ∀ a,a ∈ l → Q2 a.1 ∧ Q2 a.2.1) (fun l => [.rowE (iS l) 3]) :=
  gV.slice Tryz.underlying23 (by kernel_rfl) (by kernel_rfl) (by decide) yA2
theorem zH6 : gV Tryz.prog 25 (fun l : List BX => l.length ≤ maxLen ∧ ∀ a,a ∈ l → Q2 a.1 ∧ Q2 a.2.1 ∧ Q2 a.2.2) (fun l => [.rowE (dR l) 3]) :=
  gV.slice Tryz.underlying25 (by kernel_rfl) (by kernel_rfl) (by decide) yA3
theorem zH2 : gV Tryz.prog 27 (fun _ : List KD × List LT × List Int × List BX => True) (fun x => [.rowE (gN x.1) 2,.rowE (iS x.2.1) 3,.rowE (ints x.2.2.1) 1,.rowE (dR x.2.2.2) 3]) :=
  gV.struct (fs := [(22, 0), (23, 1), (24, 2), (25, 3)]) (by kernel_rfl) (by kernel_rfl)
    (fun e W fuel css hl hx => by
      obtain ⟨a,h1,h2,h3⟩ := gI.cons zH4 (gI.cons zS9 (gI.cons NK (gI.cons zH6 gI.nil))) e W fuel css hl hx
      exact ⟨(a.1,a.2.1,a.2.2.1,a.2.2.2.1),trivial,by simpa using h2,by simpa using h3⟩)
    (fun _ => by kernel_rfl)
theorem XF : gV Tryz.prog 29 (fun p : Int × Int × Int × Int => Q2 p.1 ∧ Q2 p.2.1 ∧ Q2 p.2.2.1 ∧ Q2 p.2.2.2) (fun p => [AV.i p.1,AV.i p.2.1,AV.i p.2.2.1,AV.i p.2.2.2]) :=
  gV.struct (fs := [(3, 0), (3, 1), (3, 2), (3, 3)]) (by kernel_rfl) (by kernel_rfl)
    (fun e W fuel css hl hx => by
      obtain ⟨a,h1,h2,h3⟩ := gI.cons qE (gI.cons qE (gI.cons qE (gI.cons qE gI.nil))) e W fuel css hl hx
      exact ⟨(a.1,a.2.1,a.2.2.1,a.2.2.2.1),⟨h1.1,h1.2.1,h1.2.2.1,h1.2.2.2.1⟩,by simpa using h2,by simpa using h3⟩)
    (fun _ => by kernel_rfl)
theorem zH3 : gV Tryz.prog 47 (fun p : Int × Int × Int × Int × List Int => p.2.2.2.2.length ≤ maxLen) (fun p => [AV.i p.1,AV.i p.2.1,AV.i p.2.2.1,AV.i p.2.2.2.1,.rowE (ints p.2.2.2.2) 1]) :=
  gV.struct (fs := [(3, 0), (3, 1), (3, 2), (3, 3), (24, 4)]) (by kernel_rfl) (by kernel_rfl)
    (fun e W fuel css hl hx => by
      obtain ⟨a,h1,h2,h3⟩ := gI.cons qE (gI.cons qE (gI.cons qE (gI.cons qE (gI.cons NK gI.nil)))) e W fuel css hl hx
      exact ⟨(a.1,a.2.1,a.2.2.1,a.2.2.2.1,a.2.2.2.2.1),h1.2.2.2.2.1.1,by simpa using h2,by simpa using h3⟩)
    (fun _ => by kernel_rfl)
abbrev yI5 (x : List KD × List LT × List Int × List BX) (c : Int × Int × Int × Int) : Cx := ⟨c.1,c.2.1,c.2.2.1,c.2.2.2,x.1,x.2.1,x.2.2.2⟩
end Go.Proofs.YtmmmeebiobjnbaaGreat
namespace Go.Proofs.YtmmmeebiobjnbaaGreat
open Go Go.Ab Go.Ld
attribute [local irreducible] VC AW cF aS iZ yK
abbrev zY4 := Bool × (Int × Int × Int × Int × List Int) × (Int × Int × Int × Int)
theorem zS8 : gV Tryz.prog 49 (fun _ : Int × Int × Int × Int => True) (fun p => [AV.i p.1,AV.i p.2.1,AV.i p.2.2.1,AV.i p.2.2.2]) :=
  gV.struct (fs := [(3, 0), (3, 1), (3, 2), (3, 3)]) (by kernel_rfl) (by kernel_rfl)
    (fun e W fuel css hl hx => by
      obtain ⟨a,h1,h2,h3⟩ := gI.cons qE (gI.cons qE (gI.cons qE (gI.cons qE gI.nil))) e W fuel css hl hx
      exact ⟨(a.1,a.2.1,a.2.2.1,a.2.2.2.1),trivial,by simpa using h2,by simpa using h3⟩)
    (fun _ => by kernel_rfl)
theorem zH5 : gV Tryz.prog 51 (fun p : zY4 => p.2.1.2.2.2.2.length ≤ maxLen) (fun p => [AV.b p.1,AV.i p.2.1.1,AV.i p.2.1.2.1,AV.i p.2.1.2.2.1,AV.i p.2.1.2.2.2.1,.rowE (ints p.2.1.2.2.2.2) 1,AV.i p.2.2.1,AV.i p.2.2.2.1,AV.i p.2.2.2.2.1,AV.i p.2.2.2.2.2]) :=
  gV.struct (fs := [(4, 0), (47, 1), (49, 6)]) (by kernel_rfl) (by kernel_rfl)
    (fun e W fuel css hl hx => by
      obtain ⟨a,h1,h2,h3⟩ := gI.cons XG (gI.cons zH3 (gI.cons zS8 gI.nil)) e W fuel css hl hx
      exact ⟨(a.1,a.2.1,a.2.2.1),h1.2.1,by simpa using h2,by simpa using h3⟩)
    (fun _ => by kernel_rfl)
theorem SW : gV Tryz.prog 30 (fun l : List zY4 => l.length ≤ maxLen ∧ ∀ p,p ∈ l → p.2.1.2.2.2.2.length ≤ maxLen) (fun l => [.rowE (l.map fun p => [AV.b p.1,AV.i p.2.1.1,AV.i p.2.1.2.1,AV.i p.2.1.2.2.1,AV.i p.2.1.2.2.2.1,.rowE (ints p.2.1.2.2.2.2) 1,AV.i p.2.2.1,AV.i p.2.2.2.1,AV.i p.2.2.2.2.1,AV.i p.2.2.2.2.2]) 10]) :=
  gV.slice Tryz.underlying30 (by kernel_rfl) (by kernel_rfl) (by decide) zH5
abbrev yF0 (p : zY4) : En := ⟨p.1,⟨p.2.1.1,p.2.1.2.1,p.2.1.2.2.1,p.2.1.2.2.2.1,p.2.1.2.2.2.2⟩,⟨p.2.2.1,p.2.2.2.1,p.2.2.2.2.1,p.2.2.2.2.2⟩⟩
theorem zV9 (l : List zY4) : (l.map fun p => [AV.b p.1,AV.i p.2.1.1,AV.i p.2.1.2.1,AV.i p.2.1.2.2.1,AV.i p.2.1.2.2.2.1,.rowE (ints p.2.1.2.2.2.2) 1,AV.i p.2.2.1,AV.i p.2.2.2.1,AV.i p.2.2.2.2.1,AV.i p.2.2.2.2.2]) = O8 (l.map yF0) := by
  unfold O8;rw [CG];rfl
theorem zL9 {l : List zY4} (h : ∀ p,p ∈ l → p.2.1.2.2.2.2.length ≤ maxLen) : ∀ e,e ∈ l.map yF0 → e.s.ids.length ≤ 9223372036854775807 := by
  intro s hs;obtain ⟨p,hp,rfl⟩ := bC.1 hs;exact bL (h p hp) (by decide)
theorem zR4 (x : List KD × List LT × List Int × List BX) (_ : True) (hx : x.2.2.2.length * 24 ≤ 140737488351232) (c : Int × Int × Int × Int) (_ : Q2 c.1 ∧ Q2 c.2.1 ∧ Q2 c.2.2.1 ∧ Q2 c.2.2.2) (l : List zY4) (hl : l.length ≤ maxLen ∧ ∀ p,p ∈ l → p.2.1.2.2.2.2.length ≤ maxLen) (d : List Int) (_ : d.length ≤ maxLen ∧ ∀ a,a ∈ d → Q2 a) :
    aS Tryz.prog 4 [wQ x.1 x.2.1 x.2.2.1 x.2.2.2,iE c.1 c.2.1 c.2.2.1 c.2.2.2,.rowE (l.map fun p => [AV.b p.1,AV.i p.2.1.1,AV.i p.2.1.2.1,AV.i p.2.1.2.2.1,AV.i p.2.1.2.2.2.1,.rowE (ints p.2.1.2.2.2.2) 1,AV.i p.2.2.1,AV.i p.2.2.2.1,AV.i p.2.2.2.2.1,AV.i p.2.2.2.2.2]) 10,.rowE (ints d) 1] [] (.b true) [] := by
  rw [zV9];have hids := zL9 hl.2;generalize l.map yF0 = l at *;rcases zL3 6 (by omega) x.1 x.2.1 (Go.Ab.nats (List.range x.2.2.2.length)) x.2.2.2 c.1 c.2.1 c.2.2.1 c.2.2.2 with hf | ⟨hf,f,hs,t,h6⟩
  · exact VG _ _ _ _ _ _ _ _ l d false (by omega) hids hf (.inr (.inl rfl))
  · cases h : KX l 12 4 with
    | false => exact VG _ _ _ _ _ _ _ _ l d true (by omega) hids hf (.inl h)
    | true =>
      by_cases hd : 20 < d.length
      · exact VG _ _ _ _ _ _ _ _ l d true (by omega) hids hf (.inr (.inr hd))
      · exact zR3 (yI5 x c) ⟨f,hs⟩ (by simpa using h6) _ l d hf hids h (by omega)
end Go.Proofs.YtmmmeebiobjnbaaGreat
