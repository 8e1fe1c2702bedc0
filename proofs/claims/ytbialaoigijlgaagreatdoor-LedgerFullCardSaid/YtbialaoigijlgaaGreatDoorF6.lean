/-
  Texts of the logic and of the layer,in one module (part 6).
-/
import Derived.Test.YtbialaoigijlgaaGreatDoorF5
set_option linter.unusedVariables false
set_option linter.unusedSimpArgs false
set_option linter.unnecessarySimpa false
namespace Go.Ld
open Go.Ab Go.Proofs.YtbialaoigijlgaaGreatDoor
theorem DL {α β : Type} {f : α → List β} {n : Nat} : ∀ (l : List α) (hf : ∀ x, x ∈ l → (f x).length = n) (i j : Nat) (hi : i < l.length) (hj : j < n), (l.flatMap f)[n * i + j]? = (f l[i])[j]?
  | [],hf,i,j,hi,hj => by simp at hi
  | x :: l,hf,0,j,hi,hj => by
    rw [bZ,Nat.mul_zero,Nat.zero_add,aF (by rw [hf x bB];exact hj)];rfl
  | x :: l,hf,i + 1,j,hi,hj => by
    have h1 := hf x bB;rw [bZ,aE (by rw [h1,RN];omega),h1,show n * (i + 1) + j - n = n * i + j by rw [RN];omega]
    exact DL l (fun x hx => hf x (aY _ hx)) i j (by simpa using hi) hj
theorem DK {α β : Type} {f : α → List β} {n : Nat} : ∀ (l : List α) (hf : ∀ x, x ∈ l → (f x).length = n), (l.flatMap f).length = n * l.length
  | [],hf => by simp
  | x :: l,hf => by
    rw [bZ,aD,hf x bB,DK l (fun x hx => hf x (aY _ hx)),List.length_cons,RN];omega
theorem S8 (a b : G) (l : List Int) : (nI a b l).length = b.2.length * a.2.length := DK _ fun x _ => bN _
theorem JN {a b : G} {l : List Int} {i j : Nat} (hi : i < a.2.length) (hj : j < b.2.length) : (nI a b l)[b.2.length * i + j]? = some (L4 a b a.2[i] b.2[j] l) := by
  unfold nI;rw [DL _ (fun x _ => bN _) i j hi hj];simp [hj]
theorem tI : ∀ (l : List Int) (v : Int) (k : Nat), v ∈ l → sJ l v k = ((k + l.idxOf v : Nat) : Int)
  | [],v,k,h => by cases h
  | x :: l,v,k,h => by
    unfold sJ;by_cases e : v = x
    · rw [if_pos e,e,List.idxOf_cons_self];rfl
    · have e' : (x :: l).idxOf v = l.idxOf v + 1 := by rw [List.idxOf_cons,beq_eq_false_iff_ne.2 (fun h => e h.symm)];rfl
      rw [if_neg e,show ((k : Int) + 1) = ((k + 1 : Nat) : Int) by omega,tI l v (k + 1) (by rcases bY.1 h with h | h;exact absurd h e;exact h),e']
      omega
theorem HY : ∀ (l : List Int) (v k : Int), v ∉ l → sJ l v k = -1
  | [],v,k,h => rfl
  | x :: l,v,k,h => by
    unfold sJ;rw [if_neg (fun e : v = x => h (by rw [e];exact bB)),HY l v (k + 1) (fun q => h (aY _ q))]
def L2 (a b : G) (l : List Int) (k : Nat) : List AV := match (nI a b l)[k]? with
  | some w => [.agg (wA w)]
  | none => []
theorem NM {a b : G} {l : List Int} {i j : Nat} (hi : i < a.2.length) (hj : j < b.2.length) : L2 a b l (b.2.length * i + j) = [.agg (wA (L4 a b a.2[i] b.2[j] l))] := by
  unfold L2;rw [JN hi hj]
theorem BQ {α β : Type} {f : α → β} {l : List α} {m : Nat} (h : m < l.length) : (l.map f).take (m + 1) = (l.map f).take m ++ [f l[m]] := by
  rw [aO (by simpa using h)];simp
end Go.Ld
namespace Go.Proofs.YtbialaoigijlgaaGreatDoor
open Go Go.Ab Go.Ld
attribute [local irreducible] VC AW bT aQ AY VY P6 jI
set_option maxHeartbeats 4000000
abbrev WT (a b : G) (l : List Int) : AV := .clo (.func 109) [] [.pr (gA a) 0,.pr (gA b) 0,.pr [.rowE (ints l) 1] 0]
theorem TD (a b : G) (l : List Int) : aQ Tryz.prog 73 [KQ a,KQ b,.rowE (ints l) 1] [] (WT a b l) [] := by
  refine uB (res := .clo (.func 109) [] [.ptr 0 0,.ptr 1 0,.ptr 2 0]) (hout := [.cells (gA a),.cells (gA b),.cells [.rowE (ints l) 1]]) ?_ (.clo .nil (.cons (.ptr rfl (.cons (.row _ _ _) (.cons (.row _ _ _) .nil))) (.cons (.ptr rfl (.cons (.row _ _ _) (.cons (.row _ _ _) .nil))) (.cons (.ptr rfl (.cons (.row _ _ _) .nil)) .nil))));refine bK T Tryz.func73 rfl rfl rfl rfl ?_
  (repeat' (first|refine wS ?_|refine wR ?_|(refine rg 0 (bS (cW rfl rfl) rfl (bS (cW rfl rfl) rfl (bS (cW rfl rfl) rfl (aV ?_)))))|(refine rg 1 (vV (by exact iS rfl rfl) ?_);refine aV ?_)|refine nZ ?_));all_goals exact ⟨.inl rfl,[0,1,2],_,rfl,rfl,rfl,⟨.inr rfl,.inr rfl,.inr rfl,trivial⟩,by decide,jJ _⟩
theorem NU (a b : G) (l : List Int) (sa : YO a) (sb : YO b) (hl : l.length ≤ 1000) (hm : ∀ k,k ∈ l → k ∈ a.1 ∨ k ∈ b.1) (h1 : ∀ w,w ∈ a.2 → 0 ≤ w.2.1 ∧ w.2.1 ≤ 4000000) (h2 : ∀ w,w ∈ b.2 → 0 ≤ w.2.1 ∧ w.2.1 ≤ 4000000) :
    P6 Tryz.prog 109 [] [.pr (gA a) 0,.pr (gA b) 0,.pr [.rowE (ints l) 1] 0] [] (L2 a b l) (nI a b l).length := by
  have hnn := S8 a b l;have hla : (eW a.2).length = a.2.length := eB _;have hlb : (eW b.2).length = b.2.length := eB _;have hll : (ints l).length = l.length := cY _;have hwa := sa.w;have hwb := sb.w;refine WC T Tryz.func109 rfl rfl rfl rfl ?_;intro J A y hJ hy
  (repeat' (first|(first|(refine tX ?_)|(refine vU ?_))|(((refine oJ hJ (eJ (id := 0) ?_)));(all_goals (refine PG T ?_;(refine qV T ?_);refine mV ?_)))|refine nZ ?_));refine AJ (X := {i : Nat // i ≤ a.2.length}) (fun i => [(0,.clo (.yield y) [] []),(1,.pr (gA a) 0),(2,.pr (gA b) 0),(3,.pr [.rowE (ints l) 1] 0),(15,.rowE (eW a.2) 3),(16,.i (eW a.2).length),(17,.i i.1)]) (fun _ => []) (fun i => (b.2.length * i.1,false)) (fun i => a.2.length - i.1) ⟨0,bW _⟩ rfl (gO []) ?_
  rintro ⟨i,hi⟩;dsimp only;by_cases hlt : i < a.2.length
  · have ga := nE hlt;have hx := sa.p _ (aK hlt);have hx2 := sa.c _ (aK hlt);have hx3 := h1 _ (aK hlt);have hpi := fun (j : Nat) (hj : j < b.2.length) => NM (a := a) (b := b) (l := l) hlt hj;generalize a.2[i] = x at *
    (repeat' (first|(first|(refine tX ?_)|(refine vU ?_)|(refine I9 ?_))|((refine tY rfl (fun hb=>?_) (fun hb=>?_)<;>(((try simp only [nm] at hb);try ((exfalso;omega);done)))))|(((refine oJ hJ (eJ (id := 1) ?_)));(all_goals (refine vV (aN rfl rfl) ?_)))|(((refine oJ hJ (eJ (id := 2) ?_)));(all_goals (refine vV (ix T rfl (by omega) (jE _) ga) ?_;refine lV T ?_;refine bS (bH T rfl) rfl ?_;refine aR T rfl rfl rfl rfl rfl rfl (by decide) rfl ?_)))|(((refine oJ hJ (eJ (id := 3) ?_)));(all_goals (refine PG T ?_;(refine qV T ?_);refine mV ?_)))|refine nZ ?_));all_goals try (exfalso;omega)
    refine AJ (X := {j : Nat // j ≤ b.2.length}) (fun j => [(0,.clo (.yield y) [] []),(1,.pr (gA a) 0),(2,.pr (gA b) 0),(3,.pr [.rowE (ints l) 1] 0),(6,.ptr 0 0),(15,.rowE (eW a.2) 3),(16,.i (eW a.2).length),(17,.i i),(22,.rowE (eW b.2) 3),(23,.i (eW b.2).length),(24,.i j.1)]) (fun _ => [.cells (wA x)]) (fun j => (b.2.length * i + j.1,false)) (fun j => b.2.length - j.1) ⟨0,bW _⟩ rfl ⟨[0],rfl,(by repeat first|exact trivial|refine ⟨rfl,?_⟩),⟨.inr rfl,trivial⟩,by decide,jJ _⟩ ?_
    rintro ⟨j,hj⟩;dsimp only;by_cases hjl : j < b.2.length
    · have gb := nE hjl;have hy1 := sb.p _ (aK hjl);have hy2 := sb.c _ (aK hjl);have hy3 := h2 _ (aK hjl);have hit := hpi j hjl;have hk : b.2.length * i + j < (nI a b l).length := by
        rw [hnn];have := Nat.mul_le_mul_left b.2.length (show i + 1 ≤ a.2.length by omega)
        rw [RN] at this;omega
      generalize b.2[j] = z at *
      (repeat' (first|(first|(refine tX ?_)|(refine vU ?_)|(refine I9 ?_))|((refine tY rfl (fun hb=>?_) (fun hb=>?_)<;>(((try simp only [nm] at hb);try ((exfalso;omega);done)))))|(((refine oJ hJ (eJ (id := 4) ?_)));(all_goals (refine vV (aN rfl rfl) ?_)))|(((refine oJ hJ (eJ (id := 5) ?_)));(all_goals (refine vV (ix T rfl (by omega) (jE _) gb) ?_;refine lV T ?_;refine bS (bH T rfl) rfl ?_;refine aR T rfl rfl rfl rfl rfl rfl (by decide) rfl ?_)))|(((refine oJ hJ (eJ (id := 6) ?_)));(all_goals (refine PG T ?_;refine PG T ?_;refine vV (bF rfl rfl (by omega) (by omega)) ?_;refine vV (by exact eH T rfl rfl rfl rfl) ?_;refine bS (bH T rfl) rfl ?_;refine aR T rfl rfl rfl rfl rfl rfl (by decide) rfl ?_)))|(((refine oJ hJ (eJ (id := 7) ?_)));(all_goals (refine lV T ?_;(refine qV T ?_);refine mV ?_)))|refine nZ ?_));all_goals try (exfalso;omega)
      refine oJ hJ ?_;refine tZ 2 0 1 rfl rfl (by decide) ?_
      refine tZ 2 2 2 rfl rfl (by decide) ?_
      let fp : Int → Int := fun k => if k ∈ a.1 then gP x (a.1.idxOf k) else gP z (b.1.idxOf k)
      let fc : Int → SP := fun k => if k ∈ a.1 then gC x (a.1.idxOf k) else gC z (b.1.idxOf k)
      have hw : L4 a b x z l = (l.map fp,x.2.1 + z.2.1,l.map fc) := rfl;rw [hw] at hit;have hplen : (l.map fp).length = l.length := bN _;have hclen : (l.map fc).length = l.length := bN _;have hpt : ∀ m (h : m < l.length),(l.map fp).take (m + 1) = (l.map fp).take m ++ [fp l[m]] := fun m h => BQ h
      have hct : ∀ m (h : m < l.length),(l.map fc).take (m + 1) = (l.map fc).take m ++ [fc l[m]] := fun m h => BQ h
      have hfa : ∀ k,k ∈ a.1 → fp k = x.1.getD (a.1.idxOf k) 0 ∧ fc k = x.2.2.getD (a.1.idxOf k) (0,0) := fun k h => ⟨if_pos h,if_pos h⟩
      have hfb : ∀ k,k ∉ a.1 → fp k = z.1.getD (b.1.idxOf k) 0 ∧ fc k = z.2.2.getD (b.1.idxOf k) (0,0) := fun k h => ⟨if_neg h,if_neg h⟩
      clear_value fp fc
      clear hw;generalize l.map fp = PP at *;generalize l.map fc = CC at *;refine cT (X := {m : Nat // m ≤ l.length}) (fun m => [(0, .clo (.yield y) [] []), (1, .pr (gA a) 0), (2, .pr (gA b) 0), (3, .pr [.rowE (ints l) 1] 0), (6, .ptr 0 0), (8, .ptr 1 0), (9, .ptr 2 0), (15, .rowE (eW a.2) 3), (16, .i (eW a.2).length), (17, .i i), (22, .rowE (eW b.2) 3), (23, .i (eW b.2).length), (24, .i j), (34, .rowE (ints l) 1), (35, .i (ints l).length), (36, .i m.1)])
        (fun m => [.cells (wA x),.cells (wA z),.cells [.sl 3 0 m.1 1,.i (x.2.1 + z.2.1),.sl 4 0 m.1 2],.arr (ints (PP.take m.1)) 1,.arr (eO (CC.take m.1)) 2]) (fun m => l.length - m.1) ⟨0,bW _⟩ ⟨[0,1,2,3,4],rfl,(by repeat first|exact trivial|refine ⟨rfl,?_⟩),⟨.inr rfl,.inr rfl,.inr rfl,.inr rfl,.inr rfl,trivial⟩,by decide,jJ _⟩ ?_
      rintro ⟨m,hm'⟩;dsimp only;have hTp : (ints (PP.take m)).length = m := by rw [cY,aU];omega
      have hTc : (eO (CC.take m)).length = m := by rw [fU,aU];omega
      by_cases hml : m < l.length
      · have hgl := HR hml;have hkm := hm l[m] (aK hml);have hp1 := hpt m hml;have hc1 := hct m hml;generalize l[m] = k at *;by_cases hka : k ∈ a.1
        · obtain ⟨e1,e2⟩ := hfa k hka;have hix := rD a.1 k (by have := sa.b;omega)
          have hxi : sJ a.1 k 0 = ((a.1.idxOf k : Nat) : Int) := by have := tI a.1 k 0 hka;simpa using this
          rw [hxi] at hix;have hio := kX hka;generalize a.1.idxOf k = ia at *;have qp := mE (l := x.1) (j := (ia : Int)) (i := ia) 0 (by omega) rfl
          have qc := oT (l := x.2.2) (j := (ia : Int)) (i := ia) (by omega) rfl
          have hlp : (ints x.1).length = x.1.length := cY _;have hlc : (eO x.2.2).length = x.2.2.length := fU _;rw [← e1] at qp;rw [← e2] at qc;have hPs : ints (PP.take (m + 1)) = ints (PP.take m) ++ [[AV.i (fp k)]] := by rw [hp1,C3]
          have hCs : eO (CC.take (m + 1)) = eO (CC.take m) ++ [[AV.i (fc k).1,AV.i (fc k).2]] := by rw [hc1,eO,cN];rfl
          generalize ints (PP.take m) = P0 at *;generalize eO (CC.take m) = C0 at *;generalize fp k = vp at *;generalize fc k = vc at *
          (repeat' (first|refine wS ?_|refine wB ?_|refine wK ?_|refine wU ?_|(refine wC rfl ?_ ?_<;>(intro hb;(try simp only [nm] at hb);try (exfalso;omega)))|(refine rg 8 (vV (aN rfl rfl) ?_))|(refine rg 9 (vV (ix T rfl (by omega) (cP _) hgl) (lW T rfl (aV ?_))))|(refine lE (id := 10) 6 79 [[],[],[1],[],[1,2,3],[],rN 6,rN 7] [[],[],[1],[],[1,2,3],[]] [40,41,42,43,44,12] [[],[40],[40],[40,41,42],[40],rM 40 5] cM rfl (by decide +kernel) (by decide +kernel) ?_;(dsimp only [List.take,List.drop]);refine dO T rfl (dP T rfl (dO T rfl (dN rfl (dV rfl (kC (hix)) (xU rfl rfl rfl (by exact bH T rfl) rfl ?_)))));refine AA rfl rfl (by ((dsimp only [List.nil_append,List.cons_append,List.append_nil,List.length_cons,List.length_nil,List.set_cons_zero,List.set_cons_succ,List.map_cons,List.map_nil,iR,kV,kK,oP,BO,uT,D9,D7,D6,D8,uS,uV,uR,uU,Nat.zero_add,Nat.add_zero,Nat.reduceAdd,Bool.not_true,Bool.not_false];done))) ?_;refine fT ?_;refine aR T rfl rfl rfl rfl rfl rfl (by decide) rfl (aV ?_))|(refine rg 11 (mW rfl (vV (aN rfl rfl) ?_)))|(refine pZ (id := 13) 79 zK7 (rM 52 19) zK8 [(8,3),(17,4),(19,2)] cM rfl (by decide +kernel) (eT rfl rfl rfl rfl (by exact bV T rfl rfl rfl) ?_);refine eT rfl rfl rfl rfl (by exact aS T rfl rfl rfl rfl) ?_;refine eT rfl rfl rfl rfl (by exact bV T rfl rfl rfl) ?_;refine eT rfl rfl rfl rfl (by exact aS T rfl rfl rfl rfl) ?_;refine eT rfl rfl rfl rfl (by exact bU rfl) ?_;refine eT rfl rfl rfl rfl (by exact ix T rfl (by omega) (cP _) qp) ?_;refine eT rfl rfl rfl rfl (by exact aS T rfl rfl rfl rfl) ?_;refine F4 rfl rfl rfl rfl (by exact bC T rfl rfl (by decide) (by decide) rfl rfl rfl) rfl ?_;refine vP rfl rfl rfl rfl (aM rfl) (by exact qA T rfl rfl rfl rfl rfl rfl (by omega) (kE.whole rfl rfl) rfl (by simp;omega) (by simp;omega)) ?_;refine eT rfl rfl rfl rfl (by exact bV T rfl rfl rfl) ?_;refine eT rfl rfl rfl rfl (by exact aS T rfl rfl rfl rfl) ?_;refine eT rfl rfl rfl rfl (by exact bV T rfl rfl rfl) ?_;refine eT rfl rfl rfl rfl (by exact aS T rfl rfl rfl rfl) ?_;refine eT rfl rfl rfl rfl (by exact bU rfl) ?_;refine eT rfl rfl rfl rfl (by exact ix T rfl (by omega) (gW _) qc) ?_;refine eT rfl rfl rfl rfl (by exact aS T rfl rfl rfl rfl) ?_;refine F4 rfl rfl rfl rfl (by exact bC T rfl rfl (by decide) (by decide) rfl rfl rfl) rfl ?_;refine vP rfl rfl rfl rfl (aM rfl) (by exact qA T rfl rfl rfl rfl rfl rfl (by omega) (kE.whole rfl rfl) rfl (by simp;omega) (by simp;omega)) ?_;refine eT rfl rfl rfl rfl (by exact bV T rfl rfl rfl) ?_;refine Z9 rfl rfl rfl rfl (aM rfl) T rfl rfl rfl rfl rfl rfl (by decide) rfl ?_;refine wV rfl rfl rfl (by exact rfl) ?_;refine fW T rfl (aR T rfl rfl rfl rfl rfl rfl (by decide) rfl ?_))|(refine rg 14 (vV (bF rfl rfl (by omega) (by omega)) (mV ?_)))|refine nZ ?_));all_goals try (exfalso;omega)
          exact ⟨⟨m + 1,hml⟩,by dsimp only;omega,⟨[0,1,2,7,9],rfl,(by repeat first|exact trivial|refine ⟨rfl,?_⟩),⟨.inr rfl,.inr rfl,.inr rfl,.inr (aG rfl (by dsimp only;rw [hPs];exact kJ hTp.symm) (bO _)),.inr (aG rfl (by dsimp only;rw [hCs];exact kJ hTc.symm) (eY _)),trivial⟩,by decide,jJ _⟩⟩
        · obtain ⟨e1,e2⟩ := hfb k hka;have hkb : k ∈ b.1 := hkm.resolve_left hka;have hix := rD a.1 k (by have := sa.b;omega)
          have hiy := rD b.1 k (by have := sb.b;omega)
          have hyi : sJ b.1 k 0 = ((b.1.idxOf k : Nat) : Int) := by have := tI b.1 k 0 hkb;simpa using this
          rw [HY _ _ _ hka] at hix;rw [hyi] at hiy;have hio := kX hkb;generalize b.1.idxOf k = ia at *;have qp := mE (l := z.1) (j := (ia : Int)) (i := ia) 0 (by omega) rfl
          have qc := oT (l := z.2.2) (j := (ia : Int)) (i := ia) (by omega) rfl
          have hlp : (ints z.1).length = z.1.length := cY _;have hlc : (eO z.2.2).length = z.2.2.length := fU _;rw [← e1] at qp;rw [← e2] at qc;have hPs : ints (PP.take (m + 1)) = ints (PP.take m) ++ [[AV.i (fp k)]] := by rw [hp1,C3]
          have hCs : eO (CC.take (m + 1)) = eO (CC.take m) ++ [[AV.i (fc k).1,AV.i (fc k).2]] := by rw [hc1,eO,cN];rfl
          generalize ints (PP.take m) = P0 at *;generalize eO (CC.take m) = C0 at *;generalize fp k = vp at *;generalize fc k = vc at *
          (repeat' (first|refine wS ?_|refine wB ?_|refine wK ?_|refine wT ?_|(refine wC rfl ?_ ?_<;>(intro hb;(try simp only [nm] at hb);try (exfalso;omega)))|(refine rg 8 (vV (aN rfl rfl) ?_))|(refine rg 9 (vV (ix T rfl (by omega) (cP _) hgl) (lW T rfl (aV ?_))))|(refine lE (id := 10) 6 79 [[],[],[1],[],[1,2,3],[],rN 6,rN 7] [[],[],[1],[],[1,2,3],[]] [40,41,42,43,44,12] [[],[40],[40],[40,41,42],[40],rM 40 5] cM rfl (by decide +kernel) (by decide +kernel) ?_;(dsimp only [List.take,List.drop]);refine dO T rfl (dP T rfl (dO T rfl (dN rfl (dV rfl (kC (hix)) (xU rfl rfl rfl (by exact bH T rfl) rfl ?_)))));refine AA rfl rfl (by ((dsimp only [List.nil_append,List.cons_append,List.append_nil,List.length_cons,List.length_nil,List.set_cons_zero,List.set_cons_succ,List.map_cons,List.map_nil,iR,kV,kK,oP,BO,uT,D9,D7,D6,D8,uS,uV,uR,uU,Nat.zero_add,Nat.add_zero,Nat.reduceAdd,Bool.not_true,Bool.not_false];done))) ?_;refine fT ?_;refine aR T rfl rfl rfl rfl rfl rfl (by decide) rfl (aV ?_))|(refine rg 11 (mW rfl (vV (aN rfl rfl) ?_)))|(refine mH (id := 12) 79 [[],[],[1],[],[1,2,3],rN 5] (rM 47 5) [[],[47],[47],[47,48,49],[47],[]] [(5,5)] cM rfl (by decide +kernel) (cE rfl rfl rfl rfl (by exact aS T rfl rfl rfl rfl) ?_);refine cE rfl rfl rfl rfl (by exact bV T rfl rfl rfl) ?_;refine cE rfl rfl rfl rfl (by exact aS T rfl rfl rfl rfl) ?_;refine cE rfl rfl rfl rfl (by exact bU rfl) ?_;refine cE rfl rfl rfl rfl (by exact kC (hiy)) ?_;refine tU rfl rfl rfl rfl (aM rfl) T rfl rfl rfl rfl rfl rfl (by decide) rfl ?_;refine pS rfl rfl rfl (by exact rfl) ?_;refine aV ?_)|(refine pZ (id := 13) 79 zK7 (rM 52 19) zK8 [(8,3),(17,4),(19,2)] cM rfl (by decide +kernel) (eT rfl rfl rfl rfl (by exact bV T rfl rfl rfl) ?_);refine eT rfl rfl rfl rfl (by exact aS T rfl rfl rfl rfl) ?_;refine eT rfl rfl rfl rfl (by exact bV T rfl rfl rfl) ?_;refine eT rfl rfl rfl rfl (by exact aS T rfl rfl rfl rfl) ?_;refine eT rfl rfl rfl rfl (by exact bU rfl) ?_;refine eT rfl rfl rfl rfl (by exact ix T rfl (by omega) (cP _) qp) ?_;refine eT rfl rfl rfl rfl (by exact aS T rfl rfl rfl rfl) ?_;refine F4 rfl rfl rfl rfl (by exact bC T rfl rfl (by decide) (by decide) rfl rfl rfl) rfl ?_;refine vP rfl rfl rfl rfl (aM rfl) (by exact qA T rfl rfl rfl rfl rfl rfl (by omega) (kE.whole rfl rfl) rfl (by simp;omega) (by simp;omega)) ?_;refine eT rfl rfl rfl rfl (by exact bV T rfl rfl rfl) ?_;refine eT rfl rfl rfl rfl (by exact aS T rfl rfl rfl rfl) ?_;refine eT rfl rfl rfl rfl (by exact bV T rfl rfl rfl) ?_;refine eT rfl rfl rfl rfl (by exact aS T rfl rfl rfl rfl) ?_;refine eT rfl rfl rfl rfl (by exact bU rfl) ?_;refine eT rfl rfl rfl rfl (by exact ix T rfl (by omega) (gW _) qc) ?_;refine eT rfl rfl rfl rfl (by exact aS T rfl rfl rfl rfl) ?_;refine F4 rfl rfl rfl rfl (by exact bC T rfl rfl (by decide) (by decide) rfl rfl rfl) rfl ?_;refine vP rfl rfl rfl rfl (aM rfl) (by exact qA T rfl rfl rfl rfl rfl rfl (by omega) (kE.whole rfl rfl) rfl (by simp;omega) (by simp;omega)) ?_;refine eT rfl rfl rfl rfl (by exact bV T rfl rfl rfl) ?_;refine Z9 rfl rfl rfl rfl (aM rfl) T rfl rfl rfl rfl rfl rfl (by decide) rfl ?_;refine wV rfl rfl rfl (by exact rfl) ?_;refine fW T rfl (aR T rfl rfl rfl rfl rfl rfl (by decide) rfl ?_))|(refine rg 14 (vV (bF rfl rfl (by omega) (by omega)) (mV ?_)))|refine nZ ?_));all_goals try (exfalso;omega)
          exact ⟨⟨m + 1,hml⟩,by dsimp only;omega,⟨[0,1,2,7,9],rfl,(by repeat first|exact trivial|refine ⟨rfl,?_⟩),⟨.inr rfl,.inr rfl,.inr rfl,.inr (aG rfl (by dsimp only;rw [hPs];exact kJ hTp.symm) (bO _)),.inr (aG rfl (by dsimp only;rw [hCs];exact kJ hTc.symm) (eY _)),trivial⟩,by decide,jJ _⟩⟩
      · obtain rfl : m = l.length := by omega
        rw [show PP.take l.length = PP by rw [← hplen,cO],show CC.take l.length = CC by rw [← hclen,cO]]
        refine lX 2 0 rfl rfl rfl (by rw [cY,hplen]) (gI (bO _)) ?_
        refine lX 2 2 rfl rfl rfl (by rw [fU,hclen]) (gI (eY _)) ?_
        (repeat' (first|refine wS ?_|refine wE ?_|(refine wC rfl ?_ ?_<;>(intro hb;(try simp only [nm] at hb);try (exfalso;omega)))|(refine rg 8 (vV (aN rfl rfl) ?_))|refine nZ ?_));all_goals try (exfalso;omega)
        show AY _ _ _ _ _ _ _ _ _
        (repeat' (first|(first|(refine tX ?_)|(refine I9 ?_)|(refine QG ?_))|((refine tY rfl (fun hb=>?_) (fun hb=>?_)<;>(((try simp only [nm] at hb);try ((exfalso;omega);done)))))|(((refine U8 (id := 15) ?_));((refine LX 2 hJ ?_));(dsimp only [List.take,List.drop]);(all_goals (refine mV ?_;refine lV T ?_;refine fT ?_;refine BK hJ hy rfl rfl rfl hk hit rfl ?_));(all_goals (intro yes));(all_goals (refine VO hJ ?_;refine vV (fB rfl) ?_;refine H9 (by ((dsimp only [List.nil_append,List.cons_append,List.append_nil,List.length_cons,List.length_nil,List.set_cons_zero,List.set_cons_succ,List.map_cons,List.map_nil,iR,kV,kK,oP,BO,uT,D9,D7,D6,D8,uS,uV,uR,uU,Nat.zero_add,Nat.add_zero,Nat.reduceAdd,Bool.not_true,Bool.not_false];done))) ?_)))|(((refine oJ hJ (eJ (id := 16) ?_)));(all_goals (refine vV (bF rfl rfl (by omega) (by omega)) ?_;refine mV ?_)))|refine nZ ?_));all_goals first | (exfalso;omega) | skip
        · exact ⟨.inl rfl,fun h => (by first | (subst hb;cases h) | (cases h;done)),[],rfl⟩
        · obtain rfl := hb;exact ⟨⟨j + 1,hjl⟩,by dsimp only;omega,rfl,⟨[0],rfl,(by repeat first|exact trivial|refine ⟨rfl,?_⟩),⟨.inr rfl,trivial⟩,by decide,jJ _⟩⟩
    · obtain rfl : j = b.2.length := by omega
      (repeat' (first|(first|(refine tX ?_)|(refine AK ?_))|((refine tY rfl (fun hb=>?_) (fun hb=>?_)<;>(((try simp only [nm] at hb);try ((exfalso;omega);done)))))|(((refine oJ hJ (eJ (id := 4) ?_)));(all_goals (refine vV (aN rfl rfl) ?_)))|(((refine oJ hJ (eJ (id := 17) ?_)));(all_goals (refine vV (bF rfl rfl (by omega) (by omega)) ?_;refine mV ?_)))|refine nZ ?_));all_goals first | (exfalso;omega) | skip
      exact ⟨⟨i + 1,hlt⟩,by dsimp only;omega,rfl,gO []⟩
  · obtain rfl : i = a.2.length := by omega
    (repeat' (first|(first|(refine tX ?_)|(refine AK ?_))|((refine tY rfl (fun hb=>?_) (fun hb=>?_)<;>(((try simp only [nm] at hb);try ((exfalso;omega);done)))))|(((refine oJ hJ (eJ (id := 1) ?_)));(all_goals (refine vV (aN rfl rfl) ?_)))|refine nZ ?_));all_goals first | (exfalso;omega) | skip
    exact ⟨.inr rfl,fun _ => by rw [hnn],[],rfl⟩
end Go.Proofs.YtbialaoigijlgaaGreatDoor
namespace Go.Ab
open Go
theorem pM {P : Program} {env : dI} {h : Hp} {d : Option Nat} {ty : TypeId} {pos : String} {af : Array Edge} {g : Option (Nat × Bool)} (T : nN P) {t e sz : Nat} {es : List (List AV)} {c : List AV} {i : TI} {x y : Operand} {kk : IntKind} {j : Int} (hx : evu env x = some (.rowE es sz)) (hy : evu env y = some (.v (.int kk j))) (ha : T.elem t = some e) (he : T.ti e = some i) (hs : i.size = sz) (h0 : 0 ≤ j) (hl : ∀ e,e ∈ es → e.length = sz) (hc : es[j.toNat]? = some c) :
    RK P ⟨d,.indexAddr t x y,ty,pos,af,g⟩ env h (.pr c 0) := by
  intro ρ S a w p;have h1 : j < es.length := by have := (aA.1 hc).1;omega
  have h2 := p.evu hx;simp only [R] at h2;obtain ⟨ad,cap,h3,_,_,_,_,h4⟩ := h2;rcases h4 with h4 | ⟨b,o,ys,h5,h6,h7,h8⟩
  · omega
  have h9 := qX (p.evu hy);subst h5;refine ⟨.pointer (some ⟨b,o + j.toNat * sz,none⟩),fun w' => by simp [execOp,h3,h9,Instr.indexAt,asIntOf,run_underlying (T.elemOk _ _ ha),h0,h1,T.sizeOf he,Addr.add_lit,hs],HH hl hc ?_⟩
  simp only [R];exact ⟨b,o,ys,rfl,h6,h7,h8⟩
end Go.Ab
namespace Go.Ld
open Go.Ab Go.Proofs.YtbialaoigijlgaaGreatDoor
theorem jW {l : List G} {b : Int} (h : ∃ g,g ∈ l ∧ b ∈ g.1) : ∃ (i : Nat) (g : G),mZ l b = (i : Int) ∧ l[i]? = some g ∧ b ∈ g.1 := by
  obtain ⟨g,hg,hb⟩ := h;unfold mZ;cases hf : l.findIdx? fun g => decide (b ∈ g.1) with
  | none => have := List.findIdx?_eq_none_iff.1 hf g hg;simp at this;exact absurd hb this
  | some i =>
    obtain ⟨h1,h2,_⟩ := List.findIdx?_eq_some_iff_getElem.1 hf;exact ⟨i,l[i],rfl,aB h1,by simpa using h2⟩
theorem nH (l : List Int) : hO l = dK cI l :=
  xN oD (Go.Pm.sorted_perm l) ((Go.Pm.sorted_up l).imp fun {a b} h => by unfold cI;split <;> (try split) <;> omega)
theorem JK {a b : G} {l : List Int} {k : Nat} {w : W} (h : (nI a b l)[k]? = some w) : L2 a b l k = [.agg (wA w)] := by unfold L2;rw [h]
end Go.Ld
namespace Go.Proofs.YtbialaoigijlgaaGreatDoor
open Go Go.Ab Go.Ld
attribute [local irreducible] VC AW bT aQ AY VY P6 jI
set_option maxHeartbeats 4000000
theorem zD9 : ∀ i : Nat,i < 1 → ([0,4] : List Nat)[i]? = some i := by decide
theorem TM {n : Nat} (l : List G) (a b : Int) (ok : mA n l) (ha : ∃ g,g ∈ l ∧ a ∈ g.1) (hb : ∃ g,g ∈ l ∧ b ∈ g.1) (hs : mZ l a = mZ l b) : aQ Tryz.prog 36 [.sl 0 0 l.length 2,.i a,.i b] [.arr (gZ l) 2] (.tup [.sl 0 0 l.length 2,.i 0]) [.arr (gZ l) 2] := by
  have hl12 : l.length ≤ 12 := bX ok.len ok.ln;have hgl : ∀ g,g ∈ l → g.1.length ≤ 1000000 := fun g hg => by have := (ok.ok g hg).ln;omega
  have f1 := tT l a (by omega) hgl
  have f2 := tT l b (by omega) hgl
  obtain ⟨i,x,e1,hx,hax⟩ := jW ha;obtain ⟨k,y,e2,hy,hby⟩ := jW hb;rw [e1] at f1;rw [e2] at f2;have hil := (aA.1 hx).1;have hkl := (aA.1 hy).1;have hll : (gZ l).length = l.length := gY _;have qx : (gZ l)[(i : Int).toNat]? = some (gA x) := by rw [bR,bJ,hx];rfl
  have qy : (gZ l)[(k : Int).toNat]? = some (gA y) := by rw [bR,bJ,hy];rfl
  have ax : mP l (i : Int).toNat = x := by unfold mP;rw [bR,aC,hx];rfl
  have ay : mP l (k : Int).toNat = y := by unfold mP;rw [bR,aC,hy];rfl
  have hik : i = k := by omega
  subst hik;have hvw : mN [.arr (gZ l) 2] (.sl 0 0 l.length 2) (.rowE (gZ l) 2) := rW rfl hll.symm (sE (fun _ => rfl) _);refine bK T Tryz.func36 rfl rfl rfl rfl ?_
  (repeat' (first|refine wS ?_|refine wR ?_|refine wT ?_|(refine rg 0 (pG ?_))|(refine rg 1 (eG rfl (vV (by exact eI rfl rfl f1 (.cons hvw (.cons (.v _) .nil)) rfl rfl) ?_));refine eG rfl (vV (by exact eI rfl rfl f2 (.cons hvw (.cons (.v _) .nil)) rfl rfl) ?_);refine pG ?_)|(refine rg 2 (eG rfl (vV (jZ rfl rfl rfl) ?_)))|(refine rg 3 (mW rfl (pG ?_)))|refine nZ ?_));all_goals first | (exfalso;omega) | exact ⟨.inl rfl,[0],_,rfl,rfl,rfl,⟨.inr (aG rfl rfl (dX _)),trivial⟩,by decide,Q3⟩
theorem TO {n : Nat} (l : List G) (a b : Int) (ok : mA n l) (ha : ∃ g,g ∈ l ∧ a ∈ g.1) (hb : ∃ g,g ∈ l ∧ b ∈ g.1) (hj : join l a b = none) : aQ Tryz.prog 36 [.rowE (gZ l) 2,.i a,.i b] [] (.tup [.nils,.i 6]) [] := by
  have hl12 : l.length ≤ 12 := bX ok.len ok.ln;have hgl : ∀ g,g ∈ l → g.1.length ≤ 1000000 := fun g hg => by have := (ok.ok g hg).ln;omega
  have f1 := tT l a (by omega) hgl
  have f2 := tT l b (by omega) hgl
  obtain ⟨i,x,e1,hx,hax⟩ := jW ha;obtain ⟨k,y,e2,hy,hby⟩ := jW hb;rw [e1] at f1;rw [e2] at f2;have hil := (aA.1 hx).1;have hkl := (aA.1 hy).1;have hll : (gZ l).length = l.length := gY _;have qx : (gZ l)[(i : Int).toNat]? = some (gA x) := by rw [bR,bJ,hx];rfl
  have qy : (gZ l)[(k : Int).toNat]? = some (gA y) := by rw [bR,bJ,hy];rfl
  have ax : mP l (i : Int).toNat = x := by unfold mP;rw [bR,aC,hx];rfl
  have ay : mP l (k : Int).toNat = y := by unfold mP;rw [bR,aC,hy];rfl
  unfold join at hj;dsimp only at hj;rw [e1,e2,ax,ay] at hj;clear ha hb;have hik : i ≠ k := fun q => by subst q;rw [if_pos rfl] at hj;cases hj
  rw [if_neg (by omega)] at hj
  have hf : 6 < x.1.length + y.1.length ∨ 1000 < x.2.length * y.2.length := by
    by_cases hf : 6 < x.1.length + y.1.length ∨ 1000 < x.2.length * y.2.length
    · exact hf
    · rw [if_neg hf] at hj;cases hj
  clear hj;have xo := ok.ok x (aJ hx);have yo := ok.ok y (aJ hy);have xw := ok.ws x (aJ hx);have yw := ok.ws y (aJ hy);have xl := xo.ln;have yl := yo.ln;have xp := dZ.2 xo.ne;have yp := dZ.2 yo.ne;have sx := xo.sz xw;have sy := yo.sz yw;have l1 : (ints x.1).length = x.1.length := cY _;have l2 : (ints y.1).length = y.1.length := cY _;have l3 : (eW x.2).length = x.2.length := eB _;have l4 : (eW y.2).length = y.2.length := eB _;have hmx : x.2.length * y.2.length ≤ 2000 * 2000 := Nat.mul_le_mul xw yw;have hml : ((x.2.length : Int) * y.2.length) = ((x.2.length * y.2.length : Nat) : Int) := by push_cast;rfl
  obtain ⟨bx,wx⟩ := x;obtain ⟨by_,wy⟩ := y;have hmI : (((eW wx).length : Nat) : Int) * ((eW wy).length : Nat) = ((wx.length * wy.length : Nat) : Int) := by rw [eB,eB];push_cast;rfl
  dsimp only at *;refine bK T Tryz.func36 rfl rfl rfl rfl ?_
  (repeat' (first|refine wS ?_|refine wK ?_|refine wU ?_|(refine rg 0 (pG ?_))|(refine rg 1 (eG rfl (vV (kC (f1)) (eG rfl (vV (kC (f2)) (pG ?_))))))|(refine rg 2 (eG rfl (vV (fX rfl rfl (by omega)) ?_)))|refine nZ ?_));refine QL [(0,.rowE (gZ l) 2),(8,.i i),(9,.i k),(10,.ptr 0 0),(11,.ptr 1 0)] [.cells [.rowE (ints bx) 1,.rowE (eW wx) 3],.cells [.rowE (ints by_) 1,.rowE (eW wy) 3]] ?_ ?_
  · refine EE (id := 4) cM ?_;refine uK 0 rfl rfl (by decide +kernel) (by decide +kernel) (by decide +kernel) (by exact rA rfl) rfl ?_
    refine uK 1 rfl rfl (by decide +kernel) (by decide +kernel) (by decide +kernel) (by exact rA rfl) rfl ?_
    refine uK 2 rfl rfl (by decide +kernel) (by decide +kernel) (by decide +kernel) (by exact pM T rfl rfl rfl rfl rfl (by omega) (lL _) qx) rfl ?_
    refine uK 4 rfl rfl (by decide +kernel) (by decide +kernel) (by decide +kernel) (by exact rA rfl) rfl ?_
    refine uK 5 rfl rfl (by decide +kernel) (by decide +kernel) (by decide +kernel) (by exact rA rfl) rfl ?_
    refine uK 6 rfl rfl (by decide +kernel) (by decide +kernel) (by decide +kernel) (by exact pM T rfl rfl rfl rfl rfl (by omega) (lL _) qy) rfl ?_
    refine IP [(0,[]),(1,[]),(2,[0,1]),(3,[2]),(4,[]),(5,[]),(6,[4,5]),(7,[6]),(8,[]),(9,[]),(10,[8,3,0,1,2,3,8,9]),(11,[9,7,10,0,1,2,3,4,5,6,7,8,9,10])] (by decide +kernel) [true,true,true,false,true,true,true,false,false,false,false,false] rfl rfl ?_
    (repeat' (first|(refine QZ rfl rfl ?_;(first|(refine lV T ?_)|(refine bS (bH T rfl) rfl ?_)|(refine aR T rfl rfl rfl rfl rfl rfl (by decide) rfl ?_));refine fT ?_;dsimp only [List.set_cons_zero,List.set_cons_succ])|(refine QY rfl rfl rfl ?_ ?_<;>((first|(refine lV T ?_)|(refine bS (bH T rfl) rfl ?_)|(refine aR T rfl rfl rfl rfl rfl rfl (by decide) rfl ?_));refine fT ?_;dsimp only [List.set_cons_zero,List.set_cons_succ]))|(refine QW rfl rfl rfl rfl ?_ ?_ ?_<;>((first|(refine lV T ?_)|(refine bS (bH T rfl) rfl ?_));refine fT ?_;dsimp only [List.set_cons_zero,List.set_cons_succ]))|(refine QV rfl rfl rfl rfl rfl ?_ ?_ ?_ ?_<;>((first|(refine lV T ?_)|(refine bS (bH T rfl) rfl ?_));refine fT ?_;dsimp only [List.set_cons_zero,List.set_cons_succ]))));all_goals first | exact wY rfl ⟨rfl,[0,1],rfl,(by repeat first|exact trivial|refine ⟨rfl,?_⟩),⟨.inr rfl,.inr rfl,trivial⟩,by decide,jJ _⟩ | exact wY rfl ⟨rfl,[1,0],rfl,(by repeat first|exact trivial|refine ⟨rfl,?_⟩),⟨.inr rfl,.inr rfl,trivial⟩,by decide,jJ _⟩
  intro v g hsub;refine GJ hsub ?_
  (repeat' (first|refine wS ?_|refine wR ?_|refine wT ?_|(refine wC rfl ?_ ?_<;>(intro hb;(try simp only [nm] at hb);try (exfalso;omega)))|(refine rg 5 (iX T rfl (qW T rfl (iX T rfl (qW T rfl (vV (bF rfl rfl (by omega) (by omega)) (vV (gN rfl rfl) (mV ?_)))))));refine eN rfl rfl ?_ ?_<;>(intro hb;rw [hb];(try simp only [nm] at hb);try (exfalso;omega));(all_goals first|(refine gT (fW T rfl (gT (lW T rfl (gT (qW T rfl (gT (fW T rfl (gT (lV T ?_)))))))));refine gT (qW T rfl (gT (vV (tK rfl rfl (by omega) (by omega)) (gT (vV (gN rfl rfl) ?_))))))|(iterate 8 refine gF ?_));(all_goals (refine pV ?_)))|(refine rg 6 (pG ?_))|refine nZ ?_));all_goals first | (exfalso;omega) | exact rQ
theorem TN {n : Nat} (l : List G) (a b : Int) (ok : mA n l) (ha : ∃ g,g ∈ l ∧ a ∈ g.1) (hb : ∃ g,g ∈ l ∧ b ∈ g.1) {all : List G} (hj : join l a b = some all) (hne : mZ l a ≠ mZ l b) : aQ Tryz.prog 36 [.rowE (gZ l) 2,.i a,.i b] [] (.tup [.sl 0 0 all.length 2,.i 0]) [.arr (gZ all) 2] := by
  have hl12 : l.length ≤ 12 := bX ok.len ok.ln;have hgl : ∀ g,g ∈ l → g.1.length ≤ 1000000 := fun g hg => by have := (ok.ok g hg).ln;omega
  have f1 := tT l a (by omega) hgl
  have f2 := tT l b (by omega) hgl
  obtain ⟨i,x,e1,hx,hax⟩ := jW ha;obtain ⟨k,y,e2,hy,hby⟩ := jW hb;rw [e1] at f1;rw [e2] at f2;have hil := (aA.1 hx).1;have hkl := (aA.1 hy).1;have hll : (gZ l).length = l.length := gY _;have qx : (gZ l)[(i : Int).toNat]? = some (gA x) := by rw [bR,bJ,hx];rfl
  have qy : (gZ l)[(k : Int).toNat]? = some (gA y) := by rw [bR,bJ,hy];rfl
  have ax : mP l (i : Int).toNat = x := by unfold mP;rw [bR,aC,hx];rfl
  have ay : mP l (k : Int).toNat = y := by unfold mP;rw [bR,aC,hy];rfl
  unfold join at hj;dsimp only at hj;rw [e1,e2,ax,ay] at hj;clear ha hb;have hik : i ≠ k := fun q => by subst q;exact hne (e1.trans e2.symm)
  rw [if_neg (by omega)] at hj
  have hf : ¬ (6 < x.1.length + y.1.length ∨ 1000 < x.2.length * y.2.length) := fun hf => by rw [if_pos hf] at hj;cases hj
  rw [if_neg hf] at hj
  replace hj := (Option.some.inj hj).symm
  have xo := ok.ok x (aJ hx);have yo := ok.ok y (aJ hy);have xw := ok.ws x (aJ hx);have yw := ok.ws y (aJ hy);have xl := xo.ln;have yl := yo.ln;have xp := dZ.2 xo.ne;have yp := dZ.2 yo.ne;have sx := xo.sz xw;have sy := yo.sz yw;have l1 : (ints x.1).length = x.1.length := cY _;have l2 : (ints y.1).length = y.1.length := cY _;have l3 : (eW x.2).length = x.2.length := eB _;have l4 : (eW y.2).length = y.2.length := eB _;have hmx : x.2.length * y.2.length ≤ 2000 * 2000 := Nat.mul_le_mul xw yw;have hml : ((x.2.length : Int) * y.2.length) = ((x.2.length * y.2.length : Nat) : Int) := by push_cast;rfl
  obtain ⟨bx,wx⟩ := x;obtain ⟨by_,wy⟩ := y;have hmI : (((eW wx).length : Nat) : Int) * ((eW wy).length : Nat) = ((wx.length * wy.length : Nat) : Int) := by rw [eB,eB];push_cast;rfl
  have hjG : oY (bx,wx) (by_,wy) = (dK cI (bx ++ by_),nI (bx,wx) (by_,wy) (dK cI (bx ++ by_))) := rfl;rw [hjG,← nH] at hj;have hbl : (hO (bx ++ by_)).length = bx.length + by_.length := by rw [oM,aD]
  have hmm : ∀ q,q ∈ hO (bx ++ by_) → q ∈ bx ∨ q ∈ by_ := fun q hq => bQ.1 ((Go.Pm.sorted_perm _).mem_iff.1 hq);have h1 := PT bx by_ ⟨by dsimp only at *;omega,by dsimp only at *;omega⟩ ⟨by dsimp only at *;omega,by dsimp only at *;omega⟩
  have h2 := yJ (bx ++ by_);have h3 := J9 (bx ++ by_) (by rw [aD];dsimp only at *;omega)
  have hPl := S8 (bx,wx) (by_,wy) (hO (bx ++ by_));generalize hO (bx ++ by_) = bod at *;have h4 := TD (bx,wx) (by_,wy) bod;have hit := NU (bx,wx) (by_,wy) bod sx sy (by dsimp only at *;omega) hmm (fun w hw => ⟨(xo.ws w hw).m0,(xo.ws w hw).m1⟩) (fun w hw => ⟨(yo.ws w hw).m0,(yo.ws w hw).m1⟩)
  have hpg : ∀ (q : Nat) (w : W),(nI (bx,wx) (by_,wy) bod)[q]? = some w → L2 (bx,wx) (by_,wy) bod q = [.agg (wA w)] := fun q w h => JK h
  generalize L2 (bx,wx) (by_,wy) bod = IT at *;generalize nI (bx,wx) (by_,wy) bod = P at *;have hP : P.length ≤ 1000 := by rw [hPl,Nat.mul_comm];dsimp only at *;omega
  clear hPl hmm h2;have h2 := yJ (bx ++ by_);dsimp only at *;have hcl := DU l (by omega)
  have hS : min (i : Int) (k : Int) = ((min i k : Nat) : Int) := by omega
  have hM : max (i : Int) (k : Int) = ((max i k : Nat) : Int) := by omega
  rw [hS,hM,bR,bR] at hj;have ts := zG (L := l) (j := min (i : Int) (k : Int)) (i := min i k) (x := (bod,P)) hS;have qm := vJ (L := l) (j := min (i : Int) (k : Int)) (i := min i k) (x := l[min i k]'(by omega)) (aB _) hS
  have hdl := XY (l.set (min i k) (bod,P)) (max i k) (max i k + 1) (by omega) (by rw [fR];omega) (by intro h;have := congrArg List.length h;rw [fR,List.length_nil] at this;omega)
  rw [zO,fR,show l.length - (max i k + 1 - max i k) = l.length - 1 by omega,show ((max i k + 1 : Nat) : Int) = max (i : Int) (k : Int) + 1 by omega,← hM] at hdl
  have hel : ((l.set (min i k) (bod,P)).eraseIdx (max i k)).length = l.length - 1 := by rw [fK,fR,if_pos (by omega)]
  generalize l[min i k]'(by omega) = gm at *
  subst hj;rw [hel];refine bK T Tryz.func36 rfl rfl rfl rfl ?_
  (repeat' (first|refine wS ?_|refine wK ?_|refine wU ?_|(refine rg 0 (pG ?_))|(refine rg 1 (eG rfl (vV (kC (f1)) (eG rfl (vV (kC (f2)) (pG ?_))))))|(refine rg 2 (eG rfl (vV (fX rfl rfl (by omega)) ?_)))|refine nZ ?_));refine QL [(0,.rowE (gZ l) 2),(8,.i i),(9,.i k),(10,.ptr 0 0),(11,.ptr 1 0)] [.cells [.rowE (ints bx) 1,.rowE (eW wx) 3],.cells [.rowE (ints by_) 1,.rowE (eW wy) 3]] ?_ ?_
  · refine EE (id := 4) cM ?_;refine uK 0 rfl rfl (by decide +kernel) (by decide +kernel) (by decide +kernel) (by exact rA rfl) rfl ?_
    refine uK 1 rfl rfl (by decide +kernel) (by decide +kernel) (by decide +kernel) (by exact rA rfl) rfl ?_
    refine uK 2 rfl rfl (by decide +kernel) (by decide +kernel) (by decide +kernel) (by exact pM T rfl rfl rfl rfl rfl (by omega) (lL _) qx) rfl ?_
    refine uK 4 rfl rfl (by decide +kernel) (by decide +kernel) (by decide +kernel) (by exact rA rfl) rfl ?_
    refine uK 5 rfl rfl (by decide +kernel) (by decide +kernel) (by decide +kernel) (by exact rA rfl) rfl ?_
    refine uK 6 rfl rfl (by decide +kernel) (by decide +kernel) (by decide +kernel) (by exact pM T rfl rfl rfl rfl rfl (by omega) (lL _) qy) rfl ?_
    refine IP [(0,[]),(1,[]),(2,[0,1]),(3,[2]),(4,[]),(5,[]),(6,[4,5]),(7,[6]),(8,[]),(9,[]),(10,[8,3,0,1,2,3,8,9]),(11,[9,7,10,0,1,2,3,4,5,6,7,8,9,10])] (by decide +kernel) [true,true,true,false,true,true,true,false,false,false,false,false] rfl rfl ?_
    (repeat' (first|(refine QZ rfl rfl ?_;(first|(refine lV T ?_)|(refine bS (bH T rfl) rfl ?_)|(refine aR T rfl rfl rfl rfl rfl rfl (by decide) rfl ?_));refine fT ?_;dsimp only [List.set_cons_zero,List.set_cons_succ])|(refine QY rfl rfl rfl ?_ ?_<;>((first|(refine lV T ?_)|(refine bS (bH T rfl) rfl ?_)|(refine aR T rfl rfl rfl rfl rfl rfl (by decide) rfl ?_));refine fT ?_;dsimp only [List.set_cons_zero,List.set_cons_succ]))|(refine QW rfl rfl rfl rfl ?_ ?_ ?_<;>((first|(refine lV T ?_)|(refine bS (bH T rfl) rfl ?_));refine fT ?_;dsimp only [List.set_cons_zero,List.set_cons_succ]))|(refine QV rfl rfl rfl rfl rfl ?_ ?_ ?_ ?_<;>((first|(refine lV T ?_)|(refine bS (bH T rfl) rfl ?_));refine fT ?_;dsimp only [List.set_cons_zero,List.set_cons_succ]))));all_goals first | exact wY rfl ⟨rfl,[0,1],rfl,(by repeat first|exact trivial|refine ⟨rfl,?_⟩),⟨.inr rfl,.inr rfl,trivial⟩,by decide,jJ _⟩ | exact wY rfl ⟨rfl,[1,0],rfl,(by repeat first|exact trivial|refine ⟨rfl,?_⟩),⟨.inr rfl,.inr rfl,trivial⟩,by decide,jJ _⟩
  intro v g hsub;refine GJ hsub ?_
  (repeat' (first|refine wS ?_|refine wB ?_|refine wK ?_|(refine wC rfl ?_ ?_<;>(intro hb;(try simp only [nm] at hb);try (exfalso;omega)))|(refine rg 5 (iX T rfl (qW T rfl (iX T rfl (qW T rfl (vV (bF rfl rfl (by omega) (by omega)) (vV (gN rfl rfl) (mV ?_)))))));refine eN rfl rfl ?_ ?_<;>(intro hb;rw [hb];(try simp only [nm] at hb);try (exfalso;omega));(all_goals (refine yP T rfl (yO T rfl (gT (qW T rfl (yP T rfl (yO T rfl (gT (qW T rfl (yV (tK rfl rfl (by omega) (by omega)) (yV (gN rfl rfl) ?_)))))))));refine pV ?_)))|(refine rg 7 (iX T rfl (iX T rfl (bS (by exact bC T rfl rfl (by decide) (by decide) rfl rfl rfl) rfl ?_)));refine kM 55 rfl rfl rfl rfl ?_;refine vV (kC (h1)) (vV (kC (h2)) (vV (kC (h3)) (vV (by exact eH T rfl rfl rfl rfl) ?_)));refine bS (bH T rfl) rfl (aR T rfl rfl rfl rfl rfl rfl (by decide) rfl ?_))|(refine rg 8 (lW T rfl (lW T rfl (iX T rfl (vV (kC (h4)) ?_)))))|refine nZ ?_));all_goals try (exfalso;omega)
  refine tZ 3 1 3 rfl rfl (by decide) ?_
  refine EB [] [3,4] [(0,.rowE (gZ l) 2),(8,.i i),(9,.i k),(12,.ptr 0 0)] (fun m => [.cells [.rowE (ints bod) 1,.sl 1 0 m 3],.arr (eW (P.take m)) 3]) 1 rfl hit rfl rfl rfl trivial dA rfl (by repeat first|exact trivial|refine ⟨rfl,?_⟩) ⟨.inr rfl,.inr rfl,trivial⟩ (by decide) (jJ _) (by simp) (bW _) (aM rfl) rfl (by decide) (fun m hm => by rw [hpg m P[m] (aB hm)];exact ⟨rfl,rfl⟩) ?_ ?_
  · intro m hm;rw [hpg m P[m] (aB hm)];have hks := aO hm;have hkl' : (eW (P.take m)).length = m := by rw [eB,aU];omega
    have hW : eW (P.take (m + 1)) = eW (P.take m) ++ [wA P[m]] := by rw [hks,eW,cN];rfl
    generalize P[m] = w at *;obtain ⟨wp,wm,wc⟩ := w;generalize eW (P.take m) = Q at *;refine eJ (id := 9) ?_;refine bS (by exact bH T rfl) rfl ?_
    refine aR T rfl rfl rfl rfl rfl rfl (by decide) rfl ?_
    refine fT ?_;refine ⟨rfl,?_⟩
    repeat' (first|refine wB ?_|(refine rg 10 (iX T rfl (lW T rfl (bS (by exact bC T rfl rfl (by decide) (by decide) rfl rfl rfl) rfl ?_)));refine fY T rfl rfl rfl rfl rfl rfl (by omega) (kE.whole rfl rfl) rfl (by simp;omega) (by simp;omega) rfl ?_;refine fW T rfl (aR T rfl rfl rfl rfl rfl rfl (by decide) rfl ?_))|refine nZ ?_)
    show BE _ _ _ _ [.cells [.rowE (ints bod) 1,.sl 1 0 (m + 1) 3],.arr (eW (P.take (m + 1))) 3];rw [hW];exact ⟨[0,4],rfl,trivial,⟨.inr (by simp;rfl),.inr (aG rfl (by first | exact kJ hkl'.symm | simp) (by rw [← hW];exact bD _)),trivial⟩,by decide,zD9⟩
  · rw [cO];refine lX 0 1 rfl rfl rfl (eB _).symm (gI (bD _)) ?_;show AW _ _ _ _ _ _
    (repeat' (first|refine wS ?_|(refine rg 11 (mW rfl (bS (by exact fM rfl rfl hcl (.inr ⟨rfl,rfl,by simp⟩)) rfl ?_));refine aV ?_)|refine nZ ?_));refine eM [(8,.i i),(9,.i k),(12,.ptr 0 0),(14,.sl 1 0 l.length 2)] [.cells [.rowE (ints bod) 1,.rowE (eW P) 3],.arr (gZ l) 2] ⟨[0,2],rfl,(by repeat first|exact trivial|refine ⟨rfl,?_⟩),⟨.inr rfl,.inr (aG rfl (cC _ (dX _)) (dX _)),trivial⟩,by decide,jJ _⟩ ?_
    (repeat' (first|refine wS ?_|(refine rg 12 (eG rfl (mW rfl (vV (M7 rfl rfl) (lW T rfl (vV (by exact aL T rfl rfl rfl rfl rfl (by omega) (by omega)) ?_)))));refine aR T rfl rfl rfl rfl rfl rfl (by decide) (lJ rfl qm rfl) ?_)|refine nZ ?_));refine eM [(8,.i i),(9,.i k),(14,.sl 0 0 l.length 2)] [.arr (gZ (l.set (min i k) (bod,P))) 2] ⟨[1],rfl,(by repeat first|exact trivial|refine ⟨rfl,?_⟩),⟨.inr (aG rfl ts (dX _)),trivial⟩,by decide,jJ _⟩ ?_
    (repeat' (first|refine wR ?_|(refine rg 13 (eG rfl (mW rfl (vV (vM rfl rfl) (eG rfl (vV (vM rfl rfl) (vV (bF rfl rfl (by omega) (by omega)) (dW [0] rfl rfl (hdl) rfl rfl (by decide) ⟨.inr (aG rfl rfl (dX _)),trivial⟩ (by simp) rfl ?_)))))));refine pG ?_)|refine nZ ?_));all_goals exact ⟨.inl rfl,[0],_,rfl,rfl,rfl,⟨.inr (aG rfl (cC _ (dX _)) (dX _)),trivial⟩,by decide,jJ _⟩
end Go.Proofs.YtbialaoigijlgaaGreatDoor
namespace Go.Ld
open Go.Ab Go.Proofs.YtbialaoigijlgaaGreatDoor
structure D4 (c : Cx) : Prop where
  f : zF4 c.ks c.ls (nats (List.range c.bs.length)) c.bs
  s : sS c.m c.st c.er c.sl
theorem D4.unit {c : Cx} (h : D4 c) (lot : Int) : 0 ≤ rX c.ks c.ls lot := by
  unfold rX;split
  · exact iI _
  · rw [aC];cases hq : c.ks[(c.ls.getD lot.toNat (0,0,false)).1.toNat]? with
    | none => exact iI _
    | some x =>
      obtain ⟨h1,h2⟩ := aA.1 hq;have := (h.f.k _ h1).1;rw [h2] at this;exact this
end Go.Ld
namespace Go.Proofs.YtbialaoigijlgaaGreatDoor
open Go Go.Ab Go.Ld
attribute [local irreducible] VC AW bT aQ jI
set_option maxHeartbeats 4000000
theorem IV (t u w e : Int) (hu : 0 ≤ u) : aQ Tryz.prog 78 [.i t,.i u,.i w,.i e] [] (.tup [jT (YS t u w e).1.1 (YS t u w e).1.2,.b (YS t u w e).2]) [] := by
  unfold YS;by_cases h : Z5 t u w e
  · rw [if_pos (show ID t u w e = true from decide_eq_true h)]
    by_cases h1 : w + e - t < 0 ∨ u = 0 ∧ 0 < w - e - t
    · rw [if_pos h1];exact BI t u w e h h1
    · rw [if_neg h1];by_cases h2 : u = 0
      · rw [if_pos h2];exact BJ t u w e h (by omega) h2 (by omega)
      · rw [if_neg h2];exact EX t u w e h (by omega) (by omega)
  · have h' : ¬ ID t u w e = true := fun q => h (by simpa [ID,Z5] using q)
    rw [if_neg h'];exact EW t u w e h
theorem TQ (r q : SP) : aQ Tryz.prog 80 [jT r.1 r.2,jT q.1 q.2] [] (.tup [jT (Q6 (max r.1 q.1) (min r.2 q.2)).1.1 (Q6 (max r.1 q.1) (min r.2 q.2)).1.2,.b (Q6 (max r.1 q.1) (min r.2 q.2)).2]) [] := TR r.1 r.2 q.1 q.2
theorem NN (r : SP) (n s : Int) (hf : 0 ≤ r.1 ∧ r.1 ≤ 20001 ∧ 0 ≤ r.2 ∧ r.2 ≤ 20001) : aQ Tryz.prog 81 [jT r.1 r.2,.i n,.i s] [] (.tup [jT (yX r n s).1.1 (yX r n s).1.2,.b (yX r n s).2]) [] := by
  unfold yX;by_cases h : 0 ≤ n ∧ n ≤ 1099511627776 ∧ 0 ≤ s ∧ s ≤ 1099511627776
  · rw [if_pos h];exact JL r.1 r.2 n s hf h
  · rw [if_neg h];exact FJ r.1 r.2 n s h
abbrev zG3 (s : Ev) : AV := MU s.k s.a s.b s.n s.ids
theorem QF (c : Cx) (gs : List G) {n q : Nat} (w : W) {i : Nat} (s : Ev) (hc : D4 c) (hw : AR n q w) (hn : n = c.bs.length) (hi : i < q) (hq : q ≤ 1000) (hids : s.ids.length ≤ 9223372036854775807) (hsn : 0 ≤ s.n ∧ s.n ≤ 1099511627776) :
    aQ Tryz.prog 39 [.pr (fQ c gs) 0,P7 w,.i i,zG3 s] [] (.tup [.agg [.sl 0 0 w.1.length 1,.i (jN c w i s).1.2.1,.sl 1 0 w.2.2.length 2],.b (jN c w i s).2]) [.arr (ints w.1) 1,.arr (eO (jN c w i s).1.2.2) 2] := by
  have hpl := hw.pl;have hcl := hw.cl;have hcw := I8 w ⟨by omega,by omega⟩
  obtain ⟨g1,g2,g3,g4,g5⟩ := hw.at hi;have hm0 := hw.m0;have hm1 := hw.m1;have hids' : (ints s.ids).length = s.ids.length := cY _;obtain ⟨st1,st2,st3,st4,st5,st6,st7,st8⟩ := hc.s;have hbo : (jN c w i s).1.2.2 = (jN c w i s).1.2.2 := rfl;unfold jN gP gC at *;obtain ⟨p,m,cs⟩ := w;obtain ⟨sk,sa,sb,sn,ids⟩ := s;dsimp only at *;have hlp : (ints p).length = p.length := cY _;have hlc : (eO cs).length = cs.length := fU _;have qp := zE (l := p) (j := (i : Int)) (i := i) 0 (by omega) rfl
  have qc := yR (l := cs) (j := (i : Int)) (i := i) (by omega) rfl
  have ct : ∀ r : SP,_ := fun r => J7 (l := cs) (j := (i : Int)) (i := i) (r := r) rfl;have ctn : ∀ x y : Int,(eO cs).set (0 + (i : Int).toNat) [AV.i x,AV.i y] = eO (cs.set i (x,y)) := fun x y => ct (x,y);clear ct hbo;generalize hx : p.getD i 0 = x at *;generalize hr : cs.getD i (0,0) = r at *;obtain ⟨r1,r2⟩ := r;dsimp only at *;have hbx : c.bs[x.toNat]? = some (c.bs.getD x.toNat (0,0,0)) := by
    rw [aC,aB (by omega)];rfl
  refine bK T Tryz.func39 rfl rfl rfl rfl ?_
  (repeat' (first|refine wS ?_|refine wB ?_|(refine rg 0 (bS (cW rfl rfl) rfl (bS (cW rfl rfl) rfl (bS (bH T rfl) rfl (aV ?_)))))|(refine rg 1 (lW T rfl (bS (by exact fM rfl rfl hcw (.inr ⟨rfl,rfl,by simp⟩)) rfl ?_));refine aR T rfl rfl rfl rfl rfl rfl (by decide) rfl ?_)|(refine rg 2 (aV ?_))|(refine rg 3 (PG T ?_))|refine nZ ?_));refine eM [(0, .pr (fQ c gs) 0), (2, .i i), (5, .ptr 0 0), (7, .ptr 1 0), (8, .ptr 2 0), (10, .b true), (18, .i sk)] [.cells [.sl 3 0 p.length 1, .i m, .sl 4 0 cs.length 2], .cells [.i sk, .i sa, .i sb, .i sn, .rowE (ints ids) 1], .cells [.nils, .i 0, .nils], .arr (ints p) 1, .arr (eO cs) 2]
    ⟨[0,1,2,3,4],rfl,(by repeat first|exact trivial|refine ⟨rfl,?_⟩),⟨.inr rfl,.inr rfl,.inr rfl,.inr (aG rfl (cC _ (bO _)) (bO _)),.inr (aG rfl (cC _ (eY _)) (eY _)),trivial⟩,by decide,jJ _⟩ ?_
  by_cases k0 : sk = 0
  · rw [if_pos k0];have hct := N4 ids x hids;by_cases hin : x ∈ ids
    · rw [if_pos hin];rw [decide_eq_true hin] at hct;dsimp only
      (repeat' (first|refine wS ?_|refine wR ?_|refine wT ?_|(refine rg 4 (vV (jZ rfl rfl (by omega)) (aV ?_)))|(refine rg 5 (fW T rfl (vV (aS T rfl rfl rfl rfl) (qW T rfl (aV ?_)))))|(refine lE (id := 6) 7 153 [[],[0],[],[2],[],[2,3,4],rM 2 4,rN 7] [[],[0],[],[2],[],[2,3,4],rM 2 4] (rM 24 7) zK9 cM rfl (by decide +kernel) (by decide +kernel) ?_;(dsimp only [List.take,List.drop]);refine dP T rfl (dO T rfl (dP T rfl (dO T rfl (dN rfl (dV rfl (by exact aL T rfl rfl rfl rfl rfl (by omega) (by omega)) ?_)))));refine dV rfl (by exact aS T rfl rfl (bI rfl qp) rfl) ?_;refine dE ?_;refine fT ?_;refine vV (kC (hct)) ?_)|(refine rg 7 (mW rfl (vV (cJ rfl rfl (by omega) (by omega)) (aV ?_))))|(refine rg 9 (eG rfl (nV ?_));refine fW T rfl (fW T rfl (vV (aS T rfl rfl rfl rfl) (vV (oC rfl rfl) (aV ?_)))))|(refine rg 23 (vV (aS T rfl rfl rfl rfl) (mW rfl (aR T rfl rfl rfl rfl rfl rfl (by decide) rfl (aV ?_)))))|refine nZ ?_));all_goals first | (exfalso;omega) | exact ⟨.inl rfl,[3,4],_,rfl,by rw [← hids'];rfl,rfl,⟨.inr (aG rfl rfl (bO _)),.inr (aG rfl rfl (eY _)),trivial⟩,by decide,jJ _⟩
    · rw [if_neg hin];rw [decide_eq_false hin] at hct;dsimp only
      (repeat' (first|refine wS ?_|refine wR ?_|refine wT ?_|refine wU ?_|(refine rg 4 (vV (jZ rfl rfl (by omega)) (aV ?_)))|(refine rg 5 (fW T rfl (vV (aS T rfl rfl rfl rfl) (qW T rfl (aV ?_)))))|(refine lE (id := 6) 7 153 [[],[0],[],[2],[],[2,3,4],rM 2 4,rN 7] [[],[0],[],[2],[],[2,3,4],rM 2 4] (rM 24 7) zK9 cM rfl (by decide +kernel) (by decide +kernel) ?_;(dsimp only [List.take,List.drop]);refine dP T rfl (dO T rfl (dP T rfl (dO T rfl (dN rfl (dV rfl (by exact aL T rfl rfl rfl rfl rfl (by omega) (by omega)) ?_)))));refine dV rfl (by exact aS T rfl rfl (bI rfl qp) rfl) ?_;refine dE ?_;refine fT ?_;refine vV (kC (hct)) ?_)|(refine rg 8 (fW T rfl (vV (aS T rfl rfl rfl rfl) (vV (bF rfl rfl (by omega) (by omega)) (fW T rfl (aR T rfl rfl rfl rfl rfl rfl (by decide) rfl ?_))))))|(refine rg 9 (eG rfl (nV ?_));refine fW T rfl (fW T rfl (vV (aS T rfl rfl rfl rfl) (vV (oC rfl rfl) (aV ?_)))))|(refine rg 23 (vV (aS T rfl rfl rfl rfl) (mW rfl (aR T rfl rfl rfl rfl rfl rfl (by decide) rfl (aV ?_)))))|refine nZ ?_));all_goals first | (exfalso;omega) | exact ⟨.inl rfl,[3,4],_,rfl,by rw [← hids'];rfl,rfl,⟨.inr (aG rfl rfl (bO _)),.inr (aG rfl rfl (eY _)),trivial⟩,by decide,jJ _⟩
  by_cases k1 : sk = 1
  · rw [if_neg k0,if_pos k1];have hbl := hc.f.b x.toNat (by omega)
    have hgx : c.bs[x.toNat]'(by omega) = c.bs.getD x.toNat (0,0,0) := by rw [aC,aB (by omega)];rfl
    rw [hgx] at hbl;have hbxl : (gJ c.bs).length = c.bs.length := bN _;have qb : (gJ c.bs)[x.toNat]? = some [.i (c.bs.getD x.toNat (0,0,0)).1,.i (c.bs.getD x.toNat (0,0,0)).2.1,.i (c.bs.getD x.toNat (0,0,0)).2.2] := by rw [bJ,hbx];rfl
    generalize c.bs.getD x.toNat (0,0,0) = bx at *;obtain ⟨lot,cnt,ta⟩ := bx;dsimp only at *;have hun := WJ hc.f (lot := lot) (by omega)
    have hu0 := hc.unit lot;generalize rX c.ks c.ls lot = u at *;have hwg := IV ta u sn c.er hu0;unfold J2 sC;dsimp only;generalize YS ta u sn c.er = z at *;obtain ⟨⟨z1,z2⟩,zb⟩ := z;dsimp only at *;cases zb with
    | true =>
      rw [if_pos rfl];have hin := TQ (r1,r2) (z1,z2);dsimp only at *;generalize Q6 (max r1 z1) (min r2 z2) = y at *;obtain ⟨⟨y1,y2⟩,yb⟩ := y;dsimp only at *
      (repeat' (first|refine wS ?_|refine wR ?_|refine wT ?_|refine wU ?_|(refine rg 4 (vV (fX rfl rfl (by omega)) (aV ?_)))|(refine rg 10 (vV (jZ rfl rfl (by omega)) (aV ?_)))|(refine cK (id := 11) 153 zL0 [47,48,49,50,51,52,53,54,55,56,57,12] zL1 cM rfl (by decide +kernel) (dN rfl (dV rfl (by exact dR rfl rfl) ?_));refine dP T rfl (dO T rfl (dP T rfl (dO T rfl (dN rfl (dV rfl (by exact aL T rfl rfl rfl rfl rfl (by omega) (by omega)) ?_)))));refine dV rfl (by exact aS T rfl rfl (bI rfl qp) rfl) ?_;refine dV rfl (ix T rfl (by omega) (pY _) qb) (dO T rfl (xU rfl rfl rfl (by exact bH T rfl) rfl ?_));refine dE ?_;refine aR T rfl rfl rfl rfl rfl rfl (by decide) rfl ?_)|(refine zT (id := 12) 23 25 153 (by (dsimp only [yA];done)) (by decide +kernel) zL2 [59,60,61,62,63,64,65,66,67,68,69,70,71,72,73,74,75,76,77,78,79,58,80,81,13] zL3 cM rfl (by decide +kernel) (dP T rfl (dO T rfl (dN rfl (dV rfl (by exact dR rfl rfl) ?_))));refine dP T rfl (dO T rfl (dN rfl (dV rfl (by exact dR rfl rfl) ?_)));refine dP T rfl (dO T rfl (dP T rfl (dO T rfl (dV rfl (kC (hun)) (dP T rfl (dO T rfl (dN rfl (dV rfl (by exact dR rfl rfl) ?_))))))));refine dP T rfl (dP T rfl (dO T rfl (dV rfl (kC (hwg)) (dN rfl (dV rfl (by exact iL rfl rfl) ?_)))));refine dV rfl (by exact iL rfl rfl) ?_;refine xU rfl rfl rfl (by exact bH T rfl) rfl ?_;refine dE ?_;refine aR T rfl rfl rfl rfl rfl rfl (by decide) rfl (aV ?_))|(refine rg 13 (mV ?_))|(refine zT (id := 14) 9 10 153 (by (dsimp only [yA];done)) (by decide +kernel) [[],[0],[],[0,1,2],rN 4,[],rN 6,rN 7,rN 8,rN 8] [84,85,86,87,88,89,90,83,91,92] [[],[],[84,85],[],[],rM 84 5,[],[],[],[91]] cM rfl (by decide +kernel) (dP T rfl (dO T rfl (dN rfl (dV rfl (by exact aL T rfl rfl rfl rfl rfl (by omega) (by omega)) ?_))));refine dV rfl (by exact aS T rfl rfl (bI rfl qc) rfl) ?_;refine dO T rfl (dV rfl (kC (hin)) (dN rfl (dV rfl (by exact iL rfl rfl) ?_)));refine dV rfl (by exact iL rfl rfl) ?_;refine dE ?_;refine aR T rfl rfl rfl rfl rfl rfl (by decide) rfl (aV ?_))|(refine rg 15 (fW T rfl (vV (aS T rfl rfl rfl rfl) (mW rfl (vV (aS T rfl rfl rfl rfl) (mW rfl (vV (by exact aL T rfl rfl rfl rfl rfl (by omega) (by omega)) ?_))))));refine aR T rfl rfl rfl rfl rfl rfl (by decide) (lJ rfl qc rfl) (aV ?_))|(refine rg 23 (vV (aS T rfl rfl rfl rfl) (mW rfl (aR T rfl rfl rfl rfl rfl rfl (by decide) rfl (aV ?_)))))|refine nZ ?_));all_goals first | (exfalso;omega) | exact ⟨.inl rfl,[3,4],_,rfl,rfl,rfl,⟨.inr (aG rfl rfl (bO _)),.inr (aG rfl (ctn y1 y2) (eY _)),trivial⟩,by decide,jJ _⟩
    | false =>
      rw [if_neg (by simp)]
      (repeat' (first|refine wS ?_|refine wK ?_|refine wR ?_|refine wT ?_|refine wU ?_|(refine rg 4 (vV (fX rfl rfl (by omega)) (aV ?_)))|(refine rg 10 (vV (jZ rfl rfl (by omega)) (aV ?_)))|(refine cK (id := 11) 153 zL0 [47,48,49,50,51,52,53,54,55,56,57,12] zL1 cM rfl (by decide +kernel) (dN rfl (dV rfl (by exact dR rfl rfl) ?_));refine dP T rfl (dO T rfl (dP T rfl (dO T rfl (dN rfl (dV rfl (by exact aL T rfl rfl rfl rfl rfl (by omega) (by omega)) ?_)))));refine dV rfl (by exact aS T rfl rfl (bI rfl qp) rfl) ?_;refine dV rfl (ix T rfl (by omega) (pY _) qb) (dO T rfl (xU rfl rfl rfl (by exact bH T rfl) rfl ?_));refine dE ?_;refine aR T rfl rfl rfl rfl rfl rfl (by decide) rfl ?_)|(refine zT (id := 12) 23 25 153 (by (dsimp only [yA];done)) (by decide +kernel) zL2 [59,60,61,62,63,64,65,66,67,68,69,70,71,72,73,74,75,76,77,78,79,58,80,81,13] zL3 cM rfl (by decide +kernel) (dP T rfl (dO T rfl (dN rfl (dV rfl (by exact dR rfl rfl) ?_))));refine dP T rfl (dO T rfl (dN rfl (dV rfl (by exact dR rfl rfl) ?_)));refine dP T rfl (dO T rfl (dP T rfl (dO T rfl (dV rfl (kC (hun)) (dP T rfl (dO T rfl (dN rfl (dV rfl (by exact dR rfl rfl) ?_))))))));refine dP T rfl (dP T rfl (dO T rfl (dV rfl (kC (hwg)) (dN rfl (dV rfl (by exact iL rfl rfl) ?_)))));refine dV rfl (by exact iL rfl rfl) ?_;refine xU rfl rfl rfl (by exact bH T rfl) rfl ?_;refine dE ?_;refine aR T rfl rfl rfl rfl rfl rfl (by decide) rfl (aV ?_))|(refine rg 13 (mV ?_))|(refine rg 15 (fW T rfl (vV (aS T rfl rfl rfl rfl) (mW rfl (vV (aS T rfl rfl rfl rfl) (mW rfl (vV (by exact aL T rfl rfl rfl rfl rfl (by omega) (by omega)) ?_))))));refine aR T rfl rfl rfl rfl rfl rfl (by decide) (lJ rfl qc rfl) (aV ?_))|(refine rg 23 (vV (aS T rfl rfl rfl rfl) (mW rfl (aR T rfl rfl rfl rfl rfl rfl (by decide) rfl (aV ?_)))))|refine nZ ?_));all_goals first | (exfalso;omega) | exact ⟨.inl rfl,[3,4],_,rfl,rfl,rfl,⟨.inr (aG rfl rfl (bO _)),.inr (aG rfl (ctn z1 z2) (eY _)),trivial⟩,by decide,jJ _⟩
  by_cases k2 : sk = 2
  · have hpk := NN (r1,r2) sn c.sl ⟨by omega,by omega,by omega,by omega⟩
    rw [if_neg k0,if_neg k1,if_pos k2];unfold sC;dsimp only at *;generalize yX (r1,r2) sn c.sl = z at *;obtain ⟨⟨z1,z2⟩,zb⟩ := z;dsimp only at *
    (repeat' (first|refine wS ?_|refine wR ?_|refine wT ?_|refine wU ?_|(refine rg 4 (vV (fX rfl rfl (by omega)) (aV ?_)))|(refine rg 10 (vV (fX rfl rfl (by omega)) (aV ?_)))|(refine rg 16 (vV (jZ rfl rfl (by omega)) (aV ?_)))|(refine zT (id := 17) 18 20 153 (by (dsimp only [yA];done)) (by decide +kernel) [[],[0],[],[],[3],[],[3,4,5],rM 3 4,[],[8],[],[10],[10,11],[10,11,12],rM 10 4,rM 3 12,rM 3 13,rM 3 14,rM 3 14,rN 18] [102,103,104,105,106,107,108,109,110,111,112,113,114,115,116,117,101,118,119,120] [[],[],[102,103],[102,103,104],[102,103,104],rM 102 5,[102,103,104],[102,103,104],rM 102 8,rM 102 8,rM 102 10,rM 102 10,rM 102 10,rM 102 10,rM 102 10,[102,103,104],[102,103,104],[102,103,104],[102,103,104,118],[119]] cM rfl (by decide +kernel) (dP T rfl (dO T rfl (dN rfl (dP T rfl (dO T rfl (dN rfl (dV rfl (by exact aL T rfl rfl rfl rfl rfl (by omega) (by omega)) ?_)))))));refine dV rfl (by exact aS T rfl rfl (bI rfl qc) rfl) ?_;refine dP T rfl (dO T rfl (dN rfl (dV rfl (by exact dR rfl rfl) ?_)));refine dP T rfl (dP T rfl (dO T rfl (dV rfl (kC (hpk)) (dN rfl (dV rfl (by exact iL rfl rfl) ?_)))));refine dV rfl (by exact iL rfl rfl) ?_;refine dV rfl (by exact aL T rfl rfl rfl rfl rfl (by omega) (by omega)) ?_;refine dE ?_;refine aR T rfl rfl rfl rfl rfl rfl (by decide) (lJ rfl qc rfl) (aV ?_))|(refine rg 23 (vV (aS T rfl rfl rfl rfl) (mW rfl (aR T rfl rfl rfl rfl rfl rfl (by decide) rfl (aV ?_)))))|refine nZ ?_));all_goals first | (exfalso;omega) | exact ⟨.inl rfl,[3,4],_,rfl,rfl,rfl,⟨.inr (aG rfl rfl (bO _)),.inr (aG rfl (ctn z1 z2) (eY _)),trivial⟩,by decide,jJ _⟩
  by_cases k3 : sk = 3
  · rw [if_neg k0,if_neg k1,if_neg k2,if_pos k3];have hhs := HF r1 r2 sn;unfold sC;dsimp only;generalize DD r1 r2 sn = hb' at *
    (repeat' (first|refine wS ?_|refine wR ?_|refine wT ?_|refine wU ?_|(refine rg 4 (vV (fX rfl rfl (by omega)) (aV ?_)))|(refine rg 10 (vV (fX rfl rfl (by omega)) (aV ?_)))|(refine rg 16 (vV (fX rfl rfl (by omega)) (aV ?_)))|(refine rg 18 (vV (jZ rfl rfl (by omega)) (aV ?_)))|(refine cK (id := 19) 153 [[],[0],[],[0,1,2],rN 4,[],[5],rN 7] (rM 123 8) [[],[],[123,124],[],[],rM 123 5,rM 123 5,[]] cM rfl (by decide +kernel) (dP T rfl (dO T rfl (dN rfl (dV rfl (by exact aL T rfl rfl rfl rfl rfl (by omega) (by omega)) ?_))));refine dV rfl (by exact aS T rfl rfl (bI rfl qc) rfl) ?_;refine dP T rfl (dO T rfl (dV rfl (kC (hhs)) (dE ?_)));refine aV ?_)|(refine rg 20 (fW T rfl (vV (aS T rfl rfl rfl rfl) (mW rfl (fW T rfl (vV (aS T rfl rfl rfl rfl) (fW T rfl (vV (aS T rfl rfl rfl rfl) (vV (bF rfl rfl (by omega) (by omega)) (vV (by exact eH T rfl rfl rfl rfl) ?_)))))))));refine vV (by exact aL T rfl rfl rfl rfl rfl (by omega) (by omega)) ?_;refine aR T rfl rfl rfl rfl rfl rfl (by decide) (lJ rfl qc rfl) ?_)|(refine rg 23 (vV (aS T rfl rfl rfl rfl) (mW rfl (aR T rfl rfl rfl rfl rfl rfl (by decide) rfl (aV ?_)))))|refine nZ ?_));all_goals first | (exfalso;omega) | exact ⟨.inl rfl,[3,4],_,rfl,rfl,rfl,⟨.inr (aG rfl rfl (bO _)),.inr (aG rfl (ctn sn (sn + 1)) (eY _)),trivial⟩,by decide,jJ _⟩
  by_cases k5 : sk = 5
  · rw [if_neg k0,if_neg k1,if_neg k2,if_neg k3,if_pos k5];dsimp only
    (repeat' (first|refine wS ?_|refine wR ?_|refine wT ?_|refine wU ?_|(refine rg 4 (vV (fX rfl rfl (by omega)) (aV ?_)))|(refine rg 10 (vV (fX rfl rfl (by omega)) (aV ?_)))|(refine rg 16 (vV (fX rfl rfl (by omega)) (aV ?_)))|(refine rg 18 (vV (fX rfl rfl (by omega)) (aV ?_)))|(refine rg 21 (vV (jZ rfl rfl (by omega)) (aV ?_)))|(refine cK (id := 22) 153 [[],[0],[],[0,1,2],rN 4,[],[5],rN 7] (rM 143 8) [[],[],[143,144],[],[],rM 143 5,rM 143 5,[]] cM rfl (by decide +kernel) (dP T rfl (dO T rfl (dN rfl (dV rfl (by exact aL T rfl rfl rfl rfl rfl (by omega) (by omega)) ?_))));refine dV rfl (by exact aS T rfl rfl (bI rfl qp) rfl) ?_;refine dP T rfl (dO T rfl (dV rfl (fC rfl rfl) (dE ?_)));refine aV ?_)|(refine rg 23 (vV (aS T rfl rfl rfl rfl) (mW rfl (aR T rfl rfl rfl rfl rfl rfl (by decide) rfl (aV ?_)))))|refine nZ ?_));all_goals first | (exfalso;omega) | exact ⟨.inl rfl,[3,4],_,rfl,rfl,rfl,⟨.inr (aG rfl rfl (bO _)),.inr (aG rfl rfl (eY _)),trivial⟩,by decide,jJ _⟩
  · rw [if_neg k0,if_neg k1,if_neg k2,if_neg k3,if_neg k5]
    (repeat' (first|refine wS ?_|refine wK ?_|refine wR ?_|refine wU ?_|(refine rg 4 (vV (fX rfl rfl (by omega)) (aV ?_)))|(refine rg 10 (vV (fX rfl rfl (by omega)) (aV ?_)))|(refine rg 16 (vV (fX rfl rfl (by omega)) (aV ?_)))|(refine rg 18 (vV (fX rfl rfl (by omega)) (aV ?_)))|(refine rg 21 (vV (fX rfl rfl (by omega)) (aV ?_)))|(refine rg 23 (lW T rfl (mW rfl (aR T rfl rfl rfl rfl rfl rfl (by decide) rfl (aV ?_)))))|refine nZ ?_));all_goals first | (exfalso;omega) | exact ⟨.inl rfl,[3,4],_,rfl,rfl,rfl,⟨.inr (aG rfl rfl (bO _)),.inr (aG rfl rfl (eY _)),trivial⟩,by decide,jJ _⟩
end Go.Proofs.YtbialaoigijlgaaGreatDoor
namespace Go.Ld
open Go.Ab Go.Proofs.YtbialaoigijlgaaGreatDoor
theorem AI (c : Cx) (w : W) (i : Nat) (s : Ev) : (jN c w i s).1.1 = w.1 ∧ (jN c w i s).1.2.2.length = w.2.2.length := by
  unfold jN sC;dsimp only
  repeat' split
  all_goals exact ⟨rfl,by first | rfl | exact fR⟩
end Go.Ld
namespace Go.Proofs.YtbialaoigijlgaaGreatDoor
open Go Go.Ab Go.Ld
end Go.Proofs.YtbialaoigijlgaaGreatDoor
namespace Go.Ld
open Go.Ab Go.Proofs.YtbialaoigijlgaaGreatDoor
theorem ZV : ∀ i : Nat,i < 3 → ([0,1,2] : List Nat)[i]? = some i := by decide
theorem OV {r : Int} {L : List AV} (h : AV.idfL L = true) : AV.idfL [AV.pr [.i r] 0,.pr [.pr L 0] 0] = true := by simp [AV.idfL,AV.idf,h]
theorem qF {h : Hp} {i : Nat} {θ : Nat → Nat} {cs : List AV} (hk : h[i]? = some (.cells cs)) (hi : AV.idfL cs = true) : h[i]? = some ((AB.cells cs).map θ) := by
  rw [hk];show _ = some (AB.cells (AV.mapL θ cs));rw [mU θ cs hi]
theorem V7 {h : Hp} (x : W) : mN h (.agg (wA x)) (.agg (wA x)) := .agg (.cons (.row _ _ _) (.cons (.v _) (.cons (.row _ _ _) .nil)))
end Go.Ld
namespace Go.Proofs.YtbialaoigijlgaaGreatDoor
open Go Go.Ab Go.Ld
attribute [local irreducible] VC AW bT aQ
set_option maxHeartbeats 4000000
theorem KY {F : FuncId} {r : Int} {L : List AV} {q : W → Bool} (l : List W) (hl : l.length ≤ 1000000) (hL : AV.idfL L = true) (hp : AV.plnL L = true) (hF : ∀ x,x ∈ l → aQ Tryz.prog F [.agg (wA x),.pr [.i r] 0,.pr [.pr L 0] 0] [] (.b (q x)) []) :
    aQ Tryz.prog 91 [.sl 0 0 l.length 3,.clo (.func F) [] [.pr [.i r] 0,.ptr 1 0]] [.arr (eW l) 3,.cells [.ptr 2 0],.cells L] (.sl 0 0 (fN q l).length 3) [.arr (eW (fN q l)) 3,.cells [.ptr 2 0],.cells L] := by
  have hll : (eW l).length = l.length := eB l;have hi : AV.idfL [AV.pr [.i r] 0,.pr [.pr L 0] 0] = true := OV hL;have hix := OM hl hi hF;have hvc : ∀ {X : AB} {Y : Hp},kS (X :: .cells [.ptr 2 0] :: .cells L :: Y) [AV.pr [.i r] 0,.ptr 1 0] [.pr [.i r] 0,.pr [.pr L 0] 0] := fun {X Y} => .cons (.pr _ _) (.cons (.ptr rfl (.cons (.ptr rfl (eR _ hp)) .nil)) .nil);have hvw : mN [.arr (eW l) 3,.cells [.ptr 2 0],.cells L] (.sl 0 0 l.length 3) (.rowE (eW l) 3) := rW rfl hll.symm (sE (fun _ => rfl) _);refine bK T Tryz.func91 rfl rfl rfl rfl ?_;rcases C4 q l 0 with ⟨h1,h2⟩ | ⟨j,hj,h1,h2,h3⟩
  · rw [h1] at hix;have hk : fN q l = l := xK.2 fun x hx => by rw [h2 x hx];rfl
    rw [hk]
    (repeat' (first|refine wS ?_|refine wR ?_|refine wT ?_|(refine rg 0 (aV ?_))|(refine rg 1 (eG rfl (vV (by exact eI rfl rfl hix (.cons hvw (.cons (.clo .nil hvc) .nil)) rfl rfl) ?_));refine aV ?_)|(refine rg 2 (mW rfl (vV (fC rfl rfl) ?_)))|(refine rg 3 (mW rfl (aV ?_)))|refine nZ ?_));all_goals first | (exfalso;omega) | exact ⟨.inl rfl,[0,1,2],_,rfl,rfl,rfl,⟨.inr (aG rfl rfl (bD _)),.inr rfl,.inr (qF rfl hL),trivial⟩,by decide,ZV⟩
  · rw [h1,Nat.zero_add] at hix;have hk0 : fN q (l.take (j + 1)) = l.take j := by
      rw [tH hj,if_pos h2];exact xK.2 fun x hx => by rw [h3 x hx];rfl
    have hkl : (fN q (l.take (j + 1))).length = j := by rw [hk0];simp;omega
    have hka : fN q (l.take (j + 1)) ++ l.drop (fN q (l.take (j + 1))).length = l := by rw [hkl,hk0,bG]
    have hkf : fN q l = fN q (l.take l.length) := by rw [cO]
    rw [hkf]
    (repeat' (first|refine wS ?_|refine wB ?_|refine wK ?_|refine wU ?_|(refine rg 0 (aV ?_))|(refine rg 1 (eG rfl (vV (by exact eI rfl rfl hix (.cons hvw (.cons (.clo .nil hvc) .nil)) rfl rfl) ?_));refine aV ?_)|(refine rg 2 (mW rfl (vV (fC rfl rfl) ?_)))|(refine iA 4 rfl rfl rfl (by omega) (by omega) ?_)|refine nZ ?_));all_goals try (exfalso;omega)
    refine cT (X := {m : Nat // m ≤ l.length}) (fun m => [(0,.sl 0 0 l.length 3),(1,.clo (.func F) [] [.pr [.i r] 0,.ptr 1 0]),(5,.i (fN q (l.take m.1)).length),(6,.i m.1)]) (fun m => [.arr (eW (fN q (l.take m.1) ++ l.drop (fN q (l.take m.1)).length)) 3,.cells [.ptr 2 0],.cells L]) (fun m => l.length - m.1) ⟨j + 1,hj⟩ ⟨[0,1,2],rfl,⟨rfl,rfl,by dsimp only;rw [hkl];rfl,rfl,trivial⟩,⟨.inr (aG rfl (by dsimp only;rw [hka]) (bD _)),.inr rfl,.inr (qF rfl hL),trivial⟩,by decide,ZV⟩ ?_
    rintro ⟨m,hm⟩;dsimp only;have hle := CX q l m;by_cases hlt : m < l.length
    · have hs := tH (q := q) hlt;have hget := GK (G := fN q (l.take m)) (l := l) (m := m) (i := 0 + (m : Int).toNat) hle hlt (by omega)
      have hg2 := GK (G := fN q (l.take m)) (l := l) (m := (fN q (l.take m)).length) (i := 0 + (((fN q (l.take m)).length : Nat) : Int).toNat) (aX _) (by omega) (by omega)
      rw [mY hlt] at hget;have hset := WN (G := fN q (l.take m)) (l := l) (x := l[m]) (j := (((fN q (l.take m)).length : Nat) : Int)) (by omega) rfl
      have hc := hF l[m] (aK hlt);have hal := JY (G := fN q (l.take m)) (l := l) (by omega)
      generalize l[m] = x at *;generalize l.getD (fN q (l.take m)).length w0 = y at *;generalize hG : fN q (l.take m) = G at *;generalize hA : eW (G ++ l.drop G.length) = A at *;cases e : q x
      · rw [e] at hc hs;rw [if_neg (by simp)] at hs
        (repeat' (first|refine wS ?_|refine wB ?_|refine wK ?_|refine wT ?_|(refine wC rfl ?_ ?_<;>(intro hb;(try simp only [nm] at hb);try (exfalso;omega)))|(refine rg 5 (eG rfl (qW T rfl (vV (aN rfl rfl) ?_))))|(refine rg 7 (eG rfl (vV (by exact aL T rfl rfl rfl rfl rfl (by omega) (by omega)) ?_));refine vV (by exact aS T rfl rfl (bI rfl hget) rfl) ?_;refine bS (bH T rfl) rfl (aR T rfl rfl rfl rfl rfl rfl (by decide) rfl ?_))|(refine rg 8 (mW rfl (vV (aS T rfl rfl rfl rfl) (vV (by exact eI rfl rfl hc (.cons (V7 x) hvc) rfl rfl) ?_)));refine vV (fB rfl) ?_)|(refine rg 9 (eG rfl (vV (aS T rfl rfl rfl rfl) (vV (by exact aL T rfl rfl rfl rfl rfl (by omega) (by omega)) ?_)));refine aR T rfl rfl rfl rfl rfl rfl (by decide) (lJ rfl hg2 rfl) ?_)|(refine iA 10 rfl rfl rfl (by omega) (by omega) ?_)|(refine iA 6 rfl rfl rfl (by omega) (by omega) ?_)|refine nZ ?_));all_goals try (exfalso;omega)
        all_goals exact ⟨⟨m + 1,hlt⟩,by dsimp only;omega,[0,1,2],rfl,⟨rfl,rfl,by rw [hs];simp only [aD];rfl,rfl,trivial⟩,⟨.inr (aG rfl (by rw [hs];exact hset) (bD _)),.inr rfl,.inr (qF rfl hL),trivial⟩,by decide,ZV⟩
      · rw [e] at hc hs;rw [if_pos rfl] at hs
        (repeat' (first|refine wS ?_|refine wB ?_|refine wK ?_|refine wU ?_|(refine wC rfl ?_ ?_<;>(intro hb;(try simp only [nm] at hb);try (exfalso;omega)))|(refine rg 5 (eG rfl (qW T rfl (vV (aN rfl rfl) ?_))))|(refine rg 7 (eG rfl (vV (by exact aL T rfl rfl rfl rfl rfl (by omega) (by omega)) ?_));refine vV (by exact aS T rfl rfl (bI rfl hget) rfl) ?_;refine bS (bH T rfl) rfl (aR T rfl rfl rfl rfl rfl rfl (by decide) rfl ?_))|(refine rg 8 (mW rfl (vV (aS T rfl rfl rfl rfl) (vV (by exact eI rfl rfl hc (.cons (V7 x) hvc) rfl rfl) ?_)));refine vV (fB rfl) ?_)|(refine iA 6 rfl rfl rfl (by omega) (by omega) ?_)|refine nZ ?_));all_goals try (exfalso;omega)
        all_goals exact ⟨⟨m + 1,hlt⟩,by dsimp only;omega,[0,1,2],rfl,⟨rfl,rfl,by rw [hs];rfl,rfl,trivial⟩,⟨.inr (aG rfl (by rw [hs];exact hA.symm) (bD _)),.inr rfl,.inr (qF rfl hL),trivial⟩,by decide,ZV⟩
    · obtain rfl : m = l.length := by omega
      have hal := JY (G := fN q (l.take l.length)) (l := l) (by omega)
      have htk := MH (G := fN q (l.take l.length)) (l := l);generalize fN q (l.take l.length) = G at *
      (repeat' (first|refine wS ?_|refine wR ?_|refine wE ?_|(refine wC rfl ?_ ?_<;>(intro hb;(try simp only [nm] at hb);try (exfalso;omega)))|(refine rg 5 (eG rfl (qW T rfl (vV (aN rfl rfl) ?_))))|(refine rg 11 (eG rfl (vV (by exact jH T rfl rfl rfl rfl rfl rfl (by omega) (by omega) (by omega)) ?_));refine A4 T rfl rfl rfl ⟨rfl,rfl,by decide⟩ rfl (by rw [hal];omega) ?_)|(refine rg 12 (eG rfl (vV (by exact jH T rfl rfl rfl rfl rfl rfl (by omega) (by omega) (by omega)) ?_));refine aV ?_)|refine nZ ?_));all_goals try (exfalso;omega)
      all_goals exact ⟨.inl rfl,[0,1,2],_,rfl,(by show AV.sl 0 0 ((G.length : Int) - 0).toNat 3 = AV.sl 0 0 G.length 3;rw [show ((G.length : Int) - 0).toNat = G.length by omega]),rfl,⟨.inr (aG rfl htk (bD _)),.inr rfl,.inr (qF rfl hL),trivial⟩,by decide,ZV⟩
end Go.Proofs.YtbialaoigijlgaaGreatDoor
namespace Go.Ab
open Go
theorem GN {P : Program} {f : FuncId} {args : List AV} {hin hout : Hp} {es : List (List AV)} {len sz k : Nat} (hk : k = hout.length) (hn : len = es.length) (hi : AV.idfL es.flatten = true) (h : aQ P f args hin (.sl k 0 len sz) (hout ++ [.arr es sz])) : aQ P f args hin (.rowE es sz) (hout ++ [.gone]) := by
  refine ⟨h.1,fun ρ S w vs hs ha => (h.2 ρ S w vs hs ha).mono ?_⟩;rintro e w' ⟨y,ρ',S',rfl,h2,h3⟩;rw [hn] at h3;have hb : (hout ++ [AB.arr es sz])[k]? = some (.arr es sz) := by subst hk;simp
  have e : (hout ++ [AB.arr es sz]).set k .gone = hout ++ [.gone] := by subst hk;simp
  exact ⟨y,_,_,rfl,e ▸ h2.freeze (k := k) hb,zN hi (h2.blk k _ hb) h3⟩
theorem xA (L : List Nat) : ∀ i : Nat,i < 1 → (0 :: L)[i]? = some i := fun i hi => by cases i with | zero => rfl | succ i => omega
end Go.Ab
namespace Go.Proofs.YtbialaoigijlgaaGreatDoor
open Go Go.Ab Go.Ld
attribute [local irreducible] VC AW bT aQ
set_option maxHeartbeats 4000000
theorem SF (c : Cx) (gs all : List G) {n : Nat} (ok : mA n all) (up : EI all) (hne : ∀ g,g ∈ all → g.2 ≠ []) :
    aQ Tryz.prog 42 [.ptr 0 0,.rowE (gZ all) 2] [.cells (fQ c gs)] (.rowE (gZ (J6 c all)) 2) [.cells (fQ c gs),.gone] := by
  have h12 : all.length ≤ 12 := bX ok.len ok.ln;have hal : (gZ all).length = all.length := gY _;have hlb : ∀ g,g ∈ all → 0 ≤ jL g ∧ jL g ≤ 4000000 := fun g hg => T7 (ok.ok g hg) (hne g hg);have hsb := W2 hlb;refine GN (k := 1) (hout := [.cells (fQ c gs)]) rfl (by rw [gY] : (J6 c all).length = (gZ (J6 c all)).length) (gI (dX _)) ?_
  refine bK T Tryz.func42 rfl rfl rfl rfl ?_
  repeat' (first|refine wS ?_|(refine rg 0 (bS (cW rfl rfl) rfl (aV ?_)))|(refine rg 1 (aV ?_))|refine nZ ?_)
  (repeat' (first|refine wB ?_|(refine rg 2 (mW rfl (qW T rfl (mV ?_))))|refine nZ ?_));refine cT (X := {k : Nat // k ≤ all.length}) (fun k => [(1,.rowE (gZ all) 2),(2,.ptr 1 0),(5,.i (tB (all.take k.1))),(16,.rowE (gZ all) 2),(17,.i (gZ all).length),(18,.i k.1)]) (fun _ => [.cells (fQ c gs),.cells [.ptr 0 0]]) (fun k => all.length - k.1) ⟨0,bW _⟩ ⟨[0,1],rfl,(by repeat first|exact trivial|refine ⟨rfl,?_⟩),⟨.inr rfl,.inr rfl,trivial⟩,by decide,xA _⟩ ?_
  rintro ⟨k,hk⟩;dsimp only;by_cases hlt : k < all.length
  · have hg := zH hlt;have hs := MJ hlt;have hb := W2 (l := all.take k) fun g hg => hlb g (eD hg);have hkl : (all.take k).length ≤ 12 := by rw [aU];omega
    have hl1 := hlb _ (aK hlt);have hc := HQ all[k] (hne _ (aK hlt)) (by have := ok.ws _ (aK hlt);omega)
    generalize all[k] = g at *;generalize tB (all.take k) = S at *;generalize jL g = v at *
    (repeat' (first|refine wS ?_|refine wB ?_|refine wK ?_|(refine wC rfl ?_ ?_<;>(intro hb;(try simp only [nm] at hb);try (exfalso;omega)))|(refine rg 3 (vV (aN rfl rfl) ?_))|(refine rg 4 (vV (ix T rfl (by omega) (lL _) hg) (lW T rfl (bS (bH T rfl) rfl (aR T rfl rfl rfl rfl rfl rfl (by decide) rfl ?_)))))|(refine rg 5 (mW rfl (lW T rfl (vV (kC (hc)) (vV (bF rfl rfl (by omega) (by omega)) (aV ?_))))))|(refine rg 6 (vV (bF rfl rfl (by omega) (by omega)) (mV ?_)))|refine nZ ?_));all_goals first | (exfalso;omega) | exact ⟨⟨k + 1,hlt⟩,by dsimp only;omega,[0,1],rfl,⟨rfl,rfl,by dsimp only;rw [hs];rfl,rfl,rfl,rfl,trivial⟩,⟨.inr rfl,.inr rfl,trivial⟩,by decide,xA _⟩
  obtain rfl : k = all.length := by omega
  rw [cO]
  (repeat' (first|refine wS ?_|refine wB ?_|refine wE ?_|(refine wC rfl ?_ ?_<;>(intro hb;(try simp only [nm] at hb);try (exfalso;omega)))|(refine rg 3 (vV (aN rfl rfl) ?_))|(refine rg 7 (vV (fA rfl) (pH 8 2 rfl (by decide) ?_)))|(refine rg 8 (mW rfl (qW T rfl (mV ?_))))|refine nZ ?_));all_goals try (exfalso;omega)
  refine cT (X := {k : Nat // k ≤ all.length}) (fun k => [(2,.ptr 1 0),(5,.i (tB all)),(8,.sl 2 0 k.1 2),(27,.rowE (gZ all) 2),(28,.i (gZ all).length),(29,.i k.1)]) (fun k => [.cells (fQ c gs),.cells [.ptr 0 0],.arr (gZ ((paid c all).take k.1)) 2]) (fun k => all.length - k.1) ⟨0,bW _⟩ ⟨[0,1,2],rfl,(by repeat first|exact trivial|refine ⟨rfl,?_⟩),⟨.inr rfl,.inr rfl,.inr rfl,trivial⟩,by decide,xA _⟩ ?_
  clear hk hlt;rintro ⟨k,hk⟩;dsimp only;have hpl := NW c all;by_cases hlt : k < all.length
  · have hg := zH hlt;have hp := JO (c := c) hlt;have hl1 := hlb _ (aK hlt);have hgo := ok.ok _ (aK hlt);have hgw := ok.ws _ (aK hlt);have hc := HQ all[k] (hne _ (aK hlt)) (by omega)
    have htl : ((paid c all).take k).length = k := by rw [aU];omega
    generalize (paid c all).take k = Q at *;generalize all[k] = g at *;obtain ⟨bs,ws⟩ := g;dsimp only at hgw hp;generalize hv : jL (bs,ws) = v at *;generalize tB all = S at *;have hcl := DT ws (by omega)
    have hd := KY (r := S - v) (L := fQ c gs) (q := fun w => decide (w.2.1 + (S - v) > c.m)) ws (by omega) rfl rfl (fun x hx => SH c gs x (S - v) ⟨(hgo.ws x hx).m0,(hgo.ws x hx).m1⟩ (by omega))
    generalize fN (fun w => decide (w.2.1 + (S - v) > c.m)) ws = ws' at *;have hQl : (gZ Q).length = k := by rw [gY,htl]
    have hQ : gZ (Q ++ [(bs,ws')]) = gZ Q ++ [[.rowE (ints bs) 1,.rowE (eW ws') 3]] := by rw [gZ,cN];rfl
    rw [← hp] at hQ;generalize gZ Q = Q' at *
    (repeat' (first|refine wS ?_|refine wB ?_|refine wK ?_|(refine wC rfl ?_ ?_<;>(intro hb;(try simp only [nm] at hb);try (exfalso;omega)))|(refine rg 9 (vV (aN rfl rfl) ?_))|(refine rg 10 (vV (ix T rfl (by omega) (lL _) hg) (lW T rfl (bS (bH T rfl) rfl (aR T rfl rfl rfl rfl rfl rfl (by decide) rfl ?_)))))|(refine rg 11 (mW rfl (lW T rfl (vV (kC (hc)) (vV (cJ rfl rfl (by omega) (by omega)) (bS (bH T rfl) rfl (aR T rfl rfl rfl rfl rfl rfl (by decide) rfl ?_)))))))|refine nZ ?_));all_goals try (exfalso;omega)
    refine fJ 11 rfl rfl rfl ?_
    repeat' (first|(refine rg 12 (iX T rfl (bS (by exact fM rfl rfl hcl (.inr ⟨rfl,rfl,by simp⟩)) rfl ?_));refine vV (by exact iS rfl rfl) ?_;refine dW [5,1,0] rfl rfl (hd) rfl rfl (by decide) ⟨.inr (aG rfl (cC _ (bD _)) (bD _)),.inr rfl,.inr rfl,trivial⟩ (by simp) rfl ?_;refine kM (es := eW ws') 41 rfl (congrArg (fun x=>some (AB.arr x 3)) (cC _ (bD _))) (eB _).symm (gI (bD _)) ?_;refine fW T rfl (aR T rfl rfl rfl rfl rfl rfl (by decide) rfl ?_))|(refine rg 13 (mW rfl (lW T rfl (bS (by exact bC T rfl rfl (by decide) (by decide) rfl rfl rfl) rfl ?_)));refine fY T rfl rfl rfl rfl rfl rfl (by omega) (kE.whole rfl rfl) rfl (by simp;omega) (by simp;omega) rfl ?_;refine aV ?_)|(refine rg 14 (vV (bF rfl rfl (by omega) (by omega)) (mV ?_)))|refine nZ ?_)
    show ∃ x',_;exact ⟨⟨k + 1,hlt⟩,by dsimp only;omega,⟨[0,1,7],rfl,(by repeat first|exact trivial|refine ⟨rfl,?_⟩),⟨.inr rfl,.inr rfl,.inr (aG rfl (by dsimp only;rw [hQ];exact kJ hQl.symm) (dX _)),trivial⟩,by decide,xA _⟩⟩
  obtain rfl : k = all.length := by omega
  rw [← hpl,cO,hpl];have pok := ok.paid c;have pst := nG.start pok (GV up (c := c));rw [← hpl];generalize hL : paid c all = L at *;rw [show J6 c all = xH L by rw [← hL];rfl]
  (repeat' (first|refine wS ?_|refine wB ?_|refine wE ?_|(refine wC rfl ?_ ?_<;>(intro hb;(try simp only [nm] at hb);try (exfalso;omega)))|(refine rg 9 (vV (aN rfl rfl) ?_))|(refine rg 15 (aV ?_))|refine nZ ?_));all_goals try (exfalso;omega)
  refine cT (X := {q : List G × Nat // nG n L q.1 q.2}) (fun q => [(8,.sl 1 0 q.1.1.length 2),(12,.i q.1.2)]) (fun q => [.cells (fQ c gs),.arr (gZ q.1.1) 2]) (fun q => 100 * VM q.1.1 + (q.1.1.length - q.1.2)) ⟨(L,0),pst⟩ ⟨[0,2],rfl,(by repeat first|exact trivial|refine ⟨rfl,?_⟩),⟨.inr rfl,.inr (aG rfl rfl (dX _)),trivial⟩,by decide,xA _⟩ ?_
  clear hsb hlb hne h12 hal pok up ok;rintro ⟨⟨o,i⟩,hq⟩;dsimp only at hq ⊢;have hol : (gZ o).length = o.length := gY _;have ho12 : o.length ≤ 12 := bX hq.ok.len hq.ok.ln;have hio := hq.hi;by_cases hlt : i < o.length
  · have hgi : o[i]? = some o[i] := aB hlt;have hgm := aK hlt;generalize o[i] = g at *;have hgo := hq.ok.ok g hgm;have hgw := hq.ok.ws g hgm;have hsz := hgo.sz hgw;have q1 := vJ (L := o) (j := (i : Int)) (i := i) hgi rfl;have hcc := LF g hsz;cases hcr : gQ g with
    | none =>
      have hk := hq.keep hgi hcr;rw [show vT g = -1 by unfold vT;rw [hcr]] at hcc
      (repeat' (first|refine wS ?_|refine wB ?_|refine wK ?_|refine wU ?_|(refine wC rfl ?_ ?_<;>(intro hb;(try simp only [nm] at hb);try (exfalso;omega)))|(refine rg 16 (eG rfl (qW T rfl (vV (aN rfl rfl) ?_))))|(refine rg 18 (eG rfl (vV (by exact aL T rfl rfl rfl rfl rfl (by omega) (by omega)) ?_));refine vV (by exact aS T rfl rfl (bI rfl q1) rfl) ?_;refine vV (kC (hcc)) (aV ?_))|(refine rg 19 (mW rfl (vV (kR rfl rfl) ?_)))|(refine iA 17 rfl rfl rfl (by omega) (by omega) ?_)|refine nZ ?_));all_goals try (exfalso;omega)
      exact ⟨⟨(o,i + 1),hk⟩,by dsimp only;omega,⟨[0,1],rfl,(by repeat first|exact trivial|refine ⟨rfl,?_⟩),⟨.inr rfl,.inr (aG rfl rfl (dX _)),trivial⟩,by decide,xA _⟩⟩
    | some k =>
      have hk := hq.next hgi hcr
      obtain ⟨f1,f2,f3,_⟩ := jF hcr;have hwg := OB hgi hcr;have hno := HO hq.ok hgi hcr;have hsp := SN g hsz f3 f1 f2 (by omega)
      have hll : (o.set i (jK g k) ++ [mM g k]).length = o.length + 1 := by simp
      have hso := SQ (o.set i (jK g k) ++ [mM g k]) hno.dist (by have := hno.len;have := hno.ln;omega) hno.hd
      have hw2 : VM (T1 o i k g) = VM (o.set i (jK g k) ++ [mM g k]) := LW (dJ _ _);have hl2 : (T1 o i k g).length = o.length + 1 := by rw [T1,(dJ _ _).length_eq,hll]
      rw [show vT g = (k : Int) by unfold vT;rw [hcr]] at hcc
      have t1 := zG (L := o) (j := (i : Int)) (i := i) (x := jK g k) rfl;have e1 : gZ (o.set i (jK g k) ++ [mM g k]) = (gZ o).set (0 + (i : Int).toNat) (gA (jK g k)) ++ [gA (mM g k)] := by rw [t1,gZ,cN];rfl
      have e2 : ((gZ o).set (0 + (i : Int).toNat) (gA (jK g k))).length = o.length := by rw [fR,hol]
      change aQ _ _ _ _ _ [.arr (gZ (T1 o i k g)) 2] at hso;rw [hll] at hso;generalize T1 o i k g = o' at *;generalize hN : o.set i (jK g k) ++ [mM g k] = N at *;generalize jK g k = r at *;generalize mM g k = u at *;obtain ⟨rb,rw_⟩ := r;obtain ⟨ub,uw⟩ := u
      (repeat' (first|refine wS ?_|refine wB ?_|refine wK ?_|refine wT ?_|(refine wC rfl ?_ ?_<;>(intro hb;(try simp only [nm] at hb);try (exfalso;omega)))|(refine rg 16 (eG rfl (qW T rfl (vV (aN rfl rfl) ?_))))|(refine rg 18 (eG rfl (vV (by exact aL T rfl rfl rfl rfl rfl (by omega) (by omega)) ?_));refine vV (by exact aS T rfl rfl (bI rfl q1) rfl) ?_;refine vV (kC (hcc)) (aV ?_))|(refine rg 19 (mW rfl (vV (kR rfl rfl) ?_)))|(refine rg 20 (eG rfl (vV (by exact aL T rfl rfl rfl rfl rfl (by omega) (by omega)) ?_));refine vV (by exact aS T rfl rfl (bI rfl q1) rfl) ?_;refine mW rfl (vV (kC (hsp)) (mW rfl (xW rfl (xW rfl (bS (bH T rfl) rfl (bS (bH T rfl) rfl (aR T rfl rfl rfl rfl rfl rfl (by decide) rfl (aR T rfl rfl rfl rfl rfl rfl (by decide) rfl ?_)))))))))|(refine rg 21 (eG rfl (vV (aS T rfl rfl rfl rfl) (vV (by exact aL T rfl rfl rfl rfl rfl (by omega) (by omega)) ?_)));refine aR T rfl rfl rfl rfl rfl rfl (by decide) (lJ rfl q1 rfl) ?_)|(refine rg 22 (mW rfl (vV (aS T rfl rfl rfl rfl) (bS (by exact bC T rfl rfl (by decide) (by decide) rfl rfl rfl) rfl ?_)));refine fY T rfl rfl rfl rfl rfl rfl (by simp) (kE.whole rfl rfl) rfl (by simp;omega) (by simp;omega) rfl ?_;refine aV ?_)|refine nZ ?_));all_goals try (exfalso;omega)
      refine eM [(8,.sl 1 0 (o.length + 1) 2),(12,.i i)] [.cells (fQ c gs),.arr (gZ N) 2] ⟨[0,5],rfl,(by repeat first|exact trivial|refine ⟨rfl,?_⟩),⟨.inr rfl,.inr (aG rfl (by rw [e1];exact kJ e2.symm) (dX _)),trivial⟩,by decide,xA _⟩ ?_
      (repeat' (first|(refine rg 23 (mW rfl (dW [1] rfl rfl (hso) rfl rfl (by decide) ⟨.inr (aG rfl rfl (dX _)),trivial⟩ (by simp) rfl ?_)))|(refine rg 24 (aV ?_))|(refine iA 17 rfl rfl rfl (by omega) (by omega) ?_)|refine nZ ?_));all_goals try (exfalso;omega)
      exact ⟨⟨(o',0),hk⟩,by dsimp only;omega,⟨[0,1],rfl,⟨by dsimp only;rw [hl2];rfl,rfl,trivial⟩,⟨.inr rfl,.inr (aG rfl (cC _ (dX _)) (dX _)),trivial⟩,by decide,xA _⟩⟩
  · have hfin := hq.fin (by omega)
    rw [hfin]
    (repeat' (first|refine wS ?_|refine wR ?_|refine wE ?_|(refine wC rfl ?_ ?_<;>(intro hb;(try simp only [nm] at hb);try (exfalso;omega)))|(refine rg 16 (eG rfl (qW T rfl (vV (aN rfl rfl) ?_))))|(refine rg 25 (mW rfl (aV ?_)))|refine nZ ?_));all_goals first | (exfalso;omega) | exact ⟨.inl rfl,[0,1],_,rfl,rfl,rfl,⟨.inr rfl,.inr (aG rfl rfl (dX _)),trivial⟩,by decide,xA _⟩
end Go.Proofs.YtbialaoigijlgaaGreatDoor
namespace Go.Ld
open Go.Ab Go.Proofs.YtbialaoigijlgaaGreatDoor
structure oK (c : Cx) (M : Int) (gs : List G) : Prop where
  out : mA c.bs.length gs
  up : EI gs
  ne : ∀ g,g ∈ gs → g.2 ≠ []
  ml : ∀ g,g ∈ gs → ∀ w,w ∈ g.2 → w.2.1 ≤ M
  cov : (gs.flatMap (·.1)).Perm (nats (List.range c.bs.length))
  idn : (gs.flatMap fun g => (iD g).1).Perm (nats (List.range c.bs.length))
  wl : ∀ g,g ∈ gs → g.2.length ≤ 1000
structure oQ (c : Cx) (gs : List G) : Prop where
  mid : oK c c.m gs
  cer : ∀ g,g ∈ gs → gQ g = none
  asc : ∀ g,g ∈ gs → g.2.Pairwise fun a b => mT a b < 0
theorem Y0 (n : Nat) : (nats (List.range n)).Nodup := List.Pairwise.map (R := fun a b => a ≠ b) _ (fun a b h e => h (Int.ofNat.inj e)) VJ
theorem vH {n : Nat} {b : Int} : b ∈ nats (List.range n) ↔ 0 ≤ b ∧ b < n := by
  constructor
  · intro h;obtain ⟨i,hi,rfl⟩ := bL.1 h;have := fF.1 hi;exact ⟨by omega,by omega⟩
  · intro h;exact bL.2 ⟨b.toNat,fF.2 (by omega),by omega⟩
theorem oK.find {c : Cx} {M : Int} {gs : List G} (h : oK c M gs) {b : Int} (hb : 0 ≤ b ∧ b < c.bs.length) : ∃ g,g ∈ gs ∧ b ∈ g.1 := by
  have := h.cov.mem_iff.2 (vH.2 hb);obtain ⟨g,hg,hbg⟩ := nA.1 this;exact ⟨g,hg,hbg⟩
theorem S9 {α : Type} {A B l : List Int} {x y : List α} {d : α} (hA : A.Nodup) (hB : B.Nodup) (dj : ∀ b,b ∈ A → b ∉ B) (hl : l.Perm (A ++ B)) (hx : x.length = A.length) (hy : y.length = B.length) :
    (l.map fun k => if k ∈ A then x.getD (A.idxOf k) d else y.getD (B.idxOf k) d).Perm (x ++ y) := by
  refine (hl.map _).trans ?_;rw [cN];have e1 : A.map (fun k => if k ∈ A then x.getD (A.idxOf k) d else y.getD (B.idxOf k) d) = x := by
    refine VL (by simp [hx]) fun i h1 h2 => ?_
    rw [pK,if_pos (aK _),hA.idxOf_getElem,aC,aB h2];rfl
  have e2 : B.map (fun k => if k ∈ A then x.getD (A.idxOf k) d else y.getD (B.idxOf k) d) = y := by
    refine VL (by simp [hy]) fun i h1 h2 => ?_
    have hb : B[i]'(by simpa using h1) ∈ B := aK _
    rw [pK,if_neg (fun q => dj _ q hb),hB.idxOf_getElem,aC,aB h2];rfl
  rw [e1,e2]
structure yD (n : Nat) (x y : G) : Prop where
  gx : G6 n x
  gy : G6 n y
  nx : x.2 ≠ []
  ny : y.2 ≠ []
  dj : ∀ b,b ∈ x.1 → b ∉ y.1
  di : ∀ b,b ∈ (iD x).1 → b ∉ (iD y).1
  ln : x.1.length + y.1.length ≤ 6
theorem B9 {x y : G} {w : W} (h : w ∈ (oY x y).2) : ∃ u v,u ∈ x.2 ∧ v ∈ y.2 ∧ w = L4 x y u v (oY x y).1 := by
  obtain ⟨u,hu,h⟩ := nA.1 h;obtain ⟨v,hv,h⟩ := bL.1 h;exact ⟨u,v,hu,hv,h.symm⟩
theorem lT (x y : G) : (oY x y).1.Perm (x.1 ++ y.1) := dJ _ _
theorem yD.pair {n : Nat} {x y : G} (h : yD n x y) {u v : W} (hu : u ∈ x.2) (hv : v ∈ y.2) : (L4 x y u v (oY x y).1).1.Perm (u.1 ++ v.1) ∧ (L4 x y u v (oY x y).1).2.2.Perm (u.2.2 ++ v.2.2) :=
  ⟨S9 h.gx.nd h.gy.nd h.dj (lT x y) (h.gx.ws u hu).pl (h.gy.ws v hv).pl,S9 h.gx.nd h.gy.nd h.dj (lT x y) (h.gx.ws u hu).cl (h.gy.ws v hv).cl⟩
theorem yD.same {n : Nat} {x y : G} (h : yD n x y) {w : W} (hw : w ∈ (oY x y).2) : w.1.Perm ((iD x).1 ++ (iD y).1) := by
  obtain ⟨u,v,hu,hv,rfl⟩ := B9 hw;exact (h.pair hu hv).1.trans ((h.gx.same _ _ hu (iM h.nx)).append (h.gy.same _ _ hv (iM h.ny)))
theorem yD.ok {n : Nat} {x y : G} (h : yD n x y) {M : Int} (h1 : ∀ w, w ∈ x.2 → w.2.1 ≤ M) (h2 : ∀ w, w ∈ y.2 → w.2.1 ≤ M) (hM : M ≤ 2000000) : G6 n (oY x y) where
  ne e := by
    have := (lT x y).length_eq;rw [e] at this;have := dZ.2 h.gx.ne;simp at *;omega
  up := by
    have h1 := jX oD (x.1 ++ y.1);have hnd : (oY x y).1.Nodup := (lT x y).nodup_iff.2 (gG.2 ⟨h.gx.nd,h.gy.nd,fun a ha b hb e => h.dj a ha (e ▸ hb)⟩);refine (h1.and hnd).imp fun {a b} h => ?_
    have := h.1;have := h.2;unfold cI at *;by_cases e : a < b
    · exact e
    · rw [if_neg e] at *;by_cases e' : b < a
      · rw [if_pos e'] at *;omega
      · omega
  rg b hb := by
    rcases bQ.1 ((lT x y).mem_iff.1 hb) with hb | hb
    · exact h.gx.rg b hb
    · exact h.gy.rg b hb
  ln := by rw [(lT x y).length_eq,aD];exact h.ln
  ws w hw := by
    have hs := h.same hw;obtain ⟨u,v,hu,hv,rfl⟩ := B9 hw;obtain ⟨p1,p2⟩ := h.pair hu hv;have ou := h.gx.ws u hu;have ov := h.gy.ws v hv;refine ⟨bN _,bN _,fun b hb => ?_,hs.nodup_iff.2 (gG.2 ⟨(h.gx.ws _ (iM h.nx)).nd,(h.gy.ws _ (iM h.ny)).nd,fun a ha b hb e => h.di a ha (e ▸ hb)⟩),?_,?_,fun r hr => ?_⟩
    · rcases bQ.1 (p1.mem_iff.1 hb) with hb | hb
      · exact ou.pr b hb
      · exact ov.pr b hb
    · have := ou.m0;have := ov.m0;show 0 ≤ u.2.1 + v.2.1;omega
    · have := h1 u hu;have := h2 v hv;show u.2.1 + v.2.1 ≤ 4000000;omega
    · rcases bQ.1 (p2.mem_iff.1 hr) with hr | hr
      · exact ou.sp r hr
      · exact ov.sp r hr
  same w v hw hv := (h.same hw).trans (h.same hv).symm
theorem OL {x y : G} (hx : x.2 ≠ []) (hy : y.2 ≠ []) : (oY x y).2 ≠ [] := by
  show nI x y _ ≠ [];unfold nI;cases hu : x.2 with
  | nil => exact absurd hu hx
  | cons u l =>
    cases hv : y.2 with
    | nil => exact absurd hv hy
    | cons v m => simp
theorem KC (x y : G) : (oY x y).2.length = x.2.length * y.2.length := by
  show (nI x y _).length = _;unfold nI;generalize dK cI (x.1 ++ y.1) = l
  induction x.2 with
  | nil => simp
  | cons u m ih => rw [bZ,aD,ih,bN,List.length_cons,Nat.succ_mul,pJ]
theorem wJ {α : Type} {l : List α} {i k : Nat} {u v : α} (J : α) (hik : i < k) (hi : l[i]? = some u) (hk : l[k]? = some v) : ∃ P Q R,l = P ++ u :: (Q ++ v :: R) ∧ (l.set i J).eraseIdx k = P ++ J :: (Q ++ R) := by
  obtain ⟨hl,e2⟩ := aA.1 hk;have hil : i < l.length := by omega
  have e1 : l[i] = u := (aA.1 hi).2;have d1 : l.drop i = u :: l.drop (i + 1) := by rw [aT hil,e1]
  have d2 : l.drop k = v :: l.drop (k + 1) := by rw [aT hl,e2]
  have d3 : l.drop (i + 1) = (l.drop (i + 1)).take (k - (i + 1)) ++ v :: l.drop (k + 1) := by
    have : l.drop (i + 1) = (l.drop (i + 1)).take (k - (i + 1)) ++ (l.drop (i + 1)).drop (k - (i + 1)) := (bG _ _).symm;rw [EQ,show i + 1 + (k - (i + 1)) = k by omega,d2] at this
    exact this
  have e : l = l.take i ++ u :: ((l.drop (i + 1)).take (k - (i + 1)) ++ v :: l.drop (k + 1)) := by
    rw [← d3,← d1,bG]
  refine ⟨_,_,_,e,?_⟩;have ht : (l.take i).length = i := by rw [aU];omega
  have hq : ((l.drop (i + 1)).take (k - (i + 1))).length = k - (i + 1) := by rw [aU,dB];omega
  generalize l.take i = P at *;generalize (l.drop (i + 1)).take (k - (i + 1)) = Q at *;generalize l.drop (k + 1) = R at *;clear d1 d2 d3;subst e;rw [jO _ _ (by omega),show i - P.length = 0 by omega,List.set_cons_zero,List.eraseIdx_append_of_length_le (by omega),show k - P.length = (k - (i + 1)) + 1 by omega,List.eraseIdx_cons_succ,List.eraseIdx_append_of_length_le (by omega),hq,eX,List.eraseIdx_cons_zero]
theorem VF (l : List Int) (n : Int) : VG l n = AM l n := by
  by_cases h : ∀ i,i < l.length → H2 l n i
  · rw [O3 h];unfold VG;exact bA.2 fun i hi => decide_eq_true (h i (fF.1 hi))
  · obtain ⟨i,hi⟩ := Classical.not_forall.1 h;obtain ⟨hi,ho⟩ := Classical.not_forall.1 hi;rw [AL hi ho];unfold VG;unfold H2 at ho;exact RV.2 ⟨i,fF.2 hi,fun q => ho (of_decide_eq_true q)⟩
theorem UT {p q : Prop} [Decidable p] [Decidable q] : decide (p ∧ q) = (decide p && decide q) := by simp
theorem oO (n k a b m : Int) (ids : List Int) : lR n ⟨k,a,b,m,ids⟩ = (jQ a 0 (n - 1) && decide (k = 0 ∨ ids.length = 0) && decide (k = 4 ∨ b = 0) && (if k = 0 then decide (m = 0) && AM ids n else if k = 1 ∨ k = 2 ∨ k = 3 then jQ m 0 1099511627776 else if k = 4 then decide (m = 0) && jQ b (a + 1) (n - 1) else if k = 5 then jQ m 0 (n - 1) else false)) := by
  unfold lR jQ;simp only [UT,VF]
end Go.Ld
namespace Go.Proofs.YtbialaoigijlgaaGreatDoor
open Go Go.Ab Go.Ld
attribute [local irreducible] VC AW bT aQ
set_option maxHeartbeats 4000000
theorem MY (n k a b m : Int) (ids : List Int) (hl : ids.length ≤ 9223372036854775807) (hn : 0 ≤ n ∧ n ≤ 1000) :
    aQ Tryz.prog 34 [.i n,MU k a b m ids] [] (.b (lR n ⟨k,a,b,m,ids⟩)) [] := by
  have hil : (ints ids).length = ids.length := by simp
  have ca := qC a 0 (n - 1);have cs := U9 ids n hl hn;cases hA : jQ a 0 (n - 1)
  · rw [hA] at ca;have e : lR n ⟨k,a,b,m,ids⟩ = (false) := by rw [oO];first | (rw [hA];rfl) | (rw [hAb];rcases h1 with h | h;(rw [decide_eq_false (by omega : ¬ (k = 0 ∨ ids.length = 0))];simp);(rw [decide_eq_false (by omega : ¬ (k = 4 ∨ b = 0))];simp)) | (rw [hAb,decide_eq_true hid,decide_eq_true hbz];simp only [iY];first | rw [if_pos k0] | rw [if_neg k0,if_pos k1] | rw [if_neg k0,if_neg k1,if_pos k4] | rw [if_neg k0,if_neg k1,if_neg k4,if_pos k5] | rw [if_neg k0,if_neg k1,if_neg k4,if_neg k5])
    rw [e];refine bK T Tryz.func34 rfl rfl rfl rfl ?_
    (repeat' (first|refine wS ?_|refine wR ?_|refine wT ?_|(refine rg 0 (bS (cW rfl rfl) rfl (aV ?_)))|(refine rg 1 (iX T rfl (mW rfl (vV (cJ rfl rfl (by omega) (by omega)) (vV (kC (ca)) (vV (fB rfl) (mV ?_))))));(iterate 4 refine gF ?_);(iterate 4 refine gU ?_);refine gF (pW rfl (mV ?_));(iterate 4 refine gF ?_);(iterate 3 refine gU ?_);refine gF (pV ?_))|(refine rg 2 (aV ?_))|refine nZ ?_));exact rQ
  · rw [hA] at ca;have hAb := hA;simp only [jQ,aP,decide_eq_true_eq] at hA;by_cases h1 : k ≠ 0 ∧ 0 < ids.length ∨ k ≠ 4 ∧ b ≠ 0
    · have e : lR n ⟨k,a,b,m,ids⟩ = (false) := by rw [oO];first | (rw [hA];rfl) | (rw [hAb];rcases h1 with h | h;(rw [decide_eq_false (by omega : ¬ (k = 0 ∨ ids.length = 0))];simp);(rw [decide_eq_false (by omega : ¬ (k = 4 ∨ b = 0))];simp)) | (rw [hAb,decide_eq_true hid,decide_eq_true hbz];simp only [iY];first | rw [if_pos k0] | rw [if_neg k0,if_pos k1] | rw [if_neg k0,if_neg k1,if_pos k4] | rw [if_neg k0,if_neg k1,if_neg k4,if_pos k5] | rw [if_neg k0,if_neg k1,if_neg k4,if_neg k5])
      rw [e];refine bK T Tryz.func34 rfl rfl rfl rfl ?_
      (repeat' (first|refine wS ?_|refine wR ?_|refine wT ?_|(refine wC rfl ?_ ?_<;>(intro hb;(try simp only [nm] at hb);try (exfalso;omega)))|(refine rg 0 (bS (cW rfl rfl) rfl (aV ?_)))|(refine rg 1 (iX T rfl (mW rfl (vV (cJ rfl rfl (by omega) (by omega)) (vV (kC (ca)) (vV (fB rfl) (mW rfl (yP T rfl (yO T rfl (yV (fL rfl rfl) ?_)))))))));refine yM ?_;refine eN rfl rfl ?_ ?_<;>(intro hb;rw [hb];(try simp only [nm] at hb);try (exfalso;omega));(all_goals first|(refine gT (fW T rfl (gT (lW T rfl (gT (qW T rfl (gT (vV (gN rfl rfl) ?_))))))))|(iterate 4 refine gF ?_));(all_goals (refine gT (pW rfl (pW rfl (mV ?_)))));(all_goals first|(refine gK ?_)|(refine eN rfl rfl ?_ ?_<;>(intro hb;rw [hb];(try simp only [nm] at hb);try (exfalso;omega))));(all_goals first|(refine gT (fW T rfl (gT (lW T rfl (gT (vV (fL rfl rfl) (gT (mV ?_))))))))|(iterate 4 refine gF ?_));(all_goals first|(refine gK ?_)|(refine eN rfl rfl ?_ ?_<;>(intro hb;rw [hb];(try simp only [nm] at hb);try (exfalso;omega))));(all_goals first|(refine gT (fW T rfl (gT (lW T rfl (gT (vV (fL rfl rfl) ?_))))))|(iterate 3 refine gU ?_));(all_goals first|(refine gT (pV ?_))|(refine gF ?_));(all_goals (refine pV ?_)))|(refine rg 2 (aV ?_))|refine nZ ?_));all_goals exact rQ
    · have hid : k = 0 ∨ ids.length = 0 := by omega
      have hbz : k = 4 ∨ b = 0 := by omega
      by_cases k0 : k = 0
      · have e : lR n ⟨k,a,b,m,ids⟩ = (decide (m = 0) && AM ids n) := by rw [oO];first | (rw [hA];rfl) | (rw [hAb];rcases h1 with h | h;(rw [decide_eq_false (by omega : ¬ (k = 0 ∨ ids.length = 0))];simp);(rw [decide_eq_false (by omega : ¬ (k = 4 ∨ b = 0))];simp)) | (rw [hAb,decide_eq_true hid,decide_eq_true hbz];simp only [iY];first | rw [if_pos k0] | rw [if_neg k0,if_pos k1] | rw [if_neg k0,if_neg k1,if_pos k4] | rw [if_neg k0,if_neg k1,if_neg k4,if_pos k5] | rw [if_neg k0,if_neg k1,if_neg k4,if_neg k5])
        rw [e];refine bK T Tryz.func34 rfl rfl rfl rfl ?_
        (repeat' (first|refine wS ?_|refine wB ?_|refine wK ?_|refine wR ?_|(refine wC rfl ?_ ?_<;>(intro hb;(try simp only [nm] at hb);try (exfalso;omega)))|(refine rg 0 (bS (cW rfl rfl) rfl (aV ?_)))|(refine rg 1 (iX T rfl (mW rfl (vV (cJ rfl rfl (by omega) (by omega)) (vV (kC (ca)) (vV (fB rfl) (mW rfl (yP T rfl (yO T rfl (yV (fL rfl rfl) ?_)))))))));refine yM ?_;refine eN rfl rfl ?_ ?_<;>(intro hb;rw [hb];(try simp only [nm] at hb);try (exfalso;omega));(all_goals ((iterate 4 refine gF ?_);refine gT (pW rfl (pW rfl (mW rfl (yP T rfl (yO T rfl (yV (fL rfl rfl) (yM ?_)))))));refine eN rfl rfl ?_ ?_<;>(intro hb;rw [hb];(try simp only [nm] at hb);try (exfalso;omega))));(all_goals (refine yP T rfl (yO T rfl (yV (fL rfl rfl) (gT (pW rfl (pV ?_))))))))|(refine rg 3 (PG T ?_))|(refine rg 4 (vV (fC rfl rfl) (aV ?_)))|(refine rg 5 (iX T rfl (vV (fC rfl rfl) (mV ?_)));refine eN rfl rfl ?_ ?_<;>(intro hb;rw [hb];(try simp only [nm] at hb);try (exfalso;omega));(all_goals first|(refine gT (fW T rfl (gT (lW T rfl (gT (mW rfl (gT (vV (kC (cs)) ?_))))))))|(iterate 4 refine gF ?_));(all_goals (refine pW rfl (aV ?_))))|refine nZ ?_));all_goals first | (exfalso;omega) | (refine eC (.inl rfl) rfl (sO ?_);simp [*])
      · by_cases k1 : k = 1 ∨ k = 2 ∨ k = 3
        · have e : lR n ⟨k,a,b,m,ids⟩ = (jQ m 0 1099511627776) := by rw [oO];first | (rw [hA];rfl) | (rw [hAb];rcases h1 with h | h;(rw [decide_eq_false (by omega : ¬ (k = 0 ∨ ids.length = 0))];simp);(rw [decide_eq_false (by omega : ¬ (k = 4 ∨ b = 0))];simp)) | (rw [hAb,decide_eq_true hid,decide_eq_true hbz];simp only [iY];first | rw [if_pos k0] | rw [if_neg k0,if_pos k1] | rw [if_neg k0,if_neg k1,if_pos k4] | rw [if_neg k0,if_neg k1,if_neg k4,if_pos k5] | rw [if_neg k0,if_neg k1,if_neg k4,if_neg k5])
          rw [e];refine bK T Tryz.func34 rfl rfl rfl rfl ?_
          (repeat' (first|refine wS ?_|refine wB ?_|refine wK ?_|refine wR ?_|(refine wC rfl ?_ ?_<;>(intro hb;(try simp only [nm] at hb);try (exfalso;omega)))|(refine rg 0 (bS (cW rfl rfl) rfl (aV ?_)))|(refine rg 1 (iX T rfl (mW rfl (vV (cJ rfl rfl (by omega) (by omega)) (vV (kC (ca)) (vV (fB rfl) (mW rfl (yP T rfl (yO T rfl (yV (fL rfl rfl) ?_)))))))));refine yM ?_;refine eN rfl rfl ?_ ?_<;>(intro hb;rw [hb];(try simp only [nm] at hb);try (exfalso;omega));(all_goals (refine yP T rfl (yO T rfl (gT (qW T rfl (yV (gN rfl rfl) (gT (pW rfl (pW rfl (mV ?_))))))));refine eN rfl rfl ?_ ?_<;>(intro hb;rw [hb];(try simp only [nm] at hb);try (exfalso;omega))));(all_goals (refine yP T rfl (yO T rfl (yV (fL rfl rfl) (yM ?_)));refine eN rfl rfl ?_ ?_<;>(intro hb;rw [hb];(try simp only [nm] at hb);try (exfalso;omega))));(all_goals (refine yP T rfl (yO T rfl (yV (fL rfl rfl) (gT (pW rfl (pV ?_))))))))|(refine rg 3 (PG T ?_))|(refine rg 4 (vV (fC rfl rfl) (aV ?_)))|(refine rg 6 (vV (fC rfl rfl) (aV ?_)))|(refine rg 7 (vV (fC rfl rfl) (aV ?_)))|(refine rg 8 (vV (fC rfl rfl) (aV ?_)))|(refine rg 9 (iX T rfl (vV (by exact eS rfl rfl (qC _ _ _) rfl rfl rfl) ?_));refine aV ?_)|refine nZ ?_));all_goals first | (exfalso;omega) | exact rQ
        · by_cases k4 : k = 4
          · have e : lR n ⟨k,a,b,m,ids⟩ = (decide (m = 0) && jQ b (a + 1) (n - 1)) := by rw [oO];first | (rw [hA];rfl) | (rw [hAb];rcases h1 with h | h;(rw [decide_eq_false (by omega : ¬ (k = 0 ∨ ids.length = 0))];simp);(rw [decide_eq_false (by omega : ¬ (k = 4 ∨ b = 0))];simp)) | (rw [hAb,decide_eq_true hid,decide_eq_true hbz];simp only [iY];first | rw [if_pos k0] | rw [if_neg k0,if_pos k1] | rw [if_neg k0,if_neg k1,if_pos k4] | rw [if_neg k0,if_neg k1,if_neg k4,if_pos k5] | rw [if_neg k0,if_neg k1,if_neg k4,if_neg k5])
            rw [e];refine bK T Tryz.func34 rfl rfl rfl rfl ?_
            (repeat' (first|refine wS ?_|refine wB ?_|refine wK ?_|refine wR ?_|refine wU ?_|(refine wC rfl ?_ ?_<;>(intro hb;(try simp only [nm] at hb);try (exfalso;omega)))|(refine rg 0 (bS (cW rfl rfl) rfl (aV ?_)))|(refine rg 1 (iX T rfl (mW rfl (vV (cJ rfl rfl (by omega) (by omega)) (vV (kC (ca)) (vV (fB rfl) (mW rfl (yP T rfl (yO T rfl (yV (fL rfl rfl) ?_)))))))));refine yM ?_;refine eN rfl rfl ?_ ?_<;>(intro hb;rw [hb];(try simp only [nm] at hb);try (exfalso;omega));(all_goals (refine yP T rfl (yO T rfl (gT (qW T rfl (yV (gN rfl rfl) (gT (pW rfl (pW rfl (mV ?_))))))));refine eN rfl rfl ?_ ?_<;>(intro hb;rw [hb];(try simp only [nm] at hb);try (exfalso;omega))));(all_goals (refine yP T rfl (yO T rfl (yV (fL rfl rfl) (yM ?_)));refine eN rfl rfl ?_ ?_<;>(intro hb;rw [hb];(try simp only [nm] at hb);try (exfalso;omega))));(all_goals ((iterate 3 refine gF ?_);refine gT (pW rfl (pV ?_)))))|(refine rg 3 (PG T ?_))|(refine rg 4 (vV (fC rfl rfl) (aV ?_)))|(refine rg 6 (vV (fC rfl rfl) (aV ?_)))|(refine rg 7 (vV (fC rfl rfl) (aV ?_)))|(refine rg 8 (vV (fC rfl rfl) (aV ?_)))|(refine rg 10 (vV (fC rfl rfl) (aV ?_)))|(refine rg 11 (iX T rfl (vV (fC rfl rfl) (mV ?_)));refine eN rfl rfl ?_ ?_<;>(intro hb;rw [hb];(try simp only [nm] at hb);try (exfalso;omega));(all_goals first|(refine gT (fW T rfl (gT (lW T rfl (gT (fW T rfl (gT (lW T rfl (gT (vV (bF rfl rfl (by omega) (by omega)) ?_)))))))));refine gT (mW rfl (gT (vV (cJ rfl rfl (by omega) (by omega)) (gT (vV (by exact eS rfl rfl (qC _ _ _) rfl rfl rfl) ?_))))))|(iterate 8 refine gF ?_));(all_goals (refine pW rfl (aV ?_))))|refine nZ ?_));all_goals first | (exfalso;omega) | (refine eC (.inl rfl) rfl (sO ?_);simp [*])
          · by_cases k5 : k = 5
            · have e : lR n ⟨k,a,b,m,ids⟩ = (jQ m 0 (n - 1)) := by rw [oO];first | (rw [hA];rfl) | (rw [hAb];rcases h1 with h | h;(rw [decide_eq_false (by omega : ¬ (k = 0 ∨ ids.length = 0))];simp);(rw [decide_eq_false (by omega : ¬ (k = 4 ∨ b = 0))];simp)) | (rw [hAb,decide_eq_true hid,decide_eq_true hbz];simp only [iY];first | rw [if_pos k0] | rw [if_neg k0,if_pos k1] | rw [if_neg k0,if_neg k1,if_pos k4] | rw [if_neg k0,if_neg k1,if_neg k4,if_pos k5] | rw [if_neg k0,if_neg k1,if_neg k4,if_neg k5])
              rw [e];refine bK T Tryz.func34 rfl rfl rfl rfl ?_
              (repeat' (first|refine wS ?_|refine wB ?_|refine wK ?_|refine wR ?_|(refine wC rfl ?_ ?_<;>(intro hb;(try simp only [nm] at hb);try (exfalso;omega)))|(refine rg 0 (bS (cW rfl rfl) rfl (aV ?_)))|(refine rg 1 (iX T rfl (mW rfl (vV (cJ rfl rfl (by omega) (by omega)) (vV (kC (ca)) (vV (fB rfl) (mW rfl (yP T rfl (yO T rfl (yV (fL rfl rfl) ?_)))))))));refine yM ?_;refine eN rfl rfl ?_ ?_<;>(intro hb;rw [hb];(try simp only [nm] at hb);try (exfalso;omega));(all_goals (refine yP T rfl (yO T rfl (gT (qW T rfl (yV (gN rfl rfl) (gT (pW rfl (pW rfl (mV ?_))))))));refine eN rfl rfl ?_ ?_<;>(intro hb;rw [hb];(try simp only [nm] at hb);try (exfalso;omega))));(all_goals (refine yP T rfl (yO T rfl (yV (fL rfl rfl) (yM ?_)));refine eN rfl rfl ?_ ?_<;>(intro hb;rw [hb];(try simp only [nm] at hb);try (exfalso;omega))));(all_goals (refine yP T rfl (yO T rfl (yV (fL rfl rfl) (gT (pW rfl (pV ?_))))))))|(refine rg 3 (PG T ?_))|(refine rg 4 (vV (fC rfl rfl) (aV ?_)))|(refine rg 6 (vV (fC rfl rfl) (aV ?_)))|(refine rg 7 (vV (fC rfl rfl) (aV ?_)))|(refine rg 8 (vV (fC rfl rfl) (aV ?_)))|(refine rg 10 (vV (fC rfl rfl) (aV ?_)))|(refine rg 12 (vV (fC rfl rfl) (aV ?_)))|(refine rg 13 (iX T rfl (mW rfl (vV (cJ rfl rfl (by omega) (by omega)) (vV (by exact eS rfl rfl (qC _ _ _) rfl rfl rfl) ?_))));refine aV ?_)|refine nZ ?_));all_goals first | (exfalso;omega) | exact rQ
            · have e : lR n ⟨k,a,b,m,ids⟩ = (false) := by rw [oO];first | (rw [hA];rfl) | (rw [hAb];rcases h1 with h | h;(rw [decide_eq_false (by omega : ¬ (k = 0 ∨ ids.length = 0))];simp);(rw [decide_eq_false (by omega : ¬ (k = 4 ∨ b = 0))];simp)) | (rw [hAb,decide_eq_true hid,decide_eq_true hbz];simp only [iY];first | rw [if_pos k0] | rw [if_neg k0,if_pos k1] | rw [if_neg k0,if_neg k1,if_pos k4] | rw [if_neg k0,if_neg k1,if_neg k4,if_pos k5] | rw [if_neg k0,if_neg k1,if_neg k4,if_neg k5])
              rw [e];refine bK T Tryz.func34 rfl rfl rfl rfl ?_
              (repeat' (first|refine wS ?_|refine wB ?_|refine wK ?_|refine wR ?_|(refine wC rfl ?_ ?_<;>(intro hb;(try simp only [nm] at hb);try (exfalso;omega)))|(refine rg 0 (bS (cW rfl rfl) rfl (aV ?_)))|(refine rg 1 (iX T rfl (mW rfl (vV (cJ rfl rfl (by omega) (by omega)) (vV (kC (ca)) (vV (fB rfl) (mW rfl (yP T rfl (yO T rfl (yV (fL rfl rfl) ?_)))))))));refine yM ?_;refine eN rfl rfl ?_ ?_<;>(intro hb;rw [hb];(try simp only [nm] at hb);try (exfalso;omega));(all_goals (refine yP T rfl (yO T rfl (gT (qW T rfl (yV (gN rfl rfl) (gT (pW rfl (pW rfl (mV ?_))))))));refine eN rfl rfl ?_ ?_<;>(intro hb;rw [hb];(try simp only [nm] at hb);try (exfalso;omega))));(all_goals (refine yP T rfl (yO T rfl (yV (fL rfl rfl) (yM ?_)));refine eN rfl rfl ?_ ?_<;>(intro hb;rw [hb];(try simp only [nm] at hb);try (exfalso;omega))));(all_goals (refine yP T rfl (yO T rfl (yV (fL rfl rfl) (gT (pW rfl (pV ?_))))))))|(refine rg 3 (PG T ?_))|(refine rg 4 (vV (fC rfl rfl) (aV ?_)))|(refine rg 6 (vV (fC rfl rfl) (aV ?_)))|(refine rg 7 (vV (fC rfl rfl) (aV ?_)))|(refine rg 8 (vV (fC rfl rfl) (aV ?_)))|(refine rg 10 (vV (fC rfl rfl) (aV ?_)))|(refine rg 12 (vV (fC rfl rfl) (aV ?_)))|(refine rg 14 (aV ?_))|refine nZ ?_));all_goals first | (exfalso;omega) | exact rQ
end Go.Proofs.YtbialaoigijlgaaGreatDoor
namespace Go.Ld
open Go.Ab Go.Proofs.YtbialaoigijlgaaGreatDoor
theorem Y9 {l : List Int} (h : l ≠ []) : l.headD 0 ∈ l := by
  cases l with
  | nil => exact absurd rfl h
  | cons x l => exact bB
theorem OX {l : List Int} (h : l.Pairwise (· < ·)) {z : Int} (hz : z ∈ l) : l.headD 0 ≤ z := by
  cases l with
  | nil => cases hz
  | cons x l =>
    rcases bY.1 hz with rfl | hz
    · exact iI _
    · have := (eQ.1 h).1 z hz;show x ≤ z;omega
theorem WB {a b : Int} : cI a b ≤ 0 ↔ a ≤ b := by unfold cI;split <;> (try split) <;> omega
theorem yK {l : List G} : EI l ↔ (l.map fun g => g.1.headD 0).Pairwise (fun a b => a ≤ b) := by
  rw [RQ];exact ⟨fun h => h.imp fun {a b} h => WB.1 h,fun h => h.imp fun {a b} h => WB.2 h⟩
theorem GZ {c : Cx} {M : Int} {gs P Q R : List G} {u v J : G} (h : oK c M gs) (e : gs = P ++ u :: (Q ++ v :: R)) (hM : 0 ≤ M) {M' : Int} (hMM : M ≤ M')
    (hp : J.1.Perm (u.1 ++ v.1)) (hJ : G6 c.bs.length J) (hne : J.2 ≠ []) (hf : (iD J).1.Perm ((iD u).1 ++ (iD v).1)) (hm : ∀ w,w ∈ J.2 → w.2.1 ≤ M') (hl : J.2.length ≤ 1000) : oK c M' (P ++ J :: (Q ++ R)) := by
  have hmem : ∀ g,g ∈ P ++ J :: (Q ++ R) → g = J ∨ g ∈ gs := fun g hg => by
    subst e;simp only [bQ,bY] at hg ⊢;rcases hg with hg | hg | hg | hg
    · exact .inr (.inl hg)
    · exact .inl hg
    · exact .inr (.inr (.inr (.inl hg)))
    · exact .inr (.inr (.inr (.inr (.inr hg))))
  have fl : ∀ F : G → List Int,(F J).Perm (F u ++ F v) → ((P ++ J :: (Q ++ R)).flatMap F).Perm (gs.flatMap F) := fun F hF => by
    subst e;simp only [fP,bZ,bE];refine List.Perm.append_left _ ?_;refine (hF.append_right _).trans ?_;rw [bE];refine List.Perm.append_left _ ?_;rw [← bE,← bE];exact List.perm_append_comm.append_right _
  have cov := (fl (·.1) hp).trans h.cov;have hlen : (gs.flatMap (·.1)).length = ((P ++ J :: (Q ++ R)).flatMap (·.1)).length := (fl (·.1) hp).length_eq.symm;refine ⟨⟨fun g hg => ?_,(fl (·.1) hp).nodup_iff.2 h.out.nd,by rw [← hlen];exact h.out.ln,fun g hg => ?_⟩,?_,fun g hg => ?_,fun g hg => ?_,cov,(fl _ hf).trans h.idn,fun g hg => ?_⟩
  · rcases hmem g hg with rfl | hg
    · exact hJ
    · exact h.out.ok g hg
  · rcases hmem g hg with rfl | hg
    · omega
    · exact h.out.ws g hg
  · have hu : u ∈ gs := by subst e;simp
    have hv : v ∈ gs := by subst e;simp
    have hup := yK.1 h.up;have ou := h.out.ok u hu;have ov := h.out.ok v hv;have huv : u.1.headD 0 ≤ v.1.headD 0 := by
      subst e;simp only [cN,List.map_cons] at hup;exact (eQ.1 (eU.1 hup).2.1).1 _ (by simp)
    have hh : J.1.headD 0 = u.1.headD 0 := by
      have h1 : J.1.headD 0 ≤ u.1.headD 0 := OX hJ.up (hp.mem_iff.2 (bQ.2 (.inl (Y9 ou.ne))));have h2 : u.1.headD 0 ≤ J.1.headD 0 := by
        rcases bQ.1 (hp.mem_iff.1 (Y9 hJ.ne)) with hq | hq
        · exact OX ou.up hq
        · have := OX ov.up hq;omega
      omega
    refine yK.2 (hup.sublist ?_);subst e;simp only [cN,List.map_cons,hh];refine List.Sublist.append_left (List.Sublist.cons_cons _ (List.Sublist.append_left (List.sublist_cons_self _ _) _)) _
  · rcases hmem g hg with rfl | hg
    · exact hne
    · exact h.ne g hg
  · rcases hmem g hg with rfl | hg
    · exact hm
    · exact fun w hw => Int.le_trans (h.ml g hg w hw) hMM
  · rcases hmem g hg with rfl | hg
    · exact hl
    · exact h.wl g hg
theorem OK {c : Cx} {gs all : List G} {a b : Int} (h : oK c c.m gs) (hm0 : 0 ≤ c.m) (hm1 : c.m ≤ 1048576) (ha : 0 ≤ a ∧ a < c.bs.length) (hb : 0 ≤ b ∧ b < c.bs.length) (e : join gs a b = some all) :
    oK c (2 * c.m) all ∧ ∃ g,g ∈ all ∧ a ∈ g.1 ∧ b ∈ g.1 := by
  obtain ⟨i,x,hi,hix,hax⟩ := jW (h.find ha);obtain ⟨k,y,hk,hky,hby⟩ := jW (h.find hb);have hx := aJ hix;have hy := aJ hky;unfold join at e;dsimp only at e;rw [hi,hk] at e;split at e
  · rename_i hik;obtain rfl : i = k := by omega
    cases e;have : x = y := by rw [hix] at hky;exact Option.some.inj hky
    subst this;exact ⟨⟨h.out,h.up,h.ne,fun g hg w hw => by have := h.ml g hg w hw;omega,h.cov,h.idn,h.wl⟩,x,hx,hax,hby⟩
  · rename_i hik;have hxy : x ≠ y := fun q => by
      subst q;have h1 := (aA.1 hix).2;have h2 := (aA.1 hky).2;have l1 := (aA.1 hix).1;have l2 := (aA.1 hky).1;have nd : (gs.map fun g => g.1.headD 0).Nodup := by
        have := h.out.nd;have aux : ∀ o : List G,(∀ g,g ∈ o → g.1 ≠ []) → (o.flatMap (·.1)).Nodup → (o.map fun g => g.1.headD 0).Nodup := by
          intro o
          induction o with
          | nil => intro _ _;exact dA
          | cons g o ih =>
            intro hg hn;rw [bZ] at hn;obtain ⟨n1,n2,n3⟩ := gG.1 hn;rw [List.map_cons,fD];refine ⟨fun hc => ?_,ih (fun g h => hg g (aY _ h)) n2⟩;obtain ⟨g',hg',e'⟩ := bL.1 hc;exact n3 _ (Y9 (hg g bB)) _ (vO hg' (e' ▸ Y9 (hg g' (aY _ hg')))) rfl
        exact aux gs (fun g hg => (h.out.ok g hg).ne) this
      have e1 : (gs.map fun g => g.1.headD 0)[i]'(by simpa using l1) = (gs.map fun g => g.1.headD 0)[k]'(by simpa using l2) := by rw [pK,pK,h1,h2]
      have := (List.getElem_inj nd).1 e1;omega
    have gi : mP gs ((i : Int)).toNat = x := by unfold mP;rw [aC];show (gs[i]?).getD _ = x;rw [hix];rfl
    have gk : mP gs ((k : Int)).toNat = y := by unfold mP;rw [aC];show (gs[k]?).getD _ = y;rw [hky];rfl
    rw [gi,gk] at e;split at e
    · cases e
    · rename_i hsz;have hln : x.1.length + y.1.length ≤ 6 := by omega
      have hwl : x.2.length * y.2.length ≤ 1000 := by omega
      cases e;have dj : ∀ (u v : G),u ∈ gs → v ∈ gs → u ≠ v → ∀ b,b ∈ u.1 → b ∉ v.1 := fun u v hu hv huv b h1 h2 => huv (I3 h.out.nd hu hv h1 h2);have ndi : (gs.flatMap fun g => (iD g).1).Nodup := h.idn.nodup_iff.2 (Y0 _);have ndi' : ((gs.map fun g => ((iD g).1,g.2)).flatMap (·.1)).Nodup := by rw [P3];exact ndi
      have jo : yD c.bs.length x y := by
        refine ⟨h.out.ok x hx,h.out.ok y hy,h.ne x hx,h.ne y hy,dj x y hx hy hxy,fun b h1 h2 => ?_,hln⟩
        have l1 := (aA.1 hix).1;have l2 := (aA.1 hky).1;rcases nW (show i ≠ k by omega) with hlt | hlt
        · obtain ⟨P,Q,R,e1,-⟩ := wJ x hlt hix hky;rw [e1] at ndi;simp only [fP,bZ] at ndi;exact (gG.1 (gG.1 ndi).2.1).2.2 b h1 b (by simp [h2]) rfl
        · obtain ⟨P,Q,R,e1,-⟩ := wJ y hlt hky hix;rw [e1] at ndi;simp only [fP,bZ] at ndi;exact (gG.1 (gG.1 ndi).2.1).2.2 b h2 b (by simp [h1]) rfl
      have hJ := jo.ok (h.ml x hx) (h.ml y hy) (by omega)
      have hJn := OL (h.ne x hx) (h.ne y hy);have hJf := jo.same (iM hJn);have hJm : ∀ w,w ∈ (oY x y).2 → w.2.1 ≤ 2 * c.m := fun w hw => by
        obtain ⟨u,v,hu,hv,rfl⟩ := B9 hw;have := h.ml x hx u hu;have := h.ml y hy v hv;show u.2.1 + v.2.1 ≤ _;omega
      have hJp := lT x y;have hJl : (oY x y).2.length ≤ 1000 := by rw [KC];exact hwl
      have hJa : a ∈ (oY x y).1 := hJp.mem_iff.2 (bQ.2 (.inl hax));have hJb : b ∈ (oY x y).1 := hJp.mem_iff.2 (bQ.2 (.inr hby));generalize oY x y = J at *;rcases nW (show i ≠ k by omega) with hlt | hlt
      · obtain ⟨P,Q,R,e1,e2⟩ := wJ J hlt hix hky;rw [show (min (i : Int) (k : Int)).toNat = i by omega,show (max (i : Int) (k : Int)).toNat = k by omega,e2]
        exact ⟨GZ h e1 hm0 (by omega) hJp hJ hJn hJf hJm hJl,J,by simp,hJa,hJb⟩
      · obtain ⟨P,Q,R,e1,e2⟩ := wJ J hlt hky hix;rw [show (min (i : Int) (k : Int)).toNat = k by omega,show (max (i : Int) (k : Int)).toNat = i by omega,e2]
        exact ⟨GZ h e1 hm0 (by omega) (hJp.trans uL) hJ hJn (hJf.trans uL) hJm hJl,J,by simp,hJa,hJb⟩
theorem IF {f t : Int} (h : (Q6 f t).2 = true) : RF (Q6 f t).1 := by
  have := DP f t;unfold Q6 at h ⊢;unfold RF;dsimp only at h ⊢;rcases this with ⟨h1,h2,h3,h4⟩ | ⟨h1,_⟩
  · rw [h2,h3];omega
  · rw [h1] at h;cases h
theorem IW {t u w e : Int} {r : SP} (h : (J2 t u w e r).2 = true) : RF (J2 t u w e r).1 := by
  unfold J2 at h ⊢;dsimp only at h ⊢;split at h
  · rename_i hq;rw [if_pos hq];exact IF h
  · rename_i hq;exact absurd h hq
theorem NO {n s : Int} {r : SP} (h : (yX r n s).2 = true) : RF (yX r n s).1 := by
  unfold yX at h ⊢;split at h
  · rename_i hq;rw [if_pos hq];exact IF h
  · cases h
theorem AR.sC {n q : Nat} {w : W} (h : AR n q w) {i : Nat} {r : SP} (hr : RF r) : AR n q (sC w i r) where
  pl := h.pl
  cl := by show (w.2.2.set i r).length = q;rw [fR];exact h.cl
  pr := h.pr
  nd := h.nd
  m0 := h.m0
  m1 := h.m1
  sp x hx := by
    rcases iG hx with hx | rfl
    · exact h.sp x hx
    · exact hr
theorem LL {c : Cx} {n q : Nat} {w : W} {i : Nat} {s : Ev} (h : AR n q w) (hi : i < q) (hs : 0 ≤ s.n) (hm : w.2.1 ≤ 3000000) (hb : (jN c w i s).2 = true) : AR n q (jN c w i s).1 ∧ (jN c w i s).1.1 = w.1 ∧ (jN c w i s).1.2.1 ≤ w.2.1 + 1 := by
  obtain ⟨g1,g2,g3⟩ := h.at hi;unfold jN at hb ⊢;by_cases k0 : s.k = 0
  · rw [if_pos k0] at hb ⊢;split
    · exact ⟨h,rfl,by dsimp only;omega⟩
    · exact ⟨⟨h.pl,h.cl,h.pr,h.nd,by have := h.m0;dsimp only;omega,by dsimp only;omega,h.sp⟩,rfl,by dsimp only;omega⟩
  rw [if_neg k0] at hb ⊢;by_cases k1 : s.k = 1
  · rw [if_pos k1] at hb ⊢;dsimp only at hb ⊢;exact ⟨h.sC (IW hb),rfl,by show w.2.1 ≤ _;omega⟩
  rw [if_neg k1] at hb ⊢;by_cases k2 : s.k = 2
  · rw [if_pos k2] at hb ⊢;dsimp only at hb ⊢;exact ⟨h.sC (NO hb),rfl,by show w.2.1 ≤ _;omega⟩
  rw [if_neg k2] at hb ⊢;by_cases k3 : s.k = 3
  · rw [if_pos k3] at hb ⊢;dsimp only at hb ⊢;unfold DD at hb;simp only [aP,decide_eq_true_eq] at hb;unfold RF at g3;exact ⟨h.sC (show RF (s.n,s.n + 1) from ⟨by dsimp only;omega,by dsimp only;omega,by dsimp only;omega⟩),rfl,by show w.2.1 ≤ _;omega⟩
  rw [if_neg k3] at hb ⊢;split
  · exact ⟨h,rfl,by dsimp only;omega⟩
  · exact ⟨h,rfl,by dsimp only;omega⟩
theorem R4 {α : Type} {l : List α} {i k : Nat} {d : α} (hi : i < l.length) (hk : k < l.length) : ((l.set i (l.getD k d)).set k (l.getD i d)).Perm l := by
  have e1 : l.getD k d = l[k] := by rw [aC,aB hk];rfl
  have e2 : l.getD i d = l[i] := by rw [aC,aB hi];rfl
  rw [e1,e2];exact List.set_set_perm hi hk
theorem UO {n q : Nat} {w : W} {i k : Nat} (h : AR n q w) (hi : i < q) (hk : k < q) : AR n q (C6 w i k) ∧ (C6 w i k).1.Perm w.1 := by
  have p1 : (C6 w i k).1.Perm w.1 := R4 (by rw [h.pl];exact hi) (by rw [h.pl];exact hk)
  have p2 : (C6 w i k).2.2.Perm w.2.2 := R4 (by rw [h.cl];exact hi) (by rw [h.cl];exact hk)
  exact ⟨⟨p1.length_eq.trans h.pl,p2.length_eq.trans h.cl,fun x hx => h.pr x (p1.mem_iff.1 hx),p1.nodup_iff.2 h.nd,h.m0,h.m1,fun r hr => h.sp r (p2.mem_iff.1 hr)⟩,p1⟩
theorem CR {c : Cx} {M : Int} {gs : List G} (h : oK c M gs) (hM : M ≤ 2200000) {g : G} (hg : g ∈ gs) {s : Ev} (hs : 0 ≤ s.n) (ha : s.a ∈ g.1) (hb : s.k = 4 → s.b ∈ g.1) {w : W} (hw : w ∈ oW c s g) : AR c.bs.length g.1.length w ∧ w.1.Perm (iD g).1 ∧ w.2.1 ≤ M + 1 := by
  have og := h.out.ok g hg;obtain ⟨v,hv,hw⟩ := nA.1 hw;have ov := og.ws v hv;have hvm := h.ml g hg v hv;have hp := og.same v _ hv (iM (h.ne g hg));obtain ⟨hi,_⟩ := Y6 ha;rcases bQ.1 hw with hw | hw
  · split at hw
    · rename_i hbt;obtain rfl := dS.1 hw;obtain ⟨h1,h2,h3⟩ := LL ov hi hs (by omega) hbt
      exact ⟨h1,h2 ▸ hp,by omega⟩
    · cases hw
  · split at hw
    · rename_i hk;obtain rfl := dS.1 hw;obtain ⟨hj,_⟩ := Y6 (hb hk);obtain ⟨h1,h2⟩ := UO ov hi hj;exact ⟨h1,h2.trans hp,by show v.2.1 ≤ _;omega⟩
    · cases hw
theorem JQ {c : Cx} {s : Ev} {g : G} : (oW c s g).length ≤ 2 * g.2.length := by
  unfold oW;dsimp only
  induction g.2 with
  | nil => simp
  | cons w l ih =>
    rw [bZ,aD,List.length_cons,aD];have h1 : ∀ {p : Prop} [Decidable p] {x : W},(if p then [x] else []).length ≤ 1 := by
      intro p _ x;split <;> simp
    have := @h1 ((jN c w (g.1.idxOf s.a) s).2 = true) _ (jN c w (g.1.idxOf s.a) s).1;have := @h1 (s.k = 4) _ (C6 w (g.1.idxOf s.a) (g.1.idxOf s.b));omega
theorem SZ {c : Cx} {M M' : Int} {gs : List G} (h : oK c M gs) {i : Nat} {g : G} (hi : gs[i]? = some g) {ws : List W} (hne : ws ≠ []) (hl : ws.length ≤ 1000) (hM : M ≤ M')
    (hw : ∀ w,w ∈ ws → AR c.bs.length g.1.length w ∧ w.1.Perm (iD g).1 ∧ w.2.1 ≤ M') : oK c M' (gs.set i (g.1,ws)) := by
  have hg := aJ hi;have og := h.out.ok g hg;obtain ⟨A,B,e1,e2⟩ := rY (y := (g.1,ws)) hi;rw [e2];subst e1;have hmem : ∀ x,x ∈ A ++ (g.1,ws) :: B → x = (g.1,ws) ∨ x ∈ A ++ g :: B := fun x hx => by
    simp only [bQ,bY] at hx ⊢;rcases hx with hx | hx | hx
    · exact .inr (.inl hx)
    · exact .inl hx
    · exact .inr (.inr (.inr hx))
  have hbod : ((A ++ (g.1,ws) :: B).flatMap (·.1)) = ((A ++ g :: B).flatMap (·.1)) := by simp only [fP,bZ]
  have hf := (hw _ (iM (g := (g.1,ws)) hne)).2.1;have ok : G6 c.bs.length (g.1,ws) := ⟨og.ne,og.up,og.rg,og.ln,fun w h => (hw w h).1,fun w v h1 h2 => (hw w h1).2.1.trans (hw v h2).2.1.symm⟩;refine ⟨⟨fun x hx => ?_,by rw [hbod];exact h.out.nd,by rw [hbod];exact h.out.ln,fun x hx => ?_⟩,?_,fun x hx => ?_,fun x hx => ?_,by rw [hbod];exact h.cov,?_,fun x hx => ?_⟩
  · rcases hmem x hx with rfl | hx
    · exact ok
    · exact h.out.ok x hx
  · rcases hmem x hx with rfl | hx
    · show ws.length ≤ 2000;omega
    · exact h.out.ws x hx
  · have := yK.1 h.up;refine yK.2 ?_;simp only [cN,List.map_cons] at this ⊢;exact this
  · rcases hmem x hx with rfl | hx
    · exact hne
    · exact h.ne x hx
  · rcases hmem x hx with rfl | hx
    · exact fun w hw' => (hw w hw').2.2
    · exact fun w hw' => Int.le_trans (h.ml x hx w hw') hM
  · refine List.Perm.trans ?_ h.idn;simp only [fP,bZ];exact List.Perm.append_left _ (hf.append_right _)
  · rcases hmem x hx with rfl | hx
    · exact hl
    · exact h.wl x hx
theorem CF {g : G} {k : Nat} {w : W} (h : w ∈ (jK g k).2) : ∃ v,v ∈ g.2 ∧ w = YU k v := by
  obtain ⟨v,hv,e⟩ := bL.1 (vE h);exact ⟨v,hv,e.symm⟩
theorem SV {g : G} {k : Nat} (h : g.2 ≠ []) : (jK g k).2 ≠ [] := fun e => h (by
  have := E2.1 e
  exact kU.1 this)
theorem TC {m : Nat} {M : Int} (hM : 0 ≤ M) : ∀ {g : G},(∀ w,w ∈ g.2 → w.2.1 ≤ M) → ∀ x,x ∈ mD m g → ∀ w,w ∈ x.2 → w.2.1 ≤ M := by
  induction m with
  | zero => intro g h x hx;simp [mD] at hx;subst hx;exact h
  | succ m ih =>
    intro g h x hx;unfold mD at hx;split at hx
    · simp at hx;subst hx;exact h
    · rename_i k hk;rcases bY.1 hx with rfl | hx
      · intro w hw;obtain rfl := dS.1 hw;exact hM
      · refine ih (fun w hw => ?_) x hx;obtain ⟨v,hv,rfl⟩ := CF hw;exact h v hv
theorem NR {m : Nat} : ∀ {g : G},g.2.Pairwise (fun a b => mT a b < 0) → ∀ x,x ∈ mD m g → x.2.Pairwise (fun a b => mT a b < 0) := by
  induction m with
  | zero => intro g h x hx;simp [mD] at hx;subst hx;exact h
  | succ m ih =>
    intro g h x hx;unfold mD at hx;split at hx
    · simp at hx;subst hx;exact h
    · rcases bY.1 hx with rfl | hx
      · exact kH _ _
      · exact ih (L5 _) x hx
theorem CO {n : Nat} : ∀ (m : Nat) {g : G}, G6 n g → g.2 ≠ [] → ((mD m g).flatMap fun x => (iD x).1).Perm (iD g).1
  | 0,g,h,hne => by simp [mD]
  | m + 1,g,h,hne => by
    unfold mD;split
    · simp
    · rename_i k hk;have hr := SV (k := k) hne;obtain ⟨v,hv,e⟩ := CF (iM hr);have ih := CO m (h.rest hk) hr;rw [bZ];have ofw := h.ws _ (iM hne);have ov := h.ws v hv;obtain ⟨_,_,hkl,hs⟩ := jF hk;have hgv := (hs v hv).1;refine (List.Perm.append_left _ ih).trans ?_;rw [e];show (gP (iD g) k :: (v.1.eraseIdx k)).Perm _;rw [← hgv];exact (iN v.1 k 0 (by rw [ov.pl];exact hkl)).trans (h.same _ _ hv (iM hne))
theorem pR {α β γ : Type} {F : β → List γ} {F' : α → List γ} {P : α → List β} : ∀ {l : List α}, (∀ g, g ∈ l → ((P g).flatMap F).Perm (F' g)) → ((l.flatMap P).flatMap F).Perm (l.flatMap F')
  | [],_ => .refl _
  | g :: l,h => by
    rw [bZ,fP,bZ];exact (h g bB).append (pR fun x hx => h x (aY _ hx))
theorem E5 {α β γ : Type} {F : β → List γ} {F' : α → List γ} {f : α → β} : ∀ {l : List α}, (∀ g, g ∈ l → (F (f g)).Perm (F' g)) → ((l.map f).flatMap F).Perm (l.flatMap F')
  | [],_ => .refl _
  | g :: l,h => by
    rw [List.map_cons,bZ,bZ];exact (h g bB).append (E5 fun x hx => h x (aY _ hx))
theorem MK : ∀ {l : List G}, (∀ g, g ∈ l → 0 ≤ jL g) → 0 ≤ tB l
  | [],_ => iI _
  | g :: l,h => by
    have := MK fun x hx => h x (aY _ hx);have := h g bB;show 0 ≤ jL g + tB l;omega
theorem ML : ∀ {l : List G}, (∀ g, g ∈ l → 0 ≤ jL g) → ∀ {g : G}, g ∈ l → jL g ≤ tB l
  | x :: l,h,g,hg => by
    have h0 := MK fun x hx => h x (aY _ hx);have h1 := h x bB;show jL g ≤ jL x + tB l;rcases bY.1 hg with rfl | hg
    · omega
    · have := ML (fun x hx => h x (aY _ hx)) hg;omega
theorem NS {c : Cx} {L : List G} (h : oK c c.m L) (hm0 : 0 ≤ c.m) (hasc : ∀ g,g ∈ L → g.2.Pairwise fun a b => mT a b < 0) : oQ c (xH L) := by
  have hp := dJ cG (L.flatMap fun g => mD g.1.length g);have hmem : ∀ x,x ∈ xH L → ∃ g,g ∈ L ∧ x ∈ mD g.1.length g := fun x hx => nA.1 (hp.mem_iff.1 hx);have bod : ((xH L).flatMap (·.1)).Perm (L.flatMap (·.1)) := (hp.flatMap_right _).trans (pR fun g hg => vD _ (h.out.ok g hg));have idn : ((xH L).flatMap fun g => (iD g).1).Perm (L.flatMap fun g => (iD g).1) := (hp.flatMap_right _).trans (pR fun g hg => CO _ (h.out.ok g hg) (h.ne g hg));have wl : ∀ x,x ∈ xH L → x.2.length ≤ 1000 := fun x hx => by
    obtain ⟨g,hg,hx⟩ := hmem x hx;exact CN (by omega) (h.wl g hg) x hx
  refine ⟨⟨⟨fun x hx => ?_,bod.nodup_iff.2 h.out.nd,by rw [bod.length_eq];exact h.out.ln,fun x hx => by have := wl x hx;omega⟩,pX _,fun x hx => ?_,fun x hx => ?_,bod.trans h.cov,idn.trans h.idn,wl⟩,fun x hx => ?_,fun x hx => ?_⟩
  all_goals obtain ⟨g,hg,hx⟩ := hmem x hx
  · exact X3 _ (h.out.ok g hg) x hx
  · exact TB (h.ne g hg) x hx
  · exact TC hm0 (h.ml g hg) x hx
  · exact S7 _ (h.out.ok g hg) (aX _) x hx
  · exact NR (hasc g hg) x hx
theorem NV {c : Cx} {M : Int} {gs : List G} (h : oK c M gs) (hne : ∀ g,g ∈ paid c gs → g.2 ≠ []) : oK c c.m (paid c gs) := by
  have h0 : ∀ g,g ∈ gs → 0 ≤ jL g := fun g hg => (T7 (h.out.ok g hg) (h.ne g hg)).1;refine ⟨h.out.paid c,GV h.up,hne,fun g hg w hw => ?_,by rw [B2];exact h.cov,?_,fun g hg => ?_⟩
  · obtain ⟨x,hx,rfl⟩ := bL.1 hg;have := of_decide_eq_true (YM.1 hw).2;have := ML h0 hx;omega
  · refine List.Perm.trans (E5 (F' := fun g => (iD g).1) fun g hg => ?_) h.idn;have h1 := hne _ (bL.2 ⟨g,hg,rfl⟩);have h2 := iM h1;exact (h.out.ok g hg).same _ _ (YM.1 h2).1 (iM (h.ne g hg))
  · obtain ⟨x,hx,rfl⟩ := bL.1 hg;exact bX (BB _ _) (h.wl x hx)
theorem SE {c : Cx} {M : Int} {gs : List G} (h : oK c M gs) (hm0 : 0 ≤ c.m) (hasc : ∀ g,g ∈ gs → g.2.Pairwise fun a b => mT a b < 0) (hne : ∀ g,g ∈ J6 c gs → g.2 ≠ []) : oQ c (J6 c gs) := by
  refine NS (NV h fun g hg e => ?_) hm0 fun g hg => ?_
  · refine hne g ?_ e;refine (dJ cG _).mem_iff.2 (nA.2 ⟨g,hg,?_⟩);rw [NQ e];exact dS.2 rfl
  · obtain ⟨x,hx,rfl⟩ := bL.1 hg;exact (hasc x hx).sublist List.filter_sublist
theorem vA {n : Int} {s : Ev} (h : lR n s = true) (hn : n ≤ 1000000) : (0 ≤ s.a ∧ s.a < n) ∧ (s.k = 4 → s.a < s.b ∧ s.b < n) ∧ 0 ≤ s.n ∧ s.n ≤ 1099511627776 := by
  obtain ⟨k,a,b,m,ids⟩ := s;unfold lR at h;simp only [aP,decide_eq_true_eq] at h;obtain ⟨⟨⟨h1,h2⟩,h3⟩,h4⟩ := h;dsimp only;refine ⟨by omega,fun hk => ?_,?_⟩
  · subst hk;simp at h4;omega
  · by_cases k0 : k = 0
    · subst k0;simp at h4;omega
    · rw [if_neg k0] at h4;split at h4
      · simp at h4;omega
      · split at h4
        · simp at h4;omega
        · split at h4
          · simp at h4;omega
          · cases h4
theorem KB {gs all : List G} {a b : Int} (e : join gs a b = some all) (ha : ∃ g,g ∈ gs ∧ a ∈ g.1) : ∀ g,g ∈ all → g ∈ gs ∨ a ∈ g.1 := by
  intro g hg;obtain ⟨i,x,hi,hix,hax⟩ := jW ha;unfold join at e;dsimp only at e;split at e
  · cases e;exact .inl hg
  · split at e
    · cases e
    · cases e;rcases iG (List.mem_of_mem_eraseIdx hg) with hg | rfl
      · exact .inl hg
      · refine .inr ((lT _ _).mem_iff.2 (bQ.2 (.inl ?_)));rw [hi];unfold mP;rw [aC,show ((i : Int)).toNat = i from rfl,hix]
        exact hax
structure F8 (c : Cx) (M : Int) (all : List G) (s : Ev) : Prop where
  mid : oK c M all
  asc : ∀ g,g ∈ all → (g.2.Pairwise fun a b => mT a b < 0) ∨ s.a ∈ g.1
  a : 0 ≤ s.a ∧ s.a < c.bs.length
  b : s.k = 4 → ∃ g,g ∈ all ∧ s.a ∈ g.1 ∧ s.b ∈ g.1
  n0 : 0 ≤ s.n
  n1 : s.n ≤ 1099511627776
theorem F8.at {c : Cx} {M : Int} {all : List G} {s : Ev} (h : F8 c M all s) : ∃ (i : Nat) (g : G),mZ all s.a = (i : Int) ∧ all[i]? = some g ∧ g ∈ all ∧ mP all (mZ all s.a).toNat = g ∧ s.a ∈ g.1 ∧ (s.k = 4 → s.b ∈ g.1) := by
  obtain ⟨i,g,hi,hg,ha⟩ := jW (h.mid.find h.a);have hm := aJ hg;refine ⟨i,g,hi,hg,hm,?_,ha,fun hk => ?_⟩
  · rw [hi];unfold mP;rw [aC,show ((i : Int)).toNat = i from rfl,hg];rfl
  · obtain ⟨x,hx,h1,h2⟩ := h.b hk;rw [I3 h.mid.out.nd hm hx ha h1];exact h2
theorem F8.next {c : Cx} {M : Int} {all : List G} {s : Ev} (h : F8 c M all s) (hM : M ≤ 2200000) {i : Nat} {g : G} (hi : all[i]? = some g) (ha : s.a ∈ g.1) (hb : s.k = 4 → s.b ∈ g.1) (hne : iB (oW c s g) ≠ []) (hl : (iB (oW c s g)).length ≤ 1000) :
    oK c (M + 1) (all.set i (g.1,iB (oW c s g))) ∧ ∀ x,x ∈ all.set i (g.1,iB (oW c s g)) → x.2.Pairwise fun a b => mT a b < 0 := by
  have hg := aJ hi;refine ⟨SZ h.mid hi hne hl (by omega) fun w hw => CR h.mid hM hg h.n0 ha hb (vE hw),fun x hx => ?_⟩
  obtain ⟨A,B,e1,e2⟩ := rY (y := (g.1,iB (oW c s g))) hi;rw [e2] at hx;have nd := h.mid.out.nd;have hall : x = (g.1,iB (oW c s g)) ∨ x ∈ all ∧ s.a ∉ x.1 := by
    subst e1;simp only [fP,bZ] at nd;obtain ⟨_,n1,n2⟩ := gG.1 nd;obtain ⟨_,_,n3⟩ := gG.1 n1;simp only [bQ,bY] at hx ⊢;rcases hx with hx | hx | hx
    · exact .inr ⟨.inl hx,fun q => n2 _ (vO hx q) _ (bQ.2 (.inl ha)) rfl⟩
    · exact .inl hx
    · exact .inr ⟨.inr (.inr hx),fun q => n3 _ ha _ (vO hx q) rfl⟩
  rcases hall with rfl | ⟨h1,h2⟩
  · exact L5 _
  · exact (h.asc x h1).resolve_right h2
theorem HD {c : Cx} {M : Int} {l all : List G} {s : Ev} (h : F8 c M all s) (hM : M ≤ 2200000) (hm0 : 0 ≤ c.m) (hl : oQ c l) : oQ c (H0 c l all s).2 := by
  obtain ⟨i,g,hi,hg,hgm,hat,ha,hb⟩ := h.at;unfold H0;dsimp only;rw [hat];split
  · exact hl
  · rename_i hne;split
    · exact hl
    · rename_i hwl;split
      · exact hl
      · rename_i hany;obtain ⟨hm,hasc⟩ := h.next hM hg ha hb hne (by omega)
        rw [hi] at hany ⊢;refine SE hm hm0 hasc fun x hx e => hany (nD.2 ⟨x,hx,by rw [e];rfl⟩)
theorem R9 {c : Cx} {gs : List G} {s : Ev} (h : oQ c gs) (hn : c.bs.length ≤ 1000) (hm0 : 0 ≤ c.m) (hr : lR c.bs.length s = true) (hk : s.k ≠ 4) : F8 c c.m gs s := by
  obtain ⟨h1,h2,h3,h4⟩ := vA hr (by omega)
  exact ⟨h.mid,fun g hg => .inl (h.asc g hg),h1,fun q => absurd q hk,h3,h4⟩
theorem K3 {c : Cx} {gs all : List G} {s : Ev} (h : oQ c gs) (hn : c.bs.length ≤ 1000) (hm0 : 0 ≤ c.m) (hm1 : c.m ≤ 1048576) (hr : lR c.bs.length s = true) (hk : s.k = 4) (e : join gs s.a s.b = some all) : F8 c (2 * c.m) all s := by
  obtain ⟨h1,h2,h3,h4⟩ := vA hr (by omega)
  have h2 := h2 hk;obtain ⟨j1,j2⟩ := OK h.mid hm0 hm1 h1 ⟨by omega,by omega⟩ e
  exact ⟨j1,fun g hg => (KB e (h.mid.find h1) g hg).imp_left fun hg => h.asc g hg,h1,fun _ => j2,h3,h4⟩
theorem oK.n12 {c : Cx} {M : Int} {gs : List G} (h : oK c M gs) : c.bs.length ≤ 12 := by
  have := h.cov.length_eq;have := h.out.ln;simp at *;omega
theorem K2 {c : Cx} {gs : List G} {s : Ev} (h : oQ c gs) (hm0 : 0 ≤ c.m) (hm1 : c.m ≤ 1048576) : oQ c (qG c gs s).2 := by
  have hn := h.mid.n12;unfold qG;split
  · rename_i hr;split
    · rename_i hk;split
      · exact h
      · rename_i all e;exact HD (K3 h (by omega) hm0 hm1 hr hk e) (by omega) hm0 h
    · rename_i hk;exact HD (R9 h (by omega) hm0 hr hk) (by omega) hm0 h
  · exact h
def BT (c : Cx) (s : Ev) (g : G) (w : W) : List W :=
  (if (jN c w (g.1.idxOf s.a) s).2 then [(jN c w (g.1.idxOf s.a) s).1] else []) ++ (if s.k = 4 then [C6 w (g.1.idxOf s.a) (g.1.idxOf s.b)] else [])
def sG (c : Cx) (s : Ev) (g : G) (k : Nat) : List W := (g.2.take k).flatMap (BT c s g)
theorem JU (c : Cx) (s : Ev) (g : G) : sG c s g g.2.length = oW c s g := by unfold sG;rw [cO];rfl
theorem L9 {c : Cx} {s : Ev} {g : G} {k : Nat} (h : k < g.2.length) : sG c s g (k + 1) = sG c s g k ++ BT c s g g.2[k] := by
  unfold sG;rw [aO h,fP,bZ,VK,List.append_nil]
theorem JB {c : Cx} {s : Ev} {g : G} {w : W} : (BT c s g w).length ≤ 2 := by
  unfold BT;rw [aD];split <;> split <;> simp
theorem T2 {c : Cx} {s : Ev} {g : G} : ∀ {k : Nat}, k ≤ g.2.length → (sG c s g k).length ≤ 2 * k
  | 0,_ => by simp [sG]
  | k + 1,h => by
    rw [L9 (by omega),aD]
    have := T2 (c := c) (s := s) (g := g) (k := k) (by omega)
    have := JB (c := c) (s := s) (g := g) (w := g.2[k]'(by omega))
    omega
theorem W7 (l : List Int) : AB.rf (.arr (Go.Ab.ints l) 1) = true := by
  show (Go.Ab.ints l).all AV.rfL = true;rw [bA];intro e he;obtain ⟨x,_,rfl⟩ := bL.1 he;rfl
theorem MZ (l : List SP) : AB.rf (.arr (eO l) 2) = true := by
  show (eO l).all AV.rfL = true;rw [bA];intro e he;obtain ⟨x,_,rfl⟩ := bL.1 he;rfl
theorem SU (a : List Int) (b : List SP) : [AB.arr (Go.Ab.ints a) 1,.arr (eO b) 2].all AB.rf = true := by
  simp only [qS,W7,MZ,List.all_nil,Bool.and_self]
theorem BP {c : Cx} {n : Nat} {gs : List G} (h : mA n gs) : mA n (J6 c gs) := by
  have h := h.paid c;unfold J6;generalize paid c gs = L at *;have hp := dJ cG (L.flatMap fun g => mD g.1.length g);have hmem : ∀ x,x ∈ xH L → ∃ g,g ∈ L ∧ x ∈ mD g.1.length g := fun x hx => nA.1 (hp.mem_iff.1 hx);have bod : ((xH L).flatMap (·.1)).Perm (L.flatMap (·.1)) := (hp.flatMap_right _).trans (pR fun g hg => vD _ (h.ok g hg));refine ⟨fun x hx => ?_,bod.nodup_iff.2 h.nd,by rw [bod.length_eq];exact h.ln,fun x hx => ?_⟩
  all_goals obtain ⟨g,hg,hx⟩ := hmem x hx
  · exact X3 _ (h.ok g hg) x hx
  · exact CN (by omega) (h.ws g hg) x hx
abbrev yG (s : Ev) : List AV := [.i s.k,.i s.a,.i s.b,.i s.n,.rowE (Go.Ab.ints s.ids) 1]
end Go.Ld
namespace Go.Proofs.YtbialaoigijlgaaGreatDoor
open Go Go.Ab Go.Ld
attribute [local irreducible] VC AW bT aQ jI
set_option maxHeartbeats 4000000
theorem WR (g : G) : aQ Tryz.prog 44 [KQ g] [] (.b g.2.isEmpty) [] := by
  obtain ⟨bs,ws⟩ := g;cases ws with
  | nil =>
    refine bK T Tryz.func44 rfl rfl rfl rfl ?_
    (repeat' (first|refine wS ?_|refine wR ?_|(refine rg 0 (bS (cW rfl rfl) rfl (aV ?_)))|(refine rg 1 (iX T rfl (qW T rfl (vV (fC rfl rfl) (aV ?_)))))|refine nZ ?_));all_goals first | (exfalso;omega) | exact rQ
  | cons w ws =>
    have hl : (eW (w :: ws)).length ≠ 0 := by rw [eB];simp
    refine bK T Tryz.func44 rfl rfl rfl rfl ?_
    (repeat' (first|refine wS ?_|refine wR ?_|(refine rg 0 (bS (cW rfl rfl) rfl (aV ?_)))|(refine rg 1 (iX T rfl (qW T rfl (vV (fC rfl rfl) (aV ?_)))))|refine nZ ?_));all_goals first | (exfalso;omega) | exact rQ
noncomputable def ZG : Code := match Tryz.f8.body with
  | some (.seq _ (.seq _ (.seq _ (.seq _ c)))) => c
  | _ => .skip
noncomputable def zD4 : Code := match ZG with
  | .seq a _ => a
  | _ => .skip
noncomputable def zD5 : Code := match ZG with
  | .seq _ b => b
  | _ => .skip
theorem FC (c : Cx) (l all : List G) (s : Ev) {M : Int} (hc : D4 c) (h : F8 c M all s) (hM : M ≤ 2200000) (hids : s.ids.length ≤ 9223372036854775807) :
    AW Tryz.prog (Tryz.f8.ntmps,1) zD4 [(0,.ptr 0 0),(3,.pr (yG s) 0),(5,.sl 1 0 all.length 2)] [.cells (fQ c l),.arr (gZ all) 2] (CT (fun v h => AW Tryz.prog (Tryz.f8.ntmps,1) zD5 v h (NA T Tryz.f8.results.toList 1 (.i (H0 c l all s).1) [.cells (fQ c (H0 c l all s).2)])) (NA T Tryz.f8.results.toList 1 (.i (H0 c l all s).1) [.cells (fQ c (H0 c l all s).2)])) := by
  obtain ⟨i,g,hi,hg,hgm,hat,ha,hb⟩ := h.at;have hn12 := h.mid.n12;have hal : (gZ all).length = all.length := gY _;have hl12 : all.length ≤ 12 := bX h.mid.out.len h.mid.out.ln;have og := h.mid.out.ok g hgm;have hwl := h.mid.wl g hgm;have hln := og.ln;have hil := (aA.1 hg).1;have f1 := tT all s.a (by omega) (fun g hg => by have := (h.mid.out.ok g hg).ln;omega)
  have hvw : ∀ {x : AB} {r : Hp},mN (x :: .arr (gZ all) 2 :: r) (.sl 1 0 all.length 2) (.rowE (gZ all) 2) := fun {x r} => rW rfl hal.symm (sE (fun _ => rfl) _);have hix := rD g.1 s.a (by omega)
  have hxi : sJ g.1 s.a 0 = ((g.1.idxOf s.a : Nat) : Int) := by have := tI g.1 s.a 0 ha;simpa using this
  rw [hxi] at hix;rw [hi] at f1;have q1 := vJ (L := all) (j := (i : Int)) (i := i) hg rfl;unfold H0;dsimp only;rw [hat,hi,bR];obtain ⟨bs,ws⟩ := g;dsimp only at *;have hwsl : (eW ws).length = ws.length := eB _
  (repeat' (first|refine wS ?_|(refine rg 9 (mW rfl (fW T rfl (vV (aS T rfl rfl rfl rfl) (vV (by exact eI rfl rfl f1 (.cons hvw (.cons (.v _) .nil)) rfl rfl) ?_))));refine aV ?_)|(refine rg 10 (eG rfl (vV (by exact aL T rfl rfl rfl rfl rfl (by omega) (by omega)) ?_));refine fW T rfl (vV (by exact aS T rfl rfl (bI rfl q1) rfl) ?_);refine vV (by exact eH T rfl rfl rfl rfl) ?_;refine bS (bH T rfl) rfl (aR T rfl rfl rfl rfl rfl rfl (by decide) rfl ?_))|refine nZ ?_));all_goals try (exfalso;omega)
  refine tZ 2 1 3 rfl rfl (by decide) ?_
  (repeat' (first|refine wS ?_|refine wB ?_|(refine rg 11 (fW T rfl (vV (aS T rfl rfl rfl rfl) (fW T rfl (vV (aS T rfl rfl rfl rfl) (vV (kC (hix)) (aV ?_)))))))|(refine rg 12 (eG rfl (vV (by exact aL T rfl rfl rfl rfl rfl (by omega) (by omega)) ?_));refine fW T rfl (vV (by exact aS T rfl rfl (bI rfl q1) rfl) ?_);refine qW T rfl (mV ?_))|refine nZ ?_));all_goals try (exfalso;omega)
  refine cT (X := {k : Nat // k ≤ ws.length}) (fun k => [(0,.ptr 0 0),(3,.pr (yG s) 0),(5,.sl 1 0 all.length 2),(8,.i i),(9,.ptr 2 0),(10,.i (bs.idxOf s.a : Nat)),(63,.rowE (eW ws) 3),(64,.i (eW ws).length),(65,.i k.1)]) (fun k => [.cells (fQ c l),.arr (gZ all) 2,.cells [.rowE (ints bs) 1,.sl 3 0 (sG c s (bs,ws) k.1).length 3],.arr (eW (sG c s (bs,ws) k.1)) 3]) (fun k => ws.length - k.1) ⟨0,bW _⟩ ⟨[0,1,2,3],rfl,(by repeat first|exact trivial|refine ⟨rfl,?_⟩),⟨.inr rfl,.inr (aG rfl rfl (dX _)),.inr rfl,.inr rfl,trivial⟩,by decide,xA _⟩ ?_
  rintro ⟨k,hk⟩;dsimp only;by_cases hlt : k < ws.length
  · have hgk := nE hlt;have hst := L9 (c := c) (s := s) (g := (bs,ws)) (k := k) hlt;have hal2 := T2 (c := c) (s := s) (g := (bs,ws)) (k := k) hk;have ow := og.ws ws[k] (aK hlt);obtain ⟨hidx,_⟩ := Y6 ha;have hbw := QF c l ws[k] s hc ow rfl hidx (by show bs.length ≤ 1000;omega) hids ⟨h.n0,h.n1⟩
    obtain ⟨e1,e2⟩ := AI c ws[k] (bs.idxOf s.a) s;have hk4 : s.k = 4 → (jN c ws[k] (bs.idxOf s.a) s).2 = true := fun q => by unfold jN;rw [q];rfl
    have hex : s.k = 4 → ∃ j : Nat,sJ bs s.b 0 = (j : Int) ∧ j = bs.idxOf s.b ∧ j < bs.length := fun q => by
      obtain ⟨hj,_⟩ := Y6 (hb q);exact ⟨bs.idxOf s.b,by have := tI bs s.b 0 (hb q);simpa using this,rfl,hj⟩
    have hiy := rD bs s.b (by omega)
    unfold BT at hst;dsimp only at hst;have hpl := ow.pl;have hcl := ow.cl;have hal3 : (eW (sG c s (bs,ws) k)).length = (sG c s (bs,ws) k).length := eB _;generalize sG c s (bs,ws) k = acc at *;generalize hN : sG c s (bs,ws) (k + 1) = acc' at *;generalize bs.idxOf s.a = ia at *;generalize hw : ws[k] = w at *;generalize jN c w ia s = z at *;obtain ⟨⟨zp,zm,zc⟩,zb⟩ := z;dsimp only at e1 e2 hst hk4 hbw;subst e1;obtain ⟨wp,wm,wc⟩ := w;dsimp only at *;have hz1 : (ints wp).length = wp.length := cY _;have hz2 : (eO zc).length = zc.length := fU _
    (repeat' (first|refine wS ?_|refine wB ?_|refine wK ?_|(refine wC rfl ?_ ?_<;>(intro hb;(try simp only [nm] at hb);try (exfalso;omega)))|(refine rg 13 (vV (aN rfl rfl) ?_))|(refine rg 14 (vV (ix T rfl (by omega) (jE _) hgk) (lW T rfl (bS (bH T rfl) rfl (aR T rfl rfl rfl rfl rfl rfl (by decide) rfl ?_)))))|refine nZ ?_));all_goals try (exfalso;omega)
    refine fJ 12 (cs := wA (wp,wm,wc)) rfl rfl rfl ?_
    (repeat' (first|refine wS ?_|(refine rg 15 (mW rfl (lW T rfl (mW rfl (lW T rfl (bS (by exact fM rfl rfl hbw (.inl ⟨.cons (.ptr rfl (eR _ rfl)) (.cons (V7 _) (.cons (.v _) (.cons (.agg (eR _ rfl)) .nil))),SU _ _⟩)) rfl ?_)))));refine mW rfl (xW rfl (xW rfl (bS (bH T rfl) rfl (aR T rfl rfl rfl rfl rfl rfl (by decide) rfl (aV ?_))))))|refine nZ ?_));all_goals try (exfalso;omega)
    refine eM [(0, .ptr 0 0), (3, .pr (yG s) 0), (5, .sl 1 0 all.length 2), (8, .i i), (9, .ptr 2 0), (10, .i ia), (63, .rowE (eW ws) 3), (64, .i (eW ws).length), (65, .i k), (12, .pr (wA (wp, wm, wc)) 0), (13, .ptr 6 0), (14, .b zb)] [.cells (fQ c l), .arr (gZ all) 2, .cells [.rowE (ints bs) 1, .sl 3 0 acc.length 3], .arr (eW acc) 3, .arr (ints wp) 1, .arr (eO zc) 2, .cells [.sl 4 0 wp.length 1, .i zm, .sl 5 0 wc.length 2]]
      ⟨[0,1,2,3,5,6,7],rfl,(by repeat first|exact trivial|refine ⟨rfl,?_⟩),⟨.inr rfl,.inr (aG rfl rfl (dX _)),.inr rfl,.inr (aG rfl rfl (bD _)),.inr (aG rfl (cC _ (bO _)) (bO _)),.inr (aG rfl (cC _ (eY _)) (eY _)),.inr rfl,trivial⟩,by decide,xA _⟩ ?_
    refine lX 6 0 (es := ints wp) rfl rfl rfl hz1.symm (gI (bO _)) ?_;refine lX 6 2 (es := eO zc) rfl rfl rfl (by omega) (gI (eY _)) ?_
    refine fJ 13 (cs := wA (wp,zm,zc)) rfl rfl rfl ?_;refine eM [(0, .ptr 0 0), (3, .pr (yG s) 0), (5, .sl 1 0 all.length 2), (8, .i i), (9, .ptr 2 0), (10, .i ia), (63, .rowE (eW ws) 3), (64, .i (eW ws).length), (65, .i k), (12, .pr (wA (wp, wm, wc)) 0), (13, .pr (wA (wp, zm, zc)) 0), (14, .b zb)] [.cells (fQ c l), .arr (gZ all) 2, .cells [.rowE (ints bs) 1, .sl 3 0 acc.length 3], .arr (eW acc) 3]
      ⟨[0,1,2,3],rfl,(by repeat first|exact trivial|refine ⟨rfl,?_⟩),⟨.inr rfl,.inr (aG rfl rfl (dX _)),.inr rfl,.inr (aG rfl rfl (bD _)),trivial⟩,by decide,xA _⟩ ?_
    have hA1 : ∀ (l : List W) (w : W),eW (l ++ [w]) = eW l ++ [wA w] := fun l w => by rw [eW,cN];rfl
    by_cases k4 : s.k = 4
    · obtain rfl := hk4 k4;rw [if_pos rfl,if_pos k4] at hst;obtain ⟨j,hj1,hj2,hj3⟩ := hex k4;rw [hj1] at hiy;rw [← hj2] at hst;have hxc := XQ (wp,wm,wc) (i := ia) (k := j) ⟨by dsimp only;omega,by dsimp only;omega⟩ (by dsimp only;omega) (by dsimp only;omega) (by dsimp only;omega)
      generalize C6 (wp,wm,wc) ia j = u at *;obtain ⟨up,um,uc⟩ := u;have hW := hA1 acc (wp,zm,zc);have hW2 := hA1 (acc ++ [(wp,zm,zc)]) (up,um,uc);rw [bE,← hst] at hW2;have hacl : acc'.length = acc.length + 2 := by rw [hst];simp
      have hWl : (eW (acc ++ [(wp,zm,zc)])).length = acc.length + 1 := by rw [eB];simp
      have hidA := bD (acc ++ [(wp,zm,zc)]);generalize eW (acc ++ [(wp,zm,zc)]) = B at *;generalize eW acc = A at *
      (repeat' (first|refine wS ?_|refine wT ?_|(refine rg 16 (mV ?_))|(refine rg 17 (iX T rfl (lW T rfl (bS (by exact bC T rfl rfl (by decide) (by decide) rfl rfl rfl) rfl ?_)));refine fY T rfl rfl rfl rfl rfl rfl (by omega) (kE.whole rfl rfl) rfl (by simp;omega) (by simp;omega) rfl ?_;refine fW T rfl (aR T rfl rfl rfl rfl rfl rfl (by decide) rfl ?_))|refine nZ ?_));all_goals try (exfalso;omega)
      refine eM [(0, .ptr 0 0), (3, .pr (yG s) 0), (5, .sl 1 0 all.length 2), (8, .i i), (9, .ptr 2 0), (10, .i ia), (63, .rowE (eW ws) 3), (64, .i (eW ws).length), (65, .i k), (12, .pr (wA (wp, wm, wc)) 0)] [.cells (fQ c l), .arr (gZ all) 2, .cells [.rowE (ints bs) 1, .sl 3 0 (acc.length + 1) 3], .arr B 3]
        ⟨[0,1,2,5],rfl,(by repeat first|exact trivial|refine ⟨rfl,?_⟩),⟨.inr rfl,.inr (aG rfl rfl (dX _)),.inr rfl,.inr (aG rfl (by rw [hW];exact kJ hal3.symm) hidA),trivial⟩,by decide,xA _⟩ ?_
      (repeat' (first|refine wT ?_|(refine rg 18 (iX T rfl (vV (jZ rfl rfl k4) ?_)))|(refine pZ (id := 19) 128 [[],[0],[],[],[],[4],[],[6],rM 4 4,rM 2 7,rM 2 8,rN 11] (rM 87 12) [[],[],[87,88],[87,88,89],rM 87 4,rM 87 4,rM 87 6,rM 87 6,rM 87 4,[87,88],[87,88],[]] [(11,3)] cM rfl (by decide +kernel) (eT rfl rfl rfl rfl (by exact bV T rfl rfl rfl) ?_);refine eT rfl rfl rfl rfl (by exact aS T rfl rfl rfl rfl) ?_;refine eT rfl rfl rfl rfl (by exact aS T rfl rfl rfl rfl) ?_;refine eT rfl rfl rfl rfl (by exact bU rfl) ?_;refine eT rfl rfl rfl rfl (by exact bV T rfl rfl rfl) ?_;refine eT rfl rfl rfl rfl (by exact aS T rfl rfl rfl rfl) ?_;refine eT rfl rfl rfl rfl (by exact bV T rfl rfl rfl) ?_;refine eT rfl rfl rfl rfl (by exact aS T rfl rfl rfl rfl) ?_;refine eT rfl rfl rfl rfl (by exact kC (hiy)) ?_;refine eT rfl rfl rfl rfl (by exact kC (hxc)) ?_;refine F4 rfl rfl rfl rfl (by exact bC T rfl rfl (by decide) (by decide) rfl rfl rfl) rfl ?_;refine vP rfl rfl rfl rfl (aM rfl) (by exact qA T rfl rfl rfl rfl rfl rfl (by omega) (kE.whole rfl rfl) rfl (by simp;omega) (by simp;omega)) ?_;refine wV rfl rfl rfl (by exact rfl) ?_;refine fW T rfl (aR T rfl rfl rfl rfl rfl rfl (by decide) rfl ?_))|(refine rg 20 (vV (bF rfl rfl (by omega) (by omega)) (mV ?_)))|refine nZ ?_));all_goals try (exfalso;omega)
      exact ⟨⟨k + 1,hlt⟩,by dsimp only;omega,⟨[0,1,2,5],rfl,(by repeat first|exact trivial|refine ⟨rfl,?_⟩),⟨.inr rfl,.inr (aG rfl rfl (dX _)),.inr (by dsimp only;rw [hN,hacl];rfl),.inr (aG rfl (by dsimp only;rw [hN,hW2];exact kJ hWl.symm) (bD _)),trivial⟩,by decide,xA _⟩⟩
    · rw [if_neg k4,List.append_nil] at hst;cases zb with
      | true =>
        rw [if_pos rfl] at hst;have hW := hA1 acc (wp,zm,zc);rw [← hst] at hW;have hacl : acc'.length = acc.length + 1 := by rw [hst];simp
        generalize eW acc = A at *
        (repeat' (first|refine wS ?_|refine wK ?_|refine wT ?_|refine wU ?_|(refine rg 16 (mV ?_))|(refine rg 17 (iX T rfl (lW T rfl (bS (by exact bC T rfl rfl (by decide) (by decide) rfl rfl rfl) rfl ?_)));refine fY T rfl rfl rfl rfl rfl rfl (by omega) (kE.whole rfl rfl) rfl (by simp;omega) (by simp;omega) rfl ?_;refine fW T rfl (aR T rfl rfl rfl rfl rfl rfl (by decide) rfl ?_))|(refine rg 18 (iX T rfl (vV (fX rfl rfl (by omega)) ?_)))|(refine rg 20 (vV (bF rfl rfl (by omega) (by omega)) (mV ?_)))|refine nZ ?_));all_goals try (exfalso;omega)
        exact ⟨⟨k + 1,hlt⟩,by dsimp only;omega,⟨[0,1,2,5],rfl,(by repeat first|exact trivial|refine ⟨rfl,?_⟩),⟨.inr rfl,.inr (aG rfl rfl (dX _)),.inr (by dsimp only;rw [hN,hacl];rfl),.inr (aG rfl (by dsimp only;rw [hN,hW];exact kJ hal3.symm) (bD _)),trivial⟩,by decide,xA _⟩⟩
      | false =>
        rw [if_neg (by simp),List.append_nil] at hst
        subst hst
        (repeat' (first|refine wS ?_|refine wK ?_|refine wU ?_|(refine rg 16 (mV ?_))|(refine rg 18 (iX T rfl (vV (fX rfl rfl (by omega)) ?_)))|(refine rg 20 (vV (bF rfl rfl (by omega) (by omega)) (mV ?_)))|refine nZ ?_));all_goals try (exfalso;omega)
        exact ⟨⟨k + 1,hlt⟩,by dsimp only;omega,⟨[0,1,2,3],rfl,(by repeat first|exact trivial|refine ⟨rfl,?_⟩),⟨.inr rfl,.inr (aG rfl rfl (dX _)),.inr (by dsimp only;rw [hN];rfl),.inr (aG rfl (by dsimp only;rw [hN]) (bD _)),trivial⟩,by decide,xA _⟩⟩
  · obtain rfl : k = ws.length := by omega
    have hNA := JU c s (bs,ws);dsimp only at hNA;rw [hNA];have hnl := JQ (c := c) (s := s) (g := (bs,ws));dsimp only at hnl;have hno : ∀ w,w ∈ oW c s (bs,ws) → AR c.bs.length bs.length w := fun w hw => (CR h.mid hM hgm h.n0 ha hb hw).1;have hoc := T0 (oW c s (bs,ws)) (by omega) (fun w hw => ⟨by have := (hno w hw).pl;omega,by have := (hno w hw).cl;omega⟩)
    have hnx := h.next hM hg ha hb
    dsimp only at hnx;have hol := vG (oW c s (bs,ws));have hNl : (eW (oW c s (bs,ws))).length = (oW c s (bs,ws)).length := eB _;generalize oW c s (bs,ws) = nw at *
    (repeat' (first|refine wS ?_|refine wE ?_|(refine wC rfl ?_ ?_<;>(intro hb;(try simp only [nm] at hb);try (exfalso;omega)))|(refine rg 13 (vV (aN rfl rfl) ?_))|refine nZ ?_));all_goals try (exfalso;omega)
    refine lX 2 1 (es := eW nw) rfl rfl rfl hNl.symm (gI (bD _)) ?_;generalize iB nw = ow at *;have how : (eW ow).length = ow.length := eB _
    (repeat' (first|refine wS ?_|refine wB ?_|(refine rg 21 (iX T rfl (vV (kC (hoc)) (fW T rfl (aR T rfl rfl rfl rfl rfl rfl (by decide) rfl ?_)))))|refine nZ ?_));all_goals try (exfalso;omega)
    refine eM [(0,.ptr 0 0),(3,.pr (yG s) 0),(5,.sl 1 0 all.length 2),(8,.i i),(9,.ptr 2 0)] [.cells (fQ c l),.arr (gZ all) 2,.cells (gA (bs,ow))] ⟨[0,1,2],rfl,(by repeat first|exact trivial|refine ⟨rfl,?_⟩),⟨.inr rfl,.inr (aG rfl rfl (dX _)),.inr rfl,trivial⟩,by decide,xA _⟩ ?_
    by_cases h0 : ow = []
    · subst h0;rw [if_pos rfl]
      (repeat' (first|refine wS ?_|refine wR ?_|refine wT ?_|(refine rg 22 (iX T rfl (qW T rfl (vV (fC rfl rfl) (aV ?_)))))|(refine rg 23 (aV ?_))|refine nZ ?_));all_goals try (exfalso;omega)
      exact ⟨.inl rfl,[0],_,rfl,rfl,rfl,⟨.inr rfl,trivial⟩,by decide,xA _⟩
    · rw [if_neg h0];have hop := dZ.2 h0;by_cases h1 : 1000 < ow.length
      · rw [if_pos h1]
        (repeat' (first|refine wS ?_|refine wR ?_|(refine wC rfl ?_ ?_<;>(intro hb;(try simp only [nm] at hb);try (exfalso;omega)))|(refine rg 22 (iX T rfl (qW T rfl (vV (fC rfl rfl) (aV ?_)))))|(refine rg 24 (iX T rfl (qW T rfl (vV (gN rfl rfl) (aV ?_)))))|(refine rg 25 (aV ?_))|refine nZ ?_));all_goals try (exfalso;omega)
        exact ⟨.inl rfl,[0],_,rfl,rfl,rfl,⟨.inr rfl,trivial⟩,by decide,xA _⟩
      · rw [if_neg h1];obtain ⟨hm1,hasc⟩ := hnx h0 (by omega)
        have hty := SF c l (all.set i (bs,ow)) hm1.out hm1.up hm1.ne;have hset := zG (L := all) (j := (i : Int)) (i := i) (x := (bs,ow)) rfl;have hto := (BP hm1.out (c := c)).len;have hto2 := (BP hm1.out (c := c)).ln;have hcf := XF (l := J6 c (all.set i (bs,ow))) (F := 44) (caps := []) (p := fun g => g.2.isEmpty) (by omega) rfl (fun x hx => WR x)
        have hNl2 : all.length = (gZ (all.set i (bs,ow))).length := by rw [gY,fR]
        (repeat' (first|refine wS ?_|refine wK ?_|(refine wC rfl ?_ ?_<;>(intro hb;(try simp only [nm] at hb);try (exfalso;omega)))|(refine rg 22 (iX T rfl (qW T rfl (vV (fC rfl rfl) (aV ?_)))))|(refine rg 24 (iX T rfl (qW T rfl (vV (gN rfl rfl) (aV ?_)))))|(refine rg 26 (eG rfl (lW T rfl (vV (by exact aL T rfl rfl rfl rfl rfl (by omega) (by omega)) ?_)));refine aR T rfl rfl rfl rfl rfl rfl (by decide) (lJ rfl q1 rfl) ?_)|refine nZ ?_));all_goals try (exfalso;omega)
        generalize all.set i (bs,ow) = N at *;refine eM [(0,.ptr 0 0),(5,.sl 1 0 all.length 2)] [.cells (fQ c l),.arr (gZ N) 2] ⟨[0,1],rfl,(by repeat first|exact trivial|refine ⟨rfl,?_⟩),⟨.inr rfl,.inr (aG rfl hset (dX _)),trivial⟩,by decide,xA _⟩ ?_
        refine xY 5 (es := gZ N) rfl rfl hNl2 (gI (dX _)) ?_;generalize J6 c N = out at *
        (repeat' (first|refine wS ?_|(refine rg 27 (eG rfl (dW [0] rfl rfl (hty) rfl rfl (by decide) ⟨.inr rfl,trivial⟩ (by simp) rfl ?_));refine aV ?_)|refine nZ ?_));all_goals try (exfalso;omega)
        cases hany : out.any fun g => g.2.isEmpty with
        | true =>
          rw [hany] at hcf;rw [if_pos rfl]
          (repeat' (first|refine wS ?_|refine wR ?_|refine wT ?_|(refine rg 28 (mW rfl (vV (kC (hcf)) ?_)))|(refine rg 29 (aV ?_))|refine nZ ?_));all_goals try (exfalso;omega)
          exact ⟨.inl rfl,[0],_,rfl,rfl,rfl,⟨.inr rfl,trivial⟩,by decide,xA _⟩
        | false =>
          rw [hany] at hcf;rw [if_neg (by simp)]
          (repeat' (first|refine wS ?_|refine wK ?_|refine wR ?_|refine wU ?_|(refine rg 28 (mW rfl (vV (kC (hcf)) ?_)))|(refine rg 30 (eG rfl (nV ?_));refine fW T rfl (aR T rfl rfl rfl rfl rfl rfl (by decide) rfl ?_))|(refine rg 31 (aV ?_))|refine nZ ?_));all_goals try (exfalso;omega)
          exact ⟨.inl rfl,[0],_,rfl,rfl,rfl,⟨.inr rfl,trivial⟩,by decide,xA _⟩
theorem CB (c : Cx) (gs : List G) (s : Ev) (hc : D4 c) (h : oQ c gs) (hids : s.ids.length ≤ 9223372036854775807) :
    aQ Tryz.prog 8 [.ptr 0 0,zG3 s] [.cells (fQ c gs)] (.i (qG c gs s).1) [.cells (fQ c (qG c gs s).2)] := by
  have hn12 := h.mid.n12;obtain ⟨hm0,hm1,_⟩ := hc.s;have hgl : (gZ gs).length = gs.length := gY _;have hgl12 : gs.length ≤ 12 := bX h.mid.out.len h.mid.out.ln;have hbl : (gJ c.bs).length = c.bs.length := bN _;have hright := MY c.bs.length s.k s.a s.b s.n s.ids hids ⟨by omega,by omega⟩
  have hcl := DU gs (by omega)
  have hst := R9 (s := s) h (by omega) hm0
  have hjo := fun (hr : lR c.bs.length s = true) (hk : s.k = 4) (all : List G) => K3 (s := s) (all := all) h (by omega) hm0 hm1 hr hk
  unfold qG;generalize hv : lR c.bs.length s = v at *;rw [← hbl] at hright;cases v with
  | false =>
    rw [if_neg (by simp)]
    refine bK T Tryz.func8 rfl rfl rfl rfl ?_
    (repeat' (first|refine wS ?_|(refine rg 0 (bS (cW rfl rfl) rfl (aV ?_)))|refine nZ ?_));refine fJ 3 (cs := yG s) rfl rfl rfl ?_
    (repeat' (first|refine wS ?_|refine wR ?_|refine wT ?_|(refine cK (id := 1) 128 zL4 (rM 15 8) zL5 cM rfl (by decide +kernel) (dN rfl (dV rfl (by exact dR rfl rfl) ?_));refine dP T rfl (dO T rfl (dV rfl (fS T rfl rfl) (dO T rfl (dV rfl (kC (hright)) (dV rfl (fB rfl) (dE ?_)))))))|(refine rg 2 (aV ?_))|refine nZ ?_));all_goals try (exfalso;omega)
    exact ⟨.inl rfl,[0],_,rfl,rfl,rfl,⟨.inr rfl,trivial⟩,by decide,xA _⟩
  | true =>
    rw [if_pos rfl];by_cases k4 : s.k = 4
    · rw [if_pos k4];obtain ⟨r1,r2,_⟩ := vA hv (by omega)
      have r2 := r2 k4;have fa := h.mid.find r1;have fb := h.mid.find (b := s.b) ⟨by omega,by omega⟩
      cases hj : join gs s.a s.b with
      | none =>
        dsimp only;have hjc := TO gs s.a s.b h.mid.out fa fb hj;refine bK T Tryz.func8 rfl rfl rfl rfl ?_
        (repeat' (first|refine wS ?_|(refine rg 0 (bS (cW rfl rfl) rfl (aV ?_)))|refine nZ ?_));refine fJ 3 (cs := yG s) rfl rfl rfl ?_
        (repeat' (first|refine wS ?_|refine wK ?_|refine wU ?_|(refine cK (id := 1) 128 zL4 (rM 15 8) zL5 cM rfl (by decide +kernel) (dN rfl (dV rfl (by exact dR rfl rfl) ?_));refine dP T rfl (dO T rfl (dV rfl (fS T rfl rfl) (dO T rfl (dV rfl (kC (hright)) (dV rfl (fB rfl) (dE ?_)))))))|(refine rg 3 (mW rfl (nV ?_));refine iX T rfl (bS (by exact fM rfl rfl hcl (.inr ⟨rfl,rfl,by simp⟩)) rfl ?_);refine aV ?_)|refine nZ ?_));all_goals try (exfalso;omega)
        refine eM [(0,.ptr 0 0),(3,.pr (yG s) 0),(5,.sl 1 0 gs.length 2)] [.cells (fQ c gs),.arr (gZ gs) 2] ⟨[0,2],rfl,(by repeat first|exact trivial|refine ⟨rfl,?_⟩),⟨.inr rfl,.inr (aG rfl (cC _ (dX _)) (dX _)),trivial⟩,by decide,xA _⟩ ?_
        refine xY 5 (es := gZ gs) rfl rfl hgl.symm (gI (dX _)) ?_
        (repeat' (first|refine wS ?_|refine wR ?_|refine wT ?_|(refine rg 4 (iX T rfl (vV (jZ rfl rfl k4) ?_)))|(refine rg 5 (mW rfl (iX T rfl (iX T rfl (vV (kC (hjc)) (mW rfl (xW rfl (xW rfl (pG ?_)))))))))|(refine rg 6 (mW rfl (vV (fL rfl rfl) ?_)))|(refine rg 7 (mW rfl (aV ?_)))|refine nZ ?_));all_goals try (exfalso;omega)
        exact ⟨.inl rfl,[0],_,rfl,rfl,rfl,⟨.inr rfl,trivial⟩,by decide,xA _⟩
      | some all =>
        dsimp only;have hso := hjo rfl k4 all hj;refine bK T Tryz.func8 rfl rfl rfl rfl ?_
        (repeat' (first|refine wS ?_|(refine rg 0 (bS (cW rfl rfl) rfl (aV ?_)))|refine nZ ?_));refine fJ 3 (cs := yG s) rfl rfl rfl ?_
        (repeat' (first|refine wS ?_|refine wK ?_|refine wU ?_|(refine cK (id := 1) 128 zL4 (rM 15 8) zL5 cM rfl (by decide +kernel) (dN rfl (dV rfl (by exact dR rfl rfl) ?_));refine dP T rfl (dO T rfl (dV rfl (fS T rfl rfl) (dO T rfl (dV rfl (kC (hright)) (dV rfl (fB rfl) (dE ?_)))))))|(refine rg 3 (mW rfl (nV ?_));refine iX T rfl (bS (by exact fM rfl rfl hcl (.inr ⟨rfl,rfl,by simp⟩)) rfl ?_);refine aV ?_)|refine nZ ?_));all_goals try (exfalso;omega)
        refine eM [(0,.ptr 0 0),(3,.pr (yG s) 0),(5,.sl 1 0 gs.length 2)] [.cells (fQ c gs),.arr (gZ gs) 2] ⟨[0,2],rfl,(by repeat first|exact trivial|refine ⟨rfl,?_⟩),⟨.inr rfl,.inr (aG rfl (cC _ (dX _)) (dX _)),trivial⟩,by decide,xA _⟩ ?_
        by_cases hs : mZ gs s.a = mZ gs s.b
        · have hjc := TM gs s.a s.b h.mid.out fa fb hs;have : all = gs := by unfold join at hj;dsimp only at hj;rw [if_pos hs] at hj;exact (Option.some.inj hj).symm
          subst this
          (repeat' (first|refine wS ?_|refine wK ?_|refine wT ?_|refine wU ?_|(refine rg 4 (iX T rfl (vV (jZ rfl rfl k4) ?_)))|(refine rg 5 (mW rfl (iX T rfl (iX T rfl (dW [1] rfl rfl (hjc) rfl rfl (by decide) ⟨.inr (aG rfl rfl (dX _)),trivial⟩ (by simp) rfl ?_))));refine mW rfl (xW rfl (xW rfl (pG ?_))))|(refine rg 6 (mW rfl (vV (fL rfl rfl) ?_)))|(refine rg 8 (mW rfl (aV ?_)))|refine nZ ?_));all_goals try (exfalso;omega)
          refine eM [(0,.ptr 0 0),(3,.pr (yG s) 0),(5,.sl 1 0 all.length 2)] [.cells (fQ c all),.arr (gZ all) 2] ⟨[0,1],rfl,(by repeat first|exact trivial|refine ⟨rfl,?_⟩),⟨.inr rfl,.inr (aG rfl (cC _ (dX _)) (dX _)),trivial⟩,by decide,xA _⟩ ?_
          exact FC c all all s hc hso (by omega) hids
        · have hjc := TN gs s.a s.b h.mid.out fa fb hj hs;refine xY 5 (es := gZ gs) rfl rfl hgl.symm (gI (dX _)) ?_
          (repeat' (first|refine wS ?_|refine wK ?_|refine wT ?_|refine wU ?_|(refine rg 4 (iX T rfl (vV (jZ rfl rfl k4) ?_)))|(refine rg 5 (mW rfl (iX T rfl (iX T rfl (bS (by exact fM rfl rfl hjc (.inr ⟨rfl,rfl,by simp⟩)) rfl ?_))));refine mW rfl (xW rfl (xW rfl (pG ?_))))|(refine rg 6 (mW rfl (vV (fL rfl rfl) ?_)))|(refine rg 8 (mW rfl (aV ?_)))|refine nZ ?_));all_goals try (exfalso;omega)
          refine eM [(0,.ptr 0 0),(3,.pr (yG s) 0),(5,.sl 1 0 all.length 2)] [.cells (fQ c gs),.arr (gZ all) 2] ⟨[0,2],rfl,(by repeat first|exact trivial|refine ⟨rfl,?_⟩),⟨.inr rfl,.inr (aG rfl (cC _ (dX _)) (dX _)),trivial⟩,by decide,xA _⟩ ?_
          exact FC c gs all s hc hso (by omega) hids
    · rw [if_neg k4];refine bK T Tryz.func8 rfl rfl rfl rfl ?_
      (repeat' (first|refine wS ?_|(refine rg 0 (bS (cW rfl rfl) rfl (aV ?_)))|refine nZ ?_));refine fJ 3 (cs := yG s) rfl rfl rfl ?_
      (repeat' (first|refine wS ?_|refine wK ?_|refine wU ?_|(refine cK (id := 1) 128 zL4 (rM 15 8) zL5 cM rfl (by decide +kernel) (dN rfl (dV rfl (by exact dR rfl rfl) ?_));refine dP T rfl (dO T rfl (dV rfl (fS T rfl rfl) (dO T rfl (dV rfl (kC (hright)) (dV rfl (fB rfl) (dE ?_)))))))|(refine rg 3 (mW rfl (nV ?_));refine iX T rfl (bS (by exact fM rfl rfl hcl (.inr ⟨rfl,rfl,by simp⟩)) rfl ?_);refine aV ?_)|(refine rg 4 (iX T rfl (vV (fX rfl rfl (by omega)) ?_)))|refine nZ ?_));all_goals try (exfalso;omega)
      refine eM [(0,.ptr 0 0),(3,.pr (yG s) 0),(5,.sl 1 0 gs.length 2)] [.cells (fQ c gs),.arr (gZ gs) 2] ⟨[0,2],rfl,(by repeat first|exact trivial|refine ⟨rfl,?_⟩),⟨.inr rfl,.inr (aG rfl (cC _ (dX _)) (dX _)),trivial⟩,by decide,xA _⟩ ?_
      exact FC c gs gs s hc (hst rfl k4) (by omega) hids
end Go.Proofs.YtbialaoigijlgaaGreatDoor
namespace Go.Ld
open Go.Ab Go.Proofs.YtbialaoigijlgaaGreatDoor
def Q0 (c : Cx) (i : Nat) : G := ([(i : Int)],[([(i : Int)],0,[((c.bs.getD i (0,0,0)).2.1,(c.bs.getD i (0,0,0)).2.1 + 1)])])
theorem X9 (c : Cx) : rL c = (List.range c.bs.length).map (Q0 c) := rfl
theorem M8 {α β : Type} (f : α → β) : ∀ l : List α, (l.flatMap fun x => [f x]) = l.map f
  | [] => rfl
  | x :: l => by rw [bZ,M8 f l];rfl
theorem OD {c : Cx} (hc : D4 c) (hn : c.bs.length ≤ 12) (hm : 0 ≤ c.m) : oQ c (rL c) := by
  rw [X9];have hmem : ∀ g,g ∈ (List.range c.bs.length).map (Q0 c) → ∃ i,i < c.bs.length ∧ g = Q0 c i := fun g hg => by
    obtain ⟨i,hi,e⟩ := bL.1 hg;exact ⟨i,fF.1 hi,e.symm⟩
  have fl : (((List.range c.bs.length).map (Q0 c)).flatMap (·.1)) = nats (List.range c.bs.length) := by
    rw [P3];exact M8 _ _
  have fw : (((List.range c.bs.length).map (Q0 c)).flatMap fun g => (iD g).1) = nats (List.range c.bs.length) := by
    rw [P3];exact M8 _ _
  refine ⟨⟨⟨fun g hg => ?_,by rw [fl];exact Y0 _,by rw [fl];simpa using hn,fun g hg => ?_⟩,?_,fun g hg => ?_,fun g hg w hw => ?_,by rw [fl],by rw [fw],fun g hg => ?_⟩,fun g hg => ?_,fun g hg => ?_⟩
  · obtain ⟨i,hi,rfl⟩ := hmem g hg;have hb := hc.f.b i hi;have e : c.bs.getD i (0,0,0) = c.bs[i] := by rw [aC,aB hi];rfl
    unfold Q0;rw [e];generalize c.bs[i] = x at *;refine ⟨by simp,kH _ _,fun b hb => by obtain rfl := dS.1 hb;omega,by simp,fun w hw => ?_,fun w v hw hv => by obtain rfl := dS.1 hw;obtain rfl := dS.1 hv;exact .refl _⟩
    obtain rfl := dS.1 hw;refine ⟨rfl,rfl,fun b hb => by obtain rfl := dS.1 hb;omega,kH _ _,iI _,by dsimp only;omega,fun r hr => ?_⟩
    obtain rfl := dS.1 hr;unfold RF;dsimp only;omega
  · obtain ⟨i,hi,rfl⟩ := hmem g hg;show 1 ≤ 2000;omega
  · refine yK.2 ?_;rw [yC];show ((List.range c.bs.length).map fun i : Nat => ((i : Int))).Pairwise _;refine RQ.2 ((List.pairwise_lt_range).imp fun {a b} h => by omega)
  · obtain ⟨i,hi,rfl⟩ := hmem g hg;unfold Q0;simp
  · obtain ⟨i,hi,rfl⟩ := hmem g hg;obtain rfl := dS.1 hw;exact hm
  · obtain ⟨i,hi,rfl⟩ := hmem g hg;show 1 ≤ 1000;omega
  · obtain ⟨i,hi,rfl⟩ := hmem g hg;unfold gQ;rw [if_pos (.inl (by show 1 < 2;omega))]
  · obtain ⟨i,hi,rfl⟩ := hmem g hg;exact kH _ _
def qL (gs : List G) (b : Int) : Option (G × Nat) := match gs.findIdx? fun g => decide (b ∈ g.1) with
  | some i => some (mP gs i,(mP gs i).1.idxOf b)
  | none => none
theorem oZ {gs : List G} {b : Int} {g : G} {i : Nat} (h : qL gs b = some (g,i)) : ∃ k : Nat,mZ gs b = (k : Int) ∧ gs[k]? = some g ∧ b ∈ g.1 ∧ i = g.1.idxOf b := by
  unfold qL at h;cases hq : gs.findIdx? fun g => decide (b ∈ g.1) with
  | none => rw [hq] at h;cases h
  | some k =>
    rw [hq] at h;dsimp only at h;cases h;obtain ⟨hk,hb,_⟩ := List.findIdx?_eq_some_iff_getElem.1 hq;have e : mP gs k = gs[k] := by unfold mP;rw [aC,aB hk];rfl
    refine ⟨k,by unfold mZ;rw [hq],by rw [e];exact aB hk,by rw [e];simpa using hb,rfl⟩
theorem PA {gs : List G} {b : Int} (h : qL gs b = none) : mZ gs b = -1 := by
  unfold qL at h;cases hq : gs.findIdx? fun g => decide (b ∈ g.1) with
  | none => unfold mZ;rw [hq]
  | some k => rw [hq] at h;cases h
theorem XI {gs : List G} {b : Int} (h : ∃ g,g ∈ gs ∧ b ∈ g.1) : ∃ g,qL gs b = some (g,g.1.idxOf b) ∧ g ∈ gs ∧ b ∈ g.1 := by
  cases hq : qL gs b with
  | none =>
    obtain ⟨i,g,h1,_⟩ := jW h;have := PA hq;omega
  | some x =>
    obtain ⟨g,i⟩ := x;obtain ⟨k,_,h2,h3,rfl⟩ := oZ hq;exact ⟨g,rfl,aJ h2,h3⟩
end Go.Ld
namespace Go.Proofs.YtbialaoigijlgaaGreatDoor
open Go Go.Ab Go.Ld
attribute [local irreducible] VC AW bT aQ jI
set_option maxHeartbeats 4000000
theorem I5 (c : Cx) (gs : List G) (b : Int) (hl : gs.length ≤ 1000000) (hg : ∀ g,g ∈ gs → g.1.length ≤ 1000000) {g : G} {i : Nat} (h : qL gs b = some (g,i)) :
    aQ Tryz.prog 45 [.pr (fQ c gs) 0,.i b] [] (.tup [KQ g,.i i,.b true]) [] := by
  obtain ⟨k,h1,h2,h3,rfl⟩ := oZ h;have hf := tT gs b hl hg;rw [h1] at hf;have hgl : (gZ gs).length = gs.length := gY _;have hkl := (aA.1 h2).1;have q : (gZ gs)[((k : Int)).toNat]? = some (gA g) := by rw [bR,bJ,h2];rfl
  have hix := rD g.1 b (by have := hg g (aJ h2);omega)
  have hxi : sJ g.1 b 0 = ((g.1.idxOf b : Nat) : Int) := by have := tI g.1 b 0 h3;simpa using this
  rw [hxi] at hix;generalize g.1.idxOf b = ia at *;obtain ⟨bs,ws⟩ := g;dsimp only at *;refine bK T Tryz.func45 rfl rfl rfl rfl ?_
  (repeat' (first|refine wS ?_|refine wK ?_|refine wR ?_|refine wU ?_|(refine rg 0 (bS (bH T rfl) rfl (pG ?_)))|(refine rg 1 (mW rfl (nV ?_));refine iX T rfl (mW rfl (vV (kC (hf)) (aV ?_))))|(refine rg 2 (mW rfl (vV (aN rfl rfl) ?_)))|(refine lE (id := 4) 17 34 zL6 zL7 (rM 17 17) zL8 cM rfl (by decide +kernel) (by decide +kernel) ?_;(dsimp only [List.take,List.drop]);refine dN rfl (dV rfl (by exact dR rfl rfl) ?_);refine dP T rfl (dO T rfl (dN rfl (dV rfl (ix T rfl (by omega) (lL _) q) (dO T rfl (dN rfl (dV rfl (by exact dR rfl rfl) ?_))))));refine dP T rfl (dO T rfl (dN rfl (dV rfl (ix T rfl (by omega) (lL _) q) (dP T rfl (dO T rfl (dN rfl (dV rfl (kC (hix)) (dE ?_))))))));refine fT ?_;refine aR T rfl rfl rfl rfl rfl rfl (by decide) rfl (pG ?_))|refine nZ ?_));all_goals try (exfalso;omega)
  all_goals exact ⟨.inl rfl,[],_,rfl,rfl,rfl,trivial,by decide,jJ _⟩
end Go.Proofs.YtbialaoigijlgaaGreatDoor
