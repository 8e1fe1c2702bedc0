/-
  Texts of the logic and of the layer,in one module (part 7).
-/
import Derived.Test.YtmmkhmilpeodnaaGreatJ6
set_option linter.unusedVariables false
set_option linter.unusedSimpArgs false
set_option linter.unnecessarySimpa false
namespace Go.Ld
open Go.Ab Go.Proofs.YtmmkhmilpeodnaaGreat
def R0 (c : Cx) (i : Nat) : G := ([(i : Int)],[([(i : Int)],0,[((c.bs.getD i (0,0,0)).2.1,(c.bs.getD i (0,0,0)).2.1 + 1)])])
theorem M4 (c : Cx) : qT c = (List.range c.bs.length).map (R0 c) := rfl
theorem S8 {α β : Type} (f : α → β) : ∀ l : List α, (l.flatMap fun x => [f x]) = l.map f
  | [] => rfl
  | x :: l => by rw [bF,S8 f l];rfl
theorem ID {c : Cx} (hc : rK c) (hn : c.bs.length ≤ 12) (hm : 0 ≤ c.m) : mR c (qT c) := by
  rw [M4];have hmem : ∀ g,g ∈ (List.range c.bs.length).map (R0 c) → ∃ i,i < c.bs.length ∧ g = R0 c i := fun g hg => by
    obtain ⟨i,hi,e⟩ := bI.1 hg;exact ⟨i,eJ.1 hi,e.symm⟩
  have fl : (((List.range c.bs.length).map (R0 c)).flatMap (·.1)) = nats (List.range c.bs.length) := by
    rw [V3];exact S8 _ _
  have fw : (((List.range c.bs.length).map (R0 c)).flatMap fun g => (gV g).1) = nats (List.range c.bs.length) := by
    rw [V3];exact S8 _ _
  refine ⟨⟨⟨fun g hg => ?_,by rw [fl];exact xI _,by rw [fl];simpa using hn,fun g hg => ?_⟩,?_,fun g hg => ?_,fun g hg w hw => ?_,by rw [fl],by rw [fw],fun g hg => ?_⟩,fun g hg => ?_,fun g hg => ?_⟩
  · obtain ⟨i,hi,rfl⟩ := hmem g hg;have hb := hc.f.b i hi;have e : c.bs.getD i (0,0,0) = c.bs[i] := by rw [aC,aA hi];rfl
    unfold R0;rw [e];generalize c.bs[i] = x at *;refine ⟨by simp,kS _ _,fun b hb => by obtain rfl := bO.1 hb;omega,by simp,fun w hw => ?_,fun w v hw hv => by obtain rfl := bO.1 hw;obtain rfl := bO.1 hv;exact .refl _⟩
    obtain rfl := bO.1 hw;refine ⟨rfl,rfl,fun b hb => by obtain rfl := bO.1 hb;omega,kS _ _,fC _,by dsimp only;omega,fun r hr => ?_⟩
    obtain rfl := bO.1 hr;unfold GX;dsimp only;omega
  · obtain ⟨i,hi,rfl⟩ := hmem g hg;show 1 ≤ 2000;omega
  · refine zZ.2 ?_;rw [VD];show ((List.range c.bs.length).map fun i : Nat => ((i : Int))).Pairwise _;refine UZ.2 ((W4).imp fun {a b} h => by omega)
  · obtain ⟨i,hi,rfl⟩ := hmem g hg;unfold R0;simp
  · obtain ⟨i,hi,rfl⟩ := hmem g hg;obtain rfl := bO.1 hw;exact hm
  · obtain ⟨i,hi,rfl⟩ := hmem g hg;show 1 ≤ 1000;omega
  · obtain ⟨i,hi,rfl⟩ := hmem g hg;unfold gS;rw [if_pos (.inl (by show 1 < 2;omega))]
  · obtain ⟨i,hi,rfl⟩ := hmem g hg;exact kS _ _
def wH (gs : List G) (b : Int) : Option (G × Nat) := match gs.findIdx? fun g => decide (b ∈ g.1) with
  | some i => some (kO gs i,(kO gs i).1.idxOf b)
  | none => none
theorem tE {gs : List G} {b : Int} {g : G} {i : Nat} (h : wH gs b = some (g,i)) : ∃ k : Nat,nO gs b = (k : Int) ∧ gs[k]? = some g ∧ b ∈ g.1 ∧ i = g.1.idxOf b := by
  unfold wH at h;cases hq : gs.findIdx? fun g => decide (b ∈ g.1) with
  | none => rw [hq] at h;cases h
  | some k =>
    rw [hq] at h;dsimp only at h;cases h;obtain ⟨hk,hb,_⟩ := List.findIdx?_eq_some_iff_getElem.1 hq;have e : kO gs k = gs[k] := by unfold kO;rw [aC,aA hk];rfl
    refine ⟨k,by unfold nO;rw [hq],by rw [e];exact aA hk,by rw [e];simpa using hb,rfl⟩
theorem SJ {gs : List G} {b : Int} (h : wH gs b = none) : nO gs b = -1 := by
  unfold wH at h;cases hq : gs.findIdx? fun g => decide (b ∈ g.1) with
  | none => unfold nO;rw [hq]
  | some k => rw [hq] at h;cases h
theorem zC9 {gs : List G} {b : Int} (h : ∃ g,g ∈ gs ∧ b ∈ g.1) : ∃ g,wH gs b = some (g,g.1.idxOf b) ∧ g ∈ gs ∧ b ∈ g.1 := by
  cases hq : wH gs b with
  | none =>
    obtain ⟨i,g,h1,_⟩ := jM h;have := SJ hq;omega
  | some x =>
    obtain ⟨g,i⟩ := x;obtain ⟨k,_,h2,h3,rfl⟩ := tE hq;exact ⟨g,rfl,aL h2,h3⟩
end Go.Ld
namespace Go.Proofs.YtmmkhmilpeodnaaGreat
open Go Go.Ab Go.Ld
attribute [local irreducible] VC AW bX aT kT
set_option maxHeartbeats 4000000
theorem BW (c : Cx) (gs : List G) (b : Int) (hl : gs.length ≤ 1000000) (hg : ∀ g,g ∈ gs → g.1.length ≤ 1000000) {g : G} {i : Nat} (h : wH gs b = some (g,i)) :
    aT Tryz.prog 56 [.pr (gL c gs) 0,.i b] [] (.tup [OK g,.i i,.b true]) [] := by
  obtain ⟨k,h1,h2,h3,rfl⟩ := tE h;have hf := wL gs b hl hg;rw [h1] at hf;have hgl : (iW gs).length = gs.length := iV _;have hkl := (aB.1 h2).1;have q : (iW gs)[((k : Int)).toNat]? = some (gA g) := by rw [bQ,bP,h2];rfl
  have hix := uF g.1 b (by have := hg g (aL h2);omega)
  have hxi : uH g.1 b 0 = ((g.1.idxOf b : Nat) : Int) := by have := xN g.1 b 0 h3;simpa using this
  rw [hxi] at hix;generalize g.1.idxOf b = ia at *;obtain ⟨bs,ws⟩ := g;dsimp only at *;refine bT T Tryz.func56 rfl rfl rfl rfl ?_
  (repeat' (first|refine wS ?_|refine wK ?_|refine wR ?_|refine wU ?_|(refine rg 0 (bV (bN T rfl) rfl (rZ ?_)))|(refine rg 1 (mW rfl (nV ?_));refine iP T rfl (mW rfl (vV (kC (hf)) (aV ?_))))|(refine rg 2 (mW rfl (vV (aO rfl rfl) ?_)))|(refine rD (id := 4) 17 34 [[],[0],[0,1],[0,1,2],[],rN 5,rN 6,[],[7],[7,8],[7,8,9],[],rM 7 5,rM 7 6,rM 7 7,[],rM 7 9,rN 17,rN 18,rN 19] [[],[0],[0,1],[0,1,2],[],rN 5,rN 6,[],[7],[7,8],[7,8,9],[],rM 7 5,rM 7 6,rM 7 7,[],rM 7 9] (rM 17 17) [[],[],[],[],rM 17 4,[],[],rM 17 7,rM 17 7,rM 17 7,rM 17 7,rM 17 11,rM 17 7,rM 17 7,rM 17 7,rM 17 15,rM 17 7] dA rfl (by decide +kernel) (by decide +kernel) ?_;(dsimp only [List.take,List.drop]);refine dN rfl (dV rfl (by exact eI rfl rfl) ?_);refine dP T rfl (dO T rfl (dN rfl (dV rfl (ix T rfl (by omega) (oT _) q) (dO T rfl (dN rfl (dV rfl (by exact eI rfl rfl) ?_))))));refine dP T rfl (dO T rfl (dN rfl (dV rfl (ix T rfl (by omega) (oT _) q) (dP T rfl (dO T rfl (dN rfl (dV rfl (kC (hix)) (dE ?_))))))));refine gR ?_;refine aU T rfl rfl rfl rfl rfl rfl (by decide) rfl (rZ ?_))|refine nZ ?_));all_goals try (exfalso;omega)
  all_goals exact ⟨.inl rfl,[],_,rfl,rfl,rfl,trivial,by decide,lB _⟩
end Go.Proofs.YtmmkhmilpeodnaaGreat
namespace Go.Ld
open Go.Ab Go.Proofs.YtmmkhmilpeodnaaGreat
def zI (g : G) (i : Nat) : List Int := g.2.map fun w => gP w i
theorem NI {g : G} {i k : Nat} (h : k < g.2.length) : (zI g i).take (k + 1) = (zI g i).take k ++ [gP g.2[k] i] := by
  unfold zI;rw [← kG,← kG,aQ h,dH];rfl
end Go.Ld
namespace Go.Proofs.YtmmkhmilpeodnaaGreat
open Go Go.Ab Go.Ld
attribute [local irreducible] VC AW bX aT kT
set_option maxHeartbeats 4000000
theorem TX {G l : List Int} {m : Nat} (hg : G.length ≤ m) (hm : m < l.length) : (ints (G ++ l.drop G.length))[0 + (m : Int).toNat]? = some [AV.i l[m]] := by
  rw [Nat.zero_add,bQ,bP,aD hg,eA,show G.length + (m - G.length) = m by omega,aA hm];rfl
theorem WE {G l : List Int} {x : Int} (hg : G.length < l.length) : (ints (G ++ l.drop G.length)).set (0 + (G.length : Int).toNat) [AV.i x] = ints ((G ++ [x]) ++ l.drop (G ++ [x]).length) := by
  rw [Nat.zero_add,bQ,← zT,jY _ _ (aY _),eQ,aS hg,List.set_cons_zero];simp
theorem KF {G l : List Int} (hg : G.length ≤ l.length) : (ints (G ++ l.drop G.length)).length = l.length := by simp;omega
theorem OW {G l : List Int} : (ints (G ++ l.drop G.length)).take (0 + (G.length : Int).toNat) = ints G := by
  rw [Nat.zero_add,bQ,← kG,List.take_append_of_le_length (aY _),cD (aY _)]
def iS (l : List Int) : Nat → List Int
  | 0 => []
  | m + 1 => if 0 < m ∧ l.getD m 0 = l.getD (m - 1) 0 then iS l m else iS l m ++ [l.getD m 0]
def J9 (l : List Int) : List Int := iS l l.length
theorem T6 {l : List Int} {m : Nat} (h : 0 < m) (e : l.getD m 0 = l.getD (m - 1) 0) : iS l (m + 1) = iS l m := by
  unfold iS;rw [if_pos ⟨h,e⟩];cases m <;> rfl
theorem GB {l : List Int} {m : Nat} (e : l.getD m 0 ≠ l.getD (m - 1) 0) : iS l (m + 1) = iS l m ++ [l.getD m 0] := by
  unfold iS;rw [if_neg (fun q => e q.2)];cases m <;> rfl
theorem GA (l : List Int) : iS l 1 = [l.getD 0 0] := by
  unfold iS;rw [if_neg (fun q => Nat.lt_irrefl _ q.1)];rfl
theorem uI {l : List Int} {m : Nat} (h : m < l.length) : l.getD m 0 = l[m] := by rw [aC,aA h];rfl
theorem LH {G l : List Int} {m : Nat} {i : Nat} (hg : G.length ≤ m) (hm : m < l.length) (hi : i = m) : (ints (G ++ l.drop G.length))[i]? = some [AV.i (l.getD m 0)] := by
  have := TX hg hm;rw [Nat.zero_add,bQ] at this;rw [hi,this,uI hm]
theorem LJ {l : List Int} {m i : Nat} (hm : m < l.length) (hi : i = m) : (ints l)[i]? = some [AV.i (l.getD m 0)] := by
  rw [hi,lU hm,uI hm]
theorem NV (l : List Int) (hl : l.length ≤ 1000000) : aT Tryz.prog 58 [.sl 0 0 l.length 1] [.arr (ints l) 1] (.sl 0 0 (J9 l).length 1) [.arr (ints (J9 l)) 1] := by
  have hll : (ints l).length = l.length := by simp
  refine bT T Tryz.func58 rfl rfl rfl rfl ?_;by_cases h2 : l.length < 2
  · have hk : J9 l = l := by
      match l,h2 with
      | [],_ => rfl
      | [a],_ => exact GA _
      | _ :: _ :: _,h => exact absurd h (by simp)
    rw [hk]
    (repeat' (first|refine wS ?_|refine wR ?_|(refine wC rfl ?_ ?_<;>(intro hb;(try simp only [nm] at hb);try (exfalso;omega)))|(refine rg 0 (aV ?_))|(refine rg 1 (mW rfl (qW T rfl (vV (aO rfl rfl) ?_))))|(refine rg 2 (mW rfl (aV ?_)))|refine nZ ?_));all_goals first | (exfalso;omega) | exact ⟨.inl rfl,[0],_,rfl,rfl,rfl,⟨.inr (aE rfl rfl (bS _)),trivial⟩,by decide,BR⟩
  · (repeat' (first|refine wS ?_|refine wB ?_|refine wK ?_|(refine wC rfl (fun hb => ?_) (fun hb => ?_) <;> (((try simp only [nm] at hb);try (exfalso;omega))))|(refine rg 0 (aV ?_))|(refine rg 1 (mW rfl (qW T rfl (vV (aO rfl rfl) ?_))))|(refine rg 3 (aV ?_))|(refine nZ ?_)));all_goals try (exfalso;omega)
    refine dB (X := {k : Nat // 1 ≤ k ∧ k ≤ l.length ∧ iS l k = l.take k}) (fun k => [(0,.sl 0 0 l.length 1),(3,.i k.1)]) (fun _ => [.arr (ints l) 1]) (fun k => l.length - k.1) ⟨1,by omega,by omega,by rw [GA,uI (by omega),aQ (by omega)];rfl⟩ ⟨[0],rfl,by (repeat (first | exact trivial | refine ⟨rfl,?_⟩)),⟨.inr (aE rfl rfl (bS _)),trivial⟩,by decide,BR⟩ ?_
    rintro ⟨k,hk1,hk,hkc⟩;dsimp only;by_cases hlt : k < l.length
    · have e1 := LJ (i := 0 + (k : Int).toNat) hlt (by omega)
      have e2 := LJ (l := l) (m := k - 1) (i := 0 + ((k : Int) - 1).toNat) (by omega) (by omega)
      by_cases hd : l.getD k 0 = l.getD (k - 1) 0
      · have hc1 := T6 (l := l) hk1 hd;rw [hkc] at hc1;generalize l.getD k 0 = a at *;generalize l.getD (k - 1) 0 = b at *
        (repeat' (first|refine wS ?_|refine wB ?_|refine wK ?_|refine wT ?_|(refine wC rfl ?_ ?_<;>(intro hb;(try simp only [nm] at hb);try (exfalso;omega)))|(refine rg 4 (dS rfl (qW T rfl (vV (aO rfl rfl) ?_))))|(refine cM (id := 6) 61 zT4 (rM 16 10) zT5 dA rfl (by decide +kernel) (dN rfl (dN rfl (dV rfl (by exact aM T rfl rfl rfl rfl rfl (by omega) (by omega)) ?_)));refine dV rfl (by exact aX T rfl rfl (bJ rfl e1) rfl) ?_;refine dN rfl (dN rfl (dV rfl (cQ rfl rfl (by omega) (by omega)) (dV rfl (by exact aM T rfl rfl rfl rfl rfl (by omega) (by omega)) ?_)));refine dV rfl (by exact aX T rfl rfl (bJ rfl e2) rfl) ?_;refine dV rfl (kK rfl rfl (by omega)) (dE ?_))|(refine rg 7 (dS rfl (vV (by exact jX T rfl rfl rfl rfl rfl rfl (by omega) (by omega) (by omega)) ?_));refine aV ?_)|(refine rg 8 (aV ?_))|refine nZ ?_));all_goals try (exfalso;omega)
        have hl1 : (iS l (k + 1)).length = k := by rw [hc1];simp;omega
        refine dB (X := {j : Nat // 1 ≤ j ∧ k + j ≤ l.length ∧ (iS l (k + j)).length + 1 ≤ k + j}) (fun j => [(0,.sl 0 0 l.length 1),(3,.i (iS l (k + j.1)).length),(4,.sl 0 (0 + (k : Int).toNat) ((l.length : Int) - (k : Int)).toNat 1),(5,.i j.1)]) (fun j => [.arr (ints (iS l (k + j.1) ++ l.drop (iS l (k + j.1)).length)) 1]) (fun j => l.length - (k + j.1)) ⟨1,by omega,by omega,by omega⟩ ⟨[0],rfl,⟨rfl,by dsimp only;rw [hl1];rfl,rfl,rfl,trivial⟩,⟨.inr (aE rfl (by dsimp only;rw [hl1,hc1,bK]) (bS _)),trivial⟩,by decide,BR⟩ ?_
        clear e1 e2 hd hl1 hc1;rintro ⟨j,hj1,hj,hjc⟩;dsimp only;by_cases hjl : k + j < l.length
        · have e1 := LH (G := iS l (k + j)) (l := l) (m := k + j) (i := 0 + (k : Int).toNat + (j : Int).toNat) (by omega) hjl (by omega)
          have e2 := LH (G := iS l (k + j)) (l := l) (m := k + j - 1) (i := 0 + (k : Int).toNat + ((j : Int) - 1).toNat) (by omega) (by omega) (by omega)
          have e3 := TX (G := iS l (k + j)) (l := l) (aY _) (by omega)
          have hset := WE (G := iS l (k + j)) (l := l) (x := l.getD (k + j) 0) (by omega)
          have hal := KF (G := iS l (k + j)) (l := l) (by omega)
          have hdup := T6 (l := l) (m := k + j) (by omega)
          have hnew := GB (l := l) (m := k + j);have hnl : ∀ G : List Int,(G ++ [l.getD (k + j) 0]).length = G.length + 1 := fun G => by simp
          rw [show k + j + 1 = k + (j + 1) by omega] at hdup hnew
          generalize l.getD (k + j) 0 = a at *;generalize l.getD (k + j - 1) 0 = b at *;generalize l[(iS l (k + j)).length] = y at *;generalize iS l (k + j) = G at *;by_cases hd : a = b
          · have hdup := hdup hd;generalize hA : ints (G ++ l.drop G.length) = A at *
            (repeat' (first|refine wS ?_|refine wB ?_|refine wK ?_|refine wU ?_|(refine wC rfl ?_ ?_<;>(intro hb;(try simp only [nm] at hb);try (exfalso;omega)))|(refine rg 9 (dS rfl (qW T rfl (vV (aO rfl rfl) ?_))))|(refine cM (id := 11) 61 zT4 (rM 35 10) zT6 dA rfl (by decide +kernel) (dN rfl (dN rfl (dV rfl (by exact aM T rfl rfl rfl rfl rfl (by omega) (by omega)) ?_)));refine dV rfl (by exact aX T rfl rfl (bJ rfl e1) rfl) ?_;refine dN rfl (dN rfl (dV rfl (cQ rfl rfl (by omega) (by omega)) (dV rfl (by exact aM T rfl rfl rfl rfl rfl (by omega) (by omega)) ?_)));refine dV rfl (by exact aX T rfl rfl (bJ rfl e2) rfl) ?_;refine dV rfl (nW rfl rfl (by omega)) (dE ?_))|(refine iA 10 rfl rfl rfl (by omega) (by omega) ?_)|refine nZ ?_));all_goals try (exfalso;omega)
            all_goals exact ⟨⟨j + 1,by omega,by omega,by rw [hdup];omega⟩,by dsimp only;omega,[0],rfl,⟨rfl,by dsimp only;rw [hdup];rfl,rfl,rfl,trivial⟩,⟨.inr (aE rfl (by dsimp only;rw [hdup];exact hA.symm) (bS _)),trivial⟩,by decide,BR⟩
          · have hnew := hnew hd;have hgl := hnl G;generalize hA : ints (G ++ l.drop G.length) = A at *
            (repeat' (first|refine wS ?_|refine wB ?_|refine wK ?_|refine wT ?_|(refine wC rfl ?_ ?_<;>(intro hb;(try simp only [nm] at hb);try (exfalso;omega)))|(refine rg 9 (dS rfl (qW T rfl (vV (aO rfl rfl) ?_))))|(refine cM (id := 11) 61 zT4 (rM 35 10) zT6 dA rfl (by decide +kernel) (dN rfl (dN rfl (dV rfl (by exact aM T rfl rfl rfl rfl rfl (by omega) (by omega)) ?_)));refine dV rfl (by exact aX T rfl rfl (bJ rfl e1) rfl) ?_;refine dN rfl (dN rfl (dV rfl (cQ rfl rfl (by omega) (by omega)) (dV rfl (by exact aM T rfl rfl rfl rfl rfl (by omega) (by omega)) ?_)));refine dV rfl (by exact aX T rfl rfl (bJ rfl e2) rfl) ?_;refine dV rfl (rV rfl rfl (by omega)) (dE ?_))|(refine rg 12 (dS rfl (dS rfl (vV (by exact aM T rfl rfl rfl rfl rfl (by omega) (by omega)) ?_)));refine vV (by exact aX T rfl rfl (bJ rfl e1) rfl) ?_;refine vV (by exact aM T rfl rfl rfl rfl rfl (by omega) (by omega)) ?_;refine aU T rfl rfl rfl rfl rfl rfl (by decide) (mA rfl e3 rfl) ?_)|(refine iA 13 rfl rfl rfl (by omega) (by omega) ?_)|(refine iA 10 rfl rfl rfl (by omega) (by omega) ?_)|refine nZ ?_));all_goals try (exfalso;omega)
            all_goals exact ⟨⟨j + 1,by omega,by omega,by rw [hnew];omega⟩,by dsimp only;omega,[0],rfl,⟨rfl,by dsimp only;rw [hnew,hgl];rfl,rfl,rfl,trivial⟩,⟨.inr (aE rfl (by dsimp only;rw [hnew];exact hset) (bS _)),trivial⟩,by decide,BR⟩
        · have hkj : k + j = l.length := by omega
          have hcm : J9 l = iS l (k + j) := by rw [hkj];rfl
          have hal := KF (G := iS l (k + j)) (l := l) (by omega)
          have htk := OW (G := iS l (k + j)) (l := l);rw [hcm];generalize iS l (k + j) = G at *
          (repeat' (first|refine wS ?_|refine wR ?_|refine wE ?_|(refine wC rfl ?_ ?_<;>(intro hb;(try simp only [nm] at hb);try (exfalso;omega)))|(refine rg 9 (dS rfl (qW T rfl (vV (aO rfl rfl) ?_))))|(refine rg 14 (dS rfl (vV (by exact jX T rfl rfl rfl rfl rfl rfl (by omega) (by omega) (by omega)) ?_));refine OQ T rfl rfl rfl rfl rfl (by rw [hal];omega) ?_)|(refine rg 15 (dS rfl (vV (by exact jX T rfl rfl rfl rfl rfl rfl (by omega) (by omega) (by omega)) ?_));refine aV ?_)|refine nZ ?_));all_goals try (exfalso;omega)
          all_goals exact ⟨.inl rfl,[0],_,rfl,(by show AV.sl 0 0 ((G.length : Int) - 0).toNat 1 = AV.sl 0 0 G.length 1;rw [show ((G.length : Int) - 0).toNat = G.length by omega]),rfl,⟨.inr (aE rfl htk (bS _)),trivial⟩,by decide,BR⟩
      · have hnew := GB (l := l) hd;rw [hkc,uI hlt,← aQ hlt] at hnew;generalize l.getD k 0 = a at *;generalize l.getD (k - 1) 0 = b at *
        (repeat' (first|refine wS ?_|refine wB ?_|refine wK ?_|refine wU ?_|(refine wC rfl ?_ ?_<;>(intro hb;(try simp only [nm] at hb);try (exfalso;omega)))|(refine rg 4 (dS rfl (qW T rfl (vV (aO rfl rfl) ?_))))|(refine cM (id := 6) 61 zT4 (rM 16 10) zT5 dA rfl (by decide +kernel) (dN rfl (dN rfl (dV rfl (by exact aM T rfl rfl rfl rfl rfl (by omega) (by omega)) ?_)));refine dV rfl (by exact aX T rfl rfl (bJ rfl e1) rfl) ?_;refine dN rfl (dN rfl (dV rfl (cQ rfl rfl (by omega) (by omega)) (dV rfl (by exact aM T rfl rfl rfl rfl rfl (by omega) (by omega)) ?_)));refine dV rfl (by exact aX T rfl rfl (bJ rfl e2) rfl) ?_;refine dV rfl (gB rfl rfl (by omega)) (dE ?_))|(refine iA 5 rfl rfl rfl (by omega) (by omega) ?_)|refine nZ ?_));all_goals try (exfalso;omega)
        all_goals exact ⟨⟨k + 1,by omega,hlt,hnew⟩,by dsimp only;omega,[0],rfl,by (repeat (first | exact trivial | refine ⟨rfl,?_⟩)),⟨.inr (aE rfl rfl (bS _)),trivial⟩,by decide,BR⟩
    · obtain rfl : k = l.length := by omega
      have hcm : J9 l = l := by
        show iS l l.length = l;rw [hkc,dD]
      rw [hcm]
      (repeat' (first|refine wS ?_|refine wR ?_|refine wE ?_|(refine wC rfl ?_ ?_<;>(intro hb;(try simp only [nm] at hb);try (exfalso;omega)))|(refine rg 4 (dS rfl (qW T rfl (vV (aO rfl rfl) ?_))))|(refine rg 16 (mW rfl (aV ?_)))|refine nZ ?_));all_goals first | (exfalso;omega) | exact ⟨.inl rfl,[0],_,rfl,rfl,rfl,⟨.inr (aE rfl rfl (bS _)),trivial⟩,by decide,BR⟩
theorem GC (l : List Int) (x : Int) : ∀ m, m ≤ l.length → (x ∈ iS l m ↔ x ∈ l.take m)
  | 0,_ => by simp [iS]
  | m + 1,hm => by
    have ih := GC l x m (by omega)
    rw [aQ (by omega)]
    by_cases e : 0 < m ∧ l.getD m 0 = l.getD (m - 1) 0
    · rw [T6 e.1 e.2,ih,bB,bO];refine ⟨.inl,fun h => h.elim id fun h => ?_⟩
      have e2 := e.2;rw [uI (by omega),uI (by omega)] at e2
      rw [h,e2];exact List.mem_take_iff_getElem.2 ⟨m - 1,by omega,rfl⟩
    · have : iS l (m + 1) = iS l m ++ [l.getD m 0] := by
        unfold iS;rw [if_neg e];cases m <;> rfl
      rw [this,bB,bB,ih,uI (by omega)]
theorem oU (l : List Int) : ∀ m, (iS l m).length ≤ m
  | 0 => by simp [iS]
  | m + 1 => by
    have ih := oU l m;unfold iS;split
    · omega
    · simp;omega
abbrev kQ (g : G) (i : Nat) : List Int := J9 (iC (zI g i))
theorem BI (c : Cx) (gs : List G) (b : Int) (h : mR c gs) {g : G} {i : Nat} (hg : wH gs b = some (g,i)) :
    aT Tryz.prog 16 [.pr (gL c gs) 0,.i b] [] (.sl 0 0 (kQ g i).length 1) [.arr (ints (kQ g i)) 1] := by
  unfold kQ;obtain ⟨k0,h1,h2,h3,h4⟩ := tE hg;have hgm := aL h2;have og := h.mid.out.ok g hgm;have hwl := h.mid.wl g hgm;have hl12 : gs.length ≤ 12 := bY h.mid.out.len h.mid.out.ln;have hgr := BW c gs b (by omega) (fun x hx => by have := (h.mid.out.ok x hx).ln;omega) hg
  have hi : i < g.1.length := by rw [h4];exact fM h3
  have hln := og.ln;have hil : (zI g i).length = g.2.length := bC _;have htk : ∀ k (h : k < g.2.length),_ := fun k h => NI (g := g) (i := i) h;have hwg : ∀ k (h : k < g.2.length),(ints g.2[k].1)[((i : Int)).toNat]? = some [.i (gP g.2[k] i)] ∧ (ints g.2[k].1).length = g.1.length := fun k h => by
    have := (og.ws _ (aH h)).pl;exact ⟨lG 0 (by omega) rfl,by rw [cT];exact this⟩
  have hs1 := PM (zI g i) (by omega)
  have hsl := pE (zI g i);have hs2 := NV (iC (zI g i)) (by omega)
  rw [hsl] at hs2;obtain ⟨bs,ws⟩ := g;dsimp only at *;generalize zI (bs,ws) i = P at *;have hwsl : (fL ws).length = ws.length := eM _;refine bT T Tryz.func16 rfl rfl rfl rfl ?_
  (repeat' (first|refine wS ?_|(refine rg 0 (aV ?_))|(refine rg 1 (dS rfl (vV (kC (hgr)) (mW rfl (xW rfl (xW rfl (xW rfl (bV (bN T rfl) rfl (aU T rfl rfl rfl rfl rfl rfl (by decide) rfl (rZ ?_))))))))))|refine nZ ?_));all_goals try (exfalso;omega)
  refine fN 5 (cs := gA (bs,ws)) rfl rfl rfl ?_
  (repeat' (first|refine wS ?_|(refine rg 2 (vV (fF rfl) (tY 8 1 rfl (by decide) ?_)))|refine nZ ?_));all_goals try (exfalso;omega)
  (repeat' (first|refine wB ?_|(refine rg 3 (iP T rfl (qW T rfl (mV ?_))))|refine nZ ?_));all_goals try (exfalso;omega)
  refine dB (X := {k : Nat // k ≤ ws.length}) (fun k => [(6,.i i),(8,.sl 0 0 k.1 1),(19,.rowE (fL ws) 3),(20,.i (fL ws).length),(21,.i k.1)]) (fun k => [.arr (ints (P.take k.1)) 1]) (fun k => ws.length - k.1) ⟨0,cK _⟩ ⟨[1],rfl,(by repeat first|exact trivial|refine ⟨rfl,?_⟩),⟨.inr rfl,trivial⟩,by decide,lB _⟩ ?_
  rintro ⟨k,hk⟩;dsimp only;by_cases hlt : k < ws.length
  · have hgk := pZ hlt;obtain ⟨q1,q2⟩ := hwg k hlt;have q3 := htk k hlt;have q4 : (ints (P.take k)).length = k := by rw [cT,bD];omega
    have q5 : ints (P.take (k + 1)) = ints (P.take k) ++ [[.i (gP ws[k] i)]] := by rw [q3,G8]
    generalize ints (P.take k) = A at *;generalize gP ws[k] i = v at *;generalize ws[k] = w at *;obtain ⟨wp,wm,wc⟩ := w;dsimp only at *
    (repeat' (first|refine wS ?_|refine wB ?_|refine wK ?_|(refine wC rfl ?_ ?_<;>(intro hb;(try simp only [nm] at hb);try (exfalso;omega)))|(refine rg 4 (vV (aO rfl rfl) ?_))|(refine rg 5 (vV (ix T rfl (by omega) (kP _) hgk) (lW T rfl (bV (bN T rfl) rfl (aU T rfl rfl rfl rfl rfl rfl (by decide) rfl ?_)))))|(refine rg 6 (mW rfl (iP T rfl (mW rfl (vV (ix T rfl (by omega) (cN _) q1) (lW T rfl (bV (by exact bE T rfl rfl (by decide) (by decide) rfl rfl rfl) rfl ?_))))));refine hO T rfl rfl rfl rfl rfl rfl (by omega) (lD.whole rfl rfl) rfl (by simp;omega) (by simp;omega) rfl ?_;refine aV ?_)|(refine rg 7 (vV (bU rfl rfl (by omega) (by omega)) (mV ?_)))|refine nZ ?_));all_goals try (exfalso;omega)
    exact ⟨⟨k + 1,hlt⟩,by dsimp only;omega,⟨[3],rfl,(by repeat first|exact trivial|refine ⟨rfl,?_⟩),⟨.inr (aE rfl (by dsimp only;rw [q5];exact mZ q4.symm) (bS _)),trivial⟩,by decide,lB _⟩⟩
  · obtain rfl : k = ws.length := by omega
    rw [show P.take ws.length = P by rw [← hil,dD]]
    rw [← hil] at *
    (repeat' (first|refine wS ?_|refine wR ?_|refine wE ?_|(refine wC rfl ?_ ?_<;>(intro hb;(try simp only [nm] at hb);try (exfalso;omega)))|(refine rg 4 (vV (aO rfl rfl) ?_))|(refine rg 8 (mW rfl (fQ [0] rfl rfl (hs1) rfl rfl (by decide) ⟨.inr (aE rfl rfl (bS _)),trivial⟩ (by simp) rfl ?_)))|(refine rg 9 (mW rfl (fQ [0] rfl rfl (hs2) rfl rfl (by decide) ⟨.inr (aE rfl (cC _ (bS _)) (bS _)),trivial⟩ (by simp) rfl ?_));refine aV ?_)|refine nZ ?_));all_goals try (exfalso;omega)
    exact ⟨.inl rfl,[0],_,rfl,rfl,rfl,⟨.inr (aE rfl (cC _ (bS _)) (bS _)),trivial⟩,by decide,lB _⟩
end Go.Proofs.YtmmkhmilpeodnaaGreat
namespace Go.Ld
open Go.Ab Go.Proofs.YtmmkhmilpeodnaaGreat
def SD (a b : SP) : SP := (min a.1 b.1,max a.2 b.2)
def EL (g : G) (i k : Nat) : SP := (g.2.take k).foldl (fun r w => SD r (gC w i)) (gC (gV g) i)
def yA (g : G) (i : Nat) : SP := EL g i g.2.length
theorem Y4 {g : G} {i k : Nat} (h : k < g.2.length) : EL g i (k + 1) = SD (EL g i k) (gC g.2[k] i) := by
  unfold EL;rw [aQ h,VE];rfl
def ZP (l : List Int) : Int × Bool := if l.length = 1 then (l.getD 0 0,true) else (0,false)
def zH (c : Cx) (l : List Int) (r : SP) (lot : Int) : Int := if l.length = 0 ∨ l.any (fun id => decide ((c.bs.getD id.toNat (0,0,0)).1 ≠ lot)) = true then 0 else r.1
end Go.Ld
namespace Go.Proofs.YtmmkhmilpeodnaaGreat
open Go Go.Ab Go.Ld
attribute [local irreducible] VC AW bX aT kT
set_option maxHeartbeats 4000000
theorem R8 (c : Cx) (gs : List G) (b : Int) (h : mR c gs) {g : G} {i : Nat} (hg : wH gs b = some (g,i)) :
    aT Tryz.prog 27 [.pr (gL c gs) 0,.i b] [] (.sl 0 0 g.1.length 1) [.arr (ints g.1) 1] := by
  obtain ⟨k0,h1,h2,h3,h4⟩ := tE hg;have hl12 : gs.length ≤ 12 := bY h.mid.out.len h.mid.out.ln;have hln := (h.mid.out.ok g (aL h2)).ln;have hgr := BW c gs b (by omega) (fun x hx => by have := (h.mid.out.ok x hx).ln;omega) hg
  have hcl := CO g.1 (by omega)
  obtain ⟨bs,ws⟩ := g;dsimp only at *;refine bT T Tryz.func27 rfl rfl rfl rfl ?_
  (repeat' (first|refine wS ?_|refine wR ?_|(refine rg 0 (aV ?_))|(refine rg 1 (dS rfl (vV (kC (hgr)) (mW rfl (xW rfl (xW rfl (xW rfl (bV (bN T rfl) rfl (aU T rfl rfl rfl rfl rfl rfl (by decide) rfl (rZ ?_))))))))))|(refine rg 2 (iP T rfl (bV (by exact fZ rfl rfl hcl (.inr ⟨rfl,rfl,by simp⟩)) rfl ?_));refine aV ?_)|refine nZ ?_));all_goals try (exfalso;omega)
  exact ⟨.inl rfl,[1],_,rfl,rfl,rfl,⟨.inr (aE rfl (cC _ (bS _)) (bS _)),trivial⟩,by decide,lB _⟩
theorem zJ (c : Cx) (gs : List G) (b : Int) (h : mR c gs) {g : G} {i : Nat} (hg : wH gs b = some (g,i)) :
    aT Tryz.prog 13 [.pr (gL c gs) 0,.i b] [] (.tup [.i (ZP (kQ g i)).1,.b (ZP (kQ g i)).2]) [] := by
  have hp := BI c gs b h hg;generalize kQ g i = P at *;have hl : (ints P).length = P.length := cT _;unfold ZP;by_cases h1 : P.length = 1
  · rw [if_pos h1];have q := B9 (l := P) (j := (0 : Int)) (i := 0) 0 (by omega) rfl
    refine bT T Tryz.func13 rfl rfl rfl rfl ?_
    (repeat' (first|refine wS ?_|refine wK ?_|(refine wC rfl ?_ ?_<;>(intro hb;(try simp only [nm] at hb);try (exfalso;omega)))|(refine rg 0 (rZ ?_))|(refine rg 1 (dS rfl (bV (by exact fZ rfl rfl hp (.inr ⟨rfl,rfl,by simp⟩)) rfl ?_));refine aV ?_)|(refine rg 2 (mW rfl (qW T rfl (vV (fI rfl rfl) ?_))))|refine nZ ?_));all_goals try (exfalso;omega)
    refine fA [(6,.sl 0 0 P.length 1)] [.arr (ints P) 1] ⟨[0],rfl,(by repeat first|exact trivial|refine ⟨rfl,?_⟩),⟨.inr (aE rfl (cC _ (bS _)) (bS _)),trivial⟩,by decide,lB _⟩ ?_
    (repeat' (first|refine wR ?_|(refine rg 4 (mW rfl (vV (by exact aM T rfl rfl rfl rfl rfl (by omega) (by omega)) ?_));refine vV (by exact aX T rfl rfl (bJ rfl q) rfl) ?_;refine rZ ?_)|refine nZ ?_));all_goals try (exfalso;omega)
    all_goals exact ⟨.inl rfl,[],_,rfl,rfl,rfl,trivial,by decide,lB _⟩
  · rw [if_neg h1];refine bT T Tryz.func13 rfl rfl rfl rfl ?_
    (repeat' (first|refine wS ?_|refine wR ?_|(refine wC rfl ?_ ?_<;>(intro hb;(try simp only [nm] at hb);try (exfalso;omega)))|(refine rg 0 (rZ ?_))|(refine rg 1 (dS rfl (bV (by exact fZ rfl rfl hp (.inr ⟨rfl,rfl,by simp⟩)) rfl ?_));refine aV ?_)|(refine rg 2 (mW rfl (qW T rfl (vV (fI rfl rfl) ?_))))|(refine rg 3 (rZ ?_))|refine nZ ?_));all_goals try (exfalso;omega)
    all_goals exact rQ
theorem BG (c : Cx) (gs : List G) (b : Int) (h : mR c gs) {g : G} {i : Nat} (hg : wH gs b = some (g,i)) :
    aT Tryz.prog 18 [.pr (gL c gs) 0,.i b] [] (kE (yA g i).1 (yA g i).2) [] := by
  obtain ⟨k0,h1,h2,h3,h4⟩ := tE hg;have hgm := aL h2;have og := h.mid.out.ok g hgm;have hwl := h.mid.wl g hgm;have hne := h.mid.ne g hgm;have hl12 : gs.length ≤ 12 := bY h.mid.out.len h.mid.out.ln;have hgr := BW c gs b (by omega) (fun x hx => by have := (h.mid.out.ok x hx).ln;omega) hg
  have hi : i < g.1.length := by rw [h4];exact fM h3
  have hln := og.ln;have hwg : ∀ k (h : k < g.2.length),(eS g.2[k].2.2)[((i : Int)).toNat]? = some [.i (gC g.2[k] i).1,.i (gC g.2[k] i).2] ∧ (eS g.2[k].2.2).length = g.1.length := fun k h => by
    have := (og.ws _ (aH h)).cl;exact ⟨pN (by omega) rfl,by rw [fX];exact this⟩
  have hst : ∀ k (h : k < g.2.length),_ := fun k h => Y4 (g := g) (i := i) h;have h0 : 0 < g.2.length := eY.2 hne;have hf0 : EL g i 0 = gC g.2[0] i := by
    obtain ⟨bs,ws⟩ := g;cases ws with
    | nil => exact absurd rfl hne
    | cons w l => rfl
  unfold yA;obtain ⟨bs,ws⟩ := g;dsimp only at *;generalize EL (bs,ws) i = F at *;have hwsl : (fL ws).length = ws.length := eM _;have hg0 := pZ h0;obtain ⟨q1,q2⟩ := hwg 0 h0;rw [← hf0] at q1;refine bT T Tryz.func18 rfl rfl rfl rfl ?_
  (repeat' (first|refine wS ?_|(refine rg 0 (bV (bN T rfl) rfl ?_))|(refine rg 1 (dS rfl (vV (kC (hgr)) (mW rfl (xW rfl (xW rfl (xW rfl (bV (bN T rfl) rfl (aU T rfl rfl rfl rfl rfl rfl (by decide) rfl (rZ ?_))))))))))|refine nZ ?_));all_goals try (exfalso;omega)
  refine fN 5 (cs := gA (bs,ws)) rfl rfl rfl ?_;generalize hw0 : ws[0] = w0 at *;obtain ⟨wp0,wm0,wc0⟩ := w0;dsimp only at *
  (repeat' (first|refine wS ?_|refine wB ?_|refine wK ?_|refine wU ?_|(refine rg 2 (mW rfl (vV (eD rfl) ?_)))|(refine rg 4 (iP T rfl (vV (ix T rfl (by omega) (kP _) hg0) (iP T rfl (mW rfl (vV (ix T rfl (by omega) (iO _) q1) (lW T rfl (bV (bN T rfl) rfl (aU T rfl rfl rfl rfl rfl rfl (by decide) rfl ?_)))))))))|(refine rg 5 (iP T rfl (qW T rfl (mV ?_))))|refine nZ ?_));all_goals try (exfalso;omega)
  refine dB (X := {k : Nat // k ≤ ws.length}) (fun k => [(4,.ptr 0 0),(6,.i i),(8,.ptr 1 0),(30,.rowE (fL ws) 3),(31,.i (fL ws).length),(32,.i k.1)]) (fun k => [.cells [.i 0,.i 0],.cells [.i (F k.1).1,.i (F k.1).2]]) (fun k => ws.length - k.1) ⟨0,cK _⟩ ⟨[0,2],rfl,(by repeat first|exact trivial|refine ⟨rfl,?_⟩),⟨.inr rfl,.inr rfl,trivial⟩,by decide,lB _⟩ ?_
  rintro ⟨k,hk⟩;dsimp only;by_cases hlt : k < ws.length
  · have hgk := pZ hlt;obtain ⟨q1,q2⟩ := hwg k hlt;have q3 := hst k hlt;have hh := zC2 (F k).1 (F k).2 (gC ws[k] i).1 (gC ws[k] i).2;generalize hF1 : F (k + 1) = f1 at *;generalize F k = f at *;generalize gC ws[k] i = r at *;generalize ws[k] = w at *;obtain ⟨wp,wm,wc⟩ := w;dsimp only at *
    (repeat' (first|refine wS ?_|refine wB ?_|refine wK ?_|(refine wC rfl ?_ ?_<;>(intro hb;(try simp only [nm] at hb);try (exfalso;omega)))|(refine rg 6 (vV (aO rfl rfl) ?_))|(refine rg 7 (vV (ix T rfl (by omega) (kP _) hgk) (lW T rfl (bV (bN T rfl) rfl (aU T rfl rfl rfl rfl rfl rfl (by decide) rfl ?_)))))|(refine cM (id := 8) 45 [[],[],[1],[],[1,2,3],rM 1 4,rN 6] (rM 36 7) [[],[36],[36],[36,37,38],[36],[36],[]] dA rfl (by decide +kernel) (dO T rfl (dP T rfl (dO T rfl (dN rfl (dV rfl (ix T rfl (by omega) (iO _) q1) (dO T rfl (dV rfl (kC (hh)) (dE ?_))))))));refine aU T rfl rfl rfl rfl rfl rfl (by decide) rfl ?_)|(refine rg 9 (vV (bU rfl rfl (by omega) (by omega)) (mV ?_)))|refine nZ ?_));all_goals try (exfalso;omega)
    exact ⟨⟨k + 1,hlt⟩,by dsimp only;omega,⟨[0,1],rfl,(by repeat first|exact trivial|refine ⟨rfl,?_⟩),⟨.inr rfl,.inr (by dsimp only;rw [hF1,q3];rfl),trivial⟩,by decide,lB _⟩⟩
  · obtain rfl : k = ws.length := by omega
    (repeat' (first|refine wS ?_|refine wR ?_|refine wE ?_|(refine wC rfl ?_ ?_<;>(intro hb;(try simp only [nm] at hb);try (exfalso;omega)))|(refine rg 6 (vV (aO rfl rfl) ?_))|(refine rg 10 (lW T rfl (aU T rfl rfl rfl rfl rfl rfl (by decide) rfl ?_)))|refine nZ ?_));all_goals try (exfalso;omega)
    all_goals exact ⟨.inl rfl,[],_,rfl,rfl,rfl,trivial,by decide,lB _⟩
theorem zL3 : CF Tryz.prog 48 0 = some (3,0) := by kernel_rfl
theorem RO (c : Cx) (gs : List G) (lot id : Int) (h : 0 ≤ id ∧ id < c.bs.length) : aT Tryz.prog 62 [.i id,.pr [.pr (gL c gs) 0] 0,.pr [.i lot] 0] [] (.b (decide ((c.bs.getD id.toNat (0,0,0)).1 ≠ lot))) [] := by
  have hbx : c.bs[id.toNat]? = some (c.bs.getD id.toNat (0,0,0)) := by
    rw [aC,aA (by omega)];rfl
  have hbxl : (fS c.bs).length = c.bs.length := bC _;have qb : (fS c.bs)[id.toNat]? = some [.i (c.bs.getD id.toNat (0,0,0)).1,.i (c.bs.getD id.toNat (0,0,0)).2.1,.i (c.bs.getD id.toNat (0,0,0)).2.2] := by rw [bP,hbx];rfl
  generalize c.bs.getD id.toNat (0,0,0) = bx at *;obtain ⟨x1,x2,x3⟩ := bx;dsimp only at *;refine bT T Tryz.func62 rfl rfl rfl rfl ?_
  (repeat' (first|refine wS ?_|refine wR ?_|(refine rg 0 (aV ?_))|(refine cM (id := 1) 15 [[],[0],[0,1],[0,1,2],[],rN 5,rN 6,rN 7,[],rN 9] (rM 5 10) [[],[],[],[],rM 5 4,[],[],[],rM 5 8,[]] dA rfl (by decide +kernel) (dO T rfl (dV rfl (by exact eI rfl rfl) ?_));refine dP T rfl (dO T rfl (dN rfl (dV rfl (ix T rfl (by omega) (oL _) qb) (dP T rfl (dO T rfl (dO T rfl (dV rfl (fI rfl rfl) (dE ?_))))))));refine aV ?_)|refine nZ ?_));all_goals try (exfalso;omega)
  all_goals refine cY (.inl rfl) rfl (mD ?_)
  all_goals simp
theorem B6 (c : Cx) (gs : List G) (b lot : Int) (h : mR c gs) {g : G} {i : Nat} (hg : wH gs b = some (g,i)) (hr : ∀ x,x ∈ kQ g i → 0 ≤ x ∧ x < c.bs.length) (hpl : (kQ g i).length ≤ 1000000) :
    aT Tryz.prog 20 [.pr (gL c gs) 0,.i b,.i lot] [] (.i (zH c (kQ g i) (yA g i) lot)) [] := by
  have hp := BI c gs b h hg;have hrg := BG c gs b h hg;generalize kQ g i = P at *;generalize yA g i = r at *;obtain ⟨r1,r2⟩ := r;dsimp only at *;have hl : (ints P).length = P.length := cT _;have hc := SH (l := P) (F := 62) (caps := [.pr [.pr (gL c gs) 0] 0,.pr [.i lot] 0]) (p := fun id => decide ((c.bs.getD id.toNat (0,0,0)).1 ≠ lot)) hpl rfl (fun x hx => RO c gs lot x (hr x hx));unfold zH;by_cases h0 : P.length = 0
  · rw [if_pos (.inl h0)];refine bT T Tryz.func20 rfl rfl rfl rfl ?_
    (repeat' (first|refine wS ?_|(refine rg 0 (bV (cO rfl rfl) rfl (bV (cO rfl rfl) rfl (aV ?_))))|refine nZ ?_));refine fN 3 rfl rfl rfl ?_
    refine fN 5 rfl rfl rfl ?_
    (repeat' (first|refine wS ?_|(refine rg 1 (lW T rfl (mW rfl (bV (by exact fZ rfl rfl hp (.inr ⟨rfl,rfl,by simp⟩)) rfl ?_)));refine aV ?_)|refine nZ ?_));refine fA [(1,.i b),(3,.pr [.pr (gL c gs) 0] 0),(5,.pr [.i lot] 0),(7,.sl 0 0 P.length 1)] [.arr (ints P) 1] ⟨[2],rfl,(by repeat first|exact trivial|refine ⟨rfl,?_⟩),⟨.inr (aE rfl (cC _ (bS _)) (bS _)),trivial⟩,by decide,lB _⟩ ?_
    refine H7 7 (es := ints P) rfl rfl hl.symm (gX (bS _)) ?_
    (repeat' (first|refine wS ?_|refine wR ?_|refine wT ?_|(refine rg 2 (mW rfl (qW T rfl (vV (kK rfl rfl (by omega)) (mV ?_))));(iterate 3 refine gF ?_);refine pV ?_)|(refine rg 3 (aV ?_))|refine nZ ?_));all_goals try (exfalso;omega)
    all_goals exact rQ
  · cases ha : P.any fun id => decide ((c.bs.getD id.toNat (0,0,0)).1 ≠ lot) with
    | true =>
      rw [ha] at hc;rw [if_pos (.inr rfl)];refine bT T Tryz.func20 rfl rfl rfl rfl ?_
      (repeat' (first|refine wS ?_|(refine rg 0 (bV (cO rfl rfl) rfl (bV (cO rfl rfl) rfl (aV ?_))))|refine nZ ?_));refine fN 3 rfl rfl rfl ?_
      refine fN 5 rfl rfl rfl ?_
      (repeat' (first|refine wS ?_|(refine rg 1 (lW T rfl (mW rfl (bV (by exact fZ rfl rfl hp (.inr ⟨rfl,rfl,by simp⟩)) rfl ?_)));refine aV ?_)|refine nZ ?_));refine fA [(1,.i b),(3,.pr [.pr (gL c gs) 0] 0),(5,.pr [.i lot] 0),(7,.sl 0 0 P.length 1)] [.arr (ints P) 1] ⟨[2],rfl,(by repeat first|exact trivial|refine ⟨rfl,?_⟩),⟨.inr (aE rfl (cC _ (bS _)) (bS _)),trivial⟩,by decide,lB _⟩ ?_
      refine H7 7 (es := ints P) rfl rfl hl.symm (gX (bS _)) ?_
      (repeat' (first|refine wS ?_|refine wR ?_|refine wT ?_|(refine rg 2 (mW rfl (qW T rfl (vV (gB rfl rfl (by omega)) (mW rfl (yN rfl (yV (by exact jD rfl rfl) ?_))))));refine yV (kC (hc)) (pV ?_))|(refine rg 3 (aV ?_))|refine nZ ?_));all_goals try (exfalso;omega)
      all_goals exact rQ
    | false =>
      rw [ha] at hc;rw [if_neg (by rintro (q | q);exact h0 q;cases q)]
      refine bT T Tryz.func20 rfl rfl rfl rfl ?_
      (repeat' (first|refine wS ?_|(refine rg 0 (bV (cO rfl rfl) rfl (bV (cO rfl rfl) rfl (aV ?_))))|refine nZ ?_));refine fN 3 rfl rfl rfl ?_
      refine fN 5 rfl rfl rfl ?_
      (repeat' (first|refine wS ?_|(refine rg 1 (lW T rfl (mW rfl (bV (by exact fZ rfl rfl hp (.inr ⟨rfl,rfl,by simp⟩)) rfl ?_)));refine aV ?_)|refine nZ ?_));refine fA [(1,.i b),(3,.pr [.pr (gL c gs) 0] 0),(5,.pr [.i lot] 0),(7,.sl 0 0 P.length 1)] [.arr (ints P) 1] ⟨[2],rfl,(by repeat first|exact trivial|refine ⟨rfl,?_⟩),⟨.inr (aE rfl (cC _ (bS _)) (bS _)),trivial⟩,by decide,lB _⟩ ?_
      refine H7 7 (es := ints P) rfl rfl hl.symm (gX (bS _)) ?_
      (repeat' (first|refine wS ?_|refine wK ?_|refine wR ?_|refine wU ?_|(refine rg 2 (mW rfl (qW T rfl (vV (gB rfl rfl (by omega)) (mW rfl (yN rfl (yV (by exact jD rfl rfl) ?_))))));refine yV (kC (hc)) (pV ?_))|(refine rg 4 (lW T rfl (mW rfl (vV (kC (hrg)) (vV (by exact AD T rfl zL3 rfl rfl) ?_))));refine aV ?_)|refine nZ ?_));all_goals try (exfalso;omega)
      all_goals exact rQ
end Go.Proofs.YtmmkhmilpeodnaaGreat
namespace Go.Ld
open Go.Ab Go.Proofs.YtmmkhmilpeodnaaGreat
def zG (g : G) (p q : List Int) (w : W) (i : Nat) : Bool := decide (gP w i = p.getD (g.1.getD i 0).toNat 0) && rG (gC w i).1 (gC w i).2 (q.getD (p.getD (g.1.getD i 0).toNat 0).toNat 0)
def yB (g : G) (p q : List Int) (w : W) : Bool := (List.range g.1.length).all (zG g p q w)
theorem YF {g : G} {p q : List Int} {w : W} (h : ∀ i,i < g.1.length → zG g p q w i = true) : yB g p q w = true := bA.2 fun i hi => h i (eJ.1 hi)
theorem zD5 {g : G} {p q : List Int} {w : W} {i : Nat} (hi : i < g.1.length) (h : zG g p q w i = false) : yB g p q w = false := K6.2 ⟨i,eJ.2 hi,by rw [h];simp⟩
structure zK0 (n : Nat) (p q : List Int) : Prop where
  pl : p.length = n
  ql : q.length = n
  pr : ∀ i,i < n → 0 ≤ p.getD i 0 ∧ p.getD i 0 < n
end Go.Ld
namespace Go.Proofs.YtmmkhmilpeodnaaGreat
open Go Go.Ab Go.Ld
attribute [local irreducible] VC AW bX aT kT
set_option maxHeartbeats 4000000
theorem UJ {n : Nat} (g : G) (p q : List Int) (w : W) (hg : vK n g) (hw : V9 n g.1.length w) (hp : zK0 n p q) (hn : n ≤ 1000) :
    aT Tryz.prog 64 [.agg (wA w),.pr (gA g) 0,.pr [.rowE (ints p) 1] 0,.pr [.rowE (ints q) 1] 0] [] (.b (yB g p q w)) [] := by
  have hln := hg.ln;have hyes := YF (g := g) (p := p) (q := q) (w := w);have hno := fun (i : Nat) (hi : i < g.1.length) => zD5 (g := g) (p := p) (q := q) (w := w) hi;have hpp := hw.pl;have hcc := hw.cl;have hgi : ∀ i,i < g.1.length → 0 ≤ g.1.getD i 0 ∧ g.1.getD i 0 < n := fun i hi => by
    rw [aC,aA hi];exact hg.rg _ (aH hi)
  have hlp : (ints p).length = n := by rw [cT];exact hp.pl
  have hlq : (ints q).length = n := by rw [cT];exact hp.ql
  obtain ⟨bs,ws⟩ := g;obtain ⟨wp,wm,wc⟩ := w;dsimp only at *;have hlb : (ints bs).length = bs.length := cT _;have hl1 : (ints wp).length = bs.length := by rw [cT];exact hpp
  have hl2 : (eS wc).length = bs.length := by rw [fX];exact hcc
  generalize yB (bs,ws) p q (wp,wm,wc) = R at *;refine bT T Tryz.func64 rfl rfl rfl rfl ?_
  (repeat' (first|refine wS ?_|refine wB ?_|(refine rg 0 (bV (cO rfl rfl) rfl (aV ?_)))|(refine rg 1 (iP T rfl (qW T rfl (mV ?_))))|refine nZ ?_));all_goals try (exfalso;omega)
  refine fN 4 (cs := wA (wp,wm,wc)) rfl rfl rfl ?_;refine dB (X := {k : Nat // k ≤ bs.length ∧ ∀ i,i < k → zG (bs,ws) p q (wp,wm,wc) i = true}) (fun k => [(2,.pr [.rowE (ints p) 1] 0),(3,.pr [.rowE (ints q) 1] 0),(4,.pr (wA (wp,wm,wc)) 0),(9,.rowE (ints bs) 1),(10,.i (ints bs).length),(11,.i k.1)]) (fun _ => []) (fun k => bs.length - k.1) ⟨0,cK _,Q7⟩ (eL []) ?_;rintro ⟨k,hk,hall⟩;dsimp only;by_cases hlt : k < bs.length
  · obtain ⟨g1,g2⟩ := hgi k hlt;have qb := lG (l := bs) (j := (k : Int)) (i := k) 0 (by omega) rfl
    have qp := lG (l := wp) (j := (k : Int)) (i := k) 0 (by omega) rfl
    have qc := pN (l := wc) (j := (k : Int)) (i := k) (by omega) rfl
    have hok : zG (bs,ws) p q (wp,wm,wc) k = (decide (wp.getD k 0 = p.getD (bs.getD k 0).toNat 0) && rG (wc.getD k (0,0)).1 (wc.getD k (0,0)).2 (q.getD (p.getD (bs.getD k 0).toNat 0).toNat 0)) := rfl;have hn2 := hno k hlt;generalize bs.getD k 0 = b at *;obtain ⟨p1,p2⟩ := hp.pr b.toNat (by omega)
    have qp2 := lG (l := p) (j := b) (i := b.toNat) 0 (by have := hp.pl;omega) (by omega)
    generalize p.getD b.toNat 0 = x at *;have qq := lG (l := q) (j := x) (i := x.toNat) 0 (by have := hp.ql;omega) (by omega)
    generalize q.getD x.toNat 0 = y at *;generalize wp.getD k 0 = v at *;generalize wc.getD k (0,0) = r at *;obtain ⟨r1,r2⟩ := r;dsimp only at *;have hh := KB r1 r2 y;by_cases hv : v = x
    · rw [decide_eq_true hv,iG] at hok;generalize rG r1 r2 y = hb' at *;cases hb' with
      | true =>
        (repeat' (first|refine wS ?_|refine wB ?_|refine wK ?_|refine wU ?_|(refine wC rfl ?_ ?_<;>(intro hb;(try simp only [nm] at hb);try (exfalso;omega)))|(refine rg 2 (vV (aO rfl rfl) ?_))|(refine rg 3 (mW rfl (vV (ix T rfl (by omega) (cN _) qb) (lW T rfl (rZ ?_)))))|(refine cM (id := 4) 43 zT7 (rM 16 26) zT8 dA rfl (by decide +kernel) (dP T rfl (dO T rfl (dN rfl (dV rfl (ix T rfl (by omega) (cN _) qp) (dO T rfl (dO T rfl (dN rfl (dV rfl (ix T rfl (by omega) (cN _) qp2) (dL T ?_)))))))));refine dV rfl (fI rfl rfl) (dM ?_);refine pR rfl rfl rfl rfl ?_ ?_<;>(intro hb;rw [hb];(try simp only [nm] at hb);try (exfalso;omega))<;>(refine tF T ?_);(all_goals (refine tO T rfl (tN rfl (dT rfl (ix T rfl (by omega) (iO _) qc) (tO T rfl (tO T rfl (tO T rfl (tN rfl (dT rfl (ix T rfl (by omega) (cN _) qp2) (tO T rfl (dT rfl (ix T rfl (by omega) (cN _) qq) ?_)))))))));refine tO T rfl (dT rfl (kC (hh)) (dT rfl (eD rfl) (dV rfl (iB rfl rfl) (dE ?_)))))))|(refine rg 6 (vV (bU rfl rfl (by omega) (by omega)) (mV ?_)))|refine nZ ?_));all_goals try (exfalso;omega)
        exact ⟨⟨k + 1,hlt,fun i hi => by
          rcases gQ i k with h | h
          · exact hall i h
          · obtain rfl : i = k := by omega
            exact hok⟩,by dsimp only;omega,[],rfl,⟨rfl,rfl,rfl,rfl,rfl,rfl,trivial⟩,trivial,cX,lB _⟩
      | false =>
        have hR := hn2 hok;subst hR
        (repeat' (first|refine wS ?_|refine wB ?_|refine wK ?_|refine wR ?_|refine wT ?_|(refine wC rfl ?_ ?_<;>(intro hb;(try simp only [nm] at hb);try (exfalso;omega)))|(refine rg 2 (vV (aO rfl rfl) ?_))|(refine rg 3 (mW rfl (vV (ix T rfl (by omega) (cN _) qb) (lW T rfl (rZ ?_)))))|(refine cM (id := 4) 43 zT7 (rM 16 26) zT8 dA rfl (by decide +kernel) (dP T rfl (dO T rfl (dN rfl (dV rfl (ix T rfl (by omega) (cN _) qp) (dO T rfl (dO T rfl (dN rfl (dV rfl (ix T rfl (by omega) (cN _) qp2) (dL T ?_)))))))));refine dV rfl (fI rfl rfl) (dM ?_);refine pR rfl rfl rfl rfl ?_ ?_<;>(intro hb;rw [hb];(try simp only [nm] at hb);try (exfalso;omega))<;>(refine tF T ?_);(all_goals (refine tO T rfl (tN rfl (dT rfl (ix T rfl (by omega) (iO _) qc) (tO T rfl (tO T rfl (tO T rfl (tN rfl (dT rfl (ix T rfl (by omega) (cN _) qp2) (tO T rfl (dT rfl (ix T rfl (by omega) (cN _) qq) ?_)))))))));refine tO T rfl (dT rfl (kC (hh)) (dT rfl (eD rfl) (dV rfl (iB rfl rfl) (dE ?_)))))))|(refine rg 5 (aV ?_))|refine nZ ?_));all_goals try (exfalso;omega)
        all_goals exact rQ
    · rw [decide_eq_false hv,iU] at hok;have hR := hn2 hok;subst hR
      (repeat' (first|refine wS ?_|refine wB ?_|refine wK ?_|refine wR ?_|refine wT ?_|(refine wC rfl ?_ ?_<;>(intro hb;(try simp only [nm] at hb);try (exfalso;omega)))|(refine rg 2 (vV (aO rfl rfl) ?_))|(refine rg 3 (mW rfl (vV (ix T rfl (by omega) (cN _) qb) (lW T rfl (rZ ?_)))))|(refine cM (id := 4) 43 zT7 (rM 16 26) zT8 dA rfl (by decide +kernel) (dP T rfl (dO T rfl (dN rfl (dV rfl (ix T rfl (by omega) (cN _) qp) (dO T rfl (dO T rfl (dN rfl (dV rfl (ix T rfl (by omega) (cN _) qp2) (dL T ?_)))))))));refine dV rfl (fI rfl rfl) (dM ?_);refine pR rfl rfl rfl rfl ?_ ?_<;>(intro hb;rw [hb];(try simp only [nm] at hb);try (exfalso;omega))<;>(refine dG ?_);(all_goals (refine tG rfl (tG rfl (tG rfl (tG rfl (tG rfl (tG rfl (tG rfl (tG rfl (tG rfl (dG ?_)))))))));refine tG rfl (tG rfl (tG rfl (dV rfl (jQ rfl rfl) (dE ?_)))))))|(refine rg 5 (aV ?_))|refine nZ ?_));all_goals try (exfalso;omega)
      all_goals exact rQ
  · obtain rfl : k = bs.length := by omega
    have hR := hyes hall;subst hR
    (repeat' (first|refine wS ?_|refine wR ?_|refine wE ?_|(refine wC rfl ?_ ?_<;>(intro hb;(try simp only [nm] at hb);try (exfalso;omega)))|(refine rg 2 (vV (aO rfl rfl) ?_))|(refine rg 7 (aV ?_))|refine nZ ?_));all_goals try (exfalso;omega)
    all_goals exact rQ
end Go.Proofs.YtmmkhmilpeodnaaGreat
namespace Go.Ld
open Go.Ab Go.Proofs.YtmmkhmilpeodnaaGreat
def GJ (g : G) (p q : List Int) (m : Int) (w : W) : Int := if yB g p q w && (decide (m < 0) || decide (w.2.1 < m)) then w.2.1 else m
def tJ (g : G) (p q : List Int) (k : Nat) : Int := (g.2.take k).foldl (GJ g p q) (-1)
def mC (g : G) (p q : List Int) : Int := tJ g p q g.2.length
theorem zO {g : G} {p q : List Int} {k : Nat} (h : k < g.2.length) : tJ g p q (k + 1) = GJ g p q (tJ g p q k) g.2[k] := by
  unfold tJ;rw [aQ h,VE];rfl
theorem H6 {g : G} {p q : List Int} (h : ∀ w, w ∈ g.2 → 0 ≤ w.2.1 ∧ w.2.1 ≤ 4000000) : ∀ k, k ≤ g.2.length → -1 ≤ tJ g p q k ∧ tJ g p q k ≤ 4000000
  | 0,_ => by unfold tJ;simp
  | k + 1,hk => by
    have ih := H6 (p := p) (q := q) h k (by omega)
    have := h g.2[k] (aH _);rw [zO (by omega)]
    unfold GJ;split <;> omega
def zD (gs : List G) (p q : List Int) (k : Nat) : Int := ((gs.take k).map fun g => mC g p q).sum
theorem LY {gs : List G} {p q : List Int} {k : Nat} (h : k < gs.length) : zD gs p q (k + 1) = zD gs p q k + mC gs[k] p q := by
  unfold zD;rw [aQ h,dH,zF6];simp
def UM (c : Cx) (gs : List G) (p q : List Int) : Bool :=
  decide (p.length = c.bs.length) && decide (q.length = p.length) && Go.Pm.permB p && gs.all (fun g => decide (0 ≤ mC g p q)) && decide (zD gs p q gs.length ≤ c.m)
theorem QN {n : Nat} {p q : List Int} (h : Go.Pm.permB p = true) (hp : p.length = n) (hq : q.length = p.length) : zK0 n p q := by
  refine ⟨hp,by omega,fun i hi => ?_⟩
  have e : iC p = nats (List.range p.length) := of_decide_eq_true h;have hm : p.getD i 0 ∈ p := by rw [aC,aA (by omega)];exact aH _
  have := (Go.Pm.sorted_perm p).mem_iff.2 hm;rw [e,hp] at this;exact qU.1 this
end Go.Ld
namespace Go.Proofs.YtmmkhmilpeodnaaGreat
open Go Go.Ab Go.Ld Go.Pm
attribute [local irreducible] VC AW bX aT kT
set_option maxHeartbeats 4000000
theorem EU (p : List Int) (hl : p.length ≤ 17592186043904) : aT Tryz.prog 63 [.rowE (ints p) 1] [] (.b (permB p)) [] := by
  have h1 := zY p;have h2 := O4 p hl;have hlen : (ints (iC p)).length = p.length := by simp [pE]
  have hsl := pE p;have hB : permB p = decide (iC p = nats (List.range p.length)) := rfl;rw [hB];generalize iC p = B at *;have hrl : (nats (List.range p.length)).length = p.length := by simp
  refine bT T Tryz.func63 rfl rfl rfl rfl ?_
  (repeat' (first|refine wS ?_|refine wB ?_|(refine rg 0 (aV ?_))|(refine rg 1 (mW rfl (vV (by exact eV rfl rfl h1 rfl rfl rfl) ?_));refine vV (by exact eV rfl rfl h2 rfl rfl rfl) ?_;refine qW T rfl (mV ?_))|refine nZ ?_));refine dB (X := {i : Nat // i ≤ p.length ∧ B.take i = (nats (List.range p.length)).take i}) (fun i => [(7,.rowE (ints B) 1),(8,.i (ints B).length),(9,.i (i.1 : Int))]) (fun _ => []) (fun i => p.length - i.1) ⟨0,cK _,rfl⟩ (eL []) ?_
  rintro ⟨i,hi,hg⟩;dsimp only;by_cases hlt : i < p.length
  · have q1 := lG (l := B) (j := (i : Int)) (i := i) 0 (by omega) rfl
    have hx : B.getD i 0 = B[i]'(by omega) := by rw [aC,aA (by omega)];rfl
    by_cases e : (i : Int) = B.getD i 0
    · have hg2 : B.take (i + 1) = (nats (List.range p.length)).take (i + 1) := by
        rw [aQ (by omega),aQ (by omega),hg,← hx,← e]
        simp
      generalize B.getD i 0 = x at *
      (repeat' (first|refine wS ?_|refine wB ?_|refine wK ?_|refine wU ?_|(refine wC rfl ?_ ?_<;>(intro hb;(try simp only [nm] at hb);try (exfalso;omega)))|(refine rg 2 (vV (aO rfl rfl) ?_))|(refine rg 3 (mW rfl (vV (ix T rfl (by omega) (cN B) q1) (lW T rfl (rZ ?_)))))|(refine rg 4 (dS rfl (vV (nW rfl rfl (by omega)) ?_)))|(refine rg 6 (vV (bU rfl rfl (by omega) (by omega)) (mV ?_)))|refine nZ ?_));all_goals first | (exfalso;omega) | exact ⟨⟨i + 1,hlt,hg2⟩,by dsimp only;omega,eL []⟩
    · rw [show decide (B = nats (List.range p.length)) = false from decide_eq_false (fun h => e (by rw [hx];simp [h]))]
      generalize B.getD i 0 = x at *
      (repeat' (first|refine wS ?_|refine wB ?_|refine wK ?_|refine wR ?_|refine wT ?_|(refine wC rfl ?_ ?_<;>(intro hb;(try simp only [nm] at hb);try (exfalso;omega)))|(refine rg 2 (vV (aO rfl rfl) ?_))|(refine rg 3 (mW rfl (vV (ix T rfl (by omega) (cN B) q1) (lW T rfl (rZ ?_)))))|(refine rg 4 (dS rfl (vV (rV rfl rfl (by omega)) ?_)))|(refine rg 5 (aV ?_))|refine nZ ?_));all_goals first | (exfalso;omega) | exact rQ
  · rw [cD (by omega),cD (by omega)] at hg
    rw [show decide (B = nats (List.range p.length)) = true from decide_eq_true hg]
    (repeat' (first|refine wS ?_|refine wR ?_|refine wE ?_|(refine wC rfl ?_ ?_<;>(intro hb;(try simp only [nm] at hb);try (exfalso;omega)))|(refine rg 2 (vV (aO rfl rfl) ?_))|(refine rg 7 (aV ?_))|refine nZ ?_));all_goals first | (exfalso;omega) | exact rQ
theorem XO (n : Int) (h : n ≤ 17592186043904) : aT Tryz.prog 24 [.i n] [] (.sl 0 0 n.toNat 1) [.arr (ints (nats (List.range n.toNat))) 1] := by
  refine bT T Tryz.func24 rfl rfl rfl rfl ?_
  (repeat' (first|refine wS ?_|refine wB ?_|(refine rg 0 (aV ?_))|(refine rg 1 (aV ?_))|(refine rg 2 (mW rfl (vV (wJ rfl rfl) (mV ?_))))|refine nZ ?_));refine zF0 3 1 rfl (by decide) ?_
  refine dB (X := {i : Nat // i ≤ n.toNat}) (fun i => [(3,.sl 0 0 i.1 1),(6,.i (max n 0)),(7,.i (i.1 : Int))]) (fun i => [.arr (ints (nats (List.range i.1))) 1]) (fun i => n.toNat - i.1) ⟨0,cK _⟩ ⟨[0],rfl,⟨rfl,rfl,rfl,trivial⟩,⟨.inr rfl,trivial⟩,by decide,Q7⟩ ?_
  rintro ⟨i,hi⟩;dsimp only;have hl : (ints (nats (List.range i))).length = i := by simp
  by_cases hlt : i < n.toNat
  · have hs : ints (nats (List.range i)) ++ [[AV.i (i : Int)]] = ints (nats (List.range (i + 1))) := by rw [List.range_succ,MW]
    (repeat' (first|refine wS ?_|refine wB ?_|refine wK ?_|(refine wC rfl ?_ ?_<;>(intro hb;(try simp only [nm] at hb);try (exfalso;omega)))|(refine rg 3 (vV (aO rfl rfl) ?_))|(refine rg 4 (mW rfl (aV ?_)))|(refine rg 5 (dS rfl (bV (by exact bE T rfl rfl (by decide) (by decide) rfl rfl rfl) rfl ?_));refine hO T rfl rfl rfl rfl rfl rfl (by simp) (lD.whole rfl rfl) rfl (by simp;omega) (by simp;omega) rfl ?_;refine aV ?_)|(refine rg 6 (vV (bU rfl rfl (by omega) (by omega)) (mV ?_)))|refine nZ ?_));all_goals first | (exfalso;omega) | skip
    exact ⟨⟨i + 1,hlt⟩,by dsimp only;omega,[2],rfl,⟨rfl,rfl,rfl,trivial⟩,⟨.inr (aE rfl ((mZ hl.symm).trans hs) (bS _)),trivial⟩,by decide,Q7⟩
  · obtain rfl : i = n.toNat := by omega
    (repeat' (first|refine wS ?_|refine wR ?_|refine wE ?_|(refine wC rfl ?_ ?_<;>(intro hb;(try simp only [nm] at hb);try (exfalso;omega)))|(refine rg 3 (vV (aO rfl rfl) ?_))|(refine rg 7 (mW rfl (aV ?_)))|refine nZ ?_));all_goals first | (exfalso;omega) | exact ⟨.inl rfl,[0],_,rfl,rfl,rfl,⟨.inr (aE rfl rfl (bS _)),trivial⟩,by decide,Q7⟩
theorem AQ (c : Cx) (gs : List G) (p q : List Int) (h : mR c gs) (hm : c.m ≤ 1048576) (hpl : p.length ≤ 17592186043904) (hql : q.length ≤ 17592186043904) :
    aT Tryz.prog 22 [.pr (gL c gs) 0,.rowE (ints p) 1,.rowE (ints q) 1] [] (.b (UM c gs p q)) [] := by
  have hn12 := h.mid.n12;have hl12 : gs.length ≤ 12 := bY h.mid.out.len h.mid.out.ln;have hbl : (fS c.bs).length = c.bs.length := bC _;have hlp : (ints p).length = p.length := cT _;have hlq : (ints q).length = q.length := cT _;have hgl : (iW gs).length = gs.length := iV _;have hpr := EU p hpl;have hpq := fun hB h1 h2 => QN (n := c.bs.length) (p := p) (q := q) hB h1 h2;have hbst : ∀ g,g ∈ gs → -1 ≤ mC g p q ∧ mC g p q ≤ 4000000 := fun g hg => H6 (fun w hw => ⟨((h.mid.out.ok g hg).ws w hw).m0,((h.mid.out.ok g hg).ws w hw).m1⟩) _ (aY _);unfold UM;generalize hB : permB p = pb at *;by_cases h1 : p.length = c.bs.length
  · rw [decide_eq_true h1,iG];by_cases h2 : q.length = p.length
    · rw [decide_eq_true h2,iG];cases pb with
      | false =>
        rw [iU,iU];refine bT T Tryz.func22 rfl rfl rfl rfl ?_
        (repeat' (first|refine wS ?_|(refine rg 0 (bV (cO rfl rfl) rfl (bV (cO rfl rfl) rfl (aV ?_))))|refine nZ ?_));refine fN 4 rfl rfl rfl ?_
        refine fN 5 rfl rfl rfl ?_
        (repeat' (first|refine wS ?_|refine wR ?_|refine wT ?_|(refine cM (id := 1) 80 zT9 (rM 14 20) zU0 dA rfl (by decide +kernel) (dO T rfl (dV rfl (gN T rfl rfl) (dN rfl (dV rfl (by exact eI rfl rfl) ?_))));refine dP T rfl (dO T rfl (dV rfl (gN T rfl rfl) (dV rfl (nW rfl rfl (by omega)) (dN rfl (tO T rfl (dT rfl (gN T rfl rfl) (tO T rfl (dT rfl (gN T rfl rfl) (dT rfl (nW rfl rfl (by omega)) ?_)))))))));refine dV rfl (iB rfl rfl) (dN rfl (tO T rfl (dT rfl (kC (hpr)) (dT rfl (eD rfl) (dV rfl (iB rfl rfl) (dE ?_)))))))|(refine rg 2 (aV ?_))|refine nZ ?_));all_goals try (exfalso;omega)
        all_goals exact rQ
      | true =>
        rw [iG];have hpq := hpq rfl h1 h2;have hno : ∀ k (hk : k < gs.length),mC gs[k] p q < 0 → (gs.all (fun g => decide (0 ≤ mC g p q)) && decide (zD gs p q gs.length ≤ c.m)) = false := fun k hk hb => by
          rw [show gs.all (fun g => decide (0 ≤ mC g p q)) = false from K6.2 ⟨gs[k],aH hk,by simp;omega⟩];rfl
        have hyes : (∀ k (hk : k < gs.length),0 ≤ mC gs[k] p q) → (gs.all (fun g => decide (0 ≤ mC g p q)) && decide (zD gs p q gs.length ≤ c.m)) = decide (zD gs p q gs.length ≤ c.m) := fun hb => by
          rw [show gs.all (fun g => decide (0 ≤ mC g p q)) = true from bA.2 fun x hx => by
            obtain ⟨k,hk,rfl⟩ := JI hx
            exact decide_eq_true (hb k hk)];rfl
        generalize (gs.all (fun g => decide (0 ≤ mC g p q)) && decide (zD gs p q gs.length ≤ c.m)) = R at *;refine bT T Tryz.func22 rfl rfl rfl rfl ?_
        (repeat' (first|refine wS ?_|(refine rg 0 (bV (cO rfl rfl) rfl (bV (cO rfl rfl) rfl (aV ?_))))|refine nZ ?_));refine fN 4 rfl rfl rfl ?_
        refine fN 5 rfl rfl rfl ?_
        (repeat' (first|refine wS ?_|refine wB ?_|refine wK ?_|refine wU ?_|(refine cM (id := 1) 80 zT9 (rM 14 20) zU0 dA rfl (by decide +kernel) (dO T rfl (dV rfl (gN T rfl rfl) (dN rfl (dV rfl (by exact eI rfl rfl) ?_))));refine dP T rfl (dO T rfl (dV rfl (gN T rfl rfl) (dV rfl (nW rfl rfl (by omega)) (dN rfl (tO T rfl (dT rfl (gN T rfl rfl) (tO T rfl (dT rfl (gN T rfl rfl) (dT rfl (nW rfl rfl (by omega)) ?_)))))))));refine dV rfl (iB rfl rfl) (dN rfl (tO T rfl (dT rfl (kC (hpr)) (dT rfl (eD rfl) (dV rfl (iB rfl rfl) (dE ?_)))))))|(refine rg 3 (aV ?_))|(refine rg 4 (mW rfl (nV ?_));refine iP T rfl (qW T rfl (mV ?_)))|refine nZ ?_));all_goals try (exfalso;omega)
        refine dB (X := {k : Nat // k ≤ gs.length ∧ (∀ j (hj : j < gs.length),j < k → 0 ≤ mC gs[j] p q) ∧ 0 ≤ zD gs p q k ∧ zD gs p q k ≤ 4000000 * k}) (fun k => [(0,.pr (gL c gs) 0),(4,.pr [.rowE (ints p) 1] 0),(5,.pr [.rowE (ints q) 1] 0),(7,.i (zD gs p q k.1)),(37,.rowE (iW gs) 2),(38,.i (iW gs).length),(39,.i k.1)]) (fun _ => []) (fun k => gs.length - k.1) ⟨0,cK _,fun j hj h => absurd h (dW _),fC _,fC _⟩ (eL []) ?_;rintro ⟨k,hk,hall,hs0,hs1⟩;dsimp only;by_cases hlt : k < gs.length
        · have hgk := M8 hlt;have hgm := aH hlt;have og := h.mid.out.ok _ hgm;have hwl := h.mid.wl _ hgm;have hno := hno k hlt;have hsk := LY (p := p) (q := q) hlt;have hbk := hbst _ hgm;have hall2 : 0 ≤ mC gs[k] p q → ∀ j (hj : j < gs.length),j < k + 1 → 0 ≤ mC gs[j] p q := fun hb j hj hjk => by
            rcases gQ j k with h' | h'
            · exact hall j hj h'
            · obtain rfl : j = k := by omega
              exact hb
          clear hyes hall;generalize hg : gs[k] = g at *;have hcl : ∀ w,w ∈ g.2 → _ := fun w hw => UJ g p q w og (og.ws w hw) hpq (by omega)
          have hbs : ∀ j (hj : j < g.2.length),_ := fun j hj => zO (g := g) (p := p) (q := q) hj;have hbb : ∀ j,j ≤ g.2.length → _ := fun j hj => H6 (g := g) (p := p) (q := q) (fun w hw => ⟨(og.ws w hw).m0,(og.ws w hw).m1⟩) j hj;have hmw : ∀ w,w ∈ g.2 → 0 ≤ w.2.1 ∧ w.2.1 ≤ 4000000 := fun w hw => ⟨(og.ws w hw).m0,(og.ws w hw).m1⟩;unfold mC at hbk hsk hno hall2;generalize hS : zD gs p q (k + 1) = S1 at *;generalize zD gs p q k = S at *;have hbs0 : tJ g p q 0 = -1 := rfl;unfold GJ at hbs;obtain ⟨bs,ws⟩ := g;dsimp only at *;generalize tJ (bs,ws) p q = B at *;generalize yB (bs,ws) p q = FB at *;have hwsl : (fL ws).length = ws.length := eM _
          (repeat' (first|refine wS ?_|refine wB ?_|refine wK ?_|(refine wC rfl ?_ ?_<;>(intro hb;(try simp only [nm] at hb);try (exfalso;omega)))|(refine rg 5 (vV (aO rfl rfl) ?_))|(refine rg 6 (vV (ix T rfl (by omega) (oT _) hgk) (lW T rfl (bV (bN T rfl) rfl (aU T rfl rfl rfl rfl rfl rfl (by decide) rfl ?_)))))|refine nZ ?_));all_goals try (exfalso;omega)
          refine fN 9 (cs := gA (bs,ws)) rfl rfl rfl ?_
          (repeat' (first|refine wS ?_|refine wB ?_|(refine rg 7 (vV (by exact jD rfl rfl) ?_);refine aV ?_)|(refine rg 8 (aV ?_))|(refine rg 9 (iP T rfl (qW T rfl (mV ?_))))|refine nZ ?_));all_goals try (exfalso;omega)
          refine dB (X := {j : Nat // j ≤ ws.length}) (fun j => [(0,.pr (gL c gs) 0),(4,.pr [.rowE (ints p) 1] 0),(5,.pr [.rowE (ints q) 1] 0),(7,.i S),(37,.rowE (iW gs) 2),(38,.i (iW gs).length),(39,.i k),(10,.clo (.func 64) [] [.pr (gA (bs,ws)) 0,.pr [.rowE (ints p) 1] 0,.pr [.rowE (ints q) 1] 0]),(11,.i (B j.1)),(45,.rowE (fL ws) 3),(46,.i (fL ws).length),(47,.i j.1)]) (fun _ => []) (fun j => ws.length - j.1) ⟨0,cK _⟩ ⟨[],rfl,⟨rfl,rfl,rfl,rfl,rfl,rfl,rfl,rfl,by dsimp only;rw [hbs0];rfl,rfl,rfl,rfl,trivial⟩,trivial,cX,lB _⟩ ?_
          rintro ⟨j,hj⟩;dsimp only;by_cases hjl : j < ws.length
          · have hgj := pZ hjl;have hwm := aH hjl;have hc1 := hcl _ hwm;have hb1 := hbs j hjl;have hb2 := hbb j hj;have hm1 := hmw _ hwm;generalize ws[j] = w at *;generalize FB w = fb at *;generalize hB1 : B (j + 1) = B1 at *;generalize B j = B0 at *;obtain ⟨wp,wm,wc⟩ := w;dsimp only at *;have hnx : B1 = B (j + 1) := hB1.symm;cases fb with
            | false =>
              rw [iU,if_neg (by simp)] at hb1
              (repeat' (first|refine wS ?_|refine wB ?_|refine wK ?_|refine wU ?_|(refine wC rfl ?_ ?_<;>(intro hb;(try simp only [nm] at hb);try (exfalso;omega)))|(refine rg 10 (vV (aO rfl rfl) ?_))|(refine rg 11 (vV (ix T rfl (by omega) (kP _) hgj) (lW T rfl (bV (bN T rfl) rfl (aU T rfl rfl rfl rfl rfl rfl (by decide) rfl ?_)))))|(refine rg 12 (mW rfl (lW T rfl (vV (by exact eV rfl rfl hc1 rfl rfl rfl) ?_)));refine mV ?_;(iterate 3 refine gF ?_);(iterate 4 refine gU ?_);refine gF (pV ?_))|(refine rg 14 (vV (bU rfl rfl (by omega) (by omega)) (mV ?_)))|refine nZ ?_));all_goals try (exfalso;omega)
              exact ⟨⟨j + 1,hjl⟩,by dsimp only;omega,[],rfl,⟨rfl,rfl,rfl,rfl,rfl,rfl,rfl,rfl,by dsimp only;rw [hB1,hb1];rfl,rfl,rfl,rfl,trivial⟩,trivial,cX,lB _⟩
            | true =>
              rw [iG] at hb1;by_cases hb0 : B0 < 0
              · rw [decide_eq_true hb0,Bool.true_or,if_pos rfl] at hb1
                (repeat' (first|refine wS ?_|refine wB ?_|refine wK ?_|refine wT ?_|(refine rg 10 (vV (xP rfl rfl (by omega)) ?_))|(refine rg 11 (vV (ix T rfl (by omega) (kP _) hgj) (lW T rfl (bV (bN T rfl) rfl (aU T rfl rfl rfl rfl rfl rfl (by decide) rfl ?_)))))|(refine rg 12 (mW rfl (lW T rfl (vV (by exact eV rfl rfl hc1 rfl rfl rfl) ?_)));refine mW rfl (yN rfl (yV (xP rfl rfl (by omega)) (yM ?_)));(iterate 4 refine gF ?_);refine gT (pW rfl (pV ?_)))|(refine rg 13 (iP T rfl (aV ?_)))|(refine rg 14 (vV (bU rfl rfl (by omega) (by omega)) (mV ?_)))|refine nZ ?_));all_goals try (exfalso;omega)
                exact ⟨⟨j + 1,hjl⟩,by dsimp only;omega,[],rfl,⟨rfl,rfl,rfl,rfl,rfl,rfl,rfl,rfl,by dsimp only;rw [hB1,hb1];rfl,rfl,rfl,rfl,trivial⟩,trivial,cX,lB _⟩
              · rw [decide_eq_false hb0,zN3] at hb1;by_cases hwb : wm < B0
                · rw [if_pos (decide_eq_true hwb)] at hb1
                  (repeat' (first|refine wS ?_|refine wB ?_|refine wK ?_|refine wT ?_|(refine rg 10 (vV (xP rfl rfl (by omega)) ?_))|(refine rg 11 (vV (ix T rfl (by omega) (kP _) hgj) (lW T rfl (bV (bN T rfl) rfl (aU T rfl rfl rfl rfl rfl rfl (by decide) rfl ?_)))))|(refine rg 12 (mW rfl (lW T rfl (vV (by exact eV rfl rfl hc1 rfl rfl rfl) ?_)));refine mW rfl (yN rfl (yV (C5 rfl rfl (by omega)) (yN rfl (yP T rfl (yO T rfl (yN rfl (yV (xP rfl rfl (by omega)) (gT (pV ?_)))))))));refine pV ?_)|(refine rg 13 (iP T rfl (aV ?_)))|(refine rg 14 (vV (bU rfl rfl (by omega) (by omega)) (mV ?_)))|refine nZ ?_));all_goals try (exfalso;omega)
                  exact ⟨⟨j + 1,hjl⟩,by dsimp only;omega,[],rfl,⟨rfl,rfl,rfl,rfl,rfl,rfl,rfl,rfl,by dsimp only;rw [hB1,hb1];rfl,rfl,rfl,rfl,trivial⟩,trivial,cX,lB _⟩
                · rw [if_neg (by simpa using hwb)] at hb1
                  (repeat' (first|refine wS ?_|refine wB ?_|refine wK ?_|refine wT ?_|refine wU ?_|(refine rg 10 (vV (xP rfl rfl (by omega)) ?_))|(refine rg 11 (vV (ix T rfl (by omega) (kP _) hgj) (lW T rfl (bV (bN T rfl) rfl (aU T rfl rfl rfl rfl rfl rfl (by decide) rfl ?_)))))|(refine rg 12 (mW rfl (lW T rfl (vV (by exact eV rfl rfl hc1 rfl rfl rfl) ?_)));refine mW rfl (yN rfl (yV (C5 rfl rfl (by omega)) (yN rfl (yP T rfl (yO T rfl (yN rfl (yV (C5 rfl rfl (by omega)) (gT (pV ?_)))))))));refine pV ?_)|(refine rg 14 (vV (bU rfl rfl (by omega) (by omega)) (mV ?_)))|refine nZ ?_));all_goals try (exfalso;omega)
                  exact ⟨⟨j + 1,hjl⟩,by dsimp only;omega,[],rfl,⟨rfl,rfl,rfl,rfl,rfl,rfl,rfl,rfl,by dsimp only;rw [hB1,hb1];rfl,rfl,rfl,rfl,trivial⟩,trivial,cX,lB _⟩
          · obtain rfl : j = ws.length := by omega
            by_cases hbn : B ws.length < 0
            · have hR := hno hbn;subst hR
              (repeat' (first|refine wS ?_|refine wR ?_|refine wE ?_|(refine wC rfl ?_ ?_<;>(intro hb;(try simp only [nm] at hb);try (exfalso;omega)))|(refine rg 10 (vV (aO rfl rfl) ?_))|(refine rg 15 (mW rfl (vV (aO rfl rfl) ?_)))|(refine rg 16 (aV ?_))|refine nZ ?_));all_goals try (exfalso;omega)
              all_goals exact rQ
            · (repeat' (first|refine wS ?_|refine wK ?_|refine wE ?_|(refine wC rfl (fun hb => ?_) (fun hb => ?_) <;> (((try simp only [nm] at hb);try (exfalso;omega))))|(refine rg 10 (vV (aO rfl rfl) ?_))|(refine rg 15 (mW rfl (vV (aO rfl rfl) ?_)))|(refine rg 17 (dS rfl (vV (bU rfl rfl (by omega) (by omega)) (aV ?_))))|(refine rg 18 (vV (bU rfl rfl (by omega) (by omega)) (mV ?_)))|(refine nZ ?_)));all_goals try (exfalso;omega)
              exact ⟨⟨k + 1,hlt,hall2 (by omega),by rw [hS];omega,by rw [hS];omega⟩,by dsimp only;omega,[],rfl,⟨rfl,rfl,rfl,by dsimp only;rw [hS,hsk];rfl,rfl,rfl,rfl,trivial⟩,trivial,cX,lB _⟩
        · obtain rfl : k = gs.length := by omega
          have hR := hyes fun j hj => hall j hj hj
          subst hR
          (repeat' (first|refine wS ?_|refine wR ?_|refine wE ?_|(refine wC rfl ?_ ?_<;>(intro hb;(try simp only [nm] at hb);try (exfalso;omega)))|(refine rg 5 (vV (aO rfl rfl) ?_))|(refine rg 19 (dS rfl (nV ?_));refine fW T rfl (iP T rfl (vV (iX rfl rfl) (aV ?_))))|refine nZ ?_));all_goals try (exfalso;omega)
          all_goals exact rQ
    · rw [decide_eq_false h2,iU,iU,iU];refine bT T Tryz.func22 rfl rfl rfl rfl ?_
      (repeat' (first|refine wS ?_|(refine rg 0 (bV (cO rfl rfl) rfl (bV (cO rfl rfl) rfl (aV ?_))))|refine nZ ?_));refine fN 4 rfl rfl rfl ?_
      refine fN 5 rfl rfl rfl ?_
      (repeat' (first|refine wS ?_|refine wR ?_|refine wT ?_|(refine cM (id := 1) 80 zT9 (rM 14 20) zU0 dA rfl (by decide +kernel) (dO T rfl (dV rfl (gN T rfl rfl) (dN rfl (dV rfl (by exact eI rfl rfl) ?_))));refine dP T rfl (dO T rfl (dV rfl (gN T rfl rfl) (dV rfl (nW rfl rfl (by omega)) (dN rfl (tO T rfl (dT rfl (gN T rfl rfl) (tO T rfl (dT rfl (gN T rfl rfl) (dT rfl (rV rfl rfl (by omega)) ?_)))))))));refine dV rfl (iB rfl rfl) (dN rfl (tG rfl (tG rfl (tG rfl (dV rfl (jQ rfl rfl) (dE ?_)))))))|(refine rg 2 (aV ?_))|refine nZ ?_));all_goals try (exfalso;omega)
      all_goals exact rQ
  · rw [decide_eq_false h1,iU,iU,iU,iU];refine bT T Tryz.func22 rfl rfl rfl rfl ?_
    (repeat' (first|refine wS ?_|(refine rg 0 (bV (cO rfl rfl) rfl (bV (cO rfl rfl) rfl (aV ?_))))|refine nZ ?_));refine fN 4 rfl rfl rfl ?_
    refine fN 5 rfl rfl rfl ?_
    (repeat' (first|refine wS ?_|refine wR ?_|refine wT ?_|(refine cM (id := 1) 80 zT9 (rM 14 20) zU0 dA rfl (by decide +kernel) (dO T rfl (dV rfl (gN T rfl rfl) (dN rfl (dV rfl (by exact eI rfl rfl) ?_))));refine dP T rfl (dO T rfl (dV rfl (gN T rfl rfl) (dV rfl (rV rfl rfl (by omega)) (dN rfl (tG rfl (tG rfl (tG rfl (tG rfl (dG ?_)))))))));refine dV rfl (jQ rfl rfl) (dN rfl (tG rfl (tG rfl (tG rfl (dV rfl (jQ rfl rfl) (dE ?_)))))))|(refine rg 2 (aV ?_))|refine nZ ?_));all_goals try (exfalso;omega)
    all_goals exact rQ
end Go.Proofs.YtmmkhmilpeodnaaGreat
namespace Go.Ab
open Go
theorem oP.freezeEl {n : Nat × Nat} {c : nH} {ρ : Pl} {S : Nat → Prop} {env : dQ} {h : Hp} {a : Act} {w : World} {j f k len sz sz2 : Nat} {es es' es2 : List (List AV)} (s : oP n c ρ S env h a w) (hj : h[j]? = some (.arr es sz)) (hne : j ≠ k) (h0 : es ≠ []) (hf : es.flatten[f]? = some (.sl k 0 len sz2)) (hk : h[k]? = some (.arr es2 sz2)) (hn : len = es2.length) (hi : AV.idfL es2.flatten = true)
    (hl : ∀ e,e ∈ es' → e.length = sz) (he : es'.flatten = es.flatten.set f (.rowE es2 sz2)) :
    oP n c ρ (fun b => S b ∨ ∃ o,ρ k = some (b,o)) env ((h.set k .gone).set j (.arr es' sz)) a w := by
  have h1 := s.hs.freeze hk;have hj' : (h.set k .gone)[j]? = some (.arr es sz) := by rw [jH (Ne.symm hne)];exact hj
  refine ⟨s.size,s.defers.st (fun _ h => .inl h),fun t' x hx => UP (fun _ h => .inl h) (s.env t' x hx),h1.alter hj' (fun _ => ?_) (by simp),s.cm⟩
  have hb := s.hs.blk j _ hj;simp only [RB] at hb ⊢;obtain ⟨b1,b2,b3⟩ := hb;refine ⟨hl,b2,?_⟩;rcases b3 with ⟨e,_⟩ | ⟨b,o,ys,e1,e2,e3⟩
  · exact absurd e h0
  · refine .inr ⟨b,o,ys,e1,e2,?_⟩;rw [he];refine DA (fun _ h => .inl h) (fun y hy => ?_) hf e3;rw [hn] at hy;exact C7 hi (s.hs.blk k _ hk) hy
section
variable {P : Program} {n : Nat × Nat} {ops : Array Oper} {env : dQ} {h : Hp} {K : dQ → Hp → Prop} {rest : List Oper} {Q : Exit → dQ → Hp → Prop} {code : Code}
theorem GN (j f : Nat) {k len sz sz2 : Nat} {es : List (List AV)} (es' : List (List AV)) {es2 : List (List AV)} (hj : h[j]? = some (.arr es sz)) (hne : j ≠ k) (h0 : es ≠ []) (hf : es.flatten[f]? = some (.sl k 0 len sz2)) (hk : h[k]? = some (.arr es2 sz2)) (hn : len = es2.length) (hi : AV.idfL es2.flatten = true)
    (hl : ∀ e,e ∈ es' → e.length = sz) (he : es'.flatten = es.flatten.set f (.rowE es2 sz2)) (hv : AW P n code env ((h.set k .gone).set j (.arr es' sz)) Q) : AW P n code env h Q :=
  fun c ρ S a w QQ s hQ => hv c ρ _ a w QQ (s.freezeEl hj hne h0 hf hk hn hi hl he) hQ
end
end Go.Ab
namespace Go.Ld
open Go.Ab Go.Proofs.YtmmkhmilpeodnaaGreat
theorem UI {es : List (List AV)} (h : ∀ e,e ∈ es → e.all AV.one = true) : es.flatten.all AV.one = true := by
  rw [bA];intro x hx;obtain ⟨e,he,hx⟩ := List.mem_flatten.1 hx;exact bA.1 (h e he) x hx
theorem BP {α : Type} {f : α → List AV} (hf : ∀ x,(f x).all AV.one = true) (l : List α) : (l.map f).flatten.all AV.one = true := UI fun e he => by
  obtain ⟨x,_,rfl⟩ := bI.1 he;exact hf x
theorem BU {α : Type} {f : α → List AV} (hf : ∀ x,AV.idfL (f x) = true) (l : List α) : ∀ e,e ∈ l.map f → AV.idfL e = true := fun e he => by
  obtain ⟨x,_,rfl⟩ := bI.1 he;exact hf x
def EE (n : Int) : Bool := decide (n < 0 ∨ 1048576 < n)
def JU (c : Cx) : Bool := [c.m,c.st,c.er,c.sl].any EE
theorem MD {c : Cx} : JU c = false ↔ mO c.m c.st c.er c.sl := by
  unfold JU mO EE;simp;omega
end Go.Ld
namespace Go.Proofs.YtmmkhmilpeodnaaGreat
open Go Go.Ab Go.Ld
attribute [local irreducible] VC AW bX aT kT
set_option maxHeartbeats 4000000
theorem TH (l : List KD) (hl : l.length ≤ 1000000) : aT Tryz.prog 37 [.rowE (iI l) 2] [] (.rowE (iI l) 2) [] := by
  have hll : (iI l).length = l.length := bC _;have hid := BU (f := fun b : KD => [AV.v (.string b.1),AV.i b.2]) (fun _ => rfl) l;have hon := BP (f := fun b : KD => [AV.v (.string b.1),AV.i b.2]) (fun _ => rfl) l;refine nB (len := l.length) hll.symm (gX hid) ?_;refine bT T Tryz.func37 rfl rfl rfl rfl ?_
  repeat' (first|refine wS ?_|refine wK ?_|refine wT ?_|refine wU ?_|(refine rg 0 (aV ?_))|(refine rg 1 (mV ?_);refine qN T rfl rfl rfl rfl fun b hb=>?_;cases b)|refine nZ ?_)
  · (repeat' (first|refine wR ?_|(refine rg 3 (bV (by exact bE T rfl rfl (by decide) (by decide) rfl rfl rfl) rfl ?_);refine mW rfl (hO T rfl rfl rfl rfl rfl rfl (by decide) (.row (tB l)) hon (by simp;omega) (by simp;omega) rfl ?_);refine aV ?_)|(refine nZ ?_)));exact ⟨.inl rfl,[1],_,rfl,(by show AV.sl 1 0 (0 + (iI l).length) 2 = AV.sl 1 0 l.length 2;simp),rfl,⟨.inr (aE rfl rfl hid),trivial⟩,by decide,Q7⟩
  · have hl0 : l = [] := fE.1 (Classical.byContradiction fun h => by have := hb (by omega);cases this)
    subst hl0
    (repeat' (first|refine wR ?_|(refine rg 2 (vV (fF rfl) (tY 2 2 rfl (by decide) ?_)))|refine nZ ?_));exact ⟨.inl rfl,[0],_,rfl,rfl,rfl,⟨.inr (aE rfl rfl hid),trivial⟩,by decide,Q7⟩
theorem TG (l : List LT) (hl : l.length ≤ 1000000) : aT Tryz.prog 38 [.rowE (kX l) 3] [] (.rowE (kX l) 3) [] := by
  have hll : (kX l).length = l.length := bC _;have hid := BU (f := fun b : LT => [AV.i b.1,AV.i b.2.1,AV.b b.2.2]) (fun _ => rfl) l;have hon := BP (f := fun b : LT => [AV.i b.1,AV.i b.2.1,AV.b b.2.2]) (fun _ => rfl) l;refine nB (len := l.length) hll.symm (gX hid) ?_;refine bT T Tryz.func38 rfl rfl rfl rfl ?_
  repeat' (first|refine wS ?_|refine wK ?_|refine wT ?_|refine wU ?_|(refine rg 0 (aV ?_))|(refine rg 1 (mV ?_);refine qN T rfl rfl rfl rfl fun b hb=>?_;cases b)|refine nZ ?_)
  · (repeat' (first|refine wR ?_|(refine rg 3 (bV (by exact bE T rfl rfl (by decide) (by decide) rfl rfl rfl) rfl ?_);refine mW rfl (hO T rfl rfl rfl rfl rfl rfl (by decide) (.row (wD l)) hon (by simp;omega) (by simp;omega) rfl ?_);refine aV ?_)|(refine nZ ?_)));exact ⟨.inl rfl,[1],_,rfl,(by show AV.sl 1 0 (0 + (kX l).length) 3 = AV.sl 1 0 l.length 3;simp),rfl,⟨.inr (aE rfl rfl hid),trivial⟩,by decide,Q7⟩
  · have hl0 : l = [] := fE.1 (Classical.byContradiction fun h => by have := hb (by omega);cases this)
    subst hl0
    (repeat' (first|refine wR ?_|(refine rg 2 (vV (fF rfl) (tY 2 3 rfl (by decide) ?_)))|refine nZ ?_));exact ⟨.inl rfl,[0],_,rfl,rfl,rfl,⟨.inr (aE rfl rfl hid),trivial⟩,by decide,Q7⟩
theorem TJ (l : List BX) (hl : l.length ≤ 1000000) : aT Tryz.prog 39 [.rowE (fS l) 3] [] (.rowE (fS l) 3) [] := by
  have hll : (fS l).length = l.length := bC _;have hid := BU (f := fun b : BX => [AV.i b.1,AV.i b.2.1,AV.i b.2.2]) (fun _ => rfl) l;have hon := BP (f := fun b : BX => [AV.i b.1,AV.i b.2.1,AV.i b.2.2]) (fun _ => rfl) l;refine nB (len := l.length) hll.symm (gX hid) ?_;refine bT T Tryz.func39 rfl rfl rfl rfl ?_
  repeat' (first|refine wS ?_|refine wK ?_|refine wT ?_|refine wU ?_|(refine rg 0 (aV ?_))|(refine rg 1 (mV ?_);refine qN T rfl rfl rfl rfl fun b hb=>?_;cases b)|refine nZ ?_)
  · (repeat' (first|refine wR ?_|(refine rg 3 (bV (by exact bE T rfl rfl (by decide) (by decide) rfl rfl rfl) rfl ?_);refine mW rfl (hO T rfl rfl rfl rfl rfl rfl (by decide) (.row (oL l)) hon (by simp;omega) (by simp;omega) rfl ?_);refine aV ?_)|(refine nZ ?_)));exact ⟨.inl rfl,[1],_,rfl,(by show AV.sl 1 0 (0 + (fS l).length) 3 = AV.sl 1 0 l.length 3;simp),rfl,⟨.inr (aE rfl rfl hid),trivial⟩,by decide,Q7⟩
  · have hl0 : l = [] := fE.1 (Classical.byContradiction fun h => by have := hb (by omega);cases this)
    subst hl0
    (repeat' (first|refine wR ?_|(refine rg 2 (vV (fF rfl) (tY 2 3 rfl (by decide) ?_)))|refine nZ ?_));exact ⟨.inl rfl,[0],_,rfl,rfl,rfl,⟨.inr (aE rfl rfl hid),trivial⟩,by decide,Q7⟩
theorem WF (n : Int) : aT Tryz.prog 77 [.i n] [] (.b (EE n)) [] := by
  unfold EE;by_cases h : n < 0
  · rw [decide_eq_true (.inl h)];refine bT T Tryz.func77 rfl rfl rfl rfl ?_
    (repeat' (first|refine wS ?_|refine wR ?_|(refine rg 0 (aV ?_))|(refine rg 1 (mW rfl (vV (xP rfl rfl (by omega)) (mV ?_)));(iterate 2 refine gF ?_);refine pW rfl (aV ?_))|refine nZ ?_));all_goals first | (exfalso;omega) | exact rQ
  · refine bT T Tryz.func77 rfl rfl rfl rfl ?_
    (repeat' (first|refine wS ?_|refine wR ?_|(refine rg 0 (aV ?_))|(refine rg 1 (mW rfl (vV (C5 rfl rfl (by omega)) (mW rfl (yN rfl (yV (fP rfl rfl) (pW rfl (aV ?_))))))))|refine nZ ?_));all_goals first | (exfalso;omega) | (refine cY (.inl rfl) rfl (mD ?_);simp;omega)
theorem V6 (c : Cx) : aT Tryz.prog 35 [.agg [.i c.m,.i c.st,.i c.er,.i c.sl]] [] (.b (!JU c)) [] := by
  have hh := SH (l := [c.m,c.st,c.er,c.sl]) (F := 77) (caps := []) (p := EE) (by simp) rfl (fun x hx => WF x)
  change aT _ _ _ _ (.b (JU c)) _ at hh;generalize JU c = v at *;refine bT T Tryz.func35 rfl rfl rfl rfl ?_
  (repeat' (first|refine wS ?_|refine wR ?_|(refine rg 0 (bV (cO rfl rfl) rfl (aV ?_)))|(refine rg 1 (iP T rfl (iP T rfl (iP T rfl (iP T rfl (bV (by exact bE T rfl rfl (by decide) (by decide) rfl rfl rfl) rfl ?_)))));refine lZ 11 rfl rfl rfl rfl ?_;refine vV (kC (hh)) (vV (eD rfl) (aV ?_)))|refine nZ ?_));all_goals first | (exfalso;omega) | exact rQ
end Go.Proofs.YtmmkhmilpeodnaaGreat
namespace Go.Ld
open Go.Ab Go.Proofs.YtmmkhmilpeodnaaGreat
abbrev XG (c : Cx) (x : AV) : List AV := [.i c.m,.i c.st,.i c.er,.i c.sl,.rowE (iI c.ks) 2,.rowE (kX c.ls) 3,.rowE (fS c.bs) 3,x]
theorem zE0 {h : Hp} {i sz : Nat} {θ : Nat → Nat} {A A' : List (List AV)} {E E' : List AV} (hk : h[i]? = some (.arr (A' ++ [E']) sz)) (hA : A' = A) (hE : E' = AV.mapL θ E) (hi : ∀ e,e ∈ A → AV.idfL e = true) : h[i]? = some ((AB.arr (A ++ [E]) sz).map θ) := by
  subst hA hE;rw [hk];simp only [AB.map,dH,cC θ hi];rfl
theorem YA {A : List (List AV)} {x y : AV} : (A ++ [[x,y]]).flatten[A.flatten.length]? = some x := by simp
theorem XZ {A : List (List AV)} {x y : AV} : (A ++ [[x,y]]).flatten[A.flatten.length + 1]? = some y := by
  rw [gE,aD (by omega)];simp
theorem XY {A : List (List AV)} {x y z : AV} : (A ++ [[z,y]]).flatten = (A ++ [[x,y]]).flatten.set A.flatten.length z := by
  rw [gE,gE,jY _ _ (by omega)];simp
theorem XX {A : List (List AV)} {x y z : AV} : (A ++ [[x,z]]).flatten = (A ++ [[x,y]]).flatten.set (A.flatten.length + 1) z := by
  rw [gE,gE,jY _ _ (by omega)];simp
theorem RK (c : Cx) : (qT c).length = c.bs.length := by rw [M4];simp
theorem MV {c : Cx} {k : Nat} (h : k < c.bs.length) : (qT c).take (k + 1) = (qT c).take k ++ [R0 c k] := by
  rw [M4,← kG,← kG,aQ (by simpa using h),dH]
  simp
end Go.Ld
namespace Go.Proofs.YtmmkhmilpeodnaaGreat
open Go Go.Ab Go.Ld
attribute [local irreducible] VC AW bX aT kT
set_option maxHeartbeats 4000000
theorem zI3 (c : Cx) (hc : rK c) (hid : aT Tryz.prog 24 [.i (fS c.bs).length] [] (.rowE (ints (nats (List.range c.bs.length))) 1) []) (htr : aT Tryz.prog 36 [.rowE (iI c.ks) 2,.rowE (kX c.ls) 3,.rowE (ints (nats (List.range c.bs.length))) 1,.rowE (fS c.bs) 3] [] (.b true) []) :
    aT Tryz.prog 9 [.agg [.i c.m,.i c.st,.i c.er,.i c.sl],.rowE (iI c.ks) 2,.rowE (kX c.ls) 3,.rowE (fS c.bs) 3] [] (.tup [.ptr 0 0,.i 0]) [.cells (gL c (qT c))] := by
  have hn1 := hc.f.n1;have hn8 := hc.f.n8;have hk10 := hc.f.k10;have hl10 := hc.f.l10;have hnl : (nats (List.range c.bs.length)).length = c.bs.length := by simp
  have hsn := V6 c;rw [MD.2 hc.s] at hsn;have h1 := TH c.ks (by omega)
  have h2 := TG c.ls (by omega)
  have h3 := TJ c.bs (by omega)
  have hbl : (fS c.bs).length = c.bs.length := bC _;have hNl := RK c;refine bT T Tryz.func9 rfl rfl rfl rfl ?_
  (repeat' (first|refine wS ?_|(refine rg 0 (bV (cO rfl rfl) rfl (rZ ?_)))|refine nZ ?_));refine fN 4 rfl rfl rfl ?_
  (repeat' (first|refine wS ?_|refine wK ?_|refine wU ?_|(refine rg 1 (lW T rfl (vV (kC (hsn)) (vV (eD rfl) (mW rfl (yN rfl (yN rfl (yN rfl (gT (qV T ?_)))))))));refine yV (kC (hid)) (yN rfl (yV (kC (htr)) (yV (eD rfl) (pV ?_)))))|(refine cM (id := 3) 69 [[],[],[1],[],[1,2,3],[],rM 1 5,rN 7,rN 8] (rM 27 9) [[],[27],[27],[27,28,29],[27],rM 27 5,[27],[],[]] dA rfl (by decide +kernel) (dO T rfl (dN rfl (dV rfl (kC (h1)) (dN rfl (dV rfl (kC (h2)) (dN rfl (dV rfl (kC (h3)) (dV rfl (by exact eW T rfl rfl rfl rfl) ?_))))))));refine zM rfl rfl rfl (by exact cO rfl rfl) rfl ?_;refine dE ?_;refine aV ?_)|refine nZ ?_));all_goals try (exfalso;omega)
  refine fA [(3,.rowE (fS c.bs) 3),(10,.ptr 0 0)] [.cells (XG c .nils)] ⟨[1],rfl,(by repeat first|exact trivial|refine ⟨rfl,?_⟩),⟨.inr rfl,trivial⟩,by decide,lB _⟩ ?_
  refine uR 0 7 2 rfl rfl (by decide) ?_
  (repeat' (first|refine wB ?_|(refine rg 4 (mW rfl (qW T rfl (mV ?_))))|refine nZ ?_));all_goals try (exfalso;omega)
  refine dB (X := {k : Nat // k ≤ c.bs.length}) (fun k => [(10,.ptr 0 0),(36,.rowE (fS c.bs) 3),(37,.i (fS c.bs).length),(38,.i k.1)]) (fun k => [.cells (XG c (.sl 1 0 k.1 2)),.arr (iW ((qT c).take k.1)) 2]) (fun k => c.bs.length - k.1) ⟨0,cK _⟩ ⟨[0,1],rfl,(by repeat first|exact trivial|refine ⟨rfl,?_⟩),⟨.inr rfl,.inr rfl,trivial⟩,by decide,lB _⟩ ?_
  rintro ⟨k,hk⟩;dsimp only;by_cases hlt : k < c.bs.length
  · have hb := hc.f.b k hlt;have hbx : c.bs[k]? = some (c.bs.getD k (0,0,0)) := by rw [aC,aA hlt];rfl
    have hge : c.bs[k] = c.bs.getD k (0,0,0) := by rw [aC,aA hlt];rfl
    rw [hge] at hb;have qb : (fS c.bs)[((k : Int)).toNat]? = some [.i (c.bs.getD k (0,0,0)).1,.i (c.bs.getD k (0,0,0)).2.1,.i (c.bs.getD k (0,0,0)).2.2] := by rw [bQ,bP,hbx];rfl
    have hsu := MV hlt;have hA : iW ((qT c).take (k + 1)) = iW ((qT c).take k) ++ [gA (R0 c k)] := by rw [hsu,iW,dH];rfl
    have hAl : (iW ((qT c).take k)).length = k := by rw [iV,bD];omega
    have hAi := dX ((qT c).take k);have hA3 := oT ((qT c).take k);have hAi2 := dX ((qT c).take (k + 1));unfold R0 at hA;generalize c.bs.getD k (0,0,0) = bx at *;obtain ⟨lot,cnt,ta⟩ := bx;dsimp only at *;generalize hG : iW ((qT c).take k) = A at *
    (repeat' (first|refine wS ?_|refine wB ?_|refine wK ?_|(refine wC rfl ?_ ?_<;>(intro hb;(try simp only [nm] at hb);try (exfalso;omega)))|(refine rg 5 (vV (aO rfl rfl) ?_))|(refine rg 6 (mW rfl (vV (ix T rfl (by omega) (oL _) qb) (lW T rfl (bV (bN T rfl) rfl (aW rfl (aU T rfl rfl rfl rfl rfl rfl (by decide) rfl ?_)))))))|refine nZ ?_));all_goals try (exfalso;omega)
    refine fN 12 (cs := [.i lot,.i cnt,.i ta]) rfl rfl rfl ?_
    (repeat' (first|(refine rg 7 (mW rfl (bV (by exact bE T rfl rfl (by decide) (by decide) rfl rfl rfl) rfl ?_));refine lZ 44 rfl rfl rfl rfl ?_;refine iP T rfl (iP T rfl (vV (bU rfl rfl (by omega) (by omega)) (vV (by exact eW T rfl rfl rfl rfl) ?_)));refine bV (by exact bE T rfl rfl (by decide) (by decide) rfl rfl rfl) rfl ?_;refine lZ 51 rfl rfl rfl rfl ?_;refine vV (by exact eW T rfl rfl rfl rfl) ?_;refine bV (bN T rfl) rfl (aU T rfl rfl rfl rfl rfl rfl (by decide) rfl ?_))|refine nZ ?_));all_goals try (exfalso;omega)
    refine fN 13 (cs := wA ([(k : Int)],0,[(cnt,cnt + 1)])) rfl rfl rfl ?_;refine fA [(10,.ptr 0 0),(36,.rowE (fS c.bs) 3),(37,.i (fS c.bs).length),(38,.i k),(11,.i k),(13,.pr (wA ([(k : Int)],0,[(cnt,cnt + 1)])) 0)] [.cells (XG c (.sl 1 0 k 2)),.arr A 2] ⟨[0,1],rfl,(by repeat first|exact trivial|refine ⟨rfl,?_⟩),⟨.inr rfl,.inr (aE rfl rfl hAi),trivial⟩,by decide,lB _⟩ ?_
    (repeat' (first|(refine tK (id := 8) 69 [[],[],[1],[1,2],[1,2,3],[],[5],[],[7],rM 5 4,rM 5 5,rM 1 10,rN 12,rN 13,rN 14] (rM 53 14) [[],[53],[53],[53],[53],rM 53 5,rM 53 5,rM 53 7,rM 53 7,rM 53 5,rM 53 5,[53],[],[],[]] [(11,1),(14,0)] dA rfl (by decide +kernel) (fJ rfl rfl rfl rfl (by exact bW rfl) ?_);refine fJ rfl rfl rfl rfl (by exact bW rfl) ?_;refine fJ rfl rfl rfl rfl (by exact eI rfl rfl) ?_;refine fJ rfl rfl rfl rfl (by exact bZ T rfl rfl rfl) ?_;refine fJ rfl rfl rfl rfl (by exact aX T rfl rfl rfl rfl) ?_;refine fJ rfl rfl rfl rfl (by exact bW rfl) ?_;refine J7 rfl rfl rfl rfl (by exact bE T rfl rfl (by decide) (by decide) rfl rfl rfl) rfl ?_;refine fJ rfl rfl rfl rfl (by exact aX T rfl rfl rfl rfl) ?_;refine J7 rfl rfl rfl rfl (by exact bE T rfl rfl (by decide) (by decide) rfl rfl rfl) rfl ?_;refine fJ rfl rfl rfl rfl (by exact eW T rfl rfl rfl rfl) ?_;refine J7 rfl rfl rfl rfl (by exact bE T rfl rfl (by decide) (by decide) rfl rfl rfl) rfl ?_;refine wM rfl rfl rfl rfl (aP rfl) (by exact qJ T rfl rfl rfl rfl rfl rfl (by omega) (lD.whole rfl rfl) rfl (by simp;omega) (by simp;omega)) ?_;refine fJ rfl rfl rfl rfl (by exact eI rfl rfl) ?_;refine fJ rfl rfl rfl rfl (by exact bZ T rfl rfl rfl) ?_;refine CJ rfl rfl rfl rfl (aP rfl) T rfl rfl rfl rfl rfl rfl (by decide) rfl ?_;refine D2 rfl rfl rfl (by exact rfl) ?_)|refine nZ ?_));all_goals try (exfalso;omega)
    show AW _ _ _ _ _ _;refine fA [(10, .ptr 0 0), (36, .rowE (fS c.bs) 3), (37, .i (fS c.bs).length), (38, .i k)] [.cells (XG c (.sl 3 0 (k + 1) 2)), .arr (ints [(k : Int)]) 1, .arr (fL [([(k : Int)], 0, [(cnt, cnt + 1)])]) 3, .arr (A ++ [[.sl 1 0 1 1, .sl 2 0 1 3]]) 2]
      ⟨[0,2,3,5],rfl,(by repeat first|exact trivial|refine ⟨rfl,?_⟩),⟨.inr rfl,.inr rfl,.inr rfl,.inr (zE0 rfl (by rw [nS];exact cD (by omega)) rfl hAi),trivial⟩,by decide,lB _⟩ ?_
    have hE : ∀ (x y : AV) (e : List AV),e ∈ A ++ [[x,y]] → e.length = 2 := fun x y e he => by
      rcases bB.1 he with he | he
      · exact hA3 e he
      · rw [bO.1 he];rfl
    refine GN 3 A.flatten.length (A ++ [[.rowE (ints [(k : Int)]) 1,.sl 2 0 1 3]]) rfl (by decide) (by simp) YA rfl rfl rfl (hE _ _) XY ?_
    refine GN 3 (A.flatten.length + 1) (A ++ [[.rowE (ints [(k : Int)]) 1,.rowE (fL [([(k : Int)],0,[(cnt,cnt + 1)])]) 3]]) rfl (by decide) (by simp) XZ rfl rfl rfl (hE _ _) XX ?_
    (repeat' (first|(refine rg 9 (vV (bU rfl rfl (by omega) (by omega)) (mV ?_)))|refine nZ ?_));all_goals try (exfalso;omega)
    exact ⟨⟨k + 1,hlt⟩,by dsimp only;omega,⟨[0,3],rfl,(by repeat first|exact trivial|refine ⟨rfl,?_⟩),⟨.inr rfl,.inr (aE rfl (by dsimp only;rw [hA]) hAi2),trivial⟩,by decide,lB _⟩⟩
  · obtain rfl : k = c.bs.length := by omega
    rw [← hNl,dD,hNl];refine mL 0 7 (es := iW (qT c)) rfl rfl rfl (by rw [iV,hNl]) (gX (dX _)) ?_
    (repeat' (first|refine wS ?_|refine wR ?_|refine wE ?_|(refine wC rfl ?_ ?_<;>(intro hb;(try simp only [nm] at hb);try (exfalso;omega)))|(refine rg 5 (vV (aO rfl rfl) ?_))|(refine rg 10 (mW rfl (rZ ?_)))|refine nZ ?_));all_goals try (exfalso;omega)
    all_goals exact ⟨.inl rfl,[0],_,rfl,rfl,rfl,⟨.inr rfl,trivial⟩,by decide,lB _⟩
end Go.Proofs.YtmmkhmilpeodnaaGreat
namespace Go.Ld
open Go.Ab Go.Proofs.YtmmkhmilpeodnaaGreat
def LP (p q : List Int) (x : Int × SP) (b : Int) : Prop := x.1 = p.getD b.toNat 0 ∧ rG x.2.1 x.2.2 (q.getD (p.getD b.toNat 0).toNat 0) = true
theorem YG {g : G} {p q : List Int} {w : W} : yB g p q w = true ↔ ∀ i,i < g.1.length → LP p q (gP w i,gC w i) (g.1.getD i 0) := by
  unfold yB zG LP;rw [bA];constructor
  · intro h i hi;have := h i (eJ.2 hi);simp only [aJ,decide_eq_true_eq] at this;exact this
  · intro h i hi;have := h i (eJ.1 hi);simp only [aJ,decide_eq_true_eq];exact this
theorem U0 {g : G} {p q : List Int} (h0 : ∀ w, w ∈ g.2 → 0 ≤ w.2.1) : ∀ k, k ≤ g.2.length → (tJ g p q k = -1 ∧ ∀ w, w ∈ g.2.take k → yB g p q w = false) ∨ (∃ w, w ∈ g.2.take k ∧ yB g p q w = true ∧ w.2.1 = tJ g p q k ∧ ∀ v, v ∈ g.2.take k → yB g p q v = true → tJ g p q k ≤ v.2.1)
  | 0,_ => .inl ⟨rfl,fun w hw => by simp at hw⟩
  | k + 1,hk => by
    have ih := U0 (p := p) (q := q) h0 k (by omega)
    have hx := h0 g.2[k] (aH _);rw [zO (by omega)]
    have ht : ∀ w,w ∈ g.2.take (k + 1) ↔ w ∈ g.2.take k ∨ w = g.2[k] := fun w => by
      rw [aQ (by omega),bB,bO]
    simp only [ht];unfold GJ;generalize g.2[k] = x at *;generalize tJ g p q k = m at *;cases hf : yB g p q x with
    | false =>
      rw [iU,if_neg (by simp)]
      rcases ih with ⟨h1,h2⟩ | ⟨w,h1,h2,h3,h4⟩
      · refine .inl ⟨h1,fun w hw => ?_⟩
        rcases hw with hw | rfl
        · exact h2 w hw
        · exact hf
      · refine .inr ⟨w,.inl h1,h2,h3,fun v hv hvf => ?_⟩
        rcases hv with hv | rfl
        · exact h4 v hv hvf
        · rw [hf] at hvf;cases hvf
    | true =>
      rw [iG];rcases ih with ⟨h1,h2⟩ | ⟨w,h1,h2,h3,h4⟩
      · rw [decide_eq_true (show m < 0 by omega),Bool.true_or,if_pos rfl]
        refine .inr ⟨x,.inr rfl,hf,rfl,fun v hv hvf => ?_⟩
        rcases hv with hv | rfl
        · rw [h2 v hv] at hvf;cases hvf
        · exact fC _
      · have hm0 : 0 ≤ m := by rw [← h3];exact h0 w (fB h1)
        rw [decide_eq_false (show ¬ m < 0 by omega),zN3]
        by_cases hlt : x.2.1 < m
        · rw [if_pos (decide_eq_true hlt)];refine .inr ⟨x,.inr rfl,hf,rfl,fun v hv hvf => ?_⟩
          rcases hv with hv | rfl
          · have := h4 v hv hvf;omega
          · exact fC _
        · rw [if_neg (by simpa using hlt)]
          refine .inr ⟨w,.inl h1,h2,h3,fun v hv hvf => ?_⟩
          rcases hv with hv | rfl
          · exact h4 v hv hvf
          · omega
theorem AM {g : G} {p q : List Int} (h0 : ∀ w,w ∈ g.2 → 0 ≤ w.2.1) : (mC g p q = -1 ∧ ∀ w,w ∈ g.2 → yB g p q w = false) ∨ (∃ w,w ∈ g.2 ∧ yB g p q w = true ∧ w.2.1 = mC g p q ∧ ∀ v,v ∈ g.2 → yB g p q v = true → mC g p q ≤ v.2.1) := by
  have := U0 (p := p) (q := q) h0 g.2.length (aY _);rw [dD] at this;exact this
def AP (g : G) (w : W) : As := fun b => (gP w (g.1.idxOf b),gC w (g.1.idxOf b))
theorem D7 {n : Nat} {g : G} {w : W} (ok : vK n g) (hw : V9 n g.1.length w) : nE g.1 w (AP g w) := by
  unfold nE AP gP gC;constructor
  · refine kB (by rw [bC];exact hw.pl) fun i h1 h2 => ?_
    rw [nQ,ok.nd.idxOf_getElem];dsimp only;rw [aC,aA h1];rfl
  · refine kB (by rw [bC];exact hw.cl) fun i h1 h2 => ?_
    rw [nQ,ok.nd.idxOf_getElem];dsimp only;rw [aC,aA h1];rfl
theorem SU {n : Nat} {g : G} {p q : List Int} {w : W} {f : As} (ok : vK n g) (hf : nE g.1 w f) : yB g p q w = true ↔ ∀ b,b ∈ g.1 → LP p q (f b) b := by
  rw [YG];have key : ∀ i (hi : i < g.1.length),(gP w i,gC w i) = f g.1[i] ∧ g.1.getD i 0 = g.1[i] := fun i hi => by
    rw [S4 hf hi,S6 hf hi];exact ⟨rfl,by rw [aC,aA hi];rfl⟩
  constructor
  · intro h b hb;obtain ⟨i,hi,rfl⟩ := JI hb;have := h i hi;rw [(key i hi).1,(key i hi).2] at this;exact this
  · intro h i hi;rw [(key i hi).1,(key i hi).2];exact h _ (aH hi)
theorem UK {n : Nat} {p q : List Int} : ∀ {gs : List G},(gs.flatMap (·.1)).Nodup → (∀ g,g ∈ gs → vK n g) → ∀ {M : Int},
    ((∀ g,g ∈ gs → 0 ≤ mC g p q) ∧ (gs.map fun g => mC g p q).sum ≤ M) ↔ ∃ f : As,(∀ g,g ∈ gs → ∀ b,b ∈ g.1 → LP p q (f b) b) ∧ Sem gs f M
  | [],_,_,M => by
    constructor
    · rintro ⟨_,h⟩;exact ⟨fun _ => (0,(0,0)),by simp,by simpa [Sem] using h⟩
    · rintro ⟨f,_,h⟩;exact ⟨by simp,by simpa [Sem] using h⟩
  | g :: gs,hnd,hok,M => by
    rw [bF] at hnd;obtain ⟨_,n2,n3⟩ := cF.1 hnd;have og := hok g aR;have h0 : ∀ w,w ∈ g.2 → 0 ≤ w.2.1 := fun w hw => (og.ws w hw).m0;have ih := fun M => UK (p := p) (q := q) (gs := gs) n2 (fun x hx => hok x (aN _ hx)) (M := M);rw [List.map_cons,zN1];constructor
    · rintro ⟨h1,h2⟩;rcases AM (p := p) (q := q) h0 with ⟨b1,_⟩ | ⟨w,b1,b2,b3,b4⟩
      · have := h1 g aR;omega
      obtain ⟨f,f1,f2⟩ := (ih (M - mC g p q)).1 ⟨fun x hx => h1 x (aN _ hx),by omega⟩
      have ow := og.ws w b1;have hfi := D7 og ow
      let f' : As := fun b => if b ∈ g.1 then AP g w b else f b
      have e1 : ∀ b,b ∈ g.1 → f' b = AP g w b := fun b hb => if_pos hb
      have e2 : ∀ x,x ∈ gs → ∀ b,b ∈ x.1 → f' b = f b := fun x hx b hb => if_neg fun q => n3 b q b (nN hx hb) rfl;have hfi' : nE g.1 w f' := ⟨hfi.1.trans (jU fun b hb => by rw [e1 b hb]),hfi.2.trans (jU fun b hb => by rw [e1 b hb])⟩
      refine ⟨f',fun x hx b hb => ?_,mC g p q,⟨w,b1,hfi',by omega⟩,(qI e2).2 f2⟩
      rcases bL.1 hx with rfl | hx
      · exact (SU og hfi').1 b2 b hb
      · rw [e2 x hx b hb];exact f1 x hx b hb
    · rintro ⟨f,f1,m,⟨w,w1,w2,w3⟩,f2⟩;have hfw := (SU (p := p) (q := q) og w2).2 (f1 g aR);obtain ⟨i1,i2⟩ := (ih (M - m)).2 ⟨f,fun x hx => f1 x (aN _ hx),f2⟩;rcases AM (p := p) (q := q) h0 with ⟨_,b2⟩ | ⟨v,b1,b2,b3,b4⟩
      · rw [b2 w w1] at hfw;cases hfw
      · have := b4 w w1 hfw;have := h0 v b1;refine ⟨fun x hx => ?_,by omega⟩
        rcases bL.1 hx with rfl | hx
        · omega
        · exact i1 x hx
theorem N4 {c : Cx} {gs : List G} {p q : List Int} (h : mR c gs) : UM c gs p q = true ↔ p.length = c.bs.length ∧ q.length = p.length ∧ Go.Pm.permB p = true ∧ ∃ f : As,(∀ b : Int,0 ≤ b → b < c.bs.length → LP p q (f b) b) ∧ Sem gs f c.m := by
  have hs := UK (p := p) (q := q) h.mid.out.nd h.mid.out.ok (M := c.m);have e : zD gs p q gs.length = (gs.map fun g => mC g p q).sum := by unfold zD;rw [dD]
  unfold UM;simp only [aJ,decide_eq_true_eq,bA,e,and_assoc];rw [hs];have hb : ∀ f : As,(∀ g,g ∈ gs → ∀ b,b ∈ g.1 → LP p q (f b) b) ↔ ∀ b : Int,0 ≤ b → b < c.bs.length → LP p q (f b) b := fun f => by
    constructor
    · intro h1 b b0 b1;obtain ⟨g,hg,hbg⟩ := h.mid.find ⟨b0,b1⟩;exact h1 g hg b hbg
    · intro h1 g hg b hbg;have := (h.mid.out.ok g hg).rg b hbg;exact h1 b this.1 this.2
  simp only [hb]
theorem KX {n : Nat} {g : G} {w : W} {f : As} (ok : vK n g) (ow : V9 n g.1.length w) : nE g.1 w f ↔ ∀ b,b ∈ g.1 → AP g w b = f b := by
  have h := D7 ok ow;constructor
  · intro hf b hb;have e1 := h.1.symm.trans hf.1;have e2 := h.2.symm.trans hf.2;exact Prod.ext (K4.1 e1 b hb) (K4.1 e2 b hb)
  · intro hp;exact ⟨h.1.trans (jU fun b hb => by rw [hp b hb]),h.2.trans (jU fun b hb => by rw [hp b hb])⟩
theorem Z0 {n : Nat} {x y : G} (jo : sO n x y) {u v : W} (hu : u ∈ x.2) (hv : v ∈ y.2) {f : As} : nE (lT x y).1 (yK x y u v (lT x y).1) f ↔ nE x.1 u f ∧ nE y.1 v f := by
  rw [KX jo.gx (jo.gx.ws u hu),KX jo.gy (jo.gy.ws v hv)];have hm : ∀ b,b ∈ (lT x y).1 ↔ b ∈ x.1 ∨ b ∈ y.1 := fun b => (lF x y).mem_iff.trans bB;generalize (lT x y).1 = l at *;have e1 : ∀ b,(if b ∈ x.1 then gP u (x.1.idxOf b) else gP v (y.1.idxOf b)) = (if b ∈ x.1 then AP x u b else AP y v b).1 := fun b => by split <;> rfl
  have e2 : ∀ b,(if b ∈ x.1 then gC u (x.1.idxOf b) else gC v (y.1.idxOf b)) = (if b ∈ x.1 then AP x u b else AP y v b).2 := fun b => by split <;> rfl
  unfold nE yK;simp only [e1,e2];rw [K4,K4];constructor
  · rintro ⟨h1,h2⟩;have h : ∀ b,b ∈ l → (if b ∈ x.1 then AP x u b else AP y v b) = f b := fun b hb => Prod.ext (h1 b hb) (h2 b hb)
    refine ⟨fun b hb => ?_,fun b hb => ?_⟩
    · have := h b ((hm b).2 (.inl hb));rwa [if_pos hb] at this
    · have := h b ((hm b).2 (.inr hb));rwa [if_neg (fun q => jo.dj b q hb)] at this
  · rintro ⟨h1,h2⟩;have h : ∀ b,b ∈ l → (if b ∈ x.1 then AP x u b else AP y v b) = f b := fun b hb => by
      by_cases hx : b ∈ x.1
      · rw [if_pos hx];exact h1 b hx
      · rw [if_neg hx];exact h2 b (((hm b).1 hb).resolve_left hx)
    exact ⟨fun b hb => by rw [h b hb],fun b hb => by rw [h b hb]⟩
theorem RG {n : Nat} {x y : G} (jo : sO n x y) {f : As} {M : Int} : zS (lT x y) f M ↔ ∃ m,zS x f m ∧ zS y f (M - m) := by
  constructor
  · rintro ⟨w,hw,hf,hm⟩;obtain ⟨u,v,hu,hv,rfl⟩ := xK hw;obtain ⟨h1,h2⟩ := (Z0 jo hu hv).1 hf;change u.2.1 + v.2.1 ≤ M at hm;exact ⟨u.2.1,⟨u,hu,h1,fC _⟩,v,hv,h2,by omega⟩
  · rintro ⟨m,⟨u,hu,h1,h3⟩,v,hv,h2,h4⟩;refine ⟨yK x y u v (lT x y).1,gJ.2 ⟨u,hu,bI.2 ⟨v,hv,rfl⟩⟩,(Z0 jo hu hv).2 ⟨h1,h2⟩,?_⟩;show u.2.1 + v.2.1 ≤ M;omega
theorem JV {u v J : G} {L : List G} {f : As} (h : ∀ M,zS J f M ↔ ∃ m,zS u f m ∧ zS v f (M - m)) {M : Int} : Sem (J :: L) f M ↔ Sem (u :: v :: L) f M := by
  simp only [Sem,h];constructor
  · rintro ⟨m,⟨m',h1,h2⟩,h3⟩;exact ⟨m',h1,m - m',h2,h3.mono (by omega)⟩
  · rintro ⟨m,h1,m',h2,h3⟩;exact ⟨m + m',⟨m,h1,by rw [show m + m' - m = m' by omega];exact h2⟩,h3.mono (by omega)⟩
theorem ET {P Q R : List G} {u v : G} : (P ++ u :: (Q ++ v :: R)).Perm (u :: v :: (P ++ (Q ++ R))) := by
  refine List.perm_middle.trans (List.Perm.cons _ ?_);rw [← bH,← bH];exact lM
theorem RQ {c : Cx} {gs all : List G} {a b : Int} (h : nD c c.m gs) (ha : 0 ≤ a ∧ a < c.bs.length) (hb : 0 ≤ b ∧ b < c.bs.length) (e : join gs a b = some all) {f : As} {M : Int} : Sem all f M ↔ Sem gs f M := by
  obtain ⟨i,x,hi,hix,hax⟩ := jM (h.find ha);obtain ⟨k,y,hk,hky,hby⟩ := jM (h.find hb);have hx := aL hix;have hy := aL hky;unfold join at e;dsimp only at e;rw [hi,hk] at e;split at e
  · cases e;exact Iff.rfl
  · rename_i hik;have gi : kO gs ((i : Int)).toNat = x := by unfold kO;rw [aC];show (gs[i]?).getD _ = x;rw [hix];rfl
    have gk : kO gs ((k : Int)).toNat = y := by unfold kO;rw [aC];show (gs[k]?).getD _ = y;rw [hky];rfl
    rw [gi,gk] at e;split at e
    · cases e
    · rename_i hsz;cases e;have nd := h.out.nd;have ndi : (gs.flatMap fun g => (gV g).1).Nodup := h.idn.nodup_iff.2 (xI _)
      have jo : sO c.bs.length x y := by
        rcases jZ (show i ≠ k by omega) with hlt | hlt
        · obtain ⟨P,Q,R,e1,-⟩ := oH x hlt hix hky;rw [e1] at ndi nd;simp only [fK,bF] at ndi nd;exact ⟨h.out.ok x hx,h.out.ok y hy,h.ne x hx,h.ne y hy,fun b h1 h2 => (cF.1 (cF.1 nd).2.1).2.2 b h1 b (by simp [h2]) rfl,fun b h1 h2 => (cF.1 (cF.1 ndi).2.1).2.2 b h1 b (by simp [h2]) rfl,by omega⟩
        · obtain ⟨P,Q,R,e1,-⟩ := oH y hlt hky hix;rw [e1] at ndi nd;simp only [fK,bF] at ndi nd;exact ⟨h.out.ok x hx,h.out.ok y hy,h.ne x hx,h.ne y hy,fun b h1 h2 => (cF.1 (cF.1 nd).2.1).2.2 b h2 b (by simp [h1]) rfl,fun b h1 h2 => (cF.1 (cF.1 ndi).2.1).2.2 b h2 b (by simp [h1]) rfl,by omega⟩
      have h1 := fun M => RG jo (f := f) (M := M);have h2 : ∀ M,zS (lT x y) f M ↔ ∃ m,zS y f m ∧ zS x f (M - m) := fun M => by
        rw [h1];constructor
        · rintro ⟨m,a,b⟩;exact ⟨M - m,b,by rw [show M - (M - m) = m by omega];exact a⟩
        · rintro ⟨m,a,b⟩;exact ⟨M - m,b,by rw [show M - (M - m) = m by omega];exact a⟩
      generalize lT x y = J at *;rcases jZ (show i ≠ k by omega) with hlt | hlt
      · obtain ⟨P,Q,R,e1,e2⟩ := oH J hlt hix hky;rw [show (min (i : Int) (k : Int)).toNat = i by omega,show (max (i : Int) (k : Int)).toNat = k by omega,e2,e1,nI ET,nI lM]
        exact JV h1
      · obtain ⟨P,Q,R,e1,e2⟩ := oH J hlt hky hix;rw [show (min (i : Int) (k : Int)).toNat = k by omega,show (max (i : Int) (k : Int)).toNat = i by omega,e2,e1,nI ET,nI lM]
        exact JV h2
theorem WP {c : Cx} {M0 : Int} {all : List G} {s : Ev} (h : yU c M0 all s) {i : Nat} {g : G} (hi : all[i]? = some g) (ha : s.a ∈ g.1) (hb : s.k = 4 → s.b ∈ g.1 ∧ s.a ≠ s.b) {f' : As} {M : Int} :
    Sem (all.set i (g.1,fY (lR c s g))) f' M ↔ ∃ f d,W2 c s f f' d ∧ Sem all f (M - d) := by
  have hg := aL hi;have og := h.mid.out.ok g hg;have nd := h.mid.out.nd;obtain ⟨A,B,e1,e2⟩ := pG (y := (g.1,fY (lR c s g))) hi;have hon := fun M => RF (c := c) og ha hb (f' := f') (M := M);have hoff : ∀ f d,W2 c s f f' d → ∀ x,x ∈ A ++ B → ∀ b,b ∈ x.1 → f' b = f b := fun f d st x hx b hbx => by
    have hbg : b ∉ g.1 := fun q => by
      rw [e1] at nd;simp only [fK,bF] at nd;obtain ⟨_,n1,n2⟩ := cF.1 nd;obtain ⟨_,_,n3⟩ := cF.1 n1;rcases bB.1 hx with hx | hx
      · exact n2 b (nN hx hbx) b (bB.2 (.inl q)) rfl
      · exact n3 b q b (nN hx hbx) rfl
    rcases st with ⟨_,rfl,_⟩ | ⟨hk,rfl,_⟩
    · unfold upd;rw [if_neg (fun q : b = s.a => hbg (q ▸ ha))]
    · unfold DX;rw [if_neg (fun q : b = s.a => hbg (q ▸ ha)),if_neg (fun q : b = s.b => hbg (q ▸ (hb hk).1))]
  rw [e2,nI lM];have e1' : ∀ f M,Sem all f M ↔ Sem (g :: (A ++ B)) f M := fun f M => by rw [e1];exact nI lM
  simp only [e1',Sem,hon];constructor
  · rintro ⟨m,⟨f,d,st,h1⟩,h2⟩;exact ⟨f,d,st,m - d,h1,((qI (hoff f d st)).1 h2).mono (by omega)⟩
  · rintro ⟨f,d,st,m,h1,h2⟩;exact ⟨m + d,⟨f,d,st,h1.mono (by omega)⟩,((qI (hoff f d st)).2 h2).mono (by omega)⟩
theorem EI {c : Cx} {M0 : Int} {l all : List G} {s : Ev} (h : yU c M0 all s) (hM : M0 ≤ 2200000) (hab : s.k = 4 → s.a ≠ s.b) {f' : As} {M : Int} (hm : M ≤ c.m) :
    ((vO c l all s).1 = 0 → (Sem (vO c l all s).2 f' M ↔ ∃ f d,W2 c s f f' d ∧ Sem all f (M - d))) ∧ ((vO c l all s).1 = 26 → ¬ ∃ f d,W2 c s f f' d ∧ Sem all f (M - d)) := by
  obtain ⟨i,g,hi,hg,hgm,hat,ha,hb⟩ := h.at;have hp := WP (c := c) h hg ha (fun hk => ⟨hb hk,hab hk⟩) (f' := f') (M := M);have hnx := h.next hM hg ha hb
  unfold vO;dsimp only;rw [hat,hi,bQ];by_cases h0 : fY (lR c s g) = []
  · rw [if_pos h0];refine ⟨fun q => (by cases q),fun _ q => ?_⟩
    have hs := hp.2 q;obtain ⟨A,B,e1,e2⟩ := pG (y := (g.1,fY (lR c s g))) hg;rw [e2,nI lM] at hs;obtain ⟨m,⟨w,hw,_⟩,_⟩ := hs;rw [h0] at hw;cases hw
  · rw [if_neg h0];by_cases h1 : 1000 < (fY (lR c s g)).length
    · rw [if_pos h1];exact ⟨fun q => (by cases q),fun q => (by cases q)⟩
    · rw [if_neg h1];obtain ⟨hm1,hasc⟩ := hnx h0 (by omega)
      generalize all.set i (g.1,fY (lR c s g)) = N at *;have ht : Sem (A0 c N) f' M ↔ Sem N f' M := by
        unfold A0;rw [ME (hm1.out.paid c).ok,PR hm]
      by_cases hany : (A0 c N).any (fun g => g.2.isEmpty) = true
      · rw [if_pos hany];refine ⟨fun q => (by cases q),fun _ q => ?_⟩
        have hs := ht.2 (hp.2 q);obtain ⟨x,hx,hxe⟩ := jJ.1 hany;obtain ⟨A,B,e⟩ := List.append_of_mem hx;rw [e,nI lM] at hs;obtain ⟨m,⟨w,hw,_⟩,_⟩ := hs;rw [List.isEmpty_iff.1 hxe] at hw;cases hw
      · rw [if_neg hany];exact ⟨fun _ => ht.trans hp,fun q => (by cases q)⟩
theorem JX {c : Cx} {gs : List G} {s : Ev} (h : mR c gs) (hm0 : 0 ≤ c.m) (hm1 : c.m ≤ 1048576) (hr : jV c.bs.length s = true) {f' : As} {M : Int} (hm : M ≤ c.m) :
    ((nY c gs s).1 = 0 → (Sem (nY c gs s).2 f' M ↔ ∃ f d,W2 c s f f' d ∧ Sem gs f (M - d))) ∧ ((nY c gs s).1 = 26 → ¬ ∃ f d,W2 c s f f' d ∧ Sem gs f (M - d)) := by
  have hn := h.mid.n12;obtain ⟨r1,r2,_⟩ := pP hr (by omega)
  have hab : s.k = 4 → s.a ≠ s.b := fun hk => by have := r2 hk;omega
  unfold nY;rw [if_pos hr];by_cases hk : s.k = 4
  · rw [if_pos hk];cases hj : join gs s.a s.b with
    | none => exact ⟨fun q => (by cases q),fun q => (by cases q)⟩
    | some all =>
      dsimp only;have := EI (l := gs) (zF h (by omega) hm0 hm1 hr hk hj) (by omega) hab (f' := f') hm
      have hb := r2 hk;have js : ∀ f M,Sem all f M ↔ Sem gs f M := fun f M => RQ h.mid r1 ⟨by omega,by omega⟩ hj
      simp only [js] at this;exact this
  · rw [if_neg hk];exact EI (l := gs) (F3 h (by omega) hm0 hr hk) (by omega) hab hm
def c0 : Cx := ⟨1,1,0,0,[(⟨#[110,117,116]⟩,10)],[(0,0,false),(0,0,false),(0,0,false)],[(0,5,0),(1,3,0),(2,2,0)]⟩
theorem GI : rK c0 := ⟨⟨by decide,by decide,by decide,by decide,by decide,by decide,by decide,by decide,by decide⟩,by unfold mO c0;decide⟩
theorem DS {c : Cx} (hc : rK c) : sA c.ks c.ls (nats (List.range c.bs.length)) c.bs :=
  ⟨hc.f.len,fun i hi => qU.2 ⟨by omega,by simp at hi;omega⟩,hc.f.k,hc.f.l,hc.f.b⟩
end Go.Ld
namespace Go.Proofs.YtmmkhmilpeodnaaGreat
open Go Go.Ab Go.Ld
attribute [local irreducible] VC AW bX aT kT
set_option maxHeartbeats 4000000
theorem M6 (n : Nat) (h : n ≤ 17592186043904) : aT Tryz.prog 24 [.i (n : Int)] [] (.rowE (ints (nats (List.range n))) 1) [] := by
  have h1 := XO (n : Int) (by omega)
  rw [bQ] at h1;exact nB (by simp) (gX (bS _)) h1
theorem RM (c : Cx) (hc : rK c) : aT Tryz.prog 9 [.agg [.i c.m,.i c.st,.i c.er,.i c.sl],.rowE (iI c.ks) 2,.rowE (kX c.ls) 3,.rowE (fS c.bs) 3] [] (.tup [.ptr 0 0,.i 0]) [.cells (gL c (qT c))] := by
  have hbl : (fS c.bs).length = c.bs.length := bC _;have h8 := hc.f.n8;have h9 := hc.f.k10;have h10 := hc.f.l10;have hnl : (nats (List.range c.bs.length)).length = c.bs.length := by simp
  refine zI3 c hc ?_ (BD (DS hc) (by omega) (by omega) (by omega))
  rw [hbl];exact M6 _ (by omega)
theorem XP : aT Tryz.prog 34 [] [] (.ptr 0 0) [.cells (gL c0 (qT c0))] := by
  have hn := RM c0 GI;change aT _ _ [.agg [.i 1,.i 1,.i 0,.i 0],.rowE [[.v (.string ⟨#[110,117,116]⟩),.i 10]] 2,.rowE [[.i 0,.i 0,.b false],[.i 0,.i 0,.b false],[.i 0,.i 0,.b false]] 3,.rowE [[.i 0,.i 5,.i 0],[.i 1,.i 3,.i 0],[.i 2,.i 2,.i 0]] 3] _ _ _ at hn;generalize hL : gL c0 (qT c0) = L at *;have hLi : AV.idfL L = true := by rw [← hL];rfl
  refine bT T Tryz.func34 rfl rfl rfl rfl ?_
  (repeat' (first|refine wS ?_|(refine rg 0 (aV ?_))|(refine rg 1 (vV (by exact eW T rfl rfl rfl rfl) ?_);refine bV (by exact bE T rfl rfl (by decide) (by decide) rfl rfl rfl) rfl ?_;refine lZ 7 rfl rfl rfl rfl ?_;refine aV ?_)|(refine rg 2 (vV (by exact eW T rfl rfl rfl rfl) ?_);refine vV (by exact eW T rfl rfl rfl rfl) ?_;refine vV (by exact eW T rfl rfl rfl rfl) ?_;refine bV (by exact bE T rfl rfl (by decide) (by decide) rfl rfl rfl) rfl ?_;refine lZ 11 rfl rfl rfl rfl ?_;refine aV ?_)|(refine rg 3 (vV (by exact eW T rfl rfl rfl rfl) ?_);refine vV (by exact eW T rfl rfl rfl rfl) ?_;refine vV (by exact eW T rfl rfl rfl rfl) ?_;refine bV (by exact bE T rfl rfl (by decide) (by decide) rfl rfl rfl) rfl ?_;refine lZ 15 rfl rfl rfl rfl ?_;refine aV ?_)|refine nZ ?_));all_goals try (exfalso;omega)
  (repeat' (first|refine wS ?_|refine wK ?_|refine wR ?_|refine wU ?_|(refine rg 4 (vV (by exact eW T rfl rfl rfl rfl) ?_);refine dS rfl (mW rfl (bV (by exact fZ rfl rfl hn (.inr ⟨rfl,rfl,by simp⟩)) rfl ?_));refine mW rfl (xW rfl (xW rfl (rZ ?_))))|(refine rg 5 (mW rfl (vV (fI rfl rfl) ?_)))|(refine rg 7 (mW rfl (aV ?_)))|refine nZ ?_));all_goals try (exfalso;omega)
  exact ⟨.inl rfl,[3],_,rfl,rfl,rfl,⟨.inr (by show some (AB.cells (AV.mapL _ L)) = some (AB.cells (AV.mapL _ L));rw [nL _ L hLi,nL _ L hLi]),trivial⟩,by decide,lB _⟩
end Go.Proofs.YtmmkhmilpeodnaaGreat
namespace Go.Ld
open Go.Ab Go.Proofs.YtmmkhmilpeodnaaGreat
def e1 : Ev := ⟨4,0,1,0,[]⟩
def e2 : Ev := ⟨0,0,0,0,[1]⟩
def zC8 : List G := qT c0
def J5 : List G := (nY c0 zC8 e1).2
def OJ : List G := (nY c0 J5 e2).2
def FP : List G := (nY c0 OJ e2).2
theorem zN9 : mR c0 zC8 := ID GI (by decide) (by decide)
theorem zB6 : mR c0 J5 := O8 zN9 (by decide) (by decide)
theorem zL7 : mR c0 OJ := O8 zB6 (by decide) (by decide)
theorem zK3 : mR c0 FP := O8 zL7 (by decide) (by decide)
theorem x0 : (nY c0 zC8 e1).1 = 0 := by decide +kernel
theorem x1 : (nY c0 J5 e2).1 = 0 := by decide +kernel
theorem x2 : (nY c0 OJ e2).1 = 0 := by decide +kernel
theorem zK5 : wH J5 0 = some (kO J5 0,0) := by kernel_rfl
theorem zO9 : wH J5 2 = some (kO J5 1,0) := by kernel_rfl
theorem zO8 : wH OJ 0 = some (kO OJ 0,0) := by kernel_rfl
theorem zM1 : wH FP 0 = some (kO FP 0,0) := by kernel_rfl
theorem zP2 : (kO J5 0).1 = [0,1] := by decide +kernel
theorem zP1 : (kO FP 0).1 = [0] := by decide +kernel
theorem zK2 : kQ (kO J5 0) 0 = [0,1] := by unfold kQ;rw [pF];decide +kernel
theorem zL6 : kQ (kO J5 1) 0 = [2] := by unfold kQ;rw [pF];decide +kernel
theorem zO7 : (ZP (kQ (kO OJ 0) 0)).2 = false := by unfold kQ;rw [pF];decide +kernel
theorem zK1 : kQ (kO FP 0) 0 = [1] := by unfold kQ;rw [pF];decide +kernel
theorem zN6 : yA (kO J5 0) 0 = (3,6) := by decide +kernel
theorem zO6 : yA (kO J5 1) 0 = (2,3) := by decide +kernel
theorem zO5 : yA (kO FP 0) 0 = (3,4) := by decide +kernel
theorem a3 : UM c0 FP [1,0,2] [5,3,2] = true := by unfold UM Go.Pm.permB;rw [pF];decide +kernel
end Go.Ld
namespace Go.Proofs.YtmmkhmilpeodnaaGreat
open Go Go.Ab Go.Ld
attribute [local irreducible] VC AW bX aT kT
set_option maxHeartbeats 4000000
theorem PU (a b : List Int) (ha : a.length ≤ 9223372036854775807) : aT Tryz.prog 15 [.rowE (ints a) 1,.rowE (ints b) 1] [] (.b (decide (a = b))) [] := by
  have hal : (ints a).length = a.length := by simp
  have hbl : (ints b).length = b.length := by simp
  by_cases hl : a.length = b.length
  · refine bT T Tryz.func15 rfl rfl rfl rfl ?_
    (repeat' (first|refine wS ?_|refine wB ?_|refine wK ?_|(refine wC rfl ?_ ?_<;>(intro hb;(try simp only [nm] at hb);try (exfalso;omega)))|(refine rg 0 (aV ?_))|(refine rg 1 (mW rfl (qW T rfl (mW rfl (qW T rfl (vV (fI rfl rfl) ?_))))))|(refine rg 3 (aV ?_))|refine nZ ?_));all_goals try (exfalso;omega)
    refine dB (X := {i : Nat // i ≤ a.length ∧ a.take i = b.take i}) (fun i => [(0,.rowE (ints a) 1),(1,.rowE (ints b) 1),(5,.i i.1)]) (fun _ => []) (fun i => a.length - i.1) ⟨0,by omega,rfl⟩ (eL []) ?_
    rintro ⟨i,hi,hg⟩;dsimp only;by_cases hlt : i < a.length
    · have q1 := lU (l := a) (k := i) hlt;have q2 := lU (l := b) (k := i) (by omega)
      by_cases e : a[i] = b[i]
      · (repeat' (first|refine wS ?_|refine wB ?_|refine wK ?_|(refine wC rfl (fun hb => ?_) (fun hb => ?_) <;> (((try simp only [nm] at hb);try (exfalso;omega))))|(refine rg 4 (dS rfl (qW T rfl (vV (aO rfl rfl) ?_))))|(refine cM (id := 6) 26 zU1 (rM 17 9) zU2 dA rfl (by decide +kernel) (dN rfl (dN rfl (dV rfl (ix T rfl (by omega) (cN a) q1) (dO T rfl (dN rfl (dN rfl (dV rfl (ix T rfl (by omega) (cN b) q2) (dO T rfl (dV rfl (fI rfl rfl) ?_)))))))));refine dE ?_)|(refine iA 5 rfl rfl rfl (by omega) (by omega) ?_)|(refine nZ ?_)));all_goals try (exfalso;omega)
        refine ⟨⟨i + 1,hlt,?_⟩,by dsimp only;omega,eL []⟩
        rw [aQ hlt,aQ (by omega),hg,e]
      · rw [show decide (a = b) = false from decide_eq_false (fun h => e (by subst h;rfl))]
        (repeat' (first|refine wS ?_|refine wB ?_|refine wK ?_|refine wR ?_|(refine wC rfl ?_ ?_<;>(intro hb;(try simp only [nm] at hb);try (exfalso;omega)))|(refine rg 4 (dS rfl (qW T rfl (vV (aO rfl rfl) ?_))))|(refine cM (id := 6) 26 zU1 (rM 17 9) zU2 dA rfl (by decide +kernel) (dN rfl (dN rfl (dV rfl (ix T rfl (by omega) (cN a) q1) (dO T rfl (dN rfl (dN rfl (dV rfl (ix T rfl (by omega) (cN b) q2) (dO T rfl (dV rfl (fI rfl rfl) ?_)))))))));refine dE ?_)|(refine rg 7 (aV ?_))|refine nZ ?_));all_goals first | (exfalso;omega) | exact rQ
    · rw [cD (by omega),cD (by omega)] at hg
      rw [show decide (a = b) = true from decide_eq_true hg]
      (repeat' (first|refine wS ?_|refine wR ?_|refine wE ?_|(refine wC rfl ?_ ?_<;>(intro hb;(try simp only [nm] at hb);try (exfalso;omega)))|(refine rg 4 (dS rfl (qW T rfl (vV (aO rfl rfl) ?_))))|(refine rg 8 (aV ?_))|refine nZ ?_));all_goals first | (exfalso;omega) | exact rQ
  · rw [show decide (a = b) = false from decide_eq_false (fun h => hl (by rw [h]))]
    refine bT T Tryz.func15 rfl rfl rfl rfl ?_
    (repeat' (first|refine wS ?_|refine wR ?_|(refine wC rfl ?_ ?_<;>(intro hb;(try simp only [nm] at hb);try (exfalso;omega)))|(refine rg 0 (aV ?_))|(refine rg 1 (mW rfl (qW T rfl (mW rfl (qW T rfl (vV (fI rfl rfl) ?_))))))|(refine rg 2 (aV ?_))|refine nZ ?_));all_goals first | (exfalso;omega) | exact rQ
theorem UQ {S : Nat → Prop} {w : World} {ρ : Pl} {a b d e : AV} {y : Value} (h : R S w (.agg [a,b,d,e,.nils]) ρ y) : R S w (.agg [a,b,d,e,.rowE [] 1]) ρ y := by
  simp only [R] at h ⊢;obtain ⟨ys,e1,h1⟩ := h;exact ⟨ys,e1,lK (fun _ h => h) (fun _ => lK (fun _ h => h) fun _ => lK (fun _ h => h) fun _ => lK (fun _ h => h) fun _ => lK (fun _ h => JF h) fun _ h => h) h1⟩
theorem zA9 : aT Tryz.prog 11 [.ptr 0 0,.agg [.i 4,.i 0,.i 1,.i 0,.nils]] [.cells (gL c0 zC8)] (.i 0) [.cells (gL c0 J5)] := by
  have h := JY c0 zC8 e1 GI zN9 (by decide)
  rw [x0] at h;exact OD h fun S w ρ ys => lK (fun _ h => h) fun ys => lK (fun _ h => UQ h) fun _ h => h
theorem zA8 : aT Tryz.prog 11 [.ptr 0 0,.agg [.i 0,.i 0,.i 0,.i 0,.rowE [[.i 1]] 1]] [.cells (gL c0 J5)] (.i 0) [.cells (gL c0 OJ)] := by
  have h := JY c0 J5 e2 GI zB6 (by decide)
  rw [x1] at h;exact h
theorem zA7 : aT Tryz.prog 11 [.ptr 0 0,.agg [.i 0,.i 0,.i 0,.i 0,.rowE [[.i 1]] 1]] [.cells (gL c0 OJ)] (.i 0) [.cells (gL c0 FP)] := by
  have h := JY c0 OJ e2 GI zL7 (by decide)
  rw [x2] at h;exact h
theorem QG : aT Tryz.prog 27 [.pr (gL c0 J5) 0,.i 0] [] (.sl 0 0 2 1) [.arr [[.i 0],[.i 1]] 1] := by
  have h := R8 c0 J5 0 zB6 zK5;rw [zP2] at h;exact h
theorem QF : aT Tryz.prog 27 [.pr (gL c0 FP) 0,.i 0] [] (.sl 0 0 1 1) [.arr [[.i 0]] 1] := by
  have h := R8 c0 FP 0 zK3 zM1;rw [zP1] at h;exact h
theorem WN : aT Tryz.prog 16 [.pr (gL c0 J5) 0,.i 0] [] (.sl 0 0 2 1) [.arr [[.i 0],[.i 1]] 1] := by
  have h := BI c0 J5 0 zB6 zK5;rw [zK2] at h;exact h
theorem QB : aT Tryz.prog 18 [.pr (gL c0 J5) 0,.i 0] [] (kE 3 6) [] := by
  have h := BG c0 J5 0 zB6 zK5;rw [zN6] at h;exact h
theorem QE : aT Tryz.prog 20 [.pr (gL c0 J5) 0,.i 0,.i 0] [] (.i 0) [] := by
  have h := B6 c0 J5 0 0 zB6 zK5 (by rw [zK2];decide) (by rw [zK2];decide)
  rw [zK2,zN6] at h;exact h
theorem QD : aT Tryz.prog 20 [.pr (gL c0 J5) 0,.i 2,.i 2] [] (.i 2) [] := by
  have h := B6 c0 J5 2 2 zB6 zO9 (by rw [zL6];decide) (by rw [zL6];decide)
  rw [zL6,zO6] at h;exact h
theorem QC : aT Tryz.prog 20 [.pr (gL c0 FP) 0,.i 0,.i 1] [] (.i 3) [] := by
  have h := B6 c0 FP 0 1 zK3 zM1 (by rw [zK1];decide) (by rw [zK1];decide)
  rw [zK1,zO5] at h;exact h
theorem zH5 : ∃ v : Int,aT Tryz.prog 13 [.pr (gL c0 OJ) 0,.i 0] [] (.tup [.i v,.b false]) [] := by
  have h := zJ c0 OJ 0 zL7 zO8;rw [zO7] at h;exact ⟨_,h⟩
theorem zH4 : aT Tryz.prog 13 [.pr (gL c0 FP) 0,.i 0] [] (.tup [.i 1,.b true]) [] := by
  have h := zJ c0 FP 0 zK3 zM1;rw [zK1] at h;exact h
theorem QH : aT Tryz.prog 22 [.pr (gL c0 FP) 0,.rowE [[.i 1],[.i 0],[.i 2]] 1,.rowE [[.i 5],[.i 3],[.i 2]] 1] [] (.b true) [] := by
  have h := AQ c0 FP [1,0,2] [5,3,2] zK3 (by decide) (by decide) (by decide)
  rw [a3] at h;exact h
theorem zH6 : Tryz.prog.underlying 33 = some (.pointer 81) := by kernel_rfl
theorem F1 : aT Tryz.prog 7 [] [] (.b true) [] := by
  have hgv := XP;change aT _ _ _ _ _ [.cells (gL c0 zC8)] at hgv;have s1 := zA9;have s2 := zA8;have s3 := zA7;have k1 := QG;have k2 := WN;have k3 := QB;have k4 := QE;have k5 := QD;obtain ⟨v,k6⟩ := zH5;have k7 := zH4;have k8 := QC;have k9 := QF;have k10 := QH;generalize zC8 = G0 at *;generalize J5 = G1 at *;generalize OJ = G2 at *;generalize FP = G3 at *;have t1 := PU [0,1] [0,1] (by decide)
  rw [show decide (([0,1] : List Int) = [0,1]) = true from rfl] at t1
  have t2 := PU [0] [0] (by decide)
  rw [show decide (([0] : List Int) = [0]) = true from rfl] at t2
  refine bT T Tryz.func7 rfl rfl rfl rfl ?_
  (repeat' (first|refine wS ?_|(refine rg 0 (aV ?_))|(refine rg 1 (bV (by exact fZ rfl rfl hgv (.inr ⟨rfl,rfl,by simp⟩)) rfl ?_);refine aV ?_)|refine nZ ?_));refine fA [(1,.ptr 0 0)] [.cells (gL c0 G0)] ⟨[0],rfl,(by repeat first|exact trivial|refine ⟨rfl,?_⟩),⟨.inr rfl,trivial⟩,by decide,lB _⟩ ?_
  (repeat' (first|refine wS ?_|refine wK ?_|refine wU ?_|(refine rg 2 (mW rfl (vV (by exact S7 zH6 rfl rfl rfl) ?_)))|(refine rg 4 (mW rfl (vV (by exact eW T rfl rfl rfl rfl) ?_));refine fQ [0] rfl rfl (s1) rfl rfl (by decide) ⟨.inr rfl,trivial⟩ (by simp) rfl ?_;refine aV ?_)|refine nZ ?_));all_goals try (exfalso;omega)
  refine fA [(1,.ptr 0 0),(2,.i 0)] [.cells (gL c0 G1)] ⟨[0],rfl,(by repeat first|exact trivial|refine ⟨rfl,?_⟩),⟨.inr rfl,trivial⟩,by decide,lB _⟩ ?_
  (repeat' (first|refine wS ?_|(refine rg 5 (mW rfl (bV (by exact fZ rfl rfl k1 (.inl ⟨.cons (.ptr rfl (gD _ rfl)) (.cons (.v _) .nil),rfl⟩)) rfl ?_));refine lZ 17 rfl rfl rfl rfl ?_;refine bV (by exact bE T rfl rfl (by decide) (by decide) rfl rfl rfl) rfl ?_;refine lZ 18 rfl rfl rfl rfl ?_;refine vV (kC (t1)) (mW rfl (yN rfl (gT (bV (by exact fZ rfl rfl k2 (.inl ⟨.cons (.ptr rfl (gD _ rfl)) (.cons (.v _) .nil),rfl⟩)) rfl ?_))));refine lZ 22 rfl rfl rfl rfl ?_;refine gT (bV (by exact bE T rfl rfl (by decide) (by decide) rfl rfl rfl) rfl ?_);refine lZ 23 rfl rfl rfl rfl ?_;refine yV (kC (t1)) (pW rfl (mW rfl (yN rfl (yV (by exact eU rfl rfl k3 (.cons (.ptr rfl (gD _ rfl)) (.cons (.v _) .nil)) rfl rfl) ?_))));refine yV (by exact eW T rfl rfl rfl rfl) ?_;refine yV (XW ZM rfl rfl) (pW rfl (mW rfl (yN rfl (yV (by exact eU rfl rfl k4 (.cons (.ptr rfl (gD _ rfl)) (.cons (.v _) (.cons (.v _) .nil))) rfl rfl) ?_))));refine yV (eP rfl rfl) (pW rfl (mW rfl (yN rfl (yV (by exact eU rfl rfl k5 (.cons (.ptr rfl (gD _ rfl)) (.cons (.v _) (.cons (.v _) .nil))) rfl rfl) ?_))));refine yV (eP rfl rfl) (pW rfl (aV ?_)))|refine nZ ?_));all_goals try (exfalso;omega)
  refine fA [(1,.ptr 0 0),(2,.i 0),(3,.b true)] [.cells (gL c0 G1)] ⟨[0],rfl,(by repeat first|exact trivial|refine ⟨rfl,?_⟩),⟨.inr rfl,trivial⟩,by decide,lB _⟩ ?_
  (repeat' (first|refine wS ?_|(refine rg 6 (mW rfl (bV (by exact bE T rfl rfl (by decide) (by decide) rfl rfl rfl) rfl ?_));refine lZ 43 rfl rfl rfl rfl ?_;refine vV (by exact eW T rfl rfl rfl rfl) ?_;refine fQ [0] rfl rfl (s2) rfl rfl (by decide) ⟨.inr rfl,trivial⟩ (by simp) rfl ?_;refine aV ?_)|refine nZ ?_));all_goals try (exfalso;omega)
  refine fA [(1,.ptr 0 0),(2,.i 0),(3,.b true),(4,.i 0)] [.cells (gL c0 G2)] ⟨[0],rfl,(by repeat first|exact trivial|refine ⟨rfl,?_⟩),⟨.inr rfl,trivial⟩,by decide,lB _⟩ ?_
  (repeat' (first|refine wS ?_|(refine rg 7 (mW rfl (vV (by exact eU rfl rfl k6 (.cons (.ptr rfl (gD _ rfl)) (.cons (.v _) .nil)) rfl rfl) ?_));refine mW rfl (xW rfl (xW rfl (rZ ?_))))|refine nZ ?_));all_goals try (exfalso;omega)
  refine fA [(1,.ptr 0 0),(2,.i 0),(3,.b true),(4,.i 0),(6,.b false)] [.cells (gL c0 G2)] ⟨[0],rfl,(by repeat first|exact trivial|refine ⟨rfl,?_⟩),⟨.inr rfl,trivial⟩,by decide,lB _⟩ ?_
  (repeat' (first|refine wS ?_|(refine rg 8 (mW rfl (bV (by exact bE T rfl rfl (by decide) (by decide) rfl rfl rfl) rfl ?_));refine lZ 52 rfl rfl rfl rfl ?_;refine vV (by exact eW T rfl rfl rfl rfl) ?_;refine fQ [0] rfl rfl (s3) rfl rfl (by decide) ⟨.inr rfl,trivial⟩ (by simp) rfl ?_;refine aV ?_)|refine nZ ?_));all_goals try (exfalso;omega)
  refine fA [(1,.ptr 0 0),(2,.i 0),(3,.b true),(4,.i 0),(6,.b false),(7,.i 0)] [.cells (gL c0 G3)] ⟨[0],rfl,(by repeat first|exact trivial|refine ⟨rfl,?_⟩),⟨.inr rfl,trivial⟩,by decide,lB _⟩ ?_
  (repeat' (first|refine wS ?_|(refine rg 9 (mW rfl (vV (by exact eU rfl rfl k7 (.cons (.ptr rfl (gD _ rfl)) (.cons (.v _) .nil)) rfl rfl) ?_));refine mW rfl (xW rfl (xW rfl (rZ ?_))))|refine nZ ?_));all_goals try (exfalso;omega)
  refine fA [(1,.ptr 0 0),(2,.i 0),(3,.b true),(4,.i 0),(6,.b false),(7,.i 0),(8,.i 1),(9,.b true)] [.cells (gL c0 G3)] ⟨[0],rfl,(by repeat first|exact trivial|refine ⟨rfl,?_⟩),⟨.inr rfl,trivial⟩,by decide,lB _⟩ ?_
  (repeat' (first|refine wR ?_|(refine rg 10 (mW rfl (vV (eP rfl rfl) (mW rfl (yN rfl (pW rfl (mW rfl (yN rfl (yV (eP rfl rfl) (pV ?_)))))))));refine mW rfl (yN rfl (yV (eD rfl) (pW rfl (mW rfl (yN rfl (yV (eP rfl rfl) (pW rfl (mW rfl (yM ?_)))))))));refine pW rfl (mW rfl (yN rfl (yV (eP rfl rfl) (pW rfl (mW rfl (yN rfl (yV (by exact eU rfl rfl k8 (.cons (.ptr rfl (gD _ rfl)) (.cons (.v _) (.cons (.v _) .nil))) rfl rfl) ?_)))))));refine yV (eP rfl rfl) (pW rfl (mW rfl (yN rfl (gT (bV (by exact fZ rfl rfl k9 (.inl ⟨.cons (.ptr rfl (gD _ rfl)) (.cons (.v _) .nil),rfl⟩)) rfl ?_)))));refine lZ 91 rfl rfl rfl rfl ?_;refine gT (bV (by exact bE T rfl rfl (by decide) (by decide) rfl rfl rfl) rfl ?_);refine lZ 92 rfl rfl rfl rfl ?_;refine yV (kC (t2)) (pW rfl (mW rfl (yN rfl (gT (bV (by exact bE T rfl rfl (by decide) (by decide) rfl rfl rfl) rfl ?_)))));refine lZ 97 rfl rfl rfl rfl ?_;refine gT (bV (by exact bE T rfl rfl (by decide) (by decide) rfl rfl rfl) rfl ?_);refine lZ 98 rfl rfl rfl rfl ?_;refine yV (by exact eU rfl rfl k10 (.cons (.ptr rfl (gD _ rfl)) (.cons (.row _ _ _) (.cons (.row _ _ _) .nil))) rfl rfl) ?_;refine pW rfl (aV ?_))|refine nZ ?_));all_goals try (exfalso;omega)
  all_goals exact rQ
end Go.Proofs.YtmmkhmilpeodnaaGreat
namespace Go.Ld
open Go.Ab Go.Proofs.YtmmkhmilpeodnaaGreat Go.Pm
theorem ER {g : G} {i : Nat} {x : Int} : x ∈ kQ g i ↔ ∃ w,w ∈ g.2 ∧ gP w i = x := by
  unfold kQ J9;rw [GC _ _ _ (aY _),dD];have : x ∈ iC (zI g i) ↔ x ∈ zI g i := (sorted_perm _).mem_iff;rw [this];unfold zI;rw [bI]
theorem EK {g : G} {i : Nat} : ∀ k, k ≤ g.2.length → ∀ w, w ∈ g.2.take k → (EL g i k).1 ≤ (gC w i).1 ∧ (gC w i).2 ≤ (EL g i k).2
  | 0,_,w,hw => by simp at hw
  | k + 1,hk,w,hw => by
    rw [Y4 (by omega)]
    rw [aQ (by omega)] at hw
    unfold SD;dsimp only;rcases bB.1 hw with hw | hw
    · have := EK (i := i) k (by omega) w hw
      omega
    · obtain rfl := bO.1 hw;omega
theorem WH {g : G} {i : Nat} {w : W} (hw : w ∈ g.2) : (yA g i).1 ≤ (gC w i).1 ∧ (gC w i).2 ≤ (yA g i).2 :=
  EK _ (aY _) w (by rw [dD];exact hw)
theorem xF : ∀ {gs : List G} {f : As} {M : Int}, Sem gs f M → ∀ {g : G}, g ∈ gs → ∃ w, w ∈ g.2 ∧ nE g.1 w f
  | [],_,_,_,_,hg => by cases hg
  | x :: gs,f,M,⟨m,⟨w,h1,h2,_⟩,h3⟩,g,hg => by
    rcases bL.1 hg with rfl | hg
    · exact ⟨w,h1,h2⟩
    · exact xF h3 hg
theorem VZ {c : Cx} {gs : List G} {p q : List Int} (h : mR c gs) (ha : UM c gs p q = true) {b : Int} (hb : 0 ≤ b ∧ b < c.bs.length) {g : G} {i : Nat} (hg : wH gs b = some (g,i)) :
    p.getD b.toNat 0 ∈ kQ g i ∧ (yA g i).1 ≤ q.getD (p.getD b.toNat 0).toNat 0 ∧ q.getD (p.getD b.toNat 0).toNat 0 < (yA g i).2 := by
  obtain ⟨_,_,_,f,hf,hs⟩ := (N4 h).1 ha;obtain ⟨k,h1,h2,h3,h4⟩ := tE hg;obtain ⟨w,hw,hfw⟩ := xF hs (aL h2);have hi : i < g.1.length := by rw [h4];exact fM h3
  have hib : g.1[i] = b := by
    obtain ⟨hx,e⟩ := uG h3;subst h4;exact e
  have e1 := S4 hfw hi;have e2 := S6 hfw hi;rw [hib] at e1 e2;obtain ⟨o1,o2⟩ := hf b hb.1 hb.2;have hc := WH (i := i) hw;rw [e2] at hc;unfold rG at o2;simp only [aJ,decide_eq_true_eq] at o2;exact ⟨ER.2 ⟨w,hw,by rw [e1,o1]⟩,by omega,by omega⟩
end Go.Ld
namespace Go.Ld
open Go.Ab Go.Proofs.YtmmkhmilpeodnaaGreat
abbrev L2 (l : List Ev) : List (List AV) := l.map yR
def VH (l : List Ev) : Nat := l.countP fun s => decide (s.k = 4)
def H3 (l : List Ev) (m : Nat) : Bool := (l.take (m + 1)).all (fun s => decide (s.ids.length ≤ 12)) && decide (l.length ≤ m) && decide (VH (l.take (m + 1)) ≤ 5)
theorem xR (l : List Ev) : ∀ e,e ∈ L2 l → e.length = 5 := by intro e he;obtain ⟨n,_,rfl⟩ := bI.1 he;rfl
theorem FY {l : List Ev} {k : Nat} (h : k < l.length) : (L2 l)[(k : Int).toNat]? = some (yR l[k]) := by simp [h]
end Go.Ld
namespace Go.Proofs.YtmmkhmilpeodnaaGreat
open Go Go.Ab Go.Ld
attribute [local irreducible] VC AW bX aT kT
set_option maxHeartbeats 4000000
theorem SW (l : List Ev) (m : Nat) (hm : m ≤ 1000) (hids : ∀ s,s ∈ l → s.ids.length ≤ 9223372036854775807) : aT Tryz.prog 8 [.rowE (L2 l) 5,.i m] [] (.b (H3 l m)) [] := by
  have hll : (L2 l).length = l.length := bC _;have hbad : ∀ k (hk : k < l.length),k ≤ m → ¬ l[k].ids.length ≤ 12 → H3 l m = false := fun k hk hkm hb => by
    unfold H3;rw [show (l.take (m + 1)).all (fun s => decide (s.ids.length ≤ 12)) = false from K6.2 ⟨l[k],List.mem_take_iff_getElem.2 ⟨k,by omega,rfl⟩,by simpa using hb⟩];rfl
  have hgood : (∀ s,s ∈ l.take (m + 1) → s.ids.length ≤ 12) → H3 l m = (decide (l.length ≤ m) && decide (VH (l.take (m + 1)) ≤ 5)) := fun h => by
    unfold H3;rw [bA.2 fun s hs => decide_eq_true (h s hs),iG]
  generalize H3 l m = R at *;refine bT T Tryz.func8 rfl rfl rfl rfl ?_
  (repeat' (first|refine wS ?_|refine wB ?_|(refine rg 0 (aV ?_))|(refine rg 1 (aV ?_))|(refine rg 2 (aV ?_))|refine nZ ?_));refine dB (X := {k : Nat // k ≤ l.length ∧ k ≤ m + 1 ∧ ∀ s,s ∈ l.take k → s.ids.length ≤ 12}) (fun k => [(0,.rowE (L2 l) 5),(1,.i m),(5,.i (VH (l.take k.1))),(6,.i k.1)]) (fun _ => []) (fun k => l.length - k.1) ⟨0,cK _,cK _,fun s hs => by simp at hs⟩ (eL []) ?_
  rintro ⟨k,hk,hkm,hall⟩;dsimp only;have hsw : VH (l.take k) ≤ k := bY List.countP_le_length (by rw [bD];omega)
  by_cases hlt : k < l.length ∧ k ≤ m
  · obtain ⟨h1,h2⟩ := hlt;have hg := FY h1;have hts : l.take (k + 1) = l.take k ++ [l[k]] := aQ h1;have hs1 : VH (l.take (k + 1)) = VH (l.take k) + (if l[k].k = 4 then 1 else 0) := by rw [hts];unfold VH;rw [List.countP_append];simp [List.countP_cons]
    have hbk := hbad k h1 h2;have hx := hids l[k] (aH h1);have hil : (Go.Ab.ints l[k].ids).length = l[k].ids.length := bC _;have hall2 : l[k].ids.length ≤ 12 → ∀ s,s ∈ l.take (k + 1) → s.ids.length ≤ 12 := fun hq s hs => by
      rw [hts] at hs;rcases bB.1 hs with hs | hs
      · exact hall s hs
      · rw [bO.1 hs];exact hq
    generalize l[k] = s at *;generalize hS1 : VH (l.take (k + 1)) = S1 at *;generalize VH (l.take k) = S at *;by_cases hi : s.ids.length ≤ 12
    · by_cases h4 : s.k = 4
      · rw [if_pos h4] at hs1
        (repeat' (first|refine wS ?_|refine wB ?_|refine wK ?_|refine wT ?_|(refine wC rfl ?_ ?_<;>(intro hb;(try simp only [nm] at hb);try (exfalso;omega)))|(refine rg 3 (dS rfl (qW T rfl (vV (aO rfl rfl) (mV ?_))));refine cE rfl rfl ?_ ?_<;>(intro hb;rw [hb];(try simp only [nm] at hb);try (exfalso;omega));(all_goals (refine yN rfl (yN rfl (yV (iX rfl rfl) (pV ?_))))))|(refine rg 5 (dS rfl (vV (ix T rfl (by omega) (xR _) hg) (iP T rfl (qW T rfl (vV (fP rfl rfl) ?_))))))|(refine rg 7 (dS rfl (vV (ix T rfl (by omega) (xR _) hg) (iP T rfl (vV (kK rfl rfl (by omega)) ?_)))))|(refine iA 8 rfl rfl rfl (by omega) (by omega) ?_)|(refine iA 4 rfl rfl rfl (by omega) (by omega) ?_)|refine nZ ?_));all_goals try (exfalso;omega)
        exact ⟨⟨k + 1,h1,by omega,hall2 hi⟩,by dsimp only;omega,[],rfl,⟨rfl,rfl,by dsimp only;rw [hS1,hs1];rfl,rfl,trivial⟩,trivial,cX,lB _⟩
      · rw [if_neg h4] at hs1
        (repeat' (first|refine wS ?_|refine wB ?_|refine wK ?_|refine wU ?_|(refine wC rfl ?_ ?_<;>(intro hb;(try simp only [nm] at hb);try (exfalso;omega)))|(refine rg 3 (dS rfl (qW T rfl (vV (aO rfl rfl) (mV ?_))));refine cE rfl rfl ?_ ?_<;>(intro hb;rw [hb];(try simp only [nm] at hb);try (exfalso;omega));(all_goals (refine yN rfl (yN rfl (yV (iX rfl rfl) (pV ?_))))))|(refine rg 5 (dS rfl (vV (ix T rfl (by omega) (xR _) hg) (iP T rfl (qW T rfl (vV (fP rfl rfl) ?_))))))|(refine rg 7 (dS rfl (vV (ix T rfl (by omega) (xR _) hg) (iP T rfl (vV (gB rfl rfl (by omega)) ?_)))))|(refine iA 4 rfl rfl rfl (by omega) (by omega) ?_)|refine nZ ?_));all_goals try (exfalso;omega)
        exact ⟨⟨k + 1,h1,by omega,hall2 hi⟩,by dsimp only;omega,[],rfl,⟨rfl,rfl,by dsimp only;rw [hS1,hs1];rfl,rfl,trivial⟩,trivial,cX,lB _⟩
    · have hR := hbk hi;subst hR
      (repeat' (first|refine wS ?_|refine wB ?_|refine wK ?_|refine wR ?_|(refine wC rfl ?_ ?_<;>(intro hb;(try simp only [nm] at hb);try (exfalso;omega)))|(refine rg 3 (dS rfl (qW T rfl (vV (aO rfl rfl) (mV ?_))));refine cE rfl rfl ?_ ?_<;>(intro hb;rw [hb];(try simp only [nm] at hb);try (exfalso;omega));(all_goals (refine yN rfl (yN rfl (yV (iX rfl rfl) (pV ?_))))))|(refine rg 5 (dS rfl (vV (ix T rfl (by omega) (xR _) hg) (iP T rfl (qW T rfl (vV (fP rfl rfl) ?_))))))|(refine rg 6 (aV ?_))|refine nZ ?_));all_goals try (exfalso;omega)
      all_goals exact rQ
  · have hke : l.take k = l.take (m + 1) := by
      rcases gQ k l.length with h | h
      · rw [show k = m + 1 by omega]
      · rw [cD h,cD (by omega)]
    rw [hke] at hall hsw ⊢;have hR := hgood hall;subst hR;generalize VH (l.take (m + 1)) = S at *
    (repeat' (first|refine wS ?_|refine wR ?_|refine wE ?_|refine wU ?_|(refine wC rfl ?_ ?_<;>(intro hb;(try simp only [nm] at hb);try (exfalso;omega)))|(refine rg 3 (dS rfl (qW T rfl (vV (aO rfl rfl) (mV ?_))));refine cE rfl rfl ?_ ?_<;>(intro hb;rw [hb];(try simp only [nm] at hb);try (exfalso;omega));(all_goals first|(refine gT (mW rfl (gT (mW rfl (gT (vV (iX rfl rfl) ?_))))))|(iterate 3 refine gF ?_));(all_goals (refine pV ?_)))|(refine rg 9 (mW rfl (qW T rfl (mW rfl (vV (iX rfl rfl) (mV ?_)))));refine cE rfl rfl ?_ ?_<;>(intro hb;rw [hb];(try simp only [nm] at hb);try (exfalso;omega));(all_goals first|(refine gT (mW rfl (gT (vV (iX rfl rfl) ?_))))|(iterate 2 refine gF ?_));(all_goals (refine pW rfl (aV ?_))))|refine nZ ?_));all_goals try (exfalso;omega)
    all_goals (refine cY (.inl rfl) rfl (mD ?_);first | rfl | (rw [AU];simp;omega) | (simp [*];omega) | skip)
end Go.Proofs.YtmmkhmilpeodnaaGreat
namespace Go.Proofs.YtmmkhmilpeodnaaGreat
open Go Go.Ab
attribute [local irreducible] VC AW bX aT
set_option maxHeartbeats 4000000
def VG (N : Nat) (ks : List KD) (ls : List LT) (ps : List Int) (bs : List BX) : Prop := 1 ≤ ps.length ∧ ps.length ≤ N ∧ bs.length ≤ N ∧ ks.length ≤ 10 ∧ ls.length ≤ 10
theorem SO (N : Nat) (hN : N ≤ 8) (ks : List KD) (ls : List LT) (ps : List Int) (bs : List BX) (m st er sl : Int) (h : ¬ VG N ks ls ps bs) :
    aT Tryz.prog 25 [qQ ks ls ps bs,nT m st er sl,.i N] [] (.b false) [] := by
  unfold VG at h;have e1 : (iI ks).length = ks.length := by simp
  have e2 : (kX ls).length = ls.length := by simp
  have e3 : (ints ps).length = ps.length := by simp
  have e4 : (fS bs).length = bs.length := by simp
  refine bT T Tryz.func25 rfl rfl rfl rfl ?_
  (repeat' (first|refine wS ?_|refine wR ?_|(refine rg 0 (bV (cO rfl rfl) rfl (bV (cO rfl rfl) rfl (aV ?_))))|(refine rg 1 (iP T rfl (qW T rfl (vV (jE rfl rfl) (mV ?_))));refine cE rfl rfl ?_ ?_<;>(intro hb;rw [hb];(try simp only [nm] at hb);try (exfalso;omega));(all_goals first|(refine gT (fW T rfl (gT (lW T rfl (gT (qW T rfl (gT (mW rfl (gT (vV (iX rfl rfl) ?_))))))))))|(iterate 5 refine gF ?_));(all_goals (refine pW rfl (mV ?_)));(all_goals first|(refine gK ?_)|(refine cE rfl rfl ?_ ?_<;>(intro hb;rw [hb];(try simp only [nm] at hb);try (exfalso;omega))));(all_goals first|(refine gT (fW T rfl (gT (lW T rfl (gT (qW T rfl (gT (mW rfl (gT (vV (iX rfl rfl) ?_))))))))))|(iterate 5 refine gF ?_));(all_goals (refine pW rfl (mV ?_)));(all_goals first|(refine gK ?_)|(refine cE rfl rfl ?_ ?_<;>(intro hb;rw [hb];(try simp only [nm] at hb);try (exfalso;omega))));(all_goals first|(refine gT (fW T rfl (gT (lW T rfl (gT (qW T rfl (gT (vV (iX rfl rfl) ?_))))))))|(iterate 4 refine gF ?_));(all_goals (refine pW rfl (mV ?_)));(all_goals first|(refine gK ?_)|(refine cE rfl rfl ?_ ?_<;>(intro hb;rw [hb];(try simp only [nm] at hb);try (exfalso;omega))));(all_goals first|(refine gT (fW T rfl (gT (lW T rfl (gT (qW T rfl (gT (vV (iX rfl rfl) ?_))))))))|(iterate 4 refine gF ?_));(all_goals (refine pW rfl (mV ?_)));(all_goals first|(refine gK ?_)|(refine cE rfl rfl ?_ ?_<;>(intro hb;rw [hb];(try simp only [nm] at hb);try (exfalso;omega))));(all_goals ((iterate 2 refine gF ?_);refine pW rfl (mV ?_);(iterate 9 refine gF ?_);refine pW rfl (aV ?_))))|refine nZ ?_));all_goals first | exact rQ | (exfalso;omega) | (refine cY (.inl rfl) rfl (mD ?_);simp;omega)
theorem C8 (N : Nat) (hN : N ≤ 8) (ks : List KD) (ls : List LT) (ps : List Int) (bs : List BX) (m st er sl : Int) (h : VG N ks ls ps bs) {v w : Bool} (hs : xE m st er sl = v) (ht : qO ks ls ps bs = w) :
    aT Tryz.prog 25 [qQ ks ls ps bs,nT m st er sl,.i N] [] (.b (v && w)) [] := by
  unfold VG at h;have e1 : (iI ks).length = ks.length := by simp
  have e2 : (kX ls).length = ls.length := by simp
  have e3 : (ints ps).length = ps.length := by simp
  have e4 : (fS bs).length = bs.length := by simp
  have c1 := hs ▸ PO m st er sl;have c2 := ht ▸ VP ks ls ps bs (by omega) (by omega) (by omega) (by omega)
  cases v <;> cases w
  all_goals
    refine bT T Tryz.func25 rfl rfl rfl rfl ?_
    repeat' (first|refine wS ?_|refine wR ?_|(refine rg 0 (bV (cO rfl rfl) rfl (bV (cO rfl rfl) rfl (aV ?_))))|(refine rg 1 (iP T rfl (qW T rfl (vV (jE rfl rfl) (mV ?_))));refine cE rfl rfl ?_ ?_<;>(intro hb;rw [hb];(try simp only [nm] at hb);try (exfalso;omega));(all_goals (refine yP T rfl (yO T rfl (gT (qW T rfl (yN rfl (yV (iX rfl rfl) (pW rfl (mV ?_)))))));refine cE rfl rfl ?_ ?_<;>(intro hb;rw [hb];(try simp only [nm] at hb);try (exfalso;omega))));(all_goals (refine yP T rfl (yO T rfl (gT (qW T rfl (yN rfl (yV (iX rfl rfl) (pW rfl (mV ?_)))))));refine cE rfl rfl ?_ ?_<;>(intro hb;rw [hb];(try simp only [nm] at hb);try (exfalso;omega))));(all_goals (refine yP T rfl (yO T rfl (gT (qW T rfl (yV (iX rfl rfl) (pW rfl (mV ?_))))));refine cE rfl rfl ?_ ?_<;>(intro hb;rw [hb];(try simp only [nm] at hb);try (exfalso;omega))));(all_goals (refine yP T rfl (yO T rfl (gT (qW T rfl (yV (iX rfl rfl) (pW rfl (mV ?_))))));refine cE rfl rfl ?_ ?_<;>(intro hb;rw [hb];(try simp only [nm] at hb);try (exfalso;omega))));(all_goals (refine yO T rfl (yV (kC (c1)) (pW rfl (mV ?_)))));(all_goals first|(refine gT (fW T rfl (gT (lW T rfl (gT (fW T rfl (gT (lW T rfl (gT (fV T ?_)))))))));refine gT (lW T rfl (gT (fW T rfl (gT (lW T rfl (gT (vV (kC (c2)) ?_))))))))|(iterate 9 refine gF ?_));(all_goals (refine pW rfl (aV ?_))))|refine nZ ?_)
  all_goals first | exact rQ | (exfalso;omega)
theorem YE (N : Nat) (hN : N ≤ 8) (ks : List KD) (ls : List LT) (ps : List Int) (bs : List BX) (m st er sl : Int) :
    aT Tryz.prog 25 [qQ ks ls ps bs,nT m st er sl,.i N] [] (.b false) [] ∨
    (aT Tryz.prog 25 [qQ ks ls ps bs,nT m st er sl,.i N] [] (.b true) [] ∧ zG3 ks ls ps bs ∧ mO m st er sl ∧ sA ks ls ps bs ∧ ps.length ≤ N) := by
  by_cases h : VG N ks ls ps bs
  · cases hs : xE m st er sl
    · cases ht : qO ks ls ps bs
      · exact .inl (C8 N hN ks ls ps bs m st er sl h hs ht)
      · exact .inl (C8 N hN ks ls ps bs m st er sl h hs ht)
    · cases ht : qO ks ls ps bs
      · exact .inl (C8 N hN ks ls ps bs m st er sl h hs ht)
      · exact .inr ⟨C8 N hN ks ls ps bs m st er sl h hs ht,zD4 ⟨h.1,by have := h.2.1;omega,by have := h.2.2.1;omega,h.2.2.2.1,h.2.2.2.2⟩ ht,MC hs,by unfold qO at ht;simpa using ht,h.2.1⟩
  · exact .inl (SO N hN ks ls ps bs m st er sl h)
end Go.Proofs.YtmmkhmilpeodnaaGreat
namespace Go.Ld
open Go.Ab Go.Proofs.YtmmkhmilpeodnaaGreat
theorem VX {l : List Int} {x : Int} (hx : x ∈ l) (h : (ZP l).2 = true) : (ZP l).1 = x := by
  unfold ZP at h ⊢;split at h
  · rename_i h1;rw [if_pos h1];obtain ⟨y,rfl⟩ := W6.1 h1;rw [bO.1 hx];rfl
  · cases h
theorem FI {c : Cx} {l : List Int} {r : SP} {x lot : Int} (hx : x ∈ l) (h : (c.bs.getD x.toNat (0,0,0)).1 ≠ lot) : zH c l r lot = 0 := by
  unfold zH;rw [if_pos (.inr (jJ.2 ⟨x,hx,decide_eq_true h⟩))]
theorem MZ {c : Cx} {l : List Int} {r : SP} {n lot : Int} (h0 : 0 ≤ n) (h : r.1 ≤ n) : zH c l r lot ≤ n := by
  unfold zH;split
  · exact h0
  · exact h
theorem QJ {c : Cx} {gs : List G} (h : mR c gs) {g : G} (hg : g ∈ gs) {i : Nat} (hi : i < g.1.length) : ∀ x,x ∈ kQ g i → 0 ≤ x ∧ x < c.bs.length := by
  intro x hx;obtain ⟨w,hw,rfl⟩ := ER.1 hx;obtain ⟨a,b,_⟩ := ((h.mid.out.ok g hg).ws w hw).at hi;exact ⟨a,b⟩
theorem ES {g : G} {i : Nat} : (kQ g i).length ≤ g.2.length := by
  unfold kQ J9;refine bY (oU _ _) ?_;have : (iC (zI g i)).length = (zI g i).length := (Go.Pm.sorted_perm _).length_eq;rw [this];unfold zI;rw [bC];exact aY _
theorem ZZ {l u n : Int} (hu : 0 < u) : (l + u - 1) / u ≤ n ↔ l ≤ n * u := by
  have h : (l + u - 1) / u < n + 1 ↔ l + u - 1 < (n + 1) * u := Int.ediv_lt_iff_lt_mul hu;rw [Int.add_mul] at h;omega
theorem ZY {l u n : Int} (hu : 0 < u) : n < l / u + 1 ↔ n * u ≤ l := by
  have h : n ≤ l / u ↔ n * u ≤ l := Int.le_ediv_iff_mul_le hu;omega
theorem lX {f t n : Int} : rG f t n = true ↔ f ≤ n ∧ n < t := by unfold rG;simp
theorem T4 {f t v : Int} (h0 : 0 ≤ v) (h1 : v ≤ 20000) : ((D3 f t).2 = true ∧ rG (D3 f t).1.1 (D3 f t).1.2 v = true) ↔ f ≤ v ∧ v < t := by
  unfold D3;dsimp only;rw [lX];rcases T3 f t with ⟨a,b,d,e⟩ | ⟨a,b,d,e⟩
  · rw [a,b,d];constructor
    · rintro ⟨_,_⟩;omega
    · intro _;exact ⟨rfl,by omega⟩
  · rw [a];constructor
    · rintro ⟨h,_⟩;cases h
    · intro _;omega
theorem VK {t u w e v : Int} (hf : 0 ≤ t ∧ t ≤ 1099511627776 ∧ 0 ≤ u ∧ u ≤ 1099511627776 ∧ 0 ≤ w ∧ w ≤ 1099511627776 ∧ 0 ≤ e ∧ e ≤ 1099511627776) (h0 : 0 ≤ v) (h1 : v ≤ 20000) :
    ((ON t u w e).2 = true ∧ rG (ON t u w e).1.1 (ON t u w e).1.2 v = true) ↔ w - e ≤ t + v * u ∧ t + v * u ≤ w + e := by
  have b1 : 0 ≤ v * u := Int.mul_nonneg h0 hf.2.2.1;unfold ON;rw [if_pos (show AH t u w e = true by unfold AH;rw [decide_eq_true_eq];exact hf)]
  by_cases c1 : w + e - t < 0 ∨ u = 0 ∧ 0 < w - e - t
  · rw [if_pos c1];constructor
    · rintro ⟨h,_⟩;cases h
    · rintro ⟨a,b⟩;rcases c1 with c1 | ⟨rfl,c1⟩ <;> omega
  · rw [if_neg c1];by_cases c2 : u = 0
    · rw [if_pos c2];dsimp only;rw [lX];subst c2;constructor
      · rintro ⟨_,_⟩;omega
      · rintro _;exact ⟨rfl,by omega⟩
    · rw [if_neg c2,T4 h0 h1];have hu : 0 < u := by omega
      have g1 : zG5 t u w e ≤ v ↔ max (w - e - t) 0 ≤ v * u := ZZ hu;have g2 : v < zG4 t u w e ↔ v * u ≤ w + e - t := ZY hu;omega
theorem LS {t u w e v : Int} {r : SP} (hf : 0 ≤ t ∧ t ≤ 1099511627776 ∧ 0 ≤ u ∧ u ≤ 1099511627776 ∧ 0 ≤ w ∧ w ≤ 1099511627776 ∧ 0 ≤ e ∧ e ≤ 1099511627776) (h0 : 0 ≤ v) (h1 : v ≤ 20000) :
    ((sE t u w e r).2 = true ∧ rG (sE t u w e r).1.1 (sE t u w e r).1.2 v = true) ↔ rG r.1 r.2 v = true ∧ w - e ≤ t + v * u ∧ t + v * u ≤ w + e := by
  have hw := VK hf h0 h1;unfold sE;generalize ON t u w e = q at *;dsimp only;by_cases hq : q.2 = true
  · rw [if_pos hq,T4 h0 h1,← hw,lX,lX];constructor
    · intro h;exact ⟨by omega,hq,by omega⟩
    · rintro ⟨a,_,b⟩;omega
  · rw [if_neg hq,← hw];constructor
    · rintro ⟨a,_⟩;exact absurd a hq
    · rintro ⟨_,a,_⟩;exact absurd a hq
theorem LF {c : Cx} {s : Ev} {x : Int × SP} {v : Int} (hb : 0 ≤ (c.bs.getD x.1.toNat (0, 0, 0)).2.2 ∧ (c.bs.getD x.1.toNat (0, 0, 0)).2.2 ≤ 1073741824)
    (hu : 0 ≤ pA c.ks c.ls (c.bs.getD x.1.toNat (0,0,0)).1 ∧ pA c.ks c.ls (c.bs.getD x.1.toNat (0,0,0)).1 ≤ 1048576) (hs : mO c.m c.st c.er c.sl) (hn : s.k = 1 → 0 ≤ s.n ∧ s.n ≤ 1099511627776) (h0 : 0 ≤ v) (h1 : v ≤ 20000) (h2 : s.k ≠ 2) :
    ((D5 c s x).2.2 = true ∧ rG (D5 c s x).1.2.1 (D5 c s x).1.2.2 v = true) ↔ rG x.2.1 x.2.2 v = true ∧ OC c.st c.er c.sl x.1 v ((c.bs.getD x.1.toNat (0,0,0)).2.2 + v * pA c.ks c.ls (c.bs.getD x.1.toNat (0,0,0)).1) s.k s.n s.ids = true := by
  unfold mO at hs;unfold D5 OC;by_cases k0 : s.k = 0
  · rw [if_pos k0,if_pos k0];by_cases hm : x.1 ∈ s.ids
    · rw [if_pos hm,if_pos hm];dsimp only;exact And.comm
    · rw [if_neg hm,if_neg hm];dsimp only;rw [Int.sub_zero];exact And.comm
  rw [if_neg k0,if_neg k0];by_cases k1 : s.k = 1
  · rw [if_pos k1,if_pos k1];dsimp only;have hn := hn k1;rw [LS (by omega) h0 h1]
    unfold iF;simp
  rw [if_neg k1,if_neg k1,if_neg h2,if_neg h2];by_cases k3 : s.k = 3
  · rw [if_pos k3,if_pos k3];dsimp only;rw [lX,lX,lX,decide_eq_true_eq];omega
  rw [if_neg k3,if_neg k3];by_cases k5 : s.k = 5
  · rw [if_pos k5,if_pos k5];dsimp only;rw [decide_eq_true_eq,decide_eq_true_eq];constructor
    · rintro ⟨a,b⟩;exact ⟨b,a.symm⟩
    · rintro ⟨a,b⟩;exact ⟨b.symm,a⟩
  · rw [if_neg k5,if_neg k5];exact And.comm
theorem GK {c : Cx} {s : Ev} {x : Int × SP} {v : Int} (hx : 0 ≤ x.2.1 ∧ x.2.1 < x.2.2 ∧ x.2.2 ≤ 20001) (hs : mO c.m c.st c.er c.sl) (hn : 0 ≤ s.n ∧ s.n ≤ 1099511627776) (h0 : 0 ≤ v) (h1 : v ≤ 20000) (h2 : s.k = 2) :
    ((D5 c s x).2.2 = true ∧ rG (D5 c s x).1.2.1 (D5 c s x).1.2.2 v = true) ↔ ∃ u d : Int,rG x.2.1 x.2.2 u = true ∧ s.n - c.sl ≤ u ∧ 0 ≤ d ∧ d ≤ u ∧ s.n - c.sl ≤ d ∧ d ≤ s.n + c.sl ∧ v = u - d := by
  unfold mO at hs;unfold D5;rw [if_neg (by omega),if_neg (by omega),if_pos h2]
  dsimp only;unfold vW;rw [if_pos (by omega),T4 h0 h1]
  simp only [lX];constructor
  · intro h;by_cases hc : v + max (s.n - c.sl) 0 ≤ x.2.1
    · exact ⟨x.2.1,x.2.1 - v,by omega,by omega,by omega,by omega,by omega,by omega,by omega⟩
    · exact ⟨v + max (s.n - c.sl) 0,max (s.n - c.sl) 0,by omega,by omega,by omega,by omega,by omega,by omega,by omega⟩
  · rintro ⟨u,d,a1,a2,a3,a4,a5,a6,rfl⟩;omega
theorem GL {c : Cx} {s : Ev} {x : Int × SP} (h : (D5 c s x).2.2 = true) : (D5 c s x).2.1 = ZU c.st x.1 s.k s.ids := by
  unfold D5 ZU at *;by_cases k0 : s.k = 0
  · rw [if_pos k0] at h ⊢;rw [if_pos k0];by_cases hm : x.1 ∈ s.ids
    · rw [if_pos hm] at h ⊢;simp only [if_pos hm];simp only [decide_eq_true_eq] at h;rw [if_neg (by omega)]
    · rw [if_neg hm] at h ⊢;simp only [if_neg hm];simp only [decide_eq_true_eq] at h;rw [if_neg (by omega)]
  · rw [if_neg k0,if_neg k0]
    repeat' split
    all_goals rfl
def tS (p : List Int) (s : Ev) (done : Int) : List Int := if s.k = 4 ∧ done = 1 then (p.set s.a.toNat (p.getD s.b.toNat 0)).set s.b.toNat (p.getD s.a.toNat 0) else p
def rH (p q : List Int) (s : Ev) (done : Int) : List Int := if s.k = 2 then q.set (p.getD s.a.toNat 0).toNat (q.getD (p.getD s.a.toNat 0).toNat 0 - done) else q
def VI (c : Cx) (p q : List Int) (s : Ev) : Bool :=
  OC c.st c.er c.sl (p.getD s.a.toNat 0) (q.getD (p.getD s.a.toNat 0).toNat 0) ((c.bs.getD (p.getD s.a.toNat 0).toNat (0,0,0)).2.2 + q.getD (p.getD s.a.toNat 0).toNat 0 * pA c.ks c.ls (c.bs.getD (p.getD s.a.toNat 0).toNat (0,0,0)).1) s.k s.n s.ids
def yC (c : Cx) (p q : List Int) (s : Ev) (done : Int) : Bool := OA c.sl (q.getD (p.getD s.a.toNat 0).toNat 0) s.k s.n done
def uC (c : Cx) (p : List Int) (s : Ev) : Int := ZU c.st (p.getD s.a.toNat 0) s.k s.ids
def vD (c : Cx) (p q : List Int) (f : As) : Prop := ∀ b : Int,0 ≤ b → b < c.bs.length → LP p q (f b) b
structure PQ (c : Cx) (p q : List Int) : Prop where
  pl : p.length = c.bs.length
  ql : q.length = c.bs.length
  pp : p.Perm (nats (List.range c.bs.length))
  q0 : ∀ x,x ∈ q → 0 ≤ x ∧ x ≤ 20000
theorem EV {p : List Int} {n : Nat} (hl : p.length = n) : Go.Pm.permB p = true ↔ p.Perm (nats (List.range n)) := by
  unfold Go.Pm.permB;rw [decide_eq_true_eq,hl];constructor
  · intro h;rw [← h];exact (Go.Pm.sorted_perm p).symm
  · intro h;refine List.Perm.eq_of_pairwise (le := fun a b => a ≤ b) (fun a b _ _ h1 h2 => Int.le_antisymm h1 h2) ?_ ?_ ((Go.Pm.sorted_perm p).trans h)
    · have := List.pairwise_mergeSort (le := fun x y : Int => decide (x ≤ y)) (fun a b d h1 h2 => decide_eq_true (W8 (of_decide_eq_true h1) (of_decide_eq_true h2))) (fun a b => by rw [yG,decide_eq_true_eq,decide_eq_true_eq];omega) p
      exact this.imp (fun h => of_decide_eq_true h)
    · exact (W4 (n := n)).imp (fun h => h) |>.map _ (fun a b h => by omega)
theorem PQ.at {c : Cx} {p q : List Int} (h : PQ c p q) {b : Int} (h0 : 0 ≤ b) (h1 : b < c.bs.length) : 0 ≤ p.getD b.toNat 0 ∧ p.getD b.toNat 0 < c.bs.length := by
  have hl := h.pl;have hm : p.getD b.toNat 0 ∈ p := by rw [aC,aA (by omega)];exact aH _
  exact qU.1 (h.pp.mem_iff.1 hm)
theorem PQ.inj {c : Cx} {p q : List Int} (h : PQ c p q) {a b : Int} (h0 : 0 ≤ a) (h1 : a < c.bs.length) (h2 : 0 ≤ b) (h3 : b < c.bs.length) (e : p.getD a.toNat 0 = p.getD b.toNat 0) : a = b := by
  have hl := h.pl;have nd : p.Nodup := h.pp.nodup_iff.2 (xI _);rw [aC,aA (by omega),aC,aA (by omega)] at e
  have := (ZG nd).1 e;omega
theorem PQ.ct {c : Cx} {p q : List Int} (h : PQ c p q) {x : Int} (h0 : 0 ≤ x) (h1 : x < c.bs.length) : 0 ≤ q.getD x.toNat 0 ∧ q.getD x.toNat 0 ≤ 20000 := by
  have hl := h.ql;refine h.q0 _ ?_;rw [aC,aA (by omega)];exact aH _
theorem wV {c : Cx} {p q : List Int} {s : Ev} {done : Int} (hk : s.k = 2) (h : yC c p q s done = true) : 0 ≤ done ∧ done ≤ q.getD (p.getD s.a.toNat 0).toNat 0 ∧ s.n - c.sl ≤ done ∧ done ≤ s.n + c.sl := by
  unfold yC OA iF at h;rw [if_pos hk] at h;simp only [aJ,decide_eq_true_eq] at h;omega
theorem D8 {p : List Int} {s : Ev} {done : Int} : (tS p s done).length = p.length := by unfold tS;split <;> simp
theorem UN {p q : List Int} {s : Ev} {done : Int} : (rH p q s done).length = q.length := by unfold rH;split <;> simp
theorem Y0 {l : List Int} {i j : Nat} (hi : i < l.length) (hj : j < l.length) (hne : i ≠ j) : ((l.set i (l.getD j 0)).set j (l.getD i 0)).Perm l := by
  have h : ((l.set i (l.getD j 0)).set j (l.getD i 0)).Perm l := List.perm_iff_count.2 fun x => by
    have e1 : l.getD i 0 = l[i] := by simp [List.getD,hi]
    have e2 : l.getD j 0 = l[j] := by simp [List.getD,hj]
    rw [e1,e2,List.count_set (by simpa using hj),List.count_set hi,List.getElem_set_ne hne]
    have c1 : l[i] ∈ l := aH _;have c2 : l[j] ∈ l := aH _;have p1 := List.count_pos_iff.2 c1;have p2 := List.count_pos_iff.2 c2;by_cases a1 : l[i] = x
    · by_cases a2 : l[j] = x
      · rw [a1] at p1;simp [a1,a2];omega
      · rw [a1] at p1;simp [a1,a2];omega
    · by_cases a2 : l[j] = x
      · simp [a1,a2]
      · simp [a1,a2]
  exact h
theorem PQ.aft {c : Cx} {p q : List Int} {s : Ev} {done : Int} (h : PQ c p q) (ha : 0 ≤ s.a ∧ s.a < c.bs.length) (hb : s.k = 4 → s.a < s.b ∧ s.b < c.bs.length) (hc : yC c p q s done = true) : PQ c (tS p s done) (rH p q s done) where
  pl := by rw [D8];exact h.pl
  ql := by rw [UN];exact h.ql
  pp := by
    refine List.Perm.trans ?_ h.pp;have hl := h.pl;unfold tS;split
    · rename_i hk;have := hb hk.1;exact Y0 (by omega) (by omega) (by omega)
    · exact .refl _
  q0 := fun x hx => by
    unfold rH at hx;split at hx
    · rename_i hk;rcases fH hx with hx | rfl
      · exact h.q0 x hx
      · have := wV hk hc;obtain ⟨i0,i1⟩ := h.at ha.1 ha.2;have := h.ct i0 i1;omega
    · exact h.q0 x hx
theorem wI {l : List Int} {i j : Nat} {x : Int} (hj : i < l.length) : (l.set i x).getD j 0 = if j = i then x else l.getD j 0 := fD hj
theorem rK.box {c : Cx} (h : rK c) {x : Int} (h0 : 0 ≤ x) (h1 : x < c.bs.length) : (0 ≤ (c.bs.getD x.toNat (0,0,0)).2.2 ∧ (c.bs.getD x.toNat (0,0,0)).2.2 ≤ 1073741824) ∧ (0 ≤ pA c.ks c.ls (c.bs.getD x.toNat (0,0,0)).1 ∧ pA c.ks c.ls (c.bs.getD x.toNat (0,0,0)).1 ≤ 1048576) := by
  have hx : x.toNat < c.bs.length := by omega
  have hb := h.f.b _ hx;have e : c.bs.getD x.toNat (0,0,0) = c.bs[x.toNat] := by rw [aC,aA hx];rfl
  rw [e];exact ⟨by omega,VO h.f hb.2.1⟩
theorem MG {c : Cx} {p q : List Int} {f : As} {s : Ev} {done : Int} (hc : rK c) (h : PQ c p q) (hf : vD c p q f) (hS : ∀ b : Int, 0 ≤ b → b < c.bs.length → GX (f b).2)
    (ha : 0 ≤ s.a ∧ s.a < c.bs.length) (hb : s.k = 4 → s.a < s.b ∧ s.b < c.bs.length) (hn : s.k = 1 ∨ s.k = 2 → 0 ≤ s.n ∧ s.n ≤ 1099511627776) (hag : VI c p q s = true) (hcan : yC c p q s done = true) :
    ∃ f',W2 c s f f' (uC c p s) ∧ vD c (tS p s done) (rH p q s done) f' := by
  have hpl := h.pl;have hql := h.ql;by_cases hsw : s.k = 4 ∧ done = 1
  · refine ⟨DX f s.a s.b,.inr ⟨hsw.1,rfl,by unfold uC ZU;rw [if_neg (by omega)]⟩,fun b b0 b1 => ?_⟩
    have hb := hb hsw.1;have eq : rH p q s done = q := by unfold rH;rw [if_neg (by omega)]
    rw [eq];have ep : (tS p s done).getD b.toNat 0 = if b = s.a then p.getD s.b.toNat 0 else if b = s.b then p.getD s.a.toNat 0 else p.getD b.toNat 0 := by
      unfold tS;rw [if_pos hsw,wI (by simp;omega),wI (by omega)]
      by_cases e1 : b = s.a
      · rw [if_pos e1,if_neg (by omega),if_pos (by omega)]
      · rw [if_neg e1];by_cases e2 : b = s.b
        · rw [if_pos e2,if_pos (by omega)]
        · rw [if_neg e2,if_neg (by omega),if_neg (by omega)]
    have h1 := hf s.a ha.1 ha.2;have h2 := hf s.b (by omega) hb.2
    have h3 := hf b b0 b1;unfold LP DX at *;rw [ep];by_cases e1 : b = s.a
    · rw [if_pos e1,if_pos e1];exact h2
    · rw [if_neg e1,if_neg e1];by_cases e2 : b = s.b
      · rw [if_pos e2,if_pos e2];exact h1
      · rw [if_neg e2,if_neg e2];exact h3
  · have ep : tS p s done = p := by unfold tS;rw [if_neg hsw]
    rw [ep];obtain ⟨i0,i1⟩ := h.at ha.1 ha.2;obtain ⟨q0,q1⟩ := h.ct i0 i1;obtain ⟨o1,o2⟩ := hf s.a ha.1 ha.2;obtain ⟨hbx,hu⟩ := hc.box i0 i1;have hsa := hS s.a ha.1 ha.2;have key : (D5 c s (f s.a)).2.2 = true ∧ rG (D5 c s (f s.a)).1.2.1 (D5 c s (f s.a)).1.2.2 ((rH p q s done).getD (p.getD s.a.toNat 0).toNat 0) = true := by
      by_cases k2 : s.k = 2
      · have hr := wV k2 hcan;have e : (rH p q s done).getD (p.getD s.a.toNat 0).toNat 0 = q.getD (p.getD s.a.toNat 0).toNat 0 - done := by
          unfold rH;rw [if_pos k2,wI (by omega),if_pos rfl]
        rw [e];refine (GK ⟨hsa.1,hsa.2.1,hsa.2.2⟩ hc.s (hn (.inr k2)) (by omega) (by omega) k2).2 ⟨_,done,o2,?_,by omega,by omega,by omega,by omega,rfl⟩
        unfold VI OC at hag;rw [if_neg (by omega),if_neg (by omega),if_pos k2,decide_eq_true_eq] at hag
        exact hag
      · have e : rH p q s done = q := by unfold rH;rw [if_neg k2]
        rw [e];have o1' : (f s.a).1 = p.getD s.a.toNat 0 := o1;refine (LF (by rw [o1'];exact hbx) (by rw [o1'];exact hu) hc.s (fun k => hn (.inl k)) q0 q1 k2).2 ⟨o2,?_⟩
        rw [o1'];exact hag
    refine ⟨upd f s.a (D5 c s (f s.a)).1,.inl ⟨key.1,rfl,?_⟩,fun b b0 b1 => ?_⟩
    · rw [GL key.1,show (f s.a).1 = p.getD s.a.toNat 0 from o1];rfl
    · have h3 := hf b b0 b1;unfold LP upd at *;by_cases e1 : b = s.a
      · rw [if_pos e1,CT,e1];exact ⟨o1,key.2⟩
      · rw [if_neg e1];refine ⟨h3.1,?_⟩;have hne : (p.getD b.toNat 0).toNat ≠ (p.getD s.a.toNat 0).toNat := fun e => by
          obtain ⟨j0,j1⟩ := h.at b0 b1;exact e1 (h.inj b0 b1 ha.1 ha.2 (by omega))
        have e : (rH p q s done).getD (p.getD b.toNat 0).toNat 0 = q.getD (p.getD b.toNat 0).toNat 0 := by
          unfold rH;split
          · rw [wI (by omega),if_neg hne]
          · rfl
        rw [e];exact h3.2
theorem MH {c : Cx} {p' q' : List Int} {f f' : As} {s : Ev} {d : Int} (hc : rK c) (h : PQ c p' q') (hst : W2 c s f f' d) (hf : vD c p' q' f') (hS : ∀ b : Int, 0 ≤ b → b < c.bs.length → GX (f b).2)
    (ha : 0 ≤ s.a ∧ s.a < c.bs.length) (hb : s.k = 4 → s.a < s.b ∧ s.b < c.bs.length) (hn : s.k = 1 ∨ s.k = 2 → 0 ≤ s.n ∧ s.n ≤ 1099511627776) :
    ∃ p q done,PQ c p q ∧ vD c p q f ∧ VI c p q s = true ∧ yC c p q s done = true ∧ d = uC c p s ∧ p' = tS p s done ∧ q' = rH p q s done := by
  have hpl := h.pl;have hql := h.ql;rcases hst with ⟨hok,rfl,rfl⟩ | ⟨hk,rfl,rfl⟩
  · obtain ⟨i0,i1⟩ := h.at ha.1 ha.2;obtain ⟨q0,q1⟩ := h.ct i0 i1;obtain ⟨hbx,hu⟩ := hc.box i0 i1;obtain ⟨o1,o2⟩ := hf s.a ha.1 ha.2;have hsa := hS s.a ha.1 ha.2;unfold upd at o1 o2;rw [if_pos rfl] at o1 o2;rw [CT] at o1;have hm : (D5 c s (f s.a)).2.1 = uC c p' s := by rw [GL hok,o1];rfl
    by_cases k2 : s.k = 2
    · obtain ⟨u,dn,a1,a2,a3,a4,a5,a6,a7⟩ := (GK ⟨hsa.1,hsa.2.1,hsa.2.2⟩ hc.s (hn (.inr k2)) q0 q1 k2).1 ⟨hok,o2⟩;have hu2 := lX.1 a1;have hgx : (q'.set (p'.getD s.a.toNat 0).toNat u).getD (p'.getD s.a.toNat 0).toNat 0 = u := by rw [wI (by omega),if_pos rfl]
      refine ⟨p',q'.set (p'.getD s.a.toNat 0).toNat u,dn,⟨hpl,by simpa using hql,h.pp,fun x hx => ?_⟩,fun b b0 b1 => ?_,?_,?_,hm,?_,?_⟩
      · rcases fH hx with hx | rfl
        · exact h.q0 x hx
        · have := hsa.2.2;have := hsa.1;omega
      · have h3 := hf b b0 b1;unfold LP upd at *;by_cases e1 : b = s.a
        · subst e1;rw [hgx];exact ⟨o1,a1⟩
        · rw [if_neg e1] at h3;refine ⟨h3.1,?_⟩;rw [wI (by omega),if_neg]
          · exact h3.2
          · intro e;obtain ⟨j0,j1⟩ := h.at b0 b1;exact e1 (h.inj b0 b1 ha.1 ha.2 (by omega))
      · unfold VI OC;rw [if_neg (by omega),if_neg (by omega),if_pos k2,hgx,decide_eq_true_eq];exact a2
      · unfold yC OA iF;rw [if_pos k2,hgx];simp only [aJ,decide_eq_true_eq];omega
      · unfold tS;rw [if_neg (by omega)]
      · unfold rH;rw [if_pos k2,hgx,List.set_set,← a7];exact (ED _ (by omega)).symm
    · have hx := (LF (c := c) (s := s) (x := f s.a) (by rw [o1];exact hbx) (by rw [o1];exact hu) hc.s (fun k => hn (.inl k)) q0 q1 k2).1 ⟨hok,o2⟩
      refine ⟨p',q',0,h,fun b b0 b1 => ?_,?_,?_,hm,?_,?_⟩
      · have h3 := hf b b0 b1;unfold LP upd at *;by_cases e1 : b = s.a
        · subst e1;exact ⟨o1,hx.1⟩
        · rw [if_neg e1] at h3;exact h3
      · have := hx.2;rw [o1] at this;exact this
      · unfold yC OA;rw [if_neg k2];split <;> rfl
      · unfold tS;rw [if_neg (by omega)]
      · unfold rH;rw [if_neg k2]
  · have hb := hb hk;have hag : ∀ p q,VI c p q s = true := fun p q => by unfold VI OC;rw [if_neg (by omega),if_neg (by omega),if_neg (by omega),if_neg (by omega),if_neg (by omega)]
    have hp1 : ((p'.set s.a.toNat (p'.getD s.b.toNat 0)).set s.b.toNat (p'.getD s.a.toNat 0)).Perm p' := Y0 (by omega) (by omega) (by omega)
    have g : ∀ b : Int,0 ≤ b → b < c.bs.length → ((p'.set s.a.toNat (p'.getD s.b.toNat 0)).set s.b.toNat (p'.getD s.a.toNat 0)).getD b.toNat 0 = if b = s.a then p'.getD s.b.toNat 0 else if b = s.b then p'.getD s.a.toNat 0 else p'.getD b.toNat 0 := fun b b0 b1 => by
      rw [wI (by simp;omega),wI (by omega)]
      by_cases e1 : b = s.a
      · rw [if_pos e1,if_neg (by omega),if_pos (by omega)]
      · rw [if_neg e1];by_cases e2 : b = s.b
        · rw [if_pos e2,if_pos (by omega)]
        · rw [if_neg e2,if_neg (by omega),if_neg (by omega)]
    refine ⟨(p'.set s.a.toNat (p'.getD s.b.toNat 0)).set s.b.toNat (p'.getD s.a.toNat 0),q',1,⟨by simpa using hpl,hql,hp1.trans h.pp,h.q0⟩,fun b b0 b1 => ?_,hag _ _,?_,?_,?_,?_⟩
    · have h1 := hf s.a ha.1 ha.2;have h2 := hf s.b (by omega) hb.2
      have h3 := hf b b0 b1;unfold LP DX at *;rw [g b b0 b1];rw [if_pos rfl] at h1;rw [if_neg (by omega),if_pos rfl] at h2
      by_cases e1 : b = s.a
      · subst e1;rw [if_pos rfl];exact h2
      · rw [if_neg e1] at h3 ⊢;by_cases e2 : b = s.b
        · subst e2;rw [if_pos rfl];exact h1
        · rw [if_neg e2] at h3 ⊢;exact h3
    · unfold yC OA;rw [if_neg (by omega),if_pos hk];rfl
    · unfold uC ZU;rw [if_neg (by omega)]
    · unfold tS;rw [if_pos ⟨hk,rfl⟩,g s.a ha.1 ha.2,g s.b (by omega) hb.2,if_pos rfl,if_neg (by omega),if_pos rfl]
      refine kB (by simp) fun i h1 h2 => ?_
      simp only [List.getElem_set];have ea : p'.getD s.a.toNat 0 = p'[s.a.toNat]'(by omega) := by simp [List.getD,show s.a.toNat < p'.length by omega]
      have eb : p'.getD s.b.toNat 0 = p'[s.b.toNat]'(by omega) := by simp [List.getD,show s.b.toNat < p'.length by omega]
      split
      · rename_i h;subst h;exact eb.symm ▸ rfl
      · split
        · rename_i h;subst h;exact ea.symm ▸ rfl
        · rfl
    · unfold rH;rw [if_neg (by omega)]
theorem SN {bs : List Int} {w : W} {f : As} (h : nE bs w f) {b : Int} (hb : b ∈ bs) : gP w (bs.idxOf b) = (f b).1 ∧ gC w (bs.idxOf b) = (f b).2 := by
  obtain ⟨hx,e⟩ := uG hb;have e1 := S4 h hx;have e2 := S6 h hx;rw [e] at e1 e2;exact ⟨e1,e2⟩
theorem M2 {c : Cx} {M0 : Int} {gs : List G} (h : nD c M0 gs) {f : As} {M : Int} (hs : Sem gs f M) {b : Int} (h0 : 0 ≤ b) (h1 : b < c.bs.length) : GX (f b).2 ∧ 0 ≤ (f b).1 ∧ (f b).1 < c.bs.length := by
  obtain ⟨g,hg,hb⟩ := h.find ⟨h0,h1⟩;obtain ⟨w,hw,hf⟩ := xF hs hg;obtain ⟨e1,e2⟩ := SN hf hb;have hi := fM hb;obtain ⟨a,d,e⟩ := ((h.out.ok g hg).ws w hw).at hi;rw [e1] at a d;rw [e2] at e;exact ⟨e,a,d⟩
theorem KL {c : Cx} {f : As} {M : Int} : ∀ {l : List Nat}, Sem (l.map (R0 c)) f M ↔ 0 ≤ M ∧ ∀ i, i ∈ l → f (i : Int) = ((i : Int), ((c.bs.getD i (0, 0, 0)).2.1, (c.bs.getD i (0, 0, 0)).2.1 + 1))
  | [] => by simp [Sem]
  | i :: l => by
    have ih := fun M => KL (c := c) (f := f) (M := M) (l := l);simp only [List.map_cons,Sem,ih];constructor
    · rintro ⟨m,⟨w,hw,hf,hm⟩,h0,h1⟩;obtain rfl := bO.1 hw;obtain ⟨f1,f2⟩ := hf;have f1 : [(i : Int)] = [(f i).1] := f1;have f2 : [((c.bs.getD i (0,0,0)).2.1,(c.bs.getD i (0,0,0)).2.1 + 1)] = [(f i).2] := f2;have hm : (0 : Int) ≤ m := hm;refine ⟨by omega,fun k hk => ?_⟩
      rcases bL.1 hk with rfl | hk
      · exact Prod.ext (List.cons.inj f1).1.symm (List.cons.inj f2).1.symm
      · exact h1 k hk
    · rintro ⟨h0,h1⟩;have hi := h1 i aR;refine ⟨0,⟨_,bO.2 rfl,⟨?_,?_⟩,fC _⟩,by omega,fun k hk => h1 k (aN _ hk)⟩
      · show [(i : Int)] = [(f i).1];rw [hi]
      · show [_] = [(f i).2];rw [hi]
theorem WZ {c : Cx} {f : As} {M : Int} : Sem (qT c) f M ↔ 0 ≤ M ∧ ∀ b : Int,0 ≤ b → b < c.bs.length → f b = (b,((c.bs.getD b.toNat (0,0,0)).2.1,(c.bs.getD b.toNat (0,0,0)).2.1 + 1)) := by
  rw [M4,KL];constructor
  · rintro ⟨h0,h⟩;refine ⟨h0,fun b b0 b1 => ?_⟩
    have := h b.toNat (eJ.2 (by omega))
    rwa [show ((b.toNat : Nat) : Int) = b by omega] at this
  · rintro ⟨h0,h⟩;refine ⟨h0,fun i hi => ?_⟩
    have := h i (by omega) (by have := eJ.1 hi;omega)
    rwa [bQ] at this
theorem SX {n : Nat} : ∀ {gs : List G}, (gs.flatMap (·.1)).Nodup → (∀ g, g ∈ gs → vK n g) → (∀ g, g ∈ gs → g.2 ≠ []) → ∃ f, Sem gs f (mJ gs)
  | [],_,_,_ => ⟨fun _ => (0,(0,0)),by simp [Sem,mJ]⟩
  | g :: gs,nd,ok,ne => by
    obtain ⟨f0,h0⟩ := SX (gs := gs) (by rw [bF] at nd;exact (cF.1 nd).2.1) (fun x hx => ok x (aN _ hx)) (fun x hx => ne x (aN _ hx))
    obtain ⟨w,hw,hm⟩ := Z8 (ne g aR);have og := ok g aR;refine ⟨fun b => if b ∈ g.1 then AP g w b else f0 b,iH g,?_,?_⟩
    · refine (F7 (f := AP g w) (fun b hb => (if_pos hb).symm)).1 ⟨w,hw,D7 og (og.ws w hw),by omega⟩
    · refine (qI (f := f0) (fun x hx b hb => ?_)).1 (h0.mono (by simp [mJ];omega))
      rw [bF] at nd;rw [if_neg (fun q => (cF.1 nd).2.2 b q b (nN hx hb) rfl)]
theorem YJ {n : Nat} {gs : List G} (nd : (gs.flatMap (·.1)).Nodup) (ok : ∀ g,g ∈ gs → vK n g) (ne : ∀ g,g ∈ gs → g.2 ≠ []) {g : G} (hg : g ∈ gs) {w : W} (hw : w ∈ g.2) : ∃ f,nE g.1 w f ∧ Sem gs f (w.2.1 + (mJ gs - iH g)) := by
  obtain ⟨A,B,rfl⟩ := List.append_of_mem hg;have hp : (A ++ g :: B).Perm (g :: (A ++ B)) := lM;have nd' : ((g :: (A ++ B)).flatMap (·.1)).Nodup := (hp.flatMap_right _).nodup_iff.1 nd;have hs : mJ (A ++ g :: B) = iH g + mJ (A ++ B) := by simp [mJ];omega
  rw [bF] at nd';obtain ⟨f0,h0⟩ := SX (gs := A ++ B) (cF.1 nd').2.1 (fun x hx => ok x (hp.mem_iff.2 (aN _ hx))) (fun x hx => ne x (hp.mem_iff.2 (aN _ hx)));have og := ok g hg;have hF := D7 og (og.ws w hw);have hc : ∀ b,b ∈ g.1 → AP g w b = (fun b => if b ∈ g.1 then AP g w b else f0 b) b := fun b hb => (if_pos hb).symm
  refine ⟨fun b => if b ∈ g.1 then AP g w b else f0 b,?_,(nI hp).2 ⟨w.2.1,?_,?_⟩⟩
  · unfold nE at hF ⊢;rw [← jU (f := fun b => (AP g w b).1) (fun b hb => by rw [hc b hb]),← jU (f := fun b => (AP g w b).2) (fun b hb => by rw [hc b hb])]
    exact hF
  · exact (F7 hc).1 ⟨w,hw,hF,fC _⟩
  · refine (qI (f := f0) (fun x hx b hb => ?_)).1 (h0.mono (by omega))
    rw [if_neg (fun q => (cF.1 nd').2.2 b q b (nN hx hb) rfl)]
theorem yQ {α β : Type} (f g : α → List β) : ∀ l : List α, (∀ x, x ∈ l → (f x).Perm (g x)) → (l.flatMap f).Perm (l.flatMap g)
  | [],_ => .refl _
  | x :: l,h => by
    rw [bF,bF];exact (h x aR).append (yQ f g l (fun y hy => h y (aN _ hy)))
theorem FG {α β γ : Type} (f : β → γ) (g : α → List β) : ∀ l : List α, (l.flatMap g).map f = l.flatMap fun x => (g x).map f
  | [] => rfl
  | x :: l => by rw [bF,bF,dH,FG f g l]
theorem WG {c : Cx} {M0 : Int} {gs : List G} (h : nD c M0 gs) {f : As} {M : Int} (hs : Sem gs f M) : ((nats (List.range c.bs.length)).map fun b => (f b).1).Perm (nats (List.range c.bs.length)) := by
  refine ((h.cov.symm.map _).trans ?_).trans h.idn;rw [FG];refine yQ _ _ _ fun g hg => ?_
  obtain ⟨w,hw,hf⟩ := xF hs hg;rw [← hf.1];exact (h.out.ok g hg).same w (gV g) hw (iL (h.ne g hg))
theorem BQ {n : Nat} {α : Type} (F : Int → α) (d : α) {b : Int} (h0 : 0 ≤ b) (h1 : b < n) : ((nats (List.range n)).map F).getD b.toNat d = F b := by
  rw [aC,aA (by simp;omega)]
  simp only [nQ,List.getElem_range,lL];rw [show ((b.toNat : Nat) : Int) = b by omega]
theorem EN {c : Cx} {M0 : Int} {gs : List G} (h : nD c M0 gs) {f : As} {M : Int} (hs : Sem gs f M) : ∃ p q,PQ c p q ∧ vD c p q f := by
  have hi := WG h hs;have hnl : (nats (List.range c.bs.length)).length = c.bs.length := by simp
  generalize hp : ((nats (List.range c.bs.length)).map fun b => (f b).1) = p at *;have hpl : p.length = c.bs.length := by rw [hi.length_eq,hnl]
  have nd : p.Nodup := hi.nodup_iff.2 (xI _);have hpg : ∀ b : Int,0 ≤ b → b < c.bs.length → p.getD b.toNat 0 = (f b).1 := fun b h0 h1 => by rw [← hp];exact BQ _ _ h0 h1
  refine ⟨p,(nats (List.range c.bs.length)).map fun x => if x ∈ p then (f (p.idxOf x)).2.1 else 0,⟨hpl,by simp,hi,fun y hy => ?_⟩,fun b h0 h1 => ⟨(hpg b h0 h1).symm,?_⟩⟩
  · obtain ⟨x,hx,rfl⟩ := bI.1 hy;have hxm := hi.mem_iff.2 hx;rw [if_pos hxm];have hlt := fM hxm;have := (M2 h hs (b := (p.idxOf x : Nat)) (by omega) (by omega)).1
    unfold GX at this;omega
  · have hr := M2 h hs h0 h1;rw [hpg b h0 h1,BQ _ _ hr.2.1 hr.2.2];have hb : b.toNat < p.length := by omega
    have e : (f b).1 = p[b.toNat] := by rw [← hpg b h0 h1,aC,aA hb];rfl
    rw [if_pos (by rw [e];exact aH _),e,nd.idxOf_getElem,show ((b.toNat : Nat) : Int) = b by omega,lX]
    have := hr.1;unfold GX at this;omega
def JH (c : Cx) (gs : List G) : Prop := ∀ g,g ∈ gs → ∀ w,w ∈ g.2 → w.2.1 + (mJ gs - iH g) ≤ c.m
theorem MP {c : Cx} {gs : List G} (h : mR c gs) (hp : JH c gs) {g : G} (hg : g ∈ gs) {w : W} (hw : w ∈ g.2) : ∃ f,nE g.1 w f ∧ Sem gs f c.m := by
  obtain ⟨f,h1,h2⟩ := YJ h.mid.out.nd h.mid.out.ok h.mid.ne hg hw;exact ⟨f,h1,h2.mono (hp g hg w hw)⟩
theorem MF {c : Cx} {gs : List G} (h : mR c gs) (hp : JH c gs) (hn : 0 < c.bs.length) : ∃ f,Sem gs f c.m := by
  obtain ⟨g,hg,_⟩ := h.mid.find (b := 0) ⟨by omega,by omega⟩
  obtain ⟨w,hw⟩ := List.exists_mem_of_ne_nil _ (h.mid.ne g hg);obtain ⟨f,_,h2⟩ := MP h hp hg hw;exact ⟨f,h2⟩
end Go.Ld
