/-
  Texts of the logic and of the layer,in one module (part 5).
-/
import Derived.Test.YtdiogjgohbbllaaGreatDoorK4
import Derived.Shelf.Strconv.ErrVarAll
import Derived.Lib.IndexLaws
import Derived.Shelf.Small.Strs
import Derived.Shelf.Small.Wraps
set_option linter.unusedVariables false
set_option linter.unusedSimpArgs false
set_option linter.unnecessarySimpa false
namespace Go.Or
open Go Go.Ab
theorem AH (l : List Wt) : (AB.arr (bZ l) 3).rf = true := aT.2 fun e he => by obtain ⟨i,_,rfl⟩ := aJ.1 he;rfl
theorem R0 : ∀ l : List Wt, AV.idfL (bZ l).flatten = true
  | [] => rfl
  | x :: l => R0 l
def K2 (H : Hp) (pb : Nat) (A : List Nat) (res : AV) (bk : Bk) (r : AV) (o : Hp) : Prop := r = res ∧ ∃ A',uL o pb bk A' ∧ Fr H A o A'
theorem Fr.app (H Z : Hp) (A : List Nat) : Fr H A (H ++ Z) A := ⟨by simp,fun k hk _ => iP hk,fun k hk => .inl hk⟩
theorem uL.app {H : Hp} {pb : Nat} {bk : Bk} {A : List Nat} (h : uL H pb bk A) (Z : Hp) : uL (H ++ Z) pb bk A := h.frame fun k hk => iP (h.lt k hk)
theorem K2.from {H : Hp} {pb : Nat} {A : List Nat} {res : AV} {bk : Bk} {r : AV} {o : Hp} (Z : Hp) (h : K2 (H ++ Z) pb A res bk r o) : K2 H pb A res bk r o := by
  obtain ⟨h1,A',h2,h3⟩ := h;exact ⟨h1,A',h2,(Fr.app H Z A).trans h3⟩
theorem jC.ne {H : Hp} {pb po : Nat} {L : OL} (h : jC H pb po L) : pb ≠ po := fun e => by
  have := (aL.1 h.nd).1;exact this (by rw [e];simp)
theorem jC.nils {H : Hp} {pb po : Nat} {L : OL} (h : jC H pb po L) {i : Nat} {e : Od × AV × List Nat} (hi : L[i]? = some e) (o' : Od) (ho : o'.tk = []) (res : AV) :
    K2 H pb (vU pb po L) res ((L.map (·.1)).set i o') res (H.set po (.arr ((L.map fun e => iY e.1 e.2.1).set i (iY o' .nils)) 4)) := by
  have hpol := (aA.1 h.o).1;refine ⟨rfl,vU pb po (L.set i (o',.nils,[])),⟨po,_,h.upd hi o' .nils [] (eK h.ne) (gA hpol) (fun k _ hne _ => eK hne) (.inl ⟨rfl,ho,rfl⟩) (fun k hk => by cases hk) bB,by rw [T7],rfl⟩,?_⟩
  exact h.fr hi (by simp) (eK h.ne) (fun k _ hne _ => eK hne) (fun k hk => by cases hk)
theorem uL.at {H : Hp} {pb : Nat} {bk : Bk} {A : List Nat} (h : uL H pb bk A) : ∃ po L,jC H pb po L ∧ bk = L.map (·.1) ∧ A = vU pb po L := h
theorem Q3 {X : Hp} {b : AB} : (X ++ [b])[(X ++ []).length]? = some b := by simp
theorem iL {X : Hp} {a b : AB} : (X ++ [a]).set X.length b = X ++ [b] := by simp
end Go.Or
namespace Go.Proofs.YtdiogjgohbbllaaGreatDoor
open Go Go.Ab Go.Or
attribute [local irreducible] VC AW bR bN eS AY VY B8
set_option maxHeartbeats 4000000
theorem LC : bN Tryz.prog 10 [] [] (.ptr 0 0) [.cells [.nils]] := by
  refine dC T Tryz.func10 rfl rfl rfl rfl ?_
  (repeat' (first|refine wS ?_|refine wR ?_|(refine rg 0 (aV ?_))|(refine rg 1 (vV (by exact iG T rfl rfl rfl rfl) ?_);refine cY (fG rfl rfl) rfl (aV ?_))|refine nZ ?_));all_goals exact ⟨.inl rfl,[0],_,rfl,rfl,rfl,⟨.inr rfl,trivial⟩,by decide,nP _⟩
theorem EJ {H : Hp} {pb po : Nat} {L : OL} (h : jC H pb po L) (no : Int) (ss : List Int) (hl : L.length ≤ 1000) (hs : ss.length ≤ 1000) :
    eS Tryz.prog 55 [.ptr pb 0,.i no,.rowE (fT ss) 1] H (fun r o => r = .tup [if kO (L.map (·.1)) no ss = 0 then .ep po (0 + no.toNat) 0 4 else .v (.pointer none),.i (kO (L.map (·.1)) no ss)] ∧ H = o) := by
  have hbk := h.b;have hnl := qZ ss;refine jO T Tryz.func55 rfl rfl rfl rfl ?_;by_cases hr : no < 0 ∨ (L.length : Int) ≤ no
  · have hf : kO (L.map (·.1)) no ss = 4 := by unfold kO;rw [if_pos (by simpa using hr)]
    rw [hf]
    (repeat' (first|refine wS ?_|refine wR ?_|refine wT ?_|(refine wC rfl ?_ ?_<;>(intro hb;(try simp only [nm] at hb);try (exfalso;omega)))|(refine rg 0 (oC ?_))|(refine rg 1 (mW rfl (vV (bA rfl rfl) (mV ?_)));refine bL rfl rfl ?_ ?_<;>(intro hb;rw [hb];(try simp only [nm] at hb);try (exfalso;omega));(all_goals first|(refine gT (mW rfl (gT (mW rfl (gT (nV ?_)))));refine gT (fW T rfl (gT (vV (by exact bC T rfl rfl (dU hbk) rfl) ?_)));refine gT (qW T rfl (gT (vV (eV rfl rfl) ?_))))|(iterate 7 refine gF ?_));(all_goals (refine pV ?_)))|(refine rg 2 (oC ?_))|refine nZ ?_));all_goals first | (exfalso;omega) | exact ⟨.inl rfl,_,rfl,rfl,rfl⟩
  · obtain ⟨e,he,hge⟩ := G1 (L := L) (i := no.toNat) (by omega)
    have hg := xD he;have hc := BX ss e.1.st (by omega)
    have ho := h.o;have hf : kO (L.map (·.1)) no ss = if e.1.st ∈ ss then 0 else 7 := by unfold kO;rw [if_neg (by simpa using hr),hge]
    rw [hf];by_cases hin : e.1.st ∈ ss
    · rw [decide_eq_true hin] at hc;rw [if_pos hin]
      (repeat' (first|refine wS ?_|refine wK ?_|refine wR ?_|refine wU ?_|(refine wC rfl ?_ ?_<;>(intro hb;(try simp only [nm] at hb);try (exfalso;omega)))|(refine rg 0 (oC ?_))|(refine rg 1 (mW rfl (vV (bA rfl rfl) (mV ?_)));refine bL rfl rfl ?_ ?_<;>(intro hb;rw [hb];(try simp only [nm] at hb);try (exfalso;omega));(all_goals (refine yN rfl (yN rfl (gT (nV ?_)));refine yP T rfl (yV (by exact bC T rfl rfl (dU hbk) rfl) ?_);refine gT (qW T rfl (yV (eV rfl rfl) (pV ?_))))))|(refine rg 3 (mW rfl (nV ?_));refine fW T rfl (vV (by exact bC T rfl rfl (dU hbk) rfl) ?_);refine mW rfl (vV (by exact cI T rfl rfl rfl rfl rfl (by omega) (by omega)) ?_);refine aV ?_)|(refine rg 4 (fF rfl (nV ?_));refine fW T rfl (fW T rfl (vV (by exact bC T rfl rfl (eF ho hg) rfl) ?_));refine vV (kC (hc)) (vV (eI rfl) ?_))|(refine rg 6 (mW rfl (oC ?_)))|refine nZ ?_));all_goals first | (exfalso;omega) | exact ⟨.inl rfl,_,rfl,rfl,rfl⟩
    · rw [decide_eq_false hin] at hc;rw [if_neg hin]
      (repeat' (first|refine wS ?_|refine wK ?_|refine wR ?_|refine wT ?_|(refine wC rfl ?_ ?_<;>(intro hb;(try simp only [nm] at hb);try (exfalso;omega)))|(refine rg 0 (oC ?_))|(refine rg 1 (mW rfl (vV (bA rfl rfl) (mV ?_)));refine bL rfl rfl ?_ ?_<;>(intro hb;rw [hb];(try simp only [nm] at hb);try (exfalso;omega));(all_goals (refine yN rfl (yN rfl (gT (nV ?_)));refine yP T rfl (yV (by exact bC T rfl rfl (dU hbk) rfl) ?_);refine gT (qW T rfl (yV (eV rfl rfl) (pV ?_))))))|(refine rg 3 (mW rfl (nV ?_));refine fW T rfl (vV (by exact bC T rfl rfl (dU hbk) rfl) ?_);refine mW rfl (vV (by exact cI T rfl rfl rfl rfl rfl (by omega) (by omega)) ?_);refine aV ?_)|(refine rg 4 (fF rfl (nV ?_));refine fW T rfl (fW T rfl (vV (by exact bC T rfl rfl (eF ho hg) rfl) ?_));refine vV (kC (hc)) (vV (eI rfl) ?_))|(refine rg 5 (oC ?_))|refine nZ ?_));all_goals first | (exfalso;omega) | exact ⟨.inl rfl,_,rfl,rfl,rfl⟩
theorem RO {H : Hp} {pb : Nat} {bk : Bk} {A : List Nat} (hB : uL H pb bk A) (no st : Int) (ss : List Int) (hl : bk.length ≤ 1000) (hs : ss.length ≤ 1000) :
    eS Tryz.prog 61 [.ptr pb 0,.i no,.i st,.rowE (fT ss) 1] H (K2 H pb A (.i (rY bk no st ss).1) (rY bk no st ss).2) := by
  obtain ⟨po,L,h,rfl,rfl⟩ := hB;rw [bI] at hl;have hfp := EJ h no ss hl hs;unfold rY;refine jO T Tryz.func61 rfl rfl rfl rfl ?_;by_cases hc : kO (L.map (·.1)) no ss = 0
  · obtain ⟨⟨r0,r1⟩,_,_,_⟩ := oO hc;rw [bI] at r1;obtain ⟨e,he,hge⟩ := G1 (L := L) (i := no.toNat) (by omega)
    rw [if_pos hc,hc] at hfp;rw [if_neg (by simp [hc])]
    have hg := xD he;have hpol := (aA.1 h.o).1;have hnl : no.toNat < L.length := by omega
    (repeat' (first|refine wS ?_|refine wT ?_|(refine rg 0 (aV ?_))|(refine rg 1 (fF rfl (mW rfl (eH rfl rfl hfp rfl ?_)));rintro _ _ ⟨rfl,rfl⟩;dsimp only [fC];refine mW rfl (xW rfl (xW rfl (oC ?_))))|(refine rg 2 (mW rfl (vV (cT rfl rfl) ?_)))|refine nZ ?_));all_goals try (exfalso;omega)
    (repeat' (first|refine wS ?_|refine wR ?_|(refine rg 3 (fF rfl (mW rfl (nV ?_)));refine fW T rfl (fW T rfl (bE T rfl rfl rfl rfl rfl rfl (by decide) (oZ h.o hg rfl rfl) (nV ?_)));refine fV T ?_;refine bE T rfl rfl rfl rfl rfl rfl (by decide) (oZ (gA hpol) (by rw [eP (by simpa using hnl)]) rfl rfl) ?_)|(refine rg 4 (mW rfl (aV ?_)))|refine nZ ?_));all_goals try (exfalso;omega)
    have hN := h.nils he { (L.map (·.1)).getD no.toNat fY with st := st,tk := [] } rfl (.i 0);rw [hge] at hN ⊢
    all_goals exact ⟨.inl rfl,_,rfl,by rw [gY,Nat.zero_add,gY];exact hN⟩
  · rw [if_neg hc] at hfp;rw [if_pos hc];generalize kO (L.map (·.1)) no ss = c at *
    (repeat' (first|refine wS ?_|refine wK ?_|refine wR ?_|(refine wC rfl ?_ ?_<;>(intro hb;(try simp only [nm] at hb);try (exfalso;omega)))|(refine rg 0 (aV ?_))|(refine rg 1 (fF rfl (mW rfl (eH rfl rfl hfp rfl ?_)));rintro _ _ ⟨rfl,rfl⟩;dsimp only [fC];refine mW rfl (xW rfl (xW rfl (oC ?_))))|(refine rg 2 (mW rfl (vV (cT rfl rfl) ?_)))|(refine rg 4 (mW rfl (aV ?_)))|refine nZ ?_));all_goals first | (exfalso;omega) | exact ⟨.inl rfl,_,rfl,rfl,_,⟨po,L,h,rfl,rfl⟩,Fr.refl _ _⟩
theorem CW {H : Hp} {pb : Nat} {bk : Bk} {A : List Nat} (hB : uL H pb bk A) (no : Int) (hl : bk.length ≤ 1000) :
    eS Tryz.prog 25 [.ptr pb 0,.i no] H (K2 H pb A (.i (rY bk no 4 [0,1]).1) (rY bk no 4 [0,1]).2) := by
  have he := RO (hB.app [.gone]) no 4 [0,1] hl (by decide)
  refine jO T Tryz.func25 rfl rfl rfl rfl ?_
  (repeat' (first|refine wS ?_|refine wR ?_|(refine rg 0 (aV ?_))|(refine rg 1 (fF rfl (cY (by exact cF T rfl rfl (by decide) (by decide) rfl rfl rfl) rfl ?_));refine tC 7 rfl cP rfl rfl ?_;rw [iL];refine eH rfl rfl he rfl ?_;rintro _ _ ⟨rfl,hq⟩;dsimp only [fC];refine aV ?_)|refine nZ ?_));all_goals exact ⟨.inl rfl,_,rfl,K2.from [.gone] ⟨rfl,hq⟩⟩
theorem LY {H : Hp} {pb : Nat} {bk : Bk} {A : List Nat} (hB : uL H pb bk A) (no : Int) (hl : bk.length ≤ 1000) :
    eS Tryz.prog 47 [.ptr pb 0,.i no] H (K2 H pb A (.i (rY bk no 3 [1]).1) (rY bk no 3 [1]).2) := by
  have he := RO (hB.app [.gone]) no 3 [1] hl (by decide)
  refine jO T Tryz.func47 rfl rfl rfl rfl ?_
  (repeat' (first|refine wS ?_|refine wR ?_|(refine rg 0 (aV ?_))|(refine rg 1 (fF rfl (cY (by exact cF T rfl rfl (by decide) (by decide) rfl rfl rfl) rfl ?_));refine tC 7 rfl cP rfl rfl ?_;rw [iL];refine eH rfl rfl he rfl ?_;rintro _ _ ⟨rfl,hq⟩;dsimp only [fC];refine aV ?_)|refine nZ ?_));all_goals exact ⟨.inl rfl,_,rfl,K2.from [.gone] ⟨rfl,hq⟩⟩
theorem VN (bk : Bk) : bN Tryz.prog 13 [FI bk] [] (.i bk.length) [] := by
  have hbl := mI bk;refine dC T Tryz.func13 rfl rfl rfl rfl ?_
  (repeat' (first|refine wS ?_|refine wR ?_|(refine rg 0 (aV ?_))|(refine rg 1 (mW rfl (nV ?_));refine jH T rfl (qW T rfl (aV ?_)))|refine nZ ?_));all_goals exact dZ (.inl rfl) rfl (by rw [← hbl];rfl)
theorem ND {H : Hp} {pb : Nat} {bk : Bk} {A : List Nat} (hB : uL H pb bk A) (ws : List Wt) (due : Int) (hl : bk.length ≤ 1000) (hw : ws.length ≤ 1000000) :
    eS Tryz.prog 18 [.ptr pb 0,.rowE (bZ ws) 3,.i due] H (K2 H pb A (.tup [.i (wF bk ws due).1.1,.i (wF bk ws due).1.2]) (wF bk ws due).2) := by
  have hcr := N2 ws due hw;have hcl := uU ws hw;have hB0 := hB;obtain ⟨po,L,h,rfl,rfl⟩ := hB;rw [bI] at hl;have hbk := h.b;unfold wF;refine jO T Tryz.func18 rfl rfl rfl rfl ?_;cases hr : kL ws due with
  | false =>
    rw [hr] at hcr
    (repeat' (first|refine wS ?_|refine wB ?_|refine wR ?_|refine wT ?_|(refine rg 0 (oC ?_))|(refine rg 1 (fF rfl (vV (kC (hcr)) (vV (eI rfl) (aV ?_)))))|(refine rg 2 (oC ?_))|refine nZ ?_));all_goals exact ⟨.inl rfl,_,rfl,rfl,_,hB0,Fr.refl _ _⟩
  | true =>
    rw [hr] at hcr;rw [if_neg (by decide : ¬ (!true) = true)]
    by_cases h1000 : 1000 ≤ L.length
    · rw [if_pos (by simpa using h1000)]
      (repeat' (first|refine wS ?_|refine wB ?_|refine wR ?_|refine wU ?_|(refine wC rfl ?_ ?_<;>(intro hb;(try simp only [nm] at hb);try (exfalso;omega)))|(refine rg 0 (oC ?_))|(refine rg 1 (fF rfl (vV (kC (hcr)) (vV (eI rfl) (aV ?_)))))|(refine rg 3 (mW rfl (nV ?_));refine fW T rfl (vV (by exact bC T rfl rfl (dU hbk) rfl) ?_);refine qW T rfl (vV (eV rfl rfl) (aV ?_)))|(refine rg 4 (oC ?_))|refine nZ ?_));all_goals first | (exfalso;omega) | exact ⟨.inl rfl,_,rfl,rfl,_,hB0,Fr.refl _ _⟩
    · rw [if_neg (by simpa using h1000)]
      (repeat' (first|refine wS ?_|refine wB ?_|refine wK ?_|refine wU ?_|(refine wC rfl ?_ ?_<;>(intro hb;(try simp only [nm] at hb);try (exfalso;omega)))|(refine rg 0 (oC ?_))|(refine rg 1 (fF rfl (vV (kC (hcr)) (vV (eI rfl) (aV ?_)))))|(refine rg 3 (mW rfl (nV ?_));refine fW T rfl (vV (by exact bC T rfl rfl (dU hbk) rfl) ?_);refine qW T rfl (vV (eV rfl rfl) (aV ?_)))|refine nZ ?_));all_goals try (exfalso;omega)
      have hpol := (aA.1 h.o).1;have hpbl := (aA.1 hbk).1
      (repeat' (first|refine wS ?_|(refine rB (id := 5) 40 [[],[],[1],[1,2],[1,2,3],[],[5],[],[5,6,7],rM 5 4,rM 5 5,rM 1 10,rN 12,rN 13,rN 14] (rM 20 14) [[],[20],[20],[20],[20],rM 20 5,rM 20 5,rM 20 7,rM 20 5,rM 20 5,rM 20 5,[20],[],[],[]] [(11,po),(14,pb)] fK rfl (BZ (by decide +kernel) rfl rfl rfl rfl) (eW rfl rfl rfl rfl (by exact eQ rfl) ?_);refine eW rfl rfl rfl rfl (by exact eQ rfl) ?_;refine eW rfl rfl rfl rfl (by exact dQ rfl rfl) ?_;refine eW rfl rfl rfl rfl (by exact eE T rfl rfl rfl) ?_;refine eW rfl rfl rfl rfl (by exact bC T rfl rfl (dU (bS hbk)) rfl) ?_;refine eW rfl rfl rfl rfl (by exact eQ rfl) ?_;refine eW rfl rfl rfl rfl (by exact nW rfl rfl hcl (.cons (.row _ _ _) .nil) (gV _).symm (AH _) (R0 _)) ?_;refine eW rfl rfl rfl rfl (by exact eQ rfl) ?_;refine eW rfl rfl rfl rfl (by exact iG T rfl rfl rfl rfl) ?_;refine eW rfl rfl rfl rfl (by exact iG T rfl rfl rfl rfl) ?_;refine MM rfl rfl rfl rfl (by exact cF T rfl rfl (by decide) (by decide) rfl rfl rfl) rfl ?_;refine vY rfl rfl rfl rfl hpol (zR T rfl rfl rfl rfl rfl (bS h.o) (by simp) (kQ.whole Q3 rfl) rfl (by simp;omega) (by simp;omega)) ?_;refine eW rfl rfl rfl rfl (by exact dQ rfl rfl) ?_;refine eW rfl rfl rfl rfl (by exact eE T rfl rfl rfl) ?_;refine EM rfl rfl rfl rfl hpbl T rfl rfl rfl rfl rfl rfl (by decide) (JI (bS (fZ h.ne hbk)) rfl) ?_;refine xO rfl rfl rfl (by exact rfl) ?_)|refine nZ ?_));have hta : List.take L.length (List.drop 0 (L.map fun e => iY e.1 e.2.1)) = L.map fun e => iY e.1 e.2.1 := by rw [dI,aX (by simp)]
      refine jJ [(0,.ptr pb 0)] ((H.set po .gone).set pb (.cells [.sl (H ++ [AB.arr [iY ⟨ws,due,0,[]⟩ .nils] 4]).length 0 (L.length + 1) 4]) ++ [.arr [iY ⟨ws,due,0,[]⟩ .nils] 4,.arr ((L.map fun e => iY e.1 e.2.1) ++ [iY ⟨ws,due,0,[]⟩ .nils]) 4]) (mC.of (by (conv => rhs;rw [← hta]);rfl) (by repeat first|exact trivial|refine ⟨rfl,?_⟩)) ?_
      have hlen : (H ++ [AB.arr [iY ⟨ws,due,0,[]⟩ .nils] 4]).length = H.length + 1 := by simp
      rw [hlen];have hpbl2 : pb < (H.set po .gone).length := by simpa using hpbl
      have g1 : ((H.set po .gone).set pb (.cells [.sl (H.length + 1) 0 (L.length + 1) 4]) ++ [AB.arr [iY ⟨ws,due,0,[]⟩ .nils] 4,.arr ((L.map fun e => iY e.1 e.2.1) ++ [iY ⟨ws,due,0,[]⟩ .nils]) 4])[pb]? = some (.cells [.sl (H.length + 1) 0 (L.length + 1) 4]) := bS (gA hpbl2);have g2 : ((H.set po .gone).set pb (.cells [.sl (H.length + 1) 0 (L.length + 1) 4]) ++ [AB.arr [iY ⟨ws,due,0,[]⟩ .nils] 4,.arr ((L.map fun e => iY e.1 e.2.1) ++ [iY ⟨ws,due,0,[]⟩ .nils]) 4])[H.length + 1]? = some (.arr ((L.map fun e => iY e.1 e.2.1) ++ [iY ⟨ws,due,0,[]⟩ .nils]) 4) := by
        rw [aF (by simp)];simp
      have g3 : ∀ k,k < H.length → k ≠ po → k ≠ pb → ((H.set po .gone).set pb (.cells [.sl (H.length + 1) 0 (L.length + 1) 4]) ++ [AB.arr [iY ⟨ws,due,0,[]⟩ .nils] 4,.arr ((L.map fun e => iY e.1 e.2.1) ++ [iY ⟨ws,due,0,[]⟩ .nils]) 4])[k]? = H[k]? := fun k hk h1 h2 => by
        rw [aG (by simpa using hk),eK h2,eK h1]
      have g4 : H.length ≤ ((H.set po .gone).set pb (.cells [.sl (H.length + 1) 0 (L.length + 1) 4]) ++ [AB.arr [iY ⟨ws,due,0,[]⟩ .nils] 4,.arr ((L.map fun e => iY e.1 e.2.1) ++ [iY ⟨ws,due,0,[]⟩ .nils]) 4]).length := by simp
      generalize (H.set po .gone).set pb (.cells [.sl (H.length + 1) 0 (L.length + 1) 4]) ++ [AB.arr [iY ⟨ws,due,0,[]⟩ .nils] 4,.arr ((L.map fun e => iY e.1 e.2.1) ++ [iY ⟨ws,due,0,[]⟩ .nils]) 4] = H1 at *;have hadd := h.add ⟨ws,due,0,[]⟩ rfl (CM H.length) g1 g2 g3
      (repeat' (first|refine wR ?_|(refine rg 6 (mW rfl (nV ?_));refine fW T rfl (vV (by exact bC T rfl rfl (dU g1) rfl) ?_);refine qW T rfl (vV (gN rfl rfl (by omega) (by omega)) (oC ?_)))|refine nZ ?_));all_goals try (exfalso;omega)
      all_goals exact ⟨.inl rfl,_,rfl,by show AV.tup [AV.i _,AV.i _] = AV.tup [AV.i _,AV.i _];rw [bI,show (((L.length + 1 : Nat) : Int) - 1) = (L.length : Int) by omega],_,⟨H.length + 1,_,hadd,by simp,rfl⟩,h.addFr g4 (CM _) g3⟩
end Go.Proofs.YtdiogjgohbbllaaGreatDoor
namespace Go.Or
open Go Go.Ab
structure pM (ls : List Lo) (sure : List Bo) : Prop where
  ll : ls.length ≤ 1000000
  sl : sure.length ≤ 20
  lot : Y3 ls sure
  cn : ∀ b : Int,0 ≤ b → 0 ≤ cnt sure b ∧ cnt sure b ≤ 20000
structure UR (bk : Bk) : Prop where
  le : bk.length ≤ 1000
  tk : ∀ o,o ∈ bk → o.tk.length ≤ 1000000 ∧ ∀ l,l ∈ o.tk → l.length ≤ 1000000
  sum : C4 bk
  ws : ∀ o,o ∈ bk → o.ws.length ≤ 1000
theorem KC (l : List Bo) : (AB.arr (eR l) 3).rf = true := DO l
theorem MG : ∀ l : List Bo, AV.idfL (eR l).flatten = true
  | [] => rfl
  | x :: l => MG l
theorem pM.spare {ls : List Lo} {sure : List Bo} {bk : Bk} (h : pM ls sure) (hn : ∀ b : Int,0 ≤ b → 0 ≤ lU bk b) : pM ls (iX bk sure) := by
  refine ⟨h.ll,by rw [kT];exact h.sl,fun i hi => ?_,fun b hb => ?_⟩
  · rw [kT] at hi;have e := M6 (bk := bk) (sure := sure) (b := (i : Int)) (by omega)
    rw [bK] at e;rw [e];exact h.lot i hi
  · by_cases hl : b < sure.length
    · rw [yQ hb hl];have := h.cn b hb;have := hn b hb;omega
    · rw [V4 (by rw [kT];omega)];omega
mutual
theorem View.more {H : Hp} : ∀ {x y : AV}, View H x y → ∀ Z : Hp, View (H ++ Z) x y
  | _,_,.v x,_ => .v x
  | _,_,.any,_ => .any
  | _,_,.row a b c,_ => .row a b c
  | _,_,.mrow a b,_ => .mrow a b
  | _,_,.mp h1 h2,Z => .mp (bS h1) (fR.more h2 Z)
  | _,_,.pr a b,_ => .pr a b
  | _,_,.sl h1 h2 h3,Z => .sl (bS h1) h2 (fR.more h3 Z)
  | _,_,.ptr h1 h2,Z => .ptr (bS h1) (fR.more h2 Z)
  | _,_,.ep h1 h2 h3,Z => .ep (bS h1) h2 (fR.more h3 Z)
  | _,_,.agg h,Z => .agg (fR.more h Z)
  | _,_,.tup h,Z => .tup (fR.more h Z)
  | _,_,.clo h1 h2,Z => .clo (fR.more h1 Z) (fR.more h2 Z)
  | _,_,.ifc h,Z => .ifc (View.more h Z)
  | _,_,.nils n,_ => .nils n
theorem fR.more {H : Hp} : ∀ {x y : List AV}, fR H x y → ∀ Z : Hp, fR (H ++ Z) x y
  | _,_,.nil,_ => .nil
  | _,_,.cons h1 h2,Z => .cons (View.more h1 Z) (fR.more h2 Z)
end
theorem C4.nnr {bk : Bk} (h : C4 bk) (b : Int) : 0 ≤ lU bk b := (mR (l := gR bk) (a := gR bk) (b := []) (by simp) (fun t ht => (h.nn t ht).2) b).1
def CF (H : Hp) (u : AV) (sure : List Bo) : Prop := u = .rowE (eR sure) 3 ∨ ∃ k,u = .sl k 0 sure.length 3 ∧ H[k]? = some (.arr (eR sure) 3)
theorem CF.view {H : Hp} {u : AV} {sure : List Bo} (h : CF H u sure) : View H u (.rowE (eR sure) 3) := by
  rcases h with rfl | ⟨k,rfl,hk⟩
  · exact .row _ _ _
  · exact rJ hk (gX _).symm (V6 _)
theorem kG.shift {H o : Hp} {x : AV} {tk : List (List Tk)} {A : List Nat} (h : kG o x tk A) : kG (H ++ o.map (AB.map (· + H.length))) (x.map (· + H.length)) tk (A.map (· + H.length)) := by
  have hg : ∀ {k : Nat} {b : AB},o[k]? = some b → (H ++ o.map (AB.map (· + H.length)))[k + H.length]? = some (b.map (· + H.length)) := fun {k b} hk => by
    rw [aF (by omega),IT,aO,hk];rfl
  rcases h with ⟨rfl,rfl,rfl⟩ | ⟨p,N,rfl,h2,h3,rfl,rfl,h6⟩
  · exact .inl ⟨rfl,rfl,rfl⟩
  · refine .inr ⟨p + H.length,N.map fun e => (e.1 + H.length,e.2),?_,?_,fun e he => ?_,by simp [Function.comp_def],by simp [Function.comp_def],?_⟩
    · show AV.sl (p + H.length) 0 N.length 1 = _;rw [bI]
    · rw [hg h2];show some (AB.arr ((kX N).map (AV.mapL (· + H.length))) 1) = _;simp only [kX,mP,Function.comp_def];rfl
    · obtain ⟨f,hf,rfl⟩ := aJ.1 he;have h4 := h3 f hf;dsimp only;rw [hg h4];show some (AB.arr ((eO f.2).map (AV.mapL (· + H.length))) 2) = _;rw [gW _ (nX _)]
    · unfold List.Nodup;rw [NS];exact List.Pairwise.imp (fun h e => h (by omega)) h6
theorem kG.nd {H : Hp} {x : AV} {tk : List (List Tk)} {A : List Nat} (h : kG H x tk A) : A.Nodup := by
  rcases h with ⟨_,_,rfl⟩ | ⟨p,N,_,_,_,_,_,h6⟩
  · exact bB
  · exact h6
theorem kG.form {H : Hp} {x : AV} {tk : List (List Tk)} {A : List Nat} (h : kG H x tk A) : x = .nils ∨ ∃ p m,x = .sl p 0 m 1 := by
  rcases h with ⟨rfl,_⟩ | ⟨p,N,rfl,_⟩
  · exact .inl rfl
  · exact .inr ⟨p,_,rfl⟩
theorem kG.un {H : Hp} {x : AV} {tk : List (List Tk)} {A : List Nat} (h : kG H x tk A) : x.un = x := by
  rcases h with ⟨rfl,_⟩ | ⟨p,N,rfl,_⟩ <;> rfl
theorem xT {P : Program} {n : Nat × Nat} {code code' : Code} {Q Q' : Exit → cJ → Hp → Prop} {env : cJ} {h : Hp} {I : Type} (E : I → cJ) (H : I → Hp) (C : I → Prop)
    (hk : ∀ x,C x → AW P n code' (E x) (H x) Q') (h1 : (∀ x,C x → AW P n code' (E x) (H x) Q') → AW P n code env h Q) : AW P n code env h Q := h1 hk
theorem II (n k : Nat) : fM [] n 0 k = k + n := by unfold fM;simp;omega
theorem sC (n : Nat) : fM [] n 0 = (· + n) := funext (II n)
end Go.Or
namespace Go.Proofs.YtdiogjgohbbllaaGreatDoor
open Go Go.Ab Go.Or
attribute [local irreducible] VC AW bR bN eS AY VY B8
set_option maxHeartbeats 4000000
theorem yX {H : Hp} {pb : Nat} {bk : Bk} {A : List Nat} (hB : uL H pb bk A) (hz : UR bk) (ls : List Lo) (sure : List Bo) (hs : pM ls sure) (no : Int) (u : AV) (hsu : CF H u sure) :
    eS Tryz.prog 21 [.ptr pb 0,.i no,.rowE (jF ls) 3,u] H (K2 H pb A (.i (pY ls sure bk no).1) (pY ls sure bk no).2) := by
  have hle := hz.le;have hB1 := hB.app [.gone];have hB0 := hB;have hu1 := View.more hsu.view [.gone];have hsu2 : u = .rowE (eR sure) 3 ∨ ∃ k,u = .sl k 0 sure.length 3 := hsu.imp id fun ⟨k,h,_⟩ => ⟨k,h⟩
  obtain ⟨po,L,h,rfl,rfl⟩ := hB1;rw [bI] at hle;have hfp := EJ h no [0] hle (by decide)
  have hsp := OT (L.map (·.1)) sure (by rw [bI];omega) hz.tk hz.sum (by have := hs.sl;omega) hs.cn
  have hso := hs.spare (bk := L.map (·.1)) (fun b _ => hz.sum.nnr b);unfold pY;refine jO T Tryz.func21 rfl rfl rfl rfl ?_;by_cases hc : kO (L.map (·.1)) no [0] = 0
  · obtain ⟨⟨r0,r1⟩,_,hm,_⟩ := oO hc;rw [bI] at r1;obtain ⟨e,he,hge⟩ := G1 (L := L) (i := no.toNat) (by omega)
    rw [hge] at hm ⊢;have q1 := hso.cn;have q2 := hso.lot;have q3 := hz.ws _ hm;generalize hSP : iX (L.map (·.1)) sure = SP at *;have hpl := SK ls SP e.1.ws hso.ll hso.sl q2 q3 q1;rw [if_pos hc,hc] at hfp;rw [if_neg (by simp [hc] : ¬ kO (L.map (·.1)) no [0] ≠ 0)]
    generalize hq : pZ ls SP e.1.ws = pl at *;have hg := xD he
    (repeat' (first|refine wS ?_|refine wK ?_|refine wU ?_|(refine rg 0 (aV ?_))|(refine rg 1 (fF rfl (cY (by exact cF T rfl rfl (by decide) (by decide) rfl rfl rfl) rfl ?_));refine tC 15 rfl cP rfl rfl ?_;rw [iL];refine eH rfl rfl hfp rfl ?_;rintro _ _ ⟨rfl,rfl⟩;dsimp only [fC];refine mW rfl (xW rfl (xW rfl (oC ?_))))|(refine rg 2 (mW rfl (vV (pH rfl rfl) ?_)))|refine nZ ?_));all_goals try (exfalso;omega)
    have hvb := h.view;clear hsu hfp hB;apply xT (I := AV × Hp × List Nat) (fun x => [(9,.ep po (0 + no.toNat) 0 4),(10,.i pl.1),(11,x.1)]) (fun x => (H ++ [.gone]) ++ x.2.1) (fun x => kG ((H ++ [.gone]) ++ x.2.1) x.1 pl.2 x.2.2 ∧ ∀ k,k ∈ x.2.2 → (H ++ [AB.gone]).length ≤ k)
    case h1 =>
     intro rest;rcases hsu2 with rfl | ⟨ku,rfl⟩
     all_goals
      refine CD (id := 4) fK ?_;refine oH 0 rfl rfl (by decide +kernel) (by decide +kernel) (by decide +kernel) (by exact pX rfl) rfl ?_
      refine oH 1 rfl rfl (by decide +kernel) (by decide +kernel) (by decide +kernel) (by exact pX rfl) rfl ?_
      refine oH 2 rfl rfl (by decide +kernel) (by decide +kernel) (by decide +kernel) (by exact pX rfl) rfl ?_
      refine oH 4 rfl rfl (by decide +kernel) (by decide +kernel) (by decide +kernel) (by exact pX rfl) rfl ?_
      refine oH 5 rfl rfl (by decide +kernel) (by decide +kernel) (by decide +kernel) (by exact tI rfl rfl) rfl ?_
      refine oH 6 rfl rfl (by decide +kernel) (by decide +kernel) (by decide +kernel) (by exact mU T rfl rfl rfl) rfl ?_
      refine oH 7 rfl rfl (by decide +kernel) (by decide +kernel) (by decide +kernel) (by exact mU T rfl rfl rfl) rfl ?_
      refine GI _ rfl [true,true,true,false,true,true,true,true,false,false,false,false,false,false,false] rfl rfl ?_
      (repeat' (first|(refine NI rfl rfl rfl ?_ ?_<;>(((refine vV (by first|exact jG rfl|exact rW rfl rfl|exact bC T rfl rfl (eF h.o hg) rfl|exact nW rfl rfl hsp (.cons hvb (.cons hu1 .nil)) (gX _).symm (KC _) (MG _)) ?_));refine oY ?_;dsimp only [List.set_cons_zero,List.set_cons_succ]))|(refine NJ rfl rfl ?_;(first|(refine vV (by first|exact eQ rfl|exact jG rfl|exact rW rfl rfl|exact bC T rfl rfl (eF h.o hg) rfl|exact nW rfl rfl hsp (.cons hvb (.cons hu1 .nil)) (gX _).symm (KC _) (MG _)) ?_)|(refine uM [] rfl rfl hpl rfl rfl bB trivial (by simp) rfl ?_;rintro res hout hΦ;obtain ⟨x,B,rfl,hn,_,_⟩ := hΦ;dsimp only [fC]));refine oY ?_;dsimp only [List.set_cons_zero,List.set_cons_succ])));all_goals
        refine R4 rfl ?_;rw [hq] at hn;have hsh := hn.shift (H := H ++ [.gone]);exact jJ [(9,.ep po (0 + no.toNat) 0 4),(10,.i pl.1),(11,AV.map (· + (H ++ [AB.gone]).length) x)] ((H ++ [AB.gone]) ++ hout.map (AB.map (· + (H ++ [AB.gone]).length))) (mC.of (by rw [List.length_nil,sC,dI];rfl) ⟨rfl,by rw [← hq];rfl,by rw [List.length_nil,sC];exact congrArg some hsh.un,trivial⟩) (rest (_,_,_) ⟨hsh,fun k hk => by obtain ⟨m,_,rfl⟩ := aJ.1 hk;omega⟩)
    rintro ⟨x,Z,B⟩ ⟨hn,hB2⟩;dsimp only at hn hB2 ⊢;have hX := h.more (H' := (H ++ [AB.gone]) ++ Z) fun k hk => iP hk
    have hXl : (H ++ [AB.gone]).length ≤ ((H ++ [AB.gone]) ++ Z).length := by simp
    have hXo : ∀ k,k < (H ++ [AB.gone]).length → ((H ++ [AB.gone]) ++ Z)[k]? = (H ++ [AB.gone])[k]? := fun k hk => iP hk
    have hpob := (aA.1 h.o).1;have hpbb := (aA.1 h.b).1;generalize (H ++ [AB.gone]) ++ Z = X at *;have hpol := (aA.1 hX.o).1;have hnl : no.toNat < L.length := by omega
    by_cases hz0 : pl.1 = 0
    · rw [hz0,if_neg (by simp : ¬ (0 : Int) ≠ 0)]
      have key : ∀ H',H' = X.set po (.arr ((L.map fun e => iY e.1 e.2.1).set no.toNat (iY { e.1 with st := 1,tk := pl.2 } x)) 4) → K2 H pb (vU pb po L) (.i 0) ((L.map (·.1)).set no.toNat { e.1 with st := 1,tk := pl.2 }) (.i 0) H' := fun H' hH => by
        subst hH;refine K2.from [.gone] ⟨rfl,vU pb po (L.set no.toNat ({ e.1 with st := 1,tk := pl.2 },x,B)),⟨po,_,h.upd he _ x B ((eK h.ne).trans (hXo _ hpbb)) (gA hpol) (fun k hk hne _ => (eK hne).trans (hXo k hk)) (hn.frame fun k hk => eK (by have := hB2 k hk;omega)) (fun k hk => .inr (hB2 k hk)) hn.nd,by rw [T7],rfl⟩,?_⟩
        exact h.fr he (by simpa using hXl) ((eK h.ne).trans (hXo _ hpbb)) (fun k hk hne _ => (eK hne).trans (hXo k hk)) (fun k hk => .inr (hB2 k hk))
      rcases hn.form with rfl | ⟨px,mx,rfl⟩
      all_goals
        (repeat' (first|refine wS ?_|refine wK ?_|refine wR ?_|refine wU ?_|(refine rg 5 (mW rfl (vV (pH rfl rfl) ?_)))|(refine rg 7 (fF rfl (mW rfl (nV ?_)));refine fW T rfl (fW T rfl (bE T rfl rfl rfl rfl rfl rfl (by decide) (oZ hX.o hg rfl rfl) (nV ?_)));refine fV T ?_;refine bE T rfl rfl rfl rfl rfl rfl (by decide) (oZ (gA hpol) (by rw [eP (by simpa using hnl)]) rfl rfl) ?_)|(refine rg 8 (aV ?_))|refine nZ ?_));all_goals try (exfalso;omega)
        all_goals exact ⟨.inl rfl,_,rfl,key _ (by rw [gY,Nat.zero_add,gY])⟩
    · rw [if_pos hz0]
      (repeat' (first|refine wS ?_|refine wR ?_|refine wT ?_|(refine rg 5 (mW rfl (vV (U6 rfl rfl (by omega)) ?_)))|(refine rg 6 (mW rfl (aV ?_)))|refine nZ ?_));all_goals first | (exfalso;omega) | exact ⟨.inl rfl,_,rfl,K2.from [.gone] ⟨rfl,_,⟨po,L,hX,rfl,rfl⟩,⟨hXl,fun k hk _ => hXo k hk,fun k hk => .inl hk⟩⟩⟩
  · rw [if_neg hc] at hfp;rw [if_pos hc];generalize kO (L.map (·.1)) no [0] = c at *
    (repeat' (first|refine wS ?_|refine wR ?_|(refine wC rfl ?_ ?_<;>(intro hb;(try simp only [nm] at hb);try (exfalso;omega)))|(refine rg 0 (aV ?_))|(refine rg 1 (fF rfl (cY (by exact cF T rfl rfl (by decide) (by decide) rfl rfl rfl) rfl ?_));refine tC 15 rfl cP rfl rfl ?_;rw [iL];refine eH rfl rfl hfp rfl ?_;rintro _ _ ⟨rfl,rfl⟩;dsimp only [fC];refine mW rfl (xW rfl (xW rfl (oC ?_))))|(refine rg 2 (mW rfl (vV (pH rfl rfl) ?_)))|(refine rg 3 (mW rfl (aV ?_)))|refine nZ ?_));all_goals first | (exfalso;omega) | exact ⟨.inl rfl,_,rfl,rfl,_,⟨po,L,h,rfl,rfl⟩,Fr.app _ _ _⟩
end Go.Proofs.YtdiogjgohbbllaaGreatDoor
namespace Go.Or
open Go Go.Ab
abbrev eT (q : Tk → Bool) (l : List Tk) : List Tk := l.filter fun x => !q x
theorem G6 {q : Tk → Bool} {l : List Tk} {k : Nat} (h : k < l.length) : eT q (l.take (k + 1)) = if q l[k] then eT q (l.take k) else eT q (l.take k) ++ [l[k]] := by
  unfold eT;rw [aY h,IW];cases e : q l[k] <;> simp [e]
theorem LM (q : Tk → Bool) (l : List Tk) (k : Nat) : (eT q (l.take k)).length ≤ k := cC (sS _ _) (by simp;omega)
abbrev t0 : Tk := (0,0)
theorem BJ {l : List Tk} {m : Nat} (h : m < l.length) : l.getD m t0 = l[m] := by rw [aD,aB h];rfl
theorem JK {l : List Tk} {i : Nat} {x : Tk} {j : Int} (hj : j = i) : (eO l).set (0 + j.toNat) [AV.i x.1,AV.i x.2] = eO (l.set i x) := by
  subst hj;rw [Nat.zero_add,bK];show _ = List.map (fun t : Tk => [AV.i t.1,AV.i t.2]) (l.set i x);rw [oF]
theorem JX {l : List Tk} {A : List Tk} {y x : Tk} : (A ++ y :: l).set A.length x = A ++ x :: l := by simp
theorem WF {G l : List Tk} {m : Nat} {i : Nat} (hg : G.length ≤ m) (hm : m < l.length) (hi : i = m) : (eO (G ++ l.drop G.length))[i]? = some [AV.i (l.getD m t0).1,AV.i (l.getD m t0).2] := by
  subst hi;rw [aO,aF hg,dH,show G.length + (i - G.length) = i by omega,aB hm,BJ hm];rfl
theorem XB {G l : List Tk} {x : Tk} {j : Int} (h : G.length < l.length) (hj : j = G.length) : (eO (G ++ l.drop G.length)).set (0 + j.toNat) [AV.i x.1,AV.i x.2] = eO ((G ++ [x]) ++ l.drop (G ++ [x]).length) := by
  rw [JK (i := G.length) hj,aS h,JX];simp
theorem VO {G l : List Tk} (h : G.length ≤ l.length) : (eO (G ++ l.drop G.length)).length = l.length := by simp;omega
theorem VE {G : List Tk} {l : List Tk} : (eO (G ++ l.drop G.length)).take (0 + (G.length : Int).toNat) = eO G := by
  rw [Nat.zero_add,bK,← List.map_take,List.take_left]
def qS (b : Int) : Int → List Tk → Int × List Tk
  | n,[] => (n,[])
  | n,t :: l => if t.1 = b then ((qS b (n - min n t.2) l).1,(t.1,t.2 - min n t.2) :: (qS b (n - min n t.2) l).2) else ((qS b n l).1,t :: (qS b n l).2)
abbrev zq (t : Tk) : Bool := t.2 == 0
theorem E7 (b : Int) : ∀ (n : Int) (l : List Tk), iK b n l = ((qS b n l).1, eT zq (qS b n l).2)
  | _,[] => rfl
  | n,t :: l => by
    unfold iK qS;split
    · rw [E7 b _ l];dsimp only;by_cases h : t.2 - min n t.2 = 0
      · simp [eT,zq,h]
      · simp [eT,zq,h]
    · rw [E7 b _ l];dsimp only;by_cases h : t.2 = 0
      · simp [eT,zq,h]
      · simp [eT,zq,h]
structure NZ (b n0 : Int) (l0 : List Tk) (j : Nat) (n : Int) (l : List Tk) : Prop where
  jl : j ≤ l0.length
  ll : l.length = l0.length
  eq : qS b n0 l0 = ((qS b n (l.drop j)).1,l.take j ++ (qS b n (l.drop j)).2)
  nn : 0 ≤ n ∧ n ≤ 1000000000000
  ok : ∀ t,t ∈ l → 0 ≤ t.2 ∧ t.2 ≤ 1000000000000
theorem NZ.next {b n0 : Int} {l0 : List Tk} {j : Nat} {n : Int} {l : List Tk} (h : NZ b n0 l0 j n l) (hj : j < l.length) (hb : l[j].1 = b) : NZ b n0 l0 (j + 1) (n - min n l[j].2) (l.set j (l[j].1,l[j].2 - min n l[j].2)) := by
  have hm := h.ok _ (aI hj);have h1 := h.nn;have heq := h.eq;rw [aS hj,qS,if_pos hb] at heq;refine ⟨by have := h.ll;omega,by rw [eB,h.ll],?_,by omega,fun t ht => ?_⟩
  · rw [heq,List.drop_set,if_pos (by omega),aY (by simpa using hj),Y4,EZ (by omega),bF];rfl
  · rcases rO ht with rfl | ht
    · dsimp only;omega
    · exact h.ok t ht
theorem NZ.skip {b n0 : Int} {l0 : List Tk} {j : Nat} {n : Int} {l : List Tk} (h : NZ b n0 l0 j n l) (hj : j < l.length) (hb : l[j].1 ≠ b) : NZ b n0 l0 (j + 1) n l := by
  have heq := h.eq;rw [aS hj,qS,if_neg hb] at heq;refine ⟨by have := h.ll;omega,h.ll,?_,h.nn,h.ok⟩
  rw [heq,aY hj,bF];rfl
theorem NZ.fin {b n0 : Int} {l0 : List Tk} {j : Nat} {n : Int} {l : List Tk} (h : NZ b n0 l0 j n l) (hj : ¬ j < l.length) : iK b n0 l0 = (n,eT zq l) := by
  have heq := h.eq;rw [dJ (by omega),aX (by omega)] at heq
  rw [E7,heq];simp [qS]
structure IS (b n0 : Int) (X0 : Hp) (p : Nat) (N0 : List (Nat × List Tk)) (w : Nat) (n : Int) (N : List (Nat × List Tk)) (X : Hp) : Prop where
  wl : w ≤ N0.length
  nl : N.length = N0.length
  ks : N.map (·.1) = N0.map (·.1)
  eq : iJ b n0 (N0.map (·.2)) = (N.take w).map (·.2) ++ iJ b n ((N.drop w).map (·.2))
  nn : 0 ≤ n ∧ n ≤ 1000000000000
  ok : ∀ e,e ∈ N → e.2.length ≤ 1000000 ∧ ∀ t,t ∈ e.2 → 0 ≤ t.2 ∧ t.2 ≤ 1000000000000
  hp : X[p]? = some (.arr (kX N) 1)
  hn : qG X N
  le : X0.length ≤ X.length
  fr : ∀ k,k < X0.length → k ≠ p → k ∉ N0.map (·.1) → X[k]? = X0[k]?
abbrev vC (N : List (Nat × List Tk)) (w : Nat) : Bool := (N.take w).any fun e => !e.2.isEmpty
theorem PC {N : List (Nat × List Tk)} {w : Nat} (h : w < N.length) : (kX N)[0 + (w : Int).toNat]? = some [AV.sl N[w].1 0 N[w].2.length 2] := by simp [h]
theorem IS.next {b n0 : Int} {X0 : Hp} {p : Nat} {N0 : List (Nat × List Tk)} {w : Nat} {n : Int} {N : List (Nat × List Tk)} {X : Hp} (h : IS b n0 X0 p N0 w n N X) (hw : w < N.length) (hnd : (p :: N0.map (·.1)).Nodup) {j : Nat} {n' : Int} {l : List Tk} (g : NZ b n N[w].2 j n' l) (hj : ¬ j < l.length) (Z : Hp) :
    IS b n0 X0 p N0 (w + 1) n' (N.set w (N[w].1,eT zq l)) (((X.set N[w].1 (.arr (eO (eT zq l)) 2)).set p (.arr (kX (N.set w (N[w].1,eT zq l))) 1)) ++ Z) := by
  have hf := g.fin hj;have hks := h.ks;rw [← hks] at hnd;have hpk : ∀ e,e ∈ N → e.1 ≠ p := fun e he e1 => (aL.1 hnd).1 (aJ.2 ⟨e,he,e1⟩);have hinj : ∀ (i : Nat) (hi : i < N.length),i ≠ w → N[i].1 ≠ N[w].1 := fun i hi hne e1 => by
    have h2 := (aL.1 hnd).2;have := (List.getElem_inj (h₀ := by simpa using hi) (h₁ := by simpa using hw) h2).1 (by simpa using e1)
    exact hne this
  have hq : N[w].1 < X.length := (aA.1 (h.hn _ (aI hw))).1;have hpl : p < X.length := (aA.1 h.hp).1;have heq := h.eq;rw [aS hw,List.map_cons,iJ,hf] at heq;have hgw := h.ok _ (aI hw);refine ⟨by have := h.nl;omega,by rw [eB,h.nl],?_,?_,g.nn,fun e he => ?_,?_,fun e he => ?_,?_,fun k hk h1 h2 => ?_⟩
  · rw [oF,← hks];exact cU fun i => by
      rw [bQ];split
      · rename_i e;subst e;simp [hw]
      · rfl
  · rw [heq,List.drop_set,if_pos (by omega),aY (by simpa using hw),Y4,EZ (by omega),cO,bF];rfl
  · rcases rO he with rfl | he
    · refine ⟨cC (sS _ _) (by have := g.ll;have := hgw.1;omega),fun t ht => g.ok t ((List.mem_filter.1 ht).1)⟩
    · exact h.ok e he
  · exact bS (gA (by simpa using hpl))
  · obtain ⟨i,hi⟩ := bT.1 he;rw [bQ] at hi;split at hi
    · cases hi;exact bS (fZ (hpk N[w] (aI hw)) (gA hq))
    · rename_i hne;obtain ⟨hil,rfl⟩ := aA.1 hi;exact bS (fZ (hpk _ (aI hil)) (fZ (hinj i hil (Ne.symm hne)) (h.hn _ (aI hil))))
  · rw [aC,eB,eB];have := h.le;omega
  · have hkX : k < X.length := bP hk h.le;have hkq : k ≠ N[w].1 := fun e1 => h2 (by rw [← hks,e1];exact aJ.2 ⟨_,aI hw,rfl⟩)
    rw [aG (by simpa using hkX),eK h1,eK hkq]
    exact h.fr k hk h1 h2
theorem IA {N : List (Nat × List Tk)} {w : Nat} {q : Nat} {l : List Tk} (hw : w < N.length) : vC (N.set w (q,l)) (w + 1) = (vC N w || !l.isEmpty) := by
  unfold vC;rw [aY (by simpa using hw),Y4,EZ (by omega),List.any_append];simp
theorem IS.fin {b n0 : Int} {X0 : Hp} {p : Nat} {N0 : List (Nat × List Tk)} {w : Nat} {n : Int} {N : List (Nat × List Tk)} {X : Hp} (h : IS b n0 X0 p N0 w n N X) (hw : ¬ w < N.length) : iJ b n0 (N0.map (·.2)) = N.map (·.2) ∧ (iJ b n0 (N0.map (·.2))).all (·.isEmpty) = !vC N w := by
  have heq := h.eq;rw [dJ (by omega),aX (by omega)] at heq
  rw [List.map_nil,iJ,List.append_nil] at heq;refine ⟨heq,?_⟩;rw [heq];unfold vC;rw [aX (by omega),List.not_any_eq_all_not,YP]
  congr 1;funext e;simp
theorem D0 {H : Hp} {q : Nat} {b : AB} (h : H[q]? = some b) : H.set q b = H := by
  apply cU;intro j;rw [bQ];split
  · rename_i e;subst e;rw [h];simp [(aA.1 h).1]
  · rfl
end Go.Or
namespace Go.Proofs.YtdiogjgohbbllaaGreatDoor
open Go Go.Ab Go.Or
attribute [local irreducible] VC AW bR bN
set_option maxHeartbeats 4000000
theorem EN {F : FuncId} {caps : List AV} {q : Tk → Bool} (l : List Tk) (hl : l.length ≤ 1000000) (hi : AV.idfL caps = true) (hp : AV.plOL caps = true) (hF : ∀ x,x ∈ l → bN Tryz.prog F (.agg [.i x.1,.i x.2] :: caps) [] (.b (q x)) []) :
    bN Tryz.prog 66 [.sl 0 0 l.length 2,.clo (.func F) [] caps] [.arr (eO l) 2] (.sl 0 0 (eT q l).length 2) [.arr (eO (eT q l)) 2] := by
  have hll : (eO l).length = l.length := oR l;have hix := LR hl hi hF;have hvw : View [.arr (eO l) 2] (.sl 0 0 l.length 2) (.rowE (eO l) 2) := rJ rfl hll.symm (G0 (fun _ => rfl) _);refine dC T Tryz.func66 rfl rfl rfl rfl ?_;rcases Q2 q l 0 with ⟨h1,h2⟩ | ⟨j,hj,h1,h2,h3⟩
  · rw [h1] at hix;have hk : eT q l = l := List.filter_eq_self.2 fun x hx => by rw [h2 x hx];rfl
    rw [hk]
    (repeat' (first|refine wS ?_|refine wR ?_|refine wT ?_|(refine rg 0 (aV ?_))|(refine rg 1 (fF rfl (vV (by exact iB rfl rfl hix (.cons hvw (.cons (.clo .nil (mK _ hp)) .nil)) rfl rfl) ?_));refine aV ?_)|(refine rg 2 (mW rfl (vV (cT rfl rfl) ?_)))|(refine rg 3 (mW rfl (aV ?_)))|refine nZ ?_));all_goals first | (exfalso;omega) | exact ⟨.inl rfl,[0],_,rfl,rfl,rfl,⟨.inr (cM rfl rfl (nX _)),trivial⟩,by decide,wL⟩
  · rw [h1,Nat.zero_add] at hix;have hk0 : eT q (l.take (j + 1)) = l.take j := by
      rw [G6 hj,if_pos h2];exact List.filter_eq_self.2 fun x hx => by rw [h3 x hx];rfl
    have hkl : (eT q (l.take (j + 1))).length = j := by rw [hk0];simp;omega
    have hka : eT q (l.take (j + 1)) ++ l.drop (eT q (l.take (j + 1))).length = l := by rw [hkl,hk0,bX]
    have hkf : eT q l = eT q (l.take l.length) := by rw [dY]
    rw [hkf]
    (repeat' (first|refine wS ?_|refine wB ?_|refine wK ?_|refine wU ?_|(refine rg 0 (aV ?_))|(refine rg 1 (fF rfl (vV (by exact iB rfl rfl hix (.cons hvw (.cons (.clo .nil (mK _ hp)) .nil)) rfl rfl) ?_));refine aV ?_)|(refine rg 2 (mW rfl (vV (cT rfl rfl) ?_)))|(refine iA 4 rfl rfl rfl (by omega) (by omega) ?_)|refine nZ ?_));all_goals try (exfalso;omega)
    refine eX (X := {m : Nat // m ≤ l.length}) (fun m => [(0,.sl 0 0 l.length 2),(1,.clo (.func F) [] caps),(5,.i (eT q (l.take m.1)).length),(6,.i m.1)]) (fun m => [.arr (eO (eT q (l.take m.1) ++ l.drop (eT q (l.take m.1)).length)) 2]) (fun m => l.length - m.1) ⟨j + 1,hj⟩ ⟨[0],rfl,⟨rfl,by rw [fU hi];rfl,by dsimp only;rw [hkl];rfl,rfl,trivial⟩,⟨.inr (cM rfl (by dsimp only;rw [hka]) (nX _)),trivial⟩,by decide,wL⟩ ?_
    rintro ⟨m,hm⟩;dsimp only;have hle := LM q l m;by_cases hlt : m < l.length
    · have hs := G6 (q := q) hlt;have hget := WF (G := eT q (l.take m)) (l := l) (m := m) (i := 0 + (m : Int).toNat) hle hlt (by omega)
      have hg2 := WF (G := eT q (l.take m)) (l := l) (m := (eT q (l.take m)).length) (i := 0 + (((eT q (l.take m)).length : Nat) : Int).toNat) (aQ _) (by omega) (by omega)
      rw [BJ hlt] at hget;have hset := XB (G := eT q (l.take m)) (l := l) (x := l[m]) (j := (((eT q (l.take m)).length : Nat) : Int)) (by omega) rfl
      have hc := hF l[m] (aI hlt);have hal := VO (G := eT q (l.take m)) (l := l) (by omega)
      generalize l[m] = x at *;generalize l.getD (eT q (l.take m)).length t0 = y at *;generalize hG : eT q (l.take m) = G at *;generalize hA : eO (G ++ l.drop G.length) = A at *;cases e : q x
      · rw [e] at hc hs;rw [if_neg (by simp)] at hs
        (repeat' (first|refine wS ?_|refine wB ?_|refine wK ?_|refine wT ?_|(refine wC rfl ?_ ?_<;>(intro hb;(try simp only [nm] at hb);try (exfalso;omega)))|(refine rg 5 (fF rfl (qW T rfl (vV (bA rfl rfl) ?_))))|(refine rg 7 (fF rfl (vV (by exact cI T rfl rfl rfl rfl rfl (by omega) (by omega)) ?_));refine vV (by exact bC T rfl rfl (mN rfl hget) rfl) ?_;refine cY (cS T rfl) rfl (bE T rfl rfl rfl rfl rfl rfl (by decide) rfl ?_))|(refine rg 8 (mW rfl (vV (bC T rfl rfl rfl rfl) (vV (by exact cN rfl rfl hc rfl (by simp [AV.idfL,AV.idf,hi]) rfl) ?_)));refine vV (eI rfl) ?_)|(refine rg 9 (fF rfl (vV (bC T rfl rfl rfl rfl) (vV (by exact cI T rfl rfl rfl rfl rfl (by omega) (by omega)) ?_)));refine bE T rfl rfl rfl rfl rfl rfl (by decide) (JH rfl hg2 rfl) ?_)|(refine iA 10 rfl rfl rfl (by omega) (by omega) ?_)|(refine iA 6 rfl rfl rfl (by omega) (by omega) ?_)|refine nZ ?_));all_goals try (exfalso;omega)
        all_goals exact ⟨⟨m + 1,hlt⟩,by dsimp only;omega,[0],rfl,⟨rfl,by rw [fU hi];rfl,by rw [hs];simp only [aC];rfl,rfl,trivial⟩,⟨.inr (cM rfl (by rw [hs];exact hset) (nX _)),trivial⟩,by decide,wL⟩
      · rw [e] at hc hs;rw [if_pos rfl] at hs
        (repeat' (first|refine wS ?_|refine wB ?_|refine wK ?_|refine wU ?_|(refine wC rfl ?_ ?_<;>(intro hb;(try simp only [nm] at hb);try (exfalso;omega)))|(refine rg 5 (fF rfl (qW T rfl (vV (bA rfl rfl) ?_))))|(refine rg 7 (fF rfl (vV (by exact cI T rfl rfl rfl rfl rfl (by omega) (by omega)) ?_));refine vV (by exact bC T rfl rfl (mN rfl hget) rfl) ?_;refine cY (cS T rfl) rfl (bE T rfl rfl rfl rfl rfl rfl (by decide) rfl ?_))|(refine rg 8 (mW rfl (vV (bC T rfl rfl rfl rfl) (vV (by exact cN rfl rfl hc rfl (by simp [AV.idfL,AV.idf,hi]) rfl) ?_)));refine vV (eI rfl) ?_)|(refine iA 6 rfl rfl rfl (by omega) (by omega) ?_)|refine nZ ?_));all_goals try (exfalso;omega)
        all_goals exact ⟨⟨m + 1,hlt⟩,by dsimp only;omega,[0],rfl,⟨rfl,by rw [fU hi];rfl,by rw [hs];rfl,rfl,trivial⟩,⟨.inr (cM rfl (by rw [hs];exact hA.symm) (nX _)),trivial⟩,by decide,wL⟩
    · obtain rfl : m = l.length := by omega
      have hal := VO (G := eT q (l.take l.length)) (l := l) (by omega)
      have htk := VE (G := eT q (l.take l.length)) (l := l);generalize eT q (l.take l.length) = G at *
      (repeat' (first|refine wS ?_|refine wR ?_|refine wE ?_|(refine wC rfl ?_ ?_<;>(intro hb;(try simp only [nm] at hb);try (exfalso;omega)))|(refine rg 5 (fF rfl (qW T rfl (vV (bA rfl rfl) ?_))))|(refine rg 11 (fF rfl (vV (by exact B0 T rfl rfl rfl rfl rfl rfl (by omega) (by omega) (by omega)) ?_));refine GQ T rfl rfl rfl ⟨rfl,rfl,by decide⟩ rfl (by rw [hal];omega) ?_)|(refine rg 12 (fF rfl (vV (by exact B0 T rfl rfl rfl rfl rfl rfl (by omega) (by omega) (by omega)) ?_));refine aV ?_)|refine nZ ?_));all_goals try (exfalso;omega)
      all_goals exact ⟨.inl rfl,[0],_,rfl,(by show AV.sl 0 0 ((G.length : Int) - 0).toNat 2 = AV.sl 0 0 G.length 2;rw [show ((G.length : Int) - 0).toNat = G.length by omega]),rfl,⟨.inr (cM rfl htk (nX _)),trivial⟩,by decide,wL⟩
theorem JY (x : Tk) : bN Tryz.prog 67 [.agg [.i x.1,.i x.2]] [] (.b (zq x)) [] := by
  obtain ⟨a,n⟩ := x;refine dC T Tryz.func67 rfl rfl rfl rfl ?_
  (repeat' (first|refine wS ?_|refine wR ?_|(refine rg 0 (cY (fG rfl rfl) rfl (aV ?_)))|(refine rg 1 (jH T rfl (vV (cT rfl rfl) (aV ?_))))|refine nZ ?_));all_goals exact dZ (.inl rfl) rfl (by rw [show zq (a,n) = decide (n = 0) from rfl];rfl)
end Go.Proofs.YtdiogjgohbbllaaGreatDoor
namespace Go.Or
open Go Go.Ab
theorem jC.apart {H : Hp} {pb po : Nat} {L : OL} (h : jC H pb po L) {i : Nat} {e : Od × AV × List Nat} (hi : L[i]? = some e) : ∀ k,k ∈ e.2.2 → k ≠ po ∧ k ≠ pb := fun k hk => by
  have hm : k ∈ L.flatMap (·.2.2) := dK.2 ⟨e,aH hi,hk⟩;have hnd := h.nd;simp only [aL,aR,not_or] at hnd;exact ⟨fun e1 => hnd.2.1 (e1 ▸ hm),fun e1 => hnd.1.2 (e1 ▸ hm)⟩
theorem LD {α : Type} (l : List α) : (!l.isEmpty) = decide (0 < (l.length : Int)) := by cases l <;> simp
theorem C4.one {bk : Bk} (h : C4 bk) {t : Tk} (ht : t ∈ gR bk) : 0 ≤ t.2 ∧ t.2 ≤ 1000000000000 := by
  refine ⟨(h.nn t ht).2,?_⟩;obtain ⟨a,b,e⟩ := List.append_of_mem ht;have h1 := (mR (l := gR bk) (a := a) (b := t :: b) e (fun t ht => (h.nn t ht).2) t.1).1;have h2 := mR (l := t :: b) (a := [t]) (b := b) rfl (fun u hu => (h.nn u (by rw [e];exact nG _ hu)).2) t.1
  have h3 := h.le t.1;rw [e,iM] at h3;have h4 : eD [t] t.1 = t.2 := by simp [eD]
  omega
theorem OO {l : List Tk} {k : Nat} (h : k < l.length) : (eO l)[0 + (k : Int).toNat]? = some [AV.i l[k].1,AV.i l[k].2] := by simp [h]
theorem KL {N : List (Nat × List Tk)} {w : Nat} {z : Nat × List Tk} (h : w < N.length) : (kX (N.set w z))[0 + (w : Int).toNat]? = some [AV.sl z.1 0 z.2.length 2] := by simp [h]
theorem PB {N : List (Nat × List Tk)} {w : Nat} {z : Nat × List Tk} : (kX N).set (0 + (w : Int).toNat) [AV.sl z.1 0 z.2.length 2] = kX (N.set w z) := by simp [kX,oF]
theorem OV {L : OL} {i : Nat} {e : Od × AV × List Nat} (h : L[i]? = some e) (tk : List (List Tk)) : (L.map fun e => iY e.1 e.2.1).set i (iY { e.1 with tk := tk } e.2.1) = L.map fun e => iY e.1 e.2.1 := by
  apply cU;intro j;rw [bQ];split
  · rename_i e1;subst e1;have hl := (aA.1 h).1;rw [if_pos (by simpa using hl),KU h]
  · rfl
end Go.Or
namespace Go.Proofs.YtdiogjgohbbllaaGreatDoor
open Go Go.Ab Go.Or
attribute [local irreducible] VC AW bR bN eS AY VY B8
set_option maxHeartbeats 4000000
set_option maxRecDepth 100000 in
theorem T1 {H : Hp} {pb : Nat} {bk : Bk} {A : List Nat} (hB : uL H pb bk A) (hz : UR bk) (no body n tick : Int) :
    eS Tryz.prog 28 [.ptr pb 0,.i no,.i body,.i n,.i tick] H (K2 H pb A (.i (kB bk no body n tick).1) (kB bk no body n tick).2) := by
  have hle := hz.le;have hB1 := hB.app [.gone];have hB0 := hB;obtain ⟨po,L,h,rfl,rfl⟩ := hB1;rw [bI] at hle;have hfp := EJ h no [1] hle (by decide)
  unfold kB;refine jO T Tryz.func28 rfl rfl rfl rfl ?_;by_cases hc : kO (L.map (·.1)) no [1] = 0
  · obtain ⟨⟨r0,r1⟩,_,hm,_⟩ := oO hc;rw [bI] at r1;obtain ⟨e,he,hge⟩ := G1 (L := L) (i := no.toNat) (by omega)
    rw [hge] at hm ⊢;rw [if_pos hc,hc] at hfp;rw [if_neg (by simp [hc] : ¬ kO (L.map (·.1)) no [1] ≠ 0)]
    have hg := xD he;have ho := h.o;have q1 := hz.tk _ hm;have q2 := hz.sum.bk.1 _ hm;have hfc := MD e.1 body q1.1 q1.2 q2;have hve : View (H ++ [AB.gone]) (.ep po (0 + no.toNat) 0 4) (.pr (CU e.1) 0) := View.ep ho hg (.cons (.row _ _ _) (.cons (.v _) (.cons (.v _) (.cons (h.n e (aH he)).view .nil))));by_cases hn1 : n < 1
    · rw [if_pos hn1]
      (repeat' (first|refine wS ?_|refine wB ?_|refine wR ?_|refine wU ?_|(refine wC rfl ?_ ?_<;>(intro hb;(try simp only [nm] at hb);try (exfalso;omega)))|(refine rg 0 (aV ?_))|(refine rg 1 (fF rfl (cY (by exact cF T rfl rfl (by decide) (by decide) rfl rfl rfl) rfl ?_));refine tC 21 rfl cP rfl rfl ?_;rw [iL];refine eH rfl rfl hfp rfl ?_;rintro _ _ ⟨rfl,rfl⟩;dsimp only [fC];refine mW rfl (xW rfl (xW rfl (oC ?_))))|(refine rg 2 (mW rfl (vV (pH rfl rfl) (aV ?_))))|(refine rg 4 (mW rfl (vV (bA rfl rfl) (aV ?_))))|(refine rg 5 (aV ?_))|refine nZ ?_));all_goals first | (exfalso;omega) | exact ⟨.inl rfl,_,rfl,K2.from [.gone] ⟨rfl,_,⟨po,L,h,rfl,rfl⟩,Fr.refl _ _⟩⟩
    rw [if_neg hn1];by_cases hs : eD e.1.tk.flatten body < n
    · rw [if_pos hs]
      (repeat' (first|refine wS ?_|refine wB ?_|refine wR ?_|refine wU ?_|(refine wC rfl ?_ ?_<;>(intro hb;(try simp only [nm] at hb);try (exfalso;omega)))|(refine rg 0 (aV ?_))|(refine rg 1 (fF rfl (cY (by exact cF T rfl rfl (by decide) (by decide) rfl rfl rfl) rfl ?_));refine tC 21 rfl cP rfl rfl ?_;rw [iL];refine eH rfl rfl hfp rfl ?_;rintro _ _ ⟨rfl,rfl⟩;dsimp only [fC];refine mW rfl (xW rfl (xW rfl (oC ?_))))|(refine rg 2 (mW rfl (vV (pH rfl rfl) (aV ?_))))|(refine rg 4 (mW rfl (vV (bA rfl rfl) (aV ?_))))|(refine rg 6 (fF rfl (vV (by exact iB rfl rfl hfc (.cons hve (.cons (.v _) .nil)) rfl rfl) ?_));refine mW rfl (vV (bA rfl rfl) (aV ?_)))|(refine rg 7 (aV ?_))|refine nZ ?_));all_goals first | (exfalso;omega) | exact ⟨.inl rfl,_,rfl,K2.from [.gone] ⟨rfl,_,⟨po,L,h,rfl,rfl⟩,Fr.refl _ _⟩⟩
    rw [if_neg hs];have hne0 : e.1.tk ≠ [] := fun e0 => by
      rw [e0] at hs;exact hs (by show (0 : Int) < n;omega)
    have hNe := h.n e (aH he);have hap := h.apart he;obtain ⟨o,x0,A0⟩ := e;dsimp only at hNe hne0 hap hg hve hfc hm q1 q2 hs ⊢;rcases hNe with ⟨_,ht,_⟩ | ⟨p,N0,hx,hp0,hn0,ht,hA,hnd0⟩
    · exact absurd ht hne0
    subst hx hA;have hpo := hap p aN;have hnN : n ≤ 1000000000000 := by
      have := (q2 body o.tk.flatten.length).2;rw [dY] at this;omega
    have hok0 : ∀ e,e ∈ N0 → e.2.length ≤ 1000000 ∧ ∀ t,t ∈ e.2 → 0 ≤ t.2 ∧ t.2 ≤ 1000000000000 := fun e he => by
      have hmem : e.2 ∈ o.tk := by rw [ht];exact aJ.2 ⟨e,he,rfl⟩
      exact ⟨q1.2 _ hmem,fun t htt => hz.sum.one (J2 hm (oE.2 ⟨_,hmem,htt⟩))⟩
    have hN0l : N0.length ≤ 1000000 := by have := q1.1;rw [ht,bI] at this;exact this
    (repeat' (first|refine wS ?_|refine wB ?_|refine wK ?_|refine wU ?_|(refine wC rfl ?_ ?_<;>(intro hb;(try simp only [nm] at hb);try (exfalso;omega)))|(refine rg 0 (aV ?_))|(refine rg 1 (fF rfl (cY (by exact cF T rfl rfl (by decide) (by decide) rfl rfl rfl) rfl ?_));refine tC 21 rfl cP rfl rfl ?_;rw [iL];refine eH rfl rfl hfp rfl ?_;rintro _ _ ⟨rfl,rfl⟩;dsimp only [fC];refine mW rfl (xW rfl (xW rfl (oC ?_))))|(refine rg 2 (mW rfl (vV (pH rfl rfl) (aV ?_))))|(refine rg 4 (mW rfl (vV (bA rfl rfl) (aV ?_))))|(refine rg 6 (fF rfl (vV (by exact iB rfl rfl hfc (.cons hve (.cons (.v _) .nil)) rfl rfl) ?_));refine mW rfl (vV (bA rfl rfl) (aV ?_)))|(refine rg 8 (aV ?_))|(refine rg 9 (mW rfl (nV ?_));refine fW T rfl (vV (by exact bC T rfl rfl (eF ho hg) rfl) ?_);refine qW T rfl (mV ?_))|refine nZ ?_));all_goals try (exfalso;omega)
    refine iT (X := {x : Nat × Int × List (Nat × List Tk) × Hp // IS body n (H ++ [.gone]) p N0 x.1 x.2.1 x.2.2.1 x.2.2.2}) (fun x => [(2,.i body),(3,.i x.1.2.1),(4,.i tick),(11,.ep po (0 + no.toNat) 0 4),(13,.b (vC x.1.2.2.1 x.1.1)),(42,.i N0.length),(43,.i x.1.1)]) (fun x => x.1.2.2.2) (fun x => N0.length - x.1.1) ⟨(0,n,N0,H ++ [.gone]),⟨bM _,rfl,rfl,rfl,⟨by dsimp only;omega,hnN⟩,hok0,hp0,hn0,aQ _,fun _ _ _ _ => rfl⟩⟩ (mC.of rfl (by repeat first|exact trivial|refine ⟨rfl,?_⟩)) ?_
    rintro ⟨⟨w,m,N,X⟩,hI⟩;dsimp only at hI ⊢;have hXo : X[po]? = some (.arr (L.map fun e => iY e.1 e.2.1) 4) := by
      rw [hI.fr po (aA.1 ho).1 (fun e1 => hpo.1 e1.symm) (fun hk => (hap po (aE _ hk)).1 rfl)];exact ho
    have hXb : X[pb]? = (H ++ [AB.gone])[pb]? := hI.fr pb (aA.1 h.b).1 (fun e1 => hpo.2 e1.symm) (fun hk => (hap pb (aE _ hk)).2 rfl);have hnl := hI.nl;have hwl := hI.wl;by_cases hw : w < N.length
    · have hqo := hap N[w].1 (aE _ (by rw [← hI.ks];exact aJ.2 ⟨_,aI hw,rfl⟩))
      have hqp : N[w].1 ≠ p := fun e1 => (aL.1 hnd0).1 (by rw [← hI.ks,← e1];exact aJ.2 ⟨_,aI hw,rfl⟩)
      have hq := hI.hn _ (aI hw);have hg2 := PC hw;have hokw := hI.ok _ (aI hw);have nx := fun {j : Nat} {n' : Int} {l : List Tk} (g : NZ body m N[w].2 j n' l) (hj : ¬ j < l.length) => hI.next hw hnd0 g hj [.gone]
      have hpX := hI.hp;generalize N[w] = z at *;obtain ⟨q,l0⟩ := z;dsimp only at hqo hqp hq hg2 hokw nx;have hql := (aA.1 hq).1
      (repeat' (first|refine wS ?_|refine wB ?_|refine wK ?_|(refine wC rfl ?_ ?_<;>(intro hb;(try simp only [nm] at hb);try (exfalso;omega)))|(refine rg 10 (vV (bA rfl rfl) ?_))|(refine rg 11 (mW rfl (aV ?_)))|(refine rg 12 (mW rfl (nV ?_));refine fW T rfl (vV (by exact bC T rfl rfl (eF hXo hg) rfl) ?_);refine mW rfl (vV (by exact cI T rfl rfl rfl rfl rfl (by omega) (by omega)) ?_);refine vV (by exact bC T rfl rfl (eF hpX hg2) rfl) ?_;refine qW T rfl (mV ?_))|refine nZ ?_));all_goals try (exfalso;omega)
      refine iT (X := {y : Nat × Int × List Tk // NZ body m l0 y.1 y.2.1 y.2.2}) (fun y => [(2,.i body),(3,.i y.1.2.1),(4,.i tick),(11,.ep po (0 + no.toNat) 0 4),(13,.b (vC N w)),(14,.i w),(42,.i N0.length),(43,.i w),(53,.i l0.length),(54,.i y.1.1)]) (fun y => X.set q (.arr (eO y.1.2.2) 2)) (fun y => l0.length - y.1.1) ⟨(0,m,l0),⟨bM _,rfl,rfl,hI.nn,hokw.2⟩⟩ (mC.of (D0 hq).symm (by repeat first|exact trivial|refine ⟨rfl,?_⟩)) ?_
      rintro ⟨⟨j,r,l⟩,hJ⟩;dsimp only at hJ ⊢;have hll := hJ.ll;have hXo2 : (X.set q (.arr (eO l) 2))[po]? = some (.arr (L.map fun e => iY e.1 e.2.1) 4) := fZ (fun e1 => hqo.1 e1.symm) hXo;have hpX2 : (X.set q (.arr (eO l) 2))[p]? = some (.arr (kX N) 1) := fZ (fun e1 => hqp e1.symm) hpX;have hqX2 : (X.set q (.arr (eO l) 2))[q]? = some (.arr (eO l) 2) := gA hql;by_cases hj : j < l.length
      · have hg3 := OO hj;have nxt := hJ.next hj
        have skp := hJ.skip hj;have hbn := hJ.nn;have hbt := hJ.ok _ (aI hj);generalize l[j] = t at *;obtain ⟨tb,tn⟩ := t;dsimp only at hg3 nxt skp hbt;by_cases hbd : tb = body
        · have ny := nxt hbd;clear nxt skp
          (repeat' (first|refine wS ?_|refine wB ?_|refine wK ?_|(refine wC rfl ?_ ?_<;>(intro hb;(try simp only [nm] at hb);try (exfalso;omega)))|(refine rg 13 (vV (bA rfl rfl) ?_))|(refine rg 14 (mW rfl (aV ?_)))|(refine rg 15 (mW rfl (nV ?_));refine fW T rfl (vV (by exact bC T rfl rfl (eF hXo2 hg) rfl) ?_);refine mW rfl (vV (by exact cI T rfl rfl rfl rfl rfl (by omega) (by omega)) ?_);refine vV (by exact bC T rfl rfl (eF hpX2 hg2) rfl) ?_;refine mW rfl (vV (by exact cI T rfl rfl rfl rfl rfl (by omega) (by omega)) ?_);refine aV ?_)|(refine rg 16 (mW rfl (nV ?_));refine fW T rfl (vV (by exact bC T rfl rfl (eF hqX2 hg3) rfl) ?_);refine mW rfl (vV (cT rfl rfl) ?_))|(refine rg 17 (fF rfl (nV ?_));refine fW T rfl (vV (by exact bC T rfl rfl (eF hqX2 hg3) rfl) ?_);refine vV (rV rfl rfl) (aV ?_))|(refine rg 18 (mW rfl (nV ?_));refine fW T rfl (vV (by exact bC T rfl rfl (eF hqX2 hg3) rfl) ?_);refine mW rfl (vV (gN rfl rfl (by omega) (by omega)) (nV ?_));refine fW T rfl (bE T rfl rfl rfl rfl rfl rfl (by decide) (oZ hqX2 hg3 rfl rfl) ?_))|(refine rg 19 (fF rfl (vV (gN rfl rfl (by omega) (by omega)) (aV ?_))))|(refine rg 20 (vV (dS rfl rfl (by omega) (by omega)) (mV ?_)))|refine nZ ?_));all_goals try (exfalso;omega)
          all_goals exact ⟨⟨(j + 1,_,_),ny⟩,by dsimp only;omega,mC.of (by rw [gY];exact congrArg (fun z => X.set q (AB.arr z 2)) (JK (i := j) (x := (tb,tn - min r tn)) rfl)) (by repeat first|exact trivial|refine ⟨rfl,?_⟩)⟩
        · have ny := skp hbd;clear nxt skp
          (repeat' (first|refine wS ?_|refine wB ?_|refine wK ?_|(refine wC rfl ?_ ?_<;>(intro hb;(try simp only [nm] at hb);try (exfalso;omega)))|(refine rg 13 (vV (bA rfl rfl) ?_))|(refine rg 14 (mW rfl (aV ?_)))|(refine rg 15 (mW rfl (nV ?_));refine fW T rfl (vV (by exact bC T rfl rfl (eF hXo2 hg) rfl) ?_);refine mW rfl (vV (by exact cI T rfl rfl rfl rfl rfl (by omega) (by omega)) ?_);refine vV (by exact bC T rfl rfl (eF hpX2 hg2) rfl) ?_;refine mW rfl (vV (by exact cI T rfl rfl rfl rfl rfl (by omega) (by omega)) ?_);refine aV ?_)|(refine rg 16 (mW rfl (nV ?_));refine fW T rfl (vV (by exact bC T rfl rfl (eF hqX2 hg3) rfl) ?_);refine mW rfl (vV (cT rfl rfl) ?_))|(refine rg 20 (vV (dS rfl rfl (by omega) (by omega)) (mV ?_)))|refine nZ ?_));all_goals try (exfalso;omega)
          all_goals exact ⟨⟨(j + 1,_,_),ny⟩,by dsimp only;omega,mC.of rfl (by repeat first|exact trivial|refine ⟨rfl,?_⟩)⟩
      · have hjl : j = l.length := by have := hJ.jl;omega
        have nz := nx hJ hj;have hdl := EN (caps := []) l (by omega) rfl rfl (fun x _ => JY x)
        rw [hll] at hdl;have hxl : q < (X.set q (.arr (eO l) 2)).length := by simpa using hql
        have hxp : p < (X.set q (.arr (eO l) 2)).length := (aA.1 hpX2).1
        (repeat' (first|refine wS ?_|refine wE ?_|(refine wC rfl ?_ ?_<;>(intro hb;(try simp only [nm] at hb);try (exfalso;omega)))|(refine rg 13 (vV (bA rfl rfl) ?_))|refine nZ ?_));all_goals try (exfalso;omega)
        (repeat' (first|(refine rB (id := 21) 137 [[],[0],[0,1],[0,1,2],[],[],[5],[5,6],[5,6,7],[],rM 5 5,rM 5 6,rM 5 7] (rM 90 13) [[],[],[],[],rM 90 4,rM 90 5,rM 90 5,rM 90 5,rM 90 5,rM 90 9,rM 90 5,rM 90 5,rM 90 5] [(12,q)] fK rfl (MO (by decide +kernel) rfl) (eW rfl rfl rfl rfl (by exact eQ rfl) ?_);refine eW rfl rfl rfl rfl (by exact dQ rfl rfl) ?_;refine eW rfl rfl rfl rfl (by exact eE T rfl rfl rfl) ?_;refine eW rfl rfl rfl rfl (by exact bC T rfl rfl (eF (bS (fZ (fun e1=>hqo.1 e1.symm) hXo2)) hg) rfl) ?_;refine eW rfl rfl rfl rfl (by exact eQ rfl) ?_;refine eW rfl rfl rfl rfl (by exact eQ rfl) ?_;refine eW rfl rfl rfl rfl (by exact dQ rfl rfl) ?_;refine eW rfl rfl rfl rfl (by exact eE T rfl rfl rfl) ?_;refine eW rfl rfl rfl rfl (by exact bC T rfl rfl (eF (bS hXo2) hg) rfl) ?_;refine eW rfl rfl rfl rfl (by exact eQ rfl) ?_;refine eW rfl rfl rfl rfl (by exact cI T rfl rfl rfl rfl rfl (by omega) (by omega)) ?_;refine eW rfl rfl rfl rfl (by exact bC T rfl rfl (eF (bS hpX2) hg2) rfl) ?_;refine vY rfl rfl rfl rfl hxl (by exact xX [q] rfl rfl (J4 hdl) (fun _=>rfl) rfl (aL.2 ⟨cG,bB⟩) (fun _=>⟨.inr (cM (bS hqX2) rfl (nX _)),trivial⟩) (by simp) rfl (fun _ _=>rfl) rfl rfl) ?_;refine xO rfl rfl rfl (by exact rfl) ?_;refine vV (by exact cI T rfl rfl rfl rfl rfl (by omega) (by omega)) ?_;refine bE T rfl rfl rfl rfl rfl rfl (by decide) (oZ (bS (fZ (fun e1=>hqp e1.symm) hpX2)) hg2 rfl rfl) ?_)|refine nZ ?_));all_goals try (exfalso;omega)
        have hXp : p < (X.set q (.arr (eO (eT zq l)) 2)).length := by simpa using hxp
        have hfl := IA (q := q) (l := eT zq l) hw;have hgk := KL (z := (q,eT zq l)) hw
        refine jJ [(2,.i body),(3,.i r),(4,.i tick),(11,.ep po (0 + no.toNat) 0 4),(13,.b (vC N w)),(14,.i w),(42,.i N0.length),(43,.i w)] (((X.set q (.arr (eO (eT zq l)) 2)).set p (.arr (kX (N.set w (q,eT zq l))) 1)) ++ [.gone]) (mC.of (by
          show List.set (List.set (List.set X q (.arr (eO l) 2)) q (.arr ((eO (eT zq l)).map (AV.mapL _)) 2) ++ [AB.gone]) p (.arr ((kX N).set (0 + (w : Int).toNat) [AV.sl q 0 (eT zq l).length 2]) 1) = _
          rw [gW _ (nX _),gY,uG _ _ hXp,PB (z := (q,eT zq l))]) (by repeat first|exact trivial|refine ⟨rfl,?_⟩)) ?_
        have hX2o : (((X.set q (.arr (eO (eT zq l)) 2)).set p (.arr (kX (N.set w (q,eT zq l))) 1)) ++ [AB.gone])[po]? = some (.arr (L.map fun e => iY e.1 e.2.1) 4) := bS (fZ (fun e1 => hpo.1 e1.symm) (fZ (fun e1 => hqo.1 e1.symm) hXo));have hX2p := nz.hp;generalize (((X.set q (.arr (eO (eT zq l)) 2)).set p (.arr (kX (N.set w (q,eT zq l))) 1)) ++ [AB.gone]) = X2 at *;generalize eT zq l = kl at *;cases hfw : vC N w with
        | true =>
          rw [hfw,Bool.true_or] at hfl
          (repeat' (first|(refine rg 22 (XG ?_);(iterate 9 refine gF ?_);refine pW rfl (aV ?_))|(refine rg 23 (vV (dS rfl rfl (by omega) (by omega)) (mV ?_)))|refine nZ ?_));all_goals try (exfalso;omega)
          all_goals exact ⟨⟨(w + 1,r,_,X2),nz⟩,by dsimp only;omega,mC.of rfl (by dsimp only;rw [hfl];(repeat (first | exact trivial | refine ⟨rfl,?_⟩)))⟩
        | false =>
          rw [hfw,Bool.false_or] at hfl
          (repeat' (first|(refine rg 22 (fF rfl (yN rfl (gT (nV ?_))));refine yP T rfl (yV (by exact bC T rfl rfl (eF hX2o hg) rfl) ?_);refine yN rfl (yV (by exact cI T rfl rfl rfl rfl rfl (by omega) (by omega)) ?_);refine yV (by exact bC T rfl rfl (eF hX2p hgk) rfl) ?_;refine gT (qW T rfl (yV (gJ rfl rfl) (pW rfl (aV ?_)))))|(refine rg 23 (vV (dS rfl rfl (by omega) (by omega)) (mV ?_)))|refine nZ ?_));all_goals try (exfalso;omega)
          all_goals exact ⟨⟨(w + 1,r,_,X2),nz⟩,by dsimp only;omega,mC.of rfl (by dsimp only;rw [hfl,LD kl];(repeat (first | exact trivial | refine ⟨rfl,?_⟩)))⟩
    · have hfin := hI.fin hw;have hmf : (L.map (·.1)).getD no.toNat fY = o := hge;have hno : no.toNat < L.length := by omega
      have hpol : po < X.length := (aA.1 hXo).1;have hfrk : ∀ k,k < (H ++ [AB.gone]).length → k ≠ po → k ∉ p :: N0.map (·.1) → X[k]? = (H ++ [AB.gone])[k]? := fun k hk _ hA => hI.fr k hk (fun e1 => hA (e1 ▸ aN)) (fun h1 => hA (aE _ h1));unfold lO;rw [ht,hfin.2,hfin.1];cases hfw : vC N w with
      | true =>
        rw [Bool.not_true,if_neg (by decide)]
        have key : K2 H pb (vU pb po L) (.i 0) ((L.map (·.1)).set no.toNat { o with tk := N.map (·.2) }) (.i 0) X := by
          refine K2.from [.gone] ⟨rfl,vU pb po (L.set no.toNat ({ o with tk := N.map (·.2) },.sl p 0 N0.length 1,p :: N0.map (·.1))),⟨po,_,h.upd he _ _ _ hXb (by rw [hXo];congr 1;exact congrArg (AB.arr · 4) (OV he _).symm) hfrk (.inr ⟨p,N,by rw [hnl],hI.hp,hI.hn,rfl,by rw [hI.ks],hnd0⟩) (fun k hk => .inl hk) hnd0,by rw [T7],rfl⟩,?_⟩
          exact h.fr he hI.le hXb hfrk (fun k hk => .inl hk)
        (repeat' (first|refine wS ?_|refine wK ?_|refine wR ?_|refine wE ?_|refine wU ?_|(refine wC rfl ?_ ?_<;>(intro hb;(try simp only [nm] at hb);try (exfalso;omega)))|(refine rg 10 (vV (bA rfl rfl) ?_))|(refine rg 24 (mW rfl (vV (eI rfl) ?_)))|(refine rg 28 (aV ?_))|refine nZ ?_));all_goals try (exfalso;omega)
        all_goals exact ⟨.inl rfl,_,rfl,key⟩
      | false =>
        rw [Bool.not_false,if_pos rfl];have key : ∀ st X',X' = X.set po (.arr ((L.map fun e => iY e.1 e.2.1).set no.toNat (iY { o with st := st,tk := [] } .nils)) 4) → K2 H pb (vU pb po L) (.i 0) ((L.map (·.1)).set no.toNat { o with st := st,tk := [] }) (.i 0) X' := fun st X' hX' => by
          subst hX';refine K2.from [.gone] ⟨rfl,vU pb po (L.set no.toNat ({ o with st := st,tk := [] },.nils,[])),⟨po,_,h.upd he _ _ [] ((eK h.ne).trans hXb) (gA hpol) (fun k hk h1 h2 => (eK h1).trans (hfrk k hk h1 h2)) (.inl ⟨rfl,rfl,rfl⟩) (fun k hk => nomatch hk) bB,by rw [T7],rfl⟩,?_⟩
          exact h.fr he (by rw [eB];exact hI.le) ((eK h.ne).trans hXb) (fun k hk h1 h2 => (eK h1).trans (hfrk k hk h1 h2)) (fun k hk => nomatch hk)
        have hS := fun {a : List AV} => (gA hpol : (X.set po (.arr ((L.map fun e => iY e.1 e.2.1).set (0 + no.toNat) a) 4))[po]? = _);have hG := fun {a : List AV} => (show ((L.map fun e => iY e.1 e.2.1).set (0 + no.toNat) a)[0 + no.toNat]? = some a by rw [Nat.zero_add,eP (by simpa using hno)])
        (repeat' (first|refine wS ?_|refine wE ?_|refine wT ?_|(refine wC rfl ?_ ?_<;>(intro hb;(try simp only [nm] at hb);try (exfalso;omega)))|(refine rg 10 (vV (bA rfl rfl) ?_))|(refine rg 24 (mW rfl (vV (eI rfl) ?_)))|(refine rg 25 (fF rfl (nV ?_));refine fW T rfl (bE T rfl rfl rfl rfl rfl rfl (by decide) (oZ hXo hg rfl rfl) (nV ?_));refine fW T rfl (fW T rfl (bE T rfl rfl rfl rfl rfl rfl (by decide) (oZ hS hG rfl rfl) ?_)))|refine nZ ?_));all_goals try (exfalso;omega)
        refine jJ [(4,.i tick),(11,.ep po (0 + no.toNat) 0 4)] (X.set po (.arr ((L.map fun e => iY e.1 e.2.1).set (0 + no.toNat) (iY { o with st := 3,tk := [] } .nils)) 4)) (mC.of (by rw [gY,gY]) (by repeat first|exact trivial|refine ⟨rfl,?_⟩)) ?_
        by_cases htd : tick ≤ o.due
        · rw [if_pos htd]
          (repeat' (first|refine wS ?_|refine wR ?_|(refine wC rfl ?_ ?_<;>(intro hb;(try simp only [nm] at hb);try (exfalso;omega)))|(refine rg 26 (fF rfl (nV ?_));refine fW T rfl (fW T rfl (vV (by exact bC T rfl rfl (eF hS hG) rfl) ?_));refine vV (iR rfl rfl) ?_)|(refine rg 27 (mW rfl (nV ?_));refine fW T rfl (fW T rfl (bE T rfl rfl rfl rfl rfl rfl (by decide) (oZ hS hG rfl rfl) ?_)))|(refine rg 28 (aV ?_))|refine nZ ?_));all_goals try (exfalso;omega)
          all_goals exact ⟨.inl rfl,_,rfl,key 2 _ (by rw [gY,gY,Nat.zero_add])⟩
        · rw [if_neg htd]
          (repeat' (first|refine wS ?_|refine wK ?_|refine wR ?_|(refine wC rfl ?_ ?_<;>(intro hb;(try simp only [nm] at hb);try (exfalso;omega)))|(refine rg 26 (fF rfl (nV ?_));refine fW T rfl (fW T rfl (vV (by exact bC T rfl rfl (eF hS hG) rfl) ?_));refine vV (iR rfl rfl) ?_)|(refine rg 28 (aV ?_))|refine nZ ?_));all_goals try (exfalso;omega)
          all_goals exact ⟨.inl rfl,_,rfl,key 3 _ (by rw [Nat.zero_add])⟩
  · rw [if_neg hc] at hfp;rw [if_pos hc];generalize kO (L.map (·.1)) no [1] = c at *
    (repeat' (first|refine wS ?_|refine wB ?_|refine wR ?_|(refine wC rfl ?_ ?_<;>(intro hb;(try simp only [nm] at hb);try (exfalso;omega)))|(refine rg 0 (aV ?_))|(refine rg 1 (fF rfl (cY (by exact cF T rfl rfl (by decide) (by decide) rfl rfl rfl) rfl ?_));refine tC 21 rfl cP rfl rfl ?_;rw [iL];refine eH rfl rfl hfp rfl ?_;rintro _ _ ⟨rfl,rfl⟩;dsimp only [fC];refine mW rfl (xW rfl (xW rfl (oC ?_))))|(refine rg 2 (mW rfl (vV (pH rfl rfl) (aV ?_))))|(refine rg 3 (mW rfl (aV ?_)))|refine nZ ?_));all_goals first | (exfalso;omega) | exact ⟨.inl rfl,_,rfl,K2.from [.gone] ⟨rfl,_,⟨po,L,h,rfl,rfl⟩,Fr.refl _ _⟩⟩
end Go.Proofs.YtdiogjgohbbllaaGreatDoor
namespace Go.Ab
open Go Go.MapKept
section
variable {P : Program} {env : cJ} {h : Hp}
variable {d : Option Nat} {ty : TypeId} {pos : String} {af : Array Edge} {g : Option (Nat × Bool)}
variable {t kt et : TypeId} {good : Value → Prop} {x y : Operand} {i : Nat} {kv : Value} {ks : List Value} {vs : List AV} {v : AV}
theorem BL (ht : P.underlying t = some (.map kt et)) (ko : oK P kt good) (hx : evu env x = some (.mrow ks vs)) {yv : AV} (hy : evu env y = some yv) (hyv : IX yv kv) (hkeys : ∀ q,q ∈ ks → good q) (hkey : good kv) (hnd : ks.Nodup) (hi : ks[i]? = some kv) (hv : vs[i]? = some v) (hidf : v.idf = true) :
    bR P ⟨d,.lookup t x y false,ty,pos,af,g⟩ env h 0 (fun _ => v) (fun _ => []) := by
  refine fO fun ρ S a w p => ?_
  have h1 := p.evu hx;simp only [R] at h1;obtain ⟨b,l,ck,h3,_,h6,h7,h8⟩ := h1;have h4 := hyv _ _ _ _ (p.evu hy);obtain ⟨e,h9,h10,_⟩ := oV ko w h7 hkeys hkey hnd hi;refine ⟨e.val,?_,?_⟩
  · simp [execOp,h3,h4,Instr.lookup,run_underlying ht,MapKept.run_getObj_map h6,ko.check w _ hkey,h9]
  · obtain ⟨u,h11,h12⟩ := kF h8 i v hv;rw [aO,h10] at h11;cases h11;exact B5 _ _ _ _ hidf h12
end
end Go.Ab
namespace Go.Or
open Go Go.Ab
theorem OP (tk : List (List Tk)) : (C8 tk).flatten.all AV.one = true := by
  induction tk with
  | nil => rfl
  | cons x l ih => exact ih
theorem S7 (tk : List (List Tk)) : ∀ e,e ∈ C8 tk → AV.idfL e = true := by intro e he;obtain ⟨x,_,rfl⟩ := aJ.1 he;rfl
theorem SD (l : List Tk) : (AB.arr (eO l) 2).rf = true := aT.2 fun e he => by obtain ⟨i,_,rfl⟩ := aJ.1 he;rfl
def K5 (p : Od → Bool) (bk : Bk) (k : Nat) : List Int := (G2 k).filter fun i => p (bk.getD i.toNat fY)
theorem HL (k : Nat) : G2 (k + 1) = G2 k ++ [(k : Int)] := by unfold G2;rw [UO,cO];rfl
theorem GY {p : Od → Bool} {bk : Bk} {k : Nat} (h : k < bk.length) : K5 p bk (k + 1) = if p bk[k] then K5 p bk k ++ [(k : Int)] else K5 p bk k := by
  unfold K5;rw [HL,IW];have e : bk.getD ((k : Int).toNat) fY = bk[k] := by rw [bK,aD,aB h];rfl
  rw [J9,e];cases p bk[k] <;> simp
theorem JZ {p : Od → Bool} {bk : Bk} {k : Nat} : (K5 p bk k).length ≤ k := cC (sS _ _) (by simp [G2])
end Go.Or
namespace Go.Proofs.YtdiogjgohbbllaaGreatDoor
open Go Go.Ab Go.Or
attribute [local irreducible] VC AW bR bN eS
set_option maxHeartbeats 4000000
abbrev XF (o : Od) : AV := .agg [.rowE (bZ o.ws) 3,.i o.due,.i o.st]
theorem EP (tk : List (List Tk)) (hl : tk.length ≤ 1000000) : bN Tryz.prog 96 [pS tk] [] (.sl 0 0 tk.length 1) [.arr (C8 tk) 1] := by
  have hll : (C8 tk).length = tk.length := nK tk;refine dC T Tryz.func96 rfl rfl rfl rfl ?_
  repeat' (first|refine wS ?_|refine wK ?_|refine wT ?_|refine wU ?_|(refine rg 0 (aV ?_))|(refine rg 1 (mV ?_);refine wO T rfl rfl rfl rfl fun b hb=>?_;cases b)|refine nZ ?_)
  · (repeat' (first|refine wR ?_|(refine rg 3 (cY (by exact cF T rfl rfl (by decide) (by decide) rfl rfl rfl) rfl ?_);refine mW rfl (hY T rfl rfl rfl rfl rfl rfl (by decide) (.row (oL tk)) (OP tk) (by simp;omega) (by simp;omega) rfl ?_);refine aV ?_)|(refine nZ ?_)));exact ⟨.inl rfl,[1],_,rfl,(by show AV.sl 1 0 (0 + (C8 tk).length) 1 = AV.sl 1 0 tk.length 1;simp),rfl,⟨.inr (cM rfl rfl (S7 _)),trivial⟩,by decide,nP _⟩
  · have hl0 : tk = [] := jA.1 (Classical.byContradiction fun h => by have := hb (by omega);cases this)
    subst hl0
    (repeat' (first|refine wR ?_|(refine rg 2 (vV (jG rfl) (E3 2 1 rfl (by decide) ?_)))|refine nZ ?_));exact ⟨.inl rfl,[0],_,rfl,rfl,rfl,⟨.inr (cM rfl rfl (S7 _)),trivial⟩,by decide,nP _⟩
end Go.Proofs.YtdiogjgohbbllaaGreatDoor
namespace Go.Or
open Go Go.Ab
theorem PM (m : List (Int × Int)) : AV.plOL (K8 m) = true := by
  induction m with
  | nil => rfl
  | cons x l ih => exact ih
theorem SY {l : List Tk} {m : List (Int × Int)} (h : yC l m) {t : Tk} (ht : t ∈ l) : ∃ i : Nat,(A6 m)[i]? = some (kI t.1) ∧ (K8 m)[i]? = some (.i (eD l t.1)) := by
  obtain ⟨e,he,e1⟩ := aJ.1 (h.cov t ht);obtain ⟨i,hi⟩ := bT.1 he;refine ⟨i,by rw [aO,hi];exact congrArg (fun z => some (kI z)) e1,?_⟩
  rw [aO,hi,← e1,← h.val e he];rfl
theorem WE {l : List Bo} {j : Int} (h0 : 0 ≤ j) (h : j < l.length) : (eR l)[j.toNat]? = some [AV.i (l.getD j.toNat (0,0,0)).1,AV.i (l.getD j.toNat (0,0,0)).2.1,AV.i (l.getD j.toNat (0,0,0)).2.2] := by
  have hl : j.toNat < l.length := by omega
  rw [aO,aB hl,aD,aB hl];rfl
theorem VL {l : List Lo} {j : Int} (h0 : 0 ≤ j) (h : j < l.length) : (jF l)[j.toNat]? = some [AV.i (l.getD j.toNat (0,0,false)).1,AV.i (l.getD j.toNat (0,0,false)).2.1,AV.b (l.getD j.toNat (0,0,false)).2.2] := by
  have hl : j.toNat < l.length := by omega
  rw [aO,aB hl,aD,aB hl];rfl
theorem UV {l : List Wt} {i : Nat} (h : i < l.length) : (bZ l)[(i : Int).toNat]? = some [AV.i (l.getD i (0,0,0)).1,AV.i (l.getD i (0,0,0)).2.1,AV.i (l.getD i (0,0,0)).2.2] := by
  rw [bK,aO,aB h,aD,aB h];rfl
theorem TZ {ls : List Lo} {sure : List Bo} {bk : Bk} {o : Od} (h : ∀ j,j < o.tk.length → ((o.tk.getD j []).any fun t => !zP ls sure bk t (o.ws.getD j (0,0,0))) = false) : zQ ls sure bk o = false := by
  unfold zQ;rw [nI];intro j hj;rw [h j (jZ.1 hj)];decide
theorem QJ {ls : List Lo} {sure : List Bo} {bk : Bk} {o : Od} {j : Nat} (hj : j < o.tk.length) (h : ((o.tk.getD j []).any fun t => !zP ls sure bk t (o.ws.getD j (0,0,0))) = true) : zQ ls sure bk o = true := by
  unfold zQ;rw [jR];exact ⟨j,jZ.2 hj,h⟩
abbrev WB (f : FuncId) (ls : List Lo) (sure : List Bo) (m : List (Int × Int)) : AV := .clo (.func f) [] [.pr [.rowE (eR sure) 3] 0,.pr [.rowE (jF ls) 3] 0,.pr [.mrow (A6 m) (K8 m)] 0]
end Go.Or
namespace Go.Proofs.YtdiogjgohbbllaaGreatDoor
open Go Go.Ab Go.Or
attribute [local irreducible] VC AW bR bN eS
set_option maxHeartbeats 4000000
theorem WA (ls : List Lo) (sure : List Bo) (bk : Bk) (t : Tk) (w : Wt) (ht : t ∈ gR bk) (h0 : 0 ≤ t.1) (hl : ls.length ≤ 1000000) (hs : sure.length ≤ 1000000) (hk : ∀ i : Nat,i < sure.length → (sure.getD i (0,0,0)).1 < ls.length) :
    bN Tryz.prog 63 [.agg [.i t.1,.i t.2],.agg [.i w.1,.i w.2.1,.i w.2.2],.pr [.rowE (eR sure) 3] 0,.pr [.rowE (jF ls) 3] 0,.pr [.mrow (A6 (oA (gR bk))) (K8 (oA (gR bk)))] 0] [] (.b (zP ls sure bk t w)) [] := by
  have hmo := U0 (gR bk);obtain ⟨mi,k1,k2⟩ := SY hmo ht;have hbl := gX sure;have hll := oU ls;have hnd := LF hmo.nd;unfold zP;rw [show lU bk t.1 = eD (gR bk) t.1 from rfl]
  generalize eD (gR bk) t.1 = rv at *;generalize oA (gR bk) = m at *;refine dC T Tryz.func63 rfl rfl rfl rfl ?_;obtain ⟨tb,tn⟩ := t;dsimp only at *;by_cases h1 : tb < sure.length
  · rw [decide_eq_true h1,jM];have hg := WE h0 h1;have hkl := hk tb.toNat (by omega)
    unfold cnt nC;generalize sure.getD tb.toNat (0,0,0) = x at *;by_cases h2 : 0 ≤ x.1
    · rw [decide_eq_true h2,jM];have hg2 := VL h2 hkl;have hfl := FW (ls.getD x.1.toNat (0,0,false)) w;generalize ls.getD x.1.toNat (0,0,false) = y at *;cases hf : FX y w with
      | true =>
        rw [hf] at hfl;rw [jM]
        (repeat' (first|refine wS ?_|refine wK ?_|refine wR ?_|(refine wC rfl ?_ ?_<;>(intro hb;(try simp only [nm] at hb);try (exfalso;omega)))|(refine rg 0 (cY (fG rfl rfl) rfl (cY (fG rfl rfl) rfl (aV ?_))))|(refine rg 1 (jH T rfl (lW T rfl (qW T rfl (vV (eV rfl rfl) (mV ?_)))));refine bL rfl rfl ?_ ?_<;>(intro hb;rw [hb];(try simp only [nm] at hb);try (exfalso;omega));(all_goals (refine yO T rfl (yP T rfl (yO T rfl (yV (ix T rfl (by omega) (lB _) hg) (yP T rfl (yO T rfl (yV (bA rfl rfl) (pV ?_))))))))))|(refine eZ (id := 3) 46 YV (rM 22 24) YW fK rfl (by decide +kernel) (dO T rfl (dO T rfl (dP T rfl (dO T rfl (dV rfl (ix T rfl (by omega) (lB _) hg) (dP T rfl (dO T rfl (dV rfl (ix T rfl (by omega) (tT _) hg2) (dL T ?_)))))))));refine dO T rfl (dV rfl (kC (hfl)) (dN rfl (tO T rfl (tP T rfl (tO T rfl (dT rfl (ix T rfl (by omega) (lB _) hg) (tP T rfl (tO T rfl (tL T ?_)))))))));refine tP T rfl (tO T rfl (dT rfl (by exact BL P6 BD rfl rfl (BA _) (tQ m) (zL _) hnd k1 k2 rfl) ?_));refine dT rfl (eV rfl rfl) (dV rfl (lY rfl rfl) (dE ?_));refine aV ?_)|refine nZ ?_));all_goals first | (exfalso;omega) | exact rQ
      | false =>
        rw [hf] at hfl;rw [iI]
        (repeat' (first|refine wS ?_|refine wK ?_|refine wR ?_|(refine wC rfl ?_ ?_<;>(intro hb;(try simp only [nm] at hb);try (exfalso;omega)))|(refine rg 0 (cY (fG rfl rfl) rfl (cY (fG rfl rfl) rfl (aV ?_))))|(refine rg 1 (jH T rfl (lW T rfl (qW T rfl (vV (eV rfl rfl) (mV ?_)))));refine bL rfl rfl ?_ ?_<;>(intro hb;rw [hb];(try simp only [nm] at hb);try (exfalso;omega));(all_goals (refine yO T rfl (yP T rfl (yO T rfl (yV (ix T rfl (by omega) (lB _) hg) (yP T rfl (yO T rfl (yV (bA rfl rfl) (pV ?_))))))))))|(refine eZ (id := 3) 46 YV (rM 22 24) YW fK rfl (by decide +kernel) (dO T rfl (dO T rfl (dP T rfl (dO T rfl (dV rfl (ix T rfl (by omega) (lB _) hg) (dP T rfl (dO T rfl (dV rfl (ix T rfl (by omega) (tT _) hg2) (dL T ?_)))))))));refine dO T rfl (dV rfl (kC (hfl)) (dN rfl (tG rfl (tG rfl (tG rfl (tG rfl (tG rfl (tG rfl (dG ?_)))))))));refine tG rfl (tG rfl (tG rfl (tG rfl (dV rfl (lZ rfl rfl) (dE ?_)))));refine aV ?_)|refine nZ ?_));all_goals first | (exfalso;omega) | exact rQ
    · rw [decide_eq_false h2,iI,iI]
      (repeat' (first|refine wS ?_|refine wR ?_|(refine wC rfl ?_ ?_<;>(intro hb;(try simp only [nm] at hb);try (exfalso;omega)))|(refine rg 0 (cY (fG rfl rfl) rfl (cY (fG rfl rfl) rfl (aV ?_))))|(refine rg 1 (jH T rfl (lW T rfl (qW T rfl (vV (eV rfl rfl) (mV ?_)))));refine bL rfl rfl ?_ ?_<;>(intro hb;rw [hb];(try simp only [nm] at hb);try (exfalso;omega));(all_goals (refine yO T rfl (yP T rfl (yO T rfl (yV (ix T rfl (by omega) (lB _) hg) (yP T rfl (yO T rfl (yV (bA rfl rfl) (pV ?_))))))))))|(refine rg 2 (aV ?_))|refine nZ ?_));all_goals first | (exfalso;omega) | exact rQ
  · rw [decide_eq_false h1,iI]
    (repeat' (first|refine wS ?_|refine wR ?_|refine wT ?_|(refine rg 0 (cY (fG rfl rfl) rfl (cY (fG rfl rfl) rfl (aV ?_))))|(refine rg 1 (jH T rfl (lW T rfl (qW T rfl (vV (eV rfl rfl) (mV ?_)))));refine bL rfl rfl ?_ ?_<;>(intro hb;rw [hb];(try simp only [nm] at hb);try (exfalso;omega));(all_goals ((iterate 7 refine gF ?_);refine pV ?_)))|(refine rg 2 (aV ?_))|refine nZ ?_));all_goals first | (exfalso;omega) | exact rQ
theorem TS (ls : List Lo) (sure : List Bo) (bk : Bk) (t : Tk) (o : Od) (i : Nat) (hi : i < o.ws.length) (hw : o.ws.length ≤ 1000000) (ht : t ∈ gR bk) (h0 : 0 ≤ t.1) (hl : ls.length ≤ 1000000) (hs : sure.length ≤ 1000000) (hk : ∀ i : Nat,i < sure.length → (sure.getD i (0,0,0)).1 < ls.length) :
    bN Tryz.prog 65 [.agg [.i t.1,.i t.2],.pr [WB 63 ls sure (oA (gR bk))] 0,.pr (CU o) 0,.pr [.i i] 0] [] (.b (!zP ls sure bk t (o.ws.getD i (0,0,0)))) [] := by
  have hwl := gV o.ws;have hg := UV hi;have hcc := WA ls sure bk t (o.ws.getD i (0,0,0)) ht h0 hl hs hk;generalize zP ls sure bk t (o.ws.getD i (0,0,0)) = r at *;generalize o.ws.getD i (0,0,0) = w at *;refine dC T Tryz.func65 rfl rfl rfl rfl ?_
  (repeat' (first|refine wS ?_|refine wR ?_|(refine rg 0 (cY (fG rfl rfl) rfl (aV ?_)))|(refine eZ (id := 1) 16 [[],[],[],[2],[2,3],[],rM 2 4,rM 2 5,rN 8,rN 9] (rM 6 10) [[],[6],[6,7],[6,7],[6,7],rM 6 5,[6,7],[6,7],[],[]] fK rfl (by decide +kernel) (dO T rfl (dO T rfl (dP T rfl (dP T rfl (dO T rfl (dO T rfl (dV rfl (ix T rfl (by omega) (vG _) hg) (dO T rfl (dV rfl (kC (hcc)) ?_)))))))));refine dV rfl (eI rfl) (dE ?_);refine aV ?_)|refine nZ ?_));all_goals first | (exfalso;omega) | exact rQ
theorem MT (ls : List Lo) (sure : List Bo) (bk : Bk) (hl : bk.length ≤ 1000000) (h1 : ∀ o,o ∈ bk → o.tk.length ≤ 1000000 ∧ ∀ l,l ∈ o.tk → l.length ≤ 1000000) (hs : C4 bk) (hw : ∀ o,o ∈ bk → o.tk.length ≤ o.ws.length ∧ o.ws.length ≤ 1000000) (hll : ls.length ≤ 1000000) (hsl : sure.length ≤ 1000000) (hk : ∀ i : Nat,i < sure.length → (sure.getD i (0,0,0)).1 < ls.length) :
    bN Tryz.prog 27 [FI bk,.rowE (jF ls) 3,.rowE (eR sure) 3] [] (.sl 0 0 (xR ls sure bk).length 1) [.arr (fT (xR ls sure bk)) 1] := by
  have hbl := mI bk;have hrm := KE bk hl h1 hs;have hc2 := fun (t : Tk) (o : Od) (i : Nat) (hi : i < o.ws.length) (hw : o.ws.length ≤ 1000000) (ht : t ∈ gR bk) => TS ls sure bk t o i hi hw ht (hs.nn t ht).1 hll hsl hk;rw [show xR ls sure bk = K5 (zQ ls sure bk) bk bk.length from rfl]
  generalize hm : oA (gR bk) = m at *;refine dC T Tryz.func27 rfl rfl rfl rfl ?_
  (repeat' (first|refine wS ?_|(refine rg 0 (cY (fG rfl rfl) rfl (cY (fG rfl rfl) rfl (aV ?_))))|refine nZ ?_));refine gP 4 (cs := [.rowE (jF ls) 3]) rfl rfl rfl ?_
  refine gP 5 (cs := [.rowE (eR sure) 3]) rfl rfl rfl ?_
  (repeat' (first|refine wS ?_|(refine rg 1 (mW rfl (cY (by exact qC rfl rfl hrm (.inr ⟨rfl,rfl,by simp⟩)) rfl ?_));refine cY (cS T rfl) rfl (bE T rfl rfl rfl rfl rfl rfl (by decide) rfl ?_))|(refine rg 2 (vV (by exact nU rfl rfl) ?_);refine cY (cS T rfl) rfl (bE T rfl rfl rfl rfl rfl rfl (by decide) rfl ?_))|(refine rg 3 (aV ?_))|refine nZ ?_));refine I7 9 1 rfl (by decide) ?_
  (repeat' (first|refine wB ?_|(refine rg 4 (mW rfl (nV ?_));refine jH T rfl (qW T rfl (mV ?_)))|refine nZ ?_));refine eX (X := {k : Nat // k ≤ bk.length}) (fun k => [(8,.ptr 2 0),(9,.sl 3 0 (K5 (zQ ls sure bk) bk k.1).length 1),(20,.rowE (uB bk) 4),(21,.i (uB bk).length),(22,.i k.1)]) (fun k => [.mapO (A6 m) (K8 m),.cells [.mp 0],.cells [.clo (.func 63) [] [.pr [.rowE (eR sure) 3] 0,.pr [.rowE (jF ls) 3] 0,.ptr 1 0]],.arr (fT (K5 (zQ ls sure bk) bk k.1)) 1]) (fun k => bk.length - k.1) ⟨0,bM _⟩ ⟨[2,3,4,5],rfl,by (repeat (first | exact trivial | refine ⟨rfl,?_⟩)),⟨.inr (kR rfl rfl (kZ _ _ (jP _)) (jP _)),.inr rfl,.inr rfl,.inr rfl,trivial⟩,by decide,nP _⟩ ?_
  rintro ⟨k,hk2⟩;dsimp only;by_cases hlt : k < bk.length
  · have hg := D7 hlt;have hmo := aI hlt;have hss := GY (p := zQ ls sure bk) hlt;have hsk := JZ (p := zQ ls sure bk) (bk := bk) (k := k);have hnl := qZ (K5 (zQ ls sure bk) bk k);have hww := hw _ hmo;have h11 := h1 _ hmo;have hal := fun (t : Tk) (ht : t ∈ bk[k].tk.flatten) => J2 hmo ht;generalize bk[k] = o at *;have htl := nK o.tk;generalize K5 (zQ ls sure bk) bk k = S at *
    (repeat' (first|refine wS ?_|refine wB ?_|refine wK ?_|(refine wC rfl ?_ ?_<;>(intro hb;(try simp only [nm] at hb);try (exfalso;omega)))|(refine rg 5 (vV (bA rfl rfl) ?_))|(refine rg 6 (mW rfl (vV (ix T rfl (by omega) (uV bk) hg) (lW T rfl (cY (cS T rfl) rfl (aW rfl (bE T rfl rfl rfl rfl rfl rfl (by decide) rfl ?_)))))))|refine nZ ?_));all_goals try (exfalso;omega)
    refine gP 11 (cs := CU o) rfl rfl rfl ?_
    (repeat' (first|refine wB ?_|(refine rg 7 (jH T rfl (qW T rfl (mV ?_))))|refine nZ ?_));refine eX (X := {i : Nat // i ≤ o.tk.length ∧ ∀ j,j < i → ((o.tk.getD j []).any fun t => !zP ls sure bk t (o.ws.getD j (0,0,0))) = false}) (fun i => [(8,.ptr 2 0),(9,.sl 3 0 S.length 1),(10,.i k),(11,.pr (CU o) 0),(20,.rowE (uB bk) 4),(21,.i (uB bk).length),(22,.i k),(28,pS o.tk),(29,.i (C8 o.tk).length),(30,.i i.1)]) (fun i => [.mapO (A6 m) (K8 m),.cells [.mp 0],.cells [.clo (.func 63) [] [.pr [.rowE (eR sure) 3] 0,.pr [.rowE (jF ls) 3] 0,.ptr 1 0]],.arr (fT S) 1]) (fun i => o.tk.length - i.1) ⟨0,bM _,fun j hj => absurd hj (gI _)⟩ ⟨[0,1,2,3],rfl,by (repeat (first | exact trivial | refine ⟨rfl,?_⟩)),⟨.inr (kR rfl rfl rfl (jP _)),.inr rfl,.inr rfl,.inr (cM rfl rfl (eM _)),trivial⟩,by decide,nP _⟩ ?_
    rintro ⟨i,hi,hno⟩;dsimp only;by_cases hil : i < o.tk.length
    · have hg2 := C7 hil;have hmi := aI hil;have hgd : o.tk.getD i [] = o.tk[i] := by rw [aD,aB hil];rfl
      have hli := h11.2 _ hmi;have hF := fun (t : Tk) (ht : t ∈ o.tk[i]) => hc2 t o i (by omega) hww.2 (hal t (oE.2 ⟨_,hmi,ht⟩))
      have hsn : (∀ j,j < i + 1 → ((o.tk.getD j []).any fun t => !zP ls sure bk t (o.ws.getD j (0,0,0))) = false) ∨ ((o.tk.getD i []).any fun t => !zP ls sure bk t (o.ws.getD i (0,0,0))) = true := by
        cases e : ((o.tk.getD i []).any fun t => !zP ls sure bk t (o.ws.getD i (0,0,0))) with
        | true => exact .inr rfl
        | false =>
          refine .inl fun j hj => ?_
          rcases fJ j i with h | h
          · exact hno j h
          · rw [show j = i by omega];exact e
      have hby := fun e => QJ (ls := ls) (sure := sure) (bk := bk) hil e;rw [hgd] at hsn hby;generalize o.tk[i] = l at *;have hct := PX hli (F := 65) rfl hF;have hvw : ∀ Z : Hp,View ([AB.mapO (A6 m) (K8 m),.cells [.mp 0],.cells [.clo (.func 63) [] [.pr [.rowE (eR sure) 3] 0,.pr [.rowE (jF ls) 3] 0,.ptr 1 0]],.arr (fT S) 1] ++ Z) (.ptr 2 0) (.pr [WB 63 ls sure m] 0) := fun Z => View.ptr rfl (.cons (.clo .nil (.cons (.pr _ _) (.cons (.pr _ _) (.cons (.ptr rfl (.cons (.mp rfl (mK _ (PM m))) .nil)) .nil)))) .nil);by_cases hany : (l.any fun t => !zP ls sure bk t (o.ws.getD i (0,0,0))) = true
      · have hbt := hby hany;rw [hbt,if_pos rfl] at hss;rw [hany] at hct
        (repeat' (first|refine wS ?_|refine wB ?_|refine wK ?_|(refine wC rfl ?_ ?_<;>(intro hb;(try simp only [nm] at hb);try (exfalso;omega)))|(refine rg 8 (vV (bA rfl rfl) ?_))|(refine rg 9 (mW rfl (vV (ix T rfl (by omega) (oL _) hg2) (lW T rfl (cY (cS T rfl) rfl (bE T rfl rfl rfl rfl rfl rfl (by decide) rfl (aV ?_)))))))|refine nZ ?_));all_goals try (exfalso;omega)
        refine gP 12 (cs := [.i i]) rfl rfl rfl ?_
        (repeat' (first|refine wS ?_|refine wE ?_|refine wT ?_|(refine rg 10 (mW rfl (vV (by exact nU rfl rfl) ?_));refine vV (by exact iB rfl rfl hct (.cons (.row _ _ _) (.cons (.clo .nil (.cons (hvw _) (.cons (.pr _ _) (.cons (.pr _ _) .nil)))) .nil)) rfl rfl) ?_)|(refine rg 11 (fF rfl (cY (by exact cF T rfl rfl (by decide) (by decide) rfl rfl rfl) rfl ?_));refine hY T rfl rfl rfl rfl rfl rfl (by omega) (kQ.whole rfl rfl) rfl (by simp;omega) (by simp;omega) rfl ?_;refine aV ?_)|(refine rg 13 (vV (dS rfl rfl (by omega) (by omega)) (mV ?_)))|refine nZ ?_));all_goals try (exfalso;omega)
        all_goals exact ⟨⟨k + 1,hlt⟩,by dsimp only;omega,⟨[0,1,2,6],rfl,⟨rfl,by dsimp only;rw [hss,aC];rfl,rfl,rfl,rfl,trivial⟩,⟨.inr (kR rfl rfl rfl (jP _)),.inr rfl,.inr rfl,.inr (cM rfl (by dsimp only;rw [hss];exact KZ S _) (eM _)),trivial⟩,by decide,nP _⟩⟩
      · have hny := hsn.resolve_right hany;rw [cV] at hany;rw [hany] at hct
        (repeat' (first|refine wS ?_|refine wB ?_|refine wK ?_|(refine wC rfl ?_ ?_<;>(intro hb;(try simp only [nm] at hb);try (exfalso;omega)))|(refine rg 8 (vV (bA rfl rfl) ?_))|(refine rg 9 (mW rfl (vV (ix T rfl (by omega) (oL _) hg2) (lW T rfl (cY (cS T rfl) rfl (bE T rfl rfl rfl rfl rfl rfl (by decide) rfl (aV ?_)))))))|refine nZ ?_));all_goals try (exfalso;omega)
        refine gP 12 (cs := [.i i]) rfl rfl rfl ?_
        (repeat' (first|refine wK ?_|refine wU ?_|(refine rg 10 (mW rfl (vV (by exact nU rfl rfl) ?_));refine vV (by exact iB rfl rfl hct (.cons (.row _ _ _) (.cons (.clo .nil (.cons (hvw _) (.cons (.pr _ _) (.cons (.pr _ _) .nil)))) .nil)) rfl rfl) ?_)|(refine rg 12 (vV (dS rfl rfl (by omega) (by omega)) (mV ?_)))|refine nZ ?_));all_goals try (exfalso;omega)
        all_goals exact ⟨⟨i + 1,hil,hny⟩,by dsimp only;omega,⟨[0,1,2,3],rfl,by (repeat (first | exact trivial | refine ⟨rfl,?_⟩)),⟨.inr (kR rfl rfl rfl (jP _)),.inr rfl,.inr rfl,.inr (cM rfl rfl (eM _)),trivial⟩,by decide,nP _⟩⟩
    · obtain rfl : i = o.tk.length := by omega
      rw [TZ hno,if_neg (by decide)] at hss
      (repeat' (first|refine wS ?_|refine wE ?_|(refine wC rfl ?_ ?_<;>(intro hb;(try simp only [nm] at hb);try (exfalso;omega)))|(refine rg 8 (vV (bA rfl rfl) ?_))|(refine rg 13 (vV (dS rfl rfl (by omega) (by omega)) (mV ?_)))|refine nZ ?_));all_goals try (exfalso;omega)
      all_goals exact ⟨⟨k + 1,hlt⟩,by dsimp only;omega,⟨[0,1,2,3],rfl,⟨rfl,by dsimp only;rw [hss];rfl,rfl,rfl,rfl,trivial⟩,⟨.inr (kR rfl rfl rfl (jP _)),.inr rfl,.inr rfl,.inr (cM rfl (by dsimp only;rw [hss]) (eM _)),trivial⟩,by decide,nP _⟩⟩
  · obtain rfl : k = bk.length := by omega
    (repeat' (first|refine wS ?_|refine wR ?_|refine wE ?_|(refine wC rfl ?_ ?_<;>(intro hb;(try simp only [nm] at hb);try (exfalso;omega)))|(refine rg 5 (vV (bA rfl rfl) ?_))|(refine rg 14 (mW rfl (aV ?_)))|refine nZ ?_));all_goals first | (exfalso;omega) | exact ⟨.inl rfl,[3],_,rfl,rfl,rfl,⟨.inr (cM rfl rfl (eM _)),trivial⟩,by decide,nP _⟩
end Go.Proofs.YtdiogjgohbbllaaGreatDoor
namespace Go.Ab
open Go
section
variable {P : Program} {n : Nat × Nat} {ops : Array Oper} {rest : List Oper} {env : cJ} {h : Hp} {K : cJ → Hp → Prop}
variable {d : Option Nat} {ty : TypeId} {pos : String} {af : Array Edge}
theorem GP {t t2 e k off len sz dd : Nat} {x y : Operand} (T : lR P) (hx : evu env x = some (.sl k off len sz)) (hy : evu env y = some .nils) (ht : T.elem t = some e) (hd : yZ (some dd) n = true)
    (hk : ∀ b : Bool,(0 < len → b = false) → VC P n ops rest ((dd,.b b) :: env) h K) : VC P n ops (⟨some dd,.binOp .eql t x y t2,ty,pos,af,none⟩ :: rest) env h K := by
  intro c ρ S a w Q s hQ;refine wpList_plain rfl fun K' hK' => ?_
  have p := s.pre;have h3 := p.evu hx;simp only [R] at h3;obtain ⟨ad,cap,h4,hlc,hn⟩ := h3;have h5 := pQ (p.evu hy);have run : (execOp a.eval ⟨some dd,.binOp .eql t x y t2,ty,pos,af,none⟩).run P w = .ok (.value (.bool ad.isNone)) w := by
    have he := Lib.run_eql_slice_nil w t e ad len cap 0 0 (T.elemOk _ _ ht);have hg : (eqGuard .eql t x y (.slice ad len cap) (.slice none 0 0)).run P w = .ok () w := by cases ad <;> rfl
    simp [execOp,h4,h5,hg,he]
  have hv := hk ad.isNone (fun h0 => by
    rcases hn with ⟨h1,_⟩ | ⟨b,o,_,h1,_⟩
    · omega
    · rw [h1];rfl)
  unfold Oper.wp;rw [run];have hs := s.post (d := some dd) (m := 0) (x := .b ad.isNone) (new := []) (y := .bool ad.isNone) hd ⟨iZ.refl _ _,rfl,fun _ _ => rfl,fun _ h => h,fun _ h => .inl h,fun k p h1 h2 => by omega,fun k k' p p' h1 h2 => by omega,lD _,fun j b hb => by simp at hb⟩
  rw [List.append_nil] at hs;exact hK' _ _ (hv c ρ S _ w Q hs hQ)
theorem L5 {x : Operand} {f : FuncId} {fs cs us xs : List AV} {args : List Operand} {ats : Array TypeId} {Φ : AV → Hp → Prop} (hx : evu env x = some (.clo (.func f) fs cs)) (ha : V1 env args = some us)
    (hc : eS P f xs [] Φ) (hv : fR h (fs ++ us ++ cs) xs) (hr : ∀ res hout,Φ res hout → res.rf = true ∧ ∀ b,b ∈ hout → b.rf = true) (hd : yZ d n = true)
    (hk : ∀ res hout,Φ res hout → VC P n ops rest (fC d (res.map (· + h.length)) env) (h ++ hout.map (AB.map (· + h.length))) K) :
    VC P n ops (⟨d,.call { callee := .value x,args := args.toArray,argTypes := ats },ty,pos,af,none⟩ :: rest) env h K := by
  intro c ρ S a w Q s hQ;refine wpList_plain rfl fun K' hK' => ?_
  have p := s.pre;have hxv := p.evu hx;simp only [R] at hxv;obtain ⟨ys,zs,e1,h1,h2⟩ := hxv;have hall : RL S w (fs ++ us ++ cs) ρ (ys.toList ++ args.map a.eval ++ zs.toList) := eA (eA h1 (lG p ha)) h2;obtain ⟨hf,hc⟩ := hc;have hargs := hO p.blk hv hall;have hS1w : ∀ b,(S b ∨ fQ h ρ b) → b < w.heap.size := fun b hb => by
    rcases hb with hb | ⟨k,x,o,_,_,hb⟩
    · exact p.stab b hb
    · exact p.rng k _ hb
  have hs0 : HS (gL w (fun _ => none) (fun b => S b ∨ fQ h ρ b) []) (fun _ => none) (fun b => S b ∨ fQ h ρ b) [] w := ⟨fun _ _ => rfl,(fun _ _ h => by cases h),(fun k b hb => by simp at hb),(fun k b p hb => by simp at hb),(fun k _ b _ _ _ hb => by simp at hb),hS1w,iZ.refl _ _,fun _ h => h,fun _ h => .inl h,aQ _,(fun _ h => by simp [gL] at h),p.glob.st fun _ h => .inl h⟩
  have hcall := hc (fun _ => none) (fun b => S b ∨ fQ h ρ b) w _ hs0 hargs;unfold Oper.wp;have hrun : (execOp a.eval ⟨d,.call { callee := .value x,args := args.toArray,argTypes := ats },ty,pos,af,none⟩).run P w = .ok (.enter f (ys.toList ++ args.map a.eval ++ zs.toList).toArray) w := by
    have e2 : (ys ++ (args.toArray.map a.eval) ++ zs) = (ys.toList ++ args.map a.eval ++ zs.toList).toArray := by
      apply Array.ext';simp
    simp only [execOp,resolve,e1,Deferred.ofValue,Sem.run_bind,Sem.run_pure,Result.andThen_ok,invoke];rw [e2];exact lT hf
  rw [hrun];simp only [Oper.upon];refine hcall.mono ?_;rintro e w' ⟨res,hout,hΦ,y,ρ',S',rfl,hs,hy⟩;simp only;obtain ⟨r1,r2⟩ := hr res hout hΦ;have hng : ∀ b,b ∈ hout → b ≠ .gone := fun b hb e => by
    have := r2 b hb;rw [e] at this;simp [AB.rf] at this
  have hM : ∀ b,(gL w (fun _ => none) (fun b => S b ∨ fQ h ρ b) []).M b → w.heap.size ≤ b := fun b hb => by
    rcases hb with hb | ⟨k,x,o,hb,_⟩
    · exact hb
    · simp at hb
  have hext : iZ (fun _ => False) w w' := hs.ext.mono fun b hb hm => by have := hM b hm;simp [gL] at hb;omega
  have pl : ∀ k r,ρ' k = some r → (ρ.join ρ' h.length hout.length) (k + h.length) = some r := fun k r hk => by
    have hlt : k < hout.length := by
      rcases fJ k hout.length with h | h
      · exact h
      · rw [hs.dom k h] at hk;cases hk
    unfold Pl.join;rw [if_pos ⟨by omega,by omega⟩,show k + h.length - h.length = k by omega];exact hk
  have shift : ∀ {S2 : Nat → Prop} {x : AV} {y : Value},R S2 w' x ρ' y → R S2 w' (x.map (· + h.length)) (ρ.join ρ' h.length hout.length) y := fun {S2 x y} hx => uE (· + h.length) _ x y (iU (fun _ h => h) (fun _ _ => rfl) x ρ' _ y (fun k r hk => pl k r hk) (fun _ _ _ _ _ h => h) hx);have shiftB : ∀ {S2 : Nat → Prop} {b : AB} {pp},RB S2 w' ρ' pp b → RB S2 w' (ρ.join ρ' h.length hout.length) pp (b.map (· + h.length)) := fun {S2 b pp} hb => yA (· + h.length) _ (RB.later (ρ := ρ') (S := S2) ⟨fun k r hk => pl k r hk,fun _ h => h,fun _ _ => rfl,fun _ _ _ _ _ h => h⟩ (fun _ _ _ => rfl) hb);have hpost : zT ρ (ρ.join ρ' h.length hout.length) S S w w' h.length hout.length (res.map (· + h.length)) (hout.map (AB.map (· + h.length))) y := by
    refine ⟨hext,by simp,fun k hk => ?_,fun _ h => h,fun _ h => .inl h,fun k r hk1 hk2 hr => ?_,fun k k' r r' a1 a2 a3 a4 hr hr' e => ?_,shift (CH ρ' _ _ r1 hy),fun j b hb => ?_⟩
    · unfold Pl.join;rw [if_neg (by omega)]
    · unfold Pl.join at hr;rw [if_pos ⟨hk1,hk2⟩] at hr;have hlt : k - h.length < hout.length := by omega
      have hget := aB hlt;have hl := hs.live (k - h.length) _ r hget (hng _ (aI hlt)) hr;have hm := hM _ hl.1;exact ⟨hm,hs.rng _ r hr,fun hs' => by have := p.stab _ hs';omega⟩
    · unfold Pl.join at hr hr';rw [if_pos ⟨a1,a2⟩] at hr;rw [if_pos ⟨a3,a4⟩] at hr';have h1 := aB (l := hout) (i := k - h.length) (by omega)
      have h2 := aB (l := hout) (i := k' - h.length) (by omega)
      have := hs.inj (k - h.length) (k' - h.length) _ _ r r' h1 h2 (hng _ (aI _)) (hng _ (aI _)) hr hr' e;omega
    · simp only [aO,bY] at hb;obtain ⟨b',h3,rfl⟩ := hb;have hlt := (aA.1 h3).1;have e2 : (ρ.join ρ' h.length hout.length) (h.length + j) = ρ' j := by
        unfold Pl.join;rw [if_pos ⟨by omega,by omega⟩,show h.length + j - h.length = j by omega]
      rw [e2];exact shiftB (GK (r2 b' (aH h3)) (hs.blk j b' h3))
  exact hK' _ _ (hk res hout hΦ c _ S _ w' Q (s.post hd hpost) hQ)
end
end Go.Ab
namespace Go.Or
open Go Go.Ab
structure CQ (tk : List (List Tk)) (N : List (Nat × List Tk)) (X : Hp) : Prop where
  kl : N.length ≤ tk.length
  eq : N.map (·.2) = tk.take N.length
  ho : X[0]? = some (.arr (kX N ++ (C8 tk).drop N.length) 1)
  hn : qG X N
  nd : (0 :: N.map (·.1)).Nodup
  rf : ∀ (k : Nat) (b : AB),X[k]? = some b → k ≠ 0 → b.rf = true
theorem AA {α : Type} {A B : List α} {x : α} {k : Nat} (hk : k = A.length) (hB : B ≠ []) : (A ++ B).set k x = A ++ x :: B.drop 1 := by
  subst hk;cases B with
  | nil => exact absurd rfl hB
  | cons b B => simp
theorem CQ.get {tk : List (List Tk)} {N : List (Nat × List Tk)} {X : Hp} (h : CQ tk N X) (hl : N.length < tk.length) : (kX N ++ (C8 tk).drop N.length)[0 + (N.length : Int).toNat]? = some [AV.rowE (eO tk[N.length]) 2] := by
  rw [Nat.zero_add,bK,aF (by simp),dH]
  simp [hl]
theorem CQ.next {tk : List (List Tk)} {N : List (Nat × List Tk)} {X : Hp} (h : CQ tk N X) (hl : N.length < tk.length) :
    CQ tk (N ++ [(X.length,tk[N.length])]) ((X ++ [AB.arr (eO tk[N.length]) 2]).set 0 (AB.arr ((kX N ++ (C8 tk).drop N.length).set (0 + (N.length : Int).toNat) [AV.sl X.length 0 tk[N.length].length 2]) 1)) := by
  have h0 : 0 < X.length := (aA.1 h.ho).1;have hlt : ∀ e,e ∈ N → e.1 < X.length := fun e he => (aA.1 (h.hn e he)).1;have hnd := aL.1 h.nd;refine ⟨by rw [aC];exact hl,?_,?_,fun e he => ?_,?_,fun k b hb hk0 => ?_⟩
  · rw [cO,aC,cK,aY hl,h.eq];rfl
  · rw [gA (by simp)]
    congr 2;rw [Nat.zero_add,bK,AA (by simp) (by rw [Ne,uJ];simp;omega),CN,show kX (N ++ [(X.length,tk[N.length])]) = kX N ++ [[AV.sl X.length 0 tk[N.length].length 2]] from cO,aC,cK]
    simp
  · rcases bD.1 he with he | he
    · exact fZ (fun e1 => hnd.1 (by rw [← e1];exact aJ.2 ⟨e,he,rfl⟩)) (bS (h.hn e he))
    · rw [bG.1 he];exact fZ (by dsimp only;omega) cP
  · rw [cO,aL];refine ⟨fun hm => ?_,?_⟩
    · rcases bD.1 hm with hm | hm
      · exact hnd.1 hm
      · simp at hm;omega
    · rw [dX];refine ⟨hnd.2,by simp,fun a ha b hb e1 => ?_⟩
      obtain ⟨e,he,rfl⟩ := aJ.1 ha;simp at hb;have := hlt e he;omega
  · rw [eK hk0] at hb;rcases fJ k X.length with hkl | hkl
    · rw [iP hkl] at hb;exact h.rf k b hb hk0
    · have hkl2 := (aA.1 hb).1;rw [aC,cK] at hkl2;obtain rfl : k = X.length := by omega
      rw [cP] at hb;cases hb;exact SD _
def JA (tk : List (List Tk)) (r : AV) (o : Hp) : Prop := ∃ N,r = .sl 0 0 tk.length 1 ∧ N.length = tk.length ∧ tk = N.map (·.2) ∧ o[0]? = some (.arr (kX N) 1) ∧ qG o N ∧ (0 :: N.map (·.1)).Nodup ∧ ∀ b,b ∈ o → b.rf = true
theorem CQ.fin {tk : List (List Tk)} {N : List (Nat × List Tk)} {X : Hp} (h : CQ tk N X) (hl : ¬ N.length < tk.length) : JA tk (.sl 0 0 tk.length 1) X := by
  have hkl := h.kl;have heq := h.eq;have ho := h.ho;rw [aX (by omega)] at heq
  rw [dJ (by simp;omega),List.append_nil] at ho
  refine ⟨N,rfl,by omega,heq.symm,ho,h.hn,h.nd,fun b hb => ?_⟩
  obtain ⟨k,hk⟩ := bT.1 hb;by_cases h0 : k = 0
  · subst h0;rw [ho] at hk;cases hk;exact aT.2 fun e he => by obtain ⟨i,_,rfl⟩ := aJ.1 he;rfl
  · exact h.rf k b hk h0
structure QW (H : Hp) (L0 : OL) (pb po : Nat) (L : OL) (X : Hp) : Prop where
  kl : L.length ≤ L0.length
  eq : L.map (·.1) = (L0.map (·.1)).take L.length
  le : H.length ≤ X.length
  fr : ∀ k,k < H.length → X[k]? = H[k]?
  b : X[pb]? = some (.cells [.sl po 0 L0.length 4])
  o : X[po]? = some (.arr ((L.map fun e => iY e.1 e.2.1) ++ (L0.map fun e => iY e.1 e.2.1).drop L.length) 4)
  n : ∀ e,e ∈ L → kG X e.2.1 e.1.tk e.2.2
  nd : (pb :: po :: L.flatMap (·.2.2)).Nodup
  ge : ∀ k,k ∈ vU pb po L → H.length ≤ k
theorem QW.get {H : Hp} {L0 : OL} {pb po : Nat} {L : OL} {X : Hp} (h : QW H L0 pb po L X) (hl : L.length < L0.length) : ((L.map fun e => iY e.1 e.2.1) ++ (L0.map fun e => iY e.1 e.2.1).drop L.length)[0 + (L.length : Int).toNat]? = some (iY L0[L.length].1 L0[L.length].2.1) := by
  rw [Nat.zero_add,bK,aF (by simp),dH]
  simp [hl]
theorem QW.next {H : Hp} {L0 : OL} {pb po : Nat} {L : OL} {X Z : Hp} (h : QW H L0 pb po L X) (hl : L.length < L0.length) {x : AV} {B : List Nat} (hn : kG (X ++ Z) x L0[L.length].1.tk B) (hB : ∀ k,k ∈ B → X.length ≤ k) :
    QW H L0 pb po (L ++ [(L0[L.length].1,x,B)]) ((X ++ Z).set po (AB.arr (((L.map fun e => iY e.1 e.2.1) ++ (L0.map fun e => iY e.1 e.2.1).drop L.length).set (0 + (L.length : Int).toNat) (iY L0[L.length].1 x)) 4)) := by
  have h0 : po < X.length := (aA.1 h.o).1;have h1 : pb < X.length := (aA.1 h.b).1;have hnd := h.nd;simp only [aL,aR,not_or] at hnd;have hlt : ∀ k,k ∈ L.flatMap (·.2.2) → k < X.length := fun k hk => by
    obtain ⟨e,he,hk⟩ := dK.1 hk;exact (h.n e he).lt k hk
  have hle := h.le;have hpo := h.ge po (by simp)
  have hg : ∀ k,k ∈ vU pb po L → H.length ≤ k := h.ge;refine ⟨by rw [aC];exact hl,?_,by rw [eB,aC];omega,fun k hk => by rw [eK (by omega),iP (by omega)];exact h.fr k hk,?_,?_,fun e he => ?_,?_,fun k hk => ?_⟩
  · rw [cO,aC,cK,aY (by simpa using hl),h.eq];simp
  · exact fZ hnd.1.1 (bS h.b)
  · rw [gA (by simp;omega)]
    congr 2;rw [Nat.zero_add,bK,AA (by simp) (by rw [Ne,uJ];simp;omega),CN,cO,aC,cK]
    simp
  · rcases bD.1 he with he | he
    · refine (h.n e he).frame fun k hk => ?_
      have hm : k ∈ L.flatMap (·.2.2) := dK.2 ⟨e,he,hk⟩;rw [eK (fun e1 : k = po => hnd.2.1 (e1 ▸ hm)),iP (hlt k hm)]
    · rw [bG.1 he];exact hn.frame fun k hk => eK (by have := hB k hk;omega)
  · rw [fB];simp only [fH,jQ,List.append_nil,aL,aR,not_or,bD,dX];refine ⟨⟨hnd.1.1,hnd.1.2,fun hm => by have := hB _ hm;omega⟩,⟨hnd.2.1,fun hm => by have := hB _ hm;omega⟩,hnd.2.2,hn.nd,fun a ha b hb e1 => ?_⟩
    have := hlt a ha;have := hB b hb;omega
  · rcases aR.1 hk with rfl | hk
    · exact hg _ (by simp)
    rcases aR.1 hk with rfl | hk
    · exact hpo
    rw [fB] at hk;rcases bD.1 hk with hk | hk
    · exact hg k (aE _ (aE _ hk))
    · simp only [fH,jQ,List.append_nil] at hk;have := hB k hk;omega
theorem AO : ∀ {L : OL}, (∀ e, e ∈ L → e.2.1 = .nils ∨ ∃ p m, e.2.1 = .sl p 0 m 1) → (L.map fun e => iY e.1 e.2.1).flatten.all AV.one = true
  | [],_ => rfl
  | e :: L,h => by
    have ih := AO fun e he => h e (aE _ he);obtain ⟨o,x,A⟩ := e;rcases h _ aN with h1 | ⟨p,m,h1⟩
    · dsimp only at h1;subst h1;exact ih
    · dsimp only at h1;subst h1;exact ih
def RV (H : Hp) (bk : Bk) (r : AV) (o : Hp) : Prop := ∃ pb A,r = .ptr pb 0 ∧ uL o pb bk A ∧ (∀ k,k ∈ A → H.length ≤ k) ∧ H.length ≤ o.length ∧ ∀ k,k < H.length → o[k]? = H[k]?
theorem QW.fin {H : Hp} {L0 : OL} {pb po : Nat} {L : OL} {X : Hp} (h : QW H L0 pb po L X) (hl : ¬ L.length < L0.length) : RV H (L0.map (·.1)) (.ptr pb 0) X := by
  have hkl := h.kl;have heq := h.eq;have ho := h.o;rw [aX (by simp;omega)] at heq
  rw [dJ (by simp;omega),List.append_nil] at ho
  have hll : L.length = L0.length := by omega
  exact ⟨pb,_,rfl,⟨po,L,⟨by rw [hll];exact h.b,ho,h.n,h.nd⟩,heq.symm,rfl⟩,h.ge,h.le,h.fr⟩
theorem JA.rf {tk : List (List Tk)} {r : AV} {o : Hp} (h : JA tk r o) : r.rf = true ∧ ∀ b,b ∈ o → b.rf = true := by
  obtain ⟨N,rfl,_,_,_,_,_,h7⟩ := h;exact ⟨rfl,h7⟩
theorem JA.nest {tk : List (List Tk)} {r : AV} {o : Hp} (h : JA tk r o) (X : Hp) : ∃ B,kG (X ++ o.map (AB.map (· + X.length))) (.sl (0 + X.length) 0 tk.length 1) tk B ∧ ∀ k,k ∈ B → X.length ≤ k := by
  obtain ⟨N,h1,h2,h3,h4,h5,h6,_⟩ := h;have hn : kG o (.sl 0 0 N.length 1) tk (0 :: N.map (·.1)) := .inr ⟨0,N,rfl,h4,h5,h3,rfl,h6⟩;have hs := hn.shift (H := X);rw [h2] at hs;exact ⟨_,hs,fun k hk => by obtain ⟨m,_,rfl⟩ := aJ.1 hk;omega⟩
end Go.Or
namespace Go.Proofs.YtdiogjgohbbllaaGreatDoor
open Go Go.Ab Go.Or
attribute [local irreducible] VC AW bR bN eS
set_option maxHeartbeats 4000000
theorem BY (tk : List (List Tk)) (h1 : tk.length ≤ 1000000) (h2 : ∀ l,l ∈ tk → l.length ≤ 1000000) : eS Tryz.prog 46 [pS tk] [] (JA tk) := by
  have hcl := EP tk h1;have hll := nK tk;refine jO T Tryz.func46 rfl rfl rfl rfl ?_
  (repeat' (first|refine wS ?_|refine wB ?_|(refine rg 0 (aV ?_))|(refine rg 1 (mW rfl (cY (by exact qC rfl rfl hcl (.inr ⟨rfl,rfl,by simp⟩)) rfl ?_));refine aV ?_)|(refine rg 2 (mW rfl (qW T rfl (mV ?_))))|refine nZ ?_));refine iT (X := {x : List (Nat × List Tk) × Hp // CQ tk x.1 x.2}) (fun x => [(3, .sl 0 0 tk.length 1), (8, .i tk.length), (9, .i x.1.1.length)]) (fun x => x.1.2) (fun x => tk.length - x.1.1.length) ⟨([], [.arr (C8 tk) 1]), ⟨bM _, rfl, rfl, fun e he => (nomatch he), by simp, fun k b hb hk => (by cases k with
    | zero => exact absurd rfl hk
    | succ k => simp at hb)⟩⟩ (mC.of (by show [AB.arr ((C8 tk).map (AV.mapL _)) 1] = _;rw [gW _ (S7 _)]) (by repeat first|exact trivial|refine ⟨rfl,?_⟩)) ?_
  rintro ⟨⟨N,X⟩,hI⟩;dsimp only at hI ⊢;by_cases hlt : N.length < tk.length
  · have hg := hI.get hlt;have nx := hI.next hlt
    have h0 : 0 < X.length := (aA.1 hI.ho).1;have hct := IE tk[N.length] (h2 _ (aI hlt));have hX0 := hI.ho;generalize tk[N.length] = l at *
    (repeat' (first|refine wS ?_|refine wB ?_|refine wK ?_|(refine wC rfl ?_ ?_<;>(intro hb;(try simp only [nm] at hb);try (exfalso;omega)))|(refine rg 3 (vV (bA rfl rfl) ?_))|(refine rg 4 (mW rfl (aV ?_)))|(refine rg 5 (fF rfl (fF rfl (vV (by exact cI T rfl rfl rfl rfl rfl (by omega) (by omega)) ?_)));refine vV (by exact bC T rfl rfl (eF hX0 hg) rfl) ?_;refine cY (by exact qC rfl rfl hct (.inr ⟨rfl,rfl,by simp⟩)) rfl ?_;refine vV (by exact cI T rfl rfl rfl rfl rfl (by omega) (by omega)) ?_;refine bE T rfl rfl rfl rfl rfl rfl (by decide) (oZ (bS hX0) hg rfl rfl) ?_)|(refine rg 6 (vV (dS rfl rfl (by omega) (by omega)) (mV ?_)))|refine nZ ?_));all_goals try (exfalso;omega)
    all_goals exact ⟨⟨(_,_),nx⟩,by dsimp only;rw [aC,cK];omega,mC.of (by
      show List.set (X ++ [AB.arr ((eO l).map (AV.mapL _)) 2]) 0 (AB.arr (List.set (kX N ++ (C8 tk).drop N.length) (0 + (N.length : Int).toNat) [AV.sl (0 + X.length) 0 l.length 2]) 1) = _
      rw [gW _ (nX _),Nat.zero_add X.length]) (by dsimp only;rw [aC];(repeat (first | exact trivial | refine ⟨rfl,?_⟩)))⟩
  · (repeat' (first|refine wS ?_|refine wR ?_|refine wE ?_|(refine wC rfl (fun hb => ?_) (fun hb => ?_) <;> (((try simp only [nm] at hb);try (exfalso;omega))))|(refine rg 3 (vV (bA rfl rfl) ?_))|(refine rg 7 (mW rfl (aV ?_)))|(refine nZ ?_)));all_goals first | (exfalso;omega) | exact ⟨.inl rfl,_,rfl,hI.fin hlt⟩
theorem EQ {H : Hp} {po n : Nat} {es : List (List AV)} (hpo : H[po]? = some (.arr es 4)) (hn : n = es.length) (h1 : es.flatten.all AV.one = true) (hl : n ≤ 1000000) :
    eS Tryz.prog 44 [.sl po 0 n 4] H (fun r o => ∃ k Z,r = .sl k 0 n 4 ∧ o = H ++ Z ∧ o[k]? = some (.arr es 4) ∧ H.length ≤ k) := by
  refine jO T Tryz.func44 rfl rfl rfl rfl ?_
  repeat' (first|refine wS ?_|refine wK ?_|refine wT ?_|refine wU ?_|(refine rg 0 (aV ?_))|(refine rg 1 (mV ?_);refine GP T rfl rfl rfl rfl fun b hb=>?_;cases b)|refine nZ ?_)
  · (repeat' (first|refine wR ?_|(refine rg 3 (cY (by exact cF T rfl rfl (by decide) (by decide) rfl rfl rfl) rfl ?_);refine mW rfl (hY T rfl rfl rfl rfl rfl cP (by decide) (kQ.whole (bS hpo) hn) h1 (by simp;omega) (by simp;omega) rfl ?_);refine aV ?_)|(refine nZ ?_)));all_goals exact ⟨.inl rfl,_,rfl,H.length + 1,[.gone,.arr es 4],by show AV.sl (H ++ [_]).length 0 (0 + es.length) 4 = _;rw [aC,cK,Nat.zero_add,hn],by rw [iL,bF];rfl,by
      have e1 : (H.length + 1) = ((H ++ [AB.arr [] 4]).set H.length .gone).length := by simp
      rw [e1];exact cP,CM _⟩
  · have hl0 : es = [] := jA.1 (Classical.byContradiction fun h => by have := hb (by omega);cases this)
    subst hl0;subst hn
    (repeat' (first|refine wR ?_|(refine rg 2 (vV (jG rfl) (E3 2 4 rfl (by decide) ?_)))|refine nZ ?_));all_goals exact ⟨.inl rfl,_,rfl,H.length,[.arr [] 4],rfl,rfl,cP,aQ _⟩
theorem TT {H : Hp} {pb : Nat} {bk : Bk} {A : List Nat} (hB : uL H pb bk A) (hl : bk.length ≤ 1000000) (h1 : ∀ o,o ∈ bk → o.tk.length ≤ 1000000 ∧ ∀ l,l ∈ o.tk → l.length ≤ 1000000) (hw : ∀ o,o ∈ bk → o.ws.length ≤ 1000000) : eS Tryz.prog 11 [.ptr pb 0] H (RV H bk) := by
  obtain ⟨po,L0,h,rfl,rfl⟩ := hB;rw [bI] at hl;have hcl := EQ (n := L0.length) h.o (by simp) (AO fun e he => (h.n e he).form) hl
  have hbk := h.b;refine jO T Tryz.func11 rfl rfl rfl rfl ?_
  (repeat' (first|refine wS ?_|refine wB ?_|(refine rg 0 (aV ?_))|(refine rg 1 (mW rfl (nV ?_));refine fW T rfl (vV (by exact bC T rfl rfl (dU hbk) rfl) ?_);refine eH rfl rfl hcl rfl ?_;rintro _ _ ⟨kk,Z,rfl,rfl,hko,hkl⟩;dsimp only [fC];refine vV (by exact iG T rfl rfl rfl rfl) ?_;refine cY (fG rfl rfl) rfl (aV ?_))|(refine rg 2 (mW rfl (nV ?_));refine fW T rfl (vV (by exact bC T rfl rfl (dU cP) rfl) ?_);refine qW T rfl (mV ?_))|refine nZ ?_));have hkz : kk < (H ++ Z).length := (aA.1 hko).1
  have st : QW H L0 (H ++ Z).length kk [] (H ++ Z ++ [.cells [.sl kk 0 L0.length 4]]) := ⟨bM _,rfl,by rw [aC,aC];omega,fun k hk => by rw [iP (by rw [aC];omega),iP hk],cP,bS hko,fun e he => (nomatch he),aL.2 ⟨by simp only [jQ,bG];omega,by simp⟩,fun k hk => by
    simp only [jQ,aR,cG,or_false] at hk;rcases hk with rfl | rfl
    · rw [aC];omega
    · exact hkl⟩
  generalize (H ++ Z).length = pb1 at *;generalize hX0e : H ++ Z ++ [AB.cells [.sl kk 0 L0.length 4]] = X0 at *;clear hcl hko hkz hbk;refine iT (X := {x : OL × Hp // QW H L0 pb1 kk x.1 x.2}) (fun x => [(3,.ptr pb1 0),(17,.i L0.length),(18,.i x.1.1.length)]) (fun x => x.1.2) (fun x => L0.length - x.1.1.length) ⟨([],X0),st⟩ (mC.of hX0e (by repeat first|exact trivial|refine ⟨rfl,?_⟩)) ?_
  clear st;rintro ⟨⟨L,X⟩,hI⟩;dsimp only at hI ⊢;by_cases hlt : L.length < L0.length
  · have hg := hI.get hlt;have nx := fun {Z : Hp} {x : AV} {B : List Nat} => hI.next (Z := Z) (x := x) (B := B) hlt
    have h0 : kk < X.length := (aA.1 hI.o).1;have hmL := aI hlt;have hm : L0[L.length].1 ∈ L0.map (·.1) := aJ.2 ⟨_,hmL,rfl⟩;have hcw := uU L0[L.length].1.ws (hw _ hm);have hct := BY L0[L.length].1.tk (h1 _ hm).1 (h1 _ hm).2;have hvx := ((h.n _ hmL).frame (H' := X) fun k hk => hI.fr k ((h.n _ hmL).lt k hk)).view;have hfo := (h.n _ hmL).form;have hX0 := hI.o;have hX1 := hI.b;generalize L0[L.length] = e at *;obtain ⟨o,x0,A0⟩ := e;dsimp only at hg nx hcw hct hvx hfo
    (repeat' (first|refine wS ?_|refine wB ?_|refine wK ?_|(refine wC rfl ?_ ?_<;>(intro hb;(try simp only [nm] at hb);try (exfalso;omega)))|(refine rg 3 (vV (bA rfl rfl) ?_))|(refine rg 4 (mW rfl (aV ?_)))|(refine rg 5 (mW rfl (nV ?_));refine fW T rfl (vV (by exact bC T rfl rfl (dU hX1) rfl) ?_);refine mW rfl (vV (by exact cI T rfl rfl rfl rfl rfl (by omega) (by omega)) ?_);refine aV ?_)|refine nZ ?_));all_goals try (exfalso;omega)
    have hS := fun {Z : Hp} {a : List AV} => (gA (by rw [aC];omega) : ((X ++ Z).set kk (.arr (((L.map fun e => iY e.1 e.2.1) ++ (L0.map fun e => iY e.1 e.2.1).drop L.length).set (0 + (L.length : Int).toNat) a) 4))[kk]? = _)
    have hG := fun {a : List AV} => (show (((L.map fun e => iY e.1 e.2.1) ++ (L0.map fun e => iY e.1 e.2.1).drop L.length).set (0 + (L.length : Int).toNat) a)[0 + (L.length : Int).toNat]? = some a by rw [eP (aA.1 hg).1])
    rcases hfo with rfl | ⟨px,mx,rfl⟩
    all_goals
     refine CD (id := 6) fK ?_;refine oH 0 rfl rfl (by decide +kernel) (by decide +kernel) (by decide +kernel) (by exact pX rfl) rfl ?_
     refine oH 1 rfl rfl (by decide +kernel) (by decide +kernel) (by decide +kernel) (by exact pX rfl) rfl ?_
     refine oH 2 rfl rfl (by decide +kernel) (by decide +kernel) (by decide +kernel) (by exact pX rfl) rfl ?_
     refine oH 3 rfl rfl (by decide +kernel) (by decide +kernel) (by decide +kernel) (by exact tI rfl rfl) rfl ?_
     refine oH 4 rfl rfl (by decide +kernel) (by decide +kernel) (by decide +kernel) (by exact mU T rfl rfl rfl) rfl ?_
     refine oH 5 rfl rfl (by decide +kernel) (by decide +kernel) (by decide +kernel) (by exact mU T rfl rfl rfl) rfl ?_
     refine oH 8 rfl rfl (by decide +kernel) (by decide +kernel) (by decide +kernel) (by exact pX rfl) rfl ?_
     refine oH 9 rfl rfl (by decide +kernel) (by decide +kernel) (by decide +kernel) (by exact tI rfl rfl) rfl ?_
     refine oH 10 rfl rfl (by decide +kernel) (by decide +kernel) (by decide +kernel) (by exact mU T rfl rfl rfl) rfl ?_
     refine GI _ rfl [true,true,true,true,true,true,false,false,true,true,true,false,false,false,false,false,false,false,false,false] rfl rfl ?_
     (repeat' (first|(refine NI rfl rfl rfl ?_ ?_<;>(((refine vV (by first|exact bC T rfl rfl (eF hX0 hg) rfl|exact nW rfl rfl hcw (.cons (.row _ _ _) .nil) (gV _).symm (AH _) (R0 _)) ?_));refine oY ?_;dsimp only [List.set_cons_zero,List.set_cons_succ]))|(refine NJ rfl rfl ?_;(first|(refine vV (by first|exact dQ rfl rfl|exact eE T rfl rfl rfl|exact bC T rfl rfl (eF hX0 hg) rfl|exact nW rfl rfl hcw (.cons (.row _ _ _) .nil) (gV _).symm (AH _) (R0 _)) ?_)|(refine L5 rfl rfl hct (.cons hvx .nil) (fun _ _ hΦ=>hΦ.rf) rfl ?_;rintro res hout hΦ;have hΨ := hΦ.nest X;obtain ⟨_,rfl,_⟩ := hΦ;dsimp only [fC])|(refine bE T rfl rfl rfl rfl rfl rfl (by decide) (oZ (bS hX0) hg rfl rfl) ?_)|(refine bE T rfl rfl rfl rfl rfl rfl (by decide) (oZ hS hG rfl rfl) ?_));refine oY ?_;dsimp only [List.set_cons_zero,List.set_cons_succ])));all_goals refine R4 rfl ?_
     all_goals
      obtain ⟨B,hn,hB⟩ := hΨ;refine jJ [(3,.ptr pb1 0),(17,.i L0.length),(18,.i L.length)] ((X ++ hout.map (AB.map (· + X.length))).set kk (AB.arr (((L.map fun e => iY e.1 e.2.1) ++ (L0.map fun e => iY e.1 e.2.1).drop L.length).set (0 + (L.length : Int).toNat) (iY o (.sl (0 + X.length) 0 o.tk.length 1))) 4)) (mC.of (by rw [gY,gY];rfl) (by repeat first|exact trivial|refine ⟨rfl,?_⟩)) ?_
      (repeat' (first|(refine rg 7 (vV (dS rfl rfl (by omega) (by omega)) (mV ?_)))|refine nZ ?_));exact ⟨⟨(_,_),nx hn hB⟩,by dsimp only;rw [aC,cK];omega,mC.of rfl (by dsimp only;rw [aC];(repeat (first | exact trivial | refine ⟨rfl,?_⟩)))⟩
  · (repeat' (first|refine wS ?_|refine wR ?_|refine wE ?_|(refine wC rfl (fun hb => ?_) (fun hb => ?_) <;> (((try simp only [nm] at hb);try (exfalso;omega))))|(refine rg 3 (vV (bA rfl rfl) ?_))|(refine rg 8 (mW rfl (aV ?_)))|(refine nZ ?_)));all_goals first | (exfalso;omega) | exact ⟨.inl rfl,_,rfl,hI.fin hlt⟩
end Go.Proofs.YtdiogjgohbbllaaGreatDoor
namespace Go.Wr
open Go Go.Ab Go.Lib
theorem HI (r : List UInt8) : ∀ u : Nat,u ≤ 9223372036854775808 → parseUint10 0 (decDigits u ++ r) = parseUint10 u r := by
  intro u
  induction u using Nat.strongRecOn generalizing r with
  | _ u ih =>
    intro hu;rw [decDigits];split
    · rename_i h;have e : (UInt8.ofNat (48 + u)).toNat = 48 + u := by simp;omega
      rw [sO];rw [parseUint10,e,if_pos (by omega),if_neg (by omega),if_neg (by omega)]
      congr 1;omega
    · rename_i h;have e : (UInt8.ofNat (48 + u % 10)).toNat = 48 + u % 10 := by simp;omega
      rw [bF,ih (u / 10) (by omega) _ (by omega),sO]
      rw [parseUint10,e,if_pos (by omega),if_neg (by omega),if_neg (by omega)]
      congr 1;omega
theorem EO (u : Nat) : decDigits u ≠ [] := by
  rw [decDigits];split <;> simp
theorem zO : ∀ u : Nat,∀ c,c ∈ decDigits u → 48 ≤ c.toNat ∧ c.toNat ≤ 57 := by
  intro u
  induction u using Nat.strongRecOn with
  | _ u ih =>
    intro c hc;rw [decDigits] at hc;split at hc
    · rw [bG] at hc;subst hc;have e : (UInt8.ofNat (48 + u)).toNat = 48 + u := by simp;omega
      omega
    · rcases bD.1 hc with hc | hc
      · exact ih _ (by omega) c hc
      · rw [bG] at hc;subst hc;have e : (UInt8.ofNat (48 + u % 10)).toNat = 48 + u % 10 := by simp;omega
        omega
theorem FP {u : Nat} (hu : u ≤ 9223372036854775808) : parseMag (decDigits u) = .ok u := by
  have := HI [] u hu;rw [List.append_nil] at this;unfold parseMag;rw [if_neg (EO u),this];rfl
theorem IL {n : Int} (h : -9223372036854775808 ≤ n ∧ n ≤ 9223372036854775807) : atoiAll (itoa n) = .ok n := by
  unfold itoa;split
  · rw [atoiAll_minus,FP (by omega)]
    unfold signed;dsimp only;rw [if_neg (by omega)]
    congr 1;omega
  · have hm := FP (u := n.toNat) (by omega)
    cases hd : decDigits n.toNat with
    | nil => exact absurd hd (EO _)
    | cons c r =>
      have hc := zO n.toNat c (by rw [hd];simp)
      rw [hd] at hm;rw [atoiAll_plain c r (by omega) (by omega),hm]
      unfold signless;dsimp only;rw [if_neg (by omega)]
      congr 1;omega
theorem EA {n : Int} {c : UInt8} (h : c ∈ itoa n) : c.toNat = 45 ∨ (48 ≤ c.toNat ∧ c.toNat ≤ 57) := by
  unfold itoa at h;split at h
  · rcases aR.1 h with h | h
    · subst h;exact .inl rfl
    · exact .inr (zO _ _ h)
  · exact .inr (zO _ _ h)
theorem rS : ∀ (k u : Nat), u < 10 ^ (k + 1) → nDigits u ≤ k + 1
  | 0,u,h => by rw [nDigits_small (by simpa using h)];exact aQ _
  | k + 1,u,h => by
    by_cases hu : u < 10
    · rw [nDigits_small hu];omega
    · rw [nDigits_big hu];have := rS k (u / 10) (by rw [Nat.div_lt_iff_lt_mul (by decide)];rw [Nat.pow_succ] at h;exact h)
      omega
theorem HQ {n : Int} (h : -9223372036854775808 ≤ n ∧ n ≤ 9223372036854775807) : (itoa n).length ≤ 20 := by
  have hp : (10 : Nat) ^ (18 + 1) = 10000000000000000000 := by decide
  unfold itoa;split
  · rw [List.length_cons,decDigits_length];have := rS 18 n.natAbs (by omega)
    omega
  · rw [decDigits_length];have := rS 18 n.toNat (by omega)
    omega
theorem PV (n : Int) : itoa n ≠ [] := by
  unfold itoa;split
  · simp
  · exact EO _
theorem LU {a b : List UInt8} {e : UInt8} (h : e ∉ a) : indexByte (a ++ e :: b) e = a.length := by
  induction a with
  | nil => simp [indexByte]
  | cons c a ih =>
    simp only [aR,not_or] at h;have h1 := ih h.2;show indexByte (c :: (a ++ e :: b)) e = _;unfold indexByte;rw [if_neg (by simpa using fun q => h.1 q.symm),h1,if_neg (by simp)]
    simp
theorem A8 {l : List UInt8} {e : UInt8} (h : 0 ≤ indexByte l e) : l = l.take (indexByte l e).toNat ++ e :: l.drop ((indexByte l e).toNat + 1) ∧ (indexByte l e).toNat < l.length := by
  obtain ⟨h1,h2⟩ := indexByte_some (l := l) (c := e) (o := (indexByte l e).toNat) (by omega)
  obtain ⟨h3,h4⟩ := aA.1 h1;refine ⟨?_,h3⟩
  conv => lhs;rw [← bX (indexByte l e).toNat l]
  rw [aS h3,h4]
def tK (r : List UInt8) (e : UInt8) (lo : Int) : Option (Int × List UInt8) :=
  if indexByte (r.take 21) e < 0 then none else
  match atoiAll (r.take (indexByte (r.take 21) e).toNat) with
  | .ok n => if itoa n = r.take (indexByte (r.take 21) e).toNat ∧ lo ≤ n then some (n,r.drop ((indexByte (r.take 21) e).toNat + 1)) else none
  | _ => none
theorem H0 {r : List UInt8} {e : UInt8} (h : 0 ≤ indexByte (r.take 21) e) : (indexByte (r.take 21) e).toNat < r.length ∧ (indexByte (r.take 21) e).toNat < 21 := by
  have := (A8 h).2;rw [bU] at this;omega
theorem zB {r r' : List UInt8} {e : UInt8} {lo n : Int} (h : tK r e lo = some (n,r')) : r = itoa n ++ e :: r' ∧ lo ≤ n ∧ -9223372036854775808 ≤ n ∧ n ≤ 9223372036854775807 := by
  unfold tK at h;split at h
  · cases h
  · rename_i h0;have hs := A8 (IY.1 h0);have hi := H0 (IY.1 h0);split at h
    · rename_i n' ha;split at h
      · rename_i hc;simp only [Option.some.injEq,Prod.mk.injEq] at h;obtain ⟨rfl,rfl⟩ := h;have hb := atoiAll_bounds ha;refine ⟨?_,hc.2,hb.1,hb.2⟩;rw [hc.1];generalize indexByte (r.take 21) e = k at *;have h3 : (r.take 21)[k.toNat]? = some e := by
          rw [hs.1,aF (by rw [bU,bU];omega)]
          simp [bU];rw [show k.toNat - min k.toNat (min 21 r.length) = 0 by omega]
          rfl
        rw [bH,if_pos hi.2] at h3;obtain ⟨h4,h5⟩ := aA.1 h3
        conv => lhs;rw [← bX k.toNat r]
        rw [aS h4,h5]
      · cases h
    · cases h
theorem FM {r' : List UInt8} {e : UInt8} {lo n : Int} (h : -9223372036854775808 ≤ n ∧ n ≤ 9223372036854775807) (hl : lo ≤ n) (he : e.toNat ≠ 45 ∧ (e.toNat < 48 ∨ 57 < e.toNat)) : tK (itoa n ++ e :: r') e lo = some (n,r') := by
  have hni : e ∉ itoa n := fun hm => by have := EA hm;omega
  have h20 := HQ h;have hi : indexByte ((itoa n ++ e :: r').take 21) e = (itoa n).length := by
    rw [hC,show 21 - (itoa n).length = (20 - (itoa n).length) + 1 by omega,oQ,aX (by omega)]
    exact LU hni
  unfold tK;rw [hi,if_neg (by omega),bK,List.take_left,IL h]
  dsimp only;rw [if_pos ⟨rfl,hl⟩,List.drop_append,dJ (by omega)]
  simp
theorem AS (e : UInt8) (lo : Int) : tK [] e lo = none := by
  unfold tK;simp [indexByte]
theorem KW {r r' : List UInt8} {e : UInt8} {lo n : Int} (h : tK r e lo = some (n,r')) : r'.length + 2 ≤ r.length := by
  have h1 := (zB h).1;have h2 := PV n;rw [h1,aC,List.length_cons];have : 0 < (itoa n).length := lS.2 h2;omega
abbrev St := Option (List UInt8)
abbrev FG (s : St) : Hp := [.cells [.s (s.getD []),.b s.isNone]]
def jE (s : St) (e : UInt8) (lo : Int) : Int × St := match tK (s.getD []) e lo with
  | some (n,r) => if s.isNone then (0,none) else (n,some r)
  | none => (0,none)
theorem O9 (e : UInt8) (lo : Int) : jE none e lo = (0,none) := by unfold jE;rw [show (none : St).getD [] = [] from rfl,AS]
def dB (s : St) : Int × St := jE s 59 (-9223372036854775808)
theorem qY (s : St) (e : UInt8) (lo : Int) : -9223372036854775808 ≤ (jE s e lo).1 ∧ (jE s e lo).1 ≤ 9223372036854775807 := by
  unfold jE;split
  · rename_i n r h;have := zB h;split <;> simp <;> omega
  · simp
theorem uQ {r : List UInt8} {e : UInt8} {lo n : Int} {r' : List UInt8} (h : tK r e lo = some (n,r')) : jE (some r) e lo = (n,some r') := by
  unfold jE;rw [show (some r : St).getD [] = r from rfl,h]
  rfl
theorem P0 {r : List UInt8} {e : UInt8} {lo : Int} (h : tK r e lo = none) : jE (some r) e lo = (0,none) := by
  unfold jE;rw [show (some r : St).getD [] = r from rfl,h]
theorem AR {s : St} {e : UInt8} {lo : Int} {r : List UInt8} (h : (jE s e lo).2 = some r) : ∃ r0,s = some r0 ∧ tK r0 e lo = some ((jE s e lo).1,r) ∧ r.length + 2 ≤ r0.length := by
  cases s with
  | none => rw [O9] at h;cases h
  | some r0 =>
    cases hp : tK r0 e lo with
    | none => rw [P0 hp] at h;cases h
    | some p =>
      obtain ⟨n,r'⟩ := p;rw [uQ hp] at h ⊢;cases h;exact ⟨r0,rfl,hp,KW hp⟩
theorem oT (s : St) (e : UInt8) (lo : Int) : ((jE s e lo).2.getD []).length ≤ (s.getD []).length := by
  cases h : (jE s e lo).2 with
  | none => simp
  | some r =>
    obtain ⟨r0,rfl,_,h3⟩ := AR h;simp;omega
end Go.Wr
namespace Go.Proofs.YtdiogjgohbbllaaGreatDoor
open Go Go.Ab Go.Shelf Go.Proofs Go.Wr
shelf_lay Lays.n137 Nm 137 at Tryz as laysIdx
shelf_lay LaysC.n172 Nm 172 at Tryz as laysAtoi
theorem wH {P : Program} {f : FuncId} {xs : List AV} {res : AV} (hfn : ∃ fn, P.funcs[f]? = some fn ∧ (fn.name == "runtime.NumGoroutine") = false ∧ fn.body.isNone = false)
    (hs : ∀ (ρ : Pl) S w vs,kH S w → RL S w xs ρ vs → Calls P f vs.toArray w fun e w' => ∃ y,e = .returned y ∧ RowKit.Below w.heap.size w w' ∧ ∀ S' ρ',R S' w' res ρ' y) : bN P f xs [] res [] := by
  refine ⟨hfn,fun ρ S w vs s ha => (hs ρ S w vs s.glob ha).mono fun e w' ⟨y,he,hb,hR⟩ => ?_⟩
  exact ⟨y,ρ,S,he,s.kept (IC hb),hR S ρ⟩
theorem RI (l : List UInt8) (e : UInt8) : bN Tryz.prog 126 [.s l,.v (.int .u8 e.toNat)] [] (.i (Lib.indexByte l e)) [] :=
  wH ⟨_,Tryz.func126,by kernel_rfl,by kernel_rfl⟩ fun ρ S w vs _ ha => by
    simp only [RL,R] at ha;obtain ⟨y,ys,rfl,rfl,z,zs,rfl,rfl,rfl⟩ := ha;refine (Any.strings_IndexByte laysIdx ⟨l.toArray⟩ (e.toNat : Int) w).mono fun e' w' ⟨h1,h2⟩ => ⟨_,h1,by rw [h2];exact RowKit.Below.refl _ _,fun S' ρ' => ?_⟩
    simp [R]
theorem GH {l : List UInt8} {n : Int} (h : Lib.atoiAll l = .ok n) (hl : l.length ≤ 1000000) : bN Tryz.prog 128 [.s l] [] (.tup [.i n,.v .nilIface]) [] :=
  wH ⟨_,Tryz.func128,by kernel_rfl,by kernel_rfl⟩ fun ρ S w vs _ ha => by
    simp only [RL,R] at ha;obtain ⟨y,ys,rfl,rfl,rfl⟩ := ha;refine (Any.strconv_Atoi_ok laysAtoi ⟨l.toArray⟩ (by show l.toArray.size ≤ _;simp;omega) n (by simpa using h) w).mono fun e' w' ⟨h1,h2⟩ => ⟨_,h1,?_,fun S' ρ' => ?_⟩
    · rcases h2 with rfl | ⟨t,rfl⟩
      · exact RowKit.Below.refl _ _
      · exact Lib.bytesWorld_below _ _ _
    · simp only [R,RL];exact ⟨_,rfl,_,_,rfl,rfl,_,_,rfl,rfl,rfl⟩
theorem MK {S : Nat → Prop} {w : World} {name : String} {gi : Nat} (hg : Tryz.prog.globalNamed name = some gi) (hm : (gi,[AV.ifc 199 .any]) ∈ qB) (h : kH S w) : ∃ p,w.var? Tryz.prog name = some #[.iface 199 p] := by
  obtain ⟨_,ys,t,fz,g1,g2⟩ := h gi _ hm;simp only [RL,R] at g2;obtain ⟨y,zs,g3,⟨z,rfl,_⟩,rfl⟩ := g2;refine ⟨z,?_⟩;have e : ys = #[.iface 199 z] := Array.toList_inj.1 g3;unfold World.var?;rw [hg];simp only [Option.bind_some,g1];rw [e]
theorem CE {l : List UInt8} (h : ∀ n,Lib.atoiAll l ≠ .ok n) (hl : l.length ≤ 1000000) : bN Tryz.prog 128 [.s l] [] (.tup [.any,.ifc 182 .any]) [] :=
  wH ⟨_,Tryz.func128,by kernel_rfl,by kernel_rfl⟩ fun ρ S w vs hg ha => by
    simp only [RL,R] at ha;obtain ⟨y,ys,rfl,rfl,rfl⟩ := ha;obtain ⟨p1, hv1⟩ := MK (name := "strconv.ErrSyntax") (gi := 2) (by kernel_rfl) (by unfold qB; simp) hg
    obtain ⟨p2, hv2⟩ := MK (name := "strconv.ErrRange") (gi := 3) (by kernel_rfl) (by unfold qB; simp) hg
    have hsz : (⟨l.toArray⟩ : ByteArray).size ≤ 281474976710656 := by show l.toArray.size ≤ _;simp;omega
    rcases ha : Lib.atoiAll l with n | _ | _
    · exact absurd ha (h n)
    · skip;refine (Any.strconv_Atoi_syntax_var laysAtoi ⟨l.toArray⟩ hsz (by simpa using ha) _ p1 w hv1).mono fun e' w' ⟨N,h1,_,_,h2⟩ => ⟨_,h1,h2,fun S' ρ' => ?_⟩
      simp only [R,RL];exact ⟨_,rfl,_,_,rfl,trivial,_,_,rfl,⟨_,rfl,trivial⟩,rfl⟩
    · skip;refine (Any.strconv_Atoi_range_var laysAtoi ⟨l.toArray⟩ hsz (by simpa using ha) _ p2 w hv2).mono fun e' w' ⟨N,h1,_,_,h2⟩ => ⟨_,h1,h2,fun S' ρ' => ?_⟩
      simp only [R,RL];exact ⟨_,rfl,_,_,rfl,trivial,_,_,rfl,⟨_,rfl,trivial⟩,rfl⟩
theorem SV (u : TypeId) (v : Value) (W : World) : (binOp .neq 125 (.iface u v) .nilIface).run Tryz.prog W = .ok (.bool true) W := by kernel_rfl
theorem SU (W : World) : (binOp .neq 125 .nilIface .nilIface).run Tryz.prog W = .ok (.bool false) W := by kernel_rfl
section
variable {env : cJ} {h : Hp} {d : Option Nat} {ty : TypeId} {pos : String} {af : Array Edge} {g : Option (Nat × Bool)}
theorem Q4 {t2 u : TypeId} {x y : Operand} {z : AV} (hx : evu env x = some (.ifc u z)) (hy : evu env y = some (.v .nilIface)) : bR Tryz.prog ⟨d,.binOp .neq 125 x y t2,ty,pos,af,g⟩ env h 0 (fun _ => .b true) (fun _ => []) := by
  refine fO fun ρ S a w p => ⟨.bool true,?_,by simp [R]⟩
  have h1 := p.evu hx;simp only [R] at h1;obtain ⟨z',h1,_⟩ := h1;have h2 := pQ (p.evu hy);have hq : eqGuard .neq 125 x y (.iface u z') .nilIface = pure () := by rfl
  simp [execOp,h1,h2,hq,SV]
theorem vW {t2 : TypeId} {x : Operand} (hx : evu env x = some (.v .nilIface)) : bR Tryz.prog ⟨d,.binOp .neq 125 x (.const .nilIface) t2,ty,pos,af,g⟩ env h 0 (fun _ => .b false) (fun _ => []) := by
  refine fO fun ρ S a w p => ⟨.bool false,?_,by simp [R]⟩
  have h1 := pQ (p.evu hx);have hq : eqGuard .neq 125 x (.const .nilIface) .nilIface .nilIface = pure () := by cases x <;> rfl
  have h2 : a.eval (.const .nilIface) = .nilIface := rfl;simp [execOp,h1,h2,hq,SU]
theorem gB {P : Program} {t : TypeId} {x : Operand} {a b : List UInt8} {lo hi : Option Operand} {l r : Int} (ht : NN P t) (hx : evu env x = some (.s a)) (hlo : Y8 env lo 0 = some l) (hhi : Y8 env hi a.length = some r) (h0 : 0 ≤ l) (h1 : l ≤ r) (h2 : r ≤ a.length) (e : (a.take r.toNat).drop l.toNat = b) : bR P ⟨d,.slice t x lo hi none,ty,pos,af,g⟩ env h 0 (fun _ => .s b) (fun _ => []) := by
  subst e;exact HX ht hx hlo hhi h0 h1 h2
theorem BK {P : Program} {t t2 : TypeId} {x y : Operand} {a b : List UInt8} (hx : evu env x = some (.s a)) (hy : evu env y = some (.s b)) (e : a ≠ b) : bR P ⟨d,.binOp .neq t x y t2,ty,pos,af,g⟩ env h 0 (fun _ => .b true) (fun _ => []) := by
  have := FT (P := P) (d := d) (ty := ty) (pos := pos) (af := af) (g := g) (h := h) (t := t) (t2 := t2) hx hy;simpa [e] using this
theorem H7 {P : Program} {t t2 : TypeId} {x y : Operand} {a b : List UInt8} (hx : evu env x = some (.s a)) (hy : evu env y = some (.s b)) (e : a = b) : bR P ⟨d,.binOp .neq t x y t2,ty,pos,af,g⟩ env h 0 (fun _ => .b false) (fun _ => []) := by
  have := FT (P := P) (d := d) (ty := ty) (pos := pos) (af := af) (g := g) (h := h) (t := t) (t2 := t2) hx hy;simpa [e] using this
end
attribute [local irreducible] VC AW bR bN
set_option maxHeartbeats 4000000
theorem SL (l : List UInt8) : bN Tryz.prog 81 [.s l] [] (.ptr 0 0) (FG (some l)) := by
  refine dC T Tryz.func81 rfl rfl rfl rfl ?_
  (repeat' (first|refine wS ?_|refine wR ?_|(refine rg 0 (aV ?_))|(refine rg 1 (mW rfl (vV (by exact iG T rfl rfl rfl rfl) ?_));refine cY (fG rfl rfl) rfl (aV ?_))|refine nZ ?_));all_goals exact ⟨.inl rfl,[0],_,rfl,rfl,rfl,⟨.inr rfl,trivial⟩,by decide,WQ⟩
theorem TK (r : List UInt8) (b : Bool) : bN Tryz.prog 127 [.ptr 0 0] [.cells [.s r,.b b]] (.tup []) [.cells [.s [],.b true]] := by
  refine dC T Tryz.func127 rfl rfl rfl rfl ?_
  (repeat' (first|(refine rg 0 (fF rfl (nV ?_));refine fW T rfl (bE T rfl rfl rfl rfl rfl rfl (by decide) rfl (nV ?_));refine fW T rfl (bE T rfl rfl rfl rfl rfl rfl (by decide) rfl ?_))|refine nZ ?_));all_goals exact ⟨.inr rfl,[0],_,rfl,rfl,rfl,⟨.inr rfl,trivial⟩,by decide,zF⟩
theorem O8 (r : List UInt8) (b : Bool) (e : UInt8) (lo : Int) (hl : r.length ≤ 1000000000) (h : tK r e lo = none) :
    bN Tryz.prog 113 [.ptr 0 0,.v (.int .u8 e.toNat),.i lo] [.cells [.s r,.b b]] (.i 0) [.cells [.s [],.b true]] := by
  have hf := TK r b;have hi := RI (r.take 21) e;have e1 : ((r.take (min (r.length : Int) 21).toNat).drop (0 : Int).toNat) = r.take 21 := by
    rw [CO,dI];by_cases h21 : r.length ≤ 21
    · rw [aX (by omega),aX h21]
    · rw [show (min (r.length : Int) 21).toNat = 21 by omega]
  refine dC T Tryz.func113 rfl rfl rfl rfl ?_;unfold tK at h;by_cases h0 : Lib.indexByte (r.take 21) e < 0
  · (repeat' (first|refine wS ?_|refine wR ?_|(refine wC rfl (fun hb => ?_) (fun hb => ?_) <;> (((try simp only [nm] at hb);try (exfalso;omega))))|(refine rg 0 (aV ?_))|(refine eZ (id := 1) 64 YX (rM 11 11) YY fK rfl (by decide +kernel) (dN rfl (dV rfl (by exact dQ rfl rfl) ?_));refine dP T rfl (dO T rfl (dN rfl (dV rfl (by exact dQ rfl rfl) ?_)));refine dP T rfl (dO T rfl (dV rfl (nB jK rfl) (dV rfl (rV rfl rfl) (dV rfl (by exact gB jK rfl rfl rfl (by decide) (by omega) (by omega) e1) ?_))));refine dE ?_;refine aV ?_)|(refine rg 2 (fF rfl (vV (kC (hi)) (aV ?_))))|(refine rg 3 (mW rfl (vV (bA rfl rfl) ?_)))|(refine rg 4 (mW rfl (cQ [0] rfl rfl hf rfl rfl (by decide) ⟨.inr rfl,trivial⟩ (by simp) rfl ?_)))|(refine rg 5 (aV ?_))|(refine nZ ?_)));all_goals first | (exfalso;omega) | exact ⟨.inl rfl,[0],_,rfl,rfl,rfl,⟨.inr rfl,trivial⟩,by decide,zF⟩
  · rw [if_neg h0] at h;obtain ⟨k1,k2⟩ := H0 (IY.1 h0);have e2 : (((r.take 21).take (Lib.indexByte (r.take 21) e).toNat).drop (0 : Int).toNat) = r.take (Lib.indexByte (r.take 21) e).toNat := by
      rw [CO,dI,WN,R7 (by omega)]
    have hk : (Lib.indexByte (r.take 21) e).toNat ≤ (r.take 21).length := by rw [bU];omega
    have hsl : (r.take (Lib.indexByte (r.take 21) e).toNat).length ≤ 1000000 := by rw [bU];omega
    generalize Lib.indexByte (r.take 21) e = at_ at *;generalize r.take at_.toNat = s at *;rcases ha : Lib.atoiAll s with n | _ | _
    · skip;rw [ha] at h;have hA := GH ha hsl;have hb := Lib.atoiAll_bounds ha;have hI := EB (n := n) ⟨hb.1,hb.2⟩;by_cases hc : Lib.itoa n = s
      · have hlo : n < lo := by
          by_cases hh : n < lo
          · exact hh
          · dsimp only at h;rw [if_pos ⟨hc,by omega⟩] at h;cases h
        (repeat' (first|refine wS ?_|refine wK ?_|refine wR ?_|(refine wC rfl ?_ ?_<;>(intro hb;(try simp only [nm] at hb);try (exfalso;omega)))|(refine rg 0 (aV ?_))|(refine eZ (id := 1) 64 YX (rM 11 11) YY fK rfl (by decide +kernel) (dN rfl (dV rfl (by exact dQ rfl rfl) ?_));refine dP T rfl (dO T rfl (dN rfl (dV rfl (by exact dQ rfl rfl) ?_)));refine dP T rfl (dO T rfl (dV rfl (nB jK rfl) (dV rfl (rV rfl rfl) (dV rfl (by exact gB jK rfl rfl rfl (by decide) (by omega) (by omega) e1) ?_))));refine dE ?_;refine aV ?_)|(refine rg 2 (fF rfl (vV (kC (hi)) (aV ?_))))|(refine rg 3 (mW rfl (vV (bA rfl rfl) ?_)))|(refine rg 6 (fF rfl (vV (by exact gB jK rfl rfl rfl (by decide) (by omega) (by omega) e2) ?_));refine vV (kC (hA)) (mW rfl (xW rfl (xW rfl (oC ?_)))))|(refine eZ (id := 7) 64 YZ (rM 36 15) ZA fK rfl (by decide +kernel) (dN rfl (dV rfl (vW rfl) (dN rfl (tN rfl (dT rfl (kC (hI)) (tN rfl (tN rfl (dT rfl (by exact gB jK rfl rfl rfl (by decide) (by omega) (by omega) e2) ?_))))))));refine dT rfl (H7 rfl rfl hc) (dV rfl (lZ rfl rfl) (dN rfl (tN rfl (tN rfl (dT rfl (bA rfl rfl) (dV rfl (lZ rfl rfl) (dE ?_))))))))|(refine rg 8 (mW rfl (cQ [0] rfl rfl hf rfl rfl (by decide) ⟨.inr rfl,trivial⟩ (by simp) rfl ?_)))|(refine rg 9 (aV ?_))|refine nZ ?_));all_goals first | (exfalso;omega) | exact ⟨.inl rfl,[0],_,rfl,rfl,rfl,⟨.inr rfl,trivial⟩,by decide,zF⟩
      · (repeat' (first|refine wS ?_|refine wK ?_|refine wR ?_|refine I8 rfl ?_|(refine wC rfl (fun hb => ?_) (fun hb => ?_) <;> (((try simp only [nm] at hb);try (exfalso;omega))))|(refine rg 0 (aV ?_))|(refine eZ (id := 1) 64 YX (rM 11 11) YY fK rfl (by decide +kernel) (dN rfl (dV rfl (by exact dQ rfl rfl) ?_));refine dP T rfl (dO T rfl (dN rfl (dV rfl (by exact dQ rfl rfl) ?_)));refine dP T rfl (dO T rfl (dV rfl (nB jK rfl) (dV rfl (rV rfl rfl) (dV rfl (by exact gB jK rfl rfl rfl (by decide) (by omega) (by omega) e1) ?_))));refine dE ?_;refine aV ?_)|(refine rg 2 (fF rfl (vV (kC (hi)) (aV ?_))))|(refine rg 3 (mW rfl (vV (bA rfl rfl) ?_)))|(refine rg 6 (fF rfl (vV (by exact gB jK rfl rfl rfl (by decide) (by omega) (by omega) e2) ?_));refine vV (kC (hA)) (mW rfl (xW rfl (xW rfl (oC ?_)))))|(refine eZ (id := 7) 64 YZ (rM 36 15) ZA fK rfl (by decide +kernel) (dN rfl (dV rfl (vW rfl) (dN rfl (tN rfl (dT rfl (kC (hI)) (tN rfl (tN rfl (dT rfl (by exact gB jK rfl rfl rfl (by decide) (by omega) (by omega) e2) ?_))))))));refine dT rfl (BK rfl rfl hc) (dV rfl (lZ rfl rfl) (dN rfl (tG rfl (tG rfl (tG rfl (dV rfl (lY rfl rfl) (dE ?_))))))))|(refine rg 8 (mW rfl (cQ [0] rfl rfl hf rfl rfl (by decide) ⟨.inr rfl,trivial⟩ (by simp) rfl ?_)))|(refine rg 9 (aV ?_))|(refine nZ ?_)));all_goals first | (exfalso;omega) | exact ⟨.inl rfl,[0],_,rfl,rfl,rfl,⟨.inr rfl,trivial⟩,by decide,zF⟩
    · skip;have hA := CE (l := s) (fun n => by rw [ha];exact fun h => by cases h) hsl
      (repeat' (first|refine wS ?_|refine wK ?_|refine wR ?_|refine wT ?_|(refine wC rfl ?_ ?_<;>(intro hb;(try simp only [nm] at hb);try (exfalso;omega)))|(refine rg 0 (aV ?_))|(refine eZ (id := 1) 64 YX (rM 11 11) YY fK rfl (by decide +kernel) (dN rfl (dV rfl (by exact dQ rfl rfl) ?_));refine dP T rfl (dO T rfl (dN rfl (dV rfl (by exact dQ rfl rfl) ?_)));refine dP T rfl (dO T rfl (dV rfl (nB jK rfl) (dV rfl (rV rfl rfl) (dV rfl (by exact gB jK rfl rfl rfl (by decide) (by omega) (by omega) e1) ?_))));refine dE ?_;refine aV ?_)|(refine rg 2 (fF rfl (vV (kC (hi)) (aV ?_))))|(refine rg 3 (mW rfl (vV (bA rfl rfl) ?_)))|(refine rg 6 (fF rfl (vV (by exact gB jK rfl rfl rfl (by decide) (by omega) (by omega) e2) ?_));refine vV (kC (hA)) (mW rfl (xW rfl (xW rfl (oC ?_)))))|(refine eZ (id := 7) 64 YZ (rM 36 15) ZA fK rfl (by decide +kernel) (dN rfl (dV rfl (Q4 rfl rfl) (dN rfl (tG rfl (tG rfl (tG rfl (tG rfl (tG rfl (dG ?_)))))))));refine dV rfl (lY rfl rfl) (dN rfl (tG rfl (tG rfl (tG rfl (dV rfl (lY rfl rfl) (dE ?_)))))))|(refine rg 8 (mW rfl (cQ [0] rfl rfl hf rfl rfl (by decide) ⟨.inr rfl,trivial⟩ (by simp) rfl ?_)))|(refine rg 9 (aV ?_))|refine nZ ?_));all_goals first | (exfalso;omega) | exact ⟨.inl rfl,[0],_,rfl,rfl,rfl,⟨.inr rfl,trivial⟩,by decide,zF⟩
    · skip;have hA := CE (l := s) (fun n => by rw [ha];exact fun h => by cases h) hsl
      (repeat' (first|refine wS ?_|refine wK ?_|refine wR ?_|refine wT ?_|(refine wC rfl ?_ ?_<;>(intro hb;(try simp only [nm] at hb);try (exfalso;omega)))|(refine rg 0 (aV ?_))|(refine eZ (id := 1) 64 YX (rM 11 11) YY fK rfl (by decide +kernel) (dN rfl (dV rfl (by exact dQ rfl rfl) ?_));refine dP T rfl (dO T rfl (dN rfl (dV rfl (by exact dQ rfl rfl) ?_)));refine dP T rfl (dO T rfl (dV rfl (nB jK rfl) (dV rfl (rV rfl rfl) (dV rfl (by exact gB jK rfl rfl rfl (by decide) (by omega) (by omega) e1) ?_))));refine dE ?_;refine aV ?_)|(refine rg 2 (fF rfl (vV (kC (hi)) (aV ?_))))|(refine rg 3 (mW rfl (vV (bA rfl rfl) ?_)))|(refine rg 6 (fF rfl (vV (by exact gB jK rfl rfl rfl (by decide) (by omega) (by omega) e2) ?_));refine vV (kC (hA)) (mW rfl (xW rfl (xW rfl (oC ?_)))))|(refine eZ (id := 7) 64 YZ (rM 36 15) ZA fK rfl (by decide +kernel) (dN rfl (dV rfl (Q4 rfl rfl) (dN rfl (tG rfl (tG rfl (tG rfl (tG rfl (tG rfl (dG ?_)))))))));refine dV rfl (lY rfl rfl) (dN rfl (tG rfl (tG rfl (tG rfl (dV rfl (lY rfl rfl) (dE ?_)))))))|(refine rg 8 (mW rfl (cQ [0] rfl rfl hf rfl rfl (by decide) ⟨.inr rfl,trivial⟩ (by simp) rfl ?_)))|(refine rg 9 (aV ?_))|refine nZ ?_));all_goals first | (exfalso;omega) | exact ⟨.inl rfl,[0],_,rfl,rfl,rfl,⟨.inr rfl,trivial⟩,by decide,zF⟩
theorem HM (r r' : List UInt8) (b : Bool) (e : UInt8) (lo n : Int) (hl : r.length ≤ 1000000000) (h : tK r e lo = some (n,r')) :
    bN Tryz.prog 113 [.ptr 0 0,.v (.int .u8 e.toNat),.i lo] [.cells [.s r,.b b]] (.i n) [.cells [.s r',.b b]] := by
  have hi := RI (r.take 21) e;have e1 : ((r.take (min (r.length : Int) 21).toNat).drop (0 : Int).toNat) = r.take 21 := by
    rw [CO,dI];by_cases h21 : r.length ≤ 21
    · rw [aX (by omega),aX h21]
    · rw [show (min (r.length : Int) 21).toNat = 21 by omega]
  unfold tK at h;by_cases h0 : Lib.indexByte (r.take 21) e < 0
  · rw [if_pos h0] at h;cases h
  rw [if_neg h0] at h;obtain ⟨k1,k2⟩ := H0 (IY.1 h0);have e2 : (((r.take 21).take (Lib.indexByte (r.take 21) e).toNat).drop (0 : Int).toNat) = r.take (Lib.indexByte (r.take 21) e).toNat := by
    rw [CO,dI,WN,R7 (by omega)]
  have e3 : (r.take ((r.length : Int)).toNat).drop (Lib.indexByte (r.take 21) e + 1).toNat = r.drop ((Lib.indexByte (r.take 21) e).toNat + 1) := by
    rw [bK,dY,show (Lib.indexByte (r.take 21) e + 1).toNat = (Lib.indexByte (r.take 21) e).toNat + 1 by omega]
  have hk : (Lib.indexByte (r.take 21) e).toNat ≤ (r.take 21).length := by rw [bU];omega
  have hsl : (r.take (Lib.indexByte (r.take 21) e).toNat).length ≤ 1000000 := by rw [bU];omega
  generalize Lib.indexByte (r.take 21) e = at_ at *;generalize r.take at_.toNat = s at *;rcases ha : Lib.atoiAll s with n' | _ | _
  · skip;rw [ha] at h;dsimp only at h;split at h
    · rename_i hc;simp only [Option.some.injEq,Prod.mk.injEq] at h;obtain ⟨rfl,rfl⟩ := h;have hA := GH ha hsl;have hb := Lib.atoiAll_bounds ha;have hI := EB (n := n') ⟨hb.1,hb.2⟩;obtain ⟨hc,hlo⟩ := hc;generalize r.drop (at_.toNat + 1) = r' at *;refine dC T Tryz.func113 rfl rfl rfl rfl ?_
      (repeat' (first|refine wS ?_|refine wK ?_|refine wR ?_|(refine wC rfl ?_ ?_<;>(intro hb;(try simp only [nm] at hb);try (exfalso;omega)))|(refine rg 0 (aV ?_))|(refine eZ (id := 1) 64 YX (rM 11 11) YY fK rfl (by decide +kernel) (dN rfl (dV rfl (by exact dQ rfl rfl) ?_));refine dP T rfl (dO T rfl (dN rfl (dV rfl (by exact dQ rfl rfl) ?_)));refine dP T rfl (dO T rfl (dV rfl (nB jK rfl) (dV rfl (rV rfl rfl) (dV rfl (by exact gB jK rfl rfl rfl (by decide) (by omega) (by omega) e1) ?_))));refine dE ?_;refine aV ?_)|(refine rg 2 (fF rfl (vV (kC (hi)) (aV ?_))))|(refine rg 3 (mW rfl (vV (bA rfl rfl) ?_)))|(refine rg 6 (fF rfl (vV (by exact gB jK rfl rfl rfl (by decide) (by omega) (by omega) e2) ?_));refine vV (kC (hA)) (mW rfl (xW rfl (xW rfl (oC ?_)))))|(refine eZ (id := 7) 64 YZ (rM 36 15) ZA fK rfl (by decide +kernel) (dN rfl (dV rfl (vW rfl) (dN rfl (tN rfl (dT rfl (kC (hI)) (tN rfl (tN rfl (dT rfl (by exact gB jK rfl rfl rfl (by decide) (by omega) (by omega) e2) ?_))))))));refine dT rfl (H7 rfl rfl hc) (dV rfl (lZ rfl rfl) (dN rfl (tN rfl (tN rfl (dT rfl (bA rfl rfl) (dV rfl (lZ rfl rfl) (dE ?_))))))))|(refine rg 10 (fF rfl (nV ?_));refine jH T rfl (mW rfl (vV (dS rfl rfl (by omega) (by omega)) (vV (by exact gB jK rfl rfl rfl (by omega) (by omega) (by omega) e3) ?_)));refine nV ?_;refine fW T rfl (bE T rfl rfl rfl rfl rfl rfl (by decide) rfl ?_))|(refine rg 11 (mW rfl (aV ?_)))|refine nZ ?_));all_goals first | (exfalso;omega) | exact ⟨.inl rfl,[0],_,rfl,rfl,rfl,⟨.inr rfl,trivial⟩,by decide,zF⟩
    · cases h
  · rw [ha] at h;cases h
  · rw [ha] at h;cases h
theorem AQ (s : St) (e : UInt8) (lo : Int) (hl : (s.getD []).length ≤ 1000000000) :
    bN Tryz.prog 113 [.ptr 0 0,.v (.int .u8 e.toNat),.i lo] (FG s) (.i (jE s e lo).1) (FG (jE s e lo).2) := by
  cases s with
  | none => rw [O9];exact O8 [] true e lo hl (AS e lo)
  | some r =>
    cases hp : tK r e lo with
    | none => rw [P0 hp];exact O8 r false e lo hl hp
    | some p => rw [uQ hp];exact HM r p.2 false e lo p.1 hl hp
theorem BB (s : St) (hl : (s.getD []).length ≤ 1000000000) : bN Tryz.prog 114 [.ptr 0 0] (FG s) (.i (dB s).1) (FG (dB s).2) := by
  have hc := AQ s 59 (-9223372036854775808) hl;refine dC T Tryz.func114 rfl rfl rfl rfl ?_
  (repeat' (first|refine wS ?_|refine wR ?_|(refine rg 0 (aV ?_))|(refine rg 1 (mW rfl (cQ [0] rfl rfl hc rfl rfl (by decide) ⟨.inr rfl,trivial⟩ (by simp) rfl ?_));refine aV ?_)|refine nZ ?_));all_goals exact ⟨.inl rfl,[0],_,rfl,rfl,rfl,⟨.inr rfl,trivial⟩,by decide,zF⟩
theorem TQ (s : St) : bN Tryz.prog 85 [.ptr 0 0] (FG s) (.b (decide (s = some []))) (FG s) := by
  refine dC T Tryz.func85 rfl rfl rfl rfl ?_
  match s with
  | none =>
    (repeat' (first|refine wS ?_|refine wR ?_|(refine rg 0 (aV ?_))|(refine rg 1 (mW rfl (nV ?_));refine jH T rfl (vV (eI rfl) (mV ?_));(iterate 5 refine gF ?_);refine pW rfl (aV ?_))|refine nZ ?_));all_goals exact ⟨.inl rfl,[0],_,rfl,rfl,rfl,⟨.inr rfl,trivial⟩,by decide,zF⟩
  | some r =>
    rw [show decide ((some r : St) = some []) = decide (r = []) from by simp]
    (repeat' (first|refine wS ?_|refine wR ?_|(refine rg 0 (aV ?_))|(refine rg 1 (mW rfl (nV ?_));refine jH T rfl (vV (eI rfl) (mW rfl (yN rfl (gT (nV ?_)))));refine yP T rfl (yO T rfl (yV (QB (a := r) (b := []) rfl rfl) (pW rfl (aV ?_)))))|refine nZ ?_));all_goals exact ⟨.inl rfl,[0],_,rfl,rfl,rfl,⟨.inr rfl,trivial⟩,by decide,zF⟩
theorem LS (r : List UInt8) : (dB (some r)).2 = none ∨ ∃ r',(dB (some r)).2 = some r' ∧ r'.length + 2 ≤ r.length := by
  cases h : (dB (some r)).2 with
  | none => exact .inl rfl
  | some r' =>
    obtain ⟨r0,e,_,h3⟩ := AR h;cases e;exact .inr ⟨r',rfl,h3⟩
theorem T9 (s : St) (e : UInt8) : 0 ≤ (jE s e 0).1 := by
  unfold jE;split
  · rename_i n r h;have := (zB h).2.1;split <;> simp <;> omega
  · simp
theorem KV (s : St) (hl : (s.getD []).length ≤ 1000000000) : bN Tryz.prog 82 [.ptr 0 0] (FG s) (.i (jE s 59 0).1) (FG (jE s 59 0).2) := by
  have hc := AQ s 59 0 hl;refine dC T Tryz.func82 rfl rfl rfl rfl ?_
  (repeat' (first|refine wS ?_|refine wR ?_|(refine rg 0 (aV ?_))|(refine rg 1 (mW rfl (cQ [0] rfl rfl hc rfl rfl (by decide) ⟨.inr rfl,trivial⟩ (by simp) rfl ?_));refine aV ?_)|refine nZ ?_));all_goals exact ⟨.inl rfl,[0],_,rfl,rfl,rfl,⟨.inr rfl,trivial⟩,by decide,zF⟩
theorem DZ (s : St) : bN Tryz.prog 83 [.ptr 0 0] (FG s) (.i (s.getD []).length) (FG s) := by
  refine dC T Tryz.func83 rfl rfl rfl rfl ?_
  (repeat' (first|refine wS ?_|refine wR ?_|(refine rg 0 (aV ?_))|(refine rg 1 (mW rfl (nV ?_));refine jH T rfl (vV (nB jK rfl) (aV ?_)))|refine nZ ?_));all_goals exact ⟨.inl rfl,[0],_,rfl,rfl,rfl,⟨.inr rfl,trivial⟩,by decide,zF⟩
theorem pF {n : Int} (h : sY n) (r : List UInt8) : dB (some (eU n ++ r)) = (n,some r) := by
  unfold dB eU;rw [bF,sO];exact uQ (FM h h.1 (by decide))
theorem G3 {n : Int} (h : sY n) (h0 : 0 ≤ n) (r : List UInt8) : jE (some (eU n ++ r)) 59 0 = (n,some r) := by
  unfold eU;rw [bF,sO];exact uQ (FM h h0 (by decide))
end Go.Proofs.YtdiogjgohbbllaaGreatDoor
namespace Go.Or
open Go Go.Ab Go.Wr Go.Proofs.YtdiogjgohbbllaaGreatDoor
def JD (w : Wt) : List UInt8 := eU w.1 ++ eU w.2.1 ++ eU w.2.2
def rH (l : List Wt) : List UInt8 := (l.map JD).flatten
def OC (t : Tk) : List UInt8 := eU t.1 ++ eU t.2
def rK (l : List Tk) : List UInt8 := (l.map OC).flatten
def JB (l : List Tk) : List UInt8 := eU l.length ++ rK l
def kY (tk : List (List Tk)) : List UInt8 := (tk.map JB).flatten
def RJ (o : Od) : List UInt8 := eU o.ws.length ++ rH o.ws
def Y7 (o : Od) : List UInt8 := RJ o ++ (eU o.due ++ eU o.st) ++ kY o.tk
def vR (bk : Bk) : List UInt8 := (bk.map Y7).flatten
def pL (bk : Bk) : List UInt8 := eU bk.length ++ vR bk
theorem rT {α : Type} (f : α → List UInt8) {l : List α} {k : Nat} (h : k < l.length) : ((l.take (k + 1)).map f).flatten = ((l.take k).map f).flatten ++ f l[k] := by
  rw [aY h,cO,gQ];simp
theorem xF {α : Type} (f : α → List UInt8) {l : List α} {k : Nat} : ((l.take k).map f).flatten.length ≤ (l.map f).flatten.length := by
  conv => rhs;rw [← bX k l,cO,gQ,aC]
  omega
structure WS (o : Od) : Prop where
  ws : ∀ w,w ∈ o.ws → sY w.1 ∧ sY w.2.1 ∧ sY w.2.2
  wl : o.ws.length ≤ 1000000
  due : sY o.due
  st : sY o.st
  tl : o.tk.length ≤ 1000000
  ll : ∀ l,l ∈ o.tk → l.length ≤ 1000000
  tk : ∀ l,l ∈ o.tk → ∀ t,t ∈ l → sY t.1 ∧ sY t.2
theorem xK (n : Int) : 0 < (eU n).length := by simp [eU]
theorem MU (bk : Bk) : pL bk ≠ [] := fun h => by
  have := xK bk.length;have h2 := congrArg List.length h;unfold pL at h2;rw [aC,List.length_nil] at h2;omega
abbrev ER (l : List UInt8) : Hp := [.cells [.ptr 0 0,.sl 1 0 l.length 1],.buf 5 l]
end Go.Or
namespace Go.Proofs.YtdiogjgohbbllaaGreatDoor
open Go Go.Ab Go.Or Go.Wr
attribute [local irreducible] VC AW bR bN eS
set_option maxHeartbeats 4000000
theorem CV {n : Int} (h : sY n) (h0 : 0 ≤ n) : bN Tryz.prog 75 [.i n] [] (.s (eU n)) [] := by
  have hc := tA h;refine dC T Tryz.func75 rfl rfl rfl rfl ?_
  (repeat' (first|refine wS ?_|refine wK ?_|refine wR ?_|(refine wC rfl ?_ ?_<;>(intro hb;(try simp only [nm] at hb);try (exfalso;omega)))|(refine rg 0 (aV ?_))|(refine rg 1 (mW rfl (vV (bA rfl rfl) ?_)))|(refine rg 3 (mW rfl (vV (kC (hc)) (aV ?_))))|refine nZ ?_));all_goals first | (exfalso;omega) | exact rQ
theorem GB (bk : Bk) (hl : bk.length ≤ 1000000) (hI : ∀ o,o ∈ bk → WS o) (hL : (pL bk).length ≤ 90000000000) :
    bN Tryz.prog 32 [FI bk] [] (.s (pL bk)) [] := by
  have hbl := mI bk;have c0 : bN Tryz.prog 75 [.i (uB bk).length] [] (.s (eU bk.length)) [] := by rw [hbl];exact CV ⟨by omega,by omega⟩ (by omega)
  have i0 := lA (n := (bk.length : Int)) ⟨by omega,by omega⟩
  refine dC T Tryz.func32 rfl rfl rfl rfl ?_
  (repeat' (first|refine wS ?_|refine wB ?_|(refine rg 0 (aV ?_))|(refine rg 1 (cY (HY T rfl rfl) rfl ?_))|(refine rg 2 (mW rfl (nV ?_));refine jH T rfl (qW T rfl (vV (kC (c0)) (cQ [0] rfl rfl (JE _ (by omega)) rfl rfl (by decide) ⟨.inr rfl,trivial⟩ (by simp) rfl ?_))))|(refine rg 3 (mW rfl (nV ?_));refine jH T rfl (qW T rfl (mV ?_)))|refine nZ ?_));have h00 : eU bk.length ++ vR (bk.take 0) = eU bk.length := by simp [vR]
  refine eX (X := {k : Nat // k ≤ bk.length}) (fun k => [(3,.ptr 0 0),(22,.rowE (uB bk) 4),(23,.i (uB bk).length),(24,.i k.1)]) (fun k => ER (eU bk.length ++ vR (bk.take k.1))) (fun k => bk.length - k.1) ⟨0,bM _⟩ ⟨[0,1],rfl,by (repeat (first | exact trivial | refine ⟨rfl,?_⟩)),⟨.inr (by dsimp only;rw [h00];rfl),.inr (by dsimp only;rw [h00];rfl),trivial⟩,by decide,nP _⟩ ?_
  rintro ⟨k,hk⟩;dsimp only;by_cases hlt : k < bk.length
  · have hg := D7 hlt;have ho := hI _ (aI hlt);have hN : eU bk.length ++ vR (bk.take (k + 1)) = (eU bk.length ++ vR (bk.take k)) ++ Y7 bk[k] := by rw [bF];exact congrArg _ (rT Y7 hlt)
    have hLk : ((eU bk.length ++ vR (bk.take k)) ++ Y7 bk[k]).length ≤ 90000000000 := by
      rw [← hN];refine cC ?_ hL;unfold pL vR;rw [aC,aC];exact Nat.add_le_add_left (xF Y7) _
    generalize bk[k] = o at *;generalize eU bk.length ++ vR (bk.take k) = A at *;have hwll := ho.wl;have htll := ho.tl;have hwl := gV o.ws;have htl := nK o.tk;have c1 : bN Tryz.prog 75 [.i (bZ o.ws).length] [] (.s (eU o.ws.length)) [] := by rw [hwl];exact CV ⟨by omega,by have := ho.wl;omega⟩ (by omega)
    have hLo : A.length + (eU o.ws.length).length + (rH o.ws).length + (eU o.due ++ eU o.st).length + (kY o.tk).length ≤ 90000000000 := by
      unfold Y7 RJ at hLk;simp only [aC] at hLk ⊢;omega
    (repeat' (first|refine wS ?_|refine wB ?_|refine wK ?_|(refine wC rfl ?_ ?_<;>(intro hb;(try simp only [nm] at hb);try (exfalso;omega)))|(refine rg 4 (vV (bA rfl rfl) ?_))|(refine rg 5 (vV (ix T rfl (by omega) (uV bk) hg) (lW T rfl (cY (cS T rfl) rfl (bE T rfl rfl rfl rfl rfl rfl (by decide) rfl ?_)))))|refine nZ ?_));all_goals try (exfalso;omega)
    refine gP 5 (cs := CU o) rfl rfl rfl ?_
    (repeat' (first|refine wS ?_|(refine rg 6 (fW T rfl (jH T rfl (qW T rfl (vV (kC (c1)) (cQ [0,1] rfl rfl (wM A (eU o.ws.length) (by omega)) rfl rfl (by decide) ⟨.inr rfl,.inr rfl,trivial⟩ (by simp) rfl ?_))))))|refine nZ ?_));all_goals try (exfalso;omega)
    refine oP [(3,.ptr 0 0),(22,.rowE (uB bk) 4),(23,.i (uB bk).length),(24,.i k),(5,.pr (CU o) 0)] (ER (A ++ eU o.ws.length)) ⟨[0,3],rfl,(by repeat first|exact trivial|refine ⟨rfl,?_⟩),⟨.inr (by rw [@aC _ A _];rfl),.inr rfl,trivial⟩,by decide,nP _⟩ ?_
    have hB1 : (A ++ eU o.ws.length).length + (rH o.ws).length + (eU o.due ++ eU o.st).length + (kY o.tk).length ≤ 90000000000 := by rw [aC];exact hLo
    have hN1 : A ++ Y7 o = A ++ eU o.ws.length ++ rH o.ws ++ (eU o.due ++ eU o.st) ++ kY o.tk := by unfold Y7 RJ;simp only [bF]
    rw [hN1] at hN;clear hN1 hLo hLk c1;generalize A ++ eU o.ws.length = B at *
    (repeat' (first|refine wB ?_|(refine rg 7 (fW T rfl (jH T rfl (qW T rfl (mV ?_)))))|refine nZ ?_));refine eX (X := {j : Nat // j ≤ o.ws.length}) (fun j => [(3,.ptr 0 0),(22,.rowE (uB bk) 4),(23,.i (uB bk).length),(24,.i k),(5,.pr (CU o) 0),(36,.rowE (bZ o.ws) 3),(37,.i (bZ o.ws).length),(38,.i j.1)]) (fun j => ER (B ++ rH (o.ws.take j.1))) (fun j => o.ws.length - j.1) ⟨0,bM _⟩ ⟨[0,1],rfl,(by repeat first|exact trivial|refine ⟨rfl,?_⟩),⟨.inr (by dsimp only;rw [show B ++ rH (o.ws.take 0) = B from List.append_nil B];rfl),.inr (by dsimp only;rw [show B ++ rH (o.ws.take 0) = B from List.append_nil B];rfl),trivial⟩,by decide,nP _⟩ ?_
    rintro ⟨j,hj⟩;dsimp only;by_cases hjl : j < o.ws.length
    · have hgw : (bZ o.ws)[((j : Nat) : Int).toNat]? = some [AV.i o.ws[j].1,AV.i o.ws[j].2.1,AV.i o.ws[j].2.2] := by simp [hjl]
      have hw := ho.ws _ (aI hjl);have hts : B ++ rH (o.ws.take (j + 1)) = B ++ rH (o.ws.take j) ++ JD o.ws[j] := by rw [bF];exact congrArg _ (rT JD hjl)
      have hle : (B ++ rH (o.ws.take (j + 1))).length ≤ 90000000000 := by
        have := xF JD (l := o.ws) (k := j + 1);rw [aC];show B.length + ((o.ws.take (j + 1)).map JD).flatten.length ≤ _;have e : (rH o.ws).length = (o.ws.map JD).flatten.length := rfl;omega
      rw [hts] at hle;generalize o.ws[j] = w at *;obtain ⟨wk,wc,wu⟩ := w;dsimp only at hgw hw;rw [show JD (wk,wc,wu) = eU wk ++ eU wc ++ eU wu from rfl] at hts hle
      have f1 := tA hw.1;have f2 := tA hw.2.1;have f3 := tA hw.2.2;generalize B ++ rH (o.ws.take j) = D at *;simp only [aC] at hle
      (repeat' (first|refine wS ?_|refine wB ?_|refine wK ?_|(refine wC rfl ?_ ?_<;>(intro hb;(try simp only [nm] at hb);try (exfalso;omega)))|(refine rg 8 (vV (bA rfl rfl) ?_))|(refine rg 9 (vV (ix T rfl (by omega) (vG _) hgw) (lW T rfl (cY (cS T rfl) rfl (bE T rfl rfl rfl rfl rfl rfl (by decide) rfl ?_)))))|refine nZ ?_));all_goals try (exfalso;omega)
      refine gP 7 (cs := [.i wk,.i wc,.i wu]) rfl rfl rfl ?_
      (repeat' (first|(refine uC (id := 10) 11 94 [[],[0],[0,1],[],[3],rN 5,rN 6,[],[7],[0,1,2,3,4,5,7,8],rN 10,rN 11] [[],[0],[0,1],[],[3],rN 5,rN 6,[],[7],[0,1,2,3,4,5,7,8],rN 10] (rM 42 11) [[],[],[],[42,43,44],[42,43,44],[],[],rM 42 7,rM 42 7,[48],[]] fK rfl (by decide +kernel) (by decide +kernel) ?_;(dsimp only [List.take,List.drop]);refine dP T rfl (dO T rfl (dV rfl (by exact cN rfl rfl f1 rfl rfl rfl) ?_));refine dP T rfl (dO T rfl (dV rfl (by exact cN rfl rfl f2 rfl rfl rfl) ?_));refine dV rfl (xL rfl rfl (by (try simp only [aC]);omega)) ?_;refine dP T rfl (dO T rfl (dV rfl (by exact cN rfl rfl f3 rfl rfl rfl) ?_));refine dV rfl (xL rfl rfl (by (try simp only [aC]);omega)) ?_;refine dE ?_;refine oY ?_;refine cQ [0,1] rfl rfl (wM D (eU wk ++ eU wc ++ eU wu) (by (try simp only [aC]);omega)) rfl rfl (by decide) ⟨.inr rfl,.inr rfl,trivial⟩ (by simp) rfl ?_)|(refine rg 11 (vV (dS rfl rfl (by omega) (by omega)) (mV ?_)))|refine nZ ?_));all_goals try (exfalso;omega)
      all_goals exact ⟨⟨j + 1,hjl⟩,by dsimp only;omega,⟨[0,3],rfl,(by repeat first|exact trivial|refine ⟨rfl,?_⟩),⟨.inr (by dsimp only;rw [hts,@aC _ D _];rfl),.inr (by dsimp only;rw [hts];rfl),trivial⟩,by decide,nP _⟩⟩
    · obtain rfl : j = o.ws.length := by omega
      rw [dY];have f1 := tA ho.due;have f2 := tA ho.st;have hB2 : (B ++ rH o.ws).length + (eU o.due ++ eU o.st).length + (kY o.tk).length ≤ 90000000000 := by rw [aC];exact hB1
      generalize B ++ rH o.ws = D at *
      (repeat' (first|refine wS ?_|refine wE ?_|(refine wC rfl ?_ ?_<;>(intro hb;(try simp only [nm] at hb);try (exfalso;omega)))|(refine rg 8 (vV (bA rfl rfl) ?_))|refine nZ ?_));all_goals try (exfalso;omega)
      (repeat' (first|refine wS ?_|(refine uC (id := 12) 9 94 [[],[0],[0,1],[0,1,2],[],[4],[4,5],rN 7,rN 8,rN 9] [[],[0],[0,1],[0,1,2],[],[4],[4,5],rN 7,rN 8] (rM 55 9) [[],[],[],[],rM 55 4,rM 55 4,rM 55 4,[],[]] fK rfl (by decide +kernel) (by decide +kernel) ?_;(dsimp only [List.take,List.drop]);refine dP T rfl (dP T rfl (dO T rfl (dV rfl (by exact cN rfl rfl f1 rfl rfl rfl) ?_)));refine dP T rfl (dP T rfl (dO T rfl (dV rfl (by exact cN rfl rfl f2 rfl rfl rfl) ?_)));refine dV rfl (xL rfl rfl (by (try simp only [aC] at hB2);omega)) ?_;refine dE ?_;refine oY ?_;refine cQ [0,1] rfl rfl (wM D (eU o.due ++ eU o.st) (by omega)) rfl rfl (by decide) ⟨.inr rfl,.inr rfl,trivial⟩ (by simp) rfl ?_)|refine nZ ?_));all_goals try (exfalso;omega)
      refine oP [(3,.ptr 0 0),(22,.rowE (uB bk) 4),(23,.i (uB bk).length),(24,.i k),(5,.pr (CU o) 0)] (ER (D ++ (eU o.due ++ eU o.st))) ⟨[0,2],rfl,(by repeat first|exact trivial|refine ⟨rfl,?_⟩),⟨.inr (by rw [@aC _ D _];rfl),.inr rfl,trivial⟩,by decide,nP _⟩ ?_
      have hB3 : (D ++ (eU o.due ++ eU o.st)).length + (kY o.tk).length ≤ 90000000000 := by rw [@aC _ D _];exact hB2
      clear hB2 hB1;generalize D ++ (eU o.due ++ eU o.st) = E at *
      (repeat' (first|refine wB ?_|(refine rg 13 (jH T rfl (qW T rfl (mV ?_))))|refine nZ ?_));refine eX (X := {i : Nat // i ≤ o.tk.length}) (fun i => [(3,.ptr 0 0),(22,.rowE (uB bk) 4),(23,.i (uB bk).length),(24,.i k),(66,pS o.tk),(67,.i (C8 o.tk).length),(68,.i i.1)]) (fun i => ER (E ++ kY (o.tk.take i.1))) (fun i => o.tk.length - i.1) ⟨0,bM _⟩ ⟨[0,1],rfl,(by repeat first|exact trivial|refine ⟨rfl,?_⟩),⟨.inr (by dsimp only;rw [show E ++ kY (o.tk.take 0) = E from List.append_nil E];rfl),.inr (by dsimp only;rw [show E ++ kY (o.tk.take 0) = E from List.append_nil E];rfl),trivial⟩,by decide,nP _⟩ ?_
      rintro ⟨i,hi⟩;dsimp only;by_cases hil : i < o.tk.length
      · have hg2 := C7 hil;have hm2 := aI hil;have hli := ho.ll _ hm2;have htI := ho.tk _ hm2;have hts : E ++ kY (o.tk.take (i + 1)) = E ++ kY (o.tk.take i) ++ JB o.tk[i] := by rw [bF];exact congrArg _ (rT JB hil)
        have hle : (E ++ kY (o.tk.take (i + 1))).length ≤ 90000000000 := by
          have := xF JB (l := o.tk) (k := i + 1);rw [aC];show E.length + ((o.tk.take (i + 1)).map JB).flatten.length ≤ _;have e : (kY o.tk).length = (o.tk.map JB).flatten.length := rfl;omega
        rw [hts] at hle;generalize o.tk[i] = l at *;have hll := oR l;generalize E ++ kY (o.tk.take i) = F at *;have g1 : bN Tryz.prog 75 [.i (eO l).length] [] (.s (eU l.length)) [] := by rw [hll];exact CV ⟨by omega,by omega⟩ (by omega)
        have hle2 : F.length + (eU l.length).length + (rK l).length ≤ 90000000000 := by
          unfold JB at hle;simp only [aC] at hle;omega
        (repeat' (first|refine wS ?_|refine wB ?_|refine wK ?_|(refine wC rfl ?_ ?_<;>(intro hb;(try simp only [nm] at hb);try (exfalso;omega)))|(refine rg 14 (vV (bA rfl rfl) ?_))|(refine rg 15 (vV (ix T rfl (by omega) (oL _) hg2) (lW T rfl (aV ?_))))|(refine rg 16 (mW rfl (qW T rfl (vV (kC (g1)) (cQ [0,1] rfl rfl (wM F (eU l.length) (by omega)) rfl rfl (by decide) ⟨.inr rfl,.inr rfl,trivial⟩ (by simp) rfl ?_)))))|refine nZ ?_));all_goals try (exfalso;omega)
        refine oP [(3,.ptr 0 0),(22,.rowE (uB bk) 4),(23,.i (uB bk).length),(24,.i k),(66,pS o.tk),(67,.i (C8 o.tk).length),(68,.i i),(9,.rowE (eO l) 2)] (ER (F ++ eU l.length)) ⟨[0,2],rfl,(by repeat first|exact trivial|refine ⟨rfl,?_⟩),⟨.inr (by rw [@aC _ F _];rfl),.inr rfl,trivial⟩,by decide,nP _⟩ ?_
        have hts2 : E ++ kY (o.tk.take (i + 1)) = F ++ eU l.length ++ rK l := by rw [hts];unfold JB;rw [bF]
        have hle3 : (F ++ eU l.length).length + (rK l).length ≤ 90000000000 := by rw [aC];exact hle2
        generalize F ++ eU l.length = G at *
        (repeat' (first|refine wB ?_|(refine rg 17 (mW rfl (qW T rfl (mV ?_))))|refine nZ ?_));refine eX (X := {j : Nat // j ≤ l.length}) (fun j => [(3,.ptr 0 0),(22,.rowE (uB bk) 4),(23,.i (uB bk).length),(24,.i k),(66,pS o.tk),(67,.i (C8 o.tk).length),(68,.i i),(76,.rowE (eO l) 2),(77,.i (eO l).length),(78,.i j.1)]) (fun j => ER (G ++ rK (l.take j.1))) (fun j => l.length - j.1) ⟨0,bM _⟩ ⟨[0,1],rfl,(by repeat first|exact trivial|refine ⟨rfl,?_⟩),⟨.inr (by dsimp only;rw [show G ++ rK (l.take 0) = G from List.append_nil G];rfl),.inr (by dsimp only;rw [show G ++ rK (l.take 0) = G from List.append_nil G];rfl),trivial⟩,by decide,nP _⟩ ?_
        rintro ⟨j,hj2⟩;dsimp only;by_cases hjl2 : j < l.length
        · have hgt := S6 hjl2;have ht := htI _ (aI hjl2);have hts3 : G ++ rK (l.take (j + 1)) = G ++ rK (l.take j) ++ OC l[j] := by rw [bF];exact congrArg _ (rT OC hjl2)
          have hle4 : (G ++ rK (l.take (j + 1))).length ≤ 90000000000 := by
            have := xF OC (l := l) (k := j + 1);rw [aC];show G.length + ((l.take (j + 1)).map OC).flatten.length ≤ _;have e : (rK l).length = (l.map OC).flatten.length := rfl;omega
          rw [hts3] at hle4;generalize l[j] = t at *;obtain ⟨t1,t2⟩ := t;dsimp only at hgt ht;rw [show OC (t1,t2) = eU t1 ++ eU t2 from rfl] at hts3 hle4
          have f1 := tA ht.1;have f2 := tA ht.2;generalize G ++ rK (l.take j) = D2 at *;simp only [aC] at hle4
          (repeat' (first|refine wS ?_|refine wB ?_|refine wK ?_|(refine wC rfl ?_ ?_<;>(intro hb;(try simp only [nm] at hb);try (exfalso;omega)))|(refine rg 18 (vV (bA rfl rfl) ?_))|(refine rg 19 (vV (ix T rfl (by omega) (vJ _) hgt) (lW T rfl (cY (cS T rfl) rfl (bE T rfl rfl rfl rfl rfl rfl (by decide) rfl ?_)))))|refine nZ ?_));all_goals try (exfalso;omega)
          refine gP 11 (cs := [.i t1,.i t2]) rfl rfl rfl ?_
          (repeat' (first|(refine uC (id := 20) 7 94 [[],[0],[0,1],[],[3],rN 5,rN 6,rN 7] [[],[0],[0,1],[],[3],rN 5,rN 6] (rM 82 7) [[],[],[],[82,83,84],[82,83,84],[],[]] fK rfl (by decide +kernel) (by decide +kernel) ?_;(dsimp only [List.take,List.drop]);refine dP T rfl (dO T rfl (dV rfl (by exact cN rfl rfl f1 rfl rfl rfl) ?_));refine dP T rfl (dO T rfl (dV rfl (by exact cN rfl rfl f2 rfl rfl rfl) ?_));refine dV rfl (xL rfl rfl (by omega)) (dE ?_);refine oY ?_;refine cQ [0,1] rfl rfl (wM D2 (eU t1 ++ eU t2) (by (try simp only [aC]);omega)) rfl rfl (by decide) ⟨.inr rfl,.inr rfl,trivial⟩ (by simp) rfl ?_)|(refine rg 21 (vV (dS rfl rfl (by omega) (by omega)) (mV ?_)))|refine nZ ?_));all_goals try (exfalso;omega)
          all_goals exact ⟨⟨j + 1,hjl2⟩,by dsimp only;omega,⟨[0,3],rfl,(by repeat first|exact trivial|refine ⟨rfl,?_⟩),⟨.inr (by dsimp only;rw [hts3,@aC _ D2 _];rfl),.inr (by dsimp only;rw [hts3];rfl),trivial⟩,by decide,nP _⟩⟩
        · obtain rfl : j = l.length := by omega
          rw [dY]
          (repeat' (first|refine wS ?_|refine wE ?_|(refine wC rfl ?_ ?_<;>(intro hb;(try simp only [nm] at hb);try (exfalso;omega)))|(refine rg 18 (vV (bA rfl rfl) ?_))|(refine rg 22 (vV (dS rfl rfl (by omega) (by omega)) (mV ?_)))|refine nZ ?_));all_goals try (exfalso;omega)
          all_goals exact ⟨⟨i + 1,hil⟩,by dsimp only;omega,⟨[0,1],rfl,(by repeat first|exact trivial|refine ⟨rfl,?_⟩),⟨.inr (by dsimp only;rw [hts2];rfl),.inr (by dsimp only;rw [hts2];rfl),trivial⟩,by decide,nP _⟩⟩
      · obtain rfl : i = o.tk.length := by omega
        rw [dY]
        (repeat' (first|refine wS ?_|refine wE ?_|(refine wC rfl ?_ ?_<;>(intro hb;(try simp only [nm] at hb);try (exfalso;omega)))|(refine rg 14 (vV (bA rfl rfl) ?_))|(refine rg 23 (vV (dS rfl rfl (by omega) (by omega)) (mV ?_)))|refine nZ ?_));all_goals try (exfalso;omega)
        all_goals exact ⟨⟨k + 1,hlt⟩,by dsimp only;omega,⟨[0,1],rfl,(by repeat first|exact trivial|refine ⟨rfl,?_⟩),⟨.inr (by dsimp only;rw [hN];rfl),.inr (by dsimp only;rw [hN];rfl),trivial⟩,by decide,nP _⟩⟩
  · obtain rfl : k = bk.length := by omega
    rw [dY];have hst := JQ (pL bk) (MU bk) (by omega)
    (repeat' (first|refine wS ?_|refine wR ?_|refine wE ?_|(refine wC rfl ?_ ?_<;>(intro hb;(try simp only [nm] at hb);try (exfalso;omega)))|(refine rg 4 (vV (bA rfl rfl) ?_))|(refine rg 24 (cQ [0,1] rfl rfl hst rfl rfl (by decide) ⟨.inr rfl,.inr rfl,trivial⟩ (by simp) rfl ?_);refine aV ?_)|refine nZ ?_));all_goals first | (exfalso;omega) | exact rQ
end Go.Proofs.YtdiogjgohbbllaaGreatDoor
namespace Go.Or
open Go Go.Ab Go.Wr Go.Proofs.YtdiogjgohbbllaaGreatDoor
def jN : Nat → St → List Wt × St
  | 0,s => ([],s)
  | k + 1,s => if (s.getD []).length = 0 then ([],s) else
      (((dB s).1,(dB (dB s).2).1,(dB (dB (dB s).2).2).1) :: (jN k (dB (dB (dB s).2).2).2).1,(jN k (dB (dB (dB s).2).2).2).2)
def CB (t : Tk) : Prop := t.1 < 0 ∨ 3000 ≤ t.1 ∨ t.2 < 1 ∨ 20000 < t.2
instance (t : Tk) : Decidable (CB t) := inferInstanceAs (Decidable (_ ∨ _ ∨ _ ∨ _))
def kV : Nat → St → Option (List Tk × St)
  | 0,s => some ([],s)
  | k + 1,s => if (s.getD []).length = 0 then some ([],s) else
      if CB ((dB s).1,(dB (dB s).2).1) then none else
      (kV k (dB (dB s).2).2).map fun x => (((dB s).1,(dB (dB s).2).1) :: x.1,x.2)
def kD : List Wt → St → Option (List (List Tk) × St)
  | [],s => some ([],s)
  | w :: ws,s => (kV (jE s 59 0).1.toNat (jE s 59 0).2).bind fun x => if w.2.1 < iN x.1 then none else (kD ws x.2).map fun y => (x.1 :: y.1,y.2)
def kN (s : St) : List Wt × St := jN (jE s 59 0).1.toNat (jE s 59 0).2
def kW (s : St) : Option (Od × St) :=
  if kL (kN s).1 (dB (kN s).2).1 = false ∨ (dB (dB (kN s).2).2).1 < 0 ∨ 5 ≤ (dB (dB (kN s).2).2).1 then none else
  if (dB (dB (kN s).2).2).1 ≠ 1 then some (⟨(kN s).1,(dB (kN s).2).1,(dB (dB (kN s).2).2).1,[]⟩,(dB (dB (kN s).2).2).2) else
  (kD (kN s).1 (dB (dB (kN s).2).2).2).bind fun x => if x.1.all (·.isEmpty) then none else some (⟨(kN s).1,(dB (kN s).2).1,1,x.1⟩,x.2)
def mT : Nat → St → Bk → Option (Bk × St)
  | 0,s,L => some (L,s)
  | k + 1,s,L => if (s.getD []).length = 0 then some (L,s) else
      (kW s).bind fun x => if 1000 ≤ L.length then none else mT k x.2 (L ++ [x.1])
def O5 (l : List UInt8) : Option Bk :=
  (mT (jE (some l) 59 0).1.toNat (jE (some l) 59 0).2 []).bind fun x => if x.2 = some [] ∧ pL x.1 = l then some x.1 else none
theorem nQ {l : List UInt8} : ((some l : St).getD []).length = l.length := rfl
theorem N6 : ∀ (ws : List Wt) (r : List UInt8), (∀ w, w ∈ ws → sY w.1 ∧ sY w.2.1 ∧ sY w.2.2) → jN ws.length (some (rH ws ++ r)) = (ws, some r)
  | [],r,_ => rfl
  | w :: ws,r,h => by
    obtain ⟨h1,h2,h3⟩ := h w aN;have e : rH (w :: ws) ++ r = eU w.1 ++ (eU w.2.1 ++ (eU w.2.2 ++ (rH ws ++ r))) := by simp [rH,JD]
    have h0 := xK w.1;rw [e,List.length_cons,jN,if_neg (by rw [nQ,aC];omega),pF h1,pF h2,pF h3,N6 ws r fun w hw => h w (aE _ hw)]
theorem T8 {t : Tk} (h : CS t) : sY t.1 ∧ sY t.2 := by
  obtain ⟨h1,h2,h3,h4⟩ := h;exact ⟨⟨by omega,by omega⟩,⟨by omega,by omega⟩⟩
theorem N9 : ∀ (l : List Tk) (r : List UInt8), (∀ t, t ∈ l → CS t) → kV l.length (some (rK l ++ r)) = some (l, some r)
  | [],r,_ => rfl
  | t :: l,r,h => by
    have ht := h t aN;have e : rK (t :: l) ++ r = eU t.1 ++ (eU t.2 ++ (rK l ++ r)) := by simp [rK,OC]
    have h0 := xK t.1;rw [e,List.length_cons,kV,if_neg (by rw [nQ,aC];omega),pF (T8 ht).1,pF (T8 ht).2,if_neg,N9 l r fun t hw => h t (aE _ hw)]
    · rfl
    · obtain ⟨h1,h2,h3,h4⟩ := ht;unfold CB;dsimp only;omega
theorem O3 : ∀ (ws : List Wt) (tk : List (List Tk)) (r : List UInt8), tk.length = ws.length → (∀ l, l ∈ tk → l.length ≤ 1000000 ∧ ∀ t, t ∈ l → CS t) → (∀ (i : Nat) (w : Wt) (l : List Tk), ws[i]? = some w → tk[i]? = some l → iN l ≤ w.2.1) → kD ws (some (kY tk ++ r)) = some (tk, some r)
  | [],[],r,_,_,_ => rfl
  | [],_ :: _,_,h,_,_ => by cases h
  | _ :: _,[],_,h,_,_ => by cases h
  | w :: ws,l :: tk,r,hl,h,hs => by
    have h1 := h l aN;have e : kY (l :: tk) ++ r = eU l.length ++ (rK l ++ (kY tk ++ r)) := by simp [kY,JB]
    have hn := G3 (n := (l.length : Int)) ⟨by omega,by omega⟩ (by omega) (rK l ++ (kY tk ++ r))
    have h2 := hs 0 w l rfl rfl;have ih := O3 ws tk r (by simpa using hl) (fun l hl => h l (aE _ hl)) fun i w l h1 h2 => hs (i + 1) w l h1 h2
    rw [e,kD,hn];dsimp only;rw [bK,N9 l _ h1.2];dsimp only [Option.bind_some];rw [if_neg (by omega),ih];rfl
theorem pA {ws : List Wt} {due : Int} (h : kL ws due = true) : (1 ≤ ws.length ∧ ws.length ≤ 20) ∧ (0 ≤ due ∧ due ≤ 20000) ∧ ∀ w,w ∈ ws → 0 ≤ w.1 ∧ (1 ≤ w.2.1 ∧ w.2.1 ≤ 20000) ∧ (0 ≤ w.2.2 ∧ w.2.2 ≤ 20000) := by
  unfold kL at h;simp only [aM,OA,gH,decide_eq_false_iff_not,nI] at h;obtain ⟨⟨h1,h2,h3,h4⟩,h5⟩ := h;refine ⟨⟨by omega,by omega⟩,⟨by omega,by omega⟩,fun w hw => ?_⟩
  have := h5 w hw;unfold sA at this;simp only [nE,decide_eq_true_eq,not_or] at this;omega
def NV (bk : Bk) : Prop := ∀ o,o ∈ bk → ∀ w,w ∈ o.ws → sY w.1
theorem Z7 : ∀ {l : List Tk}, (∀ t, t ∈ l → CS t) → (l.length : Int) ≤ iN l
  | [],_ => by decide
  | t :: l,h => by
    have := Z7 fun t ht => h t (aE _ ht);have h1 := (h t aN).2.2.1;unfold iN at this ⊢;rw [List.map_cons,jL,List.length_cons];omega
theorem nN.few {o : Od} (h : nN o) : o.tk.length ≤ 20 ∧ ∀ l,l ∈ o.tk → l.length ≤ 20000 := by
  have hr := pA h.ws;by_cases h1 : o.st = 1
  · have hl := h.len h1;refine ⟨by omega,fun l hlm => ?_⟩
    obtain ⟨i,hi⟩ := bT.1 hlm;have hil := (aA.1 hi).1;have hs := h.sum i _ l (aB (by omega : i < o.ws.length)) hi
    have h2 := hr.2.2 _ (aI (by omega : i < o.ws.length))
    have h3 := Z7 (h.ok l hlm);omega
  · rw [h.tk0 h1];exact ⟨by simp,fun l hl => nomatch hl⟩
theorem nN.odI {o : Od} (h : nN o) (hk : ∀ w,w ∈ o.ws → sY w.1) : WS o := by
  have hr := pA h.ws;have hf := h.few;have h0 := h.st0;have h4 := h.st4;refine ⟨fun w hw => ?_,by omega,⟨by omega,by omega⟩,⟨by omega,by omega⟩,by omega,fun l hl => by have := hf.2 l hl;omega,fun l hl t ht => T8 (h.ok l hl t ht)⟩
  have := hr.2.2 w hw;exact ⟨hk w hw,⟨by omega,by omega⟩,⟨by omega,by omega⟩⟩
theorem LW {o : Od} (h : WS o) (r : List UInt8) : kN (some (RJ o ++ r)) = (o.ws,some r) := by
  have hl := h.wl;unfold kN RJ;rw [bF,G3 ⟨by omega,by omega⟩ (by omega)]
  dsimp only;rw [bK,N6 o.ws r h.ws]
theorem R5 {tk : List (List Tk)} : tk.all (·.isEmpty) = true ↔ tk.flatten = [] := by
  rw [aT,J8];exact ⟨fun h l hl => by simpa using h l hl,fun h l hl => by simpa using h l hl⟩
theorem HF {o : Od} (h : nN o) (hk : ∀ w,w ∈ o.ws → sY w.1) (r : List UInt8) : kW (some (Y7 o ++ r)) = some (o,some r) := by
  have hI := h.odI hk;have h0 := h.st0;have h4 := h.st4;have e : Y7 o ++ r = RJ o ++ (eU o.due ++ (eU o.st ++ (kY o.tk ++ r))) := by simp [Y7]
  unfold kW;rw [e,LW hI];dsimp only;rw [pF hI.due];dsimp only;rw [pF hI.st];dsimp only;rw [if_neg (by rw [h.ws];simp;omega)]
  by_cases h1 : o.st = 1
  · rw [if_neg (by omega),O3 o.ws o.tk r (h.len h1) (fun l hl => ⟨by have := h.few.2 l hl;omega,h.ok l hl⟩) h.sum]
    dsimp only [Option.bind_some];rw [if_neg (fun hh => h.ne h1 (R5.1 hh))];obtain ⟨ws,due,st,tk⟩ := o;dsimp only at h1;subst h1;rfl
  · have ht := h.tk0 h1;rw [if_pos h1,ht];obtain ⟨ws,due,st,tk⟩ := o;dsimp only at ht;subst ht;simp [kY]
theorem PJ (o : Od) : 0 < (Y7 o).length := by
  have := xK o.ws.length;unfold Y7 RJ;simp only [aC];omega
theorem O6 : ∀ (bk L : Bk), (∀ o, o ∈ bk → nN o ∧ ∀ w, w ∈ o.ws → sY w.1) → L.length + bk.length ≤ 1000 → mT bk.length (some (vR bk)) L = some (L ++ bk, some [])
  | [],L,_,_ => by rw [List.append_nil];rfl
  | o :: bk,L,h,hl => by
    have ho := h o aN;have e : vR (o :: bk) = Y7 o ++ vR bk := by simp [vR]
    have h0 := PJ o;rw [List.length_cons] at hl;rw [e,List.length_cons,mT,if_neg (by rw [nQ,aC];omega),HF ho.1 ho.2]
    dsimp only [Option.bind_some];rw [if_neg (by omega),O6 bk (L ++ [o]) (fun o ho => h o (aE _ ho)) (by rw [aC,cK];omega),bF];rfl
theorem KG {bk : Bk} (h : nF bk) (hk : NV bk) : O5 (pL bk) = some bk := by
  have hl := h.le;unfold O5
  conv => lhs;arg 1;rw [show pL bk = eU bk.length ++ vR bk from rfl]
  rw [G3 ⟨by omega,by omega⟩ (by omega)]
  dsimp only;rw [bK,O6 bk [] (fun o ho => ⟨h.od o ho,hk o ho⟩) (by simpa using hl),List.nil_append]
  dsimp only [Option.bind_some];rw [if_pos ⟨rfl,rfl⟩]
theorem N8 : ∀ (k : Nat) (s : St) {l : List Tk} {s' : St}, kV k s = some (l, s') → ∀ t, t ∈ l → CS t
  | 0,s,l,s',h => by cases h;exact fun t ht => nomatch ht
  | k + 1,s,l,s',h => by
    rw [kV] at h;split at h
    · cases h;exact fun t ht => nomatch ht
    · split at h
      · cases h
      · rename_i hb;obtain ⟨⟨l2,s2⟩,h2,h3⟩ := bY.1 h;cases h3;intro t ht;rcases aR.1 ht with rfl | ht
        · unfold CB at hb;dsimp only at hb;unfold CS;dsimp only;omega
        · exact N8 k _ h2 t ht
theorem O2 : ∀ (ws : List Wt) (s : St) {tk : List (List Tk)} {s' : St}, kD ws s = some (tk, s') → tk.length = ws.length ∧ (∀ l, l ∈ tk → ∀ t, t ∈ l → CS t) ∧ ∀ (i : Nat) (w : Wt) (l : List Tk), ws[i]? = some w → tk[i]? = some l → iN l ≤ w.2.1
  | [],s,tk,s',h => by cases h;exact ⟨rfl,fun l hl => (nomatch hl),fun i w l h => by simp at h⟩
  | w :: ws,s,tk,s',h => by
    rw [kD] at h;obtain ⟨⟨l,s1⟩,h1,h2⟩ := mA.1 h;dsimp only at h2;split at h2
    · cases h2
    · rename_i hb;obtain ⟨⟨tk2,s2⟩,h3,h4⟩ := bY.1 h2;cases h4;obtain ⟨a1,a2,a3⟩ := O2 ws s1 h3;refine ⟨by rw [List.length_cons,List.length_cons,a1],fun m hm => ?_,fun i v m hv hm => ?_⟩
      · rcases aR.1 hm with rfl | hm
        · exact N8 _ _ h1
        · exact a2 m hm
      · cases i with
        | zero => simp at hv hm;subst hv hm;omega
        | succ i => exact a3 i v m (by simpa using hv) (by simpa using hm)
theorem F6 : ∀ (k : Nat) (s : St), ∀ w, w ∈ (jN k s).1 → sY w.1
  | 0,s => fun w hw => nomatch hw
  | k + 1,s => by
    rw [jN];split
    · exact fun w hw => nomatch hw
    · intro w hw;rcases aR.1 hw with rfl | hw
      · exact qY s 59 _
      · exact F6 k _ w hw
theorem HE {s s' : St} {o : Od} (h : kW s = some (o,s')) : nN o ∧ ∀ w,w ∈ o.ws → sY w.1 := by
  unfold kW at h;have hw := F6 (jE s 59 0).1.toNat (jE s 59 0).2;change ∀ w,w ∈ (kN s).1 → sY w.1 at hw;generalize (kN s).1 = ws at *;generalize (dB (kN s).2).1 = due at *;generalize (dB (dB (kN s).2).2).1 = st at *;generalize (dB (dB (kN s).2).2).2 = s2 at *;split at h
  · cases h
  · rename_i hb;simp only [not_or,Bool.not_eq_false] at hb;obtain ⟨b1,b2,b3⟩ := hb;split at h
    · rename_i h1;cases h;exact ⟨⟨b1,by dsimp only;omega,by dsimp only;omega,fun _ => rfl,fun e => absurd e h1,fun l hl => (nomatch hl),fun i w l _ h => by simp at h,fun e => absurd e h1⟩,hw⟩
    · rename_i h1;obtain ⟨⟨tk,s3⟩,h2,h3⟩ := mA.1 h;dsimp only at h3;split at h3
      · cases h3
      · rename_i h4;cases h3;obtain ⟨a1,a2,a3⟩ := O2 _ _ h2;exact ⟨⟨b1,by dsimp only;omega,by dsimp only;omega,fun e => absurd rfl e,fun _ => a1,a2,a3,fun _ e => h4 (R5.2 e)⟩,hw⟩
end Go.Or
