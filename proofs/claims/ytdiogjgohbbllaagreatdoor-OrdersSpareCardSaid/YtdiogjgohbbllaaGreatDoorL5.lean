/-
  Texts of the logic and of the layer,in one module (part 5).
-/
import Derived.Test.YtdiogjgohbbllaaGreatDoorL4
import Derived.Shelf.Strconv.ErrVarAll
import Derived.Lib.IndexLaws
import Derived.Shelf.Small.Strs
import Derived.Shelf.Small.Wraps
set_option linter.unusedVariables false
set_option linter.unusedSimpArgs false
set_option linter.unnecessarySimpa false
namespace Go.Or
open Go Go.Ab
theorem AQ (l : List Wt) : (AB.arr (bZ l) 3).rf = true := aT.2 fun e he => by obtain ⟨i,_,rfl⟩ := aJ.1 he;rfl
theorem R4 : ∀ l : List Wt, AV.idfL (bZ l).flatten = true
  | [] => rfl
  | x :: l => R4 l
def L1 (H : Hp) (pb : Nat) (A : List Nat) (res : AV) (bk : Bk) (r : AV) (o : Hp) : Prop := r = res ∧ ∃ A',vE o pb bk A' ∧ Fr H A o A'
theorem Fr.app (H Z : Hp) (A : List Nat) : Fr H A (H ++ Z) A := ⟨by simp,fun k hk _ => iJ hk,fun k hk => .inl hk⟩
theorem vE.app {H : Hp} {pb : Nat} {bk : Bk} {A : List Nat} (h : vE H pb bk A) (Z : Hp) : vE (H ++ Z) pb bk A := h.frame fun k hk => iJ (h.lt k hk)
theorem L1.from {H : Hp} {pb : Nat} {A : List Nat} {res : AV} {bk : Bk} {r : AV} {o : Hp} (Z : Hp) (h : L1 (H ++ Z) pb A res bk r o) : L1 H pb A res bk r o := by
  obtain ⟨h1,A',h2,h3⟩ := h;exact ⟨h1,A',h2,(Fr.app H Z A).trans h3⟩
theorem iY.ne {H : Hp} {pb po : Nat} {L : OL} (h : iY H pb po L) : pb ≠ po := fun e => by
  have := (aN.1 h.nd).1;exact this (by rw [e];simp)
theorem iY.nils {H : Hp} {pb po : Nat} {L : OL} (h : iY H pb po L) {i : Nat} {e : Od × AV × List Nat} (hi : L[i]? = some e) (o' : Od) (ho : o'.tk = []) (res : AV) :
    L1 H pb (wD pb po L) res ((L.map (·.1)).set i o') res (H.set po (.arr ((L.map fun e => iU e.1 e.2.1).set i (iU o' .nils)) 4)) := by
  have hpol := (aA.1 h.o).1;refine ⟨rfl,wD pb po (L.set i (o',.nils,[])),⟨po,_,h.upd hi o' .nils [] (eL h.ne) (gI hpol) (fun k _ hne _ => eL hne) (.inl ⟨rfl,ho,rfl⟩) (fun k hk => by cases hk) aU,by rw [U1],rfl⟩,?_⟩
  exact h.fr hi (by simp) (eL h.ne) (fun k _ hne _ => eL hne) (fun k hk => by cases hk)
theorem vE.at {H : Hp} {pb : Nat} {bk : Bk} {A : List Nat} (h : vE H pb bk A) : ∃ po L,iY H pb po L ∧ bk = L.map (·.1) ∧ A = wD pb po L := h
theorem Q7 {X : Hp} {b : AB} : (X ++ [b])[(X ++ []).length]? = some b := by simp
theorem jA {X : Hp} {a b : AB} : (X ++ [a]).set X.length b = X ++ [b] := by simp
end Go.Or
namespace Go.Proofs.YtdiogjgohbbllaaGreatDoor
open Go Go.Ab Go.Or
attribute [local irreducible] VC AW bQ bJ eQ AY VY C5
set_option maxHeartbeats 4000000
theorem LL : bJ Tryz.prog 10 [] [] (.ptr 0 0) [.cells [.nils]] := by
  refine dB T Tryz.func10 rfl rfl rfl rfl ?_
  (repeat' (first|refine wS ?_|refine wR ?_|(refine rg 0 (aV ?_))|(refine rg 1 (vV (by exact iH T rfl rfl rfl rfl) ?_);refine dX (gL rfl rfl) rfl (aV ?_))|refine nZ ?_));all_goals exact ⟨.inl rfl,[0],_,rfl,rfl,rfl,⟨.inr rfl,trivial⟩,by decide,mR _⟩
theorem EN {H : Hp} {pb po : Nat} {L : OL} (h : iY H pb po L) (no : Int) (ss : List Int) (hl : L.length ≤ 1000) (hs : ss.length ≤ 1000) :
    eQ Tryz.prog 55 [.ptr pb 0,.i no,.rowE (gO ss) 1] H (fun r o => r = .tup [if jH (L.map (·.1)) no ss = 0 then .ep po (0 + no.toNat) 0 4 else .v (.pointer none),.i (jH (L.map (·.1)) no ss)] ∧ H = o) := by
  have hbk := h.b;have hnl := uU ss;refine jM T Tryz.func55 rfl rfl rfl rfl ?_;by_cases hr : no < 0 ∨ (L.length : Int) ≤ no
  · have hf : jH (L.map (·.1)) no ss = 4 := by unfold jH;rw [if_pos (by simpa using hr)]
    rw [hf]
    (repeat' (first|refine wS ?_|refine wR ?_|refine wT ?_|(refine wC rfl ?_ ?_<;>(intro hb;(try simp only [nm] at hb);try (exfalso;omega)))|(refine rg 0 (mY ?_))|(refine rg 1 (mW rfl (vV (bB rfl rfl) (mV ?_)));refine bS rfl rfl ?_ ?_<;>(intro hb;rw [hb];(try simp only [nm] at hb);try (exfalso;omega));(all_goals first|(refine gT (mW rfl (gT (mW rfl (gT (nV ?_)))));refine gT (fW T rfl (gT (vV (by exact bC T rfl rfl (dU hbk) rfl) ?_)));refine gT (qW T rfl (gT (vV (fT rfl rfl) ?_))))|(iterate 7 refine gF ?_));(all_goals (refine pV ?_)))|(refine rg 2 (mY ?_))|refine nZ ?_));all_goals first | (exfalso;omega) | exact ⟨.inl rfl,_,rfl,rfl,rfl⟩
  · obtain ⟨e,he,hge⟩ := G8 (L := L) (i := no.toNat) (by omega)
    have hg := xK he;have hc := CE ss e.1.st (by omega)
    have ho := h.o;have hf : jH (L.map (·.1)) no ss = if e.1.st ∈ ss then 0 else 7 := by unfold jH;rw [if_neg (by simpa using hr),hge]
    rw [hf];by_cases hin : e.1.st ∈ ss
    · rw [decide_eq_true hin] at hc;rw [if_pos hin]
      (repeat' (first|refine wS ?_|refine wK ?_|refine wR ?_|refine wU ?_|(refine wC rfl ?_ ?_<;>(intro hb;(try simp only [nm] at hb);try (exfalso;omega)))|(refine rg 0 (mY ?_))|(refine rg 1 (mW rfl (vV (bB rfl rfl) (mV ?_)));refine bS rfl rfl ?_ ?_<;>(intro hb;rw [hb];(try simp only [nm] at hb);try (exfalso;omega));(all_goals (refine yN rfl (yN rfl (gT (nV ?_)));refine yP T rfl (yV (by exact bC T rfl rfl (dU hbk) rfl) ?_);refine gT (qW T rfl (yV (fT rfl rfl) (pV ?_))))))|(refine rg 3 (mW rfl (nV ?_));refine fW T rfl (vV (by exact bC T rfl rfl (dU hbk) rfl) ?_);refine mW rfl (vV (by exact cI T rfl rfl rfl rfl rfl (by omega) (by omega)) ?_);refine aV ?_)|(refine rg 4 (eW rfl (nV ?_));refine fW T rfl (fW T rfl (vV (by exact bC T rfl rfl (eF ho hg) rfl) ?_));refine vV (kC (hc)) (vV (eJ rfl) ?_))|(refine rg 6 (mW rfl (mY ?_)))|refine nZ ?_));all_goals first | (exfalso;omega) | exact ⟨.inl rfl,_,rfl,rfl,rfl⟩
    · rw [decide_eq_false hin] at hc;rw [if_neg hin]
      (repeat' (first|refine wS ?_|refine wK ?_|refine wR ?_|refine wT ?_|(refine wC rfl ?_ ?_<;>(intro hb;(try simp only [nm] at hb);try (exfalso;omega)))|(refine rg 0 (mY ?_))|(refine rg 1 (mW rfl (vV (bB rfl rfl) (mV ?_)));refine bS rfl rfl ?_ ?_<;>(intro hb;rw [hb];(try simp only [nm] at hb);try (exfalso;omega));(all_goals (refine yN rfl (yN rfl (gT (nV ?_)));refine yP T rfl (yV (by exact bC T rfl rfl (dU hbk) rfl) ?_);refine gT (qW T rfl (yV (fT rfl rfl) (pV ?_))))))|(refine rg 3 (mW rfl (nV ?_));refine fW T rfl (vV (by exact bC T rfl rfl (dU hbk) rfl) ?_);refine mW rfl (vV (by exact cI T rfl rfl rfl rfl rfl (by omega) (by omega)) ?_);refine aV ?_)|(refine rg 4 (eW rfl (nV ?_));refine fW T rfl (fW T rfl (vV (by exact bC T rfl rfl (eF ho hg) rfl) ?_));refine vV (kC (hc)) (vV (eJ rfl) ?_))|(refine rg 5 (mY ?_))|refine nZ ?_));all_goals first | (exfalso;omega) | exact ⟨.inl rfl,_,rfl,rfl,rfl⟩
theorem SB {H : Hp} {pb : Nat} {bk : Bk} {A : List Nat} (hB : vE H pb bk A) (no st : Int) (ss : List Int) (hl : bk.length ≤ 1000) (hs : ss.length ≤ 1000) :
    eQ Tryz.prog 61 [.ptr pb 0,.i no,.i st,.rowE (gO ss) 1] H (L1 H pb A (.i (pH bk no st ss).1) (pH bk no st ss).2) := by
  obtain ⟨po,L,h,rfl,rfl⟩ := hB;rw [bI] at hl;have hfp := EN h no ss hl hs;unfold pH;refine jM T Tryz.func61 rfl rfl rfl rfl ?_;by_cases hc : jH (L.map (·.1)) no ss = 0
  · obtain ⟨⟨r0,r1⟩,_,_,_⟩ := oQ hc;rw [bI] at r1;obtain ⟨e,he,hge⟩ := G8 (L := L) (i := no.toNat) (by omega)
    rw [if_pos hc,hc] at hfp;rw [if_neg (by simp [hc])]
    have hg := xK he;have hpol := (aA.1 h.o).1;have hnl : no.toNat < L.length := by omega
    (repeat' (first|refine wS ?_|refine wT ?_|(refine rg 0 (aV ?_))|(refine rg 1 (eW rfl (mW rfl (dQ rfl rfl hfp rfl ?_)));rintro _ _ ⟨rfl,rfl⟩;dsimp only [eU];refine mW rfl (xW rfl (xW rfl (mY ?_))))|(refine rg 2 (mW rfl (vV (cT rfl rfl) ?_)))|refine nZ ?_));all_goals try (exfalso;omega)
    (repeat' (first|refine wS ?_|refine wR ?_|(refine rg 3 (eW rfl (mW rfl (nV ?_)));refine fW T rfl (fW T rfl (bH T rfl rfl rfl rfl rfl rfl (by decide) (oZ h.o hg rfl rfl) (nV ?_)));refine fV T ?_;refine bH T rfl rfl rfl rfl rfl rfl (by decide) (oZ (gI hpol) (by rw [fK (by simpa using hnl)]) rfl rfl) ?_)|(refine rg 4 (mW rfl (aV ?_)))|refine nZ ?_));all_goals try (exfalso;omega)
    have hN := h.nils he { (L.map (·.1)).getD no.toNat iD with st := st,tk := [] } rfl (.i 0);rw [hge] at hN ⊢
    all_goals exact ⟨.inl rfl,_,rfl,by rw [gZ,Nat.zero_add,gZ];exact hN⟩
  · rw [if_neg hc] at hfp;rw [if_pos hc];generalize jH (L.map (·.1)) no ss = c at *
    (repeat' (first|refine wS ?_|refine wK ?_|refine wR ?_|(refine wC rfl ?_ ?_<;>(intro hb;(try simp only [nm] at hb);try (exfalso;omega)))|(refine rg 0 (aV ?_))|(refine rg 1 (eW rfl (mW rfl (dQ rfl rfl hfp rfl ?_)));rintro _ _ ⟨rfl,rfl⟩;dsimp only [eU];refine mW rfl (xW rfl (xW rfl (mY ?_))))|(refine rg 2 (mW rfl (vV (cT rfl rfl) ?_)))|(refine rg 4 (mW rfl (aV ?_)))|refine nZ ?_));all_goals first | (exfalso;omega) | exact ⟨.inl rfl,_,rfl,rfl,_,⟨po,L,h,rfl,rfl⟩,Fr.refl _ _⟩
theorem vP {H : Hp} {pb : Nat} {bk : Bk} {A : List Nat} (hB : vE H pb bk A) (no : Int) (hl : bk.length ≤ 1000) :
    eQ Tryz.prog 25 [.ptr pb 0,.i no] H (L1 H pb A (.i (pH bk no 4 [0,1]).1) (pH bk no 4 [0,1]).2) := by
  have he := SB (hB.app [.gone]) no 4 [0,1] hl (by decide)
  refine jM T Tryz.func25 rfl rfl rfl rfl ?_
  (repeat' (first|refine wS ?_|refine wR ?_|(refine rg 0 (aV ?_))|(refine rg 1 (eW rfl (dX (by exact cK T rfl rfl (by decide) (by decide) rfl rfl rfl) rfl ?_));refine tQ 7 rfl cP rfl rfl ?_;rw [jA];refine dQ rfl rfl he rfl ?_;rintro _ _ ⟨rfl,hq⟩;dsimp only [eU];refine aV ?_)|refine nZ ?_));all_goals exact ⟨.inl rfl,_,rfl,L1.from [.gone] ⟨rfl,hq⟩⟩
theorem ME {H : Hp} {pb : Nat} {bk : Bk} {A : List Nat} (hB : vE H pb bk A) (no : Int) (hl : bk.length ≤ 1000) :
    eQ Tryz.prog 47 [.ptr pb 0,.i no] H (L1 H pb A (.i (pH bk no 3 [1]).1) (pH bk no 3 [1]).2) := by
  have he := SB (hB.app [.gone]) no 3 [1] hl (by decide)
  refine jM T Tryz.func47 rfl rfl rfl rfl ?_
  (repeat' (first|refine wS ?_|refine wR ?_|(refine rg 0 (aV ?_))|(refine rg 1 (eW rfl (dX (by exact cK T rfl rfl (by decide) (by decide) rfl rfl rfl) rfl ?_));refine tQ 7 rfl cP rfl rfl ?_;rw [jA];refine dQ rfl rfl he rfl ?_;rintro _ _ ⟨rfl,hq⟩;dsimp only [eU];refine aV ?_)|refine nZ ?_));all_goals exact ⟨.inl rfl,_,rfl,L1.from [.gone] ⟨rfl,hq⟩⟩
theorem GR {H : Hp} {pb : Nat} {bk : Bk} {A : List Nat} (hB : vE H pb bk A) (ws : List Wt) (due : Int) (hl : bk.length ≤ 1000) (hw : ws.length ≤ 1000000) :
    eQ Tryz.prog 18 [.ptr pb 0,.rowE (bZ ws) 3,.i due] H (L1 H pb A (.tup [.i (tD bk ws due).1.1,.i (tD bk ws due).1.2]) (tD bk ws due).2) := by
  have hcr := N9 ws due hw;have hcl := vB ws hw;have hB0 := hB;obtain ⟨po,L,h,rfl,rfl⟩ := hB;rw [bI] at hl;have hbk := h.b;unfold tD;refine jM T Tryz.func18 rfl rfl rfl rfl ?_;cases hr : iZ ws due with
  | false =>
    rw [hr] at hcr
    (repeat' (first|refine wS ?_|refine wB ?_|refine wR ?_|refine wT ?_|(refine rg 0 (mY ?_))|(refine rg 1 (eW rfl (vV (kC (hcr)) (vV (eJ rfl) (aV ?_)))))|(refine rg 2 (mY ?_))|refine nZ ?_));all_goals exact ⟨.inl rfl,_,rfl,rfl,_,hB0,Fr.refl _ _⟩
  | true =>
    rw [hr] at hcr;rw [if_neg (by decide : ¬ (!true) = true)]
    by_cases h1000 : 1000 ≤ L.length
    · rw [if_pos (by simpa using h1000)]
      (repeat' (first|refine wS ?_|refine wB ?_|refine wR ?_|refine wU ?_|(refine wC rfl ?_ ?_<;>(intro hb;(try simp only [nm] at hb);try (exfalso;omega)))|(refine rg 0 (mY ?_))|(refine rg 1 (eW rfl (vV (kC (hcr)) (vV (eJ rfl) (aV ?_)))))|(refine rg 3 (mW rfl (nV ?_));refine fW T rfl (vV (by exact bC T rfl rfl (dU hbk) rfl) ?_);refine qW T rfl (vV (fT rfl rfl) (aV ?_)))|(refine rg 4 (mY ?_))|refine nZ ?_));all_goals first | (exfalso;omega) | exact ⟨.inl rfl,_,rfl,rfl,_,hB0,Fr.refl _ _⟩
    · rw [if_neg (by simpa using h1000)]
      (repeat' (first|refine wS ?_|refine wB ?_|refine wK ?_|refine wU ?_|(refine wC rfl ?_ ?_<;>(intro hb;(try simp only [nm] at hb);try (exfalso;omega)))|(refine rg 0 (mY ?_))|(refine rg 1 (eW rfl (vV (kC (hcr)) (vV (eJ rfl) (aV ?_)))))|(refine rg 3 (mW rfl (nV ?_));refine fW T rfl (vV (by exact bC T rfl rfl (dU hbk) rfl) ?_);refine qW T rfl (vV (fT rfl rfl) (aV ?_)))|refine nZ ?_));all_goals try (exfalso;omega)
      have hpol := (aA.1 h.o).1;have hpbl := (aA.1 hbk).1
      (repeat' (first|refine wS ?_|(refine rE (id := 5) 40 [[],[],[1],[1,2],[1,2,3],[],[5],[],[5,6,7],rM 5 4,rM 5 5,rM 1 10,rN 12,rN 13,rN 14] (rM 20 14) [[],[20],[20],[20],[20],rM 20 5,rM 20 5,rM 20 7,rM 20 5,rM 20 5,rM 20 5,[20],[],[],[]] [(11,po),(14,pb)] fL rfl (CG (by decide +kernel) rfl rfl rfl rfl) (fA rfl rfl rfl rfl (by exact eV rfl) ?_);refine fA rfl rfl rfl rfl (by exact eV rfl) ?_;refine fA rfl rfl rfl rfl (by exact dR rfl rfl) ?_;refine fA rfl rfl rfl rfl (by exact eD T rfl rfl rfl) ?_;refine fA rfl rfl rfl rfl (by exact bC T rfl rfl (dU (bW hbk)) rfl) ?_;refine fA rfl rfl rfl rfl (by exact eV rfl) ?_;refine fA rfl rfl rfl rfl (by exact jV rfl rfl hcl (.cons (.row _ _ _) .nil) (gR _).symm (AQ _) (R4 _)) ?_;refine fA rfl rfl rfl rfl (by exact eV rfl) ?_;refine fA rfl rfl rfl rfl (by exact iH T rfl rfl rfl rfl) ?_;refine fA rfl rfl rfl rfl (by exact iH T rfl rfl rfl rfl) ?_;refine MS rfl rfl rfl rfl (by exact cK T rfl rfl (by decide) (by decide) rfl rfl rfl) rfl ?_;refine wH rfl rfl rfl rfl hpol (zX T rfl rfl rfl rfl rfl (bW h.o) (by simp) (kV.whole Q7 rfl) rfl (by simp;omega) (by simp;omega)) ?_;refine fA rfl rfl rfl rfl (by exact dR rfl rfl) ?_;refine fA rfl rfl rfl rfl (by exact eD T rfl rfl rfl) ?_;refine EQ rfl rfl rfl rfl hpbl T rfl rfl rfl rfl rfl rfl (by decide) (JO (bW (fZ h.ne hbk)) rfl) ?_;refine xZ rfl rfl rfl (by exact rfl) ?_)|refine nZ ?_));have hta : List.take L.length (List.drop 0 (L.map fun e => iU e.1 e.2.1)) = L.map fun e => iU e.1 e.2.1 := by rw [cY,aY (by simp)]
      refine lG [(0,.ptr pb 0)] ((H.set po .gone).set pb (.cells [.sl (H ++ [AB.arr [iU ⟨ws,due,0,[]⟩ .nils] 4]).length 0 (L.length + 1) 4]) ++ [.arr [iU ⟨ws,due,0,[]⟩ .nils] 4,.arr ((L.map fun e => iU e.1 e.2.1) ++ [iU ⟨ws,due,0,[]⟩ .nils]) 4]) (nI.of (by (conv => rhs;rw [← hta]);rfl) (by repeat first|exact trivial|refine ⟨rfl,?_⟩)) ?_
      have hlen : (H ++ [AB.arr [iU ⟨ws,due,0,[]⟩ .nils] 4]).length = H.length + 1 := by simp
      rw [hlen];have hpbl2 : pb < (H.set po .gone).length := by simpa using hpbl
      have g1 : ((H.set po .gone).set pb (.cells [.sl (H.length + 1) 0 (L.length + 1) 4]) ++ [AB.arr [iU ⟨ws,due,0,[]⟩ .nils] 4,.arr ((L.map fun e => iU e.1 e.2.1) ++ [iU ⟨ws,due,0,[]⟩ .nils]) 4])[pb]? = some (.cells [.sl (H.length + 1) 0 (L.length + 1) 4]) := bW (gI hpbl2);have g2 : ((H.set po .gone).set pb (.cells [.sl (H.length + 1) 0 (L.length + 1) 4]) ++ [AB.arr [iU ⟨ws,due,0,[]⟩ .nils] 4,.arr ((L.map fun e => iU e.1 e.2.1) ++ [iU ⟨ws,due,0,[]⟩ .nils]) 4])[H.length + 1]? = some (.arr ((L.map fun e => iU e.1 e.2.1) ++ [iU ⟨ws,due,0,[]⟩ .nils]) 4) := by
        rw [aE (by simp)];simp
      have g3 : ∀ k,k < H.length → k ≠ po → k ≠ pb → ((H.set po .gone).set pb (.cells [.sl (H.length + 1) 0 (L.length + 1) 4]) ++ [AB.arr [iU ⟨ws,due,0,[]⟩ .nils] 4,.arr ((L.map fun e => iU e.1 e.2.1) ++ [iU ⟨ws,due,0,[]⟩ .nils]) 4])[k]? = H[k]? := fun k hk h1 h2 => by
        rw [aG (by simpa using hk),eL h2,eL h1]
      have g4 : H.length ≤ ((H.set po .gone).set pb (.cells [.sl (H.length + 1) 0 (L.length + 1) 4]) ++ [AB.arr [iU ⟨ws,due,0,[]⟩ .nils] 4,.arr ((L.map fun e => iU e.1 e.2.1) ++ [iU ⟨ws,due,0,[]⟩ .nils]) 4]).length := by simp
      generalize (H.set po .gone).set pb (.cells [.sl (H.length + 1) 0 (L.length + 1) 4]) ++ [AB.arr [iU ⟨ws,due,0,[]⟩ .nils] 4,.arr ((L.map fun e => iU e.1 e.2.1) ++ [iU ⟨ws,due,0,[]⟩ .nils]) 4] = H1 at *;have hadd := h.add ⟨ws,due,0,[]⟩ rfl (CU H.length) g1 g2 g3
      (repeat' (first|refine wR ?_|(refine rg 6 (mW rfl (nV ?_));refine fW T rfl (vV (by exact bC T rfl rfl (dU g1) rfl) ?_);refine qW T rfl (vV (gH rfl rfl (by omega) (by omega)) (mY ?_)))|refine nZ ?_));all_goals try (exfalso;omega)
      all_goals exact ⟨.inl rfl,_,rfl,by show AV.tup [AV.i _,AV.i _] = AV.tup [AV.i _,AV.i _];rw [bI,show (((L.length + 1 : Nat) : Int) - 1) = (L.length : Int) by omega],_,⟨H.length + 1,_,hadd,by simp,rfl⟩,h.addFr g4 (CU _) g3⟩
end Go.Proofs.YtdiogjgohbbllaaGreatDoor
namespace Go.Or
open Go Go.Ab
structure wO (ls : List Lo) (sure : List Bo) : Prop where
  ll : ls.length ≤ 1000000
  sl : sure.length ≤ 20
  lot : K5 ls sure
  cn : ∀ b : Int,0 ≤ b → 0 ≤ cnt sure b ∧ cnt sure b ≤ 20000
structure VD (bk : Bk) : Prop where
  le : bk.length ≤ 1000
  tk : ∀ o,o ∈ bk → o.tk.length ≤ 1000000 ∧ ∀ l,l ∈ o.tk → l.length ≤ 1000000
  sum : K0 bk
  ws : ∀ o,o ∈ bk → o.ws.length ≤ 1000
theorem KL (l : List Bo) : (AB.arr (eX l) 3).rf = true := tU l
theorem B8 : ∀ l : List Bo, AV.idfL (eX l).flatten = true
  | [] => rfl
  | x :: l => B8 l
theorem wO.spare {ls : List Lo} {sure : List Bo} {bk : Bk} (h : wO ls sure) (hn : ∀ b : Int,0 ≤ b → 0 ≤ mJ bk b) : wO ls (eT bk sure) := by
  refine ⟨h.ll,by rw [gX];exact h.sl,fun i hi => ?_,fun b hb => ?_⟩
  · rw [gX] at hi;have e := N2 (bk := bk) (sure := sure) (b := (i : Int)) (by omega)
    rw [bK] at e;rw [e];exact h.lot i hi
  · by_cases hl : b < sure.length
    · rw [uP hb hl];have := h.cn b hb;have := hn b hb;omega
    · rw [V6 (by rw [gX];omega)];omega
mutual
theorem iE.more {H : Hp} : ∀ {x y : AV}, iE H x y → ∀ Z : Hp, iE (H ++ Z) x y
  | _,_,.v x,_ => .v x
  | _,_,.any,_ => .any
  | _,_,.row a b c,_ => .row a b c
  | _,_,.mrow a b,_ => .mrow a b
  | _,_,.mp h1 h2,Z => .mp (bW h1) (fR.more h2 Z)
  | _,_,.pr a b,_ => .pr a b
  | _,_,.sl h1 h2 h3,Z => .sl (bW h1) h2 (fR.more h3 Z)
  | _,_,.ptr h1 h2,Z => .ptr (bW h1) (fR.more h2 Z)
  | _,_,.ep h1 h2 h3,Z => .ep (bW h1) h2 (fR.more h3 Z)
  | _,_,.agg h,Z => .agg (fR.more h Z)
  | _,_,.tup h,Z => .tup (fR.more h Z)
  | _,_,.clo h1 h2,Z => .clo (fR.more h1 Z) (fR.more h2 Z)
  | _,_,.ifc h,Z => .ifc (iE.more h Z)
  | _,_,.nils n,_ => .nils n
theorem fR.more {H : Hp} : ∀ {x y : List AV}, fR H x y → ∀ Z : Hp, fR (H ++ Z) x y
  | _,_,.nil,_ => .nil
  | _,_,.cons h1 h2,Z => .cons (iE.more h1 Z) (fR.more h2 Z)
end
theorem K0.nnr {bk : Bk} (h : K0 bk) (b : Int) : 0 ≤ mJ bk b := (mN (l := iQ bk) (a := iQ bk) (b := []) (by simp) (fun t ht => (h.nn t ht).2) b).1
def CN (H : Hp) (u : AV) (sure : List Bo) : Prop := u = .rowE (eX sure) 3 ∨ ∃ k,u = .sl k 0 sure.length 3 ∧ H[k]? = some (.arr (eX sure) 3)
theorem CN.view {H : Hp} {u : AV} {sure : List Bo} (h : CN H u sure) : iE H u (.rowE (eX sure) 3) := by
  rcases h with rfl | ⟨k,rfl,hk⟩
  · exact .row _ _ _
  · exact rR hk (eP _).symm (V8 _)
theorem kB.shift {H o : Hp} {x : AV} {tk : List (List Tk)} {A : List Nat} (h : kB o x tk A) : kB (H ++ o.map (AB.map (· + H.length))) (x.map (· + H.length)) tk (A.map (· + H.length)) := by
  have hg : ∀ {k : Nat} {b : AB},o[k]? = some b → (H ++ o.map (AB.map (· + H.length)))[k + H.length]? = some (b.map (· + H.length)) := fun {k b} hk => by
    rw [aE (by omega),IZ,aR,hk];rfl
  rcases h with ⟨rfl,rfl,rfl⟩ | ⟨p,N,rfl,h2,h3,rfl,rfl,h6⟩
  · exact .inl ⟨rfl,rfl,rfl⟩
  · refine .inr ⟨p + H.length,N.map fun e => (e.1 + H.length,e.2),?_,?_,fun e he => ?_,by simp [Function.comp_def],by simp [Function.comp_def],?_⟩
    · show AV.sl (p + H.length) 0 N.length 1 = _;rw [bI]
    · rw [hg h2];show some (AB.arr ((kO N).map (AV.mapL (· + H.length))) 1) = _;simp only [kO,mK,Function.comp_def];rfl
    · obtain ⟨f,hf,rfl⟩ := aJ.1 he;have h4 := h3 f hf;dsimp only;rw [hg h4];show some (AB.arr ((eI f.2).map (AV.mapL (· + H.length))) 2) = _;rw [gS _ (nX _)]
    · unfold List.Nodup;rw [NY];exact List.Pairwise.imp (fun h e => h (by omega)) h6
theorem kB.nd {H : Hp} {x : AV} {tk : List (List Tk)} {A : List Nat} (h : kB H x tk A) : A.Nodup := by
  rcases h with ⟨_,_,rfl⟩ | ⟨p,N,_,_,_,_,_,h6⟩
  · exact aU
  · exact h6
theorem kB.form {H : Hp} {x : AV} {tk : List (List Tk)} {A : List Nat} (h : kB H x tk A) : x = .nils ∨ ∃ p m,x = .sl p 0 m 1 := by
  rcases h with ⟨rfl,_⟩ | ⟨p,N,rfl,_⟩
  · exact .inl rfl
  · exact .inr ⟨p,_,rfl⟩
theorem kB.un {H : Hp} {x : AV} {tk : List (List Tk)} {A : List Nat} (h : kB H x tk A) : x.un = x := by
  rcases h with ⟨rfl,_⟩ | ⟨p,N,rfl,_⟩ <;> rfl
theorem yE {P : Program} {n : Nat × Nat} {code code' : Code} {Q Q' : Exit → cJ → Hp → Prop} {env : cJ} {h : Hp} {I : Type} (E : I → cJ) (H : I → Hp) (C : I → Prop)
    (hk : ∀ x,C x → AW P n code' (E x) (H x) Q') (h1 : (∀ x,C x → AW P n code' (E x) (H x) Q') → AW P n code env h Q) : AW P n code env h Q := h1 hk
theorem IQ (n k : Nat) : fN [] n 0 k = k + n := by unfold fN;simp;omega
theorem sI (n : Nat) : fN [] n 0 = (· + n) := funext (IQ n)
end Go.Or
namespace Go.Proofs.YtdiogjgohbbllaaGreatDoor
open Go Go.Ab Go.Or
attribute [local irreducible] VC AW bQ bJ eQ AY VY C5
set_option maxHeartbeats 4000000
theorem uR {H : Hp} {pb : Nat} {bk : Bk} {A : List Nat} (hB : vE H pb bk A) (hz : VD bk) (ls : List Lo) (sure : List Bo) (hs : wO ls sure) (no : Int) (u : AV) (hsu : CN H u sure) :
    eQ Tryz.prog 21 [.ptr pb 0,.i no,.rowE (lO ls) 3,u] H (L1 H pb A (.i (oI ls sure bk no).1) (oI ls sure bk no).2) := by
  have hle := hz.le;have hB1 := hB.app [.gone];have hB0 := hB;have hu1 := iE.more hsu.view [.gone];have hsu2 : u = .rowE (eX sure) 3 ∨ ∃ k,u = .sl k 0 sure.length 3 := hsu.imp id fun ⟨k,h,_⟩ => ⟨k,h⟩
  obtain ⟨po,L,h,rfl,rfl⟩ := hB1;rw [bI] at hle;have hfp := EN h no [0] hle (by decide)
  have hsp := D7 (L.map (·.1)) sure (by rw [bI];omega) hz.tk hz.sum (by have := hs.sl;omega) hs.cn
  have hso := hs.spare (bk := L.map (·.1)) (fun b _ => hz.sum.nnr b);unfold oI;refine jM T Tryz.func21 rfl rfl rfl rfl ?_;by_cases hc : jH (L.map (·.1)) no [0] = 0
  · obtain ⟨⟨r0,r1⟩,_,hm,_⟩ := oQ hc;rw [bI] at r1;obtain ⟨e,he,hge⟩ := G8 (L := L) (i := no.toNat) (by omega)
    rw [hge] at hm ⊢;have q1 := hso.cn;have q2 := hso.lot;have q3 := hz.ws _ hm;generalize hSP : eT (L.map (·.1)) sure = SP at *;have hpl := KS ls SP e.1.ws hso.ll hso.sl q2 q3 q1;rw [if_pos hc,hc] at hfp;rw [if_neg (by simp [hc] : ¬ jH (L.map (·.1)) no [0] ≠ 0)]
    generalize hq : lM ls SP e.1.ws = pl at *;have hg := xK he
    (repeat' (first|refine wS ?_|refine wK ?_|refine wU ?_|(refine rg 0 (aV ?_))|(refine rg 1 (eW rfl (dX (by exact cK T rfl rfl (by decide) (by decide) rfl rfl rfl) rfl ?_));refine tQ 15 rfl cP rfl rfl ?_;rw [jA];refine dQ rfl rfl hfp rfl ?_;rintro _ _ ⟨rfl,rfl⟩;dsimp only [eU];refine mW rfl (xW rfl (xW rfl (mY ?_))))|(refine rg 2 (mW rfl (vV (oB rfl rfl) ?_)))|refine nZ ?_));all_goals try (exfalso;omega)
    have hvb := h.view;clear hsu hfp hB;apply yE (I := AV × Hp × List Nat) (fun x => [(9,.ep po (0 + no.toNat) 0 4),(10,.i pl.1),(11,x.1)]) (fun x => (H ++ [.gone]) ++ x.2.1) (fun x => kB ((H ++ [.gone]) ++ x.2.1) x.1 pl.2 x.2.2 ∧ ∀ k,k ∈ x.2.2 → (H ++ [AB.gone]).length ≤ k)
    case h1 =>
     intro rest;rcases hsu2 with rfl | ⟨ku,rfl⟩
     all_goals
      refine CK (id := 4) fL ?_;refine oJ 0 rfl rfl (by decide +kernel) (by decide +kernel) (by decide +kernel) (by exact pX rfl) rfl ?_
      refine oJ 1 rfl rfl (by decide +kernel) (by decide +kernel) (by decide +kernel) (by exact pX rfl) rfl ?_
      refine oJ 2 rfl rfl (by decide +kernel) (by decide +kernel) (by decide +kernel) (by exact pX rfl) rfl ?_
      refine oJ 4 rfl rfl (by decide +kernel) (by decide +kernel) (by decide +kernel) (by exact pX rfl) rfl ?_
      refine oJ 5 rfl rfl (by decide +kernel) (by decide +kernel) (by decide +kernel) (by exact tW rfl rfl) rfl ?_
      refine oJ 6 rfl rfl (by decide +kernel) (by decide +kernel) (by decide +kernel) (by exact mP T rfl rfl rfl) rfl ?_
      refine oJ 7 rfl rfl (by decide +kernel) (by decide +kernel) (by decide +kernel) (by exact mP T rfl rfl rfl) rfl ?_
      refine GS _ rfl [true,true,true,false,true,true,true,true,false,false,false,false,false,false,false] rfl rfl ?_
      (repeat' (first|(refine NN rfl rfl rfl ?_ ?_<;>(((refine vV (by first|exact jG rfl|exact sE rfl rfl|exact bC T rfl rfl (eF h.o hg) rfl|exact jV rfl rfl hsp (.cons hvb (.cons hu1 .nil)) (eP _).symm (KL _) (B8 _)) ?_));refine qG ?_;dsimp only [List.set_cons_zero,List.set_cons_succ]))|(refine NO rfl rfl ?_;(first|(refine vV (by first|exact eV rfl|exact jG rfl|exact sE rfl rfl|exact bC T rfl rfl (eF h.o hg) rfl|exact jV rfl rfl hsp (.cons hvb (.cons hu1 .nil)) (eP _).symm (KL _) (B8 _)) ?_)|(refine uM [] rfl rfl hpl rfl rfl aU trivial (by simp) rfl ?_;rintro res hout hΦ;obtain ⟨x,B,rfl,hn,_,_⟩ := hΦ;dsimp only [eU]));refine qG ?_;dsimp only [List.set_cons_zero,List.set_cons_succ])));all_goals
        refine R9 rfl ?_;rw [hq] at hn;have hsh := hn.shift (H := H ++ [.gone]);exact lG [(9,.ep po (0 + no.toNat) 0 4),(10,.i pl.1),(11,AV.map (· + (H ++ [AB.gone]).length) x)] ((H ++ [AB.gone]) ++ hout.map (AB.map (· + (H ++ [AB.gone]).length))) (nI.of (by rw [List.length_nil,sI,cY];rfl) ⟨rfl,by rw [← hq];rfl,by rw [List.length_nil,sI];exact congrArg some hsh.un,trivial⟩) (rest (_,_,_) ⟨hsh,fun k hk => by obtain ⟨m,_,rfl⟩ := aJ.1 hk;omega⟩)
    rintro ⟨x,Z,B⟩ ⟨hn,hB2⟩;dsimp only at hn hB2 ⊢;have hX := h.more (H' := (H ++ [AB.gone]) ++ Z) fun k hk => iJ hk
    have hXl : (H ++ [AB.gone]).length ≤ ((H ++ [AB.gone]) ++ Z).length := by simp
    have hXo : ∀ k,k < (H ++ [AB.gone]).length → ((H ++ [AB.gone]) ++ Z)[k]? = (H ++ [AB.gone])[k]? := fun k hk => iJ hk
    have hpob := (aA.1 h.o).1;have hpbb := (aA.1 h.b).1;generalize (H ++ [AB.gone]) ++ Z = X at *;have hpol := (aA.1 hX.o).1;have hnl : no.toNat < L.length := by omega
    by_cases hz0 : pl.1 = 0
    · rw [hz0,if_neg (by simp : ¬ (0 : Int) ≠ 0)]
      have key : ∀ H',H' = X.set po (.arr ((L.map fun e => iU e.1 e.2.1).set no.toNat (iU { e.1 with st := 1,tk := pl.2 } x)) 4) → L1 H pb (wD pb po L) (.i 0) ((L.map (·.1)).set no.toNat { e.1 with st := 1,tk := pl.2 }) (.i 0) H' := fun H' hH => by
        subst hH;refine L1.from [.gone] ⟨rfl,wD pb po (L.set no.toNat ({ e.1 with st := 1,tk := pl.2 },x,B)),⟨po,_,h.upd he _ x B ((eL h.ne).trans (hXo _ hpbb)) (gI hpol) (fun k hk hne _ => (eL hne).trans (hXo k hk)) (hn.frame fun k hk => eL (by have := hB2 k hk;omega)) (fun k hk => .inr (hB2 k hk)) hn.nd,by rw [U1],rfl⟩,?_⟩
        exact h.fr he (by simpa using hXl) ((eL h.ne).trans (hXo _ hpbb)) (fun k hk hne _ => (eL hne).trans (hXo k hk)) (fun k hk => .inr (hB2 k hk))
      rcases hn.form with rfl | ⟨px,mx,rfl⟩
      all_goals
        (repeat' (first|refine wS ?_|refine wK ?_|refine wR ?_|refine wU ?_|(refine rg 5 (mW rfl (vV (oB rfl rfl) ?_)))|(refine rg 7 (eW rfl (mW rfl (nV ?_)));refine fW T rfl (fW T rfl (bH T rfl rfl rfl rfl rfl rfl (by decide) (oZ hX.o hg rfl rfl) (nV ?_)));refine fV T ?_;refine bH T rfl rfl rfl rfl rfl rfl (by decide) (oZ (gI hpol) (by rw [fK (by simpa using hnl)]) rfl rfl) ?_)|(refine rg 8 (aV ?_))|refine nZ ?_));all_goals try (exfalso;omega)
        all_goals exact ⟨.inl rfl,_,rfl,key _ (by rw [gZ,Nat.zero_add,gZ])⟩
    · rw [if_pos hz0]
      (repeat' (first|refine wS ?_|refine wR ?_|refine wT ?_|(refine rg 5 (mW rfl (vV (U9 rfl rfl (by omega)) ?_)))|(refine rg 6 (mW rfl (aV ?_)))|refine nZ ?_));all_goals first | (exfalso;omega) | exact ⟨.inl rfl,_,rfl,L1.from [.gone] ⟨rfl,_,⟨po,L,hX,rfl,rfl⟩,⟨hXl,fun k hk _ => hXo k hk,fun k hk => .inl hk⟩⟩⟩
  · rw [if_neg hc] at hfp;rw [if_pos hc];generalize jH (L.map (·.1)) no [0] = c at *
    (repeat' (first|refine wS ?_|refine wR ?_|(refine wC rfl ?_ ?_<;>(intro hb;(try simp only [nm] at hb);try (exfalso;omega)))|(refine rg 0 (aV ?_))|(refine rg 1 (eW rfl (dX (by exact cK T rfl rfl (by decide) (by decide) rfl rfl rfl) rfl ?_));refine tQ 15 rfl cP rfl rfl ?_;rw [jA];refine dQ rfl rfl hfp rfl ?_;rintro _ _ ⟨rfl,rfl⟩;dsimp only [eU];refine mW rfl (xW rfl (xW rfl (mY ?_))))|(refine rg 2 (mW rfl (vV (oB rfl rfl) ?_)))|(refine rg 3 (mW rfl (aV ?_)))|refine nZ ?_));all_goals first | (exfalso;omega) | exact ⟨.inl rfl,_,rfl,rfl,_,⟨po,L,h,rfl,rfl⟩,Fr.app _ _ _⟩
end Go.Proofs.YtdiogjgohbbllaaGreatDoor
namespace Go.Or
open Go Go.Ab
abbrev eY (q : Tk → Bool) (l : List Tk) : List Tk := l.filter fun x => !q x
theorem H4 {q : Tk → Bool} {l : List Tk} {k : Nat} (h : k < l.length) : eY q (l.take (k + 1)) = if q l[k] then eY q (l.take k) else eY q (l.take k) ++ [l[k]] := by
  unfold eY;rw [aX h,List.filter_append];cases e : q l[k] <;> simp [e]
theorem LS (q : Tk → Bool) (l : List Tk) (k : Nat) : (eY q (l.take k)).length ≤ k := cF (Y8 _ _) (by simp;omega)
abbrev t0 : Tk := (0,0)
theorem BS {l : List Tk} {m : Nat} (h : m < l.length) : l.getD m t0 = l[m] := by rw [aD,aB h];rfl
theorem JQ {l : List Tk} {i : Nat} {x : Tk} {j : Int} (hj : j = i) : (eI l).set (0 + j.toNat) [AV.i x.1,AV.i x.2] = eI (l.set i x) := by
  subst hj;rw [Nat.zero_add,bK];show _ = List.map (fun t : Tk => [AV.i t.1,AV.i t.2]) (l.set i x);rw [oF]
theorem KG {l : List Tk} {A : List Tk} {y x : Tk} : (A ++ y :: l).set A.length x = A ++ x :: l := by simp
theorem WT {G l : List Tk} {m : Nat} {i : Nat} (hg : G.length ≤ m) (hm : m < l.length) (hi : i = m) : (eI (G ++ l.drop G.length))[i]? = some [AV.i (l.getD m t0).1,AV.i (l.getD m t0).2] := by
  subst hi;rw [aR,aE hg,dJ,show G.length + (i - G.length) = i by omega,aB hm,BS hm];rfl
theorem XN {G l : List Tk} {x : Tk} {j : Int} (h : G.length < l.length) (hj : j = G.length) : (eI (G ++ l.drop G.length)).set (0 + j.toNat) [AV.i x.1,AV.i x.2] = eI ((G ++ [x]) ++ l.drop (G ++ [x]).length) := by
  rw [JQ (i := G.length) hj,aS h,KG];simp
theorem WB {G l : List Tk} (h : G.length ≤ l.length) : (eI (G ++ l.drop G.length)).length = l.length := by simp;omega
theorem VP {G : List Tk} {l : List Tk} : (eI (G ++ l.drop G.length)).take (0 + (G.length : Int).toNat) = eI G := by
  rw [Nat.zero_add,bK,← List.map_take,List.take_left]
def qR (b : Int) : Int → List Tk → Int × List Tk
  | n,[] => (n,[])
  | n,t :: l => if t.1 = b then ((qR b (n - min n t.2) l).1,(t.1,t.2 - min n t.2) :: (qR b (n - min n t.2) l).2) else ((qR b n l).1,t :: (qR b n l).2)
abbrev zq (t : Tk) : Bool := t.2 == 0
theorem F7 (b : Int) : ∀ (n : Int) (l : List Tk), jB b n l = ((qR b n l).1, eY zq (qR b n l).2)
  | _,[] => rfl
  | n,t :: l => by
    unfold jB qR;split
    · rw [F7 b _ l];dsimp only;by_cases h : t.2 - min n t.2 = 0
      · simp [eY,zq,h]
      · simp [eY,zq,h]
    · rw [F7 b _ l];dsimp only;by_cases h : t.2 = 0
      · simp [eY,zq,h]
      · simp [eY,zq,h]
structure OE (b n0 : Int) (l0 : List Tk) (j : Nat) (n : Int) (l : List Tk) : Prop where
  jl : j ≤ l0.length
  ll : l.length = l0.length
  eq : qR b n0 l0 = ((qR b n (l.drop j)).1,l.take j ++ (qR b n (l.drop j)).2)
  nn : 0 ≤ n ∧ n ≤ 1000000000000
  ok : ∀ t,t ∈ l → 0 ≤ t.2 ∧ t.2 ≤ 1000000000000
theorem OE.next {b n0 : Int} {l0 : List Tk} {j : Nat} {n : Int} {l : List Tk} (h : OE b n0 l0 j n l) (hj : j < l.length) (hb : l[j].1 = b) : OE b n0 l0 (j + 1) (n - min n l[j].2) (l.set j (l[j].1,l[j].2 - min n l[j].2)) := by
  have hm := h.ok _ (aK hj);have h1 := h.nn;have heq := h.eq;rw [aS hj,qR,if_pos hb] at heq;refine ⟨by have := h.ll;omega,by rw [eC,h.ll],?_,by omega,fun t ht => ?_⟩
  · rw [heq,List.drop_set,if_pos (by omega),aX (by simpa using hj),Y9,FE (by omega),bF];rfl
  · rcases rV ht with rfl | ht
    · dsimp only;omega
    · exact h.ok t ht
theorem OE.skip {b n0 : Int} {l0 : List Tk} {j : Nat} {n : Int} {l : List Tk} (h : OE b n0 l0 j n l) (hj : j < l.length) (hb : l[j].1 ≠ b) : OE b n0 l0 (j + 1) n l := by
  have heq := h.eq;rw [aS hj,qR,if_neg hb] at heq;refine ⟨by have := h.ll;omega,h.ll,?_,h.nn,h.ok⟩
  rw [heq,aX hj,bF];rfl
theorem OE.fin {b n0 : Int} {l0 : List Tk} {j : Nat} {n : Int} {l : List Tk} (h : OE b n0 l0 j n l) (hj : ¬ j < l.length) : jB b n0 l0 = (n,eY zq l) := by
  have heq := h.eq;rw [cW (by omega),aY (by omega)] at heq
  rw [F7,heq];simp [qR]
structure IY (b n0 : Int) (X0 : Hp) (p : Nat) (N0 : List (Nat × List Tk)) (w : Nat) (n : Int) (N : List (Nat × List Tk)) (X : Hp) : Prop where
  wl : w ≤ N0.length
  nl : N.length = N0.length
  ks : N.map (·.1) = N0.map (·.1)
  eq : jY b n0 (N0.map (·.2)) = (N.take w).map (·.2) ++ jY b n ((N.drop w).map (·.2))
  nn : 0 ≤ n ∧ n ≤ 1000000000000
  ok : ∀ e,e ∈ N → e.2.length ≤ 1000000 ∧ ∀ t,t ∈ e.2 → 0 ≤ t.2 ∧ t.2 ≤ 1000000000000
  hp : X[p]? = some (.arr (kO N) 1)
  hn : qF X N
  le : X0.length ≤ X.length
  fr : ∀ k,k < X0.length → k ≠ p → k ∉ N0.map (·.1) → X[k]? = X0[k]?
abbrev vJ (N : List (Nat × List Tk)) (w : Nat) : Bool := (N.take w).any fun e => !e.2.isEmpty
theorem PL {N : List (Nat × List Tk)} {w : Nat} (h : w < N.length) : (kO N)[0 + (w : Int).toNat]? = some [AV.sl N[w].1 0 N[w].2.length 2] := by simp [h]
theorem IY.next {b n0 : Int} {X0 : Hp} {p : Nat} {N0 : List (Nat × List Tk)} {w : Nat} {n : Int} {N : List (Nat × List Tk)} {X : Hp} (h : IY b n0 X0 p N0 w n N X) (hw : w < N.length) (hnd : (p :: N0.map (·.1)).Nodup) {j : Nat} {n' : Int} {l : List Tk} (g : OE b n N[w].2 j n' l) (hj : ¬ j < l.length) (Z : Hp) :
    IY b n0 X0 p N0 (w + 1) n' (N.set w (N[w].1,eY zq l)) (((X.set N[w].1 (.arr (eI (eY zq l)) 2)).set p (.arr (kO (N.set w (N[w].1,eY zq l))) 1)) ++ Z) := by
  have hf := g.fin hj;have hks := h.ks;rw [← hks] at hnd;have hpk : ∀ e,e ∈ N → e.1 ≠ p := fun e he e1 => (aN.1 hnd).1 (aJ.2 ⟨e,he,e1⟩);have hinj : ∀ (i : Nat) (hi : i < N.length),i ≠ w → N[i].1 ≠ N[w].1 := fun i hi hne e1 => by
    have h2 := (aN.1 hnd).2;have := (List.getElem_inj (h₀ := by simpa using hi) (h₁ := by simpa using hw) h2).1 (by simpa using e1)
    exact hne this
  have hq : N[w].1 < X.length := (aA.1 (h.hn _ (aK hw))).1;have hpl : p < X.length := (aA.1 h.hp).1;have heq := h.eq;rw [aS hw,List.map_cons,jY,hf] at heq;have hgw := h.ok _ (aK hw);refine ⟨by have := h.nl;omega,by rw [eC,h.nl],?_,?_,g.nn,fun e he => ?_,?_,fun e he => ?_,?_,fun k hk h1 h2 => ?_⟩
  · rw [oF,← hks];exact cS fun i => by
      rw [bT];split
      · rename_i e;subst e;simp [hw]
      · rfl
  · rw [heq,List.drop_set,if_pos (by omega),aX (by simpa using hw),Y9,FE (by omega),cO,bF];rfl
  · rcases rV he with rfl | he
    · refine ⟨cF (Y8 _ _) (by have := g.ll;have := hgw.1;omega),fun t ht => g.ok t ((List.mem_filter.1 ht).1)⟩
    · exact h.ok e he
  · exact bW (gI (by simpa using hpl))
  · obtain ⟨i,hi⟩ := bR.1 he;rw [bT] at hi;split at hi
    · cases hi;exact bW (fZ (hpk N[w] (aK hw)) (gI hq))
    · rename_i hne;obtain ⟨hil,rfl⟩ := aA.1 hi;exact bW (fZ (hpk _ (aK hil)) (fZ (hinj i hil (Ne.symm hne)) (h.hn _ (aK hil))))
  · rw [aC,eC,eC];have := h.le;omega
  · have hkX : k < X.length := bO hk h.le;have hkq : k ≠ N[w].1 := fun e1 => h2 (by rw [← hks,e1];exact aJ.2 ⟨_,aK hw,rfl⟩)
    rw [aG (by simpa using hkX),eL h1,eL hkq]
    exact h.fr k hk h1 h2
theorem IJ {N : List (Nat × List Tk)} {w : Nat} {q : Nat} {l : List Tk} (hw : w < N.length) : vJ (N.set w (q,l)) (w + 1) = (vJ N w || !l.isEmpty) := by
  unfold vJ;rw [aX (by simpa using hw),Y9,FE (by omega),List.any_append];simp
theorem IY.fin {b n0 : Int} {X0 : Hp} {p : Nat} {N0 : List (Nat × List Tk)} {w : Nat} {n : Int} {N : List (Nat × List Tk)} {X : Hp} (h : IY b n0 X0 p N0 w n N X) (hw : ¬ w < N.length) : jY b n0 (N0.map (·.2)) = N.map (·.2) ∧ (jY b n0 (N0.map (·.2))).all (·.isEmpty) = !vJ N w := by
  have heq := h.eq;rw [cW (by omega),aY (by omega)] at heq
  rw [List.map_nil,jY,List.append_nil] at heq;refine ⟨heq,?_⟩;rw [heq];unfold vJ;rw [aY (by omega),List.not_any_eq_all_not,ZC]
  congr 1;funext e;simp
theorem T4 {H : Hp} {q : Nat} {b : AB} (h : H[q]? = some b) : H.set q b = H := by
  apply cS;intro j;rw [bT];split
  · rename_i e;subst e;rw [h];simp [(aA.1 h).1]
  · rfl
end Go.Or
namespace Go.Proofs.YtdiogjgohbbllaaGreatDoor
open Go Go.Ab Go.Or
attribute [local irreducible] VC AW bQ bJ
set_option maxHeartbeats 4000000
theorem ER {F : FuncId} {caps : List AV} {q : Tk → Bool} (l : List Tk) (hl : l.length ≤ 1000000) (hi : AV.idfL caps = true) (hp : AV.plOL caps = true) (hF : ∀ x,x ∈ l → bJ Tryz.prog F (.agg [.i x.1,.i x.2] :: caps) [] (.b (q x)) []) :
    bJ Tryz.prog 66 [.sl 0 0 l.length 2,.clo (.func F) [] caps] [.arr (eI l) 2] (.sl 0 0 (eY q l).length 2) [.arr (eI (eY q l)) 2] := by
  have hll : (eI l).length = l.length := jX l;have hix := LY hl hi hF;have hvw : iE [.arr (eI l) 2] (.sl 0 0 l.length 2) (.rowE (eI l) 2) := rR rfl hll.symm (G7 (fun _ => rfl) _);refine dB T Tryz.func66 rfl rfl rfl rfl ?_;rcases Q6 q l 0 with ⟨h1,h2⟩ | ⟨j,hj,h1,h2,h3⟩
  · rw [h1] at hix;have hk : eY q l = l := List.filter_eq_self.2 fun x hx => by rw [h2 x hx];rfl
    rw [hk]
    (repeat' (first|refine wS ?_|refine wR ?_|refine wT ?_|(refine rg 0 (aV ?_))|(refine rg 1 (eW rfl (vV (by exact mG rfl rfl hix (.cons hvw (.cons (.clo .nil (nJ _ hp)) .nil)) rfl rfl) ?_));refine aV ?_)|(refine rg 2 (mW rfl (vV (cT rfl rfl) ?_)))|(refine rg 3 (mW rfl (aV ?_)))|refine nZ ?_));all_goals first | (exfalso;omega) | exact ⟨.inl rfl,[0],_,rfl,rfl,rfl,⟨.inr (cN rfl rfl (nX _)),trivial⟩,by decide,wQ⟩
  · rw [h1,Nat.zero_add] at hix;have hk0 : eY q (l.take (j + 1)) = l.take j := by
      rw [H4 hj,if_pos h2];exact List.filter_eq_self.2 fun x hx => by rw [h3 x hx];rfl
    have hkl : (eY q (l.take (j + 1))).length = j := by rw [hk0];simp;omega
    have hka : eY q (l.take (j + 1)) ++ l.drop (eY q (l.take (j + 1))).length = l := by rw [hkl,hk0,bU]
    have hkf : eY q l = eY q (l.take l.length) := by rw [eA]
    rw [hkf]
    (repeat' (first|refine wS ?_|refine wB ?_|refine wK ?_|refine wU ?_|(refine rg 0 (aV ?_))|(refine rg 1 (eW rfl (vV (by exact mG rfl rfl hix (.cons hvw (.cons (.clo .nil (nJ _ hp)) .nil)) rfl rfl) ?_));refine aV ?_)|(refine rg 2 (mW rfl (vV (cT rfl rfl) ?_)))|(refine iA 4 rfl rfl rfl (by omega) (by omega) ?_)|refine nZ ?_));all_goals try (exfalso;omega)
    refine eN (X := {m : Nat // m ≤ l.length}) (fun m => [(0,.sl 0 0 l.length 2),(1,.clo (.func F) [] caps),(5,.i (eY q (l.take m.1)).length),(6,.i m.1)]) (fun m => [.arr (eI (eY q (l.take m.1) ++ l.drop (eY q (l.take m.1)).length)) 2]) (fun m => l.length - m.1) ⟨j + 1,hj⟩ ⟨[0],rfl,⟨rfl,by rw [fU hi];rfl,by dsimp only;rw [hkl];rfl,rfl,trivial⟩,⟨.inr (cN rfl (by dsimp only;rw [hka]) (nX _)),trivial⟩,by decide,wQ⟩ ?_
    rintro ⟨m,hm⟩;dsimp only;have hle := LS q l m;by_cases hlt : m < l.length
    · have hs := H4 (q := q) hlt;have hget := WT (G := eY q (l.take m)) (l := l) (m := m) (i := 0 + (m : Int).toNat) hle hlt (by omega)
      have hg2 := WT (G := eY q (l.take m)) (l := l) (m := (eY q (l.take m)).length) (i := 0 + (((eY q (l.take m)).length : Nat) : Int).toNat) (aO _) (by omega) (by omega)
      rw [BS hlt] at hget;have hset := XN (G := eY q (l.take m)) (l := l) (x := l[m]) (j := (((eY q (l.take m)).length : Nat) : Int)) (by omega) rfl
      have hc := hF l[m] (aK hlt);have hal := WB (G := eY q (l.take m)) (l := l) (by omega)
      generalize l[m] = x at *;generalize l.getD (eY q (l.take m)).length t0 = y at *;generalize hG : eY q (l.take m) = G at *;generalize hA : eI (G ++ l.drop G.length) = A at *;cases e : q x
      · rw [e] at hc hs;rw [if_neg (by simp)] at hs
        (repeat' (first|refine wS ?_|refine wB ?_|refine wK ?_|refine wT ?_|(refine wC rfl ?_ ?_<;>(intro hb;(try simp only [nm] at hb);try (exfalso;omega)))|(refine rg 5 (eW rfl (qW T rfl (vV (bB rfl rfl) ?_))))|(refine rg 7 (eW rfl (vV (by exact cI T rfl rfl rfl rfl rfl (by omega) (by omega)) ?_));refine vV (by exact bC T rfl rfl (mH rfl hget) rfl) ?_;refine dX (dH T rfl) rfl (bH T rfl rfl rfl rfl rfl rfl (by decide) rfl ?_))|(refine rg 8 (mW rfl (vV (bC T rfl rfl rfl rfl) (vV (by exact cM rfl rfl hc rfl (by simp [AV.idfL,AV.idf,hi]) rfl) ?_)));refine vV (eJ rfl) ?_)|(refine rg 9 (eW rfl (vV (bC T rfl rfl rfl rfl) (vV (by exact cI T rfl rfl rfl rfl rfl (by omega) (by omega)) ?_)));refine bH T rfl rfl rfl rfl rfl rfl (by decide) (JN rfl hg2 rfl) ?_)|(refine iA 10 rfl rfl rfl (by omega) (by omega) ?_)|(refine iA 6 rfl rfl rfl (by omega) (by omega) ?_)|refine nZ ?_));all_goals try (exfalso;omega)
        all_goals exact ⟨⟨m + 1,hlt⟩,by dsimp only;omega,[0],rfl,⟨rfl,by rw [fU hi];rfl,by rw [hs];simp only [aC];rfl,rfl,trivial⟩,⟨.inr (cN rfl (by rw [hs];exact hset) (nX _)),trivial⟩,by decide,wQ⟩
      · rw [e] at hc hs;rw [if_pos rfl] at hs
        (repeat' (first|refine wS ?_|refine wB ?_|refine wK ?_|refine wU ?_|(refine wC rfl ?_ ?_<;>(intro hb;(try simp only [nm] at hb);try (exfalso;omega)))|(refine rg 5 (eW rfl (qW T rfl (vV (bB rfl rfl) ?_))))|(refine rg 7 (eW rfl (vV (by exact cI T rfl rfl rfl rfl rfl (by omega) (by omega)) ?_));refine vV (by exact bC T rfl rfl (mH rfl hget) rfl) ?_;refine dX (dH T rfl) rfl (bH T rfl rfl rfl rfl rfl rfl (by decide) rfl ?_))|(refine rg 8 (mW rfl (vV (bC T rfl rfl rfl rfl) (vV (by exact cM rfl rfl hc rfl (by simp [AV.idfL,AV.idf,hi]) rfl) ?_)));refine vV (eJ rfl) ?_)|(refine iA 6 rfl rfl rfl (by omega) (by omega) ?_)|refine nZ ?_));all_goals try (exfalso;omega)
        all_goals exact ⟨⟨m + 1,hlt⟩,by dsimp only;omega,[0],rfl,⟨rfl,by rw [fU hi];rfl,by rw [hs];rfl,rfl,trivial⟩,⟨.inr (cN rfl (by rw [hs];exact hA.symm) (nX _)),trivial⟩,by decide,wQ⟩
    · obtain rfl : m = l.length := by omega
      have hal := WB (G := eY q (l.take l.length)) (l := l) (by omega)
      have htk := VP (G := eY q (l.take l.length)) (l := l);generalize eY q (l.take l.length) = G at *
      (repeat' (first|refine wS ?_|refine wR ?_|refine wE ?_|(refine wC rfl ?_ ?_<;>(intro hb;(try simp only [nm] at hb);try (exfalso;omega)))|(refine rg 5 (eW rfl (qW T rfl (vV (bB rfl rfl) ?_))))|(refine rg 11 (eW rfl (vV (by exact B5 T rfl rfl rfl rfl rfl rfl (by omega) (by omega) (by omega)) ?_));refine HC T rfl rfl rfl ⟨rfl,rfl,by decide⟩ rfl (by rw [hal];omega) ?_)|(refine rg 12 (eW rfl (vV (by exact B5 T rfl rfl rfl rfl rfl rfl (by omega) (by omega) (by omega)) ?_));refine aV ?_)|refine nZ ?_));all_goals try (exfalso;omega)
      all_goals exact ⟨.inl rfl,[0],_,rfl,(by show AV.sl 0 0 ((G.length : Int) - 0).toNat 2 = AV.sl 0 0 G.length 2;rw [show ((G.length : Int) - 0).toNat = G.length by omega]),rfl,⟨.inr (cN rfl htk (nX _)),trivial⟩,by decide,wQ⟩
theorem KH (x : Tk) : bJ Tryz.prog 67 [.agg [.i x.1,.i x.2]] [] (.b (zq x)) [] := by
  obtain ⟨a,n⟩ := x;refine dB T Tryz.func67 rfl rfl rfl rfl ?_
  (repeat' (first|refine wS ?_|refine wR ?_|(refine rg 0 (dX (gL rfl rfl) rfl (aV ?_)))|(refine rg 1 (jQ T rfl (vV (cT rfl rfl) (aV ?_))))|refine nZ ?_));all_goals exact eG (.inl rfl) rfl (by rw [show zq (a,n) = decide (n = 0) from rfl];rfl)
end Go.Proofs.YtdiogjgohbbllaaGreatDoor
namespace Go.Or
open Go Go.Ab
theorem iY.apart {H : Hp} {pb po : Nat} {L : OL} (h : iY H pb po L) {i : Nat} {e : Od × AV × List Nat} (hi : L[i]? = some e) : ∀ k,k ∈ e.2.2 → k ≠ po ∧ k ≠ pb := fun k hk => by
  have hm : k ∈ L.flatMap (·.2.2) := dK.2 ⟨e,aH hi,hk⟩;have hnd := h.nd;simp only [aN,aQ,not_or] at hnd;exact ⟨fun e1 => hnd.2.1 (e1 ▸ hm),fun e1 => hnd.1.2 (e1 ▸ hm)⟩
theorem LM {α : Type} (l : List α) : (!l.isEmpty) = decide (0 < (l.length : Int)) := by cases l <;> simp
theorem K0.one {bk : Bk} (h : K0 bk) {t : Tk} (ht : t ∈ iQ bk) : 0 ≤ t.2 ∧ t.2 ≤ 1000000000000 := by
  refine ⟨(h.nn t ht).2,?_⟩;obtain ⟨a,b,e⟩ := List.append_of_mem ht;have h1 := (mN (l := iQ bk) (a := a) (b := t :: b) e (fun t ht => (h.nn t ht).2) t.1).1;have h2 := mN (l := t :: b) (a := [t]) (b := b) rfl (fun u hu => (h.nn u (by rw [e];exact Y7 _ hu)).2) t.1
  have h3 := h.le t.1;rw [e,iL] at h3;have h4 : dZ [t] t.1 = t.2 := by simp [dZ]
  omega
theorem OR {l : List Tk} {k : Nat} (h : k < l.length) : (eI l)[0 + (k : Int).toNat]? = some [AV.i l[k].1,AV.i l[k].2] := by simp [h]
theorem KT {N : List (Nat × List Tk)} {w : Nat} {z : Nat × List Tk} (h : w < N.length) : (kO (N.set w z))[0 + (w : Int).toNat]? = some [AV.sl z.1 0 z.2.length 2] := by simp [h]
theorem PK {N : List (Nat × List Tk)} {w : Nat} {z : Nat × List Tk} : (kO N).set (0 + (w : Int).toNat) [AV.sl z.1 0 z.2.length 2] = kO (N.set w z) := by simp [kO,oF]
theorem PA {L : OL} {i : Nat} {e : Od × AV × List Nat} (h : L[i]? = some e) (tk : List (List Tk)) : (L.map fun e => iU e.1 e.2.1).set i (iU { e.1 with tk := tk } e.2.1) = L.map fun e => iU e.1 e.2.1 := by
  apply cS;intro j;rw [bT];split
  · rename_i e1;subst e1;have hl := (aA.1 h).1;rw [if_pos (by simpa using hl),LD h]
  · rfl
end Go.Or
namespace Go.Proofs.YtdiogjgohbbllaaGreatDoor
open Go Go.Ab Go.Or
attribute [local irreducible] VC AW bQ bJ eQ AY VY C5
set_option maxHeartbeats 4000000
set_option maxRecDepth 100000 in
theorem FK {H : Hp} {pb : Nat} {bk : Bk} {A : List Nat} (hB : vE H pb bk A) (hz : VD bk) (no body n tick : Int) :
    eQ Tryz.prog 28 [.ptr pb 0,.i no,.i body,.i n,.i tick] H (L1 H pb A (.i (lE bk no body n tick).1) (lE bk no body n tick).2) := by
  have hle := hz.le;have hB1 := hB.app [.gone];have hB0 := hB;obtain ⟨po,L,h,rfl,rfl⟩ := hB1;rw [bI] at hle;have hfp := EN h no [1] hle (by decide)
  unfold lE;refine jM T Tryz.func28 rfl rfl rfl rfl ?_;by_cases hc : jH (L.map (·.1)) no [1] = 0
  · obtain ⟨⟨r0,r1⟩,_,hm,_⟩ := oQ hc;rw [bI] at r1;obtain ⟨e,he,hge⟩ := G8 (L := L) (i := no.toNat) (by omega)
    rw [hge] at hm ⊢;rw [if_pos hc,hc] at hfp;rw [if_neg (by simp [hc] : ¬ jH (L.map (·.1)) no [1] ≠ 0)]
    have hg := xK he;have ho := h.o;have q1 := hz.tk _ hm;have q2 := hz.sum.bk.1 _ hm;have hfc := MK e.1 body q1.1 q1.2 q2;have hve : iE (H ++ [AB.gone]) (.ep po (0 + no.toNat) 0 4) (.pr (HW e.1) 0) := iE.ep ho hg (.cons (.row _ _ _) (.cons (.v _) (.cons (.v _) (.cons (h.n e (aH he)).view .nil))));by_cases hn1 : n < 1
    · rw [if_pos hn1]
      (repeat' (first|refine wS ?_|refine wB ?_|refine wR ?_|refine wU ?_|(refine wC rfl ?_ ?_<;>(intro hb;(try simp only [nm] at hb);try (exfalso;omega)))|(refine rg 0 (aV ?_))|(refine rg 1 (eW rfl (dX (by exact cK T rfl rfl (by decide) (by decide) rfl rfl rfl) rfl ?_));refine tQ 21 rfl cP rfl rfl ?_;rw [jA];refine dQ rfl rfl hfp rfl ?_;rintro _ _ ⟨rfl,rfl⟩;dsimp only [eU];refine mW rfl (xW rfl (xW rfl (mY ?_))))|(refine rg 2 (mW rfl (vV (oB rfl rfl) (aV ?_))))|(refine rg 4 (mW rfl (vV (bB rfl rfl) (aV ?_))))|(refine rg 5 (aV ?_))|refine nZ ?_));all_goals first | (exfalso;omega) | exact ⟨.inl rfl,_,rfl,L1.from [.gone] ⟨rfl,_,⟨po,L,h,rfl,rfl⟩,Fr.refl _ _⟩⟩
    rw [if_neg hn1];by_cases hs : dZ e.1.tk.flatten body < n
    · rw [if_pos hs]
      (repeat' (first|refine wS ?_|refine wB ?_|refine wR ?_|refine wU ?_|(refine wC rfl ?_ ?_<;>(intro hb;(try simp only [nm] at hb);try (exfalso;omega)))|(refine rg 0 (aV ?_))|(refine rg 1 (eW rfl (dX (by exact cK T rfl rfl (by decide) (by decide) rfl rfl rfl) rfl ?_));refine tQ 21 rfl cP rfl rfl ?_;rw [jA];refine dQ rfl rfl hfp rfl ?_;rintro _ _ ⟨rfl,rfl⟩;dsimp only [eU];refine mW rfl (xW rfl (xW rfl (mY ?_))))|(refine rg 2 (mW rfl (vV (oB rfl rfl) (aV ?_))))|(refine rg 4 (mW rfl (vV (bB rfl rfl) (aV ?_))))|(refine rg 6 (eW rfl (vV (by exact mG rfl rfl hfc (.cons hve (.cons (.v _) .nil)) rfl rfl) ?_));refine mW rfl (vV (bB rfl rfl) (aV ?_)))|(refine rg 7 (aV ?_))|refine nZ ?_));all_goals first | (exfalso;omega) | exact ⟨.inl rfl,_,rfl,L1.from [.gone] ⟨rfl,_,⟨po,L,h,rfl,rfl⟩,Fr.refl _ _⟩⟩
    rw [if_neg hs];have hne0 : e.1.tk ≠ [] := fun e0 => by
      rw [e0] at hs;exact hs (by show (0 : Int) < n;omega)
    have hNe := h.n e (aH he);have hap := h.apart he;obtain ⟨o,x0,A0⟩ := e;dsimp only at hNe hne0 hap hg hve hfc hm q1 q2 hs ⊢;rcases hNe with ⟨_,ht,_⟩ | ⟨p,N0,hx,hp0,hn0,ht,hA,hnd0⟩
    · exact absurd ht hne0
    subst hx hA;have hpo := hap p aP;have hnN : n ≤ 1000000000000 := by
      have := (q2 body o.tk.flatten.length).2;rw [eA] at this;omega
    have hok0 : ∀ e,e ∈ N0 → e.2.length ≤ 1000000 ∧ ∀ t,t ∈ e.2 → 0 ≤ t.2 ∧ t.2 ≤ 1000000000000 := fun e he => by
      have hmem : e.2 ∈ o.tk := by rw [ht];exact aJ.2 ⟨e,he,rfl⟩
      exact ⟨q1.2 _ hmem,fun t htt => hz.sum.one (CM hm (jO.2 ⟨_,hmem,htt⟩))⟩
    have hN0l : N0.length ≤ 1000000 := by have := q1.1;rw [ht,bI] at this;exact this
    (repeat' (first|refine wS ?_|refine wB ?_|refine wK ?_|refine wU ?_|(refine wC rfl ?_ ?_<;>(intro hb;(try simp only [nm] at hb);try (exfalso;omega)))|(refine rg 0 (aV ?_))|(refine rg 1 (eW rfl (dX (by exact cK T rfl rfl (by decide) (by decide) rfl rfl rfl) rfl ?_));refine tQ 21 rfl cP rfl rfl ?_;rw [jA];refine dQ rfl rfl hfp rfl ?_;rintro _ _ ⟨rfl,rfl⟩;dsimp only [eU];refine mW rfl (xW rfl (xW rfl (mY ?_))))|(refine rg 2 (mW rfl (vV (oB rfl rfl) (aV ?_))))|(refine rg 4 (mW rfl (vV (bB rfl rfl) (aV ?_))))|(refine rg 6 (eW rfl (vV (by exact mG rfl rfl hfc (.cons hve (.cons (.v _) .nil)) rfl rfl) ?_));refine mW rfl (vV (bB rfl rfl) (aV ?_)))|(refine rg 8 (aV ?_))|(refine rg 9 (mW rfl (nV ?_));refine fW T rfl (vV (by exact bC T rfl rfl (eF ho hg) rfl) ?_);refine qW T rfl (mV ?_))|refine nZ ?_));all_goals try (exfalso;omega)
    refine kR (X := {x : Nat × Int × List (Nat × List Tk) × Hp // IY body n (H ++ [.gone]) p N0 x.1 x.2.1 x.2.2.1 x.2.2.2}) (fun x => [(2,.i body),(3,.i x.1.2.1),(4,.i tick),(11,.ep po (0 + no.toNat) 0 4),(13,.b (vJ x.1.2.2.1 x.1.1)),(42,.i N0.length),(43,.i x.1.1)]) (fun x => x.1.2.2.2) (fun x => N0.length - x.1.1) ⟨(0,n,N0,H ++ [.gone]),⟨bP _,rfl,rfl,rfl,⟨by dsimp only;omega,hnN⟩,hok0,hp0,hn0,aO _,fun _ _ _ _ => rfl⟩⟩ (nI.of rfl (by repeat first|exact trivial|refine ⟨rfl,?_⟩)) ?_
    rintro ⟨⟨w,m,N,X⟩,hI⟩;dsimp only at hI ⊢;have hXo : X[po]? = some (.arr (L.map fun e => iU e.1 e.2.1) 4) := by
      rw [hI.fr po (aA.1 ho).1 (fun e1 => hpo.1 e1.symm) (fun hk => (hap po (aF _ hk)).1 rfl)];exact ho
    have hXb : X[pb]? = (H ++ [AB.gone])[pb]? := hI.fr pb (aA.1 h.b).1 (fun e1 => hpo.2 e1.symm) (fun hk => (hap pb (aF _ hk)).2 rfl);have hnl := hI.nl;have hwl := hI.wl;by_cases hw : w < N.length
    · have hqo := hap N[w].1 (aF _ (by rw [← hI.ks];exact aJ.2 ⟨_,aK hw,rfl⟩))
      have hqp : N[w].1 ≠ p := fun e1 => (aN.1 hnd0).1 (by rw [← hI.ks,← e1];exact aJ.2 ⟨_,aK hw,rfl⟩)
      have hq := hI.hn _ (aK hw);have hg2 := PL hw;have hokw := hI.ok _ (aK hw);have nx := fun {j : Nat} {n' : Int} {l : List Tk} (g : OE body m N[w].2 j n' l) (hj : ¬ j < l.length) => hI.next hw hnd0 g hj [.gone]
      have hpX := hI.hp;generalize N[w] = z at *;obtain ⟨q,l0⟩ := z;dsimp only at hqo hqp hq hg2 hokw nx;have hql := (aA.1 hq).1
      (repeat' (first|refine wS ?_|refine wB ?_|refine wK ?_|(refine wC rfl ?_ ?_<;>(intro hb;(try simp only [nm] at hb);try (exfalso;omega)))|(refine rg 10 (vV (bB rfl rfl) ?_))|(refine rg 11 (mW rfl (aV ?_)))|(refine rg 12 (mW rfl (nV ?_));refine fW T rfl (vV (by exact bC T rfl rfl (eF hXo hg) rfl) ?_);refine mW rfl (vV (by exact cI T rfl rfl rfl rfl rfl (by omega) (by omega)) ?_);refine vV (by exact bC T rfl rfl (eF hpX hg2) rfl) ?_;refine qW T rfl (mV ?_))|refine nZ ?_));all_goals try (exfalso;omega)
      refine kR (X := {y : Nat × Int × List Tk // OE body m l0 y.1 y.2.1 y.2.2}) (fun y => [(2,.i body),(3,.i y.1.2.1),(4,.i tick),(11,.ep po (0 + no.toNat) 0 4),(13,.b (vJ N w)),(14,.i w),(42,.i N0.length),(43,.i w),(53,.i l0.length),(54,.i y.1.1)]) (fun y => X.set q (.arr (eI y.1.2.2) 2)) (fun y => l0.length - y.1.1) ⟨(0,m,l0),⟨bP _,rfl,rfl,hI.nn,hokw.2⟩⟩ (nI.of (T4 hq).symm (by repeat first|exact trivial|refine ⟨rfl,?_⟩)) ?_
      rintro ⟨⟨j,r,l⟩,hJ⟩;dsimp only at hJ ⊢;have hll := hJ.ll;have hXo2 : (X.set q (.arr (eI l) 2))[po]? = some (.arr (L.map fun e => iU e.1 e.2.1) 4) := fZ (fun e1 => hqo.1 e1.symm) hXo;have hpX2 : (X.set q (.arr (eI l) 2))[p]? = some (.arr (kO N) 1) := fZ (fun e1 => hqp e1.symm) hpX;have hqX2 : (X.set q (.arr (eI l) 2))[q]? = some (.arr (eI l) 2) := gI hql;by_cases hj : j < l.length
      · have hg3 := OR hj;have nxt := hJ.next hj
        have skp := hJ.skip hj;have hbn := hJ.nn;have hbt := hJ.ok _ (aK hj);generalize l[j] = t at *;obtain ⟨tb,tn⟩ := t;dsimp only at hg3 nxt skp hbt;by_cases hbd : tb = body
        · have ny := nxt hbd;clear nxt skp
          (repeat' (first|refine wS ?_|refine wB ?_|refine wK ?_|(refine wC rfl ?_ ?_<;>(intro hb;(try simp only [nm] at hb);try (exfalso;omega)))|(refine rg 13 (vV (bB rfl rfl) ?_))|(refine rg 14 (mW rfl (aV ?_)))|(refine rg 15 (mW rfl (nV ?_));refine fW T rfl (vV (by exact bC T rfl rfl (eF hXo2 hg) rfl) ?_);refine mW rfl (vV (by exact cI T rfl rfl rfl rfl rfl (by omega) (by omega)) ?_);refine vV (by exact bC T rfl rfl (eF hpX2 hg2) rfl) ?_;refine mW rfl (vV (by exact cI T rfl rfl rfl rfl rfl (by omega) (by omega)) ?_);refine aV ?_)|(refine rg 16 (mW rfl (nV ?_));refine fW T rfl (vV (by exact bC T rfl rfl (eF hqX2 hg3) rfl) ?_);refine mW rfl (vV (cT rfl rfl) ?_))|(refine rg 17 (eW rfl (nV ?_));refine fW T rfl (vV (by exact bC T rfl rfl (eF hqX2 hg3) rfl) ?_);refine vV (sD rfl rfl) (aV ?_))|(refine rg 18 (mW rfl (nV ?_));refine fW T rfl (vV (by exact bC T rfl rfl (eF hqX2 hg3) rfl) ?_);refine mW rfl (vV (gH rfl rfl (by omega) (by omega)) (nV ?_));refine fW T rfl (bH T rfl rfl rfl rfl rfl rfl (by decide) (oZ hqX2 hg3 rfl rfl) ?_))|(refine rg 19 (eW rfl (vV (gH rfl rfl (by omega) (by omega)) (aV ?_))))|(refine rg 20 (vV (eE rfl rfl (by omega) (by omega)) (mV ?_)))|refine nZ ?_));all_goals try (exfalso;omega)
          all_goals exact ⟨⟨(j + 1,_,_),ny⟩,by dsimp only;omega,nI.of (by rw [gZ];exact congrArg (fun z => X.set q (AB.arr z 2)) (JQ (i := j) (x := (tb,tn - min r tn)) rfl)) (by repeat first|exact trivial|refine ⟨rfl,?_⟩)⟩
        · have ny := skp hbd;clear nxt skp
          (repeat' (first|refine wS ?_|refine wB ?_|refine wK ?_|(refine wC rfl ?_ ?_<;>(intro hb;(try simp only [nm] at hb);try (exfalso;omega)))|(refine rg 13 (vV (bB rfl rfl) ?_))|(refine rg 14 (mW rfl (aV ?_)))|(refine rg 15 (mW rfl (nV ?_));refine fW T rfl (vV (by exact bC T rfl rfl (eF hXo2 hg) rfl) ?_);refine mW rfl (vV (by exact cI T rfl rfl rfl rfl rfl (by omega) (by omega)) ?_);refine vV (by exact bC T rfl rfl (eF hpX2 hg2) rfl) ?_;refine mW rfl (vV (by exact cI T rfl rfl rfl rfl rfl (by omega) (by omega)) ?_);refine aV ?_)|(refine rg 16 (mW rfl (nV ?_));refine fW T rfl (vV (by exact bC T rfl rfl (eF hqX2 hg3) rfl) ?_);refine mW rfl (vV (cT rfl rfl) ?_))|(refine rg 20 (vV (eE rfl rfl (by omega) (by omega)) (mV ?_)))|refine nZ ?_));all_goals try (exfalso;omega)
          all_goals exact ⟨⟨(j + 1,_,_),ny⟩,by dsimp only;omega,nI.of rfl (by repeat first|exact trivial|refine ⟨rfl,?_⟩)⟩
      · have hjl : j = l.length := by have := hJ.jl;omega
        have nz := nx hJ hj;have hdl := ER (caps := []) l (by omega) rfl rfl (fun x _ => KH x)
        rw [hll] at hdl;have hxl : q < (X.set q (.arr (eI l) 2)).length := by simpa using hql
        have hxp : p < (X.set q (.arr (eI l) 2)).length := (aA.1 hpX2).1
        (repeat' (first|refine wS ?_|refine wE ?_|(refine wC rfl ?_ ?_<;>(intro hb;(try simp only [nm] at hb);try (exfalso;omega)))|(refine rg 13 (vV (bB rfl rfl) ?_))|refine nZ ?_));all_goals try (exfalso;omega)
        (repeat' (first|(refine rE (id := 21) 137 [[],[0],[0,1],[0,1,2],[],[],[5],[5,6],[5,6,7],[],rM 5 5,rM 5 6,rM 5 7] (rM 90 13) [[],[],[],[],rM 90 4,rM 90 5,rM 90 5,rM 90 5,rM 90 5,rM 90 9,rM 90 5,rM 90 5,rM 90 5] [(12,q)] fL rfl (MU (by decide +kernel) rfl) (fA rfl rfl rfl rfl (by exact eV rfl) ?_);refine fA rfl rfl rfl rfl (by exact dR rfl rfl) ?_;refine fA rfl rfl rfl rfl (by exact eD T rfl rfl rfl) ?_;refine fA rfl rfl rfl rfl (by exact bC T rfl rfl (eF (bW (fZ (fun e1=>hqo.1 e1.symm) hXo2)) hg) rfl) ?_;refine fA rfl rfl rfl rfl (by exact eV rfl) ?_;refine fA rfl rfl rfl rfl (by exact eV rfl) ?_;refine fA rfl rfl rfl rfl (by exact dR rfl rfl) ?_;refine fA rfl rfl rfl rfl (by exact eD T rfl rfl rfl) ?_;refine fA rfl rfl rfl rfl (by exact bC T rfl rfl (eF (bW hXo2) hg) rfl) ?_;refine fA rfl rfl rfl rfl (by exact eV rfl) ?_;refine fA rfl rfl rfl rfl (by exact cI T rfl rfl rfl rfl rfl (by omega) (by omega)) ?_;refine fA rfl rfl rfl rfl (by exact bC T rfl rfl (eF (bW hpX2) hg2) rfl) ?_;refine wH rfl rfl rfl rfl hxl (by exact yJ [q] rfl rfl (J9 hdl) (fun _=>rfl) rfl (aN.2 ⟨cG,aU⟩) (fun _=>⟨.inr (cN (bW hqX2) rfl (nX _)),trivial⟩) (by simp) rfl (fun _ _=>rfl) rfl rfl) ?_;refine xZ rfl rfl rfl (by exact rfl) ?_;refine vV (by exact cI T rfl rfl rfl rfl rfl (by omega) (by omega)) ?_;refine bH T rfl rfl rfl rfl rfl rfl (by decide) (oZ (bW (fZ (fun e1=>hqp e1.symm) hpX2)) hg2 rfl rfl) ?_)|refine nZ ?_));all_goals try (exfalso;omega)
        have hXp : p < (X.set q (.arr (eI (eY zq l)) 2)).length := by simpa using hxp
        have hfl := IJ (q := q) (l := eY zq l) hw;have hgk := KT (z := (q,eY zq l)) hw
        refine lG [(2,.i body),(3,.i r),(4,.i tick),(11,.ep po (0 + no.toNat) 0 4),(13,.b (vJ N w)),(14,.i w),(42,.i N0.length),(43,.i w)] (((X.set q (.arr (eI (eY zq l)) 2)).set p (.arr (kO (N.set w (q,eY zq l))) 1)) ++ [.gone]) (nI.of (by
          show List.set (List.set (List.set X q (.arr (eI l) 2)) q (.arr ((eI (eY zq l)).map (AV.mapL _)) 2) ++ [AB.gone]) p (.arr ((kO N).set (0 + (w : Int).toNat) [AV.sl q 0 (eY zq l).length 2]) 1) = _
          rw [gS _ (nX _),gZ,uI _ _ hXp,PK (z := (q,eY zq l))]) (by repeat first|exact trivial|refine ⟨rfl,?_⟩)) ?_
        have hX2o : (((X.set q (.arr (eI (eY zq l)) 2)).set p (.arr (kO (N.set w (q,eY zq l))) 1)) ++ [AB.gone])[po]? = some (.arr (L.map fun e => iU e.1 e.2.1) 4) := bW (fZ (fun e1 => hpo.1 e1.symm) (fZ (fun e1 => hqo.1 e1.symm) hXo));have hX2p := nz.hp;generalize (((X.set q (.arr (eI (eY zq l)) 2)).set p (.arr (kO (N.set w (q,eY zq l))) 1)) ++ [AB.gone]) = X2 at *;generalize eY zq l = kl at *;cases hfw : vJ N w with
        | true =>
          rw [hfw,Bool.true_or] at hfl
          (repeat' (first|(refine rg 22 (XR ?_);(iterate 9 refine gF ?_);refine pW rfl (aV ?_))|(refine rg 23 (vV (eE rfl rfl (by omega) (by omega)) (mV ?_)))|refine nZ ?_));all_goals try (exfalso;omega)
          all_goals exact ⟨⟨(w + 1,r,_,X2),nz⟩,by dsimp only;omega,nI.of rfl (by dsimp only;rw [hfl];(repeat (first | exact trivial | refine ⟨rfl,?_⟩)))⟩
        | false =>
          rw [hfw,Bool.false_or] at hfl
          (repeat' (first|(refine rg 22 (eW rfl (yN rfl (gT (nV ?_))));refine yP T rfl (yV (by exact bC T rfl rfl (eF hX2o hg) rfl) ?_);refine yN rfl (yV (by exact cI T rfl rfl rfl rfl rfl (by omega) (by omega)) ?_);refine yV (by exact bC T rfl rfl (eF hX2p hgk) rfl) ?_;refine gT (qW T rfl (yV (gJ rfl rfl) (pW rfl (aV ?_)))))|(refine rg 23 (vV (eE rfl rfl (by omega) (by omega)) (mV ?_)))|refine nZ ?_));all_goals try (exfalso;omega)
          all_goals exact ⟨⟨(w + 1,r,_,X2),nz⟩,by dsimp only;omega,nI.of rfl (by dsimp only;rw [hfl,LM kl];(repeat (first | exact trivial | refine ⟨rfl,?_⟩)))⟩
    · have hfin := hI.fin hw;have hmf : (L.map (·.1)).getD no.toNat iD = o := hge;have hno : no.toNat < L.length := by omega
      have hpol : po < X.length := (aA.1 hXo).1;have hfrk : ∀ k,k < (H ++ [AB.gone]).length → k ≠ po → k ∉ p :: N0.map (·.1) → X[k]? = (H ++ [AB.gone])[k]? := fun k hk _ hA => hI.fr k hk (fun e1 => hA (e1 ▸ aP)) (fun h1 => hA (aF _ h1));unfold oA;rw [ht,hfin.2,hfin.1];cases hfw : vJ N w with
      | true =>
        rw [Bool.not_true,if_neg (by decide)]
        have key : L1 H pb (wD pb po L) (.i 0) ((L.map (·.1)).set no.toNat { o with tk := N.map (·.2) }) (.i 0) X := by
          refine L1.from [.gone] ⟨rfl,wD pb po (L.set no.toNat ({ o with tk := N.map (·.2) },.sl p 0 N0.length 1,p :: N0.map (·.1))),⟨po,_,h.upd he _ _ _ hXb (by rw [hXo];congr 1;exact congrArg (AB.arr · 4) (PA he _).symm) hfrk (.inr ⟨p,N,by rw [hnl],hI.hp,hI.hn,rfl,by rw [hI.ks],hnd0⟩) (fun k hk => .inl hk) hnd0,by rw [U1],rfl⟩,?_⟩
          exact h.fr he hI.le hXb hfrk (fun k hk => .inl hk)
        (repeat' (first|refine wS ?_|refine wK ?_|refine wR ?_|refine wE ?_|refine wU ?_|(refine wC rfl ?_ ?_<;>(intro hb;(try simp only [nm] at hb);try (exfalso;omega)))|(refine rg 10 (vV (bB rfl rfl) ?_))|(refine rg 24 (mW rfl (vV (eJ rfl) ?_)))|(refine rg 28 (aV ?_))|refine nZ ?_));all_goals try (exfalso;omega)
        all_goals exact ⟨.inl rfl,_,rfl,key⟩
      | false =>
        rw [Bool.not_false,if_pos rfl];have key : ∀ st X',X' = X.set po (.arr ((L.map fun e => iU e.1 e.2.1).set no.toNat (iU { o with st := st,tk := [] } .nils)) 4) → L1 H pb (wD pb po L) (.i 0) ((L.map (·.1)).set no.toNat { o with st := st,tk := [] }) (.i 0) X' := fun st X' hX' => by
          subst hX';refine L1.from [.gone] ⟨rfl,wD pb po (L.set no.toNat ({ o with st := st,tk := [] },.nils,[])),⟨po,_,h.upd he _ _ [] ((eL h.ne).trans hXb) (gI hpol) (fun k hk h1 h2 => (eL h1).trans (hfrk k hk h1 h2)) (.inl ⟨rfl,rfl,rfl⟩) (fun k hk => nomatch hk) aU,by rw [U1],rfl⟩,?_⟩
          exact h.fr he (by rw [eC];exact hI.le) ((eL h.ne).trans hXb) (fun k hk h1 h2 => (eL h1).trans (hfrk k hk h1 h2)) (fun k hk => nomatch hk)
        have hS := fun {a : List AV} => (gI hpol : (X.set po (.arr ((L.map fun e => iU e.1 e.2.1).set (0 + no.toNat) a) 4))[po]? = _);have hG := fun {a : List AV} => (show ((L.map fun e => iU e.1 e.2.1).set (0 + no.toNat) a)[0 + no.toNat]? = some a by rw [Nat.zero_add,fK (by simpa using hno)])
        (repeat' (first|refine wS ?_|refine wE ?_|refine wT ?_|(refine wC rfl ?_ ?_<;>(intro hb;(try simp only [nm] at hb);try (exfalso;omega)))|(refine rg 10 (vV (bB rfl rfl) ?_))|(refine rg 24 (mW rfl (vV (eJ rfl) ?_)))|(refine rg 25 (eW rfl (nV ?_));refine fW T rfl (bH T rfl rfl rfl rfl rfl rfl (by decide) (oZ hXo hg rfl rfl) (nV ?_));refine fW T rfl (fW T rfl (bH T rfl rfl rfl rfl rfl rfl (by decide) (oZ hS hG rfl rfl) ?_)))|refine nZ ?_));all_goals try (exfalso;omega)
        refine lG [(4,.i tick),(11,.ep po (0 + no.toNat) 0 4)] (X.set po (.arr ((L.map fun e => iU e.1 e.2.1).set (0 + no.toNat) (iU { o with st := 3,tk := [] } .nils)) 4)) (nI.of (by rw [gZ,gZ]) (by repeat first|exact trivial|refine ⟨rfl,?_⟩)) ?_
        by_cases htd : tick ≤ o.due
        · rw [if_pos htd]
          (repeat' (first|refine wS ?_|refine wR ?_|(refine wC rfl ?_ ?_<;>(intro hb;(try simp only [nm] at hb);try (exfalso;omega)))|(refine rg 26 (eW rfl (nV ?_));refine fW T rfl (fW T rfl (vV (by exact bC T rfl rfl (eF hS hG) rfl) ?_));refine vV (iP rfl rfl) ?_)|(refine rg 27 (mW rfl (nV ?_));refine fW T rfl (fW T rfl (bH T rfl rfl rfl rfl rfl rfl (by decide) (oZ hS hG rfl rfl) ?_)))|(refine rg 28 (aV ?_))|refine nZ ?_));all_goals try (exfalso;omega)
          all_goals exact ⟨.inl rfl,_,rfl,key 2 _ (by rw [gZ,gZ,Nat.zero_add])⟩
        · rw [if_neg htd]
          (repeat' (first|refine wS ?_|refine wK ?_|refine wR ?_|(refine wC rfl ?_ ?_<;>(intro hb;(try simp only [nm] at hb);try (exfalso;omega)))|(refine rg 26 (eW rfl (nV ?_));refine fW T rfl (fW T rfl (vV (by exact bC T rfl rfl (eF hS hG) rfl) ?_));refine vV (iP rfl rfl) ?_)|(refine rg 28 (aV ?_))|refine nZ ?_));all_goals try (exfalso;omega)
          all_goals exact ⟨.inl rfl,_,rfl,key 3 _ (by rw [Nat.zero_add])⟩
  · rw [if_neg hc] at hfp;rw [if_pos hc];generalize jH (L.map (·.1)) no [1] = c at *
    (repeat' (first|refine wS ?_|refine wB ?_|refine wR ?_|(refine wC rfl ?_ ?_<;>(intro hb;(try simp only [nm] at hb);try (exfalso;omega)))|(refine rg 0 (aV ?_))|(refine rg 1 (eW rfl (dX (by exact cK T rfl rfl (by decide) (by decide) rfl rfl rfl) rfl ?_));refine tQ 21 rfl cP rfl rfl ?_;rw [jA];refine dQ rfl rfl hfp rfl ?_;rintro _ _ ⟨rfl,rfl⟩;dsimp only [eU];refine mW rfl (xW rfl (xW rfl (mY ?_))))|(refine rg 2 (mW rfl (vV (oB rfl rfl) (aV ?_))))|(refine rg 3 (mW rfl (aV ?_)))|refine nZ ?_));all_goals first | (exfalso;omega) | exact ⟨.inl rfl,_,rfl,L1.from [.gone] ⟨rfl,_,⟨po,L,h,rfl,rfl⟩,Fr.refl _ _⟩⟩
end Go.Proofs.YtdiogjgohbbllaaGreatDoor
namespace Go.Ab
open Go Go.MapKept
section
variable {P : Program} {env : cJ} {h : Hp}
variable {d : Option Nat} {ty : TypeId} {pos : String} {af : Array Edge} {g : Option (Nat × Bool)}
variable {t kt et : TypeId} {good : Value → Prop} {x y : Operand} {i : Nat} {kv : Value} {ks : List Value} {vs : List AV} {v : AV}
end
end Go.Ab
namespace Go.Or
open Go Go.Ab
theorem OS (tk : List (List Tk)) : (F3 tk).flatten.all AV.one = true := by
  induction tk with
  | nil => rfl
  | cons x l ih => exact ih
theorem T1 (tk : List (List Tk)) : ∀ e,e ∈ F3 tk → AV.idfL e = true := by intro e he;obtain ⟨x,_,rfl⟩ := aJ.1 he;rfl
theorem SQ (l : List Tk) : (AB.arr (eI l) 2).rf = true := aT.2 fun e he => by obtain ⟨i,_,rfl⟩ := aJ.1 he;rfl
theorem RX : ∀ l : List Tk, AV.idfL (eI l).flatten = true
  | [] => rfl
  | x :: l => RX l
end Go.Or
namespace Go.Proofs.YtdiogjgohbbllaaGreatDoor
open Go Go.Ab Go.Or
attribute [local irreducible] VC AW bQ bJ eQ
set_option maxHeartbeats 4000000
abbrev VV (o : Od) : AV := .agg [.rowE (bZ o.ws) 3,.i o.due,.i o.st]
theorem ET (tk : List (List Tk)) (hl : tk.length ≤ 1000000) : bJ Tryz.prog 96 [nK tk] [] (.sl 0 0 tk.length 1) [.arr (F3 tk) 1] := by
  have hll : (F3 tk).length = tk.length := nE tk;refine dB T Tryz.func96 rfl rfl rfl rfl ?_
  repeat' (first|refine wS ?_|refine wK ?_|refine wT ?_|refine wU ?_|(refine rg 0 (aV ?_))|(refine rg 1 (mV ?_);refine wY T rfl rfl rfl rfl fun b hb=>?_;cases b)|refine nZ ?_)
  · (repeat' (first|refine wR ?_|(refine rg 3 (dX (by exact cK T rfl rfl (by decide) (by decide) rfl rfl rfl) rfl ?_);refine mW rfl (iK T rfl rfl rfl rfl rfl rfl (by decide) (.row (uN tk)) (OS tk) (by simp;omega) (by simp;omega) rfl ?_);refine aV ?_)|(refine nZ ?_)));exact ⟨.inl rfl,[1],_,rfl,(by show AV.sl 1 0 (0 + (F3 tk).length) 1 = AV.sl 1 0 tk.length 1;simp),rfl,⟨.inr (cN rfl rfl (T1 _)),trivial⟩,by decide,mR _⟩
  · have hl0 : tk = [] := iW.1 (Classical.byContradiction fun h => by have := hb (by omega);cases this)
    subst hl0
    (repeat' (first|refine wR ?_|(refine rg 2 (vV (jG rfl) (E8 2 1 rfl (by decide) ?_)))|refine nZ ?_));exact ⟨.inl rfl,[0],_,rfl,rfl,rfl,⟨.inr (cN rfl rfl (T1 _)),trivial⟩,by decide,mR _⟩
end Go.Proofs.YtdiogjgohbbllaaGreatDoor
namespace Go.Or
open Go Go.Ab
theorem VH {l : List Wt} {i : Nat} (h : i < l.length) : (bZ l)[(i : Int).toNat]? = some [AV.i (l.getD i (0,0,0)).1,AV.i (l.getD i (0,0,0)).2.1,AV.i (l.getD i (0,0,0)).2.2] := by
  rw [bK,aR,aB h,aD,aB h];rfl
end Go.Or
namespace Go.Proofs.YtdiogjgohbbllaaGreatDoor
open Go Go.Ab Go.Or
attribute [local irreducible] VC AW bQ bJ eQ
set_option maxHeartbeats 4000000
end Go.Proofs.YtdiogjgohbbllaaGreatDoor
namespace Go.Ab
open Go
section
variable {P : Program} {n : Nat × Nat} {ops : Array Oper} {rest : List Oper} {env : cJ} {h : Hp} {K : cJ → Hp → Prop}
variable {d : Option Nat} {ty : TypeId} {pos : String} {af : Array Edge}
theorem HB {t t2 e k off len sz dd : Nat} {x y : Operand} (T : lJ P) (hx : evu env x = some (.sl k off len sz)) (hy : evu env y = some .nils) (ht : T.elem t = some e) (hd : zI (some dd) n = true)
    (hk : ∀ b : Bool,(0 < len → b = false) → VC P n ops rest ((dd,.b b) :: env) h K) : VC P n ops (⟨some dd,.binOp .eql t x y t2,ty,pos,af,none⟩ :: rest) env h K := by
  intro c ρ S a w Q s hQ;refine wpList_plain rfl fun K' hK' => ?_
  have p := s.pre;have h3 := p.evu hx;simp only [R] at h3;obtain ⟨ad,cap,h4,hlc,hn⟩ := h3;have h5 := pO (p.evu hy);have run : (execOp a.eval ⟨some dd,.binOp .eql t x y t2,ty,pos,af,none⟩).run P w = .ok (.value (.bool ad.isNone)) w := by
    have he := Lib.run_eql_slice_nil w t e ad len cap 0 0 (T.elemOk _ _ ht);have hg : (eqGuard .eql t x y (.slice ad len cap) (.slice none 0 0)).run P w = .ok () w := by cases ad <;> rfl
    simp [execOp,h4,h5,hg,he]
  have hv := hk ad.isNone (fun h0 => by
    rcases hn with ⟨h1,_⟩ | ⟨b,o,_,h1,_⟩
    · omega
    · rw [h1];rfl)
  unfold Oper.wp;rw [run];have hs := s.post (d := some dd) (m := 0) (x := .b ad.isNone) (new := []) (y := .bool ad.isNone) hd ⟨iV.refl _ _,rfl,fun _ _ => rfl,fun _ h => h,fun _ h => .inl h,fun k p h1 h2 => by omega,fun k k' p p' h1 h2 => by omega,jN _,fun j b hb => by simp at hb⟩
  rw [List.append_nil] at hs;exact hK' _ _ (hv c ρ S _ w Q hs hQ)
theorem M0 {x : Operand} {f : FuncId} {fs cs us xs : List AV} {args : List Operand} {ats : Array TypeId} {Φ : AV → Hp → Prop} (hx : evu env x = some (.clo (.func f) fs cs)) (ha : V4 env args = some us)
    (hc : eQ P f xs [] Φ) (hv : fR h (fs ++ us ++ cs) xs) (hr : ∀ res hout,Φ res hout → res.rf = true ∧ ∀ b,b ∈ hout → b.rf = true) (hd : zI d n = true)
    (hk : ∀ res hout,Φ res hout → VC P n ops rest (eU d (res.map (· + h.length)) env) (h ++ hout.map (AB.map (· + h.length))) K) :
    VC P n ops (⟨d,.call { callee := .value x,args := args.toArray,argTypes := ats },ty,pos,af,none⟩ :: rest) env h K := by
  intro c ρ S a w Q s hQ;refine wpList_plain rfl fun K' hK' => ?_
  have p := s.pre;have hxv := p.evu hx;simp only [R] at hxv;obtain ⟨ys,zs,e1,h1,h2⟩ := hxv;have hall : RL S w (fs ++ us ++ cs) ρ (ys.toList ++ args.map a.eval ++ zs.toList) := eB (eB h1 (kX p ha)) h2;obtain ⟨hf,hc⟩ := hc;have hargs := hY p.blk hv hall;have hS1w : ∀ b,(S b ∨ fQ h ρ b) → b < w.heap.size := fun b hb => by
    rcases hb with hb | ⟨k,x,o,_,_,hb⟩
    · exact p.stab b hb
    · exact p.rng k _ hb
  have hs0 : HS (gM w (fun _ => none) (fun b => S b ∨ fQ h ρ b) []) (fun _ => none) (fun b => S b ∨ fQ h ρ b) [] w := ⟨fun _ _ => rfl,(fun _ _ h => by cases h),(fun k b hb => by simp at hb),(fun k b p hb => by simp at hb),(fun k _ b _ _ _ hb => by simp at hb),hS1w,iV.refl _ _,fun _ h => h,fun _ h => .inl h,aO _,(fun _ h => by simp [gM] at h),p.glob.st fun _ h => .inl h⟩
  have hcall := hc (fun _ => none) (fun b => S b ∨ fQ h ρ b) w _ hs0 hargs;unfold Oper.wp;have hrun : (execOp a.eval ⟨d,.call { callee := .value x,args := args.toArray,argTypes := ats },ty,pos,af,none⟩).run P w = .ok (.enter f (ys.toList ++ args.map a.eval ++ zs.toList).toArray) w := by
    have e2 : (ys ++ (args.toArray.map a.eval) ++ zs) = (ys.toList ++ args.map a.eval ++ zs.toList).toArray := by
      apply Array.ext';simp
    simp only [execOp,resolve,e1,Deferred.ofValue,Sem.run_bind,Sem.run_pure,Result.andThen_ok,invoke];rw [e2];exact lL hf
  rw [hrun];simp only [Oper.upon];refine hcall.mono ?_;rintro e w' ⟨res,hout,hΦ,y,ρ',S',rfl,hs,hy⟩;simp only;obtain ⟨r1,r2⟩ := hr res hout hΦ;have hng : ∀ b,b ∈ hout → b ≠ .gone := fun b hb e => by
    have := r2 b hb;rw [e] at this;simp [AB.rf] at this
  have hM : ∀ b,(gM w (fun _ => none) (fun b => S b ∨ fQ h ρ b) []).M b → w.heap.size ≤ b := fun b hb => by
    rcases hb with hb | ⟨k,x,o,hb,_⟩
    · exact hb
    · simp at hb
  have hext : iV (fun _ => False) w w' := hs.ext.mono fun b hb hm => by have := hM b hm;simp [gM] at hb;omega
  have pl : ∀ k r,ρ' k = some r → (ρ.join ρ' h.length hout.length) (k + h.length) = some r := fun k r hk => by
    have hlt : k < hout.length := by
      rcases fY k hout.length with h | h
      · exact h
      · rw [hs.dom k h] at hk;cases hk
    unfold Pl.join;rw [if_pos ⟨by omega,by omega⟩,show k + h.length - h.length = k by omega];exact hk
  have shift : ∀ {S2 : Nat → Prop} {x : AV} {y : Value},R S2 w' x ρ' y → R S2 w' (x.map (· + h.length)) (ρ.join ρ' h.length hout.length) y := fun {S2 x y} hx => uG (· + h.length) _ x y (iS (fun _ h => h) (fun _ _ => rfl) x ρ' _ y (fun k r hk => pl k r hk) (fun _ _ _ _ _ h => h) hx);have shiftB : ∀ {S2 : Nat → Prop} {b : AB} {pp},RB S2 w' ρ' pp b → RB S2 w' (ρ.join ρ' h.length hout.length) pp (b.map (· + h.length)) := fun {S2 b pp} hb => yR (· + h.length) _ (RB.later (ρ := ρ') (S := S2) ⟨fun k r hk => pl k r hk,fun _ h => h,fun _ _ => rfl,fun _ _ _ _ _ h => h⟩ (fun _ _ _ => rfl) hb);have hpost : zZ ρ (ρ.join ρ' h.length hout.length) S S w w' h.length hout.length (res.map (· + h.length)) (hout.map (AB.map (· + h.length))) y := by
    refine ⟨hext,by simp,fun k hk => ?_,fun _ h => h,fun _ h => .inl h,fun k r hk1 hk2 hr => ?_,fun k k' r r' a1 a2 a3 a4 hr hr' e => ?_,shift (CP ρ' _ _ r1 hy),fun j b hb => ?_⟩
    · unfold Pl.join;rw [if_neg (by omega)]
    · unfold Pl.join at hr;rw [if_pos ⟨hk1,hk2⟩] at hr;have hlt : k - h.length < hout.length := by omega
      have hget := aB hlt;have hl := hs.live (k - h.length) _ r hget (hng _ (aK hlt)) hr;have hm := hM _ hl.1;exact ⟨hm,hs.rng _ r hr,fun hs' => by have := p.stab _ hs';omega⟩
    · unfold Pl.join at hr hr';rw [if_pos ⟨a1,a2⟩] at hr;rw [if_pos ⟨a3,a4⟩] at hr';have h1 := aB (l := hout) (i := k - h.length) (by omega)
      have h2 := aB (l := hout) (i := k' - h.length) (by omega)
      have := hs.inj (k - h.length) (k' - h.length) _ _ r r' h1 h2 (hng _ (aK _)) (hng _ (aK _)) hr hr' e;omega
    · simp only [aR,bY] at hb;obtain ⟨b',h3,rfl⟩ := hb;have hlt := (aA.1 h3).1;have e2 : (ρ.join ρ' h.length hout.length) (h.length + j) = ρ' j := by
        unfold Pl.join;rw [if_pos ⟨by omega,by omega⟩,show h.length + j - h.length = j by omega]
      rw [e2];exact shiftB (GV (r2 b' (aH h3)) (hs.blk j b' h3))
  exact hK' _ _ (hk res hout hΦ c _ S _ w' Q (s.post hd hpost) hQ)
end
end Go.Ab
namespace Go.Or
open Go Go.Ab
structure CY (tk : List (List Tk)) (N : List (Nat × List Tk)) (X : Hp) : Prop where
  kl : N.length ≤ tk.length
  eq : N.map (·.2) = tk.take N.length
  ho : X[0]? = some (.arr (kO N ++ (F3 tk).drop N.length) 1)
  hn : qF X N
  nd : (0 :: N.map (·.1)).Nodup
  rf : ∀ (k : Nat) (b : AB),X[k]? = some b → k ≠ 0 → b.rf = true
theorem AI {α : Type} {A B : List α} {x : α} {k : Nat} (hk : k = A.length) (hB : B ≠ []) : (A ++ B).set k x = A ++ x :: B.drop 1 := by
  subst hk;cases B with
  | nil => exact absurd rfl hB
  | cons b B => simp
theorem CY.get {tk : List (List Tk)} {N : List (Nat × List Tk)} {X : Hp} (h : CY tk N X) (hl : N.length < tk.length) : (kO N ++ (F3 tk).drop N.length)[0 + (N.length : Int).toNat]? = some [AV.rowE (eI tk[N.length]) 2] := by
  rw [Nat.zero_add,bK,aE (by simp),dJ]
  simp [hl]
theorem CY.next {tk : List (List Tk)} {N : List (Nat × List Tk)} {X : Hp} (h : CY tk N X) (hl : N.length < tk.length) :
    CY tk (N ++ [(X.length,tk[N.length])]) ((X ++ [AB.arr (eI tk[N.length]) 2]).set 0 (AB.arr ((kO N ++ (F3 tk).drop N.length).set (0 + (N.length : Int).toNat) [AV.sl X.length 0 tk[N.length].length 2]) 1)) := by
  have h0 : 0 < X.length := (aA.1 h.ho).1;have hlt : ∀ e,e ∈ N → e.1 < X.length := fun e he => (aA.1 (h.hn e he)).1;have hnd := aN.1 h.nd;refine ⟨by rw [aC];exact hl,?_,?_,fun e he => ?_,?_,fun k b hb hk0 => ?_⟩
  · rw [cO,aC,bE,aX hl,h.eq];rfl
  · rw [gI (by simp)]
    congr 2;rw [Nat.zero_add,bK,AI (by simp) (by rw [Ne,List.drop_eq_nil_iff];simp;omega),CV,show kO (N ++ [(X.length,tk[N.length])]) = kO N ++ [[AV.sl X.length 0 tk[N.length].length 2]] from cO,aC,bE]
    simp
  · rcases bD.1 he with he | he
    · exact fZ (fun e1 => hnd.1 (by rw [← e1];exact aJ.2 ⟨e,he,rfl⟩)) (bW (h.hn e he))
    · rw [bL.1 he];exact fZ (by dsimp only;omega) cP
  · rw [cO,aN];refine ⟨fun hm => ?_,?_⟩
    · rcases bD.1 hm with hm | hm
      · exact hnd.1 hm
      · simp at hm;omega
    · rw [dY];refine ⟨hnd.2,by simp,fun a ha b hb e1 => ?_⟩
      obtain ⟨e,he,rfl⟩ := aJ.1 ha;simp at hb;have := hlt e he;omega
  · rw [eL hk0] at hb;rcases fY k X.length with hkl | hkl
    · rw [iJ hkl] at hb;exact h.rf k b hb hk0
    · have hkl2 := (aA.1 hb).1;rw [aC,bE] at hkl2;obtain rfl : k = X.length := by omega
      rw [cP] at hb;cases hb;exact SQ _
def JE (tk : List (List Tk)) (r : AV) (o : Hp) : Prop := ∃ N,r = .sl 0 0 tk.length 1 ∧ N.length = tk.length ∧ tk = N.map (·.2) ∧ o[0]? = some (.arr (kO N) 1) ∧ qF o N ∧ (0 :: N.map (·.1)).Nodup ∧ ∀ b,b ∈ o → b.rf = true
theorem CY.fin {tk : List (List Tk)} {N : List (Nat × List Tk)} {X : Hp} (h : CY tk N X) (hl : ¬ N.length < tk.length) : JE tk (.sl 0 0 tk.length 1) X := by
  have hkl := h.kl;have heq := h.eq;have ho := h.ho;rw [aY (by omega)] at heq
  rw [cW (by simp;omega),List.append_nil] at ho
  refine ⟨N,rfl,by omega,heq.symm,ho,h.hn,h.nd,fun b hb => ?_⟩
  obtain ⟨k,hk⟩ := bR.1 hb;by_cases h0 : k = 0
  · subst h0;rw [ho] at hk;cases hk;exact aT.2 fun e he => by obtain ⟨i,_,rfl⟩ := aJ.1 he;rfl
  · exact h.rf k b hk h0
structure RH (H : Hp) (L0 : OL) (pb po : Nat) (L : OL) (X : Hp) : Prop where
  kl : L.length ≤ L0.length
  eq : L.map (·.1) = (L0.map (·.1)).take L.length
  le : H.length ≤ X.length
  fr : ∀ k,k < H.length → X[k]? = H[k]?
  b : X[pb]? = some (.cells [.sl po 0 L0.length 4])
  o : X[po]? = some (.arr ((L.map fun e => iU e.1 e.2.1) ++ (L0.map fun e => iU e.1 e.2.1).drop L.length) 4)
  n : ∀ e,e ∈ L → kB X e.2.1 e.1.tk e.2.2
  nd : (pb :: po :: L.flatMap (·.2.2)).Nodup
  ge : ∀ k,k ∈ wD pb po L → H.length ≤ k
theorem RH.get {H : Hp} {L0 : OL} {pb po : Nat} {L : OL} {X : Hp} (h : RH H L0 pb po L X) (hl : L.length < L0.length) : ((L.map fun e => iU e.1 e.2.1) ++ (L0.map fun e => iU e.1 e.2.1).drop L.length)[0 + (L.length : Int).toNat]? = some (iU L0[L.length].1 L0[L.length].2.1) := by
  rw [Nat.zero_add,bK,aE (by simp),dJ]
  simp [hl]
theorem RH.next {H : Hp} {L0 : OL} {pb po : Nat} {L : OL} {X Z : Hp} (h : RH H L0 pb po L X) (hl : L.length < L0.length) {x : AV} {B : List Nat} (hn : kB (X ++ Z) x L0[L.length].1.tk B) (hB : ∀ k,k ∈ B → X.length ≤ k) :
    RH H L0 pb po (L ++ [(L0[L.length].1,x,B)]) ((X ++ Z).set po (AB.arr (((L.map fun e => iU e.1 e.2.1) ++ (L0.map fun e => iU e.1 e.2.1).drop L.length).set (0 + (L.length : Int).toNat) (iU L0[L.length].1 x)) 4)) := by
  have h0 : po < X.length := (aA.1 h.o).1;have h1 : pb < X.length := (aA.1 h.b).1;have hnd := h.nd;simp only [aN,aQ,not_or] at hnd;have hlt : ∀ k,k ∈ L.flatMap (·.2.2) → k < X.length := fun k hk => by
    obtain ⟨e,he,hk⟩ := dK.1 hk;exact (h.n e he).lt k hk
  have hle := h.le;have hpo := h.ge po (by simp)
  have hg : ∀ k,k ∈ wD pb po L → H.length ≤ k := h.ge;refine ⟨by rw [aC];exact hl,?_,by rw [eC,aC];omega,fun k hk => by rw [eL (by omega),iJ (by omega)];exact h.fr k hk,?_,?_,fun e he => ?_,?_,fun k hk => ?_⟩
  · rw [cO,aC,bE,aX (by simpa using hl),h.eq];simp
  · exact fZ hnd.1.1 (bW h.b)
  · rw [gI (by simp;omega)]
    congr 2;rw [Nat.zero_add,bK,AI (by simp) (by rw [Ne,List.drop_eq_nil_iff];simp;omega),CV,cO,aC,bE]
    simp
  · rcases bD.1 he with he | he
    · refine (h.n e he).frame fun k hk => ?_
      have hm : k ∈ L.flatMap (·.2.2) := dK.2 ⟨e,he,hk⟩;rw [eL (fun e1 : k = po => hnd.2.1 (e1 ▸ hm)),iJ (hlt k hm)]
    · rw [bL.1 he];exact hn.frame fun k hk => eL (by have := hB k hk;omega)
  · rw [fE];simp only [fI,jP,List.append_nil,aN,aQ,not_or,bD,dY];refine ⟨⟨hnd.1.1,hnd.1.2,fun hm => by have := hB _ hm;omega⟩,⟨hnd.2.1,fun hm => by have := hB _ hm;omega⟩,hnd.2.2,hn.nd,fun a ha b hb e1 => ?_⟩
    have := hlt a ha;have := hB b hb;omega
  · rcases aQ.1 hk with rfl | hk
    · exact hg _ (by simp)
    rcases aQ.1 hk with rfl | hk
    · exact hpo
    rw [fE] at hk;rcases bD.1 hk with hk | hk
    · exact hg k (aF _ (aF _ hk))
    · simp only [fI,jP,List.append_nil] at hk;have := hB k hk;omega
theorem BB : ∀ {L : OL}, (∀ e, e ∈ L → e.2.1 = .nils ∨ ∃ p m, e.2.1 = .sl p 0 m 1) → (L.map fun e => iU e.1 e.2.1).flatten.all AV.one = true
  | [],_ => rfl
  | e :: L,h => by
    have ih := BB fun e he => h e (aF _ he);obtain ⟨o,x,A⟩ := e;rcases h _ aP with h1 | ⟨p,m,h1⟩
    · dsimp only at h1;subst h1;exact ih
    · dsimp only at h1;subst h1;exact ih
def SH (H : Hp) (bk : Bk) (r : AV) (o : Hp) : Prop := ∃ pb A,r = .ptr pb 0 ∧ vE o pb bk A ∧ (∀ k,k ∈ A → H.length ≤ k) ∧ H.length ≤ o.length ∧ ∀ k,k < H.length → o[k]? = H[k]?
theorem RH.fin {H : Hp} {L0 : OL} {pb po : Nat} {L : OL} {X : Hp} (h : RH H L0 pb po L X) (hl : ¬ L.length < L0.length) : SH H (L0.map (·.1)) (.ptr pb 0) X := by
  have hkl := h.kl;have heq := h.eq;have ho := h.o;rw [aY (by simp;omega)] at heq
  rw [cW (by simp;omega),List.append_nil] at ho
  have hll : L.length = L0.length := by omega
  exact ⟨pb,_,rfl,⟨po,L,⟨by rw [hll];exact h.b,ho,h.n,h.nd⟩,heq.symm,rfl⟩,h.ge,h.le,h.fr⟩
theorem JE.rf {tk : List (List Tk)} {r : AV} {o : Hp} (h : JE tk r o) : r.rf = true ∧ ∀ b,b ∈ o → b.rf = true := by
  obtain ⟨N,rfl,_,_,_,_,_,h7⟩ := h;exact ⟨rfl,h7⟩
theorem JE.nest {tk : List (List Tk)} {r : AV} {o : Hp} (h : JE tk r o) (X : Hp) : ∃ B,kB (X ++ o.map (AB.map (· + X.length))) (.sl (0 + X.length) 0 tk.length 1) tk B ∧ ∀ k,k ∈ B → X.length ≤ k := by
  obtain ⟨N,h1,h2,h3,h4,h5,h6,_⟩ := h;have hn : kB o (.sl 0 0 N.length 1) tk (0 :: N.map (·.1)) := .inr ⟨0,N,rfl,h4,h5,h3,rfl,h6⟩;have hs := hn.shift (H := X);rw [h2] at hs;exact ⟨_,hs,fun k hk => by obtain ⟨m,_,rfl⟩ := aJ.1 hk;omega⟩
end Go.Or
namespace Go.Proofs.YtdiogjgohbbllaaGreatDoor
open Go Go.Ab Go.Or
attribute [local irreducible] VC AW bQ bJ eQ
set_option maxHeartbeats 4000000
theorem CF (tk : List (List Tk)) (h1 : tk.length ≤ 1000000) (h2 : ∀ l,l ∈ tk → l.length ≤ 1000000) : eQ Tryz.prog 46 [nK tk] [] (JE tk) := by
  have hcl := ET tk h1;have hll := nE tk;refine jM T Tryz.func46 rfl rfl rfl rfl ?_
  (repeat' (first|refine wS ?_|refine wB ?_|(refine rg 0 (aV ?_))|(refine rg 1 (mW rfl (dX (by exact qB rfl rfl hcl (.inr ⟨rfl,rfl,by simp⟩)) rfl ?_));refine aV ?_)|(refine rg 2 (mW rfl (qW T rfl (mV ?_))))|refine nZ ?_));refine kR (X := {x : List (Nat × List Tk) × Hp // CY tk x.1 x.2}) (fun x => [(3, .sl 0 0 tk.length 1), (8, .i tk.length), (9, .i x.1.1.length)]) (fun x => x.1.2) (fun x => tk.length - x.1.1.length) ⟨([], [.arr (F3 tk) 1]), ⟨bP _, rfl, rfl, fun e he => (nomatch he), by simp, fun k b hb hk => (by cases k with
    | zero => exact absurd rfl hk
    | succ k => simp at hb)⟩⟩ (nI.of (by show [AB.arr ((F3 tk).map (AV.mapL _)) 1] = _;rw [gS _ (T1 _)]) (by repeat first|exact trivial|refine ⟨rfl,?_⟩)) ?_
  rintro ⟨⟨N,X⟩,hI⟩;dsimp only at hI ⊢;by_cases hlt : N.length < tk.length
  · have hg := hI.get hlt;have nx := hI.next hlt
    have h0 : 0 < X.length := (aA.1 hI.ho).1;have hct := IM tk[N.length] (h2 _ (aK hlt));have hX0 := hI.ho;generalize tk[N.length] = l at *
    (repeat' (first|refine wS ?_|refine wB ?_|refine wK ?_|(refine wC rfl ?_ ?_<;>(intro hb;(try simp only [nm] at hb);try (exfalso;omega)))|(refine rg 3 (vV (bB rfl rfl) ?_))|(refine rg 4 (mW rfl (aV ?_)))|(refine rg 5 (eW rfl (eW rfl (vV (by exact cI T rfl rfl rfl rfl rfl (by omega) (by omega)) ?_)));refine vV (by exact bC T rfl rfl (eF hX0 hg) rfl) ?_;refine dX (by exact qB rfl rfl hct (.inr ⟨rfl,rfl,by simp⟩)) rfl ?_;refine vV (by exact cI T rfl rfl rfl rfl rfl (by omega) (by omega)) ?_;refine bH T rfl rfl rfl rfl rfl rfl (by decide) (oZ (bW hX0) hg rfl rfl) ?_)|(refine rg 6 (vV (eE rfl rfl (by omega) (by omega)) (mV ?_)))|refine nZ ?_));all_goals try (exfalso;omega)
    all_goals exact ⟨⟨(_,_),nx⟩,by dsimp only;rw [aC,bE];omega,nI.of (by
      show List.set (X ++ [AB.arr ((eI l).map (AV.mapL _)) 2]) 0 (AB.arr (List.set (kO N ++ (F3 tk).drop N.length) (0 + (N.length : Int).toNat) [AV.sl (0 + X.length) 0 l.length 2]) 1) = _
      rw [gS _ (nX _),Nat.zero_add X.length]) (by dsimp only;rw [aC];(repeat (first | exact trivial | refine ⟨rfl,?_⟩)))⟩
  · (repeat' (first|refine wS ?_|refine wR ?_|refine wE ?_|(refine wC rfl (fun hb => ?_) (fun hb => ?_) <;> (((try simp only [nm] at hb);try (exfalso;omega))))|(refine rg 3 (vV (bB rfl rfl) ?_))|(refine rg 7 (mW rfl (aV ?_)))|(refine nZ ?_)));all_goals first | (exfalso;omega) | exact ⟨.inl rfl,_,rfl,hI.fin hlt⟩
theorem EU {H : Hp} {po n : Nat} {es : List (List AV)} (hpo : H[po]? = some (.arr es 4)) (hn : n = es.length) (h1 : es.flatten.all AV.one = true) (hl : n ≤ 1000000) :
    eQ Tryz.prog 44 [.sl po 0 n 4] H (fun r o => ∃ k Z,r = .sl k 0 n 4 ∧ o = H ++ Z ∧ o[k]? = some (.arr es 4) ∧ H.length ≤ k) := by
  refine jM T Tryz.func44 rfl rfl rfl rfl ?_
  repeat' (first|refine wS ?_|refine wK ?_|refine wT ?_|refine wU ?_|(refine rg 0 (aV ?_))|(refine rg 1 (mV ?_);refine HB T rfl rfl rfl rfl fun b hb=>?_;cases b)|refine nZ ?_)
  · (repeat' (first|refine wR ?_|(refine rg 3 (dX (by exact cK T rfl rfl (by decide) (by decide) rfl rfl rfl) rfl ?_);refine mW rfl (iK T rfl rfl rfl rfl rfl cP (by decide) (kV.whole (bW hpo) hn) h1 (by simp;omega) (by simp;omega) rfl ?_);refine aV ?_)|(refine nZ ?_)));all_goals exact ⟨.inl rfl,_,rfl,H.length + 1,[.gone,.arr es 4],by show AV.sl (H ++ [_]).length 0 (0 + es.length) 4 = _;rw [aC,bE,Nat.zero_add,hn],by rw [jA,bF];rfl,by
      have e1 : (H.length + 1) = ((H ++ [AB.arr [] 4]).set H.length .gone).length := by simp
      rw [e1];exact cP,CU _⟩
  · have hl0 : es = [] := iW.1 (Classical.byContradiction fun h => by have := hb (by omega);cases this)
    subst hl0;subst hn
    (repeat' (first|refine wR ?_|(refine rg 2 (vV (jG rfl) (E8 2 4 rfl (by decide) ?_)))|refine nZ ?_));all_goals exact ⟨.inl rfl,_,rfl,H.length,[.arr [] 4],rfl,rfl,cP,aO _⟩
theorem UG {H : Hp} {pb : Nat} {bk : Bk} {A : List Nat} (hB : vE H pb bk A) (hl : bk.length ≤ 1000000) (h1 : ∀ o,o ∈ bk → o.tk.length ≤ 1000000 ∧ ∀ l,l ∈ o.tk → l.length ≤ 1000000) (hw : ∀ o,o ∈ bk → o.ws.length ≤ 1000000) : eQ Tryz.prog 11 [.ptr pb 0] H (SH H bk) := by
  obtain ⟨po,L0,h,rfl,rfl⟩ := hB;rw [bI] at hl;have hcl := EU (n := L0.length) h.o (by simp) (BB fun e he => (h.n e he).form) hl
  have hbk := h.b;refine jM T Tryz.func11 rfl rfl rfl rfl ?_
  (repeat' (first|refine wS ?_|refine wB ?_|(refine rg 0 (aV ?_))|(refine rg 1 (mW rfl (nV ?_));refine fW T rfl (vV (by exact bC T rfl rfl (dU hbk) rfl) ?_);refine dQ rfl rfl hcl rfl ?_;rintro _ _ ⟨kk,Z,rfl,rfl,hko,hkl⟩;dsimp only [eU];refine vV (by exact iH T rfl rfl rfl rfl) ?_;refine dX (gL rfl rfl) rfl (aV ?_))|(refine rg 2 (mW rfl (nV ?_));refine fW T rfl (vV (by exact bC T rfl rfl (dU cP) rfl) ?_);refine qW T rfl (mV ?_))|refine nZ ?_));have hkz : kk < (H ++ Z).length := (aA.1 hko).1
  have st : RH H L0 (H ++ Z).length kk [] (H ++ Z ++ [.cells [.sl kk 0 L0.length 4]]) := ⟨bP _,rfl,by rw [aC,aC];omega,fun k hk => by rw [iJ (by rw [aC];omega),iJ hk],cP,bW hko,fun e he => (nomatch he),aN.2 ⟨by simp only [jP,bL];omega,by simp⟩,fun k hk => by
    simp only [jP,aQ,cG,or_false] at hk;rcases hk with rfl | rfl
    · rw [aC];omega
    · exact hkl⟩
  generalize (H ++ Z).length = pb1 at *;generalize hX0e : H ++ Z ++ [AB.cells [.sl kk 0 L0.length 4]] = X0 at *;clear hcl hko hkz hbk;refine kR (X := {x : OL × Hp // RH H L0 pb1 kk x.1 x.2}) (fun x => [(3,.ptr pb1 0),(17,.i L0.length),(18,.i x.1.1.length)]) (fun x => x.1.2) (fun x => L0.length - x.1.1.length) ⟨([],X0),st⟩ (nI.of hX0e (by repeat first|exact trivial|refine ⟨rfl,?_⟩)) ?_
  clear st;rintro ⟨⟨L,X⟩,hI⟩;dsimp only at hI ⊢;by_cases hlt : L.length < L0.length
  · have hg := hI.get hlt;have nx := fun {Z : Hp} {x : AV} {B : List Nat} => hI.next (Z := Z) (x := x) (B := B) hlt
    have h0 : kk < X.length := (aA.1 hI.o).1;have hmL := aK hlt;have hm : L0[L.length].1 ∈ L0.map (·.1) := aJ.2 ⟨_,hmL,rfl⟩;have hcw := vB L0[L.length].1.ws (hw _ hm);have hct := CF L0[L.length].1.tk (h1 _ hm).1 (h1 _ hm).2;have hvx := ((h.n _ hmL).frame (H' := X) fun k hk => hI.fr k ((h.n _ hmL).lt k hk)).view;have hfo := (h.n _ hmL).form;have hX0 := hI.o;have hX1 := hI.b;generalize L0[L.length] = e at *;obtain ⟨o,x0,A0⟩ := e;dsimp only at hg nx hcw hct hvx hfo
    (repeat' (first|refine wS ?_|refine wB ?_|refine wK ?_|(refine wC rfl ?_ ?_<;>(intro hb;(try simp only [nm] at hb);try (exfalso;omega)))|(refine rg 3 (vV (bB rfl rfl) ?_))|(refine rg 4 (mW rfl (aV ?_)))|(refine rg 5 (mW rfl (nV ?_));refine fW T rfl (vV (by exact bC T rfl rfl (dU hX1) rfl) ?_);refine mW rfl (vV (by exact cI T rfl rfl rfl rfl rfl (by omega) (by omega)) ?_);refine aV ?_)|refine nZ ?_));all_goals try (exfalso;omega)
    have hS := fun {Z : Hp} {a : List AV} => (gI (by rw [aC];omega) : ((X ++ Z).set kk (.arr (((L.map fun e => iU e.1 e.2.1) ++ (L0.map fun e => iU e.1 e.2.1).drop L.length).set (0 + (L.length : Int).toNat) a) 4))[kk]? = _)
    have hG := fun {a : List AV} => (show (((L.map fun e => iU e.1 e.2.1) ++ (L0.map fun e => iU e.1 e.2.1).drop L.length).set (0 + (L.length : Int).toNat) a)[0 + (L.length : Int).toNat]? = some a by rw [fK (aA.1 hg).1])
    rcases hfo with rfl | ⟨px,mx,rfl⟩
    all_goals
     refine CK (id := 6) fL ?_;refine oJ 0 rfl rfl (by decide +kernel) (by decide +kernel) (by decide +kernel) (by exact pX rfl) rfl ?_
     refine oJ 1 rfl rfl (by decide +kernel) (by decide +kernel) (by decide +kernel) (by exact pX rfl) rfl ?_
     refine oJ 2 rfl rfl (by decide +kernel) (by decide +kernel) (by decide +kernel) (by exact pX rfl) rfl ?_
     refine oJ 3 rfl rfl (by decide +kernel) (by decide +kernel) (by decide +kernel) (by exact tW rfl rfl) rfl ?_
     refine oJ 4 rfl rfl (by decide +kernel) (by decide +kernel) (by decide +kernel) (by exact mP T rfl rfl rfl) rfl ?_
     refine oJ 5 rfl rfl (by decide +kernel) (by decide +kernel) (by decide +kernel) (by exact mP T rfl rfl rfl) rfl ?_
     refine oJ 8 rfl rfl (by decide +kernel) (by decide +kernel) (by decide +kernel) (by exact pX rfl) rfl ?_
     refine oJ 9 rfl rfl (by decide +kernel) (by decide +kernel) (by decide +kernel) (by exact tW rfl rfl) rfl ?_
     refine oJ 10 rfl rfl (by decide +kernel) (by decide +kernel) (by decide +kernel) (by exact mP T rfl rfl rfl) rfl ?_
     refine GS _ rfl [true,true,true,true,true,true,false,false,true,true,true,false,false,false,false,false,false,false,false,false] rfl rfl ?_
     (repeat' (first|(refine NN rfl rfl rfl ?_ ?_<;>(((refine vV (by first|exact bC T rfl rfl (eF hX0 hg) rfl|exact jV rfl rfl hcw (.cons (.row _ _ _) .nil) (gR _).symm (AQ _) (R4 _)) ?_));refine qG ?_;dsimp only [List.set_cons_zero,List.set_cons_succ]))|(refine NO rfl rfl ?_;(first|(refine vV (by first|exact dR rfl rfl|exact eD T rfl rfl rfl|exact bC T rfl rfl (eF hX0 hg) rfl|exact jV rfl rfl hcw (.cons (.row _ _ _) .nil) (gR _).symm (AQ _) (R4 _)) ?_)|(refine M0 rfl rfl hct (.cons hvx .nil) (fun _ _ hΦ=>hΦ.rf) rfl ?_;rintro res hout hΦ;have hΨ := hΦ.nest X;obtain ⟨_,rfl,_⟩ := hΦ;dsimp only [eU])|(refine bH T rfl rfl rfl rfl rfl rfl (by decide) (oZ (bW hX0) hg rfl rfl) ?_)|(refine bH T rfl rfl rfl rfl rfl rfl (by decide) (oZ hS hG rfl rfl) ?_));refine qG ?_;dsimp only [List.set_cons_zero,List.set_cons_succ])));all_goals refine R9 rfl ?_
     all_goals
      obtain ⟨B,hn,hB⟩ := hΨ;refine lG [(3,.ptr pb1 0),(17,.i L0.length),(18,.i L.length)] ((X ++ hout.map (AB.map (· + X.length))).set kk (AB.arr (((L.map fun e => iU e.1 e.2.1) ++ (L0.map fun e => iU e.1 e.2.1).drop L.length).set (0 + (L.length : Int).toNat) (iU o (.sl (0 + X.length) 0 o.tk.length 1))) 4)) (nI.of (by rw [gZ,gZ];rfl) (by repeat first|exact trivial|refine ⟨rfl,?_⟩)) ?_
      (repeat' (first|(refine rg 7 (vV (eE rfl rfl (by omega) (by omega)) (mV ?_)))|refine nZ ?_));exact ⟨⟨(_,_),nx hn hB⟩,by dsimp only;rw [aC,bE];omega,nI.of rfl (by dsimp only;rw [aC];(repeat (first | exact trivial | refine ⟨rfl,?_⟩)))⟩
  · (repeat' (first|refine wS ?_|refine wR ?_|refine wE ?_|(refine wC rfl (fun hb => ?_) (fun hb => ?_) <;> (((try simp only [nm] at hb);try (exfalso;omega))))|(refine rg 3 (vV (bB rfl rfl) ?_))|(refine rg 8 (mW rfl (aV ?_)))|(refine nZ ?_)));all_goals first | (exfalso;omega) | exact ⟨.inl rfl,_,rfl,hI.fin hlt⟩
end Go.Proofs.YtdiogjgohbbllaaGreatDoor
namespace Go.Wr
open Go Go.Ab Go.Lib
theorem HT (r : List UInt8) : ∀ u : Nat,u ≤ 9223372036854775808 → parseUint10 0 (decDigits u ++ r) = parseUint10 u r := by
  intro u
  induction u using Nat.strongRecOn generalizing r with
  | _ u ih =>
    intro hu;rw [decDigits];split
    · rename_i h;have e : (UInt8.ofNat (48 + u)).toNat = 48 + u := by simp;omega
      rw [sX];rw [parseUint10,e,if_pos (by omega),if_neg (by omega),if_neg (by omega)]
      congr 1;omega
    · rename_i h;have e : (UInt8.ofNat (48 + u % 10)).toNat = 48 + u % 10 := by simp;omega
      rw [bF,ih (u / 10) (by omega) _ (by omega),sX]
      rw [parseUint10,e,if_pos (by omega),if_neg (by omega),if_neg (by omega)]
      congr 1;omega
theorem ES (u : Nat) : decDigits u ≠ [] := by
  rw [decDigits];split <;> simp
theorem zW : ∀ u : Nat,∀ c,c ∈ decDigits u → 48 ≤ c.toNat ∧ c.toNat ≤ 57 := by
  intro u
  induction u using Nat.strongRecOn with
  | _ u ih =>
    intro c hc;rw [decDigits] at hc;split at hc
    · rw [bL] at hc;subst hc;have e : (UInt8.ofNat (48 + u)).toNat = 48 + u := by simp;omega
      omega
    · rcases bD.1 hc with hc | hc
      · exact ih _ (by omega) c hc
      · rw [bL] at hc;subst hc;have e : (UInt8.ofNat (48 + u % 10)).toNat = 48 + u % 10 := by simp;omega
        omega
theorem FY {u : Nat} (hu : u ≤ 9223372036854775808) : parseMag (decDigits u) = .ok u := by
  have := HT [] u hu;rw [List.append_nil] at this;unfold parseMag;rw [if_neg (ES u),this];rfl
theorem IT {n : Int} (h : -9223372036854775808 ≤ n ∧ n ≤ 9223372036854775807) : atoiAll (itoa n) = .ok n := by
  unfold itoa;split
  · rw [atoiAll_minus,FY (by omega)]
    unfold signed;dsimp only;rw [if_neg (by omega)]
    congr 1;omega
  · have hm := FY (u := n.toNat) (by omega)
    cases hd : decDigits n.toNat with
    | nil => exact absurd hd (ES _)
    | cons c r =>
      have hc := zW n.toNat c (by rw [hd];simp)
      rw [hd] at hm;rw [atoiAll_plain c r (by omega) (by omega),hm]
      unfold signless;dsimp only;rw [if_neg (by omega)]
      congr 1;omega
theorem EF {n : Int} {c : UInt8} (h : c ∈ itoa n) : c.toNat = 45 ∨ (48 ≤ c.toNat ∧ c.toNat ≤ 57) := by
  unfold itoa at h;split at h
  · rcases aQ.1 h with h | h
    · subst h;exact .inl rfl
    · exact .inr (zW _ _ h)
  · exact .inr (zW _ _ h)
theorem rZ : ∀ (k u : Nat), u < 10 ^ (k + 1) → nDigits u ≤ k + 1
  | 0,u,h => by rw [nDigits_small (by simpa using h)];exact aO _
  | k + 1,u,h => by
    by_cases hu : u < 10
    · rw [nDigits_small hu];omega
    · rw [nDigits_big hu];have := rZ k (u / 10) (by rw [Nat.div_lt_iff_lt_mul (by decide)];rw [Nat.pow_succ] at h;exact h)
      omega
theorem IB {n : Int} (h : -9223372036854775808 ≤ n ∧ n ≤ 9223372036854775807) : (itoa n).length ≤ 20 := by
  have hp : (10 : Nat) ^ (18 + 1) = 10000000000000000000 := by decide
  unfold itoa;split
  · rw [List.length_cons,decDigits_length];have := rZ 18 n.natAbs (by omega)
    omega
  · rw [decDigits_length];have := rZ 18 n.toNat (by omega)
    omega
theorem QE (n : Int) : itoa n ≠ [] := by
  unfold itoa;split
  · simp
  · exact ES _
theorem MA {a b : List UInt8} {e : UInt8} (h : e ∉ a) : indexByte (a ++ e :: b) e = a.length := by
  induction a with
  | nil => simp [indexByte]
  | cons c a ih =>
    simp only [aQ,not_or] at h;have h1 := ih h.2;show indexByte (c :: (a ++ e :: b)) e = _;unfold indexByte;rw [if_neg (by simpa using fun q => h.1 q.symm),h1,if_neg (by simp)]
    simp
theorem B3 {l : List UInt8} {e : UInt8} (h : 0 ≤ indexByte l e) : l = l.take (indexByte l e).toNat ++ e :: l.drop ((indexByte l e).toNat + 1) ∧ (indexByte l e).toNat < l.length := by
  obtain ⟨h1,h2⟩ := indexByte_some (l := l) (c := e) (o := (indexByte l e).toNat) (by omega)
  obtain ⟨h3,h4⟩ := aA.1 h1;refine ⟨?_,h3⟩
  conv => lhs;rw [← bU (indexByte l e).toNat l]
  rw [aS h3,h4]
def tX (r : List UInt8) (e : UInt8) (lo : Int) : Option (Int × List UInt8) :=
  if indexByte (r.take 21) e < 0 then none else
  match atoiAll (r.take (indexByte (r.take 21) e).toNat) with
  | .ok n => if itoa n = r.take (indexByte (r.take 21) e).toNat ∧ lo ≤ n then some (n,r.drop ((indexByte (r.take 21) e).toNat + 1)) else none
  | _ => none
theorem H8 {r : List UInt8} {e : UInt8} (h : 0 ≤ indexByte (r.take 21) e) : (indexByte (r.take 21) e).toNat < r.length ∧ (indexByte (r.take 21) e).toNat < 21 := by
  have := (B3 h).2;rw [bV] at this;omega
theorem zJ {r r' : List UInt8} {e : UInt8} {lo n : Int} (h : tX r e lo = some (n,r')) : r = itoa n ++ e :: r' ∧ lo ≤ n ∧ -9223372036854775808 ≤ n ∧ n ≤ 9223372036854775807 := by
  unfold tX at h;split at h
  · cases h
  · rename_i h0;have hs := B3 (JC.1 h0);have hi := H8 (JC.1 h0);split at h
    · rename_i n' ha;split at h
      · rename_i hc;simp only [Option.some.injEq,Prod.mk.injEq] at h;obtain ⟨rfl,rfl⟩ := h;have hb := atoiAll_bounds ha;refine ⟨?_,hc.2,hb.1,hb.2⟩;rw [hc.1];generalize indexByte (r.take 21) e = k at *;have h3 : (r.take 21)[k.toNat]? = some e := by
          rw [hs.1,aE (by rw [bV,bV];omega)]
          simp [bV];rw [show k.toNat - min k.toNat (min 21 r.length) = 0 by omega]
          rfl
        rw [bG,if_pos hi.2] at h3;obtain ⟨h4,h5⟩ := aA.1 h3
        conv => lhs;rw [← bU k.toNat r]
        rw [aS h4,h5]
      · cases h
    · cases h
theorem FT {r' : List UInt8} {e : UInt8} {lo n : Int} (h : -9223372036854775808 ≤ n ∧ n ≤ 9223372036854775807) (hl : lo ≤ n) (he : e.toNat ≠ 45 ∧ (e.toNat < 48 ∨ 57 < e.toNat)) : tX (itoa n ++ e :: r') e lo = some (n,r') := by
  have hni : e ∉ itoa n := fun hm => by have := EF hm;omega
  have h20 := IB h;have hi : indexByte ((itoa n ++ e :: r').take 21) e = (itoa n).length := by
    rw [hO,show 21 - (itoa n).length = (20 - (itoa n).length) + 1 by omega,oT,aY (by omega)]
    exact MA hni
  unfold tX;rw [hi,if_neg (by omega),bK,List.take_left,IT h]
  dsimp only;rw [if_pos ⟨rfl,hl⟩,List.drop_append,cW (by omega)]
  simp
theorem BF (e : UInt8) (lo : Int) : tX [] e lo = none := by
  unfold tX;simp [indexByte]
theorem LG {r r' : List UInt8} {e : UInt8} {lo n : Int} (h : tX r e lo = some (n,r')) : r'.length + 2 ≤ r.length := by
  have h1 := (zJ h).1;have h2 := QE n;rw [h1,aC,List.length_cons];have : 0 < (itoa n).length := lK.2 h2;omega
abbrev St := Option (List UInt8)
abbrev FN (s : St) : Hp := [.cells [.s (s.getD []),.b s.isNone]]
def jD (s : St) (e : UInt8) (lo : Int) : Int × St := match tX (s.getD []) e lo with
  | some (n,r) => if s.isNone then (0,none) else (n,some r)
  | none => (0,none)
theorem P4 (e : UInt8) (lo : Int) : jD none e lo = (0,none) := by unfold jD;rw [show (none : St).getD [] = [] from rfl,BF]
def dD (s : St) : Int × St := jD s 59 (-9223372036854775808)
theorem qX (s : St) (e : UInt8) (lo : Int) : -9223372036854775808 ≤ (jD s e lo).1 ∧ (jD s e lo).1 ≤ 9223372036854775807 := by
  unfold jD;split
  · rename_i n r h;have := zJ h;split <;> simp <;> omega
  · simp
theorem uT {r : List UInt8} {e : UInt8} {lo n : Int} {r' : List UInt8} (h : tX r e lo = some (n,r')) : jD (some r) e lo = (n,some r') := by
  unfold jD;rw [show (some r : St).getD [] = r from rfl,h]
  rfl
theorem P5 {r : List UInt8} {e : UInt8} {lo : Int} (h : tX r e lo = none) : jD (some r) e lo = (0,none) := by
  unfold jD;rw [show (some r : St).getD [] = r from rfl,h]
theorem BE {s : St} {e : UInt8} {lo : Int} {r : List UInt8} (h : (jD s e lo).2 = some r) : ∃ r0,s = some r0 ∧ tX r0 e lo = some ((jD s e lo).1,r) ∧ r.length + 2 ≤ r0.length := by
  cases s with
  | none => rw [P4] at h;cases h
  | some r0 =>
    cases hp : tX r0 e lo with
    | none => rw [P5 hp] at h;cases h
    | some p =>
      obtain ⟨n,r'⟩ := p;rw [uT hp] at h ⊢;cases h;exact ⟨r0,rfl,hp,LG hp⟩
theorem oW (s : St) (e : UInt8) (lo : Int) : ((jD s e lo).2.getD []).length ≤ (s.getD []).length := by
  cases h : (jD s e lo).2 with
  | none => simp
  | some r =>
    obtain ⟨r0,rfl,_,h3⟩ := BE h;simp;omega
end Go.Wr
namespace Go.Proofs.YtdiogjgohbbllaaGreatDoor
open Go Go.Ab Go.Shelf Go.Proofs Go.Wr
shelf_lay Lays.n137 Nm 137 at Tryz as laysIdx
shelf_lay LaysC.n172 Nm 172 at Tryz as laysAtoi
theorem wN {P : Program} {f : FuncId} {xs : List AV} {res : AV} (hfn : ∃ fn, P.funcs[f]? = some fn ∧ (fn.name == "runtime.NumGoroutine") = false ∧ fn.body.isNone = false)
    (hs : ∀ (ρ : Pl) S w vs,kD S w → RL S w xs ρ vs → Calls P f vs.toArray w fun e w' => ∃ y,e = .returned y ∧ RowKit.Below w.heap.size w w' ∧ ∀ S' ρ',R S' w' res ρ' y) : bJ P f xs [] res [] := by
  refine ⟨hfn,fun ρ S w vs s ha => (hs ρ S w vs s.glob ha).mono fun e w' ⟨y,he,hb,hR⟩ => ?_⟩
  exact ⟨y,ρ,S,he,s.kept (IL hb),hR S ρ⟩
theorem RV (l : List UInt8) (e : UInt8) : bJ Tryz.prog 126 [.s l,.v (.int .u8 e.toNat)] [] (.i (Lib.indexByte l e)) [] :=
  wN ⟨_,Tryz.func126,by kernel_rfl,by kernel_rfl⟩ fun ρ S w vs _ ha => by
    simp only [RL,R] at ha;obtain ⟨y,ys,rfl,rfl,z,zs,rfl,rfl,rfl⟩ := ha;refine (Any.strings_IndexByte laysIdx ⟨l.toArray⟩ (e.toNat : Int) w).mono fun e' w' ⟨h1,h2⟩ => ⟨_,h1,by rw [h2];exact RowKit.Below.refl _ _,fun S' ρ' => ?_⟩
    simp [R]
theorem GQ {l : List UInt8} {n : Int} (h : Lib.atoiAll l = .ok n) (hl : l.length ≤ 1000000) : bJ Tryz.prog 128 [.s l] [] (.tup [.i n,.v .nilIface]) [] :=
  wN ⟨_,Tryz.func128,by kernel_rfl,by kernel_rfl⟩ fun ρ S w vs _ ha => by
    simp only [RL,R] at ha;obtain ⟨y,ys,rfl,rfl,rfl⟩ := ha;refine (Any.strconv_Atoi_ok laysAtoi ⟨l.toArray⟩ (by show l.toArray.size ≤ _;simp;omega) n (by simpa using h) w).mono fun e' w' ⟨h1,h2⟩ => ⟨_,h1,?_,fun S' ρ' => ?_⟩
    · rcases h2 with rfl | ⟨t,rfl⟩
      · exact RowKit.Below.refl _ _
      · exact Lib.bytesWorld_below _ _ _
    · simp only [R,RL];exact ⟨_,rfl,_,_,rfl,rfl,_,_,rfl,rfl,rfl⟩
theorem MQ {S : Nat → Prop} {w : World} {name : String} {gi : Nat} (hg : Tryz.prog.globalNamed name = some gi) (hm : (gi,[AV.ifc 199 .any]) ∈ qA) (h : kD S w) : ∃ p,w.var? Tryz.prog name = some #[.iface 199 p] := by
  obtain ⟨_,ys,t,fz,g1,g2⟩ := h gi _ hm;simp only [RL,R] at g2;obtain ⟨y,zs,g3,⟨z,rfl,_⟩,rfl⟩ := g2;refine ⟨z,?_⟩;have e : ys = #[.iface 199 z] := Array.toList_inj.1 g3;unfold World.var?;rw [hg];simp only [Option.bind_some,g1];rw [e]
theorem CL {l : List UInt8} (h : ∀ n,Lib.atoiAll l ≠ .ok n) (hl : l.length ≤ 1000000) : bJ Tryz.prog 128 [.s l] [] (.tup [.any,.ifc 182 .any]) [] :=
  wN ⟨_,Tryz.func128,by kernel_rfl,by kernel_rfl⟩ fun ρ S w vs hg ha => by
    simp only [RL,R] at ha;obtain ⟨y,ys,rfl,rfl,rfl⟩ := ha;obtain ⟨p1, hv1⟩ := MQ (name := "strconv.ErrSyntax") (gi := 2) (by kernel_rfl) (by unfold qA; simp) hg
    obtain ⟨p2, hv2⟩ := MQ (name := "strconv.ErrRange") (gi := 3) (by kernel_rfl) (by unfold qA; simp) hg
    have hsz : (⟨l.toArray⟩ : ByteArray).size ≤ 281474976710656 := by show l.toArray.size ≤ _;simp;omega
    rcases ha : Lib.atoiAll l with n | _ | _
    · exact absurd ha (h n)
    · skip;refine (Any.strconv_Atoi_syntax_var laysAtoi ⟨l.toArray⟩ hsz (by simpa using ha) _ p1 w hv1).mono fun e' w' ⟨N,h1,_,_,h2⟩ => ⟨_,h1,h2,fun S' ρ' => ?_⟩
      simp only [R,RL];exact ⟨_,rfl,_,_,rfl,trivial,_,_,rfl,⟨_,rfl,trivial⟩,rfl⟩
    · skip;refine (Any.strconv_Atoi_range_var laysAtoi ⟨l.toArray⟩ hsz (by simpa using ha) _ p2 w hv2).mono fun e' w' ⟨N,h1,_,_,h2⟩ => ⟨_,h1,h2,fun S' ρ' => ?_⟩
      simp only [R,RL];exact ⟨_,rfl,_,_,rfl,trivial,_,_,rfl,⟨_,rfl,trivial⟩,rfl⟩
theorem TJ (u : TypeId) (v : Value) (W : World) : (binOp .neq 125 (.iface u v) .nilIface).run Tryz.prog W = .ok (.bool true) W := by kernel_rfl
theorem TH (W : World) : (binOp .neq 125 .nilIface .nilIface).run Tryz.prog W = .ok (.bool false) W := by kernel_rfl
section
variable {env : cJ} {h : Hp} {d : Option Nat} {ty : TypeId} {pos : String} {af : Array Edge} {g : Option (Nat × Bool)}
theorem Q8 {t2 u : TypeId} {x y : Operand} {z : AV} (hx : evu env x = some (.ifc u z)) (hy : evu env y = some (.v .nilIface)) : bQ Tryz.prog ⟨d,.binOp .neq 125 x y t2,ty,pos,af,g⟩ env h 0 (fun _ => .b true) (fun _ => []) := by
  refine fJ fun ρ S a w p => ⟨.bool true,?_,by simp [R]⟩
  have h1 := p.evu hx;simp only [R] at h1;obtain ⟨z',h1,_⟩ := h1;have h2 := pO (p.evu hy);have hq : eqGuard .neq 125 x y (.iface u z') .nilIface = pure () := by rfl
  simp [execOp,h1,h2,hq,TJ]
theorem wF {t2 : TypeId} {x : Operand} (hx : evu env x = some (.v .nilIface)) : bQ Tryz.prog ⟨d,.binOp .neq 125 x (.const .nilIface) t2,ty,pos,af,g⟩ env h 0 (fun _ => .b false) (fun _ => []) := by
  refine fJ fun ρ S a w p => ⟨.bool false,?_,by simp [R]⟩
  have h1 := pO (p.evu hx);have hq : eqGuard .neq 125 x (.const .nilIface) .nilIface .nilIface = pure () := by cases x <;> rfl
  have h2 : a.eval (.const .nilIface) = .nilIface := rfl;simp [execOp,h1,h2,hq,TH]
theorem gA {P : Program} {t : TypeId} {x : Operand} {a b : List UInt8} {lo hi : Option Operand} {l r : Int} (ht : NS P t) (hx : evu env x = some (.s a)) (hlo : Z3 env lo 0 = some l) (hhi : Z3 env hi a.length = some r) (h0 : 0 ≤ l) (h1 : l ≤ r) (h2 : r ≤ a.length) (e : (a.take r.toNat).drop l.toNat = b) : bQ P ⟨d,.slice t x lo hi none,ty,pos,af,g⟩ env h 0 (fun _ => .s b) (fun _ => []) := by
  subst e;exact IG ht hx hlo hhi h0 h1 h2
theorem BU {P : Program} {t t2 : TypeId} {x y : Operand} {a b : List UInt8} (hx : evu env x = some (.s a)) (hy : evu env y = some (.s b)) (e : a ≠ b) : bQ P ⟨d,.binOp .neq t x y t2,ty,pos,af,g⟩ env h 0 (fun _ => .b true) (fun _ => []) := by
  have := GG (P := P) (d := d) (ty := ty) (pos := pos) (af := af) (g := g) (h := h) (t := t) (t2 := t2) hx hy;simpa [e] using this
theorem I4 {P : Program} {t t2 : TypeId} {x y : Operand} {a b : List UInt8} (hx : evu env x = some (.s a)) (hy : evu env y = some (.s b)) (e : a = b) : bQ P ⟨d,.binOp .neq t x y t2,ty,pos,af,g⟩ env h 0 (fun _ => .b false) (fun _ => []) := by
  have := GG (P := P) (d := d) (ty := ty) (pos := pos) (af := af) (g := g) (h := h) (t := t) (t2 := t2) hx hy;simpa [e] using this
end
attribute [local irreducible] VC AW bQ bJ
set_option maxHeartbeats 4000000
theorem SZ (l : List UInt8) : bJ Tryz.prog 81 [.s l] [] (.ptr 0 0) (FN (some l)) := by
  refine dB T Tryz.func81 rfl rfl rfl rfl ?_
  (repeat' (first|refine wS ?_|refine wR ?_|(refine rg 0 (aV ?_))|(refine rg 1 (mW rfl (vV (by exact iH T rfl rfl rfl rfl) ?_));refine dX (gL rfl rfl) rfl (aV ?_))|refine nZ ?_));all_goals exact ⟨.inl rfl,[0],_,rfl,rfl,rfl,⟨.inr rfl,trivial⟩,by decide,XD⟩
theorem TX (r : List UInt8) (b : Bool) : bJ Tryz.prog 127 [.ptr 0 0] [.cells [.s r,.b b]] (.tup []) [.cells [.s [],.b true]] := by
  refine dB T Tryz.func127 rfl rfl rfl rfl ?_
  (repeat' (first|(refine rg 0 (eW rfl (nV ?_));refine fW T rfl (bH T rfl rfl rfl rfl rfl rfl (by decide) rfl (nV ?_));refine fW T rfl (bH T rfl rfl rfl rfl rfl rfl (by decide) rfl ?_))|refine nZ ?_));all_goals exact ⟨.inr rfl,[0],_,rfl,rfl,rfl,⟨.inr rfl,trivial⟩,by decide,zN⟩
theorem P3 (r : List UInt8) (b : Bool) (e : UInt8) (lo : Int) (hl : r.length ≤ 1000000000) (h : tX r e lo = none) :
    bJ Tryz.prog 113 [.ptr 0 0,.v (.int .u8 e.toNat),.i lo] [.cells [.s r,.b b]] (.i 0) [.cells [.s [],.b true]] := by
  have hf := TX r b;have hi := RV (r.take 21) e;have e1 : ((r.take (min (r.length : Int) 21).toNat).drop (0 : Int).toNat) = r.take 21 := by
    rw [CW,cY];by_cases h21 : r.length ≤ 21
    · rw [aY (by omega),aY h21]
    · rw [show (min (r.length : Int) 21).toNat = 21 by omega]
  refine dB T Tryz.func113 rfl rfl rfl rfl ?_;unfold tX at h;by_cases h0 : Lib.indexByte (r.take 21) e < 0
  · (repeat' (first|refine wS ?_|refine wR ?_|(refine wC rfl (fun hb => ?_) (fun hb => ?_) <;> (((try simp only [nm] at hb);try (exfalso;omega))))|(refine rg 0 (aV ?_))|(refine eS (id := 1) 64 ZH (rM 11 11) ZI fL rfl (by decide +kernel) (dN rfl (dV rfl (by exact dR rfl rfl) ?_));refine dP T rfl (dO T rfl (dN rfl (dV rfl (by exact dR rfl rfl) ?_)));refine dP T rfl (dO T rfl (dV rfl (mT jJ rfl) (dV rfl (sD rfl rfl) (dV rfl (by exact gA jJ rfl rfl rfl (by decide) (by omega) (by omega) e1) ?_))));refine dE ?_;refine aV ?_)|(refine rg 2 (eW rfl (vV (kC (hi)) (aV ?_))))|(refine rg 3 (mW rfl (vV (bB rfl rfl) ?_)))|(refine rg 4 (mW rfl (cQ [0] rfl rfl hf rfl rfl (by decide) ⟨.inr rfl,trivial⟩ (by simp) rfl ?_)))|(refine rg 5 (aV ?_))|(refine nZ ?_)));all_goals first | (exfalso;omega) | exact ⟨.inl rfl,[0],_,rfl,rfl,rfl,⟨.inr rfl,trivial⟩,by decide,zN⟩
  · rw [if_neg h0] at h;obtain ⟨k1,k2⟩ := H8 (JC.1 h0);have e2 : (((r.take 21).take (Lib.indexByte (r.take 21) e).toNat).drop (0 : Int).toNat) = r.take (Lib.indexByte (r.take 21) e).toNat := by
      rw [CW,cY,XA,S7 (by omega)]
    have hk : (Lib.indexByte (r.take 21) e).toNat ≤ (r.take 21).length := by rw [bV];omega
    have hsl : (r.take (Lib.indexByte (r.take 21) e).toNat).length ≤ 1000000 := by rw [bV];omega
    generalize Lib.indexByte (r.take 21) e = at_ at *;generalize r.take at_.toNat = s at *;rcases ha : Lib.atoiAll s with n | _ | _
    · skip;rw [ha] at h;have hA := GQ ha hsl;have hb := Lib.atoiAll_bounds ha;have hI := EG (n := n) ⟨hb.1,hb.2⟩;by_cases hc : Lib.itoa n = s
      · have hlo : n < lo := by
          by_cases hh : n < lo
          · exact hh
          · dsimp only at h;rw [if_pos ⟨hc,by omega⟩] at h;cases h
        (repeat' (first|refine wS ?_|refine wK ?_|refine wR ?_|(refine wC rfl ?_ ?_<;>(intro hb;(try simp only [nm] at hb);try (exfalso;omega)))|(refine rg 0 (aV ?_))|(refine eS (id := 1) 64 ZH (rM 11 11) ZI fL rfl (by decide +kernel) (dN rfl (dV rfl (by exact dR rfl rfl) ?_));refine dP T rfl (dO T rfl (dN rfl (dV rfl (by exact dR rfl rfl) ?_)));refine dP T rfl (dO T rfl (dV rfl (mT jJ rfl) (dV rfl (sD rfl rfl) (dV rfl (by exact gA jJ rfl rfl rfl (by decide) (by omega) (by omega) e1) ?_))));refine dE ?_;refine aV ?_)|(refine rg 2 (eW rfl (vV (kC (hi)) (aV ?_))))|(refine rg 3 (mW rfl (vV (bB rfl rfl) ?_)))|(refine rg 6 (eW rfl (vV (by exact gA jJ rfl rfl rfl (by decide) (by omega) (by omega) e2) ?_));refine vV (kC (hA)) (mW rfl (xW rfl (xW rfl (mY ?_)))))|(refine eS (id := 7) 64 ZJ (rM 36 15) ZK fL rfl (by decide +kernel) (dN rfl (dV rfl (wF rfl) (dN rfl (tN rfl (dT rfl (kC (hI)) (tN rfl (tN rfl (dT rfl (by exact gA jJ rfl rfl rfl (by decide) (by omega) (by omega) e2) ?_))))))));refine dT rfl (I4 rfl rfl hc) (dV rfl (nP rfl rfl) (dN rfl (tN rfl (tN rfl (dT rfl (bB rfl rfl) (dV rfl (nP rfl rfl) (dE ?_))))))))|(refine rg 8 (mW rfl (cQ [0] rfl rfl hf rfl rfl (by decide) ⟨.inr rfl,trivial⟩ (by simp) rfl ?_)))|(refine rg 9 (aV ?_))|refine nZ ?_));all_goals first | (exfalso;omega) | exact ⟨.inl rfl,[0],_,rfl,rfl,rfl,⟨.inr rfl,trivial⟩,by decide,zN⟩
      · (repeat' (first|refine wS ?_|refine wK ?_|refine wR ?_|refine J4 rfl ?_|(refine wC rfl (fun hb => ?_) (fun hb => ?_) <;> (((try simp only [nm] at hb);try (exfalso;omega))))|(refine rg 0 (aV ?_))|(refine eS (id := 1) 64 ZH (rM 11 11) ZI fL rfl (by decide +kernel) (dN rfl (dV rfl (by exact dR rfl rfl) ?_));refine dP T rfl (dO T rfl (dN rfl (dV rfl (by exact dR rfl rfl) ?_)));refine dP T rfl (dO T rfl (dV rfl (mT jJ rfl) (dV rfl (sD rfl rfl) (dV rfl (by exact gA jJ rfl rfl rfl (by decide) (by omega) (by omega) e1) ?_))));refine dE ?_;refine aV ?_)|(refine rg 2 (eW rfl (vV (kC (hi)) (aV ?_))))|(refine rg 3 (mW rfl (vV (bB rfl rfl) ?_)))|(refine rg 6 (eW rfl (vV (by exact gA jJ rfl rfl rfl (by decide) (by omega) (by omega) e2) ?_));refine vV (kC (hA)) (mW rfl (xW rfl (xW rfl (mY ?_)))))|(refine eS (id := 7) 64 ZJ (rM 36 15) ZK fL rfl (by decide +kernel) (dN rfl (dV rfl (wF rfl) (dN rfl (tN rfl (dT rfl (kC (hI)) (tN rfl (tN rfl (dT rfl (by exact gA jJ rfl rfl rfl (by decide) (by omega) (by omega) e2) ?_))))))));refine dT rfl (BU rfl rfl hc) (dV rfl (nP rfl rfl) (dN rfl (tG rfl (tG rfl (tG rfl (dV rfl (mS rfl rfl) (dE ?_))))))))|(refine rg 8 (mW rfl (cQ [0] rfl rfl hf rfl rfl (by decide) ⟨.inr rfl,trivial⟩ (by simp) rfl ?_)))|(refine rg 9 (aV ?_))|(refine nZ ?_)));all_goals first | (exfalso;omega) | exact ⟨.inl rfl,[0],_,rfl,rfl,rfl,⟨.inr rfl,trivial⟩,by decide,zN⟩
    · skip;have hA := CL (l := s) (fun n => by rw [ha];exact fun h => by cases h) hsl
      (repeat' (first|refine wS ?_|refine wK ?_|refine wR ?_|refine wT ?_|(refine wC rfl ?_ ?_<;>(intro hb;(try simp only [nm] at hb);try (exfalso;omega)))|(refine rg 0 (aV ?_))|(refine eS (id := 1) 64 ZH (rM 11 11) ZI fL rfl (by decide +kernel) (dN rfl (dV rfl (by exact dR rfl rfl) ?_));refine dP T rfl (dO T rfl (dN rfl (dV rfl (by exact dR rfl rfl) ?_)));refine dP T rfl (dO T rfl (dV rfl (mT jJ rfl) (dV rfl (sD rfl rfl) (dV rfl (by exact gA jJ rfl rfl rfl (by decide) (by omega) (by omega) e1) ?_))));refine dE ?_;refine aV ?_)|(refine rg 2 (eW rfl (vV (kC (hi)) (aV ?_))))|(refine rg 3 (mW rfl (vV (bB rfl rfl) ?_)))|(refine rg 6 (eW rfl (vV (by exact gA jJ rfl rfl rfl (by decide) (by omega) (by omega) e2) ?_));refine vV (kC (hA)) (mW rfl (xW rfl (xW rfl (mY ?_)))))|(refine eS (id := 7) 64 ZJ (rM 36 15) ZK fL rfl (by decide +kernel) (dN rfl (dV rfl (Q8 rfl rfl) (dN rfl (tG rfl (tG rfl (tG rfl (tG rfl (tG rfl (dG ?_)))))))));refine dV rfl (mS rfl rfl) (dN rfl (tG rfl (tG rfl (tG rfl (dV rfl (mS rfl rfl) (dE ?_)))))))|(refine rg 8 (mW rfl (cQ [0] rfl rfl hf rfl rfl (by decide) ⟨.inr rfl,trivial⟩ (by simp) rfl ?_)))|(refine rg 9 (aV ?_))|refine nZ ?_));all_goals first | (exfalso;omega) | exact ⟨.inl rfl,[0],_,rfl,rfl,rfl,⟨.inr rfl,trivial⟩,by decide,zN⟩
    · skip;have hA := CL (l := s) (fun n => by rw [ha];exact fun h => by cases h) hsl
      (repeat' (first|refine wS ?_|refine wK ?_|refine wR ?_|refine wT ?_|(refine wC rfl ?_ ?_<;>(intro hb;(try simp only [nm] at hb);try (exfalso;omega)))|(refine rg 0 (aV ?_))|(refine eS (id := 1) 64 ZH (rM 11 11) ZI fL rfl (by decide +kernel) (dN rfl (dV rfl (by exact dR rfl rfl) ?_));refine dP T rfl (dO T rfl (dN rfl (dV rfl (by exact dR rfl rfl) ?_)));refine dP T rfl (dO T rfl (dV rfl (mT jJ rfl) (dV rfl (sD rfl rfl) (dV rfl (by exact gA jJ rfl rfl rfl (by decide) (by omega) (by omega) e1) ?_))));refine dE ?_;refine aV ?_)|(refine rg 2 (eW rfl (vV (kC (hi)) (aV ?_))))|(refine rg 3 (mW rfl (vV (bB rfl rfl) ?_)))|(refine rg 6 (eW rfl (vV (by exact gA jJ rfl rfl rfl (by decide) (by omega) (by omega) e2) ?_));refine vV (kC (hA)) (mW rfl (xW rfl (xW rfl (mY ?_)))))|(refine eS (id := 7) 64 ZJ (rM 36 15) ZK fL rfl (by decide +kernel) (dN rfl (dV rfl (Q8 rfl rfl) (dN rfl (tG rfl (tG rfl (tG rfl (tG rfl (tG rfl (dG ?_)))))))));refine dV rfl (mS rfl rfl) (dN rfl (tG rfl (tG rfl (tG rfl (dV rfl (mS rfl rfl) (dE ?_)))))))|(refine rg 8 (mW rfl (cQ [0] rfl rfl hf rfl rfl (by decide) ⟨.inr rfl,trivial⟩ (by simp) rfl ?_)))|(refine rg 9 (aV ?_))|refine nZ ?_));all_goals first | (exfalso;omega) | exact ⟨.inl rfl,[0],_,rfl,rfl,rfl,⟨.inr rfl,trivial⟩,by decide,zN⟩
theorem HY (r r' : List UInt8) (b : Bool) (e : UInt8) (lo n : Int) (hl : r.length ≤ 1000000000) (h : tX r e lo = some (n,r')) :
    bJ Tryz.prog 113 [.ptr 0 0,.v (.int .u8 e.toNat),.i lo] [.cells [.s r,.b b]] (.i n) [.cells [.s r',.b b]] := by
  have hi := RV (r.take 21) e;have e1 : ((r.take (min (r.length : Int) 21).toNat).drop (0 : Int).toNat) = r.take 21 := by
    rw [CW,cY];by_cases h21 : r.length ≤ 21
    · rw [aY (by omega),aY h21]
    · rw [show (min (r.length : Int) 21).toNat = 21 by omega]
  unfold tX at h;by_cases h0 : Lib.indexByte (r.take 21) e < 0
  · rw [if_pos h0] at h;cases h
  rw [if_neg h0] at h;obtain ⟨k1,k2⟩ := H8 (JC.1 h0);have e2 : (((r.take 21).take (Lib.indexByte (r.take 21) e).toNat).drop (0 : Int).toNat) = r.take (Lib.indexByte (r.take 21) e).toNat := by
    rw [CW,cY,XA,S7 (by omega)]
  have e3 : (r.take ((r.length : Int)).toNat).drop (Lib.indexByte (r.take 21) e + 1).toNat = r.drop ((Lib.indexByte (r.take 21) e).toNat + 1) := by
    rw [bK,eA,show (Lib.indexByte (r.take 21) e + 1).toNat = (Lib.indexByte (r.take 21) e).toNat + 1 by omega]
  have hk : (Lib.indexByte (r.take 21) e).toNat ≤ (r.take 21).length := by rw [bV];omega
  have hsl : (r.take (Lib.indexByte (r.take 21) e).toNat).length ≤ 1000000 := by rw [bV];omega
  generalize Lib.indexByte (r.take 21) e = at_ at *;generalize r.take at_.toNat = s at *;rcases ha : Lib.atoiAll s with n' | _ | _
  · skip;rw [ha] at h;dsimp only at h;split at h
    · rename_i hc;simp only [Option.some.injEq,Prod.mk.injEq] at h;obtain ⟨rfl,rfl⟩ := h;have hA := GQ ha hsl;have hb := Lib.atoiAll_bounds ha;have hI := EG (n := n') ⟨hb.1,hb.2⟩;obtain ⟨hc,hlo⟩ := hc;generalize r.drop (at_.toNat + 1) = r' at *;refine dB T Tryz.func113 rfl rfl rfl rfl ?_
      (repeat' (first|refine wS ?_|refine wK ?_|refine wR ?_|(refine wC rfl ?_ ?_<;>(intro hb;(try simp only [nm] at hb);try (exfalso;omega)))|(refine rg 0 (aV ?_))|(refine eS (id := 1) 64 ZH (rM 11 11) ZI fL rfl (by decide +kernel) (dN rfl (dV rfl (by exact dR rfl rfl) ?_));refine dP T rfl (dO T rfl (dN rfl (dV rfl (by exact dR rfl rfl) ?_)));refine dP T rfl (dO T rfl (dV rfl (mT jJ rfl) (dV rfl (sD rfl rfl) (dV rfl (by exact gA jJ rfl rfl rfl (by decide) (by omega) (by omega) e1) ?_))));refine dE ?_;refine aV ?_)|(refine rg 2 (eW rfl (vV (kC (hi)) (aV ?_))))|(refine rg 3 (mW rfl (vV (bB rfl rfl) ?_)))|(refine rg 6 (eW rfl (vV (by exact gA jJ rfl rfl rfl (by decide) (by omega) (by omega) e2) ?_));refine vV (kC (hA)) (mW rfl (xW rfl (xW rfl (mY ?_)))))|(refine eS (id := 7) 64 ZJ (rM 36 15) ZK fL rfl (by decide +kernel) (dN rfl (dV rfl (wF rfl) (dN rfl (tN rfl (dT rfl (kC (hI)) (tN rfl (tN rfl (dT rfl (by exact gA jJ rfl rfl rfl (by decide) (by omega) (by omega) e2) ?_))))))));refine dT rfl (I4 rfl rfl hc) (dV rfl (nP rfl rfl) (dN rfl (tN rfl (tN rfl (dT rfl (bB rfl rfl) (dV rfl (nP rfl rfl) (dE ?_))))))))|(refine rg 10 (eW rfl (nV ?_));refine jQ T rfl (mW rfl (vV (eE rfl rfl (by omega) (by omega)) (vV (by exact gA jJ rfl rfl rfl (by omega) (by omega) (by omega) e3) ?_)));refine nV ?_;refine fW T rfl (bH T rfl rfl rfl rfl rfl rfl (by decide) rfl ?_))|(refine rg 11 (mW rfl (aV ?_)))|refine nZ ?_));all_goals first | (exfalso;omega) | exact ⟨.inl rfl,[0],_,rfl,rfl,rfl,⟨.inr rfl,trivial⟩,by decide,zN⟩
    · cases h
  · rw [ha] at h;cases h
  · rw [ha] at h;cases h
theorem BD (s : St) (e : UInt8) (lo : Int) (hl : (s.getD []).length ≤ 1000000000) :
    bJ Tryz.prog 113 [.ptr 0 0,.v (.int .u8 e.toNat),.i lo] (FN s) (.i (jD s e lo).1) (FN (jD s e lo).2) := by
  cases s with
  | none => rw [P4];exact P3 [] true e lo hl (BF e lo)
  | some r =>
    cases hp : tX r e lo with
    | none => rw [P5 hp];exact P3 r false e lo hl hp
    | some p => rw [uT hp];exact HY r p.2 false e lo p.1 hl hp
theorem BL (s : St) (hl : (s.getD []).length ≤ 1000000000) : bJ Tryz.prog 114 [.ptr 0 0] (FN s) (.i (dD s).1) (FN (dD s).2) := by
  have hc := BD s 59 (-9223372036854775808) hl;refine dB T Tryz.func114 rfl rfl rfl rfl ?_
  (repeat' (first|refine wS ?_|refine wR ?_|(refine rg 0 (aV ?_))|(refine rg 1 (mW rfl (cQ [0] rfl rfl hc rfl rfl (by decide) ⟨.inr rfl,trivial⟩ (by simp) rfl ?_));refine aV ?_)|refine nZ ?_));all_goals exact ⟨.inl rfl,[0],_,rfl,rfl,rfl,⟨.inr rfl,trivial⟩,by decide,zN⟩
theorem UD (s : St) : bJ Tryz.prog 85 [.ptr 0 0] (FN s) (.b (decide (s = some []))) (FN s) := by
  refine dB T Tryz.func85 rfl rfl rfl rfl ?_
  match s with
  | none =>
    (repeat' (first|refine wS ?_|refine wR ?_|(refine rg 0 (aV ?_))|(refine rg 1 (mW rfl (nV ?_));refine jQ T rfl (vV (eJ rfl) (mV ?_));(iterate 5 refine gF ?_);refine pW rfl (aV ?_))|refine nZ ?_));all_goals exact ⟨.inl rfl,[0],_,rfl,rfl,rfl,⟨.inr rfl,trivial⟩,by decide,zN⟩
  | some r =>
    rw [show decide ((some r : St) = some []) = decide (r = []) from by simp]
    (repeat' (first|refine wS ?_|refine wR ?_|(refine rg 0 (aV ?_))|(refine rg 1 (mW rfl (nV ?_));refine jQ T rfl (vV (eJ rfl) (mW rfl (yN rfl (gT (nV ?_)))));refine yP T rfl (yO T rfl (yV (QK (a := r) (b := []) rfl rfl) (pW rfl (aV ?_)))))|refine nZ ?_));all_goals exact ⟨.inl rfl,[0],_,rfl,rfl,rfl,⟨.inr rfl,trivial⟩,by decide,zN⟩
theorem LZ (r : List UInt8) : (dD (some r)).2 = none ∨ ∃ r',(dD (some r)).2 = some r' ∧ r'.length + 2 ≤ r.length := by
  cases h : (dD (some r)).2 with
  | none => exact .inl rfl
  | some r' =>
    obtain ⟨r0,e,_,h3⟩ := BE h;cases e;exact .inr ⟨r',rfl,h3⟩
theorem U3 (s : St) (e : UInt8) : 0 ≤ (jD s e 0).1 := by
  unfold jD;split
  · rename_i n r h;have := (zJ h).2.1;split <;> simp <;> omega
  · simp
theorem LF (s : St) (hl : (s.getD []).length ≤ 1000000000) : bJ Tryz.prog 82 [.ptr 0 0] (FN s) (.i (jD s 59 0).1) (FN (jD s 59 0).2) := by
  have hc := BD s 59 0 hl;refine dB T Tryz.func82 rfl rfl rfl rfl ?_
  (repeat' (first|refine wS ?_|refine wR ?_|(refine rg 0 (aV ?_))|(refine rg 1 (mW rfl (cQ [0] rfl rfl hc rfl rfl (by decide) ⟨.inr rfl,trivial⟩ (by simp) rfl ?_));refine aV ?_)|refine nZ ?_));all_goals exact ⟨.inl rfl,[0],_,rfl,rfl,rfl,⟨.inr rfl,trivial⟩,by decide,zN⟩
theorem EE (s : St) : bJ Tryz.prog 83 [.ptr 0 0] (FN s) (.i (s.getD []).length) (FN s) := by
  refine dB T Tryz.func83 rfl rfl rfl rfl ?_
  (repeat' (first|refine wS ?_|refine wR ?_|(refine rg 0 (aV ?_))|(refine rg 1 (mW rfl (nV ?_));refine jQ T rfl (vV (mT jJ rfl) (aV ?_)))|refine nZ ?_));all_goals exact ⟨.inl rfl,[0],_,rfl,rfl,rfl,⟨.inr rfl,trivial⟩,by decide,zN⟩
theorem pF {n : Int} (h : tH n) (r : List UInt8) : dD (some (eZ n ++ r)) = (n,some r) := by
  unfold dD eZ;rw [bF,sX];exact uT (FT h h.1 (by decide))
theorem G9 {n : Int} (h : tH n) (h0 : 0 ≤ n) (r : List UInt8) : jD (some (eZ n ++ r)) 59 0 = (n,some r) := by
  unfold eZ;rw [bF,sX];exact uT (FT h h0 (by decide))
end Go.Proofs.YtdiogjgohbbllaaGreatDoor
namespace Go.Or
open Go Go.Ab Go.Wr Go.Proofs.YtdiogjgohbbllaaGreatDoor
def JJ (w : Wt) : List UInt8 := eZ w.1 ++ eZ w.2.1 ++ eZ w.2.2
def rO (l : List Wt) : List UInt8 := (l.map JJ).flatten
def OH (t : Tk) : List UInt8 := eZ t.1 ++ eZ t.2
def rS (l : List Tk) : List UInt8 := (l.map OH).flatten
def JG (l : List Tk) : List UInt8 := eZ l.length ++ rS l
def kP (tk : List (List Tk)) : List UInt8 := (tk.map JG).flatten
def RW (o : Od) : List UInt8 := eZ o.ws.length ++ rO o.ws
def Z2 (o : Od) : List UInt8 := RW o ++ (eZ o.due ++ eZ o.st) ++ kP o.tk
def vY (bk : Bk) : List UInt8 := (bk.map Z2).flatten
def pK (bk : Bk) : List UInt8 := eZ bk.length ++ vY bk
theorem sA {α : Type} (f : α → List UInt8) {l : List α} {k : Nat} (h : k < l.length) : ((l.take (k + 1)).map f).flatten = ((l.take k).map f).flatten ++ f l[k] := by
  rw [aX h,cO,fD];simp
theorem xN {α : Type} (f : α → List UInt8) {l : List α} {k : Nat} : ((l.take k).map f).flatten.length ≤ (l.map f).flatten.length := by
  conv => rhs;rw [← bU k l,cO,fD,aC]
  omega
structure XE (o : Od) : Prop where
  ws : ∀ w,w ∈ o.ws → tH w.1 ∧ tH w.2.1 ∧ tH w.2.2
  wl : o.ws.length ≤ 1000000
  due : tH o.due
  st : tH o.st
  tl : o.tk.length ≤ 1000000
  ll : ∀ l,l ∈ o.tk → l.length ≤ 1000000
  tk : ∀ l,l ∈ o.tk → ∀ t,t ∈ l → tH t.1 ∧ tH t.2
theorem xS (n : Int) : 0 < (eZ n).length := by simp [eZ]
theorem MZ (bk : Bk) : pK bk ≠ [] := fun h => by
  have := xS bk.length;have h2 := congrArg List.length h;unfold pK at h2;rw [aC,List.length_nil] at h2;omega
abbrev EV (l : List UInt8) : Hp := [.cells [.ptr 0 0,.sl 1 0 l.length 1],.buf 5 l]
end Go.Or
namespace Go.Proofs.YtdiogjgohbbllaaGreatDoor
open Go Go.Ab Go.Or Go.Wr
attribute [local irreducible] VC AW bQ bJ eQ
set_option maxHeartbeats 4000000
theorem DB {n : Int} (h : tH n) (h0 : 0 ≤ n) : bJ Tryz.prog 75 [.i n] [] (.s (eZ n)) [] := by
  have hc := tJ h;refine dB T Tryz.func75 rfl rfl rfl rfl ?_
  (repeat' (first|refine wS ?_|refine wK ?_|refine wR ?_|(refine wC rfl ?_ ?_<;>(intro hb;(try simp only [nm] at hb);try (exfalso;omega)))|(refine rg 0 (aV ?_))|(refine rg 1 (mW rfl (vV (bB rfl rfl) ?_)))|(refine rg 3 (mW rfl (vV (kC (hc)) (aV ?_))))|refine nZ ?_));all_goals first | (exfalso;omega) | exact rQ
theorem GK (bk : Bk) (hl : bk.length ≤ 1000000) (hI : ∀ o,o ∈ bk → XE o) (hL : (pK bk).length ≤ 90000000000) :
    bJ Tryz.prog 32 [JF bk] [] (.s (pK bk)) [] := by
  have hbl := pM bk;have c0 : bJ Tryz.prog 75 [.i (wJ bk).length] [] (.s (eZ bk.length)) [] := by rw [hbl];exact DB ⟨by omega,by omega⟩ (by omega)
  have i0 := kQ (n := (bk.length : Int)) ⟨by omega,by omega⟩
  refine dB T Tryz.func32 rfl rfl rfl rfl ?_
  (repeat' (first|refine wS ?_|refine wB ?_|(refine rg 0 (aV ?_))|(refine rg 1 (dX (IH T rfl rfl) rfl ?_))|(refine rg 2 (mW rfl (nV ?_));refine jQ T rfl (qW T rfl (vV (kC (c0)) (cQ [0] rfl rfl (JK _ (by omega)) rfl rfl (by decide) ⟨.inr rfl,trivial⟩ (by simp) rfl ?_))))|(refine rg 3 (mW rfl (nV ?_));refine jQ T rfl (qW T rfl (mV ?_)))|refine nZ ?_));have h00 : eZ bk.length ++ vY (bk.take 0) = eZ bk.length := by simp [vY]
  refine eN (X := {k : Nat // k ≤ bk.length}) (fun k => [(3,.ptr 0 0),(22,.rowE (wJ bk) 4),(23,.i (wJ bk).length),(24,.i k.1)]) (fun k => EV (eZ bk.length ++ vY (bk.take k.1))) (fun k => bk.length - k.1) ⟨0,bP _⟩ ⟨[0,1],rfl,by (repeat (first | exact trivial | refine ⟨rfl,?_⟩)),⟨.inr (by dsimp only;rw [h00];rfl),.inr (by dsimp only;rw [h00];rfl),trivial⟩,by decide,mR _⟩ ?_
  rintro ⟨k,hk⟩;dsimp only;by_cases hlt : k < bk.length
  · have hg := W3 hlt;have ho := hI _ (aK hlt);have hN : eZ bk.length ++ vY (bk.take (k + 1)) = (eZ bk.length ++ vY (bk.take k)) ++ Z2 bk[k] := by rw [bF];exact congrArg _ (sA Z2 hlt)
    have hLk : ((eZ bk.length ++ vY (bk.take k)) ++ Z2 bk[k]).length ≤ 90000000000 := by
      rw [← hN];refine cF ?_ hL;unfold pK vY;rw [aC,aC];exact Nat.add_le_add_left (xN Z2) _
    generalize bk[k] = o at *;generalize eZ bk.length ++ vY (bk.take k) = A at *;have hwll := ho.wl;have htll := ho.tl;have hwl := gR o.ws;have htl := nE o.tk;have c1 : bJ Tryz.prog 75 [.i (bZ o.ws).length] [] (.s (eZ o.ws.length)) [] := by rw [hwl];exact DB ⟨by omega,by have := ho.wl;omega⟩ (by omega)
    have hLo : A.length + (eZ o.ws.length).length + (rO o.ws).length + (eZ o.due ++ eZ o.st).length + (kP o.tk).length ≤ 90000000000 := by
      unfold Z2 RW at hLk;simp only [aC] at hLk ⊢;omega
    (repeat' (first|refine wS ?_|refine wB ?_|refine wK ?_|(refine wC rfl ?_ ?_<;>(intro hb;(try simp only [nm] at hb);try (exfalso;omega)))|(refine rg 4 (vV (bB rfl rfl) ?_))|(refine rg 5 (vV (ix T rfl (by omega) (yD bk) hg) (lW T rfl (dX (dH T rfl) rfl (bH T rfl rfl rfl rfl rfl rfl (by decide) rfl ?_)))))|refine nZ ?_));all_goals try (exfalso;omega)
    refine gV 5 (cs := HW o) rfl rfl rfl ?_
    (repeat' (first|refine wS ?_|(refine rg 6 (fW T rfl (jQ T rfl (qW T rfl (vV (kC (c1)) (cQ [0,1] rfl rfl (wV A (eZ o.ws.length) (by omega)) rfl rfl (by decide) ⟨.inr rfl,.inr rfl,trivial⟩ (by simp) rfl ?_))))))|refine nZ ?_));all_goals try (exfalso;omega)
    refine oS [(3,.ptr 0 0),(22,.rowE (wJ bk) 4),(23,.i (wJ bk).length),(24,.i k),(5,.pr (HW o) 0)] (EV (A ++ eZ o.ws.length)) ⟨[0,3],rfl,(by repeat first|exact trivial|refine ⟨rfl,?_⟩),⟨.inr (by rw [@aC _ A _];rfl),.inr rfl,trivial⟩,by decide,mR _⟩ ?_
    have hB1 : (A ++ eZ o.ws.length).length + (rO o.ws).length + (eZ o.due ++ eZ o.st).length + (kP o.tk).length ≤ 90000000000 := by rw [aC];exact hLo
    have hN1 : A ++ Z2 o = A ++ eZ o.ws.length ++ rO o.ws ++ (eZ o.due ++ eZ o.st) ++ kP o.tk := by unfold Z2 RW;simp only [bF]
    rw [hN1] at hN;clear hN1 hLo hLk c1;generalize A ++ eZ o.ws.length = B at *
    (repeat' (first|refine wB ?_|(refine rg 7 (fW T rfl (jQ T rfl (qW T rfl (mV ?_)))))|refine nZ ?_));refine eN (X := {j : Nat // j ≤ o.ws.length}) (fun j => [(3,.ptr 0 0),(22,.rowE (wJ bk) 4),(23,.i (wJ bk).length),(24,.i k),(5,.pr (HW o) 0),(36,.rowE (bZ o.ws) 3),(37,.i (bZ o.ws).length),(38,.i j.1)]) (fun j => EV (B ++ rO (o.ws.take j.1))) (fun j => o.ws.length - j.1) ⟨0,bP _⟩ ⟨[0,1],rfl,(by repeat first|exact trivial|refine ⟨rfl,?_⟩),⟨.inr (by dsimp only;rw [show B ++ rO (o.ws.take 0) = B from List.append_nil B];rfl),.inr (by dsimp only;rw [show B ++ rO (o.ws.take 0) = B from List.append_nil B];rfl),trivial⟩,by decide,mR _⟩ ?_
    rintro ⟨j,hj⟩;dsimp only;by_cases hjl : j < o.ws.length
    · have hgw : (bZ o.ws)[((j : Nat) : Int).toNat]? = some [AV.i o.ws[j].1,AV.i o.ws[j].2.1,AV.i o.ws[j].2.2] := by simp [hjl]
      have hw := ho.ws _ (aK hjl);have hts : B ++ rO (o.ws.take (j + 1)) = B ++ rO (o.ws.take j) ++ JJ o.ws[j] := by rw [bF];exact congrArg _ (sA JJ hjl)
      have hle : (B ++ rO (o.ws.take (j + 1))).length ≤ 90000000000 := by
        have := xN JJ (l := o.ws) (k := j + 1);rw [aC];show B.length + ((o.ws.take (j + 1)).map JJ).flatten.length ≤ _;have e : (rO o.ws).length = (o.ws.map JJ).flatten.length := rfl;omega
      rw [hts] at hle;generalize o.ws[j] = w at *;obtain ⟨wk,wc,wu⟩ := w;dsimp only at hgw hw;rw [show JJ (wk,wc,wu) = eZ wk ++ eZ wc ++ eZ wu from rfl] at hts hle
      have f1 := tJ hw.1;have f2 := tJ hw.2.1;have f3 := tJ hw.2.2;generalize B ++ rO (o.ws.take j) = D at *;simp only [aC] at hle
      (repeat' (first|refine wS ?_|refine wB ?_|refine wK ?_|(refine wC rfl ?_ ?_<;>(intro hb;(try simp only [nm] at hb);try (exfalso;omega)))|(refine rg 8 (vV (bB rfl rfl) ?_))|(refine rg 9 (vV (ix T rfl (by omega) (tI _) hgw) (lW T rfl (dX (dH T rfl) rfl (bH T rfl rfl rfl rfl rfl rfl (by decide) rfl ?_)))))|refine nZ ?_));all_goals try (exfalso;omega)
      refine gV 7 (cs := [.i wk,.i wc,.i wu]) rfl rfl rfl ?_
      (repeat' (first|(refine yH (id := 10) 11 94 [[],[0],[0,1],[],[3],rN 5,rN 6,[],[7],[0,1,2,3,4,5,7,8],rN 10,rN 11] [[],[0],[0,1],[],[3],rN 5,rN 6,[],[7],[0,1,2,3,4,5,7,8],rN 10] (rM 42 11) [[],[],[],[42,43,44],[42,43,44],[],[],rM 42 7,rM 42 7,[48],[]] fL rfl (by decide +kernel) (by decide +kernel) ?_;(dsimp only [List.take,List.drop]);refine dP T rfl (dO T rfl (dV rfl (by exact cM rfl rfl f1 rfl rfl rfl) ?_));refine dP T rfl (dO T rfl (dV rfl (by exact cM rfl rfl f2 rfl rfl rfl) ?_));refine dV rfl (xU rfl rfl (by (try simp only [aC]);omega)) ?_;refine dP T rfl (dO T rfl (dV rfl (by exact cM rfl rfl f3 rfl rfl rfl) ?_));refine dV rfl (xU rfl rfl (by (try simp only [aC]);omega)) ?_;refine dE ?_;refine qG ?_;refine cQ [0,1] rfl rfl (wV D (eZ wk ++ eZ wc ++ eZ wu) (by (try simp only [aC]);omega)) rfl rfl (by decide) ⟨.inr rfl,.inr rfl,trivial⟩ (by simp) rfl ?_)|(refine rg 11 (vV (eE rfl rfl (by omega) (by omega)) (mV ?_)))|refine nZ ?_));all_goals try (exfalso;omega)
      all_goals exact ⟨⟨j + 1,hjl⟩,by dsimp only;omega,⟨[0,3],rfl,(by repeat first|exact trivial|refine ⟨rfl,?_⟩),⟨.inr (by dsimp only;rw [hts,@aC _ D _];rfl),.inr (by dsimp only;rw [hts];rfl),trivial⟩,by decide,mR _⟩⟩
    · obtain rfl : j = o.ws.length := by omega
      rw [eA];have f1 := tJ ho.due;have f2 := tJ ho.st;have hB2 : (B ++ rO o.ws).length + (eZ o.due ++ eZ o.st).length + (kP o.tk).length ≤ 90000000000 := by rw [aC];exact hB1
      generalize B ++ rO o.ws = D at *
      (repeat' (first|refine wS ?_|refine wE ?_|(refine wC rfl ?_ ?_<;>(intro hb;(try simp only [nm] at hb);try (exfalso;omega)))|(refine rg 8 (vV (bB rfl rfl) ?_))|refine nZ ?_));all_goals try (exfalso;omega)
      (repeat' (first|refine wS ?_|(refine yH (id := 12) 9 94 [[],[0],[0,1],[0,1,2],[],[4],[4,5],rN 7,rN 8,rN 9] [[],[0],[0,1],[0,1,2],[],[4],[4,5],rN 7,rN 8] (rM 55 9) [[],[],[],[],rM 55 4,rM 55 4,rM 55 4,[],[]] fL rfl (by decide +kernel) (by decide +kernel) ?_;(dsimp only [List.take,List.drop]);refine dP T rfl (dP T rfl (dO T rfl (dV rfl (by exact cM rfl rfl f1 rfl rfl rfl) ?_)));refine dP T rfl (dP T rfl (dO T rfl (dV rfl (by exact cM rfl rfl f2 rfl rfl rfl) ?_)));refine dV rfl (xU rfl rfl (by (try simp only [aC] at hB2);omega)) ?_;refine dE ?_;refine qG ?_;refine cQ [0,1] rfl rfl (wV D (eZ o.due ++ eZ o.st) (by omega)) rfl rfl (by decide) ⟨.inr rfl,.inr rfl,trivial⟩ (by simp) rfl ?_)|refine nZ ?_));all_goals try (exfalso;omega)
      refine oS [(3,.ptr 0 0),(22,.rowE (wJ bk) 4),(23,.i (wJ bk).length),(24,.i k),(5,.pr (HW o) 0)] (EV (D ++ (eZ o.due ++ eZ o.st))) ⟨[0,2],rfl,(by repeat first|exact trivial|refine ⟨rfl,?_⟩),⟨.inr (by rw [@aC _ D _];rfl),.inr rfl,trivial⟩,by decide,mR _⟩ ?_
      have hB3 : (D ++ (eZ o.due ++ eZ o.st)).length + (kP o.tk).length ≤ 90000000000 := by rw [@aC _ D _];exact hB2
      clear hB2 hB1;generalize D ++ (eZ o.due ++ eZ o.st) = E at *
      (repeat' (first|refine wB ?_|(refine rg 13 (jQ T rfl (qW T rfl (mV ?_))))|refine nZ ?_));refine eN (X := {i : Nat // i ≤ o.tk.length}) (fun i => [(3,.ptr 0 0),(22,.rowE (wJ bk) 4),(23,.i (wJ bk).length),(24,.i k),(66,nK o.tk),(67,.i (F3 o.tk).length),(68,.i i.1)]) (fun i => EV (E ++ kP (o.tk.take i.1))) (fun i => o.tk.length - i.1) ⟨0,bP _⟩ ⟨[0,1],rfl,(by repeat first|exact trivial|refine ⟨rfl,?_⟩),⟨.inr (by dsimp only;rw [show E ++ kP (o.tk.take 0) = E from List.append_nil E];rfl),.inr (by dsimp only;rw [show E ++ kP (o.tk.take 0) = E from List.append_nil E];rfl),trivial⟩,by decide,mR _⟩ ?_
      rintro ⟨i,hi⟩;dsimp only;by_cases hil : i < o.tk.length
      · have hg2 := D5 hil;have hm2 := aK hil;have hli := ho.ll _ hm2;have htI := ho.tk _ hm2;have hts : E ++ kP (o.tk.take (i + 1)) = E ++ kP (o.tk.take i) ++ JG o.tk[i] := by rw [bF];exact congrArg _ (sA JG hil)
        have hle : (E ++ kP (o.tk.take (i + 1))).length ≤ 90000000000 := by
          have := xN JG (l := o.tk) (k := i + 1);rw [aC];show E.length + ((o.tk.take (i + 1)).map JG).flatten.length ≤ _;have e : (kP o.tk).length = (o.tk.map JG).flatten.length := rfl;omega
        rw [hts] at hle;generalize o.tk[i] = l at *;have hll := jX l;generalize E ++ kP (o.tk.take i) = F at *;have g1 : bJ Tryz.prog 75 [.i (eI l).length] [] (.s (eZ l.length)) [] := by rw [hll];exact DB ⟨by omega,by omega⟩ (by omega)
        have hle2 : F.length + (eZ l.length).length + (rS l).length ≤ 90000000000 := by
          unfold JG at hle;simp only [aC] at hle;omega
        (repeat' (first|refine wS ?_|refine wB ?_|refine wK ?_|(refine wC rfl ?_ ?_<;>(intro hb;(try simp only [nm] at hb);try (exfalso;omega)))|(refine rg 14 (vV (bB rfl rfl) ?_))|(refine rg 15 (vV (ix T rfl (by omega) (uN _) hg2) (lW T rfl (aV ?_))))|(refine rg 16 (mW rfl (qW T rfl (vV (kC (g1)) (cQ [0,1] rfl rfl (wV F (eZ l.length) (by omega)) rfl rfl (by decide) ⟨.inr rfl,.inr rfl,trivial⟩ (by simp) rfl ?_)))))|refine nZ ?_));all_goals try (exfalso;omega)
        refine oS [(3,.ptr 0 0),(22,.rowE (wJ bk) 4),(23,.i (wJ bk).length),(24,.i k),(66,nK o.tk),(67,.i (F3 o.tk).length),(68,.i i),(9,.rowE (eI l) 2)] (EV (F ++ eZ l.length)) ⟨[0,2],rfl,(by repeat first|exact trivial|refine ⟨rfl,?_⟩),⟨.inr (by rw [@aC _ F _];rfl),.inr rfl,trivial⟩,by decide,mR _⟩ ?_
        have hts2 : E ++ kP (o.tk.take (i + 1)) = F ++ eZ l.length ++ rS l := by rw [hts];unfold JG;rw [bF]
        have hle3 : (F ++ eZ l.length).length + (rS l).length ≤ 90000000000 := by rw [aC];exact hle2
        generalize F ++ eZ l.length = G at *
        (repeat' (first|refine wB ?_|(refine rg 17 (mW rfl (qW T rfl (mV ?_))))|refine nZ ?_));refine eN (X := {j : Nat // j ≤ l.length}) (fun j => [(3,.ptr 0 0),(22,.rowE (wJ bk) 4),(23,.i (wJ bk).length),(24,.i k),(66,nK o.tk),(67,.i (F3 o.tk).length),(68,.i i),(76,.rowE (eI l) 2),(77,.i (eI l).length),(78,.i j.1)]) (fun j => EV (G ++ rS (l.take j.1))) (fun j => l.length - j.1) ⟨0,bP _⟩ ⟨[0,1],rfl,(by repeat first|exact trivial|refine ⟨rfl,?_⟩),⟨.inr (by dsimp only;rw [show G ++ rS (l.take 0) = G from List.append_nil G];rfl),.inr (by dsimp only;rw [show G ++ rS (l.take 0) = G from List.append_nil G];rfl),trivial⟩,by decide,mR _⟩ ?_
        rintro ⟨j,hj2⟩;dsimp only;by_cases hjl2 : j < l.length
        · have hgt := F0 hjl2;have ht := htI _ (aK hjl2);have hts3 : G ++ rS (l.take (j + 1)) = G ++ rS (l.take j) ++ OH l[j] := by rw [bF];exact congrArg _ (sA OH hjl2)
          have hle4 : (G ++ rS (l.take (j + 1))).length ≤ 90000000000 := by
            have := xN OH (l := l) (k := j + 1);rw [aC];show G.length + ((l.take (j + 1)).map OH).flatten.length ≤ _;have e : (rS l).length = (l.map OH).flatten.length := rfl;omega
          rw [hts3] at hle4;generalize l[j] = t at *;obtain ⟨t1,t2⟩ := t;dsimp only at hgt ht;rw [show OH (t1,t2) = eZ t1 ++ eZ t2 from rfl] at hts3 hle4
          have f1 := tJ ht.1;have f2 := tJ ht.2;generalize G ++ rS (l.take j) = D2 at *;simp only [aC] at hle4
          (repeat' (first|refine wS ?_|refine wB ?_|refine wK ?_|(refine wC rfl ?_ ?_<;>(intro hb;(try simp only [nm] at hb);try (exfalso;omega)))|(refine rg 18 (vV (bB rfl rfl) ?_))|(refine rg 19 (vV (ix T rfl (by omega) (rT _) hgt) (lW T rfl (dX (dH T rfl) rfl (bH T rfl rfl rfl rfl rfl rfl (by decide) rfl ?_)))))|refine nZ ?_));all_goals try (exfalso;omega)
          refine gV 11 (cs := [.i t1,.i t2]) rfl rfl rfl ?_
          (repeat' (first|(refine yH (id := 20) 7 94 [[],[0],[0,1],[],[3],rN 5,rN 6,rN 7] [[],[0],[0,1],[],[3],rN 5,rN 6] (rM 82 7) [[],[],[],[82,83,84],[82,83,84],[],[]] fL rfl (by decide +kernel) (by decide +kernel) ?_;(dsimp only [List.take,List.drop]);refine dP T rfl (dO T rfl (dV rfl (by exact cM rfl rfl f1 rfl rfl rfl) ?_));refine dP T rfl (dO T rfl (dV rfl (by exact cM rfl rfl f2 rfl rfl rfl) ?_));refine dV rfl (xU rfl rfl (by omega)) (dE ?_);refine qG ?_;refine cQ [0,1] rfl rfl (wV D2 (eZ t1 ++ eZ t2) (by (try simp only [aC]);omega)) rfl rfl (by decide) ⟨.inr rfl,.inr rfl,trivial⟩ (by simp) rfl ?_)|(refine rg 21 (vV (eE rfl rfl (by omega) (by omega)) (mV ?_)))|refine nZ ?_));all_goals try (exfalso;omega)
          all_goals exact ⟨⟨j + 1,hjl2⟩,by dsimp only;omega,⟨[0,3],rfl,(by repeat first|exact trivial|refine ⟨rfl,?_⟩),⟨.inr (by dsimp only;rw [hts3,@aC _ D2 _];rfl),.inr (by dsimp only;rw [hts3];rfl),trivial⟩,by decide,mR _⟩⟩
        · obtain rfl : j = l.length := by omega
          rw [eA]
          (repeat' (first|refine wS ?_|refine wE ?_|(refine wC rfl ?_ ?_<;>(intro hb;(try simp only [nm] at hb);try (exfalso;omega)))|(refine rg 18 (vV (bB rfl rfl) ?_))|(refine rg 22 (vV (eE rfl rfl (by omega) (by omega)) (mV ?_)))|refine nZ ?_));all_goals try (exfalso;omega)
          all_goals exact ⟨⟨i + 1,hil⟩,by dsimp only;omega,⟨[0,1],rfl,(by repeat first|exact trivial|refine ⟨rfl,?_⟩),⟨.inr (by dsimp only;rw [hts2];rfl),.inr (by dsimp only;rw [hts2];rfl),trivial⟩,by decide,mR _⟩⟩
      · obtain rfl : i = o.tk.length := by omega
        rw [eA]
        (repeat' (first|refine wS ?_|refine wE ?_|(refine wC rfl ?_ ?_<;>(intro hb;(try simp only [nm] at hb);try (exfalso;omega)))|(refine rg 14 (vV (bB rfl rfl) ?_))|(refine rg 23 (vV (eE rfl rfl (by omega) (by omega)) (mV ?_)))|refine nZ ?_));all_goals try (exfalso;omega)
        all_goals exact ⟨⟨k + 1,hlt⟩,by dsimp only;omega,⟨[0,1],rfl,(by repeat first|exact trivial|refine ⟨rfl,?_⟩),⟨.inr (by dsimp only;rw [hN];rfl),.inr (by dsimp only;rw [hN];rfl),trivial⟩,by decide,mR _⟩⟩
  · obtain rfl : k = bk.length := by omega
    rw [eA];have hst := KA (pK bk) (MZ bk) (by omega)
    (repeat' (first|refine wS ?_|refine wR ?_|refine wE ?_|(refine wC rfl ?_ ?_<;>(intro hb;(try simp only [nm] at hb);try (exfalso;omega)))|(refine rg 4 (vV (bB rfl rfl) ?_))|(refine rg 24 (cQ [0,1] rfl rfl hst rfl rfl (by decide) ⟨.inr rfl,.inr rfl,trivial⟩ (by simp) rfl ?_);refine aV ?_)|refine nZ ?_));all_goals first | (exfalso;omega) | exact rQ
end Go.Proofs.YtdiogjgohbbllaaGreatDoor
namespace Go.Or
open Go Go.Ab Go.Wr Go.Proofs.YtdiogjgohbbllaaGreatDoor
def jL : Nat → St → List Wt × St
  | 0,s => ([],s)
  | k + 1,s => if (s.getD []).length = 0 then ([],s) else
      (((dD s).1,(dD (dD s).2).1,(dD (dD (dD s).2).2).1) :: (jL k (dD (dD (dD s).2).2).2).1,(jL k (dD (dD (dD s).2).2).2).2)
def CI (t : Tk) : Prop := t.1 < 0 ∨ 3000 ≤ t.1 ∨ t.2 < 1 ∨ 20000 < t.2
instance (t : Tk) : Decidable (CI t) := inferInstanceAs (Decidable (_ ∨ _ ∨ _ ∨ _))
def kM : Nat → St → Option (List Tk × St)
  | 0,s => some ([],s)
  | k + 1,s => if (s.getD []).length = 0 then some ([],s) else
      if CI ((dD s).1,(dD (dD s).2).1) then none else
      (kM k (dD (dD s).2).2).map fun x => (((dD s).1,(dD (dD s).2).1) :: x.1,x.2)
def jZ : List Wt → St → Option (List (List Tk) × St)
  | [],s => some ([],s)
  | w :: ws,s => (kM (jD s 59 0).1.toNat (jD s 59 0).2).bind fun x => if w.2.1 < iM x.1 then none else (jZ ws x.2).map fun y => (x.1 :: y.1,y.2)
def kH (s : St) : List Wt × St := jL (jD s 59 0).1.toNat (jD s 59 0).2
def kN (s : St) : Option (Od × St) :=
  if iZ (kH s).1 (dD (kH s).2).1 = false ∨ (dD (dD (kH s).2).2).1 < 0 ∨ 5 ≤ (dD (dD (kH s).2).2).1 then none else
  if (dD (dD (kH s).2).2).1 ≠ 1 then some (⟨(kH s).1,(dD (kH s).2).1,(dD (dD (kH s).2).2).1,[]⟩,(dD (dD (kH s).2).2).2) else
  (jZ (kH s).1 (dD (dD (kH s).2).2).2).bind fun x => if x.1.all (·.isEmpty) then none else some (⟨(kH s).1,(dD (kH s).2).1,1,x.1⟩,x.2)
def mO : Nat → St → Bk → Option (Bk × St)
  | 0,s,L => some (L,s)
  | k + 1,s,L => if (s.getD []).length = 0 then some (L,s) else
      (kN s).bind fun x => if 1000 ≤ L.length then none else mO k x.2 (L ++ [x.1])
def P0 (l : List UInt8) : Option Bk :=
  (mO (jD (some l) 59 0).1.toNat (jD (some l) 59 0).2 []).bind fun x => if x.2 = some [] ∧ pK x.1 = l then some x.1 else none
theorem nL {l : List UInt8} : ((some l : St).getD []).length = l.length := rfl
theorem O2 : ∀ (ws : List Wt) (r : List UInt8), (∀ w, w ∈ ws → tH w.1 ∧ tH w.2.1 ∧ tH w.2.2) → jL ws.length (some (rO ws ++ r)) = (ws, some r)
  | [],r,_ => rfl
  | w :: ws,r,h => by
    obtain ⟨h1,h2,h3⟩ := h w aP;have e : rO (w :: ws) ++ r = eZ w.1 ++ (eZ w.2.1 ++ (eZ w.2.2 ++ (rO ws ++ r))) := by simp [rO,JJ]
    have h0 := xS w.1;rw [e,List.length_cons,jL,if_neg (by rw [nL,aC];omega),pF h1,pF h2,pF h3,O2 ws r fun w hw => h w (aF _ hw)]
theorem U2 {t : Tk} (h : BA t) : tH t.1 ∧ tH t.2 := by
  obtain ⟨h1,h2,h3,h4⟩ := h;exact ⟨⟨by omega,by omega⟩,⟨by omega,by omega⟩⟩
theorem O5 : ∀ (l : List Tk) (r : List UInt8), (∀ t, t ∈ l → BA t) → kM l.length (some (rS l ++ r)) = some (l, some r)
  | [],r,_ => rfl
  | t :: l,r,h => by
    have ht := h t aP;have e : rS (t :: l) ++ r = eZ t.1 ++ (eZ t.2 ++ (rS l ++ r)) := by simp [rS,OH]
    have h0 := xS t.1;rw [e,List.length_cons,kM,if_neg (by rw [nL,aC];omega),pF (U2 ht).1,pF (U2 ht).2,if_neg,O5 l r fun t hw => h t (aF _ hw)]
    · rfl
    · obtain ⟨h1,h2,h3,h4⟩ := ht;unfold CI;dsimp only;omega
theorem O8 : ∀ (ws : List Wt) (tk : List (List Tk)) (r : List UInt8), tk.length = ws.length → (∀ l, l ∈ tk → l.length ≤ 1000000 ∧ ∀ t, t ∈ l → BA t) → (∀ (i : Nat) (w : Wt) (l : List Tk), ws[i]? = some w → tk[i]? = some l → iM l ≤ w.2.1) → jZ ws (some (kP tk ++ r)) = some (tk, some r)
  | [],[],r,_,_,_ => rfl
  | [],_ :: _,_,h,_,_ => by cases h
  | _ :: _,[],_,h,_,_ => by cases h
  | w :: ws,l :: tk,r,hl,h,hs => by
    have h1 := h l aP;have e : kP (l :: tk) ++ r = eZ l.length ++ (rS l ++ (kP tk ++ r)) := by simp [kP,JG]
    have hn := G9 (n := (l.length : Int)) ⟨by omega,by omega⟩ (by omega) (rS l ++ (kP tk ++ r))
    have h2 := hs 0 w l rfl rfl;have ih := O8 ws tk r (by simpa using hl) (fun l hl => h l (aF _ hl)) fun i w l h1 h2 => hs (i + 1) w l h1 h2
    rw [e,jZ,hn];dsimp only;rw [bK,O5 l _ h1.2];dsimp only [Option.bind_some];rw [if_neg (by omega),ih];rfl
theorem pA {ws : List Wt} {due : Int} (h : iZ ws due = true) : (1 ≤ ws.length ∧ ws.length ≤ 20) ∧ (0 ≤ due ∧ due ≤ 20000) ∧ ∀ w,w ∈ ws → 0 ≤ w.1 ∧ (1 ≤ w.2.1 ∧ w.2.1 ≤ 20000) ∧ (0 ≤ w.2.2 ∧ w.2.2 ≤ 20000) := by
  unfold iZ at h;simp only [aL,rK,gG,decide_eq_false_iff_not,nC] at h;obtain ⟨⟨h1,h2,h3,h4⟩,h5⟩ := h;refine ⟨⟨by omega,by omega⟩,⟨by omega,by omega⟩,fun w hw => ?_⟩
  have := h5 w hw;unfold sH at this;simp only [mX,decide_eq_true_eq,not_or] at this;omega
def OB (bk : Bk) : Prop := ∀ o,o ∈ bk → ∀ w,w ∈ o.ws → tH w.1
theorem F4 : ∀ {l : List Tk}, (∀ t, t ∈ l → BA t) → (l.length : Int) ≤ iM l
  | [],_ => by decide
  | t :: l,h => by
    have := F4 fun t ht => h t (aF _ ht);have h1 := (h t aP).2.2.1;unfold iM at this ⊢;rw [List.map_cons,jK,List.length_cons];omega
theorem mZ.few {o : Od} (h : mZ o) : o.tk.length ≤ 20 ∧ ∀ l,l ∈ o.tk → l.length ≤ 20000 := by
  have hr := pA h.ws;by_cases h1 : o.st = 1
  · have hl := h.len h1;refine ⟨by omega,fun l hlm => ?_⟩
    obtain ⟨i,hi⟩ := bR.1 hlm;have hil := (aA.1 hi).1;have hs := h.sum i _ l (aB (by omega : i < o.ws.length)) hi
    have h2 := hr.2.2 _ (aK (by omega : i < o.ws.length))
    have h3 := F4 (h.ok l hlm);omega
  · rw [h.tk0 h1];exact ⟨by simp,fun l hl => nomatch hl⟩
theorem mZ.odI {o : Od} (h : mZ o) (hk : ∀ w,w ∈ o.ws → tH w.1) : XE o := by
  have hr := pA h.ws;have hf := h.few;have h0 := h.st0;have h4 := h.st4;refine ⟨fun w hw => ?_,by omega,⟨by omega,by omega⟩,⟨by omega,by omega⟩,by omega,fun l hl => by have := hf.2 l hl;omega,fun l hl t ht => U2 (h.ok l hl t ht)⟩
  have := hr.2.2 w hw;exact ⟨hk w hw,⟨by omega,by omega⟩,⟨by omega,by omega⟩⟩
theorem MC {o : Od} (h : XE o) (r : List UInt8) : kH (some (RW o ++ r)) = (o.ws,some r) := by
  have hl := h.wl;unfold kH RW;rw [bF,G9 ⟨by omega,by omega⟩ (by omega)]
  dsimp only;rw [bK,O2 o.ws r h.ws]
theorem S4 {tk : List (List Tk)} : tk.all (·.isEmpty) = true ↔ tk.flatten = [] := by
  rw [aT,K7];exact ⟨fun h l hl => by simpa using h l hl,fun h l hl => by simpa using h l hl⟩
theorem HP {o : Od} (h : mZ o) (hk : ∀ w,w ∈ o.ws → tH w.1) (r : List UInt8) : kN (some (Z2 o ++ r)) = some (o,some r) := by
  have hI := h.odI hk;have h0 := h.st0;have h4 := h.st4;have e : Z2 o ++ r = RW o ++ (eZ o.due ++ (eZ o.st ++ (kP o.tk ++ r))) := by simp [Z2]
  unfold kN;rw [e,MC hI];dsimp only;rw [pF hI.due];dsimp only;rw [pF hI.st];dsimp only;rw [if_neg (by rw [h.ws];simp;omega)]
  by_cases h1 : o.st = 1
  · rw [if_neg (by omega),O8 o.ws o.tk r (h.len h1) (fun l hl => ⟨by have := h.few.2 l hl;omega,h.ok l hl⟩) h.sum]
    dsimp only [Option.bind_some];rw [if_neg (fun hh => h.ne h1 (S4.1 hh))];obtain ⟨ws,due,st,tk⟩ := o;dsimp only at h1;subst h1;rfl
  · have ht := h.tk0 h1;rw [if_pos h1,ht];obtain ⟨ws,due,st,tk⟩ := o;dsimp only at ht;subst ht;simp [kP]
theorem PS (o : Od) : 0 < (Z2 o).length := by
  have := xS o.ws.length;unfold Z2 RW;simp only [aC];omega
theorem P1 : ∀ (bk L : Bk), (∀ o, o ∈ bk → mZ o ∧ ∀ w, w ∈ o.ws → tH w.1) → L.length + bk.length ≤ 1000 → mO bk.length (some (vY bk)) L = some (L ++ bk, some [])
  | [],L,_,_ => by rw [List.append_nil];rfl
  | o :: bk,L,h,hl => by
    have ho := h o aP;have e : vY (o :: bk) = Z2 o ++ vY bk := by simp [vY]
    have h0 := PS o;rw [List.length_cons] at hl;rw [e,List.length_cons,mO,if_neg (by rw [nL,aC];omega),HP ho.1 ho.2]
    dsimp only [Option.bind_some];rw [if_neg (by omega),P1 bk (L ++ [o]) (fun o ho => h o (aF _ ho)) (by rw [aC,bE];omega),bF];rfl
theorem KO {bk : Bk} (h : mM bk) (hk : OB bk) : P0 (pK bk) = some bk := by
  have hl := h.le;unfold P0
  conv => lhs;arg 1;rw [show pK bk = eZ bk.length ++ vY bk from rfl]
  rw [G9 ⟨by omega,by omega⟩ (by omega)]
  dsimp only;rw [bK,P1 bk [] (fun o ho => ⟨h.od o ho,hk o ho⟩) (by simpa using hl),List.nil_append]
  dsimp only [Option.bind_some];rw [if_pos ⟨rfl,rfl⟩]
theorem O4 : ∀ (k : Nat) (s : St) {l : List Tk} {s' : St}, kM k s = some (l, s') → ∀ t, t ∈ l → BA t
  | 0,s,l,s',h => by cases h;exact fun t ht => nomatch ht
  | k + 1,s,l,s',h => by
    rw [kM] at h;split at h
    · cases h;exact fun t ht => nomatch ht
    · split at h
      · cases h
      · rename_i hb;obtain ⟨⟨l2,s2⟩,h2,h3⟩ := bY.1 h;cases h3;intro t ht;rcases aQ.1 ht with rfl | ht
        · unfold CI at hb;dsimp only at hb;unfold BA;dsimp only;omega
        · exact O4 k _ h2 t ht
theorem O7 : ∀ (ws : List Wt) (s : St) {tk : List (List Tk)} {s' : St}, jZ ws s = some (tk, s') → tk.length = ws.length ∧ (∀ l, l ∈ tk → ∀ t, t ∈ l → BA t) ∧ ∀ (i : Nat) (w : Wt) (l : List Tk), ws[i]? = some w → tk[i]? = some l → iM l ≤ w.2.1
  | [],s,tk,s',h => by cases h;exact ⟨rfl,fun l hl => (nomatch hl),fun i w l h => by simp at h⟩
  | w :: ws,s,tk,s',h => by
    rw [jZ] at h;obtain ⟨⟨l,s1⟩,h1,h2⟩ := lR.1 h;dsimp only at h2;split at h2
    · cases h2
    · rename_i hb;obtain ⟨⟨tk2,s2⟩,h3,h4⟩ := bY.1 h2;cases h4;obtain ⟨a1,a2,a3⟩ := O7 ws s1 h3;refine ⟨by rw [List.length_cons,List.length_cons,a1],fun m hm => ?_,fun i v m hv hm => ?_⟩
      · rcases aQ.1 hm with rfl | hm
        · exact O4 _ _ h1
        · exact a2 m hm
      · cases i with
        | zero => simp at hv hm;subst hv hm;omega
        | succ i => exact a3 i v m (by simpa using hv) (by simpa using hm)
theorem G2 : ∀ (k : Nat) (s : St), ∀ w, w ∈ (jL k s).1 → tH w.1
  | 0,s => fun w hw => nomatch hw
  | k + 1,s => by
    rw [jL];split
    · exact fun w hw => nomatch hw
    · intro w hw;rcases aQ.1 hw with rfl | hw
      · exact qX s 59 _
      · exact G2 k _ w hw
theorem HO {s s' : St} {o : Od} (h : kN s = some (o,s')) : mZ o ∧ ∀ w,w ∈ o.ws → tH w.1 := by
  unfold kN at h;have hw := G2 (jD s 59 0).1.toNat (jD s 59 0).2;change ∀ w,w ∈ (kH s).1 → tH w.1 at hw;generalize (kH s).1 = ws at *;generalize (dD (kH s).2).1 = due at *;generalize (dD (dD (kH s).2).2).1 = st at *;generalize (dD (dD (kH s).2).2).2 = s2 at *;split at h
  · cases h
  · rename_i hb;simp only [not_or,Bool.not_eq_false] at hb;obtain ⟨b1,b2,b3⟩ := hb;split at h
    · rename_i h1;cases h;exact ⟨⟨b1,by dsimp only;omega,by dsimp only;omega,fun _ => rfl,fun e => absurd e h1,fun l hl => (nomatch hl),fun i w l _ h => by simp at h,fun e => absurd e h1⟩,hw⟩
    · rename_i h1;obtain ⟨⟨tk,s3⟩,h2,h3⟩ := lR.1 h;dsimp only at h3;split at h3
      · cases h3
      · rename_i h4;cases h3;obtain ⟨a1,a2,a3⟩ := O7 _ _ h2;exact ⟨⟨b1,by dsimp only;omega,by dsimp only;omega,fun e => absurd rfl e,fun _ => a1,a2,a3,fun _ e => h4 (S4.2 e)⟩,hw⟩
end Go.Or
