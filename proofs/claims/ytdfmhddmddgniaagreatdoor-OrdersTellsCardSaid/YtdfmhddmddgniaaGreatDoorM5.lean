/-
  Texts of the logic and of the layer,in one module (part 5).
-/
import Derived.Test.YtdfmhddmddgniaaGreatDoorM4
import Derived.Shelf.Strconv.ErrVarAll
import Derived.Lib.IndexLaws
set_option linter.unusedVariables false
set_option linter.unusedSimpArgs false
set_option linter.unnecessarySimpa false
namespace Go.Or
open Go Go.Ab Go.MapKept
theorem AU {h : Hp} {i : Nat} {θ : Nat → Nat} {km since c0 : Nat} {a b : List Nat} (hk : h[i]? = some (.iter (θ km) since a c0)) (e : a = b) : h[i]? = some ((AB.iter km since b c0).map θ) := by rw [hk,e];rfl
theorem GS {d : List Nat} {i : Nat} (h : d.Nodup) (hi : i ∉ d) : (d ++ [i]).Nodup := by
  rw [fB];exact ⟨h,by simp,fun a ha b hb e => hi (by simp at hb;rw [← hb,← e];exact ha)⟩
theorem nE {h : Hp} {i : Nat} {θ : Nat → Nat} {ks ks' : List Value} {vs vs' : List AV} (hk : h[i]? = some (.mapO ks' vs')) (e1 : ks' = ks) (e2 : vs' = vs) (hi : AV.idfL vs = true) : h[i]? = some ((AB.mapO ks vs).map θ) := by
  subst e1 e2;rw [hk];show _ = some (AB.mapO ks' (AV.mapL θ vs'));rw [nK θ vs' hi]
theorem I6 {h : Hp} {i : Nat} {θ : Nat → Nat} {ks : List Value} {vs vs' : List AV} {bs : List Nat} {ck : Nat} (hk : h[i]? = some (.mapB ks vs' bs ck)) (e : vs' = vs) (hi : AV.idfL vs = true) : h[i]? = some ((AB.mapB ks vs bs ck).map θ) := by
  subst e;rw [hk];show _ = some (AB.mapB ks (AV.mapL θ vs') bs ck);rw [nK θ vs' hi]
theorem pO {l a b : List Tk} (h : l = a ++ b) (hn : ∀ t,t ∈ l → 0 ≤ t.2) (x : Int) : 0 ≤ eW a x ∧ eW a x ≤ eW l x := by
  have nn : ∀ m : List Tk,(∀ t,t ∈ m → 0 ≤ t.2) → 0 ≤ eW m x := fun m hm => by
    induction m with
    | nil => exact uM _
    | cons t m ih =>
      have := ih fun u hu => hm u (aF _ hu);have h1 := hm t aL;simp only [eW];split <;> omega
  subst h;rw [kV];have h1 := nn a fun t ht => hn t (rA _ ht);have h2 := nn b fun t ht => hn t (ET _ ht);omega
structure G7 (bk : Bk) : Prop where
  nn : ∀ t,t ∈ jO bk → 0 ≤ t.1 ∧ 0 ≤ t.2
  le : ∀ b : Int,eW (jO bk) b ≤ 1000000000000
theorem Y3 (a b : Bk) : jO (a ++ b) = jO a ++ jO b := by unfold jO;rw [gR]
theorem Y0 {bk : Bk} {o : Od} (h : o ∈ bk) {t : Tk} (ht : t ∈ o.tk.flatten) : t ∈ jO bk := eS.2 ⟨o,h,ht⟩
theorem G7.bk {bk : Bk} (h : G7 bk) : CT bk := by
  refine ⟨fun o ho b k => ?_,fun b k => ?_⟩
  · obtain ⟨i,hi⟩ := cN.1 ho;obtain ⟨hl,he⟩ := aA.1 hi;have e : jO bk = jO (bk.take i) ++ (o.tk.flatten ++ jO (bk.drop (i + 1))) := by
      conv => lhs;rw [← cI i bk,aO hl,he]
      rw [Y3];rfl
    have hm := h.le b;have h1 := pO e (fun t ht => (h.nn t ht).2) b;have e2 : o.tk.flatten = o.tk.flatten.take k ++ o.tk.flatten.drop k := (cI _ _).symm;have h2 := pO e2 (fun t ht => (h.nn t (Y0 ho ht)).2) b;rw [e,kV,kV] at hm;have h3 := pO (l := jO (bk.drop (i + 1))) (a := jO (bk.drop (i + 1))) (b := []) (by simp) (fun t ht => (h.nn t (by rw [e];simp [ht])).2) b
    omega
  · have e : jO bk = jO (bk.take k) ++ jO (bk.drop k) := by rw [← Y3,cI]
    have := pO e (fun t ht => (h.nn t ht).2) b;have := h.le b;unfold lO;omega
theorem G7.part {bk : Bk} (h : G7 bk) {k j : Nat} (hk : k < bk.length) (b : Int) : 0 ≤ eW (jO (bk.take k) ++ bk[k].tk.flatten.take j) b ∧ eW (jO (bk.take k) ++ bk[k].tk.flatten.take j) b ≤ 1000000000000 := by
  have e : jO bk = (jO (bk.take k) ++ bk[k].tk.flatten.take j) ++ (bk[k].tk.flatten.drop j ++ jO (bk.drop (k + 1))) := by
    conv => lhs;rw [← cI k bk,aO hk]
    rw [Y3];show _ ++ (bk[k].tk.flatten ++ _) = _;generalize bk[k].tk.flatten = F
    conv => lhs;rw [← cI j F]
    simp only [aY];rfl
  have := pO e (fun t ht => (h.nn t ht).2) b;have := h.le b;omega
theorem zM7 (S : Nat → Prop) (w : World) (ρ : Pl) : R S w (.i 0) ρ (.int .i64 0) := by simp [R]
end Go.Or
namespace Go.Proofs.YtdfmhddmddgniaaGreatDoor
open Go Go.Ab Go.Or Go.MapKept
attribute [local irreducible] VC AW bJ bI eO AY VY O3
set_option maxHeartbeats 4000000
theorem BZ : Tryz.prog.underlying 116 = some (.map 3 3) := by kernel_rfl
theorem GZ : rR Tryz.prog 3 (IsKey (.int .i64)) := rR.int (by kernel_rfl)
theorem zQ0 : ∀ w,(zeroValue 3).run Tryz.prog w = .ok (.int .i64 0) w := FA (by kernel_rfl)
theorem zK0 : ∀ i : Nat,i < 2 → ([0,1] : List Nat)[i]? = some i := by decide
theorem RU (bk : Bk) (hl : bk.length ≤ 1000000) (h1 : ∀ o,o ∈ bk → o.tk.length ≤ 1000000 ∧ ∀ l,l ∈ o.tk → l.length ≤ 1000000) (hs : G7 bk) :
    bI Tryz.prog 61 [xX bk] [] (.mp 0) [.mapO (M7 (rE (jO bk))) (AA (rE (jO bk)))] := by
  have hbl := jG bk;refine dA T Tryz.func61 rfl rfl rfl rfl ?_
  (repeat' (first|refine wS ?_|refine wB ?_|(refine rg 0 (aV ?_))|(refine rg 1 (dQ (by exact CI) rfl ?_);refine dQ (dC T rfl) rfl (bA T rfl rfl rfl rfl rfl rfl (by decide) rfl ?_))|(refine rg 2 (mW rfl (nV ?_));refine eT T rfl (qW T rfl (mV ?_)))|refine nZ ?_));refine dR (X := {k : Nat // k ≤ bk.length}) (fun k => [(0,xX bk),(3,.ptr 1 0),(10,.rowE (uW bk) 4),(11,.i (uW bk).length),(12,.i k.1)]) (fun k => [.mapO (M7 (rE (jO (bk.take k.1)))) (AA (rE (jO (bk.take k.1)))),.cells [.mp 0]]) (fun k => bk.length - k.1) ⟨0,bG _⟩ ⟨[0,1],rfl,(by repeat first|exact trivial|refine ⟨rfl,?_⟩),⟨.inr rfl,.inr rfl,trivial⟩,by decide,iK _⟩ ?_
  rintro ⟨k,hk⟩;dsimp only;by_cases hlt : k < bk.length
  · have hg := rX hlt;have hm := aH hlt;have hsp := fun (j : Nat) (b : Int) => hs.part (j := j) hlt b;have hall := PY hlt;have hal := ZR bk[k];have hit := VB bk[k] (h1 _ hm).1 (h1 _ hm).2;generalize bk[k] = o at *;generalize jO (bk.take k) = A at *
    (repeat' (first|refine wS ?_|refine wB ?_|refine wK ?_|refine wT ?_|(refine rg 3 (vV (cJ rfl rfl (by omega)) ?_))|(refine rg 4 (mW rfl (aV ?_)))|(refine rg 5 (mW rfl (nV ?_));refine eT T rfl (mW rfl (vV (ix T rfl (by omega) (kR bk) hg) (vV (kC (hal)) ?_))))|refine nZ ?_));refine IK [] [0,1] [(0,xX bk),(3,.ptr 1 0),(10,.rowE (uW bk) 4),(11,.i (uW bk).length),(12,.i k)] (fun j => [.mapO (M7 (rE (A ++ o.tk.flatten.take j))) (AA (rE (A ++ o.tk.flatten.take j))),.cells [.mp 0]]) 2 rfl hit rfl rfl rfl trivial aI rfl (by repeat first|exact trivial|refine ⟨rfl,?_⟩) ⟨.inr (nE rfl (by simp) (by simp) (mF _)),.inr rfl,trivial⟩ (by decide) (iK _) (by simp) (bG _) (bC rfl) rfl (by decide) (fun m hm => by rw [uY hm];exact ⟨rfl,rfl⟩) ?_ ?_
    · intro j hj;rw [uY hj];have hb1 := hsp j;have hb2 := hsp (j + 1);have hsn : rE (A ++ o.tk.flatten.take (j + 1)) = PZ (rE (A ++ o.tk.flatten.take j)) o.tk.flatten[j] := by
        rw [bB hj,← aY,BY]
      have hs2 : ∀ b,eW (A ++ o.tk.flatten.take (j + 1)) b = eW (A ++ o.tk.flatten.take j) b + (if o.tk.flatten[j].1 = b then o.tk.flatten[j].2 else 0) := fun b => by
        rw [bB hj,← aY,kV];simp [eW]
      have hmo := DO (A ++ o.tk.flatten.take j);generalize o.tk.flatten[j] = t at *;generalize A ++ o.tk.flatten.take j = Y at *;generalize hM1 : rE (A ++ o.tk.flatten.take (j + 1)) = M1 at *;generalize hY1 : A ++ o.tk.flatten.take (j + 1) = Y1 at *;generalize rE Y = M at *;obtain ⟨tb,tn⟩ := t;dsimp only at *;have hnd := SU hmo.nd;unfold PZ at hsn;cases hfi : M.findIdx? fun e => decide (e.1 = tb) with
      | some i =>
        rw [hfi] at hsn;dsimp only at hsn;have hg1 := sI hfi;have hk1 : (M7 M)[i]? = some (kI tb) := by rw [aS,hg1];rfl
        have hk2 : (AA M)[i]? = some (.i (M.getD i (0,0)).2) := by rw [aS,hg1];rfl
        have hv := hmo.val _ (aJ hg1);dsimp only at hv;have c1 := hb1 tb;have c2 := hb2 tb;rw [hs2,if_pos rfl] at c2;have e1 := XL (v := (M.getD i (0,0)).2 + tn) hg1;have e2 := XJ (m := M) (i := i) (b := tb) (v := (M.getD i (0,0)).2 + tn);rw [← hsn] at e1 e2;generalize (M.getD i (0,0)).2 = v at *
        (repeat' (first|(refine rg 6 (dQ (dC T rfl) rfl (bA T rfl rfl rfl rfl rfl rfl (by decide) rfl ?_)))|refine nZ ?_));refine ⟨rfl,?_⟩
        (repeat' (first|refine wB ?_|(refine rg 7 (lW T rfl (eT T rfl (vV (by exact LB BZ GZ rfl rfl (GX _) rfl (xZ M) (K4 _) hnd hk1 hk2) ?_)));refine eT T rfl (vV (eD rfl rfl (by omega) (by omega)) (NS BZ GZ rfl rfl (GX _) rfl rfl (xZ M) (K4 _) hnd hk1 ?_)))|refine nZ ?_));all_goals try (exfalso;omega)
        all_goals
          show EQ _ _ _ _ [AB.mapO (M7 (rE _)) (AA (rE _)),AB.cells [AV.mp 0]];rw [hY1,hM1];exact ⟨[0,1],rfl,trivial,⟨.inr (nE rfl e1.symm e2.symm (mF _)),.inr rfl,trivial⟩,by decide,zK0⟩
      | none =>
        rw [hfi] at hsn;dsimp only at hsn;have hno := zC1 (sJ hfi);have c2 := hb2 tb;have c0 : eW Y tb = 0 := uZ fun u hu e => sJ hfi (e ▸ hmo.cov u hu);rw [hs2,if_pos rfl,c0] at c2;have e1 : M7 M1 = M7 M ++ [kI tb] := by rw [hsn];simp [M7]
        have e2 : AA M1 = AA M ++ [.i (0 + tn)] := by rw [hsn];simp [AA]
        (repeat' (first|(refine rg 6 (dQ (dC T rfl) rfl (bA T rfl rfl rfl rfl rfl rfl (by decide) rfl ?_)))|refine nZ ?_));refine ⟨rfl,?_⟩
        (repeat' (first|refine wB ?_|(refine rg 7 (lW T rfl (eT T rfl (vV (by exact N6 (zA := .i 0) BZ GZ zQ0 zM7 rfl rfl (GX _) rfl (xZ M) (K4 _) hno) ?_)));refine eT T rfl (vV (eD rfl rfl (by omega) (by omega)) (AL BZ GZ rfl rfl (GX _) rfl rfl (xZ M) (K4 _) hno ?_)))|refine nZ ?_));all_goals try (exfalso;omega)
        all_goals
          show EQ _ _ _ _ [AB.mapO (M7 (rE _)) (AA (rE _)),AB.cells [AV.mp 0]];rw [hY1,hM1];exact ⟨[0,1],rfl,trivial,⟨.inr (nE rfl e1.symm e2.symm (mF _)),.inr rfl,trivial⟩,by decide,zK0⟩
    · rw [dJ,← hall]
      (repeat' (first|(refine rg 8 (vV (eD rfl rfl (by omega) (by omega)) (mV ?_)))|refine nZ ?_));all_goals exact ⟨⟨k + 1,hlt⟩,by dsimp only;omega,⟨[0,1],rfl,(by repeat first|exact trivial|refine ⟨rfl,?_⟩),⟨.inr (nE rfl rfl rfl (mF _)),.inr rfl,trivial⟩,by decide,iK _⟩⟩
  · obtain rfl : k = bk.length := by omega
    rw [dJ]
    (repeat' (first|refine wS ?_|refine wR ?_|refine wE ?_|refine wU ?_|(refine rg 3 (vV (cX rfl rfl (by omega)) ?_))|(refine rg 9 (lW T rfl (aV ?_)))|refine nZ ?_));all_goals try (exfalso;omega)
    all_goals exact ⟨.inl rfl,[0],_,rfl,rfl,rfl,⟨.inr (nE rfl rfl rfl (mF _)),trivial⟩,by decide,iK _⟩
theorem MB (bk : Bk) (sure : List Bo) (hl : bk.length ≤ 1000000) (h1 : ∀ o,o ∈ bk → o.tk.length ≤ 1000000 ∧ ∀ l,l ∈ o.tk → l.length ≤ 1000000) (hs : G7 bk) (hsl : sure.length ≤ 1000000) (hc : ∀ b : Int,0 ≤ b → 0 ≤ cnt sure b ∧ cnt sure b ≤ 20000) :
    bI Tryz.prog 22 [xX bk,.rowE (eY sure) 3] [] (.sl 0 0 (gY bk sure).length 3) [.arr (eY (gY bk sure)) 3] := by
  have hrm := RU bk hl h1 hs;have hcl := PQ sure hsl;have hmo := DO (jO bk);have hnn := hs.nn;have hle := hs.le;rw [kE];have hfin : ∀ D : List Int,(∀ t,t ∈ jO bk → t.1 ∈ D) → uR (jO bk) sure D = gY bk sure := fun D hD => SG hD fun b hb => (hc b hb).1;generalize gY bk sure = SP at *;generalize jO bk = A at *;generalize rE A = m at *;refine dA T Tryz.func22 rfl rfl rfl rfl ?_
  (repeat' (first|refine wS ?_|refine wB ?_|(refine rg 0 (aV ?_))|(refine rg 1 (mW rfl (dQ (by exact uF rfl rfl hcl (.inr ⟨rfl,rfl,by simp⟩)) rfl ?_));refine aV ?_)|(refine rg 2 (mW rfl (dQ (by exact uF rfl rfl hrm (.inr ⟨rfl,rfl,by simp⟩)) rfl ?_));refine JH 1 rfl fun bs ck hb1' hb2' hb3' hb4'=>?_;refine dQ (by exact TP BZ rfl rfl) rfl ?_)|refine nZ ?_));have hbl : bs.length = m.length := by rw [hb1'];simp
  refine dR (X := {d : List Nat // d.Nodup ∧ ∀ i,i ∈ d → i < m.length}) (fun d => [(5,.sl 0 0 sure.length 3),(12,.ptr 2 0)]) (fun d => [.arr (eY (uR A sure (d.1.map fun i => (m.getD i (0,0)).1))) 3,.mapB (M7 m) (AA m) bs ck,.iter 1 ck (BD bs d.1) ck]) (fun d => m.length - d.1.length) ⟨[],aI,fun i hi => by cases hi⟩ ⟨[0,1,2],rfl,(by repeat first|exact trivial|refine ⟨rfl,?_⟩),⟨.inr (bM rfl (by rw [jI _ (uV _)];exact congrArg eY SD.symm) (uV _)),.inr (I6 rfl (nK _ _ (mF _)) (mF _)),.inr rfl,trivial⟩,by decide,iK _⟩ ?_
  rintro ⟨d,hnd,hlt⟩;dsimp only;have hdl := BU hnd hlt
  repeat' (first|refine wS ?_|refine wB ?_|refine wK ?_|refine wE ?_|refine wT ?_|refine wU ?_|(refine rg 3 ?_;refine VZ rfl rfl rfl hb4' (aU _) rfl (fun hend=>JG 1 rfl ?_) (fun i kv v b g1 g1' g2 g3=>?_);(all_goals (refine xV ?_)))|refine nZ ?_)
  · have hall := OE hb3' (by rw [hbl];exact hlt) hend
    rw [hbl] at hall;have hD := hfin (d.map fun i => (m.getD i (0,0)).1) fun t ht => by
      obtain ⟨e,he,e1⟩ := aK.1 (hmo.cov t ht);obtain ⟨i,hi⟩ := cN.1 he;refine aK.2 ⟨i,hall i (aA.1 hi).1,?_⟩;rw [aD,hi];exact e1
    rw [hD]
    (repeat' (first|refine wR ?_|(refine rg 7 (mW rfl (aV ?_)))|refine nZ ?_));all_goals exact ⟨.inl rfl,[0],_,rfl,rfl,rfl,⟨.inr (bM rfl rfl (uV _)),trivial⟩,by decide,iK _⟩
  · rw [aS] at g1;obtain ⟨⟨b0,v0⟩,hac,rfl⟩ := bX.1 g1;have hv : v = .i v0 := by rw [aS,hac] at g1';simpa using g1'.symm
    subst hv;have k1 : (M7 m)[i]? = some (kI b0) := by rw [aS,hac];rfl
    have k2 : (AA m)[i]? = some (.i v0) := by rw [aS,hac];rfl
    have hnew := OD g2 g3;have hil := (aA.1 hac).1;have hsn := JU (d := d) g2;have hd' : (d ++ [i]).Nodup ∧ ∀ j,j ∈ d ++ [i] → j < m.length := ⟨GS hnd hnew,fun j hj => (bH.1 hj).elim (hlt j) (fun e => by simp at e;rw [e];exact hil)⟩
    have hdl2 := BU hd'.1 hd'.2;rw [aB,bZ] at hdl2;have hmm := aJ hac;have hval := hmo.val _ hmm;obtain ⟨u,hu1,hu2⟩ := hmo.sub _ hmm;have hb0 := (hnn u hu1).1;dsimp only at hval hu2;rw [hu2] at hb0;have hvn : 0 ≤ v0 ∧ v0 ≤ 1000000000000 := by
      rw [hval];exact ⟨(pO (l := A) (a := A) (b := []) (by simp) (fun t ht => (hnn t ht).2) b0).1,hle b0⟩
    have hmap : (d ++ [i]).map (fun i => (m.getD i (0,0)).1) = d.map (fun i => (m.getD i (0,0)).1) ++ [b0] := by
      rw [dI];simp only [List.map_cons,List.map_nil];rw [aD,hac];rfl
    have hnb : b0 ∉ d.map (fun i => (m.getD i (0,0)).1) := fun hm => by
      obtain ⟨j,hj,e⟩ := aK.1 hm;have hjl := hlt j hj;have e2 : (m.map (·.1))[j]? = (m.map (·.1))[i]? := by
        rw [aS,aS,hac,aC hjl];rw [aD,aC hjl] at e;simpa using e
      exact hnew (((vY (by simpa using hjl) hmo.nd).1 e2) ▸ hj)
    generalize hD1 : (d ++ [i]).map (fun i => (m.getD i (0,0)).1) = D1 at *;generalize d.map (fun i => (m.getD i (0,0)).1) = D at *;subst hmap;have hbl2 := fM (uR A sure D);have hol := SE (l := A) (sure := sure) (D := D);by_cases hin : b0 < sure.length
    · have hst := OS (l := A) hb0 hin hnb;have hge := SF (l := A) hb0 hin hnb;have hbo := P8 (bs := uR A sure D) hb0 (by omega)
      have hcn : cnt (uR A sure D) b0 = cnt sure b0 := by unfold cnt;rw [hge]
      rw [hge,hcn] at hbo;have hcc := hc b0 hb0;rw [← hval] at hst;have hst2 := congrArg eY hst;rw [← UL] at hst2;dsimp only at hst2;generalize (sure.getD b0.toNat (0,0,0)).1 = x1 at *;generalize (sure.getD b0.toNat (0,0,0)).2.2 = x3 at *;generalize cnt sure b0 = c at *;generalize hO1 : uR A sure (D ++ [b0]) = O1 at *;generalize uR A sure D = O at *
      (repeat' (first|refine wS ?_|refine wT ?_|(refine rg 4 (dQ (by exact HT rfl rfl rfl rfl g2 k1 k2) rfl ?_);refine xW rfl (xW rfl (kJ ?_)))|(refine rg 5 (dS rfl (qW T rfl (vV (cJ rfl rfl (by omega)) ?_))))|(refine rg 6 (dS rfl (dS rfl (vV (by exact bQ T rfl rfl rfl rfl rfl (by omega) (by omega)) ?_)));refine fW T rfl (vV (by exact aX T rfl rfl (eJ rfl hbo) rfl) ?_);refine mW rfl (vV (fX rfl rfl (by omega) (by omega)) (vV (TR rfl rfl) (vV (by exact bQ T rfl rfl rfl rfl rfl (by omega) (by omega)) ?_)));refine fW T rfl (bA T rfl rfl rfl rfl rfl rfl (by decide) (lT rfl hbo rfl rfl) ?_))|refine nZ ?_));all_goals try (exfalso;omega)
      all_goals exact ⟨⟨d ++ [i],hd'⟩,by dsimp only;rw [aB,bZ];omega,[0,1,2],rfl,(by repeat first|exact trivial|refine ⟨rfl,?_⟩),⟨.inr (bM rfl (by dsimp only;rw [hD1,hO1,← hst2,Nat.zero_add]) (uV _)),.inr (I6 rfl rfl (mF _)),.inr (AU rfl hsn),trivial⟩,by decide,iK _⟩
    · have hsk := OT (l := A) (sure := sure) (D := D) (b := b0) (by omega)
      (repeat' (first|refine wS ?_|refine wK ?_|refine wU ?_|(refine rg 4 (dQ (by exact HT rfl rfl rfl rfl g2 k1 k2) rfl ?_);refine xW rfl (xW rfl (kJ ?_)))|(refine rg 5 (dS rfl (qW T rfl (vV (cX rfl rfl (by omega)) ?_))))|refine nZ ?_));all_goals try (exfalso;omega)
      all_goals exact ⟨⟨d ++ [i],hd'⟩,by dsimp only;rw [aB,bZ];omega,[0,1,2],rfl,(by repeat first|exact trivial|refine ⟨rfl,?_⟩),⟨.inr (bM rfl (by dsimp only;rw [hD1,hsk]) (uV _)),.inr (I6 rfl rfl (mF _)),.inr (AU rfl hsn),trivial⟩,by decide,iK _⟩
end Go.Proofs.YtdfmhddmddgniaaGreatDoor
namespace Go.Or
open Go Go.Ab
theorem BA {α : Type} {L : List α} {i : Nat} {e e' : α} (h : L[i]? = some e) : L = L.take i ++ e :: L.drop (i + 1) ∧ L.set i e' = L.take i ++ e' :: L.drop (i + 1) := by
  obtain ⟨h1,h2⟩ := aA.1 h;refine ⟨?_,by rw [List.set_eq_take_append_cons_drop,if_pos h1]⟩
  conv => lhs;rw [← cI i L,aO h1,h2]
theorem lR.upd {H H' : Hp} {pb po : Nat} {L : OL} (h : lR H pb po L) {i : Nat} {e : Od × AV × List Nat} (hi : L[i]? = some e) (o' : Od) (x' : AV) (B : List Nat)
    (hpb : H'[pb]? = H[pb]?) (hpo : H'[po]? = some (.arr ((L.map fun e => iT e.1 e.2.1).set i (iT o' x')) 4)) (hk : ∀ k,k < H.length → k ≠ po → k ∉ e.2.2 → H'[k]? = H[k]?)
    (hn : mU H' x' o'.tk B) (hB : ∀ k,k ∈ B → k ∈ e.2.2 ∨ H.length ≤ k) (hBn : B.Nodup) : lR H' pb po (L.set i (o',x',B)) := by
  obtain ⟨s1,s2⟩ := BA (e' := (o',x',B)) hi;have hnd := h.nd;have hlt := h.lt;have hfe : L.flatMap (·.2.2) = (L.take i).flatMap (·.2.2) ++ (e.2.2 ++ (L.drop (i + 1)).flatMap (·.2.2)) := by
    conv => lhs;rw [s1]
    rw [gR,gX]
  have hfs : (L.set i (o',x',B)).flatMap (·.2.2) = (L.take i).flatMap (·.2.2) ++ (B ++ (L.drop (i + 1)).flatMap (·.2.2)) := by
    rw [s2,gR,gX]
  have hmem : ∀ k,k ∈ L.flatMap (·.2.2) → k ∈ B1 pb po L := fun k hk => aF _ (aF _ hk);simp only [aP,aT,not_or] at hnd;obtain ⟨⟨n1,n2⟩,n3,n4⟩ := hnd;rw [hfe] at n2 n3 n4 hmem;generalize hF1 : (L.take i).flatMap (·.2.2) = F1 at *;generalize hF2 : (L.drop (i + 1)).flatMap (·.2.2) = F2 at *;have n4' := n4;rw [fB] at n4;obtain ⟨m1,m2,m3⟩ := n4;rw [fB] at m2;obtain ⟨m4,m5,m6⟩ := m2;have hF : ∀ k,k ∈ F1 ∨ k ∈ F2 → k < H.length ∧ k ∉ e.2.2 ∧ k ≠ po ∧ k ≠ pb := fun k hq => by
    have hq2 : k ∈ F1 ++ (e.2.2 ++ F2) := by rcases hq with hq | hq <;> simp [hq]
    refine ⟨hlt k (hmem k hq2),fun he => ?_,fun e1 => n3 (e1 ▸ hq2),fun e1 => n2 (e1 ▸ hq2)⟩;rcases hq with hq | hq
    · exact m3 k hq k (rA _ he) rfl
    · exact m6 k he k hq rfl
  have hpoe : po ∉ e.2.2 ∧ pb ∉ e.2.2 := ⟨fun he => n3 (by simp [he]),fun he => n2 (by simp [he])⟩
  have hpol := hlt po (by simp)
  have hpbl := hlt pb (by simp)
  refine ⟨by rw [hpb,h.b,eC],by rw [hpo,nQ],fun f hf => ?_,?_⟩
  · obtain ⟨j,hj⟩ := cN.1 hf;rw [cK] at hj;split at hj
    · split at hj
      · cases hj;exact hn
      · cases hj
    · rename_i hne;have hfL := aJ hj;refine (h.n f hfL).frame fun k hkf => ?_
      have hkF : k ∈ F1 ∨ k ∈ F2 := by
        rcases gP j i with hji | hji
        · left;rw [← hF1];exact eS.2 ⟨f,aJ (i := j) (by rw [bS,if_pos hji];exact hj),hkf⟩
        · right;rw [← hF2];exact eS.2 ⟨f,aJ (i := j - (i + 1)) (by rw [eR,show i + 1 + (j - (i + 1)) = j by omega];exact hj),hkf⟩
      obtain ⟨a1,a2,a3,_⟩ := hF k hkF;exact hk k a1 a3 a2
  · rw [hfs];have hBF : ∀ k,k ∈ B → k ∉ F1 ∧ k ∉ F2 ∧ k ≠ po ∧ k ≠ pb := fun k hkB => by
      rcases hB k hkB with hk | hk
      · refine ⟨fun h1 => (hF k (.inl h1)).2.1 hk,fun h1 => (hF k (.inr h1)).2.1 hk,fun e1 => hpoe.1 (e1 ▸ hk),fun e1 => hpoe.2 (e1 ▸ hk)⟩
      · refine ⟨fun h1 => ?_,fun h1 => ?_,by omega,by omega⟩
        · have := (hF k (.inl h1)).1;omega
        · have := (hF k (.inr h1)).1;omega
    simp only [aP,aT,not_or,bH];refine ⟨⟨n1,fun h1 => n2 (by simp [h1]),fun h1 => (hBF pb h1).2.2.2 rfl,fun h1 => n2 (by simp [h1])⟩,⟨fun h1 => n3 (by simp [h1]),fun h1 => (hBF po h1).2.2.1 rfl,fun h1 => n3 (by simp [h1])⟩,?_⟩
    rw [fB];refine ⟨m1,?_,fun a ha b hb e1 => ?_⟩
    · rw [fB];exact ⟨hBn,m5,fun a ha b hb e1 => (hBF a ha).2.1 (e1 ▸ hb)⟩
    · subst e1;rcases bH.1 hb with hb | hb
      · exact (hBF a hb).1 ha
      · exact m3 a ha a (ET _ hb) rfl
theorem lR.fr {H H' : Hp} {pb po : Nat} {L : OL} (h : lR H pb po L) {i : Nat} {e : Od × AV × List Nat} (hi : L[i]? = some e) {o' : Od} {x' : AV} {B : List Nat} (hle : H.length ≤ H'.length) (hpb : H'[pb]? = H[pb]?)
    (hk : ∀ k,k < H.length → k ≠ po → k ∉ e.2.2 → H'[k]? = H[k]?) (hB : ∀ k,k ∈ B → k ∈ e.2.2 ∨ H.length ≤ k) : Fr H (B1 pb po L) H' (B1 pb po (L.set i (o',x',B))) := by
  obtain ⟨s1,s2⟩ := BA (e' := (o',x',B)) hi;have he := aJ hi;refine ⟨hle,fun k hkl hkA => ?_,fun k hkA => ?_⟩
  · refine hk k hkl (fun e1 => hkA (by subst e1;simp)) fun h1 => hkA ?_
    exact aF _ (aF _ (eS.2 ⟨e,he,h1⟩))
  · rcases aT.1 hkA with rfl | hkA
    · exact .inl (by simp)
    rcases aT.1 hkA with rfl | hkA
    · exact .inl (by simp)
    obtain ⟨f,hf,hkf⟩ := eS.1 hkA;rcases tW hf with rfl | hf
    · rcases hB k hkf with h1 | h1
      · exact .inl (aF _ (aF _ (eS.2 ⟨e,he,h1⟩)))
      · exact .inr h1
    · exact .inl (aF _ (aF _ (eS.2 ⟨f,hf,hkf⟩)))
theorem lR.add {H H' : Hp} {pb po po' : Nat} {L : OL} (h : lR H pb po L) (o' : Od) (ho : o'.tk = []) (hpo' : H.length ≤ po')
    (hpb : H'[pb]? = some (.cells [.sl po' 0 (L.length + 1) 4])) (hpo : H'[po']? = some (.arr ((L.map fun e => iT e.1 e.2.1) ++ [iT o' .nils]) 4)) (hk : ∀ k,k < H.length → k ≠ po → k ≠ pb → H'[k]? = H[k]?) : lR H' pb po' (L ++ [(o',.nils,[])]) := by
  have hnd := h.nd;have hlt := h.lt;simp only [aP,aT,not_or] at hnd;obtain ⟨⟨n1,n2⟩,n3,n4⟩ := hnd;have hpbl := hlt pb (by simp)
  have hfl : ∀ k,k ∈ L.flatMap (·.2.2) → k < H.length := fun k hk => hlt k (aF _ (aF _ hk));refine ⟨by rw [hpb,aB,bZ],by rw [hpo];simp,fun f hf => ?_,?_⟩
  · rcases bH.1 hf with hf | hf
    · refine (h.n f hf).frame fun k hkf => ?_
      have hm : k ∈ L.flatMap (·.2.2) := eS.2 ⟨f,hf,hkf⟩;exact hk k (hfl k hm) (fun e1 => n3 (e1 ▸ hm)) (fun e1 => n2 (e1 ▸ hm))
    · rw [bK.1 hf];exact .inl ⟨rfl,ho,rfl⟩
  · rw [gR];simp only [gX,mH,List.append_nil,aP,aT,not_or];exact ⟨⟨by omega,n2⟩,fun hm => by have := hfl _ hm;omega,n4⟩
theorem lR.addFr {H H' : Hp} {pb po po' : Nat} {L : OL} (h : lR H pb po L) {o' : Od} (hle : H.length ≤ H'.length) (hpo' : H.length ≤ po') (hk : ∀ k,k < H.length → k ≠ po → k ≠ pb → H'[k]? = H[k]?) : Fr H (B1 pb po L) H' (B1 pb po' (L ++ [(o',.nils,[])])) := by
  refine ⟨hle,fun k hkl hkA => ?_,fun k hkA => ?_⟩
  · exact hk k hkl (fun e1 => hkA (by subst e1;simp)) (fun e1 => hkA (by subst e1;simp))
  · rcases aT.1 hkA with rfl | hkA
    · exact .inl (by simp)
    rcases aT.1 hkA with rfl | hkA
    · exact .inr hpo'
    rw [gR] at hkA;simp only [gX,mH,List.append_nil] at hkA;exact .inl (aF _ (aF _ hkA))
theorem SK {L : OL} {i : Nat} {e : Od × AV × List Nat} (h : L[i]? = some e) : (L.map fun e => iT e.1 e.2.1)[i]? = some (iT e.1 e.2.1) := by rw [aS,h];rfl
theorem E4 {L : OL} {j : Int} {e : Od × AV × List Nat} (h : L[j.toNat]? = some e) : (L.map fun e => iT e.1 e.2.1)[0 + j.toNat]? = some (iT e.1 e.2.1) := by rw [Nat.zero_add];exact SK h
theorem T6 {L : OL} {i : Nat} (h : i < L.length) : ∃ e,L[i]? = some e ∧ (L.map (·.1)).getD i jC = e.1 := by
  refine ⟨L[i],aC h,?_⟩;rw [aD,aS,aC h];rfl
theorem DM {L : OL} {i : Nat} {o' : Od} {x' : AV} {B : List Nat} : (L.set i (o',x',B)).map (·.1) = (L.map (·.1)).set i o' := by rw [nQ]
theorem lR.more {H H' : Hp} {pb po : Nat} {L : OL} (h : lR H pb po L) (hk : ∀ k,k < H.length → H'[k]? = H[k]?) : lR H' pb po L := h.frame fun k hkA => hk k (h.lt k hkA)
theorem fU {H Z : Hp} {k : Nat} (hk : k < H.length) : (H ++ Z)[k]? = H[k]? := by rw [aG hk]
theorem eX {H : Hp} {k q : Nat} {x : AB} (hk : k ≠ q) : (H.set q x)[k]? = H[k]? := by rw [iV (Ne.symm hk)]
theorem GD (l : List Wt) : (AB.arr (bV l) 3).rf = true := bD.2 fun e he => by obtain ⟨i,_,rfl⟩ := aK.1 he;rfl
theorem N7 : ∀ l : List Wt, AV.idfL (bV l).flatten = true
  | [] => rfl
  | x :: l => N7 l
def Z5 (H : Hp) (pb : Nat) (A : List Nat) (res : AV) (bk : Bk) (r : AV) (o : Hp) : Prop := r = res ∧ ∃ A',zR o pb bk A' ∧ Fr H A o A'
theorem Fr.app (H Z : Hp) (A : List Nat) : Fr H A (H ++ Z) A := ⟨by simp,fun k hk _ => fU hk,fun k hk => .inl hk⟩
theorem zR.app {H : Hp} {pb : Nat} {bk : Bk} {A : List Nat} (h : zR H pb bk A) (Z : Hp) : zR (H ++ Z) pb bk A := h.frame fun k hk => fU (h.lt k hk)
theorem Z5.from {H : Hp} {pb : Nat} {A : List Nat} {res : AV} {bk : Bk} {r : AV} {o : Hp} (Z : Hp) (h : Z5 (H ++ Z) pb A res bk r o) : Z5 H pb A res bk r o := by
  obtain ⟨h1,A',h2,h3⟩ := h;exact ⟨h1,A',h2,(Fr.app H Z A).trans h3⟩
theorem lR.ne {H : Hp} {pb po : Nat} {L : OL} (h : lR H pb po L) : pb ≠ po := fun e => by
  have := (aP.1 h.nd).1;exact this (by rw [e];simp)
theorem lR.nils {H : Hp} {pb po : Nat} {L : OL} (h : lR H pb po L) {i : Nat} {e : Od × AV × List Nat} (hi : L[i]? = some e) (o' : Od) (ho : o'.tk = []) (res : AV) :
    Z5 H pb (B1 pb po L) res ((L.map (·.1)).set i o') res (H.set po (.arr ((L.map fun e => iT e.1 e.2.1).set i (iT o' .nils)) 4)) := by
  have hpol := (aA.1 h.o).1;refine ⟨rfl,B1 pb po (L.set i (o',.nils,[])),⟨po,_,h.upd hi o' .nils [] (eX h.ne) (gE hpol) (fun k _ hne _ => eX hne) (.inl ⟨rfl,ho,rfl⟩) (fun k hk => by cases hk) aI,by rw [DM],rfl⟩,?_⟩
  exact h.fr hi (by simp) (eX h.ne) (fun k _ hne _ => eX hne) (fun k hk => by cases hk)
theorem zR.at {H : Hp} {pb : Nat} {bk : Bk} {A : List Nat} (h : zR H pb bk A) : ∃ po L,lR H pb po L ∧ bk = L.map (·.1) ∧ A = B1 pb po L := h
theorem K7 {X : Hp} {b : AB} : (X ++ [b])[(X ++ []).length]? = some b := by simp
theorem jR {X : Hp} {a b : AB} : (X ++ [a]).set X.length b = X ++ [b] := by simp
end Go.Or
namespace Go.Proofs.YtdfmhddmddgniaaGreatDoor
open Go Go.Ab Go.Or
attribute [local irreducible] VC AW bJ bI eO AY VY O3
set_option maxHeartbeats 4000000
theorem SR : bI Tryz.prog 8 [] [] (.ptr 0 0) [.cells [.nils]] := by
  refine dA T Tryz.func8 rfl rfl rfl rfl ?_
  (repeat' (first|refine wS ?_|refine wR ?_|(refine rg 0 (aV ?_))|(refine rg 1 (vV (by exact gS T rfl rfl rfl rfl) ?_);refine dQ (fE rfl rfl) rfl (aV ?_))|refine nZ ?_));all_goals exact ⟨.inl rfl,[0],_,rfl,rfl,rfl,⟨.inr rfl,trivial⟩,by decide,iK _⟩
theorem LC {H : Hp} {pb po : Nat} {L : OL} (h : lR H pb po L) (no : Int) (ss : List Int) (hl : L.length ≤ 1000) (hs : ss.length ≤ 1000) :
    eO Tryz.prog 93 [.ptr pb 0,.i no,.rowE (fQ ss) 1] H (fun r o => r = .tup [if kB (L.map (·.1)) no ss = 0 then .ep po (0 + no.toNat) 0 4 else .v (.pointer none),.i (kB (L.map (·.1)) no ss)] ∧ H = o) := by
  have hbk := h.b;have hnl := lG ss;refine jS T Tryz.func93 rfl rfl rfl rfl ?_;by_cases hr : no < 0 ∨ (L.length : Int) ≤ no
  · have hf : kB (L.map (·.1)) no ss = 4 := by unfold kB;rw [if_pos (by simpa using hr)]
    rw [hf]
    (repeat' (first|refine wS ?_|refine wR ?_|refine wT ?_|(refine wC rfl ?_ ?_<;>(intro hb;(try simp only [nm] at hb);try (exfalso;omega)))|(refine rg 0 (kJ ?_))|(refine rg 1 (mW rfl (vV (bE rfl rfl) (mV ?_)));refine bP rfl rfl ?_ ?_<;>(intro hb;rw [hb];(try simp only [nm] at hb);try (exfalso;omega));(all_goals first|(refine gT (mW rfl (gT (mW rfl (gT (nV ?_)))));refine gT (fW T rfl (gT (vV (by exact aX T rfl rfl (bW hbk) rfl) ?_)));refine gT (qW T rfl (gT (vV (eN rfl rfl) ?_))))|(iterate 7 refine gF ?_));(all_goals (refine pV ?_)))|(refine rg 2 (kJ ?_))|refine nZ ?_));all_goals first | (exfalso;omega) | exact ⟨.inl rfl,_,rfl,rfl,rfl⟩
  · obtain ⟨e,he,hge⟩ := T6 (L := L) (i := no.toNat) (by omega)
    have hg := E4 he;have hc := IF ss e.1.st (by omega)
    have ho := h.o;have hf : kB (L.map (·.1)) no ss = if e.1.st ∈ ss then 0 else 7 := by unfold kB;rw [if_neg (by simpa using hr),hge]
    rw [hf];by_cases hin : e.1.st ∈ ss
    · rw [decide_eq_true hin] at hc;rw [if_pos hin]
      (repeat' (first|refine wS ?_|refine wK ?_|refine wR ?_|refine wU ?_|(refine wC rfl ?_ ?_<;>(intro hb;(try simp only [nm] at hb);try (exfalso;omega)))|(refine rg 0 (kJ ?_))|(refine rg 1 (mW rfl (vV (bE rfl rfl) (mV ?_)));refine bP rfl rfl ?_ ?_<;>(intro hb;rw [hb];(try simp only [nm] at hb);try (exfalso;omega));(all_goals (refine yN rfl (yN rfl (gT (nV ?_)));refine yP T rfl (yV (by exact aX T rfl rfl (bW hbk) rfl) ?_);refine gT (qW T rfl (yV (eN rfl rfl) (pV ?_))))))|(refine rg 3 (mW rfl (nV ?_));refine fW T rfl (vV (by exact aX T rfl rfl (bW hbk) rfl) ?_);refine mW rfl (vV (by exact bQ T rfl rfl rfl rfl rfl (by omega) (by omega)) ?_);refine aV ?_)|(refine rg 4 (dS rfl (nV ?_));refine fW T rfl (fW T rfl (vV (by exact aX T rfl rfl (eJ ho hg) rfl) ?_));refine vV (kC (hc)) (vV (cV rfl) ?_))|(refine rg 6 (mW rfl (kJ ?_)))|refine nZ ?_));all_goals first | (exfalso;omega) | exact ⟨.inl rfl,_,rfl,rfl,rfl⟩
    · rw [decide_eq_false hin] at hc;rw [if_neg hin]
      (repeat' (first|refine wS ?_|refine wK ?_|refine wR ?_|refine wT ?_|(refine wC rfl ?_ ?_<;>(intro hb;(try simp only [nm] at hb);try (exfalso;omega)))|(refine rg 0 (kJ ?_))|(refine rg 1 (mW rfl (vV (bE rfl rfl) (mV ?_)));refine bP rfl rfl ?_ ?_<;>(intro hb;rw [hb];(try simp only [nm] at hb);try (exfalso;omega));(all_goals (refine yN rfl (yN rfl (gT (nV ?_)));refine yP T rfl (yV (by exact aX T rfl rfl (bW hbk) rfl) ?_);refine gT (qW T rfl (yV (eN rfl rfl) (pV ?_))))))|(refine rg 3 (mW rfl (nV ?_));refine fW T rfl (vV (by exact aX T rfl rfl (bW hbk) rfl) ?_);refine mW rfl (vV (by exact bQ T rfl rfl rfl rfl rfl (by omega) (by omega)) ?_);refine aV ?_)|(refine rg 4 (dS rfl (nV ?_));refine fW T rfl (fW T rfl (vV (by exact aX T rfl rfl (eJ ho hg) rfl) ?_));refine vV (kC (hc)) (vV (cV rfl) ?_))|(refine rg 5 (kJ ?_))|refine nZ ?_));all_goals first | (exfalso;omega) | exact ⟨.inl rfl,_,rfl,rfl,rfl⟩
theorem ZP {H : Hp} {pb : Nat} {bk : Bk} {A : List Nat} (hB : zR H pb bk A) (no st : Int) (ss : List Int) (hl : bk.length ≤ 1000) (hs : ss.length ≤ 1000) :
    eO Tryz.prog 97 [.ptr pb 0,.i no,.i st,.rowE (fQ ss) 1] H (Z5 H pb A (.i (rG bk no st ss).1) (rG bk no st ss).2) := by
  obtain ⟨po,L,h,rfl,rfl⟩ := hB;rw [bF] at hl;have hfp := LC h no ss hl hs;unfold rG;refine jS T Tryz.func97 rfl rfl rfl rfl ?_;by_cases hc : kB (L.map (·.1)) no ss = 0
  · obtain ⟨⟨r0,r1⟩,_,_,_⟩ := rV hc;rw [bF] at r1;obtain ⟨e,he,hge⟩ := T6 (L := L) (i := no.toNat) (by omega)
    rw [if_pos hc,hc] at hfp;rw [if_neg (by simp [hc])]
    have hg := E4 he;have hpol := (aA.1 h.o).1;have hnl : no.toNat < L.length := by omega
    (repeat' (first|refine wS ?_|refine wT ?_|(refine rg 0 (aV ?_))|(refine rg 1 (dS rfl (mW rfl (eU rfl rfl hfp rfl ?_)));rintro _ _ ⟨rfl,rfl⟩;dsimp only [fR];refine mW rfl (xW rfl (xW rfl (kJ ?_))))|(refine rg 2 (mW rfl (vV (cW rfl rfl) ?_)))|refine nZ ?_));all_goals try (exfalso;omega)
    (repeat' (first|refine wS ?_|refine wR ?_|(refine rg 3 (dS rfl (mW rfl (nV ?_)));refine fW T rfl (fW T rfl (bA T rfl rfl rfl rfl rfl rfl (by decide) (lT h.o hg rfl rfl) (nV ?_)));refine fV T ?_;refine bA T rfl rfl rfl rfl rfl rfl (by decide) (lT (gE hpol) (by rw [dY (by simpa using hnl)]) rfl rfl) ?_)|(refine rg 4 (mW rfl (aV ?_)))|refine nZ ?_));all_goals try (exfalso;omega)
    have hN := h.nils he { (L.map (·.1)).getD no.toNat jC with st := st,tk := [] } rfl (.i 0);rw [hge] at hN ⊢
    all_goals exact ⟨.inl rfl,_,rfl,by rw [fG,Nat.zero_add,fG];exact hN⟩
  · rw [if_neg hc] at hfp;rw [if_pos hc];generalize kB (L.map (·.1)) no ss = c at *
    (repeat' (first|refine wS ?_|refine wK ?_|refine wR ?_|(refine wC rfl ?_ ?_<;>(intro hb;(try simp only [nm] at hb);try (exfalso;omega)))|(refine rg 0 (aV ?_))|(refine rg 1 (dS rfl (mW rfl (eU rfl rfl hfp rfl ?_)));rintro _ _ ⟨rfl,rfl⟩;dsimp only [fR];refine mW rfl (xW rfl (xW rfl (kJ ?_))))|(refine rg 2 (mW rfl (vV (cW rfl rfl) ?_)))|(refine rg 4 (mW rfl (aV ?_)))|refine nZ ?_));all_goals first | (exfalso;omega) | exact ⟨.inl rfl,_,rfl,rfl,_,⟨po,L,h,rfl,rfl⟩,Fr.refl _ _⟩
theorem JE {H : Hp} {pb : Nat} {bk : Bk} {A : List Nat} (hB : zR H pb bk A) (no : Int) (hl : bk.length ≤ 1000) :
    eO Tryz.prog 41 [.ptr pb 0,.i no] H (Z5 H pb A (.i (rG bk no 4 [0,1]).1) (rG bk no 4 [0,1]).2) := by
  have he := ZP (hB.app [.gone]) no 4 [0,1] hl (by decide)
  refine jS T Tryz.func41 rfl rfl rfl rfl ?_
  (repeat' (first|refine wS ?_|refine wR ?_|(refine rg 0 (aV ?_))|(refine rg 1 (dS rfl (dQ (by exact bO T rfl rfl (by decide) (by decide) rfl rfl rfl) rfl ?_));refine xN 7 rfl bY rfl rfl ?_;rw [jR];refine eU rfl rfl he rfl ?_;rintro _ _ ⟨rfl,hq⟩;dsimp only [fR];refine aV ?_)|refine nZ ?_));all_goals exact ⟨.inl rfl,_,rfl,Z5.from [.gone] ⟨rfl,hq⟩⟩
theorem TL {H : Hp} {pb : Nat} {bk : Bk} {A : List Nat} (hB : zR H pb bk A) (no : Int) (hl : bk.length ≤ 1000) :
    eO Tryz.prog 42 [.ptr pb 0,.i no] H (Z5 H pb A (.i (rG bk no 3 [1]).1) (rG bk no 3 [1]).2) := by
  have he := ZP (hB.app [.gone]) no 3 [1] hl (by decide)
  refine jS T Tryz.func42 rfl rfl rfl rfl ?_
  (repeat' (first|refine wS ?_|refine wR ?_|(refine rg 0 (aV ?_))|(refine rg 1 (dS rfl (dQ (by exact bO T rfl rfl (by decide) (by decide) rfl rfl rfl) rfl ?_));refine xN 7 rfl bY rfl rfl ?_;rw [jR];refine eU rfl rfl he rfl ?_;rintro _ _ ⟨rfl,hq⟩;dsimp only [fR];refine aV ?_)|refine nZ ?_));all_goals exact ⟨.inl rfl,_,rfl,Z5.from [.gone] ⟨rfl,hq⟩⟩
theorem zJ7 (bk : Bk) : bI Tryz.prog 13 [xX bk] [] (.i bk.length) [] := by
  have hbl := jG bk;refine dA T Tryz.func13 rfl rfl rfl rfl ?_
  (repeat' (first|refine wS ?_|refine wR ?_|(refine rg 0 (aV ?_))|(refine rg 1 (mW rfl (nV ?_));refine eT T rfl (qW T rfl (aV ?_)))|refine nZ ?_));all_goals exact eP (.inl rfl) rfl (by rw [← hbl];rfl)
theorem UU {H : Hp} {pb : Nat} {bk : Bk} {A : List Nat} (hB : zR H pb bk A) (ws : List Wt) (due : Int) (hl : bk.length ≤ 1000) (hw : ws.length ≤ 1000000) :
    eO Tryz.prog 36 [.ptr pb 0,.rowE (bV ws) 3,.i due] H (Z5 H pb A (.tup [.i (wQ bk ws due).1.1,.i (wQ bk ws due).1.2]) (wQ bk ws due).2) := by
  have hcr := BE ws due hw;have hcl := zK ws hw;have hB0 := hB;obtain ⟨po,L,h,rfl,rfl⟩ := hB;rw [bF] at hl;have hbk := h.b;unfold wQ;refine jS T Tryz.func36 rfl rfl rfl rfl ?_;cases hr : iW ws due with
  | false =>
    rw [hr] at hcr
    (repeat' (first|refine wS ?_|refine wB ?_|refine wR ?_|refine wT ?_|(refine rg 0 (kJ ?_))|(refine rg 1 (dS rfl (vV (kC (hcr)) (vV (cV rfl) (aV ?_)))))|(refine rg 2 (kJ ?_))|refine nZ ?_));all_goals exact ⟨.inl rfl,_,rfl,rfl,_,hB0,Fr.refl _ _⟩
  | true =>
    rw [hr] at hcr;rw [if_neg (by decide : ¬ (!true) = true)]
    by_cases h1000 : 1000 ≤ L.length
    · rw [if_pos (by simpa using h1000)]
      (repeat' (first|refine wS ?_|refine wB ?_|refine wR ?_|refine wU ?_|(refine wC rfl ?_ ?_<;>(intro hb;(try simp only [nm] at hb);try (exfalso;omega)))|(refine rg 0 (kJ ?_))|(refine rg 1 (dS rfl (vV (kC (hcr)) (vV (cV rfl) (aV ?_)))))|(refine rg 3 (mW rfl (nV ?_));refine fW T rfl (vV (by exact aX T rfl rfl (bW hbk) rfl) ?_);refine qW T rfl (vV (eN rfl rfl) (aV ?_)))|(refine rg 4 (kJ ?_))|refine nZ ?_));all_goals first | (exfalso;omega) | exact ⟨.inl rfl,_,rfl,rfl,_,hB0,Fr.refl _ _⟩
    · rw [if_neg (by simpa using h1000)]
      (repeat' (first|refine wS ?_|refine wB ?_|refine wK ?_|refine wU ?_|(refine wC rfl ?_ ?_<;>(intro hb;(try simp only [nm] at hb);try (exfalso;omega)))|(refine rg 0 (kJ ?_))|(refine rg 1 (dS rfl (vV (kC (hcr)) (vV (cV rfl) (aV ?_)))))|(refine rg 3 (mW rfl (nV ?_));refine fW T rfl (vV (by exact aX T rfl rfl (bW hbk) rfl) ?_);refine qW T rfl (vV (eN rfl rfl) (aV ?_)))|refine nZ ?_));all_goals try (exfalso;omega)
      have hpol := (aA.1 h.o).1;have hpbl := (aA.1 hbk).1
      (repeat' (first|refine wS ?_|(refine pM (id := 5) 40 [[],[],[1],[1,2],[1,2,3],[],[5],[],[5,6,7],rM 5 4,rM 5 5,rM 1 10,rN 12,rN 13,rN 14] (rM 20 14) [[],[20],[20],[20],[20],rM 20 5,rM 20 5,rM 20 7,rM 20 5,rM 20 5,rM 20 5,[20],[],[],[]] [(11,po),(14,pb)] dZ rfl (W1 (by decide +kernel) rfl rfl rfl rfl) (eI rfl rfl rfl rfl (by exact fD rfl) ?_);refine eI rfl rfl rfl rfl (by exact fD rfl) ?_;refine eI rfl rfl rfl rfl (by exact cO rfl rfl) ?_;refine eI rfl rfl rfl rfl (by exact eA T rfl rfl rfl) ?_;refine eI rfl rfl rfl rfl (by exact aX T rfl rfl (bW (bL hbk)) rfl) ?_;refine eI rfl rfl rfl rfl (by exact fD rfl) ?_;refine eI rfl rfl rfl rfl (by exact kX rfl rfl hcl (.cons (.row _ _ _) .nil) (gD _).symm (GD _) (N7 _)) ?_;refine eI rfl rfl rfl rfl (by exact fD rfl) ?_;refine eI rfl rfl rfl rfl (by exact gS T rfl rfl rfl rfl) ?_;refine eI rfl rfl rfl rfl (by exact gS T rfl rfl rfl rfl) ?_;refine V9 rfl rfl rfl rfl (by exact bO T rfl rfl (by decide) (by decide) rfl rfl rfl) rfl ?_;refine uU rfl rfl rfl rfl hpol (sK T rfl rfl rfl rfl rfl (bL h.o) (by simp) (jA.whole K7 rfl) rfl (by simp;omega) (by simp;omega)) ?_;refine eI rfl rfl rfl rfl (by exact cO rfl rfl) ?_;refine eI rfl rfl rfl rfl (by exact eA T rfl rfl rfl) ?_;refine L1 rfl rfl rfl rfl hpbl T rfl rfl rfl rfl rfl rfl (by decide) (JI (bL (fO h.ne hbk)) rfl) ?_;refine uG rfl rfl rfl (by exact rfl) ?_)|refine nZ ?_));have hta : List.take L.length (List.drop 0 (L.map fun e => iT e.1 e.2.1)) = L.map fun e => iT e.1 e.2.1 := by rw [cP,aQ (by simp)]
      refine jH [(0,.ptr pb 0)] ((H.set po .gone).set pb (.cells [.sl (H ++ [AB.arr [iT ⟨ws,due,0,[]⟩ .nils] 4]).length 0 (L.length + 1) 4]) ++ [.arr [iT ⟨ws,due,0,[]⟩ .nils] 4,.arr ((L.map fun e => iT e.1 e.2.1) ++ [iT ⟨ws,due,0,[]⟩ .nils]) 4]) (mP.of (by (conv => rhs;rw [← hta]);rfl) (by repeat first|exact trivial|refine ⟨rfl,?_⟩)) ?_
      have hlen : (H ++ [AB.arr [iT ⟨ws,due,0,[]⟩ .nils] 4]).length = H.length + 1 := by simp
      rw [hlen];have hpbl2 : pb < (H.set po .gone).length := by simpa using hpbl
      have g1 : ((H.set po .gone).set pb (.cells [.sl (H.length + 1) 0 (L.length + 1) 4]) ++ [AB.arr [iT ⟨ws,due,0,[]⟩ .nils] 4,.arr ((L.map fun e => iT e.1 e.2.1) ++ [iT ⟨ws,due,0,[]⟩ .nils]) 4])[pb]? = some (.cells [.sl (H.length + 1) 0 (L.length + 1) 4]) := bL (gE hpbl2);have g2 : ((H.set po .gone).set pb (.cells [.sl (H.length + 1) 0 (L.length + 1) 4]) ++ [AB.arr [iT ⟨ws,due,0,[]⟩ .nils] 4,.arr ((L.map fun e => iT e.1 e.2.1) ++ [iT ⟨ws,due,0,[]⟩ .nils]) 4])[H.length + 1]? = some (.arr ((L.map fun e => iT e.1 e.2.1) ++ [iT ⟨ws,due,0,[]⟩ .nils]) 4) := by
        rw [aE (by simp)];simp
      have g3 : ∀ k,k < H.length → k ≠ po → k ≠ pb → ((H.set po .gone).set pb (.cells [.sl (H.length + 1) 0 (L.length + 1) 4]) ++ [AB.arr [iT ⟨ws,due,0,[]⟩ .nils] 4,.arr ((L.map fun e => iT e.1 e.2.1) ++ [iT ⟨ws,due,0,[]⟩ .nils]) 4])[k]? = H[k]? := fun k hk h1 h2 => by
        rw [aG (by simpa using hk),eX h2,eX h1]
      have g4 : H.length ≤ ((H.set po .gone).set pb (.cells [.sl (H.length + 1) 0 (L.length + 1) 4]) ++ [AB.arr [iT ⟨ws,due,0,[]⟩ .nils] 4,.arr ((L.map fun e => iT e.1 e.2.1) ++ [iT ⟨ws,due,0,[]⟩ .nils]) 4]).length := by simp
      generalize (H.set po .gone).set pb (.cells [.sl (H.length + 1) 0 (L.length + 1) 4]) ++ [AB.arr [iT ⟨ws,due,0,[]⟩ .nils] 4,.arr ((L.map fun e => iT e.1 e.2.1) ++ [iT ⟨ws,due,0,[]⟩ .nils]) 4] = H1 at *;have hadd := h.add ⟨ws,due,0,[]⟩ rfl (IW H.length) g1 g2 g3
      (repeat' (first|refine wR ?_|(refine rg 6 (mW rfl (nV ?_));refine fW T rfl (vV (by exact aX T rfl rfl (bW g1) rfl) ?_);refine qW T rfl (vV (fX rfl rfl (by omega) (by omega)) (kJ ?_)))|refine nZ ?_));all_goals try (exfalso;omega)
      all_goals exact ⟨.inl rfl,_,rfl,by show AV.tup [AV.i _,AV.i _] = AV.tup [AV.i _,AV.i _];rw [bF,show (((L.length + 1 : Nat) : Int) - 1) = (L.length : Int) by omega],_,⟨H.length + 1,_,hadd,by simp,rfl⟩,h.addFr g4 (IW _) g3⟩
end Go.Proofs.YtdfmhddmddgniaaGreatDoor
namespace Go.Or
open Go Go.Ab
structure wW (ls : List Lo) (sure : List Bo) : Prop where
  ll : ls.length ≤ 1000000
  sl : sure.length ≤ 20
  lot : yS ls sure
  cn : ∀ b : Int,0 ≤ b → 0 ≤ cnt sure b ∧ cnt sure b ≤ 20000
structure ZC (bk : Bk) : Prop where
  le : bk.length ≤ 1000
  tk : ∀ o,o ∈ bk → o.tk.length ≤ 1000000 ∧ ∀ l,l ∈ o.tk → l.length ≤ 1000000
  sum : G7 bk
  ws : ∀ o,o ∈ bk → o.ws.length ≤ 1000
theorem RS (l : List Bo) : (AB.arr (eY l) 3).rf = true := xR l
theorem V5 : ∀ l : List Bo, AV.idfL (eY l).flatten = true
  | [] => rfl
  | x :: l => V5 l
theorem wW.spare {ls : List Lo} {sure : List Bo} {bk : Bk} (h : wW ls sure) (hn : ∀ b : Int,0 ≤ b → 0 ≤ lO bk b) : wW ls (gY bk sure) := by
  refine ⟨h.ll,by rw [kE];exact h.sl,fun i hi => ?_,fun b hb => ?_⟩
  · rw [kE] at hi;have e := AZ (bk := bk) (sure := sure) (b := (i : Int)) (by omega)
    rw [bN] at e;rw [e];exact h.lot i hi
  · by_cases hl : b < sure.length
    · rw [I7 hb hl];have := h.cn b hb;have := hn b hb;omega
    · rw [EF (by rw [kE];omega)];omega
mutual
theorem View.more {H : Hp} : ∀ {x y : AV}, View H x y → ∀ Z : Hp, View (H ++ Z) x y
  | _,_,.v x,_ => .v x
  | _,_,.any,_ => .any
  | _,_,.row a b c,_ => .row a b c
  | _,_,.mrow a b,_ => .mrow a b
  | _,_,.mp h1 h2,Z => .mp (bL h1) (iH.more h2 Z)
  | _,_,.pr a b,_ => .pr a b
  | _,_,.sl h1 h2 h3,Z => .sl (bL h1) h2 (iH.more h3 Z)
  | _,_,.ptr h1 h2,Z => .ptr (bL h1) (iH.more h2 Z)
  | _,_,.ep h1 h2 h3,Z => .ep (bL h1) h2 (iH.more h3 Z)
  | _,_,.agg h,Z => .agg (iH.more h Z)
  | _,_,.tup h,Z => .tup (iH.more h Z)
  | _,_,.clo h1 h2,Z => .clo (iH.more h1 Z) (iH.more h2 Z)
  | _,_,.ifc h,Z => .ifc (View.more h Z)
  | _,_,.nils n,_ => .nils n
theorem iH.more {H : Hp} : ∀ {x y : List AV}, iH H x y → ∀ Z : Hp, iH (H ++ Z) x y
  | _,_,.nil,_ => .nil
  | _,_,.cons h1 h2,Z => .cons (View.more h1 Z) (iH.more h2 Z)
end
theorem G7.nnr {bk : Bk} (h : G7 bk) (b : Int) : 0 ≤ lO bk b := (pO (l := jO bk) (a := jO bk) (b := []) (by simp) (fun t ht => (h.nn t ht).2) b).1
def IN (H : Hp) (u : AV) (sure : List Bo) : Prop := u = .rowE (eY sure) 3 ∨ ∃ k,u = .sl k 0 sure.length 3 ∧ H[k]? = some (.arr (eY sure) 3)
theorem IN.view {H : Hp} {u : AV} {sure : List Bo} (h : IN H u sure) : View H u (.rowE (eY sure) 3) := by
  rcases h with rfl | ⟨k,rfl,hk⟩
  · exact .row _ _ _
  · exact wD hk (fM _).symm (EH _)
theorem mU.shift {H o : Hp} {x : AV} {tk : List (List Tk)} {A : List Nat} (h : mU o x tk A) : mU (H ++ o.map (AB.map (· + H.length))) (x.map (· + H.length)) tk (A.map (· + H.length)) := by
  have hg : ∀ {k : Nat} {b : AB},o[k]? = some b → (H ++ o.map (AB.map (· + H.length)))[k + H.length]? = some (b.map (· + H.length)) := fun {k b} hk => by
    rw [aE (by omega),QC,aS,hk];rfl
  rcases h with ⟨rfl,rfl,rfl⟩ | ⟨p,N,rfl,h2,h3,rfl,rfl,h6⟩
  · exact .inl ⟨rfl,rfl,rfl⟩
  · refine .inr ⟨p + H.length,N.map fun e => (e.1 + H.length,e.2),?_,?_,fun e he => ?_,by simp [Function.comp_def],by simp [Function.comp_def],?_⟩
    · show AV.sl (p + H.length) 0 N.length 1 = _;rw [bF]
    · rw [hg h2];show some (AB.arr ((nH N).map (AV.mapL (· + H.length))) 1) = _;simp only [nH,nR,Function.comp_def];rfl
    · obtain ⟨f,hf,rfl⟩ := aK.1 he;have h4 := h3 f hf;dsimp only;rw [hg h4];show some (AB.arr ((eZ f.2).map (AV.mapL (· + H.length))) 2) = _;rw [jI _ (oF _)]
    · unfold List.Nodup;rw [VN];exact List.Pairwise.imp (fun h e => h (by omega)) h6
theorem mU.nd {H : Hp} {x : AV} {tk : List (List Tk)} {A : List Nat} (h : mU H x tk A) : A.Nodup := by
  rcases h with ⟨_,_,rfl⟩ | ⟨p,N,_,_,_,_,_,h6⟩
  · exact aI
  · exact h6
theorem mU.form {H : Hp} {x : AV} {tk : List (List Tk)} {A : List Nat} (h : mU H x tk A) : x = .nils ∨ ∃ p m,x = .sl p 0 m 1 := by
  rcases h with ⟨rfl,_⟩ | ⟨p,N,rfl,_⟩
  · exact .inl rfl
  · exact .inr ⟨p,_,rfl⟩
theorem mU.un {H : Hp} {x : AV} {tk : List (List Tk)} {A : List Nat} (h : mU H x tk A) : x.un = x := by
  rcases h with ⟨rfl,_⟩ | ⟨p,N,rfl,_⟩ <;> rfl
theorem uI {P : Program} {n : Nat × Nat} {code code' : Code} {Q Q' : Exit → dD → Hp → Prop} {env : dD} {h : Hp} {I : Type} (E : I → dD) (H : I → Hp) (C : I → Prop)
    (hk : ∀ x,C x → AW P n code' (E x) (H x) Q') (h1 : (∀ x,C x → AW P n code' (E x) (H x) Q') → AW P n code env h Q) : AW P n code env h Q := h1 hk
theorem PU (n k : Nat) : iG [] n 0 k = k + n := by unfold iG;simp;omega
theorem nO (n : Nat) : iG [] n 0 = (· + n) := funext (PU n)
end Go.Or
namespace Go.Proofs.YtdfmhddmddgniaaGreatDoor
open Go Go.Ab Go.Or
attribute [local irreducible] VC AW bJ bI eO AY VY O3
set_option maxHeartbeats 4000000
theorem J4 {H : Hp} {pb : Nat} {bk : Bk} {A : List Nat} (hB : zR H pb bk A) (hz : ZC bk) (ls : List Lo) (sure : List Bo) (hs : wW ls sure) (no : Int) (u : AV) (hsu : IN H u sure) :
    eO Tryz.prog 38 [.ptr pb 0,.i no,.rowE (iX ls) 3,u] H (Z5 H pb A (.i (qU ls sure bk no).1) (qU ls sure bk no).2) := by
  have hle := hz.le;have hB1 := hB.app [.gone];have hB0 := hB;have hu1 := View.more hsu.view [.gone];have hsu2 : u = .rowE (eY sure) 3 ∨ ∃ k,u = .sl k 0 sure.length 3 := hsu.imp id fun ⟨k,h,_⟩ => ⟨k,h⟩
  obtain ⟨po,L,h,rfl,rfl⟩ := hB1;rw [bF] at hle;have hfp := LC h no [0] hle (by decide)
  have hsp := MB (L.map (·.1)) sure (by rw [bF];omega) hz.tk hz.sum (by have := hs.sl;omega) hs.cn
  have hso := hs.spare (bk := L.map (·.1)) (fun b _ => hz.sum.nnr b);unfold qU;refine jS T Tryz.func38 rfl rfl rfl rfl ?_;by_cases hc : kB (L.map (·.1)) no [0] = 0
  · obtain ⟨⟨r0,r1⟩,_,hm,_⟩ := rV hc;rw [bF] at r1;obtain ⟨e,he,hge⟩ := T6 (L := L) (i := no.toNat) (by omega)
    rw [hge] at hm ⊢;have q1 := hso.cn;have q2 := hso.lot;have q3 := hz.ws _ hm;generalize hSP : gY (L.map (·.1)) sure = SP at *;have hpl := zB1 ls SP e.1.ws hso.ll hso.sl q2 q3 q1;rw [if_pos hc,hc] at hfp;rw [if_neg (by simp [hc] : ¬ kB (L.map (·.1)) no [0] ≠ 0)]
    generalize hq : oM ls SP e.1.ws = pl at *;have hg := E4 he
    (repeat' (first|refine wS ?_|refine wK ?_|refine wU ?_|(refine rg 0 (aV ?_))|(refine rg 1 (dS rfl (dQ (by exact bO T rfl rfl (by decide) (by decide) rfl rfl rfl) rfl ?_));refine xN 15 rfl bY rfl rfl ?_;rw [jR];refine eU rfl rfl hfp rfl ?_;rintro _ _ ⟨rfl,rfl⟩;dsimp only [fR];refine mW rfl (xW rfl (xW rfl (kJ ?_))))|(refine rg 2 (mW rfl (vV (pS rfl rfl) ?_)))|refine nZ ?_));all_goals try (exfalso;omega)
    have hvb := h.view;clear hsu hfp hB;apply uI (I := AV × Hp × List Nat) (fun x => [(9,.ep po (0 + no.toNat) 0 4),(10,.i pl.1),(11,x.1)]) (fun x => (H ++ [.gone]) ++ x.2.1) (fun x => mU ((H ++ [.gone]) ++ x.2.1) x.1 pl.2 x.2.2 ∧ ∀ k,k ∈ x.2.2 → (H ++ [AB.gone]).length ≤ k)
    case h1 =>
     intro rest;rcases hsu2 with rfl | ⟨ku,rfl⟩
     all_goals
      refine IL (id := 4) dZ ?_;refine rL 0 rfl rfl (by decide +kernel) (by decide +kernel) (by decide +kernel) (by exact tZ rfl) rfl ?_
      refine rL 1 rfl rfl (by decide +kernel) (by decide +kernel) (by decide +kernel) (by exact tZ rfl) rfl ?_
      refine rL 2 rfl rfl (by decide +kernel) (by decide +kernel) (by decide +kernel) (by exact tZ rfl) rfl ?_
      refine rL 4 rfl rfl (by decide +kernel) (by decide +kernel) (by decide +kernel) (by exact tZ rfl) rfl ?_
      refine rL 5 rfl rfl (by decide +kernel) (by decide +kernel) (by decide +kernel) (by exact xU rfl rfl) rfl ?_
      refine rL 6 rfl rfl (by decide +kernel) (by decide +kernel) (by decide +kernel) (by exact pP T rfl rfl rfl) rfl ?_
      refine rL 7 rfl rfl (by decide +kernel) (by decide +kernel) (by decide +kernel) (by exact pP T rfl rfl rfl) rfl ?_
      refine NM _ rfl [true,true,true,false,true,true,true,true,false,false,false,false,false,false,false] rfl rfl ?_
      (repeat' (first|(refine UZ rfl rfl rfl ?_ ?_<;>(((refine vV (by first|exact jJ rfl|exact nN rfl rfl|exact aX T rfl rfl (eJ h.o hg) rfl|exact kX rfl rfl hsp (.cons hvb (.cons hu1 .nil)) (fM _).symm (RS _) (V5 _)) ?_));refine uN ?_;dsimp only [List.set_cons_zero,List.set_cons_succ]))|(refine VA rfl rfl ?_;(first|(refine vV (by first|exact fD rfl|exact jJ rfl|exact nN rfl rfl|exact aX T rfl rfl (eJ h.o hg) rfl|exact kX rfl rfl hsp (.cons hvb (.cons hu1 .nil)) (fM _).symm (RS _) (V5 _)) ?_)|(refine pF [] rfl rfl hpl rfl rfl aI trivial (by simp) rfl ?_;rintro res hout hΦ;obtain ⟨x,B,rfl,hn,_,_⟩ := hΦ;dsimp only [fR]));refine uN ?_;dsimp only [List.set_cons_zero,List.set_cons_succ])));all_goals
        refine CS rfl ?_;rw [hq] at hn;have hsh := hn.shift (H := H ++ [.gone]);exact jH [(9,.ep po (0 + no.toNat) 0 4),(10,.i pl.1),(11,AV.map (· + (H ++ [AB.gone]).length) x)] ((H ++ [AB.gone]) ++ hout.map (AB.map (· + (H ++ [AB.gone]).length))) (mP.of (by rw [List.length_nil,nO,cP];rfl) ⟨rfl,by rw [← hq];rfl,by rw [List.length_nil,nO];exact congrArg some hsh.un,trivial⟩) (rest (_,_,_) ⟨hsh,fun k hk => by obtain ⟨m,_,rfl⟩ := aK.1 hk;omega⟩)
    rintro ⟨x,Z,B⟩ ⟨hn,hB2⟩;dsimp only at hn hB2 ⊢;have hX := h.more (H' := (H ++ [AB.gone]) ++ Z) fun k hk => fU hk
    have hXl : (H ++ [AB.gone]).length ≤ ((H ++ [AB.gone]) ++ Z).length := by simp
    have hXo : ∀ k,k < (H ++ [AB.gone]).length → ((H ++ [AB.gone]) ++ Z)[k]? = (H ++ [AB.gone])[k]? := fun k hk => fU hk
    have hpob := (aA.1 h.o).1;have hpbb := (aA.1 h.b).1;generalize (H ++ [AB.gone]) ++ Z = X at *;have hpol := (aA.1 hX.o).1;have hnl : no.toNat < L.length := by omega
    by_cases hz0 : pl.1 = 0
    · rw [hz0,if_neg (by simp : ¬ (0 : Int) ≠ 0)]
      have key : ∀ H',H' = X.set po (.arr ((L.map fun e => iT e.1 e.2.1).set no.toNat (iT { e.1 with st := 1,tk := pl.2 } x)) 4) → Z5 H pb (B1 pb po L) (.i 0) ((L.map (·.1)).set no.toNat { e.1 with st := 1,tk := pl.2 }) (.i 0) H' := fun H' hH => by
        subst hH;refine Z5.from [.gone] ⟨rfl,B1 pb po (L.set no.toNat ({ e.1 with st := 1,tk := pl.2 },x,B)),⟨po,_,h.upd he _ x B ((eX h.ne).trans (hXo _ hpbb)) (gE hpol) (fun k hk hne _ => (eX hne).trans (hXo k hk)) (hn.frame fun k hk => eX (by have := hB2 k hk;omega)) (fun k hk => .inr (hB2 k hk)) hn.nd,by rw [DM],rfl⟩,?_⟩
        exact h.fr he (by simpa using hXl) ((eX h.ne).trans (hXo _ hpbb)) (fun k hk hne _ => (eX hne).trans (hXo k hk)) (fun k hk => .inr (hB2 k hk))
      rcases hn.form with rfl | ⟨px,mx,rfl⟩
      all_goals
        (repeat' (first|refine wS ?_|refine wK ?_|refine wR ?_|refine wU ?_|(refine rg 5 (mW rfl (vV (pS rfl rfl) ?_)))|(refine rg 7 (dS rfl (mW rfl (nV ?_)));refine fW T rfl (fW T rfl (bA T rfl rfl rfl rfl rfl rfl (by decide) (lT hX.o hg rfl rfl) (nV ?_)));refine fV T ?_;refine bA T rfl rfl rfl rfl rfl rfl (by decide) (lT (gE hpol) (by rw [dY (by simpa using hnl)]) rfl rfl) ?_)|(refine rg 8 (aV ?_))|refine nZ ?_));all_goals try (exfalso;omega)
        all_goals exact ⟨.inl rfl,_,rfl,key _ (by rw [fG,Nat.zero_add,fG])⟩
    · rw [if_pos hz0]
      (repeat' (first|refine wS ?_|refine wR ?_|refine wT ?_|(refine rg 5 (mW rfl (vV (qQ rfl rfl (by omega)) ?_)))|(refine rg 6 (mW rfl (aV ?_)))|refine nZ ?_));all_goals first | (exfalso;omega) | exact ⟨.inl rfl,_,rfl,Z5.from [.gone] ⟨rfl,_,⟨po,L,hX,rfl,rfl⟩,⟨hXl,fun k hk _ => hXo k hk,fun k hk => .inl hk⟩⟩⟩
  · rw [if_neg hc] at hfp;rw [if_pos hc];generalize kB (L.map (·.1)) no [0] = c at *
    (repeat' (first|refine wS ?_|refine wR ?_|(refine wC rfl ?_ ?_<;>(intro hb;(try simp only [nm] at hb);try (exfalso;omega)))|(refine rg 0 (aV ?_))|(refine rg 1 (dS rfl (dQ (by exact bO T rfl rfl (by decide) (by decide) rfl rfl rfl) rfl ?_));refine xN 15 rfl bY rfl rfl ?_;rw [jR];refine eU rfl rfl hfp rfl ?_;rintro _ _ ⟨rfl,rfl⟩;dsimp only [fR];refine mW rfl (xW rfl (xW rfl (kJ ?_))))|(refine rg 2 (mW rfl (vV (pS rfl rfl) ?_)))|(refine rg 3 (mW rfl (aV ?_)))|refine nZ ?_));all_goals first | (exfalso;omega) | exact ⟨.inl rfl,_,rfl,rfl,_,⟨po,L,h,rfl,rfl⟩,Fr.app _ _ _⟩
end Go.Proofs.YtdfmhddmddgniaaGreatDoor
namespace Go.Or
open Go Go.Ab
abbrev gI (q : Tk → Bool) (l : List Tk) : List Tk := l.filter fun x => !q x
theorem U2 {q : Tk → Bool} {l : List Tk} {k : Nat} (h : k < l.length) : gI q (l.take (k + 1)) = if q l[k] then gI q (l.take k) else gI q (l.take k) ++ [l[k]] := by
  unfold gI;rw [bB h,H8];cases e : q l[k] <;> simp [e]
theorem TB (q : Tk → Bool) (l : List Tk) (k : Nat) : (gI q (l.take k)).length ≤ k := cQ (xG _ _) (by simp;omega)
abbrev t0 : Tk := (0,0)
theorem HI {l : List Tk} {m : Nat} (h : m < l.length) : l.getD m t0 = l[m] := by rw [aD,aC h];rfl
theorem QU {l : List Tk} {i : Nat} {x : Tk} {j : Int} (hj : j = i) : (eZ l).set (0 + j.toNat) [AV.i x.1,AV.i x.2] = eZ (l.set i x) := by
  subst hj;rw [Nat.zero_add,bN];show _ = List.map (fun t : Tk => [AV.i t.1,AV.i t.2]) (l.set i x);rw [nQ]
theorem RE {l : List Tk} {A : List Tk} {y x : Tk} : (A ++ y :: l).set A.length x = A ++ x :: l := by simp
theorem zL5 {G l : List Tk} {m : Nat} {i : Nat} (hg : G.length ≤ m) (hm : m < l.length) (hi : i = m) : (eZ (G ++ l.drop G.length))[i]? = some [AV.i (l.getD m t0).1,AV.i (l.getD m t0).2] := by
  subst hi;rw [aS,aE hg,eR,show G.length + (i - G.length) = i by omega,aC hm,HI hm];rfl
theorem zN2 {G l : List Tk} {x : Tk} {j : Int} (h : G.length < l.length) (hj : j = G.length) : (eZ (G ++ l.drop G.length)).set (0 + j.toNat) [AV.i x.1,AV.i x.2] = eZ ((G ++ [x]) ++ l.drop (G ++ [x]).length) := by
  rw [QU (i := G.length) hj,aO h,RE];simp
theorem zJ8 {G l : List Tk} (h : G.length ≤ l.length) : (eZ (G ++ l.drop G.length)).length = l.length := by simp;omega
theorem zI3 {G : List Tk} {l : List Tk} : (eZ (G ++ l.drop G.length)).take (0 + (G.length : Int).toNat) = eZ G := by
  rw [Nat.zero_add,bN,← List.map_take,List.take_left]
def vB (b : Int) : Int → List Tk → Int × List Tk
  | n,[] => (n,[])
  | n,t :: l => if t.1 = b then ((vB b (n - min n t.2) l).1,(t.1,t.2 - min n t.2) :: (vB b (n - min n t.2) l).2) else ((vB b n l).1,t :: (vB b n l).2)
abbrev zq (t : Tk) : Bool := t.2 == 0
theorem R1 (b : Int) : ∀ (n : Int) (l : List Tk), gO b n l = ((vB b n l).1, gI zq (vB b n l).2)
  | _,[] => rfl
  | n,t :: l => by
    unfold gO vB;split
    · rw [R1 b _ l];dsimp only;by_cases h : t.2 - min n t.2 = 0
      · simp [gI,zq,h]
      · simp [gI,zq,h]
    · rw [R1 b _ l];dsimp only;by_cases h : t.2 = 0
      · simp [gI,zq,h]
      · simp [gI,zq,h]
structure VS (b n0 : Int) (l0 : List Tk) (j : Nat) (n : Int) (l : List Tk) : Prop where
  jl : j ≤ l0.length
  ll : l.length = l0.length
  eq : vB b n0 l0 = ((vB b n (l.drop j)).1,l.take j ++ (vB b n (l.drop j)).2)
  nn : 0 ≤ n ∧ n ≤ 1000000000000
  ok : ∀ t,t ∈ l → 0 ≤ t.2 ∧ t.2 ≤ 1000000000000
theorem VS.next {b n0 : Int} {l0 : List Tk} {j : Nat} {n : Int} {l : List Tk} (h : VS b n0 l0 j n l) (hj : j < l.length) (hb : l[j].1 = b) : VS b n0 l0 (j + 1) (n - min n l[j].2) (l.set j (l[j].1,l[j].2 - min n l[j].2)) := by
  have hm := h.ok _ (aH hj);have h1 := h.nn;have heq := h.eq;rw [aO hj,vB,if_pos hb] at heq;refine ⟨by have := h.ll;omega,by rw [eC,h.ll],?_,by omega,fun t ht => ?_⟩
  · rw [heq,List.drop_set,if_pos (by omega),bB (by simpa using hj),EU,LS (by omega),aY];rfl
  · rcases tW ht with rfl | ht
    · dsimp only;omega
    · exact h.ok t ht
theorem VS.skip {b n0 : Int} {l0 : List Tk} {j : Nat} {n : Int} {l : List Tk} (h : VS b n0 l0 j n l) (hj : j < l.length) (hb : l[j].1 ≠ b) : VS b n0 l0 (j + 1) n l := by
  have heq := h.eq;rw [aO hj,vB,if_neg hb] at heq;refine ⟨by have := h.ll;omega,h.ll,?_,h.nn,h.ok⟩
  rw [heq,bB hj,aY];rfl
theorem VS.fin {b n0 : Int} {l0 : List Tk} {j : Nat} {n : Int} {l : List Tk} (h : VS b n0 l0 j n l) (hj : ¬ j < l.length) : gO b n0 l0 = (n,gI zq l) := by
  have heq := h.eq;rw [dH (by omega),aQ (by omega)] at heq
  rw [R1,heq];simp [vB]
structure QB (b n0 : Int) (X0 : Hp) (p : Nat) (N0 : List (Nat × List Tk)) (w : Nat) (n : Int) (N : List (Nat × List Tk)) (X : Hp) : Prop where
  wl : w ≤ N0.length
  nl : N.length = N0.length
  ks : N.map (·.1) = N0.map (·.1)
  eq : kW b n0 (N0.map (·.2)) = (N.take w).map (·.2) ++ kW b n ((N.drop w).map (·.2))
  nn : 0 ≤ n ∧ n ≤ 1000000000000
  ok : ∀ e,e ∈ N → e.2.length ≤ 1000000 ∧ ∀ t,t ∈ e.2 → 0 ≤ t.2 ∧ t.2 ≤ 1000000000000
  hp : X[p]? = some (.arr (nH N) 1)
  hn : uL X N
  le : X0.length ≤ X.length
  fr : ∀ k,k < X0.length → k ≠ p → k ∉ N0.map (·.1) → X[k]? = X0[k]?
abbrev zV (N : List (Nat × List Tk)) (w : Nat) : Bool := (N.take w).any fun e => !e.2.isEmpty
theorem WY {N : List (Nat × List Tk)} {w : Nat} (h : w < N.length) : (nH N)[0 + (w : Int).toNat]? = some [AV.sl N[w].1 0 N[w].2.length 2] := by simp [h]
theorem QB.next {b n0 : Int} {X0 : Hp} {p : Nat} {N0 : List (Nat × List Tk)} {w : Nat} {n : Int} {N : List (Nat × List Tk)} {X : Hp} (h : QB b n0 X0 p N0 w n N X) (hw : w < N.length) (hnd : (p :: N0.map (·.1)).Nodup) {j : Nat} {n' : Int} {l : List Tk} (g : VS b n N[w].2 j n' l) (hj : ¬ j < l.length) (Z : Hp) :
    QB b n0 X0 p N0 (w + 1) n' (N.set w (N[w].1,gI zq l)) (((X.set N[w].1 (.arr (eZ (gI zq l)) 2)).set p (.arr (nH (N.set w (N[w].1,gI zq l))) 1)) ++ Z) := by
  have hf := g.fin hj;have hks := h.ks;rw [← hks] at hnd;have hpk : ∀ e,e ∈ N → e.1 ≠ p := fun e he e1 => (aP.1 hnd).1 (aK.2 ⟨e,he,e1⟩);have hinj : ∀ (i : Nat) (hi : i < N.length),i ≠ w → N[i].1 ≠ N[w].1 := fun i hi hne e1 => by
    have h2 := (aP.1 hnd).2;have := (List.getElem_inj (h₀ := by simpa using hi) (h₁ := by simpa using hw) h2).1 (by simpa using e1)
    exact hne this
  have hq : N[w].1 < X.length := (aA.1 (h.hn _ (aH hw))).1;have hpl : p < X.length := (aA.1 h.hp).1;have heq := h.eq;rw [aO hw,List.map_cons,kW,hf] at heq;have hgw := h.ok _ (aH hw);refine ⟨by have := h.nl;omega,by rw [eC,h.nl],?_,?_,g.nn,fun e he => ?_,?_,fun e he => ?_,?_,fun k hk h1 h2 => ?_⟩
  · rw [nQ,← hks];exact dX fun i => by
      rw [cK];split
      · rename_i e;subst e;simp [hw]
      · rfl
  · rw [heq,List.drop_set,if_pos (by omega),bB (by simpa using hw),EU,LS (by omega),dI,aY];rfl
  · rcases tW he with rfl | he
    · refine ⟨cQ (xG _ _) (by have := g.ll;have := hgw.1;omega),fun t ht => g.ok t ((tR.1 ht).1)⟩
    · exact h.ok e he
  · exact bL (gE (by simpa using hpl))
  · obtain ⟨i,hi⟩ := cN.1 he;rw [cK] at hi;split at hi
    · cases hi;exact bL (fO (hpk N[w] (aH hw)) (gE hq))
    · rename_i hne;obtain ⟨hil,rfl⟩ := aA.1 hi;exact bL (fO (hpk _ (aH hil)) (fO (hinj i hil (Ne.symm hne)) (h.hn _ (aH hil))))
  · rw [aB,eC,eC];have := h.le;omega
  · have hkX : k < X.length := cC hk h.le;have hkq : k ≠ N[w].1 := fun e1 => h2 (by rw [← hks,e1];exact aK.2 ⟨_,aH hw,rfl⟩)
    rw [aG (by simpa using hkX),eX h1,eX hkq]
    exact h.fr k hk h1 h2
theorem PL {N : List (Nat × List Tk)} {w : Nat} {q : Nat} {l : List Tk} (hw : w < N.length) : zV (N.set w (q,l)) (w + 1) = (zV N w || !l.isEmpty) := by
  unfold zV;rw [bB (by simpa using hw),EU,LS (by omega),List.any_append];simp
theorem QB.fin {b n0 : Int} {X0 : Hp} {p : Nat} {N0 : List (Nat × List Tk)} {w : Nat} {n : Int} {N : List (Nat × List Tk)} {X : Hp} (h : QB b n0 X0 p N0 w n N X) (hw : ¬ w < N.length) : kW b n0 (N0.map (·.2)) = N.map (·.2) ∧ (kW b n0 (N0.map (·.2))).all (·.isEmpty) = !zV N w := by
  have heq := h.eq;rw [dH (by omega),aQ (by omega)] at heq
  rw [List.map_nil,kW,List.append_nil] at heq;refine ⟨heq,?_⟩;rw [heq];unfold zV;rw [aQ (by omega),List.not_any_eq_all_not,zR5]
  congr 1;funext e;simp
theorem DB {H : Hp} {q : Nat} {b : AB} (h : H[q]? = some b) : H.set q b = H := by
  apply dX;intro j;rw [cK];split
  · rename_i e;subst e;rw [h];simp [(aA.1 h).1]
  · rfl
end Go.Or
namespace Go.Proofs.YtdfmhddmddgniaaGreatDoor
open Go Go.Ab Go.Or
attribute [local irreducible] VC AW bJ bI
set_option maxHeartbeats 4000000
theorem LG {F : FuncId} {caps : List AV} {q : Tk → Bool} (l : List Tk) (hl : l.length ≤ 1000000) (hi : AV.idfL caps = true) (hp : AV.plOL caps = true) (hF : ∀ x,x ∈ l → bI Tryz.prog F (.agg [.i x.1,.i x.2] :: caps) [] (.b (q x)) []) :
    bI Tryz.prog 95 [.sl 0 0 l.length 2,.clo (.func F) [] caps] [.arr (eZ l) 2] (.sl 0 0 (gI q l).length 2) [.arr (eZ (gI q l)) 2] := by
  have hll : (eZ l).length = l.length := kT l;have hix := TG hl hi hF;have hvw : View [.arr (eZ l) 2] (.sl 0 0 l.length 2) (.rowE (eZ l) 2) := wD rfl hll.symm (T5 (fun _ => rfl) _);refine dA T Tryz.func95 rfl rfl rfl rfl ?_;rcases CG q l 0 with ⟨h1,h2⟩ | ⟨j,hj,h1,h2,h3⟩
  · rw [h1] at hix;have hk : gI q l = l := LU.2 fun x hx => by rw [h2 x hx];rfl
    rw [hk]
    (repeat' (first|refine wS ?_|refine wR ?_|refine wT ?_|(refine rg 0 (aV ?_))|(refine rg 1 (dS rfl (vV (by exact cM rfl rfl hix (.cons hvw (.cons (.clo .nil (pE _ hp)) .nil)) rfl rfl) ?_));refine aV ?_)|(refine rg 2 (mW rfl (vV (cW rfl rfl) ?_)))|(refine rg 3 (mW rfl (aV ?_)))|refine nZ ?_));all_goals first | (exfalso;omega) | exact ⟨.inl rfl,[0],_,rfl,rfl,rfl,⟨.inr (bM rfl rfl (oF _)),trivial⟩,by decide,C0⟩
  · rw [h1,Nat.zero_add] at hix;have hk0 : gI q (l.take (j + 1)) = l.take j := by
      rw [U2 hj,if_pos h2];exact LU.2 fun x hx => by rw [h3 x hx];rfl
    have hkl : (gI q (l.take (j + 1))).length = j := by rw [hk0];simp;omega
    have hka : gI q (l.take (j + 1)) ++ l.drop (gI q (l.take (j + 1))).length = l := by rw [hkl,hk0,cI]
    have hkf : gI q l = gI q (l.take l.length) := by rw [dJ]
    rw [hkf]
    (repeat' (first|refine wS ?_|refine wB ?_|refine wK ?_|refine wU ?_|(refine rg 0 (aV ?_))|(refine rg 1 (dS rfl (vV (by exact cM rfl rfl hix (.cons hvw (.cons (.clo .nil (pE _ hp)) .nil)) rfl rfl) ?_));refine aV ?_)|(refine rg 2 (mW rfl (vV (cW rfl rfl) ?_)))|(refine iA 4 rfl rfl rfl (by omega) (by omega) ?_)|refine nZ ?_));all_goals try (exfalso;omega)
    refine dR (X := {m : Nat // m ≤ l.length}) (fun m => [(0,.sl 0 0 l.length 2),(1,.clo (.func F) [] caps),(5,.i (gI q (l.take m.1)).length),(6,.i m.1)]) (fun m => [.arr (eZ (gI q (l.take m.1) ++ l.drop (gI q (l.take m.1)).length)) 2]) (fun m => l.length - m.1) ⟨j + 1,hj⟩ ⟨[0],rfl,⟨rfl,by rw [iP hi];rfl,by dsimp only;rw [hkl];rfl,rfl,trivial⟩,⟨.inr (bM rfl (by dsimp only;rw [hka]) (oF _)),trivial⟩,by decide,C0⟩ ?_
    rintro ⟨m,hm⟩;dsimp only;have hle := TB q l m;by_cases hlt : m < l.length
    · have hs := U2 (q := q) hlt;have hget := zL5 (G := gI q (l.take m)) (l := l) (m := m) (i := 0 + (m : Int).toNat) hle hlt (by omega)
      have hg2 := zL5 (G := gI q (l.take m)) (l := l) (m := (gI q (l.take m)).length) (i := 0 + (((gI q (l.take m)).length : Nat) : Int).toNat) (aU _) (by omega) (by omega)
      rw [HI hlt] at hget;have hset := zN2 (G := gI q (l.take m)) (l := l) (x := l[m]) (j := (((gI q (l.take m)).length : Nat) : Int)) (by omega) rfl
      have hc := hF l[m] (aH hlt);have hal := zJ8 (G := gI q (l.take m)) (l := l) (by omega)
      generalize l[m] = x at *;generalize l.getD (gI q (l.take m)).length t0 = y at *;generalize hG : gI q (l.take m) = G at *;generalize hA : eZ (G ++ l.drop G.length) = A at *;cases e : q x
      · rw [e] at hc hs;rw [if_neg (by simp)] at hs
        (repeat' (first|refine wS ?_|refine wB ?_|refine wK ?_|refine wT ?_|(refine wC rfl ?_ ?_<;>(intro hb;(try simp only [nm] at hb);try (exfalso;omega)))|(refine rg 5 (dS rfl (qW T rfl (vV (bE rfl rfl) ?_))))|(refine rg 7 (dS rfl (vV (by exact bQ T rfl rfl rfl rfl rfl (by omega) (by omega)) ?_));refine vV (by exact aX T rfl rfl (pK rfl hget) rfl) ?_;refine dQ (dC T rfl) rfl (bA T rfl rfl rfl rfl rfl rfl (by decide) rfl ?_))|(refine rg 8 (mW rfl (vV (aX T rfl rfl rfl rfl) (vV (by exact dB rfl rfl hc rfl (by simp [AV.idfL,AV.idf,hi]) rfl) ?_)));refine vV (cV rfl) ?_)|(refine rg 9 (dS rfl (vV (aX T rfl rfl rfl rfl) (vV (by exact bQ T rfl rfl rfl rfl rfl (by omega) (by omega)) ?_)));refine bA T rfl rfl rfl rfl rfl rfl (by decide) (QS rfl hg2 rfl) ?_)|(refine iA 10 rfl rfl rfl (by omega) (by omega) ?_)|(refine iA 6 rfl rfl rfl (by omega) (by omega) ?_)|refine nZ ?_));all_goals try (exfalso;omega)
        all_goals exact ⟨⟨m + 1,hlt⟩,by dsimp only;omega,[0],rfl,⟨rfl,by rw [iP hi];rfl,by rw [hs];simp only [aB];rfl,rfl,trivial⟩,⟨.inr (bM rfl (by rw [hs];exact hset) (oF _)),trivial⟩,by decide,C0⟩
      · rw [e] at hc hs;rw [if_pos rfl] at hs
        (repeat' (first|refine wS ?_|refine wB ?_|refine wK ?_|refine wU ?_|(refine wC rfl ?_ ?_<;>(intro hb;(try simp only [nm] at hb);try (exfalso;omega)))|(refine rg 5 (dS rfl (qW T rfl (vV (bE rfl rfl) ?_))))|(refine rg 7 (dS rfl (vV (by exact bQ T rfl rfl rfl rfl rfl (by omega) (by omega)) ?_));refine vV (by exact aX T rfl rfl (pK rfl hget) rfl) ?_;refine dQ (dC T rfl) rfl (bA T rfl rfl rfl rfl rfl rfl (by decide) rfl ?_))|(refine rg 8 (mW rfl (vV (aX T rfl rfl rfl rfl) (vV (by exact dB rfl rfl hc rfl (by simp [AV.idfL,AV.idf,hi]) rfl) ?_)));refine vV (cV rfl) ?_)|(refine iA 6 rfl rfl rfl (by omega) (by omega) ?_)|refine nZ ?_));all_goals try (exfalso;omega)
        all_goals exact ⟨⟨m + 1,hlt⟩,by dsimp only;omega,[0],rfl,⟨rfl,by rw [iP hi];rfl,by rw [hs];rfl,rfl,trivial⟩,⟨.inr (bM rfl (by rw [hs];exact hA.symm) (oF _)),trivial⟩,by decide,C0⟩
    · obtain rfl : m = l.length := by omega
      have hal := zJ8 (G := gI q (l.take l.length)) (l := l) (by omega)
      have htk := zI3 (G := gI q (l.take l.length)) (l := l);generalize gI q (l.take l.length) = G at *
      (repeat' (first|refine wS ?_|refine wR ?_|refine wE ?_|(refine wC rfl ?_ ?_<;>(intro hb;(try simp only [nm] at hb);try (exfalso;omega)))|(refine rg 5 (dS rfl (qW T rfl (vV (bE rfl rfl) ?_))))|(refine rg 11 (dS rfl (vV (by exact N3 T rfl rfl rfl rfl rfl rfl (by omega) (by omega) (by omega)) ?_));refine NU T rfl rfl rfl ⟨rfl,rfl,by decide⟩ rfl (by rw [hal];omega) ?_)|(refine rg 12 (dS rfl (vV (by exact N3 T rfl rfl rfl rfl rfl rfl (by omega) (by omega) (by omega)) ?_));refine aV ?_)|refine nZ ?_));all_goals try (exfalso;omega)
      all_goals exact ⟨.inl rfl,[0],_,rfl,(by show AV.sl 0 0 ((G.length : Int) - 0).toNat 2 = AV.sl 0 0 G.length 2;rw [show ((G.length : Int) - 0).toNat = G.length by omega]),rfl,⟨.inr (bM rfl htk (oF _)),trivial⟩,by decide,C0⟩
theorem RF (x : Tk) : bI Tryz.prog 96 [.agg [.i x.1,.i x.2]] [] (.b (zq x)) [] := by
  obtain ⟨a,n⟩ := x;refine dA T Tryz.func96 rfl rfl rfl rfl ?_
  (repeat' (first|refine wS ?_|refine wR ?_|(refine rg 0 (dQ (fE rfl rfl) rfl (aV ?_)))|(refine rg 1 (eT T rfl (vV (cW rfl rfl) (aV ?_))))|refine nZ ?_));all_goals exact eP (.inl rfl) rfl (by rw [show zq (a,n) = decide (n = 0) from rfl];rfl)
end Go.Proofs.YtdfmhddmddgniaaGreatDoor
namespace Go.Or
open Go Go.Ab
theorem lR.apart {H : Hp} {pb po : Nat} {L : OL} (h : lR H pb po L) {i : Nat} {e : Od × AV × List Nat} (hi : L[i]? = some e) : ∀ k,k ∈ e.2.2 → k ≠ po ∧ k ≠ pb := fun k hk => by
  have hm : k ∈ L.flatMap (·.2.2) := eS.2 ⟨e,aJ hi,hk⟩;have hnd := h.nd;simp only [aP,aT,not_or] at hnd;exact ⟨fun e1 => hnd.2.1 (e1 ▸ hm),fun e1 => hnd.1.2 (e1 ▸ hm)⟩
theorem SS {α : Type} (l : List α) : (!l.isEmpty) = decide (0 < (l.length : Int)) := by cases l <;> simp
theorem JQ (b n : Int) : kW b n [] = [] := rfl
theorem G7.one {bk : Bk} (h : G7 bk) {t : Tk} (ht : t ∈ jO bk) : 0 ≤ t.2 ∧ t.2 ≤ 1000000000000 := by
  refine ⟨(h.nn t ht).2,?_⟩;obtain ⟨a,b,e⟩ := List.append_of_mem ht;have h1 := (pO (l := jO bk) (a := a) (b := t :: b) e (fun t ht => (h.nn t ht).2) t.1).1;have h2 := pO (l := t :: b) (a := [t]) (b := b) rfl (fun u hu => (h.nn u (by rw [e];exact ET _ hu)).2) t.1
  have h3 := h.le t.1;rw [e,kV] at h3;have h4 : eW [t] t.1 = t.2 := by simp [eW]
  omega
theorem WF {l : List Tk} {k : Nat} (h : k < l.length) : (eZ l)[0 + (k : Int).toNat]? = some [AV.i l[k].1,AV.i l[k].2] := by simp [h]
theorem SC {N : List (Nat × List Tk)} {w : Nat} {z : Nat × List Tk} (h : w < N.length) : (nH (N.set w z))[0 + (w : Int).toNat]? = some [AV.sl z.1 0 z.2.length 2] := by simp [h]
theorem WX {N : List (Nat × List Tk)} {w : Nat} {z : Nat × List Tk} : (nH N).set (0 + (w : Int).toNat) [AV.sl z.1 0 z.2.length 2] = nH (N.set w z) := by simp [nH,nQ]
theorem WM {L : OL} {i : Nat} {e : Od × AV × List Nat} (h : L[i]? = some e) (tk : List (List Tk)) : (L.map fun e => iT e.1 e.2.1).set i (iT { e.1 with tk := tk } e.2.1) = L.map fun e => iT e.1 e.2.1 := by
  apply dX;intro j;rw [cK];split
  · rename_i e1;subst e1;have hl := (aA.1 h).1;rw [if_pos (by simpa using hl),SK h]
  · rfl
end Go.Or
namespace Go.Proofs.YtdfmhddmddgniaaGreatDoor
open Go Go.Ab Go.Or
attribute [local irreducible] VC AW bJ bI eO AY VY O3
set_option maxHeartbeats 4000000
set_option maxRecDepth 100000 in
theorem MC {H : Hp} {pb : Nat} {bk : Bk} {A : List Nat} (hB : zR H pb bk A) (hz : ZC bk) (no body n tick : Int) :
    eO Tryz.prog 39 [.ptr pb 0,.i no,.i body,.i n,.i tick] H (Z5 H pb A (.i (mC bk no body n tick).1) (mC bk no body n tick).2) := by
  have hle := hz.le;have hB1 := hB.app [.gone];have hB0 := hB;obtain ⟨po,L,h,rfl,rfl⟩ := hB1;rw [bF] at hle;have hfp := LC h no [1] hle (by decide)
  unfold mC;refine jS T Tryz.func39 rfl rfl rfl rfl ?_;by_cases hc : kB (L.map (·.1)) no [1] = 0
  · obtain ⟨⟨r0,r1⟩,_,hm,_⟩ := rV hc;rw [bF] at r1;obtain ⟨e,he,hge⟩ := T6 (L := L) (i := no.toNat) (by omega)
    rw [hge] at hm ⊢;rw [if_pos hc,hc] at hfp;rw [if_neg (by simp [hc] : ¬ kB (L.map (·.1)) no [1] ≠ 0)]
    have hg := E4 he;have ho := h.o;have q1 := hz.tk _ hm;have q2 := hz.sum.bk.1 _ hm;have hfc := TT e.1 body q1.1 q1.2 q2;have hve : View (H ++ [AB.gone]) (.ep po (0 + no.toNat) 0 4) (.pr (zU e.1) 0) := View.ep ho hg (.cons (.row _ _ _) (.cons (.v _) (.cons (.v _) (.cons (h.n e (aJ he)).view .nil))));by_cases hn1 : n < 1
    · rw [if_pos hn1]
      (repeat' (first|refine wS ?_|refine wB ?_|refine wR ?_|refine wU ?_|(refine wC rfl ?_ ?_<;>(intro hb;(try simp only [nm] at hb);try (exfalso;omega)))|(refine rg 0 (aV ?_))|(refine rg 1 (dS rfl (dQ (by exact bO T rfl rfl (by decide) (by decide) rfl rfl rfl) rfl ?_));refine xN 21 rfl bY rfl rfl ?_;rw [jR];refine eU rfl rfl hfp rfl ?_;rintro _ _ ⟨rfl,rfl⟩;dsimp only [fR];refine mW rfl (xW rfl (xW rfl (kJ ?_))))|(refine rg 2 (mW rfl (vV (pS rfl rfl) (aV ?_))))|(refine rg 4 (mW rfl (vV (bE rfl rfl) (aV ?_))))|(refine rg 5 (aV ?_))|refine nZ ?_));all_goals first | (exfalso;omega) | exact ⟨.inl rfl,_,rfl,Z5.from [.gone] ⟨rfl,_,⟨po,L,h,rfl,rfl⟩,Fr.refl _ _⟩⟩
    rw [if_neg hn1];by_cases hs : eW e.1.tk.flatten body < n
    · rw [if_pos hs]
      (repeat' (first|refine wS ?_|refine wB ?_|refine wR ?_|refine wU ?_|(refine wC rfl ?_ ?_<;>(intro hb;(try simp only [nm] at hb);try (exfalso;omega)))|(refine rg 0 (aV ?_))|(refine rg 1 (dS rfl (dQ (by exact bO T rfl rfl (by decide) (by decide) rfl rfl rfl) rfl ?_));refine xN 21 rfl bY rfl rfl ?_;rw [jR];refine eU rfl rfl hfp rfl ?_;rintro _ _ ⟨rfl,rfl⟩;dsimp only [fR];refine mW rfl (xW rfl (xW rfl (kJ ?_))))|(refine rg 2 (mW rfl (vV (pS rfl rfl) (aV ?_))))|(refine rg 4 (mW rfl (vV (bE rfl rfl) (aV ?_))))|(refine rg 6 (dS rfl (vV (by exact cM rfl rfl hfc (.cons hve (.cons (.v _) .nil)) rfl rfl) ?_));refine mW rfl (vV (bE rfl rfl) (aV ?_)))|(refine rg 7 (aV ?_))|refine nZ ?_));all_goals first | (exfalso;omega) | exact ⟨.inl rfl,_,rfl,Z5.from [.gone] ⟨rfl,_,⟨po,L,h,rfl,rfl⟩,Fr.refl _ _⟩⟩
    rw [if_neg hs];have hne0 : e.1.tk ≠ [] := fun e0 => by
      rw [e0] at hs;exact hs (by show (0 : Int) < n;omega)
    have hNe := h.n e (aJ he);have hap := h.apart he;obtain ⟨o,x0,A0⟩ := e;dsimp only at hNe hne0 hap hg hve hfc hm q1 q2 hs ⊢;rcases hNe with ⟨_,ht,_⟩ | ⟨p,N0,hx,hp0,hn0,ht,hA,hnd0⟩
    · exact absurd ht hne0
    subst hx hA;have hpo := hap p aL;have hnN : n ≤ 1000000000000 := by
      have := (q2 body o.tk.flatten.length).2;rw [dJ] at this;omega
    have hok0 : ∀ e,e ∈ N0 → e.2.length ≤ 1000000 ∧ ∀ t,t ∈ e.2 → 0 ≤ t.2 ∧ t.2 ≤ 1000000000000 := fun e he => by
      have hmem : e.2 ∈ o.tk := by rw [ht];exact aK.2 ⟨e,he,rfl⟩
      exact ⟨q1.2 _ hmem,fun t htt => hz.sum.one (Y0 hm (rJ.2 ⟨_,hmem,htt⟩))⟩
    have hN0l : N0.length ≤ 1000000 := by have := q1.1;rw [ht,bF] at this;exact this
    (repeat' (first|refine wS ?_|refine wB ?_|refine wK ?_|refine wU ?_|(refine wC rfl ?_ ?_<;>(intro hb;(try simp only [nm] at hb);try (exfalso;omega)))|(refine rg 0 (aV ?_))|(refine rg 1 (dS rfl (dQ (by exact bO T rfl rfl (by decide) (by decide) rfl rfl rfl) rfl ?_));refine xN 21 rfl bY rfl rfl ?_;rw [jR];refine eU rfl rfl hfp rfl ?_;rintro _ _ ⟨rfl,rfl⟩;dsimp only [fR];refine mW rfl (xW rfl (xW rfl (kJ ?_))))|(refine rg 2 (mW rfl (vV (pS rfl rfl) (aV ?_))))|(refine rg 4 (mW rfl (vV (bE rfl rfl) (aV ?_))))|(refine rg 6 (dS rfl (vV (by exact cM rfl rfl hfc (.cons hve (.cons (.v _) .nil)) rfl rfl) ?_));refine mW rfl (vV (bE rfl rfl) (aV ?_)))|(refine rg 8 (aV ?_))|(refine rg 9 (mW rfl (nV ?_));refine fW T rfl (vV (by exact aX T rfl rfl (eJ ho hg) rfl) ?_);refine qW T rfl (mV ?_))|refine nZ ?_));all_goals try (exfalso;omega)
    refine lK (X := {x : Nat × Int × List (Nat × List Tk) × Hp // QB body n (H ++ [.gone]) p N0 x.1 x.2.1 x.2.2.1 x.2.2.2}) (fun x => [(2,.i body),(3,.i x.1.2.1),(4,.i tick),(11,.ep po (0 + no.toNat) 0 4),(13,.b (zV x.1.2.2.1 x.1.1)),(42,.i N0.length),(43,.i x.1.1)]) (fun x => x.1.2.2.2) (fun x => N0.length - x.1.1) ⟨(0,n,N0,H ++ [.gone]),⟨bG _,rfl,rfl,rfl,⟨by dsimp only;omega,hnN⟩,hok0,hp0,hn0,aU _,fun _ _ _ _ => rfl⟩⟩ (mP.of rfl (by repeat first|exact trivial|refine ⟨rfl,?_⟩)) ?_
    rintro ⟨⟨w,m,N,X⟩,hI⟩;dsimp only at hI ⊢;have hXo : X[po]? = some (.arr (L.map fun e => iT e.1 e.2.1) 4) := by
      rw [hI.fr po (aA.1 ho).1 (fun e1 => hpo.1 e1.symm) (fun hk => (hap po (aF _ hk)).1 rfl)];exact ho
    have hXb : X[pb]? = (H ++ [AB.gone])[pb]? := hI.fr pb (aA.1 h.b).1 (fun e1 => hpo.2 e1.symm) (fun hk => (hap pb (aF _ hk)).2 rfl);have hnl := hI.nl;have hwl := hI.wl;by_cases hw : w < N.length
    · have hqo := hap N[w].1 (aF _ (by rw [← hI.ks];exact aK.2 ⟨_,aH hw,rfl⟩))
      have hqp : N[w].1 ≠ p := fun e1 => (aP.1 hnd0).1 (by rw [← hI.ks,← e1];exact aK.2 ⟨_,aH hw,rfl⟩)
      have hq := hI.hn _ (aH hw);have hg2 := WY hw;have hokw := hI.ok _ (aH hw);have nx := fun {j : Nat} {n' : Int} {l : List Tk} (g : VS body m N[w].2 j n' l) (hj : ¬ j < l.length) => hI.next hw hnd0 g hj [.gone]
      have hpX := hI.hp;generalize N[w] = z at *;obtain ⟨q,l0⟩ := z;dsimp only at hqo hqp hq hg2 hokw nx;have hql := (aA.1 hq).1
      (repeat' (first|refine wS ?_|refine wB ?_|refine wK ?_|(refine wC rfl ?_ ?_<;>(intro hb;(try simp only [nm] at hb);try (exfalso;omega)))|(refine rg 10 (vV (bE rfl rfl) ?_))|(refine rg 11 (mW rfl (aV ?_)))|(refine rg 12 (mW rfl (nV ?_));refine fW T rfl (vV (by exact aX T rfl rfl (eJ hXo hg) rfl) ?_);refine mW rfl (vV (by exact bQ T rfl rfl rfl rfl rfl (by omega) (by omega)) ?_);refine vV (by exact aX T rfl rfl (eJ hpX hg2) rfl) ?_;refine qW T rfl (mV ?_))|refine nZ ?_));all_goals try (exfalso;omega)
      refine lK (X := {y : Nat × Int × List Tk // VS body m l0 y.1 y.2.1 y.2.2}) (fun y => [(2,.i body),(3,.i y.1.2.1),(4,.i tick),(11,.ep po (0 + no.toNat) 0 4),(13,.b (zV N w)),(14,.i w),(42,.i N0.length),(43,.i w),(53,.i l0.length),(54,.i y.1.1)]) (fun y => X.set q (.arr (eZ y.1.2.2) 2)) (fun y => l0.length - y.1.1) ⟨(0,m,l0),⟨bG _,rfl,rfl,hI.nn,hokw.2⟩⟩ (mP.of (DB hq).symm (by repeat first|exact trivial|refine ⟨rfl,?_⟩)) ?_
      rintro ⟨⟨j,r,l⟩,hJ⟩;dsimp only at hJ ⊢;have hll := hJ.ll;have hXo2 : (X.set q (.arr (eZ l) 2))[po]? = some (.arr (L.map fun e => iT e.1 e.2.1) 4) := fO (fun e1 => hqo.1 e1.symm) hXo;have hpX2 : (X.set q (.arr (eZ l) 2))[p]? = some (.arr (nH N) 1) := fO (fun e1 => hqp e1.symm) hpX;have hqX2 : (X.set q (.arr (eZ l) 2))[q]? = some (.arr (eZ l) 2) := gE hql;by_cases hj : j < l.length
      · have hg3 := WF hj;have nxt := hJ.next hj
        have skp := hJ.skip hj;have hbn := hJ.nn;have hbt := hJ.ok _ (aH hj);generalize l[j] = t at *;obtain ⟨tb,tn⟩ := t;dsimp only at hg3 nxt skp hbt;by_cases hbd : tb = body
        · have ny := nxt hbd;clear nxt skp
          (repeat' (first|refine wS ?_|refine wB ?_|refine wK ?_|(refine wC rfl ?_ ?_<;>(intro hb;(try simp only [nm] at hb);try (exfalso;omega)))|(refine rg 13 (vV (bE rfl rfl) ?_))|(refine rg 14 (mW rfl (aV ?_)))|(refine rg 15 (mW rfl (nV ?_));refine fW T rfl (vV (by exact aX T rfl rfl (eJ hXo2 hg) rfl) ?_);refine mW rfl (vV (by exact bQ T rfl rfl rfl rfl rfl (by omega) (by omega)) ?_);refine vV (by exact aX T rfl rfl (eJ hpX2 hg2) rfl) ?_;refine mW rfl (vV (by exact bQ T rfl rfl rfl rfl rfl (by omega) (by omega)) ?_);refine aV ?_)|(refine rg 16 (mW rfl (nV ?_));refine fW T rfl (vV (by exact aX T rfl rfl (eJ hqX2 hg3) rfl) ?_);refine mW rfl (vV (cW rfl rfl) ?_))|(refine rg 17 (dS rfl (nV ?_));refine fW T rfl (vV (by exact aX T rfl rfl (eJ hqX2 hg3) rfl) ?_);refine vV (rF rfl rfl) (aV ?_))|(refine rg 18 (mW rfl (nV ?_));refine fW T rfl (vV (by exact aX T rfl rfl (eJ hqX2 hg3) rfl) ?_);refine mW rfl (vV (fX rfl rfl (by omega) (by omega)) (nV ?_));refine fW T rfl (bA T rfl rfl rfl rfl rfl rfl (by decide) (lT hqX2 hg3 rfl rfl) ?_))|(refine rg 19 (dS rfl (vV (fX rfl rfl (by omega) (by omega)) (aV ?_))))|(refine rg 20 (vV (eD rfl rfl (by omega) (by omega)) (mV ?_)))|refine nZ ?_));all_goals try (exfalso;omega)
          all_goals exact ⟨⟨(j + 1,_,_),ny⟩,by dsimp only;omega,mP.of (by rw [fG];exact congrArg (fun z => X.set q (AB.arr z 2)) (QU (i := j) (x := (tb,tn - min r tn)) rfl)) (by repeat first|exact trivial|refine ⟨rfl,?_⟩)⟩
        · have ny := skp hbd;clear nxt skp
          (repeat' (first|refine wS ?_|refine wB ?_|refine wK ?_|(refine wC rfl ?_ ?_<;>(intro hb;(try simp only [nm] at hb);try (exfalso;omega)))|(refine rg 13 (vV (bE rfl rfl) ?_))|(refine rg 14 (mW rfl (aV ?_)))|(refine rg 15 (mW rfl (nV ?_));refine fW T rfl (vV (by exact aX T rfl rfl (eJ hXo2 hg) rfl) ?_);refine mW rfl (vV (by exact bQ T rfl rfl rfl rfl rfl (by omega) (by omega)) ?_);refine vV (by exact aX T rfl rfl (eJ hpX2 hg2) rfl) ?_;refine mW rfl (vV (by exact bQ T rfl rfl rfl rfl rfl (by omega) (by omega)) ?_);refine aV ?_)|(refine rg 16 (mW rfl (nV ?_));refine fW T rfl (vV (by exact aX T rfl rfl (eJ hqX2 hg3) rfl) ?_);refine mW rfl (vV (cW rfl rfl) ?_))|(refine rg 20 (vV (eD rfl rfl (by omega) (by omega)) (mV ?_)))|refine nZ ?_));all_goals try (exfalso;omega)
          all_goals exact ⟨⟨(j + 1,_,_),ny⟩,by dsimp only;omega,mP.of rfl (by repeat first|exact trivial|refine ⟨rfl,?_⟩)⟩
      · have hjl : j = l.length := by have := hJ.jl;omega
        have nz := nx hJ hj;have hdl := LG (caps := []) l (by omega) rfl rfl (fun x _ => RF x)
        rw [hll] at hdl;have hxl : q < (X.set q (.arr (eZ l) 2)).length := by simpa using hql
        have hxp : p < (X.set q (.arr (eZ l) 2)).length := (aA.1 hpX2).1
        (repeat' (first|refine wS ?_|refine wE ?_|(refine wC rfl ?_ ?_<;>(intro hb;(try simp only [nm] at hb);try (exfalso;omega)))|(refine rg 13 (vV (bE rfl rfl) ?_))|refine nZ ?_));all_goals try (exfalso;omega)
        (repeat' (first|(refine pM (id := 21) 137 [[],[0],[0,1],[0,1,2],[],[],[5],[5,6],[5,6,7],[],rM 5 5,rM 5 6,rM 5 7] (rM 90 13) [[],[],[],[],rM 90 4,rM 90 5,rM 90 5,rM 90 5,rM 90 5,rM 90 9,rM 90 5,rM 90 5,rM 90 5] [(12,q)] dZ rfl (UE (by decide +kernel) rfl) (eI rfl rfl rfl rfl (by exact fD rfl) ?_);refine eI rfl rfl rfl rfl (by exact cO rfl rfl) ?_;refine eI rfl rfl rfl rfl (by exact eA T rfl rfl rfl) ?_;refine eI rfl rfl rfl rfl (by exact aX T rfl rfl (eJ (bL (fO (fun e1=>hqo.1 e1.symm) hXo2)) hg) rfl) ?_;refine eI rfl rfl rfl rfl (by exact fD rfl) ?_;refine eI rfl rfl rfl rfl (by exact fD rfl) ?_;refine eI rfl rfl rfl rfl (by exact cO rfl rfl) ?_;refine eI rfl rfl rfl rfl (by exact eA T rfl rfl rfl) ?_;refine eI rfl rfl rfl rfl (by exact aX T rfl rfl (eJ (bL hXo2) hg) rfl) ?_;refine eI rfl rfl rfl rfl (by exact fD rfl) ?_;refine eI rfl rfl rfl rfl (by exact bQ T rfl rfl rfl rfl rfl (by omega) (by omega)) ?_;refine eI rfl rfl rfl rfl (by exact aX T rfl rfl (eJ (bL hpX2) hg2) rfl) ?_;refine uU rfl rfl rfl rfl hxl (by exact G6 [q] rfl rfl (Y4 hdl) (fun _=>rfl) rfl (aP.2 ⟨cG,aI⟩) (fun _=>⟨.inr (bM (bL hqX2) rfl (oF _)),trivial⟩) (by simp) rfl (fun _ _=>rfl) rfl rfl) ?_;refine uG rfl rfl rfl (by exact rfl) ?_;refine vV (by exact bQ T rfl rfl rfl rfl rfl (by omega) (by omega)) ?_;refine bA T rfl rfl rfl rfl rfl rfl (by decide) (lT (bL (fO (fun e1=>hqp e1.symm) hpX2)) hg2 rfl rfl) ?_)|refine nZ ?_));all_goals try (exfalso;omega)
        have hXp : p < (X.set q (.arr (eZ (gI zq l)) 2)).length := by simpa using hxp
        have hfl := PL (q := q) (l := gI zq l) hw;have hgk := SC (z := (q,gI zq l)) hw
        refine jH [(2,.i body),(3,.i r),(4,.i tick),(11,.ep po (0 + no.toNat) 0 4),(13,.b (zV N w)),(14,.i w),(42,.i N0.length),(43,.i w)] (((X.set q (.arr (eZ (gI zq l)) 2)).set p (.arr (nH (N.set w (q,gI zq l))) 1)) ++ [.gone]) (mP.of (by
          show List.set (List.set (List.set X q (.arr (eZ l) 2)) q (.arr ((eZ (gI zq l)).map (AV.mapL _)) 2) ++ [AB.gone]) p (.arr ((nH N).set (0 + (w : Int).toNat) [AV.sl q 0 (gI zq l).length 2]) 1) = _
          rw [jI _ (oF _),fG,yT _ _ hXp,WX (z := (q,gI zq l))]) (by repeat first|exact trivial|refine ⟨rfl,?_⟩)) ?_
        have hX2o : (((X.set q (.arr (eZ (gI zq l)) 2)).set p (.arr (nH (N.set w (q,gI zq l))) 1)) ++ [AB.gone])[po]? = some (.arr (L.map fun e => iT e.1 e.2.1) 4) := bL (fO (fun e1 => hpo.1 e1.symm) (fO (fun e1 => hqo.1 e1.symm) hXo));have hX2p := nz.hp;generalize (((X.set q (.arr (eZ (gI zq l)) 2)).set p (.arr (nH (N.set w (q,gI zq l))) 1)) ++ [AB.gone]) = X2 at *;generalize gI zq l = kl at *;cases hfw : zV N w with
        | true =>
          rw [hfw,Bool.true_or] at hfl
          (repeat' (first|(refine rg 22 (zN6 ?_);(iterate 9 refine gF ?_);refine pW rfl (aV ?_))|(refine rg 23 (vV (eD rfl rfl (by omega) (by omega)) (mV ?_)))|refine nZ ?_));all_goals try (exfalso;omega)
          all_goals exact ⟨⟨(w + 1,r,_,X2),nz⟩,by dsimp only;omega,mP.of rfl (by dsimp only;rw [hfl];(repeat (first | exact trivial | refine ⟨rfl,?_⟩)))⟩
        | false =>
          rw [hfw,Bool.false_or] at hfl
          (repeat' (first|(refine rg 22 (dS rfl (yN rfl (gT (nV ?_))));refine yP T rfl (yV (by exact aX T rfl rfl (eJ hX2o hg) rfl) ?_);refine yN rfl (yV (by exact bQ T rfl rfl rfl rfl rfl (by omega) (by omega)) ?_);refine yV (by exact aX T rfl rfl (eJ hX2p hgk) rfl) ?_;refine gT (qW T rfl (yV (gH rfl rfl) (pW rfl (aV ?_)))))|(refine rg 23 (vV (eD rfl rfl (by omega) (by omega)) (mV ?_)))|refine nZ ?_));all_goals try (exfalso;omega)
          all_goals exact ⟨⟨(w + 1,r,_,X2),nz⟩,by dsimp only;omega,mP.of rfl (by dsimp only;rw [hfl,SS kl];(repeat (first | exact trivial | refine ⟨rfl,?_⟩)))⟩
    · have hfin := hI.fin hw;have hmf : (L.map (·.1)).getD no.toNat jC = o := hge;have hno : no.toNat < L.length := by omega
      have hpol : po < X.length := (aA.1 hXo).1;have hfrk : ∀ k,k < (H ++ [AB.gone]).length → k ≠ po → k ∉ p :: N0.map (·.1) → X[k]? = (H ++ [AB.gone])[k]? := fun k hk _ hA => hI.fr k hk (fun e1 => hA (e1 ▸ aL)) (fun h1 => hA (aF _ h1));unfold qJ;rw [ht,hfin.2,hfin.1];cases hfw : zV N w with
      | true =>
        rw [Bool.not_true,if_neg (by decide)]
        have key : Z5 H pb (B1 pb po L) (.i 0) ((L.map (·.1)).set no.toNat { o with tk := N.map (·.2) }) (.i 0) X := by
          refine Z5.from [.gone] ⟨rfl,B1 pb po (L.set no.toNat ({ o with tk := N.map (·.2) },.sl p 0 N0.length 1,p :: N0.map (·.1))),⟨po,_,h.upd he _ _ _ hXb (by rw [hXo];congr 1;exact congrArg (AB.arr · 4) (WM he _).symm) hfrk (.inr ⟨p,N,by rw [hnl],hI.hp,hI.hn,rfl,by rw [hI.ks],hnd0⟩) (fun k hk => .inl hk) hnd0,by rw [DM],rfl⟩,?_⟩
          exact h.fr he hI.le hXb hfrk (fun k hk => .inl hk)
        (repeat' (first|refine wS ?_|refine wK ?_|refine wR ?_|refine wE ?_|refine wU ?_|(refine wC rfl ?_ ?_<;>(intro hb;(try simp only [nm] at hb);try (exfalso;omega)))|(refine rg 10 (vV (bE rfl rfl) ?_))|(refine rg 24 (mW rfl (vV (cV rfl) ?_)))|(refine rg 28 (aV ?_))|refine nZ ?_));all_goals try (exfalso;omega)
        all_goals exact ⟨.inl rfl,_,rfl,key⟩
      | false =>
        rw [Bool.not_false,if_pos rfl];have key : ∀ st X',X' = X.set po (.arr ((L.map fun e => iT e.1 e.2.1).set no.toNat (iT { o with st := st,tk := [] } .nils)) 4) → Z5 H pb (B1 pb po L) (.i 0) ((L.map (·.1)).set no.toNat { o with st := st,tk := [] }) (.i 0) X' := fun st X' hX' => by
          subst hX';refine Z5.from [.gone] ⟨rfl,B1 pb po (L.set no.toNat ({ o with st := st,tk := [] },.nils,[])),⟨po,_,h.upd he _ _ [] ((eX h.ne).trans hXb) (gE hpol) (fun k hk h1 h2 => (eX h1).trans (hfrk k hk h1 h2)) (.inl ⟨rfl,rfl,rfl⟩) (fun k hk => nomatch hk) aI,by rw [DM],rfl⟩,?_⟩
          exact h.fr he (by rw [eC];exact hI.le) ((eX h.ne).trans hXb) (fun k hk h1 h2 => (eX h1).trans (hfrk k hk h1 h2)) (fun k hk => nomatch hk)
        have hS := fun {a : List AV} => (gE hpol : (X.set po (.arr ((L.map fun e => iT e.1 e.2.1).set (0 + no.toNat) a) 4))[po]? = _);have hG := fun {a : List AV} => (show ((L.map fun e => iT e.1 e.2.1).set (0 + no.toNat) a)[0 + no.toNat]? = some a by rw [Nat.zero_add,dY (by simpa using hno)])
        (repeat' (first|refine wS ?_|refine wE ?_|refine wT ?_|(refine wC rfl ?_ ?_<;>(intro hb;(try simp only [nm] at hb);try (exfalso;omega)))|(refine rg 10 (vV (bE rfl rfl) ?_))|(refine rg 24 (mW rfl (vV (cV rfl) ?_)))|(refine rg 25 (dS rfl (nV ?_));refine fW T rfl (bA T rfl rfl rfl rfl rfl rfl (by decide) (lT hXo hg rfl rfl) (nV ?_));refine fW T rfl (fW T rfl (bA T rfl rfl rfl rfl rfl rfl (by decide) (lT hS hG rfl rfl) ?_)))|refine nZ ?_));all_goals try (exfalso;omega)
        refine jH [(4,.i tick),(11,.ep po (0 + no.toNat) 0 4)] (X.set po (.arr ((L.map fun e => iT e.1 e.2.1).set (0 + no.toNat) (iT { o with st := 3,tk := [] } .nils)) 4)) (mP.of (by rw [fG,fG]) (by repeat first|exact trivial|refine ⟨rfl,?_⟩)) ?_
        by_cases htd : tick ≤ o.due
        · rw [if_pos htd]
          (repeat' (first|refine wS ?_|refine wR ?_|(refine wC rfl ?_ ?_<;>(intro hb;(try simp only [nm] at hb);try (exfalso;omega)))|(refine rg 26 (dS rfl (nV ?_));refine fW T rfl (fW T rfl (vV (by exact aX T rfl rfl (eJ hS hG) rfl) ?_));refine vV (kQ rfl rfl) ?_)|(refine rg 27 (mW rfl (nV ?_));refine fW T rfl (fW T rfl (bA T rfl rfl rfl rfl rfl rfl (by decide) (lT hS hG rfl rfl) ?_)))|(refine rg 28 (aV ?_))|refine nZ ?_));all_goals try (exfalso;omega)
          all_goals exact ⟨.inl rfl,_,rfl,key 2 _ (by rw [fG,fG,Nat.zero_add])⟩
        · rw [if_neg htd]
          (repeat' (first|refine wS ?_|refine wK ?_|refine wR ?_|(refine wC rfl ?_ ?_<;>(intro hb;(try simp only [nm] at hb);try (exfalso;omega)))|(refine rg 26 (dS rfl (nV ?_));refine fW T rfl (fW T rfl (vV (by exact aX T rfl rfl (eJ hS hG) rfl) ?_));refine vV (kQ rfl rfl) ?_)|(refine rg 28 (aV ?_))|refine nZ ?_));all_goals try (exfalso;omega)
          all_goals exact ⟨.inl rfl,_,rfl,key 3 _ (by rw [Nat.zero_add])⟩
  · rw [if_neg hc] at hfp;rw [if_pos hc];generalize kB (L.map (·.1)) no [1] = c at *
    (repeat' (first|refine wS ?_|refine wB ?_|refine wR ?_|(refine wC rfl ?_ ?_<;>(intro hb;(try simp only [nm] at hb);try (exfalso;omega)))|(refine rg 0 (aV ?_))|(refine rg 1 (dS rfl (dQ (by exact bO T rfl rfl (by decide) (by decide) rfl rfl rfl) rfl ?_));refine xN 21 rfl bY rfl rfl ?_;rw [jR];refine eU rfl rfl hfp rfl ?_;rintro _ _ ⟨rfl,rfl⟩;dsimp only [fR];refine mW rfl (xW rfl (xW rfl (kJ ?_))))|(refine rg 2 (mW rfl (vV (pS rfl rfl) (aV ?_))))|(refine rg 3 (mW rfl (aV ?_)))|refine nZ ?_));all_goals first | (exfalso;omega) | exact ⟨.inl rfl,_,rfl,Z5.from [.gone] ⟨rfl,_,⟨po,L,h,rfl,rfl⟩,Fr.refl _ _⟩⟩
end Go.Proofs.YtdfmhddmddgniaaGreatDoor
namespace Go.Ab
open Go Go.MapKept
section
variable {P : Program} {env : dD} {h : Hp}
variable {d : Option Nat} {ty : TypeId} {pos : String} {af : Array Edge} {g : Option (Nat × Bool)}
variable {t kt et : TypeId} {good : Value → Prop} {x y : Operand} {i : Nat} {kv : Value} {ks : List Value} {vs : List AV} {v : AV}
theorem HO (ht : P.underlying t = some (.map kt et)) (ko : rR P kt good) (hx : evu env x = some (.mrow ks vs)) {yv : AV} (hy : evu env y = some yv) (hyv : QF yv kv) (hkeys : ∀ q,q ∈ ks → good q) (hkey : good kv) (hnd : ks.Nodup) (hi : ks[i]? = some kv) (hv : vs[i]? = some v) (hidf : v.idf = true) :
    bJ P ⟨d,.lookup t x y false,ty,pos,af,g⟩ env h 0 (fun _ => v) (fun _ => []) := by
  refine fL fun ρ S a w p => ?_
  have h1 := p.evu hx;simp only [R] at h1;obtain ⟨b,l,ck,h3,_,h6,h7,h8⟩ := h1;have h4 := hyv _ _ _ _ (p.evu hy);obtain ⟨e,h9,h10,_⟩ := sI ko w h7 hkeys hkey hnd hi;refine ⟨e.val,?_,?_⟩
  · simp [execOp,h3,h4,Instr.lookup,run_underlying ht,MapKept.run_getObj_map h6,ko.check w _ hkey,h9]
  · obtain ⟨u,h11,h12⟩ := mT h8 i v hv;rw [aS,h10] at h11;cases h11;exact H0 _ _ _ _ hidf h12
end
end Go.Ab
namespace Go.Or
open Go Go.Ab
theorem WG (tk : List (List Tk)) : (xK tk).flatten.all AV.one = true := by
  induction tk with
  | nil => rfl
  | cons x l ih => exact ih
theorem C6 (tk : List (List Tk)) : ∀ e,e ∈ xK tk → AV.idfL e = true := by intro e he;obtain ⟨x,_,rfl⟩ := aK.1 he;rfl
theorem TW (tk : List (List Tk)) : AV.idfL (xK tk).flatten = true := by
  induction tk with
  | nil => rfl
  | cons x l ih => exact ih
theorem zA4 (l : List Tk) : (AB.arr (eZ l) 2).rf = true := bD.2 fun e he => by obtain ⟨i,_,rfl⟩ := aK.1 he;rfl
theorem TX : ∀ l : List Tk, AV.idfL (eZ l).flatten = true
  | [] => rfl
  | x :: l => TX l
def mB (tick : Int) (o : Od) : Bool := decide (o.st = 1) && decide (o.due < tick)
def E2 (bk : Bk) (tick : Int) : List Int := (zP bk.length).filter fun i => mB tick (bk.getD i.toNat jC)
def rD (p : Od → Bool) (bk : Bk) (k : Nat) : List Int := (zP k).filter fun i => p (bk.getD i.toNat jC)
theorem OU (k : Nat) : zP (k + 1) = zP k ++ [(k : Int)] := by unfold zP;rw [CU,dI];rfl
theorem zB {p : Od → Bool} {bk : Bk} {k : Nat} (h : k < bk.length) : rD p bk (k + 1) = if p bk[k] then rD p bk k ++ [(k : Int)] else rD p bk k := by
  unfold rD;rw [OU,H8];have e : bk.getD ((k : Int).toNat) jC = bk[k] := by rw [bN,aD,aC h];rfl
  rw [jD,e];cases p bk[k] <;> simp
theorem vC {p : Od → Bool} {bk : Bk} {k : Nat} : (rD p bk k).length ≤ k := cQ (xG _ _) (by simp [zP])
end Go.Or
namespace Go.Proofs.YtdfmhddmddgniaaGreatDoor
open Go Go.Ab Go.Or
attribute [local irreducible] VC AW bJ bI eO
set_option maxHeartbeats 4000000
abbrev zJ2 (o : Od) : AV := .agg [.rowE (bV o.ws) 3,.i o.due,.i o.st]
theorem zN9 (bk : Bk) (no : Int) (hr : no < 0 ∨ (bk.length : Int) ≤ no) (hl : bk.length ≤ 1000000) :
    bI Tryz.prog 12 [xX bk,.i no] [] (.tup [.agg [.nils,.i 0,.i 0],.b false]) [] := by
  have hbl := jG bk;refine dA T Tryz.func12 rfl rfl rfl rfl ?_
  (repeat' (first|refine wS ?_|refine wR ?_|refine wT ?_|(refine wC rfl ?_ ?_<;>(intro hb;(try simp only [nm] at hb);try (exfalso;omega)))|(refine rg 0 (dQ (dC T rfl) rfl (aV ?_)))|(refine rg 1 (mW rfl (vV (bE rfl rfl) (mV ?_)));refine bP rfl rfl ?_ ?_<;>(intro hb;rw [hb];(try simp only [nm] at hb);try (exfalso;omega));(all_goals first|(refine gT (mW rfl (gT (mW rfl (gT (nV ?_)))));refine gT (fW T rfl (gT (lW T rfl (gT (qW T rfl (gT (vV (eN rfl rfl) ?_))))))))|(iterate 7 refine gF ?_));(all_goals (refine pV ?_)))|(refine rg 2 (vV (by exact gS T rfl rfl rfl rfl) ?_);refine bA T rfl rfl rfl rfl rfl rfl (by decide) rfl (aV ?_))|refine nZ ?_));all_goals first | (exfalso;omega) | exact rQ
theorem LH (tk : List (List Tk)) (hl : tk.length ≤ 1000000) : bI Tryz.prog 105 [mA tk] [] (.sl 0 0 tk.length 1) [.arr (xK tk) 1] := by
  have hll : (xK tk).length = tk.length := kD tk;refine dA T Tryz.func105 rfl rfl rfl rfl ?_
  repeat' (first|refine wS ?_|refine wK ?_|refine wT ?_|refine wU ?_|(refine rg 0 (aV ?_))|(refine rg 1 (mV ?_);refine C4 T rfl rfl rfl rfl fun b hb=>?_;cases b)|refine nZ ?_)
  · (repeat' (first|refine wR ?_|(refine rg 3 (dQ (by exact bO T rfl rfl (by decide) (by decide) rfl rfl rfl) rfl ?_);refine mW rfl (fH T rfl rfl rfl rfl rfl rfl (by decide) (.row (gJ tk)) (WG tk) (by simp;omega) (by simp;omega) rfl ?_);refine aV ?_)|(refine nZ ?_)));exact ⟨.inl rfl,[1],_,rfl,(by show AV.sl 1 0 (0 + (xK tk).length) 1 = AV.sl 1 0 tk.length 1;simp),rfl,⟨.inr (bM rfl rfl (C6 _)),trivial⟩,by decide,iK _⟩
  · have hl0 : tk = [] := iR.1 (Classical.byContradiction fun h => by have := hb (by omega);cases this)
    subst hl0
    (repeat' (first|refine wR ?_|(refine rg 2 (vV (jJ rfl) (Q6 2 1 rfl (by decide) ?_)))|refine nZ ?_));exact ⟨.inl rfl,[0],_,rfl,rfl,rfl,⟨.inr (bM rfl rfl (C6 _)),trivial⟩,by decide,iK _⟩
theorem OR (bk : Bk) (tick : Int) (hl : bk.length ≤ 1000000) :
    bI Tryz.prog 27 [xX bk,.i tick] [] (.sl 0 0 (E2 bk tick).length 1) [.arr (fQ (E2 bk tick)) 1] := by
  have hbl := jG bk;have hof : E2 bk tick = rD (mB tick) bk bk.length := rfl;rw [hof];refine dA T Tryz.func27 rfl rfl rfl rfl ?_
  (repeat' (first|refine wS ?_|(refine rg 0 (aV ?_))|(refine rg 1 (aV ?_))|refine nZ ?_));refine pY 5 1 rfl (by decide) ?_
  (repeat' (first|refine wB ?_|(refine rg 2 (mW rfl (nV ?_));refine eT T rfl (qW T rfl (mV ?_)))|refine nZ ?_));refine dR (X := {k : Nat // k ≤ bk.length}) (fun k => [(1,.i tick),(5,.sl 0 0 (rD (mB tick) bk k.1).length 1),(11,.rowE (uW bk) 4),(12,.i (uW bk).length),(13,.i k.1)]) (fun k => [.arr (fQ (rD (mB tick) bk k.1)) 1]) (fun k => bk.length - k.1) ⟨0,bG _⟩ ⟨[0],rfl,by (repeat (first | exact trivial | refine ⟨rfl,?_⟩)),⟨.inr rfl,trivial⟩,by decide,iK _⟩ ?_
  rintro ⟨k,hk⟩;dsimp only;by_cases hlt : k < bk.length
  · have hg := rX hlt;have hss := zB (p := mB tick) hlt;have hsk := vC (p := mB tick) (bk := bk) (k := k);have hnl := lG (rD (mB tick) bk k);generalize bk[k] = o at *;generalize rD (mB tick) bk k = S at *;by_cases h1 : o.st = 1
    · by_cases h2 : o.due < tick
      · rw [show mB tick o = true by simp [mB,h1,h2],if_pos rfl] at hss
        (repeat' (first|refine wS ?_|refine wB ?_|refine wK ?_|(refine wC rfl ?_ ?_<;>(intro hb;(try simp only [nm] at hb);try (exfalso;omega)))|(refine rg 3 (vV (bE rfl rfl) ?_))|(refine rg 4 (mW rfl (vV (ix T rfl (by omega) (kR bk) hg) (lW T rfl (dQ (dC T rfl) rfl (aW rfl (bA T rfl rfl rfl rfl rfl rfl (by decide) rfl ?_)))))))|(refine rg 5 (fW T rfl (eT T rfl (vV (cW rfl rfl) (mV ?_))));refine bP rfl rfl ?_ ?_<;>(intro hb;rw [hb];(try simp only [nm] at hb);try (exfalso;omega));(all_goals (refine yP T rfl (yP T rfl (yO T rfl (yN rfl (yV (bE rfl rfl) (pV ?_))))))))|(refine rg 6 (dS rfl (dQ (by exact bO T rfl rfl (by decide) (by decide) rfl rfl rfl) rfl ?_));refine fH T rfl rfl rfl rfl rfl rfl (by omega) (jA.whole rfl rfl) rfl (by simp;omega) (by simp;omega) rfl ?_;refine aV ?_)|(refine rg 7 (vV (eD rfl rfl (by omega) (by omega)) (mV ?_)))|refine nZ ?_));all_goals first | (exfalso;omega) | exact ⟨⟨k + 1,hlt⟩,by dsimp only;omega,⟨[3],rfl,⟨rfl,by dsimp only;rw [hss,aB];rfl,rfl,rfl,rfl,trivial⟩,⟨.inr (bM rfl (by dsimp only;rw [hss];exact T9 S _) (fA _)),trivial⟩,by decide,iK _⟩⟩
      · rw [show mB tick o = false by simp [mB,h2],if_neg (by decide)] at hss
        (repeat' (first|refine wS ?_|refine wB ?_|refine wK ?_|(refine wC rfl ?_ ?_<;>(intro hb;(try simp only [nm] at hb);try (exfalso;omega)))|(refine rg 3 (vV (bE rfl rfl) ?_))|(refine rg 4 (mW rfl (vV (ix T rfl (by omega) (kR bk) hg) (lW T rfl (dQ (dC T rfl) rfl (aW rfl (bA T rfl rfl rfl rfl rfl rfl (by decide) rfl ?_)))))))|(refine rg 5 (fW T rfl (eT T rfl (vV (cW rfl rfl) (mV ?_))));refine bP rfl rfl ?_ ?_<;>(intro hb;rw [hb];(try simp only [nm] at hb);try (exfalso;omega));(all_goals (refine yP T rfl (yP T rfl (yO T rfl (yN rfl (yV (bE rfl rfl) (pV ?_))))))))|(refine rg 7 (vV (eD rfl rfl (by omega) (by omega)) (mV ?_)))|refine nZ ?_));all_goals first | (exfalso;omega) | exact ⟨⟨k + 1,hlt⟩,by dsimp only;omega,⟨[0],rfl,⟨rfl,by dsimp only;rw [hss];rfl,rfl,rfl,rfl,trivial⟩,⟨.inr (bM rfl (by dsimp only;rw [hss]) (fA _)),trivial⟩,by decide,iK _⟩⟩
    · rw [show mB tick o = false by simp [mB,h1],if_neg (by decide)] at hss
      (repeat' (first|refine wS ?_|refine wB ?_|refine wK ?_|refine wU ?_|(refine wC rfl ?_ ?_<;>(intro hb;(try simp only [nm] at hb);try (exfalso;omega)))|(refine rg 3 (vV (bE rfl rfl) ?_))|(refine rg 4 (mW rfl (vV (ix T rfl (by omega) (kR bk) hg) (lW T rfl (dQ (dC T rfl) rfl (aW rfl (bA T rfl rfl rfl rfl rfl rfl (by decide) rfl ?_)))))))|(refine rg 5 (fW T rfl (eT T rfl (vV (oT rfl rfl (by omega)) (mV ?_))));(iterate 5 refine gF ?_);refine pV ?_)|(refine rg 7 (vV (eD rfl rfl (by omega) (by omega)) (mV ?_)))|refine nZ ?_));all_goals first | (exfalso;omega) | exact ⟨⟨k + 1,hlt⟩,by dsimp only;omega,⟨[0],rfl,⟨rfl,by dsimp only;rw [hss];rfl,rfl,rfl,rfl,trivial⟩,⟨.inr (bM rfl (by dsimp only;rw [hss]) (fA _)),trivial⟩,by decide,iK _⟩⟩
  · obtain rfl : k = bk.length := by omega
    (repeat' (first|refine wS ?_|refine wR ?_|refine wE ?_|(refine wC rfl ?_ ?_<;>(intro hb;(try simp only [nm] at hb);try (exfalso;omega)))|(refine rg 3 (vV (bE rfl rfl) ?_))|(refine rg 8 (mW rfl (aV ?_)))|refine nZ ?_));all_goals first | (exfalso;omega) | exact ⟨.inl rfl,[0],_,rfl,rfl,rfl,⟨.inr (bM rfl rfl (fA _)),trivial⟩,by decide,iK _⟩
end Go.Proofs.YtdfmhddmddgniaaGreatDoor
namespace Go.Or
open Go Go.Ab
theorem XK (m : List (Int × Int)) : AV.plOL (AA m) = true := by
  induction m with
  | nil => rfl
  | cons x l ih => exact ih
theorem zC3 {l : List Tk} {m : List (Int × Int)} (h : H7 l m) {t : Tk} (ht : t ∈ l) : ∃ i : Nat,(M7 m)[i]? = some (kI t.1) ∧ (AA m)[i]? = some (.i (eW l t.1)) := by
  obtain ⟨e,he,e1⟩ := aK.1 (h.cov t ht);obtain ⟨i,hi⟩ := cN.1 he;refine ⟨i,by rw [aS,hi];exact congrArg (fun z => some (kI z)) e1,?_⟩
  rw [aS,hi,← e1,← h.val e he];rfl
theorem UM {l : List Bo} {j : Int} (h0 : 0 ≤ j) (h : j < l.length) : (eY l)[j.toNat]? = some [AV.i (l.getD j.toNat (0,0,0)).1,AV.i (l.getD j.toNat (0,0,0)).2.1,AV.i (l.getD j.toNat (0,0,0)).2.2] := by
  have hl : j.toNat < l.length := by omega
  rw [aS,aC hl,aD,aC hl];rfl
theorem MS {l : List Lo} {j : Int} (h0 : 0 ≤ j) (h : j < l.length) : (iX l)[j.toNat]? = some [AV.i (l.getD j.toNat (0,0,false)).1,AV.i (l.getD j.toNat (0,0,false)).2.1,AV.b (l.getD j.toNat (0,0,false)).2.2] := by
  have hl : j.toNat < l.length := by omega
  rw [aS,aC hl,aD,aC hl];rfl
theorem QK {l : List Wt} {i : Nat} (h : i < l.length) : (bV l)[(i : Int).toNat]? = some [AV.i (l.getD i (0,0,0)).1,AV.i (l.getD i (0,0,0)).2.1,AV.i (l.getD i (0,0,0)).2.2] := by
  rw [bN,aS,aC h,aD,aC h];rfl
theorem UJ {ls : List Lo} {sure : List Bo} {bk : Bk} {o : Od} (h : ∀ j,j < o.tk.length → ((o.tk.getD j []).any fun t => !tT ls sure bk t (o.ws.getD j (0,0,0))) = false) : rW ls sure bk o = false := by
  unfold rW;rw [kP];intro j hj;rw [h j (mO.1 hj)];decide
theorem NG {ls : List Lo} {sure : List Bo} {bk : Bk} {o : Od} {j : Nat} (hj : j < o.tk.length) (h : ((o.tk.getD j []).any fun t => !tT ls sure bk t (o.ws.getD j (0,0,0))) = true) : rW ls sure bk o = true := by
  unfold rW;rw [jE];exact ⟨j,mO.2 hj,h⟩
abbrev zL0 (f : FuncId) (ls : List Lo) (sure : List Bo) (m : List (Int × Int)) : AV := .clo (.func f) [] [.pr [.rowE (eY sure) 3] 0,.pr [.rowE (iX ls) 3] 0,.pr [.mrow (M7 m) (AA m)] 0]
end Go.Or
namespace Go.Proofs.YtdfmhddmddgniaaGreatDoor
open Go Go.Ab Go.Or
attribute [local irreducible] VC AW bJ bI eO
set_option maxHeartbeats 4000000
theorem zK9 (ls : List Lo) (sure : List Bo) (bk : Bk) (t : Tk) (w : Wt) (ht : t ∈ jO bk) (h0 : 0 ≤ t.1) (hl : ls.length ≤ 1000000) (hs : sure.length ≤ 1000000) (hk : ∀ i : Nat,i < sure.length → (sure.getD i (0,0,0)).1 < ls.length) :
    bI Tryz.prog 62 [.agg [.i t.1,.i t.2],.agg [.i w.1,.i w.2.1,.i w.2.2],.pr [.rowE (eY sure) 3] 0,.pr [.rowE (iX ls) 3] 0,.pr [.mrow (M7 (rE (jO bk))) (AA (rE (jO bk)))] 0] [] (.b (tT ls sure bk t w)) [] := by
  have hmo := DO (jO bk);obtain ⟨mi,k1,k2⟩ := zC3 hmo ht;have hbl := fM sure;have hll := pJ ls;have hnd := SU hmo.nd;unfold tT;rw [show lO bk t.1 = eW (jO bk) t.1 from rfl]
  generalize eW (jO bk) t.1 = rv at *;generalize rE (jO bk) = m at *;refine dA T Tryz.func62 rfl rfl rfl rfl ?_;obtain ⟨tb,tn⟩ := t;dsimp only at *;by_cases h1 : tb < sure.length
  · rw [decide_eq_true h1,kK];have hg := UM h0 h1;have hkl := hk tb.toNat (by omega)
    unfold cnt lJ;generalize sure.getD tb.toNat (0,0,0) = x at *;by_cases h2 : 0 ≤ x.1
    · rw [decide_eq_true h2,kK];have hg2 := MS h2 hkl;have hfl := NC (ls.getD x.1.toNat (0,0,false)) w;generalize ls.getD x.1.toNat (0,0,false) = y at *;cases hf : CN y w with
      | true =>
        rw [hf] at hfl;rw [kK]
        (repeat' (first|refine wS ?_|refine wK ?_|refine wR ?_|(refine wC rfl ?_ ?_<;>(intro hb;(try simp only [nm] at hb);try (exfalso;omega)))|(refine rg 0 (dQ (fE rfl rfl) rfl (dQ (fE rfl rfl) rfl (aV ?_))))|(refine rg 1 (eT T rfl (lW T rfl (qW T rfl (vV (eN rfl rfl) (mV ?_)))));refine bP rfl rfl ?_ ?_<;>(intro hb;rw [hb];(try simp only [nm] at hb);try (exfalso;omega));(all_goals (refine yO T rfl (yP T rfl (yO T rfl (yV (ix T rfl (by omega) (fZ _) hg) (yP T rfl (yO T rfl (yV (bE rfl rfl) (pV ?_))))))))))|(refine cS (id := 3) 46 zS2 (rM 22 24) zS3 dZ rfl (by decide +kernel) (dO T rfl (dO T rfl (dP T rfl (dO T rfl (dV rfl (ix T rfl (by omega) (fZ _) hg) (dP T rfl (dO T rfl (dV rfl (ix T rfl (by omega) (pA _) hg2) (dL T ?_)))))))));refine dO T rfl (dV rfl (kC (hfl)) (dN rfl (tO T rfl (tP T rfl (tO T rfl (dT rfl (ix T rfl (by omega) (fZ _) hg) (tP T rfl (tO T rfl (tL T ?_)))))))));refine tP T rfl (tO T rfl (dT rfl (by exact HO BZ GZ rfl rfl (GX _) (xZ m) (K4 _) hnd k1 k2 rfl) ?_));refine dT rfl (eN rfl rfl) (dV rfl (kM rfl rfl) (dE ?_));refine aV ?_)|refine nZ ?_));all_goals first | (exfalso;omega) | exact rQ
      | false =>
        rw [hf] at hfl;rw [jQ]
        (repeat' (first|refine wS ?_|refine wK ?_|refine wR ?_|(refine wC rfl ?_ ?_<;>(intro hb;(try simp only [nm] at hb);try (exfalso;omega)))|(refine rg 0 (dQ (fE rfl rfl) rfl (dQ (fE rfl rfl) rfl (aV ?_))))|(refine rg 1 (eT T rfl (lW T rfl (qW T rfl (vV (eN rfl rfl) (mV ?_)))));refine bP rfl rfl ?_ ?_<;>(intro hb;rw [hb];(try simp only [nm] at hb);try (exfalso;omega));(all_goals (refine yO T rfl (yP T rfl (yO T rfl (yV (ix T rfl (by omega) (fZ _) hg) (yP T rfl (yO T rfl (yV (bE rfl rfl) (pV ?_))))))))))|(refine cS (id := 3) 46 zS2 (rM 22 24) zS3 dZ rfl (by decide +kernel) (dO T rfl (dO T rfl (dP T rfl (dO T rfl (dV rfl (ix T rfl (by omega) (fZ _) hg) (dP T rfl (dO T rfl (dV rfl (ix T rfl (by omega) (pA _) hg2) (dL T ?_)))))))));refine dO T rfl (dV rfl (kC (hfl)) (dN rfl (tG rfl (tG rfl (tG rfl (tG rfl (tG rfl (tG rfl (dG ?_)))))))));refine tG rfl (tG rfl (tG rfl (tG rfl (dV rfl (fS rfl rfl) (dE ?_)))));refine aV ?_)|refine nZ ?_));all_goals first | (exfalso;omega) | exact rQ
    · rw [decide_eq_false h2,jQ,jQ]
      (repeat' (first|refine wS ?_|refine wR ?_|(refine wC rfl ?_ ?_<;>(intro hb;(try simp only [nm] at hb);try (exfalso;omega)))|(refine rg 0 (dQ (fE rfl rfl) rfl (dQ (fE rfl rfl) rfl (aV ?_))))|(refine rg 1 (eT T rfl (lW T rfl (qW T rfl (vV (eN rfl rfl) (mV ?_)))));refine bP rfl rfl ?_ ?_<;>(intro hb;rw [hb];(try simp only [nm] at hb);try (exfalso;omega));(all_goals (refine yO T rfl (yP T rfl (yO T rfl (yV (ix T rfl (by omega) (fZ _) hg) (yP T rfl (yO T rfl (yV (bE rfl rfl) (pV ?_))))))))))|(refine rg 2 (aV ?_))|refine nZ ?_));all_goals first | (exfalso;omega) | exact rQ
  · rw [decide_eq_false h1,jQ]
    (repeat' (first|refine wS ?_|refine wR ?_|refine wT ?_|(refine rg 0 (dQ (fE rfl rfl) rfl (dQ (fE rfl rfl) rfl (aV ?_))))|(refine rg 1 (eT T rfl (lW T rfl (qW T rfl (vV (eN rfl rfl) (mV ?_)))));refine bP rfl rfl ?_ ?_<;>(intro hb;rw [hb];(try simp only [nm] at hb);try (exfalso;omega));(all_goals ((iterate 7 refine gF ?_);refine pV ?_)))|(refine rg 2 (aV ?_))|refine nZ ?_));all_goals first | (exfalso;omega) | exact rQ
theorem zE6 (ls : List Lo) (sure : List Bo) (bk : Bk) (t : Tk) (o : Od) (i : Nat) (hi : i < o.ws.length) (hw : o.ws.length ≤ 1000000) (ht : t ∈ jO bk) (h0 : 0 ≤ t.1) (hl : ls.length ≤ 1000000) (hs : sure.length ≤ 1000000) (hk : ∀ i : Nat,i < sure.length → (sure.getD i (0,0,0)).1 < ls.length) :
    bI Tryz.prog 65 [.agg [.i t.1,.i t.2],.pr [zL0 62 ls sure (rE (jO bk))] 0,.pr (zU o) 0,.pr [.i i] 0] [] (.b (!tT ls sure bk t (o.ws.getD i (0,0,0)))) [] := by
  have hwl := gD o.ws;have hg := QK hi;have hcc := zK9 ls sure bk t (o.ws.getD i (0,0,0)) ht h0 hl hs hk;generalize tT ls sure bk t (o.ws.getD i (0,0,0)) = r at *;generalize o.ws.getD i (0,0,0) = w at *;refine dA T Tryz.func65 rfl rfl rfl rfl ?_
  (repeat' (first|refine wS ?_|refine wR ?_|(refine rg 0 (dQ (fE rfl rfl) rfl (aV ?_)))|(refine cS (id := 1) 16 [[],[],[],[2],[2,3],[],rM 2 4,rM 2 5,rN 8,rN 9] (rM 6 10) [[],[6],[6,7],[6,7],[6,7],rM 6 5,[6,7],[6,7],[],[]] dZ rfl (by decide +kernel) (dO T rfl (dO T rfl (dP T rfl (dP T rfl (dO T rfl (dO T rfl (dV rfl (ix T rfl (by omega) (jW _) hg) (dO T rfl (dV rfl (kC (hcc)) ?_)))))))));refine dV rfl (cV rfl) (dE ?_);refine aV ?_)|refine nZ ?_));all_goals first | (exfalso;omega) | exact rQ
theorem UI (ls : List Lo) (sure : List Bo) (bk : Bk) (hl : bk.length ≤ 1000000) (h1 : ∀ o,o ∈ bk → o.tk.length ≤ 1000000 ∧ ∀ l,l ∈ o.tk → l.length ≤ 1000000) (hs : G7 bk) (hw : ∀ o,o ∈ bk → o.tk.length ≤ o.ws.length ∧ o.ws.length ≤ 1000000) (hll : ls.length ≤ 1000000) (hsl : sure.length ≤ 1000000) (hk : ∀ i : Nat,i < sure.length → (sure.getD i (0,0,0)).1 < ls.length) :
    bI Tryz.prog 25 [xX bk,.rowE (iX ls) 3,.rowE (eY sure) 3] [] (.sl 0 0 (pX ls sure bk).length 1) [.arr (fQ (pX ls sure bk)) 1] := by
  have hbl := jG bk;have hrm := RU bk hl h1 hs;have hc2 := fun (t : Tk) (o : Od) (i : Nat) (hi : i < o.ws.length) (hw : o.ws.length ≤ 1000000) (ht : t ∈ jO bk) => zE6 ls sure bk t o i hi hw ht (hs.nn t ht).1 hll hsl hk;rw [show pX ls sure bk = rD (rW ls sure bk) bk bk.length from rfl]
  generalize hm : rE (jO bk) = m at *;refine dA T Tryz.func25 rfl rfl rfl rfl ?_
  (repeat' (first|refine wS ?_|(refine rg 0 (dQ (fE rfl rfl) rfl (dQ (fE rfl rfl) rfl (aV ?_))))|refine nZ ?_));refine fK 4 (cs := [.rowE (iX ls) 3]) rfl rfl rfl ?_
  refine fK 5 (cs := [.rowE (eY sure) 3]) rfl rfl rfl ?_
  (repeat' (first|refine wS ?_|(refine rg 1 (mW rfl (dQ (by exact uF rfl rfl hrm (.inr ⟨rfl,rfl,by simp⟩)) rfl ?_));refine dQ (dC T rfl) rfl (bA T rfl rfl rfl rfl rfl rfl (by decide) rfl ?_))|(refine rg 2 (vV (by exact qZ rfl rfl) ?_);refine dQ (dC T rfl) rfl (bA T rfl rfl rfl rfl rfl rfl (by decide) rfl ?_))|(refine rg 3 (aV ?_))|refine nZ ?_));refine pY 9 1 rfl (by decide) ?_
  (repeat' (first|refine wB ?_|(refine rg 4 (mW rfl (nV ?_));refine eT T rfl (qW T rfl (mV ?_)))|refine nZ ?_));refine dR (X := {k : Nat // k ≤ bk.length}) (fun k => [(8,.ptr 2 0),(9,.sl 3 0 (rD (rW ls sure bk) bk k.1).length 1),(20,.rowE (uW bk) 4),(21,.i (uW bk).length),(22,.i k.1)]) (fun k => [.mapO (M7 m) (AA m),.cells [.mp 0],.cells [.clo (.func 62) [] [.pr [.rowE (eY sure) 3] 0,.pr [.rowE (iX ls) 3] 0,.ptr 1 0]],.arr (fQ (rD (rW ls sure bk) bk k.1)) 1]) (fun k => bk.length - k.1) ⟨0,bG _⟩ ⟨[2,3,4,5],rfl,by (repeat (first | exact trivial | refine ⟨rfl,?_⟩)),⟨.inr (nE rfl rfl (nK _ _ (mF _)) (mF _)),.inr rfl,.inr rfl,.inr rfl,trivial⟩,by decide,iK _⟩ ?_
  rintro ⟨k,hk2⟩;dsimp only;by_cases hlt : k < bk.length
  · have hg := rX hlt;have hmo := aH hlt;have hss := zB (p := rW ls sure bk) hlt;have hsk := vC (p := rW ls sure bk) (bk := bk) (k := k);have hnl := lG (rD (rW ls sure bk) bk k);have hww := hw _ hmo;have h11 := h1 _ hmo;have hal := fun (t : Tk) (ht : t ∈ bk[k].tk.flatten) => Y0 hmo ht;generalize bk[k] = o at *;have htl := kD o.tk;generalize rD (rW ls sure bk) bk k = S at *
    (repeat' (first|refine wS ?_|refine wB ?_|refine wK ?_|(refine wC rfl ?_ ?_<;>(intro hb;(try simp only [nm] at hb);try (exfalso;omega)))|(refine rg 5 (vV (bE rfl rfl) ?_))|(refine rg 6 (mW rfl (vV (ix T rfl (by omega) (kR bk) hg) (lW T rfl (dQ (dC T rfl) rfl (aW rfl (bA T rfl rfl rfl rfl rfl rfl (by decide) rfl ?_)))))))|refine nZ ?_));all_goals try (exfalso;omega)
    refine fK 11 (cs := zU o) rfl rfl rfl ?_
    (repeat' (first|refine wB ?_|(refine rg 7 (eT T rfl (qW T rfl (mV ?_))))|refine nZ ?_));refine dR (X := {i : Nat // i ≤ o.tk.length ∧ ∀ j,j < i → ((o.tk.getD j []).any fun t => !tT ls sure bk t (o.ws.getD j (0,0,0))) = false}) (fun i => [(8,.ptr 2 0),(9,.sl 3 0 S.length 1),(10,.i k),(11,.pr (zU o) 0),(20,.rowE (uW bk) 4),(21,.i (uW bk).length),(22,.i k),(28,mA o.tk),(29,.i (xK o.tk).length),(30,.i i.1)]) (fun i => [.mapO (M7 m) (AA m),.cells [.mp 0],.cells [.clo (.func 62) [] [.pr [.rowE (eY sure) 3] 0,.pr [.rowE (iX ls) 3] 0,.ptr 1 0]],.arr (fQ S) 1]) (fun i => o.tk.length - i.1) ⟨0,bG _,fun j hj => absurd hj (eM _)⟩ ⟨[0,1,2,3],rfl,by (repeat (first | exact trivial | refine ⟨rfl,?_⟩)),⟨.inr (nE rfl rfl rfl (mF _)),.inr rfl,.inr rfl,.inr (bM rfl rfl (fA _)),trivial⟩,by decide,iK _⟩ ?_
    rintro ⟨i,hi,hno⟩;dsimp only;by_cases hil : i < o.tk.length
    · have hg2 := tV hil;have hmi := aH hil;have hgd : o.tk.getD i [] = o.tk[i] := by rw [aD,aC hil];rfl
      have hli := h11.2 _ hmi;have hF := fun (t : Tk) (ht : t ∈ o.tk[i]) => hc2 t o i (by omega) hww.2 (hal t (rJ.2 ⟨_,hmi,ht⟩))
      have hsn : (∀ j,j < i + 1 → ((o.tk.getD j []).any fun t => !tT ls sure bk t (o.ws.getD j (0,0,0))) = false) ∨ ((o.tk.getD i []).any fun t => !tT ls sure bk t (o.ws.getD i (0,0,0))) = true := by
        cases e : ((o.tk.getD i []).any fun t => !tT ls sure bk t (o.ws.getD i (0,0,0))) with
        | true => exact .inr rfl
        | false =>
          refine .inl fun j hj => ?_
          rcases gP j i with h | h
          · exact hno j h
          · rw [show j = i by omega];exact e
      have hby := fun e => NG (ls := ls) (sure := sure) (bk := bk) hil e;rw [hgd] at hsn hby;generalize o.tk[i] = l at *;have hct := XV hli (F := 65) rfl hF;have hvw : ∀ Z : Hp,View ([AB.mapO (M7 m) (AA m),.cells [.mp 0],.cells [.clo (.func 62) [] [.pr [.rowE (eY sure) 3] 0,.pr [.rowE (iX ls) 3] 0,.ptr 1 0]],.arr (fQ S) 1] ++ Z) (.ptr 2 0) (.pr [zL0 62 ls sure m] 0) := fun Z => View.ptr rfl (.cons (.clo .nil (.cons (.pr _ _) (.cons (.pr _ _) (.cons (.ptr rfl (.cons (.mp rfl (pE _ (XK m))) .nil)) .nil)))) .nil);by_cases hany : (l.any fun t => !tT ls sure bk t (o.ws.getD i (0,0,0))) = true
      · have hbt := hby hany;rw [hbt,if_pos rfl] at hss;rw [hany] at hct
        (repeat' (first|refine wS ?_|refine wB ?_|refine wK ?_|(refine wC rfl ?_ ?_<;>(intro hb;(try simp only [nm] at hb);try (exfalso;omega)))|(refine rg 8 (vV (bE rfl rfl) ?_))|(refine rg 9 (mW rfl (vV (ix T rfl (by omega) (gJ _) hg2) (lW T rfl (dQ (dC T rfl) rfl (bA T rfl rfl rfl rfl rfl rfl (by decide) rfl (aV ?_)))))))|refine nZ ?_));all_goals try (exfalso;omega)
        refine fK 12 (cs := [.i i]) rfl rfl rfl ?_
        (repeat' (first|refine wS ?_|refine wE ?_|refine wT ?_|(refine rg 10 (mW rfl (vV (by exact qZ rfl rfl) ?_));refine vV (by exact cM rfl rfl hct (.cons (.row _ _ _) (.cons (.clo .nil (.cons (hvw _) (.cons (.pr _ _) (.cons (.pr _ _) .nil)))) .nil)) rfl rfl) ?_)|(refine rg 11 (dS rfl (dQ (by exact bO T rfl rfl (by decide) (by decide) rfl rfl rfl) rfl ?_));refine fH T rfl rfl rfl rfl rfl rfl (by omega) (jA.whole rfl rfl) rfl (by simp;omega) (by simp;omega) rfl ?_;refine aV ?_)|(refine rg 13 (vV (eD rfl rfl (by omega) (by omega)) (mV ?_)))|refine nZ ?_));all_goals try (exfalso;omega)
        all_goals exact ⟨⟨k + 1,hlt⟩,by dsimp only;omega,⟨[0,1,2,6],rfl,⟨rfl,by dsimp only;rw [hss,aB];rfl,rfl,rfl,rfl,trivial⟩,⟨.inr (nE rfl rfl rfl (mF _)),.inr rfl,.inr rfl,.inr (bM rfl (by dsimp only;rw [hss];exact T9 S _) (fA _)),trivial⟩,by decide,iK _⟩⟩
      · have hny := hsn.resolve_right hany;rw [eE] at hany;rw [hany] at hct
        (repeat' (first|refine wS ?_|refine wB ?_|refine wK ?_|(refine wC rfl ?_ ?_<;>(intro hb;(try simp only [nm] at hb);try (exfalso;omega)))|(refine rg 8 (vV (bE rfl rfl) ?_))|(refine rg 9 (mW rfl (vV (ix T rfl (by omega) (gJ _) hg2) (lW T rfl (dQ (dC T rfl) rfl (bA T rfl rfl rfl rfl rfl rfl (by decide) rfl (aV ?_)))))))|refine nZ ?_));all_goals try (exfalso;omega)
        refine fK 12 (cs := [.i i]) rfl rfl rfl ?_
        (repeat' (first|refine wK ?_|refine wU ?_|(refine rg 10 (mW rfl (vV (by exact qZ rfl rfl) ?_));refine vV (by exact cM rfl rfl hct (.cons (.row _ _ _) (.cons (.clo .nil (.cons (hvw _) (.cons (.pr _ _) (.cons (.pr _ _) .nil)))) .nil)) rfl rfl) ?_)|(refine rg 12 (vV (eD rfl rfl (by omega) (by omega)) (mV ?_)))|refine nZ ?_));all_goals try (exfalso;omega)
        all_goals exact ⟨⟨i + 1,hil,hny⟩,by dsimp only;omega,⟨[0,1,2,3],rfl,by (repeat (first | exact trivial | refine ⟨rfl,?_⟩)),⟨.inr (nE rfl rfl rfl (mF _)),.inr rfl,.inr rfl,.inr (bM rfl rfl (fA _)),trivial⟩,by decide,iK _⟩⟩
    · obtain rfl : i = o.tk.length := by omega
      rw [UJ hno,if_neg (by decide)] at hss
      (repeat' (first|refine wS ?_|refine wE ?_|(refine wC rfl ?_ ?_<;>(intro hb;(try simp only [nm] at hb);try (exfalso;omega)))|(refine rg 8 (vV (bE rfl rfl) ?_))|(refine rg 13 (vV (eD rfl rfl (by omega) (by omega)) (mV ?_)))|refine nZ ?_));all_goals try (exfalso;omega)
      all_goals exact ⟨⟨k + 1,hlt⟩,by dsimp only;omega,⟨[0,1,2,3],rfl,⟨rfl,by dsimp only;rw [hss];rfl,rfl,rfl,rfl,trivial⟩,⟨.inr (nE rfl rfl rfl (mF _)),.inr rfl,.inr rfl,.inr (bM rfl (by dsimp only;rw [hss]) (fA _)),trivial⟩,by decide,iK _⟩⟩
  · obtain rfl : k = bk.length := by omega
    (repeat' (first|refine wS ?_|refine wR ?_|refine wE ?_|(refine wC rfl ?_ ?_<;>(intro hb;(try simp only [nm] at hb);try (exfalso;omega)))|(refine rg 5 (vV (bE rfl rfl) ?_))|(refine rg 14 (mW rfl (aV ?_)))|refine nZ ?_));all_goals first | (exfalso;omega) | exact ⟨.inl rfl,[3],_,rfl,rfl,rfl,⟨.inr (bM rfl rfl (fA _)),trivial⟩,by decide,iK _⟩
end Go.Proofs.YtdfmhddmddgniaaGreatDoor
namespace Go.Ab
open Go
section
variable {P : Program} {n : Nat × Nat} {ops : Array Oper} {rest : List Oper} {env : dD} {h : Hp} {K : dD → Hp → Prop}
variable {d : Option Nat} {ty : TypeId} {pos : String} {af : Array Edge}
theorem NT {t t2 e k off len sz dd : Nat} {x y : Operand} (T : oA P) (hx : evu env x = some (.sl k off len sz)) (hy : evu env y = some .nils) (ht : T.elem t = some e) (hd : J5 (some dd) n = true)
    (hk : ∀ b : Bool,(0 < len → b = false) → VC P n ops rest ((dd,.b b) :: env) h K) : VC P n ops (⟨some dd,.binOp .eql t x y t2,ty,pos,af,none⟩ :: rest) env h K := by
  intro c ρ S a w Q s hQ;refine wpList_plain rfl fun K' hK' => ?_
  have p := s.pre;have h3 := p.evu hx;simp only [R] at h3;obtain ⟨ad,cap,h4,hlc,hn⟩ := h3;have h5 := pZ (p.evu hy);have run : (execOp a.eval ⟨some dd,.binOp .eql t x y t2,ty,pos,af,none⟩).run P w = .ok (.value (.bool ad.isNone)) w := by
    have he := Lib.run_eql_slice_nil w t e ad len cap 0 0 (T.elemOk _ _ ht);have hg : (eqGuard .eql t x y (.slice ad len cap) (.slice none 0 0)).run P w = .ok () w := by cases ad <;> rfl
    simp [execOp,h4,h5,hg,he]
  have hv := hk ad.isNone (fun h0 => by
    rcases hn with ⟨h1,_⟩ | ⟨b,o,_,h1,_⟩
    · omega
    · rw [h1];rfl)
  unfold Oper.wp;rw [run];have hs := s.post (d := some dd) (m := 0) (x := .b ad.isNone) (new := []) (y := .bool ad.isNone) hd ⟨lM.refl _ _,rfl,fun _ _ => rfl,fun _ h => h,fun _ h => .inl h,fun k p h1 h2 => by omega,fun k k' p p' h1 h2 => by omega,kY _,fun j b hb => by simp at hb⟩
  rw [List.append_nil] at hs;exact hK' _ _ (hv c ρ S _ w Q hs hQ)
theorem AK {x : Operand} {f : FuncId} {fs cs us xs : List AV} {args : List Operand} {ats : Array TypeId} {Φ : AV → Hp → Prop} (hx : evu env x = some (.clo (.func f) fs cs)) (ha : EB env args = some us)
    (hc : eO P f xs [] Φ) (hv : iH h (fs ++ us ++ cs) xs) (hr : ∀ res hout,Φ res hout → res.rf = true ∧ ∀ b,b ∈ hout → b.rf = true) (hd : J5 d n = true)
    (hk : ∀ res hout,Φ res hout → VC P n ops rest (fR d (res.map (· + h.length)) env) (h ++ hout.map (AB.map (· + h.length))) K) :
    VC P n ops (⟨d,.call { callee := .value x,args := args.toArray,argTypes := ats },ty,pos,af,none⟩ :: rest) env h K := by
  intro c ρ S a w Q s hQ;refine wpList_plain rfl fun K' hK' => ?_
  have p := s.pre;have hxv := p.evu hx;simp only [R] at hxv;obtain ⟨ys,zs,e1,h1,h2⟩ := hxv;have hall : RL S w (fs ++ us ++ cs) ρ (ys.toList ++ args.map a.eval ++ zs.toList) := fC (fC h1 (nU p ha)) h2;obtain ⟨hf,hc⟩ := hc;have hargs := jY p.blk hv hall;have hS1w : ∀ b,(S b ∨ iN h ρ b) → b < w.heap.size := fun b hb => by
    rcases hb with hb | ⟨k,x,o,_,_,hb⟩
    · exact p.stab b hb
    · exact p.rng k _ hb
  have hs0 : HS (iY w (fun _ => none) (fun b => S b ∨ iN h ρ b) []) (fun _ => none) (fun b => S b ∨ iN h ρ b) [] w := ⟨fun _ _ => rfl,(fun _ _ h => by cases h),(fun k b hb => by simp at hb),(fun k b p hb => by simp at hb),(fun k _ b _ _ _ hb => by simp at hb),hS1w,lM.refl _ _,fun _ h => h,fun _ h => .inl h,aU _,(fun _ h => by simp [iY] at h),p.glob.st fun _ h => .inl h⟩
  have hcall := hc (fun _ => none) (fun b => S b ∨ iN h ρ b) w _ hs0 hargs;unfold Oper.wp;have hrun : (execOp a.eval ⟨d,.call { callee := .value x,args := args.toArray,argTypes := ats },ty,pos,af,none⟩).run P w = .ok (.enter f (ys.toList ++ args.map a.eval ++ zs.toList).toArray) w := by
    have e2 : (ys ++ (args.toArray.map a.eval) ++ zs) = (ys.toList ++ args.map a.eval ++ zs.toList).toArray := by
      apply Array.ext';simp
    simp only [execOp,resolve,e1,Deferred.ofValue,Sem.run_bind,Sem.run_pure,Result.andThen_ok,invoke];rw [e2];exact oL hf
  rw [hrun];simp only [Oper.upon];refine hcall.mono ?_;rintro e w' ⟨res,hout,hΦ,y,ρ',S',rfl,hs,hy⟩;simp only;obtain ⟨r1,r2⟩ := hr res hout hΦ;have hng : ∀ b,b ∈ hout → b ≠ .gone := fun b hb e => by
    have := r2 b hb;rw [e] at this;simp [AB.rf] at this
  have hM : ∀ b,(iY w (fun _ => none) (fun b => S b ∨ iN h ρ b) []).M b → w.heap.size ≤ b := fun b hb => by
    rcases hb with hb | ⟨k,x,o,hb,_⟩
    · exact hb
    · simp at hb
  have hext : lM (fun _ => False) w w' := hs.ext.mono fun b hb hm => by have := hM b hm;simp [iY] at hb;omega
  have pl : ∀ k r,ρ' k = some r → (ρ.join ρ' h.length hout.length) (k + h.length) = some r := fun k r hk => by
    have hlt : k < hout.length := by
      rcases gP k hout.length with h | h
      · exact h
      · rw [hs.dom k h] at hk;cases hk
    unfold Pl.join;rw [if_pos ⟨by omega,by omega⟩,show k + h.length - h.length = k by omega];exact hk
  have shift : ∀ {S2 : Nat → Prop} {x : AV} {y : Value},R S2 w' x ρ' y → R S2 w' (x.map (· + h.length)) (ρ.join ρ' h.length hout.length) y := fun {S2 x y} hx => yK (· + h.length) _ x y (lD (fun _ h => h) (fun _ _ => rfl) x ρ' _ y (fun k r hk => pl k r hk) (fun _ _ _ _ _ h => h) hx);have shiftB : ∀ {S2 : Nat → Prop} {b : AB} {pp},RB S2 w' ρ' pp b → RB S2 w' (ρ.join ρ' h.length hout.length) pp (b.map (· + h.length)) := fun {S2 b pp} hb => H5 (· + h.length) _ (RB.later (ρ := ρ') (S := S2) ⟨fun k r hk => pl k r hk,fun _ h => h,fun _ _ => rfl,fun _ _ _ _ _ h => h⟩ (fun _ _ _ => rfl) hb);have hpost : L5 ρ (ρ.join ρ' h.length hout.length) S S w w' h.length hout.length (res.map (· + h.length)) (hout.map (AB.map (· + h.length))) y := by
    refine ⟨hext,by simp,fun k hk => ?_,fun _ h => h,fun _ h => .inl h,fun k r hk1 hk2 hr => ?_,fun k k' r r' a1 a2 a3 a4 hr hr' e => ?_,shift (IQ ρ' _ _ r1 hy),fun j b hb => ?_⟩
    · unfold Pl.join;rw [if_neg (by omega)]
    · unfold Pl.join at hr;rw [if_pos ⟨hk1,hk2⟩] at hr;have hlt : k - h.length < hout.length := by omega
      have hget := aC hlt;have hl := hs.live (k - h.length) _ r hget (hng _ (aH hlt)) hr;have hm := hM _ hl.1;exact ⟨hm,hs.rng _ r hr,fun hs' => by have := p.stab _ hs';omega⟩
    · unfold Pl.join at hr hr';rw [if_pos ⟨a1,a2⟩] at hr;rw [if_pos ⟨a3,a4⟩] at hr';have h1 := aC (l := hout) (i := k - h.length) (by omega)
      have h2 := aC (l := hout) (i := k' - h.length) (by omega)
      have := hs.inj (k - h.length) (k' - h.length) _ _ r r' h1 h2 (hng _ (aH _)) (hng _ (aH _)) hr hr' e;omega
    · simp only [aS,bX] at hb;obtain ⟨b',h3,rfl⟩ := hb;have hlt := (aA.1 h3).1;have e2 : (ρ.join ρ' h.length hout.length) (h.length + j) = ρ' j := by
        unfold Pl.join;rw [if_pos ⟨by omega,by omega⟩,show h.length + j - h.length = j by omega]
      rw [e2];exact shiftB (NP (r2 b' (aJ h3)) (hs.blk j b' h3))
  exact hK' _ _ (hk res hout hΦ c _ S _ w' Q (s.post hd hpost) hQ)
end
end Go.Ab
namespace Go.Or
open Go Go.Ab
structure JA (tk : List (List Tk)) (N : List (Nat × List Tk)) (X : Hp) : Prop where
  kl : N.length ≤ tk.length
  eq : N.map (·.2) = tk.take N.length
  ho : X[0]? = some (.arr (nH N ++ (xK tk).drop N.length) 1)
  hn : uL X N
  nd : (0 :: N.map (·.1)).Nodup
  rf : ∀ (k : Nat) (b : AB),X[k]? = some b → k ≠ 0 → b.rf = true
theorem FR {α : Type} {A B : List α} {x : α} {k : Nat} (hk : k = A.length) (hB : B ≠ []) : (A ++ B).set k x = A ++ x :: B.drop 1 := by
  subst hk;cases B with
  | nil => exact absurd rfl hB
  | cons b B => simp
theorem JA.get {tk : List (List Tk)} {N : List (Nat × List Tk)} {X : Hp} (h : JA tk N X) (hl : N.length < tk.length) : (nH N ++ (xK tk).drop N.length)[0 + (N.length : Int).toNat]? = some [AV.rowE (eZ tk[N.length]) 2] := by
  rw [Nat.zero_add,bN,aE (by simp),eR]
  simp [hl]
theorem JA.next {tk : List (List Tk)} {N : List (Nat × List Tk)} {X : Hp} (h : JA tk N X) (hl : N.length < tk.length) :
    JA tk (N ++ [(X.length,tk[N.length])]) ((X ++ [AB.arr (eZ tk[N.length]) 2]).set 0 (AB.arr ((nH N ++ (xK tk).drop N.length).set (0 + (N.length : Int).toNat) [AV.sl X.length 0 tk[N.length].length 2]) 1)) := by
  have h0 : 0 < X.length := (aA.1 h.ho).1;have hlt : ∀ e,e ∈ N → e.1 < X.length := fun e he => (aA.1 (h.hn e he)).1;have hnd := aP.1 h.nd;refine ⟨by rw [aB];exact hl,?_,?_,fun e he => ?_,?_,fun k b hb hk0 => ?_⟩
  · rw [dI,aB,bZ,bB hl,h.eq];rfl
  · rw [gE (by simp)]
    congr 2;rw [Nat.zero_add,bN,FR (by simp) (by rw [Ne,List.drop_eq_nil_iff];simp;omega),IY,show nH (N ++ [(X.length,tk[N.length])]) = nH N ++ [[AV.sl X.length 0 tk[N.length].length 2]] from dI,aB,bZ]
    simp
  · rcases bH.1 he with he | he
    · exact fO (fun e1 => hnd.1 (by rw [← e1];exact aK.2 ⟨e,he,rfl⟩)) (bL (h.hn e he))
    · rw [bK.1 he];exact fO (by dsimp only;omega) bY
  · rw [dI,aP];refine ⟨fun hm => ?_,?_⟩
    · rcases bH.1 hm with hm | hm
      · exact hnd.1 hm
      · simp at hm;omega
    · rw [fB];refine ⟨hnd.2,by simp,fun a ha b hb e1 => ?_⟩
      obtain ⟨e,he,rfl⟩ := aK.1 ha;simp at hb;have := hlt e he;omega
  · rw [eX hk0] at hb;rcases gP k X.length with hkl | hkl
    · rw [fU hkl] at hb;exact h.rf k b hb hk0
    · have hkl2 := (aA.1 hb).1;rw [aB,bZ] at hkl2;obtain rfl : k = X.length := by omega
      rw [bY] at hb;cases hb;exact zA4 _
def QH (tk : List (List Tk)) (r : AV) (o : Hp) : Prop := ∃ N,r = .sl 0 0 tk.length 1 ∧ N.length = tk.length ∧ tk = N.map (·.2) ∧ o[0]? = some (.arr (nH N) 1) ∧ uL o N ∧ (0 :: N.map (·.1)).Nodup ∧ ∀ b,b ∈ o → b.rf = true
theorem JA.fin {tk : List (List Tk)} {N : List (Nat × List Tk)} {X : Hp} (h : JA tk N X) (hl : ¬ N.length < tk.length) : QH tk (.sl 0 0 tk.length 1) X := by
  have hkl := h.kl;have heq := h.eq;have ho := h.ho;rw [aQ (by omega)] at heq
  rw [dH (by simp;omega),List.append_nil] at ho
  refine ⟨N,rfl,by omega,heq.symm,ho,h.hn,h.nd,fun b hb => ?_⟩
  obtain ⟨k,hk⟩ := cN.1 hb;by_cases h0 : k = 0
  · subst h0;rw [ho] at hk;cases hk;exact bD.2 fun e he => by obtain ⟨i,_,rfl⟩ := aK.1 he;rfl
  · exact h.rf k b hk h0
structure ZB (H : Hp) (L0 : OL) (pb po : Nat) (L : OL) (X : Hp) : Prop where
  kl : L.length ≤ L0.length
  eq : L.map (·.1) = (L0.map (·.1)).take L.length
  le : H.length ≤ X.length
  fr : ∀ k,k < H.length → X[k]? = H[k]?
  b : X[pb]? = some (.cells [.sl po 0 L0.length 4])
  o : X[po]? = some (.arr ((L.map fun e => iT e.1 e.2.1) ++ (L0.map fun e => iT e.1 e.2.1).drop L.length) 4)
  n : ∀ e,e ∈ L → mU X e.2.1 e.1.tk e.2.2
  nd : (pb :: po :: L.flatMap (·.2.2)).Nodup
  ge : ∀ k,k ∈ B1 pb po L → H.length ≤ k
theorem ZB.get {H : Hp} {L0 : OL} {pb po : Nat} {L : OL} {X : Hp} (h : ZB H L0 pb po L X) (hl : L.length < L0.length) : ((L.map fun e => iT e.1 e.2.1) ++ (L0.map fun e => iT e.1 e.2.1).drop L.length)[0 + (L.length : Int).toNat]? = some (iT L0[L.length].1 L0[L.length].2.1) := by
  rw [Nat.zero_add,bN,aE (by simp),eR]
  simp [hl]
theorem ZB.next {H : Hp} {L0 : OL} {pb po : Nat} {L : OL} {X Z : Hp} (h : ZB H L0 pb po L X) (hl : L.length < L0.length) {x : AV} {B : List Nat} (hn : mU (X ++ Z) x L0[L.length].1.tk B) (hB : ∀ k,k ∈ B → X.length ≤ k) :
    ZB H L0 pb po (L ++ [(L0[L.length].1,x,B)]) ((X ++ Z).set po (AB.arr (((L.map fun e => iT e.1 e.2.1) ++ (L0.map fun e => iT e.1 e.2.1).drop L.length).set (0 + (L.length : Int).toNat) (iT L0[L.length].1 x)) 4)) := by
  have h0 : po < X.length := (aA.1 h.o).1;have h1 : pb < X.length := (aA.1 h.b).1;have hnd := h.nd;simp only [aP,aT,not_or] at hnd;have hlt : ∀ k,k ∈ L.flatMap (·.2.2) → k < X.length := fun k hk => by
    obtain ⟨e,he,hk⟩ := eS.1 hk;exact (h.n e he).lt k hk
  have hle := h.le;have hpo := h.ge po (by simp)
  have hg : ∀ k,k ∈ B1 pb po L → H.length ≤ k := h.ge;refine ⟨by rw [aB];exact hl,?_,by rw [eC,aB];omega,fun k hk => by rw [eX (by omega),fU (by omega)];exact h.fr k hk,?_,?_,fun e he => ?_,?_,fun k hk => ?_⟩
  · rw [dI,aB,bZ,bB (by simpa using hl),h.eq];simp
  · exact fO hnd.1.1 (bL h.b)
  · rw [gE (by simp;omega)]
    congr 2;rw [Nat.zero_add,bN,FR (by simp) (by rw [Ne,List.drop_eq_nil_iff];simp;omega),IY,dI,aB,bZ]
    simp
  · rcases bH.1 he with he | he
    · refine (h.n e he).frame fun k hk => ?_
      have hm : k ∈ L.flatMap (·.2.2) := eS.2 ⟨e,he,hk⟩;rw [eX (fun e1 : k = po => hnd.2.1 (e1 ▸ hm)),fU (hlt k hm)]
    · rw [bK.1 he];exact hn.frame fun k hk => eX (by have := hB k hk;omega)
  · rw [gR];simp only [gX,mH,List.append_nil,aP,aT,not_or,bH,fB];refine ⟨⟨hnd.1.1,hnd.1.2,fun hm => by have := hB _ hm;omega⟩,⟨hnd.2.1,fun hm => by have := hB _ hm;omega⟩,hnd.2.2,hn.nd,fun a ha b hb e1 => ?_⟩
    have := hlt a ha;have := hB b hb;omega
  · rcases aT.1 hk with rfl | hk
    · exact hg _ (by simp)
    rcases aT.1 hk with rfl | hk
    · exact hpo
    rw [gR] at hk;rcases bH.1 hk with hk | hk
    · exact hg k (aF _ (aF _ hk))
    · simp only [gX,mH,List.append_nil] at hk;have := hB k hk;omega
theorem GQ : ∀ {L : OL}, (∀ e, e ∈ L → e.2.1 = .nils ∨ ∃ p m, e.2.1 = .sl p 0 m 1) → (L.map fun e => iT e.1 e.2.1).flatten.all AV.one = true
  | [],_ => rfl
  | e :: L,h => by
    have ih := GQ fun e he => h e (aF _ he);obtain ⟨o,x,A⟩ := e;rcases h _ aL with h1 | ⟨p,m,h1⟩
    · dsimp only at h1;subst h1;exact ih
    · dsimp only at h1;subst h1;exact ih
def ZU (H : Hp) (bk : Bk) (r : AV) (o : Hp) : Prop := ∃ pb A,r = .ptr pb 0 ∧ zR o pb bk A ∧ (∀ k,k ∈ A → H.length ≤ k) ∧ H.length ≤ o.length ∧ ∀ k,k < H.length → o[k]? = H[k]?
theorem ZB.fin {H : Hp} {L0 : OL} {pb po : Nat} {L : OL} {X : Hp} (h : ZB H L0 pb po L X) (hl : ¬ L.length < L0.length) : ZU H (L0.map (·.1)) (.ptr pb 0) X := by
  have hkl := h.kl;have heq := h.eq;have ho := h.o;rw [aQ (by simp;omega)] at heq
  rw [dH (by simp;omega),List.append_nil] at ho
  have hll : L.length = L0.length := by omega
  exact ⟨pb,_,rfl,⟨po,L,⟨by rw [hll];exact h.b,ho,h.n,h.nd⟩,heq.symm,rfl⟩,h.ge,h.le,h.fr⟩
theorem QH.rf {tk : List (List Tk)} {r : AV} {o : Hp} (h : QH tk r o) : r.rf = true ∧ ∀ b,b ∈ o → b.rf = true := by
  obtain ⟨N,rfl,_,_,_,_,_,h7⟩ := h;exact ⟨rfl,h7⟩
theorem QH.nest {tk : List (List Tk)} {r : AV} {o : Hp} (h : QH tk r o) (X : Hp) : ∃ B,mU (X ++ o.map (AB.map (· + X.length))) (.sl (0 + X.length) 0 tk.length 1) tk B ∧ ∀ k,k ∈ B → X.length ≤ k := by
  obtain ⟨N,h1,h2,h3,h4,h5,h6,_⟩ := h;have hn : mU o (.sl 0 0 N.length 1) tk (0 :: N.map (·.1)) := .inr ⟨0,N,rfl,h4,h5,h3,rfl,h6⟩;have hs := hn.shift (H := X);rw [h2] at hs;exact ⟨_,hs,fun k hk => by obtain ⟨m,_,rfl⟩ := aK.1 hk;omega⟩
end Go.Or
namespace Go.Proofs.YtdfmhddmddgniaaGreatDoor
open Go Go.Ab Go.Or
attribute [local irreducible] VC AW bJ bI eO
set_option maxHeartbeats 4000000
theorem IG (tk : List (List Tk)) (h1 : tk.length ≤ 1000000) (h2 : ∀ l,l ∈ tk → l.length ≤ 1000000) : eO Tryz.prog 59 [mA tk] [] (QH tk) := by
  have hcl := LH tk h1;have hll := kD tk;refine jS T Tryz.func59 rfl rfl rfl rfl ?_
  (repeat' (first|refine wS ?_|refine wB ?_|(refine rg 0 (aV ?_))|(refine rg 1 (mW rfl (dQ (by exact uF rfl rfl hcl (.inr ⟨rfl,rfl,by simp⟩)) rfl ?_));refine aV ?_)|(refine rg 2 (mW rfl (qW T rfl (mV ?_))))|refine nZ ?_));refine lK (X := {x : List (Nat × List Tk) × Hp // JA tk x.1 x.2}) (fun x => [(3, .sl 0 0 tk.length 1), (8, .i tk.length), (9, .i x.1.1.length)]) (fun x => x.1.2) (fun x => tk.length - x.1.1.length) ⟨([], [.arr (xK tk) 1]), ⟨bG _, rfl, rfl, fun e he => (nomatch he), by simp, fun k b hb hk => (by cases k with
    | zero => exact absurd rfl hk
    | succ k => simp at hb)⟩⟩ (mP.of (by show [AB.arr ((xK tk).map (AV.mapL _)) 1] = _;rw [jI _ (C6 _)]) (by repeat first|exact trivial|refine ⟨rfl,?_⟩)) ?_
  rintro ⟨⟨N,X⟩,hI⟩;dsimp only at hI ⊢;by_cases hlt : N.length < tk.length
  · have hg := hI.get hlt;have nx := hI.next hlt
    have h0 : 0 < X.length := (aA.1 hI.ho).1;have hct := PP tk[N.length] (h2 _ (aH hlt));have hX0 := hI.ho;generalize tk[N.length] = l at *
    (repeat' (first|refine wS ?_|refine wB ?_|refine wK ?_|(refine wC rfl ?_ ?_<;>(intro hb;(try simp only [nm] at hb);try (exfalso;omega)))|(refine rg 3 (vV (bE rfl rfl) ?_))|(refine rg 4 (mW rfl (aV ?_)))|(refine rg 5 (dS rfl (dS rfl (vV (by exact bQ T rfl rfl rfl rfl rfl (by omega) (by omega)) ?_)));refine vV (by exact aX T rfl rfl (eJ hX0 hg) rfl) ?_;refine dQ (by exact uF rfl rfl hct (.inr ⟨rfl,rfl,by simp⟩)) rfl ?_;refine vV (by exact bQ T rfl rfl rfl rfl rfl (by omega) (by omega)) ?_;refine bA T rfl rfl rfl rfl rfl rfl (by decide) (lT (bL hX0) hg rfl rfl) ?_)|(refine rg 6 (vV (eD rfl rfl (by omega) (by omega)) (mV ?_)))|refine nZ ?_));all_goals try (exfalso;omega)
    all_goals exact ⟨⟨(_,_),nx⟩,by dsimp only;rw [aB,bZ];omega,mP.of (by
      show List.set (X ++ [AB.arr ((eZ l).map (AV.mapL _)) 2]) 0 (AB.arr (List.set (nH N ++ (xK tk).drop N.length) (0 + (N.length : Int).toNat) [AV.sl (0 + X.length) 0 l.length 2]) 1) = _
      rw [jI _ (oF _),Nat.zero_add X.length]) (by dsimp only;rw [aB];(repeat (first | exact trivial | refine ⟨rfl,?_⟩)))⟩
  · (repeat' (first|refine wS ?_|refine wR ?_|refine wE ?_|(refine wC rfl (fun hb => ?_) (fun hb => ?_) <;> (((try simp only [nm] at hb);try (exfalso;omega))))|(refine rg 3 (vV (bE rfl rfl) ?_))|(refine rg 7 (mW rfl (aV ?_)))|(refine nZ ?_)));all_goals first | (exfalso;omega) | exact ⟨.inl rfl,_,rfl,hI.fin hlt⟩
theorem LJ {H : Hp} {po n : Nat} {es : List (List AV)} (hpo : H[po]? = some (.arr es 4)) (hn : n = es.length) (h1 : es.flatten.all AV.one = true) (hl : n ≤ 1000000) :
    eO Tryz.prog 98 [.sl po 0 n 4] H (fun r o => ∃ k Z,r = .sl k 0 n 4 ∧ o = H ++ Z ∧ o[k]? = some (.arr es 4) ∧ H.length ≤ k) := by
  refine jS T Tryz.func98 rfl rfl rfl rfl ?_
  repeat' (first|refine wS ?_|refine wK ?_|refine wT ?_|refine wU ?_|(refine rg 0 (aV ?_))|(refine rg 1 (mV ?_);refine NT T rfl rfl rfl rfl fun b hb=>?_;cases b)|refine nZ ?_)
  · (repeat' (first|refine wR ?_|(refine rg 3 (dQ (by exact bO T rfl rfl (by decide) (by decide) rfl rfl rfl) rfl ?_);refine mW rfl (fH T rfl rfl rfl rfl rfl bY (by decide) (jA.whole (bL hpo) hn) h1 (by simp;omega) (by simp;omega) rfl ?_);refine aV ?_)|(refine nZ ?_)));all_goals exact ⟨.inl rfl,_,rfl,H.length + 1,[.gone,.arr es 4],by show AV.sl (H ++ [_]).length 0 (0 + es.length) 4 = _;rw [aB,bZ,Nat.zero_add,hn],by rw [jR,aY];rfl,by
      have e1 : (H.length + 1) = ((H ++ [AB.arr [] 4]).set H.length .gone).length := by simp
      rw [e1];exact bY,IW _⟩
  · have hl0 : es = [] := iR.1 (Classical.byContradiction fun h => by have := hb (by omega);cases this)
    subst hl0;subst hn
    (repeat' (first|refine wR ?_|(refine rg 2 (vV (jJ rfl) (Q6 2 4 rfl (by decide) ?_)))|refine nZ ?_));all_goals exact ⟨.inl rfl,_,rfl,H.length,[.arr [] 4],rfl,rfl,bY,aU _⟩
theorem zE7 {H : Hp} {pb : Nat} {bk : Bk} {A : List Nat} (hB : zR H pb bk A) (hl : bk.length ≤ 1000000) (h1 : ∀ o,o ∈ bk → o.tk.length ≤ 1000000 ∧ ∀ l,l ∈ o.tk → l.length ≤ 1000000) (hw : ∀ o,o ∈ bk → o.ws.length ≤ 1000000) : eO Tryz.prog 43 [.ptr pb 0] H (ZU H bk) := by
  obtain ⟨po,L0,h,rfl,rfl⟩ := hB;rw [bF] at hl;have hcl := LJ (n := L0.length) h.o (by simp) (GQ fun e he => (h.n e he).form) hl
  have hbk := h.b;refine jS T Tryz.func43 rfl rfl rfl rfl ?_
  (repeat' (first|refine wS ?_|refine wB ?_|(refine rg 0 (aV ?_))|(refine rg 1 (mW rfl (nV ?_));refine fW T rfl (vV (by exact aX T rfl rfl (bW hbk) rfl) ?_);refine eU rfl rfl hcl rfl ?_;rintro _ _ ⟨kk,Z,rfl,rfl,hko,hkl⟩;dsimp only [fR];refine vV (by exact gS T rfl rfl rfl rfl) ?_;refine dQ (fE rfl rfl) rfl (aV ?_))|(refine rg 2 (mW rfl (nV ?_));refine fW T rfl (vV (by exact aX T rfl rfl (bW bY) rfl) ?_);refine qW T rfl (mV ?_))|refine nZ ?_));have hkz : kk < (H ++ Z).length := (aA.1 hko).1
  have st : ZB H L0 (H ++ Z).length kk [] (H ++ Z ++ [.cells [.sl kk 0 L0.length 4]]) := ⟨bG _,rfl,by rw [aB,aB];omega,fun k hk => by rw [fU (by rw [aB];omega),fU hk],bY,bL hko,fun e he => (nomatch he),aP.2 ⟨by simp only [mH,bK];omega,by simp⟩,fun k hk => by
    simp only [mH,aT,cG,or_false] at hk;rcases hk with rfl | rfl
    · rw [aB];omega
    · exact hkl⟩
  generalize (H ++ Z).length = pb1 at *;generalize hX0e : H ++ Z ++ [AB.cells [.sl kk 0 L0.length 4]] = X0 at *;clear hcl hko hkz hbk;refine lK (X := {x : OL × Hp // ZB H L0 pb1 kk x.1 x.2}) (fun x => [(3,.ptr pb1 0),(17,.i L0.length),(18,.i x.1.1.length)]) (fun x => x.1.2) (fun x => L0.length - x.1.1.length) ⟨([],X0),st⟩ (mP.of hX0e (by repeat first|exact trivial|refine ⟨rfl,?_⟩)) ?_
  clear st;rintro ⟨⟨L,X⟩,hI⟩;dsimp only at hI ⊢;by_cases hlt : L.length < L0.length
  · have hg := hI.get hlt;have nx := fun {Z : Hp} {x : AV} {B : List Nat} => hI.next (Z := Z) (x := x) (B := B) hlt
    have h0 : kk < X.length := (aA.1 hI.o).1;have hmL := aH hlt;have hm : L0[L.length].1 ∈ L0.map (·.1) := aK.2 ⟨_,hmL,rfl⟩;have hcw := zK L0[L.length].1.ws (hw _ hm);have hct := IG L0[L.length].1.tk (h1 _ hm).1 (h1 _ hm).2;have hvx := ((h.n _ hmL).frame (H' := X) fun k hk => hI.fr k ((h.n _ hmL).lt k hk)).view;have hfo := (h.n _ hmL).form;have hX0 := hI.o;have hX1 := hI.b;generalize L0[L.length] = e at *;obtain ⟨o,x0,A0⟩ := e;dsimp only at hg nx hcw hct hvx hfo
    (repeat' (first|refine wS ?_|refine wB ?_|refine wK ?_|(refine wC rfl ?_ ?_<;>(intro hb;(try simp only [nm] at hb);try (exfalso;omega)))|(refine rg 3 (vV (bE rfl rfl) ?_))|(refine rg 4 (mW rfl (aV ?_)))|(refine rg 5 (mW rfl (nV ?_));refine fW T rfl (vV (by exact aX T rfl rfl (bW hX1) rfl) ?_);refine mW rfl (vV (by exact bQ T rfl rfl rfl rfl rfl (by omega) (by omega)) ?_);refine aV ?_)|refine nZ ?_));all_goals try (exfalso;omega)
    have hS := fun {Z : Hp} {a : List AV} => (gE (by rw [aB];omega) : ((X ++ Z).set kk (.arr (((L.map fun e => iT e.1 e.2.1) ++ (L0.map fun e => iT e.1 e.2.1).drop L.length).set (0 + (L.length : Int).toNat) a) 4))[kk]? = _)
    have hG := fun {a : List AV} => (show (((L.map fun e => iT e.1 e.2.1) ++ (L0.map fun e => iT e.1 e.2.1).drop L.length).set (0 + (L.length : Int).toNat) a)[0 + (L.length : Int).toNat]? = some a by rw [dY (aA.1 hg).1])
    rcases hfo with rfl | ⟨px,mx,rfl⟩
    all_goals
     refine IL (id := 6) dZ ?_;refine rL 0 rfl rfl (by decide +kernel) (by decide +kernel) (by decide +kernel) (by exact tZ rfl) rfl ?_
     refine rL 1 rfl rfl (by decide +kernel) (by decide +kernel) (by decide +kernel) (by exact tZ rfl) rfl ?_
     refine rL 2 rfl rfl (by decide +kernel) (by decide +kernel) (by decide +kernel) (by exact tZ rfl) rfl ?_
     refine rL 3 rfl rfl (by decide +kernel) (by decide +kernel) (by decide +kernel) (by exact xU rfl rfl) rfl ?_
     refine rL 4 rfl rfl (by decide +kernel) (by decide +kernel) (by decide +kernel) (by exact pP T rfl rfl rfl) rfl ?_
     refine rL 5 rfl rfl (by decide +kernel) (by decide +kernel) (by decide +kernel) (by exact pP T rfl rfl rfl) rfl ?_
     refine rL 8 rfl rfl (by decide +kernel) (by decide +kernel) (by decide +kernel) (by exact tZ rfl) rfl ?_
     refine rL 9 rfl rfl (by decide +kernel) (by decide +kernel) (by decide +kernel) (by exact xU rfl rfl) rfl ?_
     refine rL 10 rfl rfl (by decide +kernel) (by decide +kernel) (by decide +kernel) (by exact pP T rfl rfl rfl) rfl ?_
     refine NM _ rfl [true,true,true,true,true,true,false,false,true,true,true,false,false,false,false,false,false,false,false,false] rfl rfl ?_
     (repeat' (first|(refine UZ rfl rfl rfl ?_ ?_<;>(((refine vV (by first|exact aX T rfl rfl (eJ hX0 hg) rfl|exact kX rfl rfl hcw (.cons (.row _ _ _) .nil) (gD _).symm (GD _) (N7 _)) ?_));refine uN ?_;dsimp only [List.set_cons_zero,List.set_cons_succ]))|(refine VA rfl rfl ?_;(first|(refine vV (by first|exact cO rfl rfl|exact eA T rfl rfl rfl|exact aX T rfl rfl (eJ hX0 hg) rfl|exact kX rfl rfl hcw (.cons (.row _ _ _) .nil) (gD _).symm (GD _) (N7 _)) ?_)|(refine AK rfl rfl hct (.cons hvx .nil) (fun _ _ hΦ=>hΦ.rf) rfl ?_;rintro res hout hΦ;have hΨ := hΦ.nest X;obtain ⟨_,rfl,_⟩ := hΦ;dsimp only [fR])|(refine bA T rfl rfl rfl rfl rfl rfl (by decide) (lT (bL hX0) hg rfl rfl) ?_)|(refine bA T rfl rfl rfl rfl rfl rfl (by decide) (lT hS hG rfl rfl) ?_));refine uN ?_;dsimp only [List.set_cons_zero,List.set_cons_succ])));all_goals refine CS rfl ?_
     all_goals
      obtain ⟨B,hn,hB⟩ := hΨ;refine jH [(3,.ptr pb1 0),(17,.i L0.length),(18,.i L.length)] ((X ++ hout.map (AB.map (· + X.length))).set kk (AB.arr (((L.map fun e => iT e.1 e.2.1) ++ (L0.map fun e => iT e.1 e.2.1).drop L.length).set (0 + (L.length : Int).toNat) (iT o (.sl (0 + X.length) 0 o.tk.length 1))) 4)) (mP.of (by rw [fG,fG];rfl) (by repeat first|exact trivial|refine ⟨rfl,?_⟩)) ?_
      (repeat' (first|(refine rg 7 (vV (eD rfl rfl (by omega) (by omega)) (mV ?_)))|refine nZ ?_));exact ⟨⟨(_,_),nx hn hB⟩,by dsimp only;rw [aB,bZ];omega,mP.of rfl (by dsimp only;rw [aB];(repeat (first | exact trivial | refine ⟨rfl,?_⟩)))⟩
  · (repeat' (first|refine wS ?_|refine wR ?_|refine wE ?_|(refine wC rfl (fun hb => ?_) (fun hb => ?_) <;> (((try simp only [nm] at hb);try (exfalso;omega))))|(refine rg 3 (vV (bE rfl rfl) ?_))|(refine rg 8 (mW rfl (aV ?_)))|(refine nZ ?_)));all_goals first | (exfalso;omega) | exact ⟨.inl rfl,_,rfl,hI.fin hlt⟩
end Go.Proofs.YtdfmhddmddgniaaGreatDoor
namespace Go.Wr
open Go Go.Ab Go.Lib
theorem OQ (r : List UInt8) : ∀ u : Nat,u ≤ 9223372036854775808 → parseUint10 0 (decDigits u ++ r) = parseUint10 u r := by
  intro u
  induction u using Nat.strongRecOn generalizing r with
  | _ u ih =>
    intro hu;rw [decDigits];split
    · rename_i h;have e : (UInt8.ofNat (48 + u)).toNat = 48 + u := by simp;omega
      rw [xE];rw [parseUint10,e,if_pos (by omega),if_neg (by omega),if_neg (by omega)]
      congr 1;omega
    · rename_i h;have e : (UInt8.ofNat (48 + u % 10)).toNat = 48 + u % 10 := by simp;omega
      rw [aY,ih (u / 10) (by omega) _ (by omega),xE]
      rw [parseUint10,e,if_pos (by omega),if_neg (by omega),if_neg (by omega)]
      congr 1;omega
theorem EE (u : Nat) : decDigits u ≠ [] := by
  rw [decDigits];split <;> simp
theorem zJ : ∀ u : Nat,∀ c,c ∈ decDigits u → 48 ≤ c.toNat ∧ c.toNat ≤ 57 := by
  intro u
  induction u using Nat.strongRecOn with
  | _ u ih =>
    intro c hc;rw [decDigits] at hc;split at hc
    · rw [bK] at hc;subst hc;have e : (UInt8.ofNat (48 + u)).toNat = 48 + u := by simp;omega
      omega
    · rcases bH.1 hc with hc | hc
      · exact ih _ (by omega) c hc
      · rw [bK] at hc;subst hc;have e : (UInt8.ofNat (48 + u % 10)).toNat = 48 + u % 10 := by simp;omega
        omega
theorem MR {u : Nat} (hu : u ≤ 9223372036854775808) : parseMag (decDigits u) = .ok u := by
  have := OQ [] u hu;rw [List.append_nil] at this;unfold parseMag;rw [if_neg (EE u),this];rfl
theorem CP {n : Int} (h : -9223372036854775808 ≤ n ∧ n ≤ 9223372036854775807) : atoiAll (itoa n) = .ok n := by
  unfold itoa;split
  · rw [atoiAll_minus,MR (by omega)]
    unfold signed;dsimp only;rw [if_neg (by omega)]
    congr 1;omega
  · have hm := MR (u := n.toNat) (by omega)
    cases hd : decDigits n.toNat with
    | nil => exact absurd hd (EE _)
    | cons c r =>
      have hc := zJ n.toNat c (by rw [hd];simp)
      rw [hd] at hm;rw [atoiAll_plain c r (by omega) (by omega),hm]
      unfold signless;dsimp only;rw [if_neg (by omega)]
      congr 1;omega
theorem KR {n : Int} {c : UInt8} (h : c ∈ itoa n) : c.toNat = 45 ∨ (48 ≤ c.toNat ∧ c.toNat ≤ 57) := by
  unfold itoa at h;split at h
  · rcases aT.1 h with h | h
    · subst h;exact .inl rfl
    · exact .inr (zJ _ _ h)
  · exact .inr (zJ _ _ h)
theorem uC : ∀ (k u : Nat), u < 10 ^ (k + 1) → nDigits u ≤ k + 1
  | 0,u,h => by rw [nDigits_small (by simpa using h)];exact aU _
  | k + 1,u,h => by
    by_cases hu : u < 10
    · rw [nDigits_small hu];omega
    · rw [nDigits_big hu];have := uC k (u / 10) (by rw [Nat.div_lt_iff_lt_mul (by decide)];rw [Nat.pow_succ] at h;exact h)
      omega
theorem zG {n : Int} (h : -9223372036854775808 ≤ n ∧ n ≤ 9223372036854775807) : (itoa n).length ≤ 20 := by
  have hp : (10 : Nat) ^ (18 + 1) = 10000000000000000000 := by decide
  unfold itoa;split
  · rw [List.length_cons,decDigits_length];have := uC 18 n.natAbs (by omega)
    omega
  · rw [decDigits_length];have := uC 18 n.toNat (by omega)
    omega
theorem XT (n : Int) : itoa n ≠ [] := by
  unfold itoa;split
  · simp
  · exact EE _
theorem HC {a b : List UInt8} {e : UInt8} (h : e ∉ a) : indexByte (a ++ e :: b) e = a.length := by
  induction a with
  | nil => simp [indexByte]
  | cons c a ih =>
    simp only [aT,not_or] at h;have h1 := ih h.2;show indexByte (c :: (a ++ e :: b)) e = _;unfold indexByte;rw [if_neg (by simpa using fun q => h.1 q.symm),h1,if_neg (by simp)]
    simp
theorem N1 {l : List UInt8} {e : UInt8} (h : 0 ≤ indexByte l e) : l = l.take (indexByte l e).toNat ++ e :: l.drop ((indexByte l e).toNat + 1) ∧ (indexByte l e).toNat < l.length := by
  obtain ⟨h1,h2⟩ := indexByte_some (l := l) (c := e) (o := (indexByte l e).toNat) (by omega)
  obtain ⟨h3,h4⟩ := aA.1 h1;refine ⟨?_,h3⟩
  conv => lhs;rw [← cI (indexByte l e).toNat l]
  rw [aO h3,h4]
def oN (r : List UInt8) (e : UInt8) (lo : Int) : Option (Int × List UInt8) :=
  if indexByte (r.take 21) e < 0 then none else
  match atoiAll (r.take (indexByte (r.take 21) e).toNat) with
  | .ok n => if itoa n = r.take (indexByte (r.take 21) e).toNat ∧ lo ≤ n then some (n,r.drop ((indexByte (r.take 21) e).toNat + 1)) else none
  | _ => none
theorem F5 {r : List UInt8} {e : UInt8} (h : 0 ≤ indexByte (r.take 21) e) : (indexByte (r.take 21) e).toNat < r.length ∧ (indexByte (r.take 21) e).toNat < 21 := by
  have := (N1 h).2;rw [bT] at this;omega
theorem pI {r r' : List UInt8} {e : UInt8} {lo n : Int} (h : oN r e lo = some (n,r')) : r = itoa n ++ e :: r' ∧ lo ≤ n ∧ -9223372036854775808 ≤ n ∧ n ≤ 9223372036854775807 := by
  unfold oN at h;split at h
  · cases h
  · rename_i h0;have hs := N1 (AI.1 h0);have hi := F5 (AI.1 h0);split at h
    · rename_i n' ha;split at h
      · rename_i hc;simp only [Option.some.injEq,Prod.mk.injEq] at h;obtain ⟨rfl,rfl⟩ := h;have hb := atoiAll_bounds ha;refine ⟨?_,hc.2,hb.1,hb.2⟩;rw [hc.1];generalize indexByte (r.take 21) e = k at *;have h3 : (r.take 21)[k.toNat]? = some e := by
          rw [hs.1,aE (by rw [bT,bT];omega)]
          simp [bT];rw [show k.toNat - min k.toNat (min 21 r.length) = 0 by omega]
          rfl
        rw [bS,if_pos hi.2] at h3;obtain ⟨h4,h5⟩ := aA.1 h3
        conv => lhs;rw [← cI k.toNat r]
        rw [aO h4,h5]
      · cases h
    · cases h
theorem E5 {r' : List UInt8} {e : UInt8} {lo n : Int} (h : -9223372036854775808 ≤ n ∧ n ≤ 9223372036854775807) (hl : lo ≤ n) (he : e.toNat ≠ 45 ∧ (e.toNat < 48 ∨ 57 < e.toNat)) : oN (itoa n ++ e :: r') e lo = some (n,r') := by
  have hni : e ∉ itoa n := fun hm => by have := KR hm;omega
  have h20 := zG h;have hi : indexByte ((itoa n ++ e :: r').take 21) e = (itoa n).length := by
    rw [jX,show 21 - (itoa n).length = (20 - (itoa n).length) + 1 by omega,sA,aQ (by omega)]
    exact HC hni
  unfold oN;rw [hi,if_neg (by omega),bN,List.take_left,CP h]
  dsimp only;rw [if_pos ⟨rfl,hl⟩,List.drop_append,dH (by omega)]
  simp
theorem T8 (e : UInt8) (lo : Int) : oN [] e lo = none := by
  unfold oN;simp [indexByte]
theorem SM {r r' : List UInt8} {e : UInt8} {lo n : Int} (h : oN r e lo = some (n,r')) : r'.length + 2 ≤ r.length := by
  have h1 := (pI h).1;have h2 := XT n;rw [h1,aB,List.length_cons];have : 0 < (itoa n).length := jK.2 h2;omega
abbrev St := Option (List UInt8)
abbrev A7 (s : St) : Hp := [.cells [.s (s.getD []),.b s.isNone]]
def fI (s : St) (e : UInt8) (lo : Int) : Int × St := match oN (s.getD []) e lo with
  | some (n,r) => if s.isNone then (0,none) else (n,some r)
  | none => (0,none)
theorem vK (e : UInt8) (lo : Int) : fI none e lo = (0,none) := by unfold fI;rw [show (none : St).getD [] = [] from rfl,T8]
def cE (s : St) : Int × St := fI s 59 (-9223372036854775808)
theorem nI (s : St) (e : UInt8) (lo : Int) : -9223372036854775808 ≤ (fI s e lo).1 ∧ (fI s e lo).1 ≤ 9223372036854775807 := by
  unfold fI;split
  · rename_i n r h;have := pI h;split <;> simp <;> omega
  · simp
theorem qM {r : List UInt8} {e : UInt8} {lo n : Int} {r' : List UInt8} (h : oN r e lo = some (n,r')) : fI (some r) e lo = (n,some r') := by
  unfold fI;rw [show (some r : St).getD [] = r from rfl,h]
  rfl
theorem sE {r : List UInt8} {e : UInt8} {lo : Int} (h : oN r e lo = none) : fI (some r) e lo = (0,none) := by
  unfold fI;rw [show (some r : St).getD [] = r from rfl,h]
theorem xY {s : St} {e : UInt8} {lo : Int} {r : List UInt8} (h : (fI s e lo).2 = some r) : ∃ r0,s = some r0 ∧ oN r0 e lo = some ((fI s e lo).1,r) ∧ r.length + 2 ≤ r0.length := by
  cases s with
  | none => rw [vK] at h;cases h
  | some r0 =>
    cases hp : oN r0 e lo with
    | none => rw [sE hp] at h;cases h
    | some p =>
      obtain ⟨n,r'⟩ := p;rw [qM hp] at h ⊢;cases h;exact ⟨r0,rfl,hp,SM hp⟩
theorem nT (s : St) (e : UInt8) (lo : Int) : ((fI s e lo).2.getD []).length ≤ (s.getD []).length := by
  cases h : (fI s e lo).2 with
  | none => simp
  | some r =>
    obtain ⟨r0,rfl,_,h3⟩ := xY h;simp;omega
end Go.Wr
