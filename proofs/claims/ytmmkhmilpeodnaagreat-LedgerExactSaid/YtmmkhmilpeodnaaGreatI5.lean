/-
  Texts of the logic and of the layer,in one module (part 5).
-/
import Derived.Test.YtmmkhmilpeodnaaGreatI4
import Derived.Lib.SlicesDelete
import Derived.Deep.RegionLaw
import Derived.Sort.EncStr
import Derived.Shelf.RegionOpenPlain
import Derived.Deep.LoopGhost
import Derived.Lib.Walk
import Derived.Sort.WalkB12
import Derived.Shelf.Slices.Delete
import Derived.Ground.Names2Prog
set_option linter.unusedVariables false
set_option linter.unusedSimpArgs false
set_option linter.unnecessarySimpa false
namespace Go.Proofs.YtmmkhmilpeodnaaGreat
open Go Go.Ab Go.Ld
attribute [local irreducible] VC AW bX aR
set_option maxHeartbeats 4000000
theorem zZ2 {a b : List SP} {k : Nat} (h1 : k < a.length) (h2 : k < b.length) : cB (a.drop k) (b.drop k) = Q9 (cS a[k] b[k]) (cB (a.drop (k + 1)) (b.drop (k + 1))) := by
  rw [aX h1,aX h2];rfl
theorem zM3 {a b : List SP} {k : Nat} (h1 : k < a.length) (h2 : k = b.length) : cB (a.drop k) (b.drop k) = 1 := by
  rw [aX h1,cY (l := b) (by omega)];rfl
theorem zM2 {a b : List SP} {k : Nat} (h1 : k = a.length) (h2 : k < b.length) : cB (a.drop k) (b.drop k) = -1 := by
  rw [cY (l := a) (by omega),aX h2];rfl
theorem zM1 {a b : List SP} {k : Nat} (h1 : k = a.length) (h2 : k = b.length) : cB (a.drop k) (b.drop k) = 0 := by
  rw [cY (l := a) (by omega),cY (l := b) (by omega)];rfl
abbrev zX5 : AV := .clo (.func 135) [] []
theorem MT (a b : List SP) (ha : a.length ≤ 9223372036854775807) (hb : b.length ≤ 9223372036854775807) : aR Tryz.prog 134 [.rowE (fA a) 2,.rowE (fA b) 2,zX5] [] (.i (cB a b)) [] := by
  have hla : (fA a).length = a.length := by simp
  have hlb : (fA b).length = b.length := by simp
  refine bO T Tryz.func134 rfl rfl rfl rfl ?_
  (repeat' (first|refine wS ?_|refine wB ?_|refine wE ?_|(refine rg 0 (aV ?_))|(refine rg 1 (mW rfl (qW T rfl (mV ?_))))|refine nZ ?_));refine cN (X := {k : Nat // k ≤ a.length ∧ k ≤ b.length ∧ cB a b = cB (a.drop k) (b.drop k)}) (fun k => [(0,.rowE (fA a) 2),(1,.rowE (fA b) 2),(2,zX5),(11,.rowE (fA a) 2),(12,.i (fA a).length),(13,.i k.1)]) (fun _ => []) (fun k => a.length - k.1) ⟨0,by omega,by omega,rfl⟩ (eA []) ?_
  rintro ⟨k,hk,hkb,he⟩;dsimp only;by_cases h1 : k < a.length
  · have g1 := CU h1;by_cases h2 : k < b.length
    · have g2 := CU h2;have e1 := zZ2 h1 h2;have hc := WX a[k] b[k];generalize a[k] = x at *;generalize b[k] = y at *;by_cases h0 : cS x y = 0
      · rw [h0] at hc e1;rw [WY] at e1
        (repeat' (first|refine wS ?_|refine wB ?_|refine wK ?_|refine wU ?_|(refine wC rfl ?_ ?_<;>(intro hb;(try simp only [nm] at hb);try (exfalso;omega)))|(refine rg 2 (vV (aL rfl rfl) ?_))|(refine rg 3 (mW rfl (vV (ix T rfl (by omega) (jI a) g1) (lW T rfl (bQ (bT T rfl) rfl (aW rfl (aU T rfl rfl rfl rfl rfl rfl (by decide) rfl ?_)))))))|(refine rg 4 (dK rfl (qW T rfl (vV (jX rfl rfl) ?_))))|(refine rg 6 (dK rfl (vV (ix T rfl (by omega) (jI b) g2) (lW T rfl (bQ (bT T rfl) rfl (aU T rfl rfl rfl rfl rfl rfl (by decide) rfl ?_))))))|(refine rg 7 (mW rfl (lW T rfl (lW T rfl (vV (kC (hc)) (aV ?_))))))|(refine rg 8 (mW rfl (vV (fG rfl rfl) ?_)))|(refine rg 10 (vV (bV rfl rfl (by omega) (by omega)) (mV ?_)))|refine nZ ?_));all_goals first | (exfalso;omega) | exact ⟨⟨k + 1,by omega,by omega,he.trans e1⟩,by dsimp only;omega,eA []⟩
      · rw [MF h0] at e1;generalize cS x y = q at *
        (repeat' (first|refine wS ?_|refine wB ?_|refine wK ?_|refine wR ?_|(refine wC rfl ?_ ?_<;>(intro hb;(try simp only [nm] at hb);try (exfalso;omega)))|(refine rg 2 (vV (aL rfl rfl) ?_))|(refine rg 3 (mW rfl (vV (ix T rfl (by omega) (jI a) g1) (lW T rfl (bQ (bT T rfl) rfl (aW rfl (aU T rfl rfl rfl rfl rfl rfl (by decide) rfl ?_)))))))|(refine rg 4 (dK rfl (qW T rfl (vV (jX rfl rfl) ?_))))|(refine rg 6 (dK rfl (vV (ix T rfl (by omega) (jI b) g2) (lW T rfl (bQ (bT T rfl) rfl (aU T rfl rfl rfl rfl rfl rfl (by decide) rfl ?_))))))|(refine rg 7 (mW rfl (lW T rfl (lW T rfl (vV (kC (hc)) (aV ?_))))))|(refine rg 8 (mW rfl (vV (fG rfl rfl) ?_)))|(refine rg 9 (mW rfl (aV ?_)))|refine nZ ?_));all_goals first | (exfalso;omega) | exact cX (.inl rfl) rfl (by rw [he,e1];rfl)
    · have e1 := zM3 h1 (show k = b.length by omega)
      (repeat' (first|refine wS ?_|refine wB ?_|refine wK ?_|refine wR ?_|(refine wC rfl ?_ ?_<;>(intro hb;(try simp only [nm] at hb);try (exfalso;omega)))|(refine rg 2 (vV (aL rfl rfl) ?_))|(refine rg 3 (mW rfl (vV (ix T rfl (by omega) (jI a) g1) (lW T rfl (bQ (bT T rfl) rfl (aW rfl (aU T rfl rfl rfl rfl rfl rfl (by decide) rfl ?_)))))))|(refine rg 4 (dK rfl (qW T rfl (vV (jX rfl rfl) ?_))))|(refine rg 5 (aV ?_))|refine nZ ?_));all_goals first | (exfalso;omega) | exact cX (.inl rfl) rfl (by rw [he,e1];rfl)
  · by_cases h2 : k < b.length
    · have e1 := zM2 (show k = a.length by omega) h2
      (repeat' (first|refine wS ?_|refine wR ?_|refine wE ?_|(refine wC rfl ?_ ?_<;>(intro hb;(try simp only [nm] at hb);try (exfalso;omega)))|(refine rg 2 (vV (aL rfl rfl) ?_))|(refine rg 11 (mW rfl (qW T rfl (mW rfl (qW T rfl (vV (aL rfl rfl) ?_))))))|(refine rg 12 (aV ?_))|refine nZ ?_));all_goals first | (exfalso;omega) | exact cX (.inl rfl) rfl (by rw [he,e1];rfl)
    · have e1 := zM1 (show k = a.length by omega) (show k = b.length by omega)
      (repeat' (first|refine wS ?_|refine wK ?_|refine wR ?_|refine wE ?_|(refine wC rfl ?_ ?_<;>(intro hb;(try simp only [nm] at hb);try (exfalso;omega)))|(refine rg 2 (vV (aL rfl rfl) ?_))|(refine rg 11 (mW rfl (qW T rfl (mW rfl (qW T rfl (vV (aL rfl rfl) ?_))))))|(refine rg 13 (aV ?_))|refine nZ ?_));all_goals first | (exfalso;omega) | exact cX (.inl rfl) rfl (by rw [he,e1];rfl)
abbrev LJ (w : W) : AV := .agg (wA w)
def M7 (w : W) : Prop := w.1.length ≤ 1000000 ∧ w.2.2.length ≤ 1000000
theorem OP (a b : W) (ha : M7 a) (hb : M7 b) : aR Tryz.prog 99 [LJ a,LJ b] [] (.i (oR a b)) [] := by
  obtain ⟨p,m,c⟩ := a;obtain ⟨p',m',c'⟩ := b;unfold M7 at ha hb;dsimp only at ha hb;have h1 := TN p p' (by omega) (by omega)
  have h2 := MT c c' (by omega) (by omega)
  have e : oR (p,m,c) (p',m',c') = Q9 (cL p p') (cB c c') := rfl;rw [e];generalize cL p p' = x at *;generalize cB c c' = y at *;by_cases h0 : x = 0
  · subst h0;rw [WY];refine bO T Tryz.func99 rfl rfl rfl rfl ?_
    (repeat' (first|refine wS ?_|refine wK ?_|refine wR ?_|refine wU ?_|(refine rg 0 (bQ (cD rfl rfl) rfl (bQ (cD rfl rfl) rfl (aV ?_))))|(refine rg 1 (gH T rfl (gH T rfl (vV (kC (h1)) (aV ?_)))))|(refine rg 2 (mW rfl (vV (fG rfl rfl) ?_)))|(refine rg 4 (gH T rfl (gH T rfl (vV (kC (h2)) (aV ?_)))))|refine nZ ?_));all_goals first | (exfalso;omega) | exact rQ
  · rw [MF h0];refine bO T Tryz.func99 rfl rfl rfl rfl ?_
    (repeat' (first|refine wS ?_|refine wR ?_|(refine wC rfl ?_ ?_<;>(intro hb;(try simp only [nm] at hb);try (exfalso;omega)))|(refine rg 0 (bQ (cD rfl rfl) rfl (bQ (cD rfl rfl) rfl (aV ?_))))|(refine rg 1 (gH T rfl (gH T rfl (vV (kC (h1)) (aV ?_)))))|(refine rg 2 (mW rfl (vV (fG rfl rfl) ?_)))|(refine rg 3 (mW rfl (aV ?_)))|refine nZ ?_));all_goals first | (exfalso;omega) | exact rQ
theorem wW (a b : W) (ha : M7 a) (hb : M7 b) : aR Tryz.prog 97 [LJ a,LJ b] [] (.i (eM a b)) [] := by
  have h1 := OP a b ha hb;have h2 := EF a.2.1 b.2.1;have h3 := zX2 (oR a b) (cI a.2.1 b.2.1);refine bO T Tryz.func97 rfl rfl rfl rfl ?_
  (repeat' (first|refine wS ?_|refine wR ?_|(refine rg 0 (bQ (cD rfl rfl) rfl (bQ (cD rfl rfl) rfl (aV ?_))))|(refine bN (id := 1) 15 [[],[],[0,1],[],[3],[],[5],rN 7,rN 8,rN 9] (rM 5 10) [[],[5],[],[5,6,7],[5,6,7],rM 5 5,rM 5 5,[],[],[]] cJ rfl (by decide +kernel) (dO T rfl (dO T rfl (dV rfl (kC (h1)) (dP T rfl (dO T rfl (dP T rfl (dO T rfl (dV rfl (kC (h2)) (zT rfl rfl rfl (by exact bC T rfl rfl (by decide) (by decide) rfl rfl rfl) rfl ?_)))))))));refine dV rfl (by exact fB rfl rfl (h3) (by ((repeat (first|exact .nil|exact .v _|refine .cons ?_ ?_|refine .sl rfl (by simp) ?_));done)) rfl rfl) ?_;(all_goals (refine dE ?_;refine aV ?_)))|refine nZ ?_));all_goals first | (exfalso;omega) | exact rQ
theorem AA (a b : W) (ha : M7 a) (hb : M7 b) : aR Tryz.prog 102 [LJ a,LJ b] [] (.b (F2 a b)) [] := by
  have h1 := OP a b ha hb;refine bO T Tryz.func102 rfl rfl rfl rfl ?_
  (repeat' (first|refine wS ?_|refine wR ?_|(refine rg 0 (bQ (cD rfl rfl) rfl (bQ (cD rfl rfl) rfl (aV ?_))))|(refine rg 1 (lW T rfl (lW T rfl (vV (kC (h1)) (vV (dR rfl rfl) (aV ?_))))))|refine nZ ?_));all_goals first | (exfalso;omega) | exact rQ
end Go.Proofs.YtmmkhmilpeodnaaGreat
namespace Go.Ld
open Go.Ab Go.Proofs.YtmmkhmilpeodnaaGreat
theorem lU (l : List W) : ∀ e,e ∈ fQ l → e.length = 3 := by intro e he;obtain ⟨n,_,rfl⟩ := bE.1 he;rfl
theorem eV (l : List W) : (fQ l).length = l.length := bB _
theorem pG {L : List W} {j : Int} {i : Nat} {x : W} (h : L[i]? = some x) (e : j = i) : (fQ L)[0 + j.toNat]? = some (wA x) := by
  subst e;simp [h]
theorem wO {L : List W} {j : Int} {i : Nat} {x : W} (e : j = i) : (fQ L).set (0 + j.toNat) (wA x) = fQ (L.set i x) := by
  subst e;simp [fQ,pP]
theorem nM {α : Type} (A B : List α) (x : α) {n : Nat} (h : n = A.length) : (A ++ x :: B)[n]? = some x := by subst h;simp
theorem nW {α : Type} (A B : List α) (x y : α) {n : Nat} (h : n = A.length) : (A ++ x :: B).set n y = A ++ y :: B := by subst h;simp
abbrev Up (l : List W) : Prop := l.Pairwise (fun a b => eM a b ≤ 0)
theorem U8 {l : List W} (h : Up l) : dY eM l = l := (F8 jH (.refl _) h).symm
theorem I7 {l m : List W} (hp : m.Perm l) (h : Up m) : dY eM l = m := (F8 jH hp h).symm
theorem D1 {a b : W} (h : eM a b < 0) : eM a b ≤ 0 := by omega
theorem LQ {S1 S2 : List W} {x : W} (h : Up (S1 ++ S2)) (h1 : ∀ y,y ∈ S1 → eM y x ≤ 0) (h2 : ∀ y,y ∈ S2 → eM x y ≤ 0) : Up (S1 ++ x :: S2) := by
  obtain ⟨a,b,c⟩ := eX.1 h;refine eX.2 ⟨a,eR.2 ⟨h2,b⟩,fun p hp q hq => ?_⟩
  rcases bR.1 hq with rfl | hq
  · exact h1 p hp
  · exact c p hp q hq
theorem zP2 {A B : List W} (h1 : Up A) (h2 : Up B) (h3 : ∀ a b,a ∈ A → b ∈ B → eM a b ≤ 0) : Up (A ++ B) := eX.2 ⟨h1,h2,fun a ha b hb => h3 a b ha hb⟩
theorem NV {A : List W} {y : W} (h : Up (A ++ [y])) : ∀ z,z ∈ A ++ [y] → eM z y ≤ 0 := by
  intro z hz;obtain ⟨a,b,c⟩ := eX.1 h;rcases bI.1 hz with hz | hz
  · exact c z hz y (by simp)
  · rw [bK.1 hz,jH.rfl'];exact eP _
theorem zD6 {B : List W} {y : W} (h : Up (y :: B)) : ∀ z,z ∈ y :: B → eM y z ≤ 0 := by
  intro z hz;rcases bR.1 hz with rfl | hz
  · rw [jH.rfl'];exact eP _
  · exact (eR.1 h).1 z hz
theorem yA1 {a b : W} (h : ¬ eM a b < 0) : eM b a ≤ 0 := by have := jH.neg a b;omega
def UG (l : List W) (a b : Nat) : List W := l.take a ++ (dY eM ((l.drop a).take (b - a)) ++ l.drop b)
theorem iP {l : List W} : (dY eM l).length = l.length := (dD eM l).length_eq
theorem VI {l : List W} {a : Nat} (h : a ≤ l.length) : UG l a a = l := by unfold UG;simp [dY]
theorem zE8 {l : List W} {a : Nat} (h : a < l.length) : UG l a (a + 1) = l := by
  unfold UG;rw [show a + 1 - a = 1 by omega,aX h]
  simp only [oL,kQ,dY,CB];rw [List.singleton_append,← aX h,bL]
structure zO7 (l : List W) (a i : Nat) (x : W) (q : List W × List W) : Prop where
  eq : q.1 ++ q.2 = dY eM ((l.drop a).take (i - a))
  gt : ∀ y,y ∈ q.2 → eM x y < 0
def vY (l : List W) (a i : Nat) (x : W) (q : List W × List W) : List W := (l.take a ++ q.1) ++ x :: (q.2 ++ l.drop (i + 1))
theorem SR {l : List W} {a i : Nat} {x : W} (h1 : a < i) (h2 : i < l.length) (hx : l[i]? = some x) : zO7 l a i x (dY eM ((l.drop a).take (i - a)),[]) ∧ UG l a i = vY l a i x (dY eM ((l.drop a).take (i - a)),[]) := by
  refine ⟨⟨by simp,fun y hy => by cases hy⟩,?_⟩
  unfold UG vY;have : l.drop i = x :: l.drop (i + 1) := by
    rw [aA h2] at hx;rw [aX h2];cases hx;rfl
  simp [this]
theorem PG {l : List W} {a i : Nat} {x : W} {q : List W × List W} (h : zO7 l a i x q) (h1 : a < i) (h2 : i < l.length) : q.1.length + q.2.length = i - a := by
  have := congrArg List.length h.eq;simp only [aF,iP,bD,dJ] at this;omega
theorem XZ {l : List W} {a i : Nat} {x : W} {q : List W × List W} (h : zO7 l a i x q) (h1 : a < i) (h2 : i < l.length) : (vY l a i x q).length = l.length := by
  have := PG h h1 h2;unfold vY;simp only [aF,List.length_cons,bD,dJ];omega
theorem XW {l : List W} {a i : Nat} {x : W} {q : List W × List W} (h : zO7 l a i x q) (h1 : a < i) (h2 : i < l.length) (hx : l[i]? = some x) (hs : ∀ y,y ∈ q.1 → eM y x ≤ 0) : vY l a i x q = UG l a (i + 1) := by
  unfold vY UG;have e : (l.drop a).take (i + 1 - a) = (l.drop a).take (i - a) ++ [x] := by
    rw [show i + 1 - a = (i - a) + 1 by omega,zC0]
    rw [eD,show a + (i - a) = i by omega,hx];rfl
  rw [e];have hp : (q.1 ++ x :: q.2).Perm ((l.drop a).take (i - a) ++ [x]) := by
    refine List.perm_middle.trans ?_;rw [h.eq];exact ((dD eM _).cons x).trans (M2 _ _).symm
  have hu : Up (q.1 ++ x :: q.2) := LQ (by rw [h.eq];exact lM jH _) hs (fun y hy => D1 (h.gt y hy))
  rw [I7 hp hu];simp
theorem zI5 {l : List W} {a i : Nat} {x y : W} {S : List W} {q : List W × List W} (h : zO7 l a i x q) (e : q.1 = S ++ [y]) (hc : ¬ eM x y < 0) : ∀ z,z ∈ q.1 → eM z x ≤ 0 := by
  have hu : Up (q.1 ++ q.2) := by rw [h.eq];exact lM jH _
  have hu1 : Up q.1 := (eX.1 hu).1;rw [e] at hu1;intro z hz;rw [e] at hz;exact jH.le_tr (NV hu1 z hz) (yA1 hc)
theorem XX {l : List W} {a i : Nat} {x y : W} {S : List W} {q : List W × List W} (h : zO7 l a i x q) (e : q.1 = S ++ [y]) (hc : eM x y < 0) : zO7 l a i x (S,y :: q.2) := by
  refine ⟨?_,fun z hz => ?_⟩
  · rw [← h.eq,e];simp
  · rcases bR.1 hz with rfl | hz
    · exact hc
    · exact h.gt z hz
end Go.Ld
namespace Go.Proofs.YtmmkhmilpeodnaaGreat
open Go Go.Ab Go.Ld
attribute [local irreducible] VC AW bX aR
set_option maxHeartbeats 4000000
theorem zO8 (l : List W) : (fQ l).flatten.all AV.one = true := by
  induction l with
  | nil => rfl
  | cons x l ih => simp only [List.map_cons,eL,List.all_append,ih];rfl
theorem bM (l : List W) : ∀ e,e ∈ fQ l → AV.idfL e = true := by
  intro e he;obtain ⟨x,_,rfl⟩ := bE.1 he;rfl
theorem mA : ∀ i : Nat,i < 1 → ([0] : List Nat)[i]? = some i := by decide
abbrev rI : AV := .clo (.func 97) [] []
theorem JG (l : List W) (a b : Nat) (hab : a ≤ b) (hb : b ≤ l.length) (hl : l.length ≤ 100000) (hw : ∀ w,w ∈ l → M7 w) :
    aR Tryz.prog 161 [.sl 0 0 l.length 3,.i a,.i b,rI] [.arr (fQ l) 3] (.tup []) [.arr (fQ (UG l a b)) 3] := by
  rcases hC a b with hlt | hge
  · refine bO T Tryz.func161 rfl rfl rfl rfl ?_
    (repeat' (first|refine wS ?_|refine wB ?_|(refine iA 0 rfl rfl rfl (by omega) (by omega) ?_)|refine nZ ?_));refine cN (X := {i : Nat // a + 1 ≤ i ∧ i ≤ b}) (fun i => [(0,.sl 0 0 l.length 3),(1,.i a),(2,.i b),(3,rI),(8,.i i.1)]) (fun i => [.arr (fQ (UG l a i.1)) 3]) (fun i => b - i.1) ⟨a + 1,by omega,by omega⟩ ⟨[0],rfl,by (repeat (first | exact trivial | refine ⟨rfl,?_⟩)),⟨.inr (aD rfl (by dsimp only;rw [zE8 (by omega)]) (bM _)),trivial⟩,by decide,mA⟩ ?_
    rintro ⟨i,h1,h2⟩;dsimp only;by_cases hi : i < b
    · (repeat' (first|refine wS ?_|refine wB ?_|refine wK ?_|(refine wC rfl (fun hb => ?_) (fun hb => ?_) <;> (((try simp only [nm] at hb);try (exfalso;omega))))|(refine rg 1 (dK rfl (vV (aL rfl rfl) ?_)))|(refine rg 3 (mW rfl (aV ?_)))|(refine nZ ?_)));all_goals try (exfalso;omega)
      have hil : i < l.length := by omega
      obtain ⟨x,hx⟩ : ∃ x,l[i]? = some x := ⟨_,aA hil⟩;obtain ⟨s1,s2⟩ := SR (a := a) (by omega) hil hx
      refine cN (X := {q : List W × List W // zO7 l a i x q}) (fun q => [(0,.sl 0 0 l.length 3),(1,.i a),(2,.i b),(3,rI),(8,.i i),(9,.i ((a + q.1.1.length : Nat) : Int))]) (fun q => [.arr (fQ (vY l a i x q.1)) 3]) (fun q => q.1.1.length) ⟨_,s1⟩ ⟨[0],rfl,⟨rfl,rfl,rfl,rfl,rfl,by dsimp only;rw [iP,bD,dJ,show a + min (i - a) (l.length - a) = i by omega];rfl,trivial⟩,⟨.inr (aD rfl (by dsimp only;rw [s2]) (bM _)),trivial⟩,by decide,mA⟩ ?_
      rintro ⟨⟨S1,S2⟩,hq⟩;dsimp only;have hln := PG hq (by omega) hil
      dsimp only at hln;have hwx : M7 x := hw x (aQ hx);have hal : (l.take a).length = a := by rw [bD];omega
      rcases List.eq_nil_or_concat S1 with rfl | ⟨S,y,rfl⟩
      · have ee := XW hq (by omega) hil hx (fun y hy => by cases hy)
        have hJ : ((a + ([] : List W).length : Nat) : Int) = a := by simp
        generalize ((a + ([] : List W).length : Nat) : Int) = J at *;generalize vY l a i x ([],S2) = L at *
        (repeat' (first|refine wS ?_|refine wE ?_|refine wU ?_|(refine bN (id := 4) 53 yG6 (rM 18 17) yG7 cJ rfl (by decide +kernel) (dN rfl (dN rfl (dV rfl (V9 rfl rfl (by omega)) (dN rfl (tG rfl (tG rfl (tG rfl (tG rfl (dG ?_)))))))));refine tG rfl (tG rfl (tG rfl (tG rfl (tG rfl (tG rfl (tG rfl (dV rfl (iE rfl rfl) (dE ?_)))))))))|(refine iA 2 rfl rfl rfl (by omega) (by omega) ?_)|refine nZ ?_));all_goals first | (exfalso;omega) | exact ⟨⟨i + 1,by omega,by omega⟩,by dsimp only;omega,⟨[0],rfl,by (repeat (first | exact trivial | refine ⟨rfl,?_⟩)),⟨.inr (aD rfl (by dsimp only;rw [ee]) (bM _)),trivial⟩,by decide,mA⟩⟩
      · rw [List.concat_eq_append] at *;have hy : y ∈ l := by
          have h3 : y ∈ dY eM ((l.drop a).take (i - a)) := by rw [← hq.eq];simp
          exact eK (eJ ((dD _ _).mem_iff.1 h3))
        have hc := wW x y hwx (hw y hy);have hL : vY l a i x (S ++ [y],S2) = (l.take a ++ S) ++ y :: x :: (S2 ++ l.drop (i + 1)) := by unfold vY;simp
        have hJ : ((a + (S ++ [y]).length : Nat) : Int) = ((a + S.length + 1 : Nat) : Int) := by simp;omega
        have hAl : a + S.length = (l.take a ++ S).length := by rw [aF,hal]
        have hlen := XZ hq (by omega) hil
        by_cases h0 : eM x y < 0
        · have ee := XX hq rfl h0;have q1 := pG (L := vY l a i x (S ++ [y],S2)) (j := ((a + (S ++ [y]).length : Nat) : Int)) (i := a + S.length + 1) (x := x) (by rw [hL,show (l.take a ++ S) ++ y :: x :: (S2 ++ l.drop (i + 1)) = ((l.take a ++ S) ++ [y]) ++ x :: (S2 ++ l.drop (i + 1)) by simp];exact nM _ _ _ (by simp;omega)) hJ
          have q2 := pG (L := vY l a i x (S ++ [y],S2)) (j := ((a + (S ++ [y]).length : Nat) : Int) - 1) (i := a + S.length) (x := y) (by rw [hL];exact nM _ _ _ hAl) (by omega)
          have t1 := wO (L := vY l a i x (S ++ [y],S2)) (j := ((a + (S ++ [y]).length : Nat) : Int)) (i := a + S.length + 1) (x := y) hJ;have e1 : (vY l a i x (S ++ [y],S2)).set (a + S.length + 1) y = (l.take a ++ S) ++ y :: y :: (S2 ++ l.drop (i + 1)) := by
            rw [hL,show (l.take a ++ S) ++ y :: x :: (S2 ++ l.drop (i + 1)) = ((l.take a ++ S) ++ [y]) ++ x :: (S2 ++ l.drop (i + 1)) by simp,nW _ _ _ _ (by simp;omega)];simp
          rw [e1] at t1;have q3 := pG (L := (l.take a ++ S) ++ y :: y :: (S2 ++ l.drop (i + 1))) (j := ((a + (S ++ [y]).length : Nat) : Int) - 1) (i := a + S.length) (x := y) (nM _ _ _ hAl) (by omega)
          have t2 := wO (L := (l.take a ++ S) ++ y :: y :: (S2 ++ l.drop (i + 1))) (j := ((a + (S ++ [y]).length : Nat) : Int) - 1) (i := a + S.length) (x := x) (by omega)
          rw [nW _ _ _ _ hAl,show (l.take a ++ S) ++ x :: y :: (S2 ++ l.drop (i + 1)) = vY l a i x (S,y :: S2) by unfold vY;simp,← t1] at t2
          rw [← t1] at q3;have hJ2 : ((a + (S ++ [y]).length : Nat) : Int) - 1 = ((a + S.length : Nat) : Int) := by omega
          have hJ3 : ((a + (S ++ [y]).length : Nat) : Int) < l.length := by omega
          have hJ4 : (a : Int) < ((a + (S ++ [y]).length : Nat) : Int) := by omega
          clear hJ hL;generalize ((a + (S ++ [y]).length : Nat) : Int) = J at *;generalize eM x y = z at *;generalize vY l a i x (S ++ [y],S2) = L at *
          (repeat' (first|refine wS ?_|refine wB ?_|refine wK ?_|(refine wC rfl ?_ ?_<;>(intro hb;(try simp only [nm] at hb);try (exfalso;omega)))|(refine bN (id := 4) 53 yG6 (rM 18 17) yG7 cJ rfl (by decide +kernel) (dN rfl (dN rfl (dV rfl (fM rfl rfl) (dM ?_))));refine tQ rfl rfl rfl rfl ?_ ?_<;>(intro hb;rw [hb];(try simp only [nm] at hb);try (exfalso;omega))<;>(refine tM ?_);(all_goals (refine tN rfl (tN rfl (dT rfl (by exact aJ T rfl rfl rfl rfl rfl (by omega) (by omega)) ?_));refine dT rfl (by exact aP T rfl rfl (bH rfl q1) rfl) ?_;refine tN rfl (tN rfl (dT rfl (cP rfl rfl (by omega) (by omega)) (dT rfl (by exact aJ T rfl rfl rfl rfl rfl (by omega) (by omega)) ?_)));refine dT rfl (by exact aP T rfl rfl (bH rfl q2) rfl) ?_;refine dT rfl (kC (hc)) (dT rfl (aL rfl rfl) (dV rfl (iQ rfl rfl) (dE ?_))))))|(refine nD (id := 6) 53 yG8 (rM 37 15) yG9 [(15,0)] cJ rfl (by decide +kernel) (cK rfl rfl rfl rfl (by exact cC rfl) ?_);refine cK rfl rfl rfl rfl (by exact cC rfl) ?_;refine cK rfl rfl rfl rfl (by exact cC rfl) ?_;refine cK rfl rfl rfl rfl (by exact cC rfl) ?_;refine cK rfl rfl rfl rfl (by exact cP rfl rfl (by omega) (by omega)) ?_;refine cK rfl rfl rfl rfl (by exact cC rfl) ?_;refine cK rfl rfl rfl rfl (by exact cC rfl) ?_;refine cK rfl rfl rfl rfl (by exact cP rfl rfl (by omega) (by omega)) ?_;refine cK rfl rfl rfl rfl (by exact aJ T rfl rfl rfl rfl rfl (by omega) (by omega)) ?_;refine cK rfl rfl rfl rfl (by exact aP T rfl rfl (bH rfl q2) rfl) ?_;refine cK rfl rfl rfl rfl (by exact cC rfl) ?_;refine cK rfl rfl rfl rfl (by exact cC rfl) ?_;refine cK rfl rfl rfl rfl (by exact aJ T rfl rfl rfl rfl rfl (by omega) (by omega)) ?_;refine cK rfl rfl rfl rfl (by exact aP T rfl rfl (bH rfl q1) rfl) ?_;refine cK rfl rfl rfl rfl (by exact aJ T rfl rfl rfl rfl rfl (by omega) (by omega)) ?_;refine vB rfl rfl rfl rfl (aN rfl) T rfl rfl rfl rfl rfl rfl (by decide) (tZ rfl q1 rfl) ?_;refine rB rfl rfl rfl (by exact rfl) ?_;refine vV (by exact aJ T rfl rfl rfl rfl rfl (by omega) (by omega)) ?_;refine aU T rfl rfl rfl rfl rfl rfl (by decide) (lX rfl q3 rfl) ?_)|(refine rg 5 (mW rfl (vV (cP rfl rfl (by omega) (by omega)) (aV ?_))))|refine nZ ?_));all_goals first | (exfalso;omega) | exact ⟨⟨_,ee⟩,by dsimp only;simp,⟨[0],rfl,⟨rfl,rfl,rfl,rfl,rfl,by dsimp only;rw [← hJ2];try rfl,trivial⟩,⟨.inr (aD rfl (by dsimp only;rw [← t2];try rfl) (bM _)),trivial⟩,by decide,mA⟩⟩
        · have ee := XW hq (by omega) hil hx (zI5 hq rfl h0)
          have q1 := pG (L := vY l a i x (S ++ [y],S2)) (j := ((a + (S ++ [y]).length : Nat) : Int)) (i := a + S.length + 1) (x := x) (by rw [hL,show (l.take a ++ S) ++ y :: x :: (S2 ++ l.drop (i + 1)) = ((l.take a ++ S) ++ [y]) ++ x :: (S2 ++ l.drop (i + 1)) by simp];exact nM _ _ _ (by simp;omega)) hJ
          have q2 := pG (L := vY l a i x (S ++ [y],S2)) (j := ((a + (S ++ [y]).length : Nat) : Int) - 1) (i := a + S.length) (x := y) (by rw [hL];exact nM _ _ _ hAl) (by omega)
          have hJ3 : ((a + (S ++ [y]).length : Nat) : Int) < l.length := by omega
          have hJ4 : (a : Int) < ((a + (S ++ [y]).length : Nat) : Int) := by omega
          clear hJ hL;generalize ((a + (S ++ [y]).length : Nat) : Int) = J at *;generalize eM x y = z at *;generalize vY l a i x (S ++ [y],S2) = L at *
          (repeat' (first|refine wS ?_|refine wE ?_|(refine wC rfl ?_ ?_<;>(intro hb;(try simp only [nm] at hb);try (exfalso;omega)))|(refine bN (id := 4) 53 yG6 (rM 18 17) yG7 cJ rfl (by decide +kernel) (dN rfl (dN rfl (dV rfl (fM rfl rfl) (dM ?_))));refine tQ rfl rfl rfl rfl ?_ ?_<;>(intro hb;rw [hb];(try simp only [nm] at hb);try (exfalso;omega))<;>(refine tM ?_);(all_goals (refine tN rfl (tN rfl (dT rfl (by exact aJ T rfl rfl rfl rfl rfl (by omega) (by omega)) ?_));refine dT rfl (by exact aP T rfl rfl (bH rfl q1) rfl) ?_;refine tN rfl (tN rfl (dT rfl (cP rfl rfl (by omega) (by omega)) (dT rfl (by exact aJ T rfl rfl rfl rfl rfl (by omega) (by omega)) ?_)));refine dT rfl (by exact aP T rfl rfl (bH rfl q2) rfl) ?_;refine dT rfl (kC (hc)) (dT rfl (aL rfl rfl) (dV rfl (iQ rfl rfl) (dE ?_))))))|(refine iA 2 rfl rfl rfl (by omega) (by omega) ?_)|refine nZ ?_));all_goals first | (exfalso;omega) | exact ⟨⟨i + 1,by omega,by omega⟩,by dsimp only;omega,⟨[0],rfl,by (repeat (first | exact trivial | refine ⟨rfl,?_⟩)),⟨.inr (aD rfl (by dsimp only;rw [ee]) (bM _)),trivial⟩,by decide,mA⟩⟩
    · obtain rfl : i = b := by omega
      (repeat' (first|refine wS ?_|refine wE ?_|(refine wC rfl ?_ ?_<;>(intro hb;(try simp only [nm] at hb);try (exfalso;omega)))|(refine rg 1 (dK rfl (vV (aL rfl rfl) ?_)))|refine nZ ?_));all_goals first | (exfalso;omega) | exact ⟨.inl rfl,[0],_,rfl,rfl,rfl,⟨.inr (aD rfl rfl (bM _)),trivial⟩,by decide,mA⟩ | exact ⟨.inr rfl,[0],_,rfl,rfl,rfl,⟨.inr (aD rfl rfl (bM _)),trivial⟩,by decide,mA⟩
  · obtain rfl : a = b := by omega
    rw [VI hb];refine bO T Tryz.func161 rfl rfl rfl rfl ?_
    (repeat' (first|refine wS ?_|refine wB ?_|(refine iA 0 rfl rfl rfl (by omega) (by omega) ?_)|refine nZ ?_));refine cN (X := Unit) (fun _ => [(0,.sl 0 0 l.length 3),(1,.i a),(2,.i a),(3,rI),(8,.i ((a : Int) + 1))]) (fun _ => [.arr (fQ l) 3]) (fun _ => 0) () ⟨[0],rfl,by (repeat (first | exact trivial | refine ⟨rfl,?_⟩)),⟨.inr (aD rfl rfl (bM _)),trivial⟩,by decide,mA⟩ ?_
    intro _;dsimp only
    (repeat' (first|refine wS ?_|refine wE ?_|(refine wC rfl ?_ ?_<;>(intro hb;(try simp only [nm] at hb);try (exfalso;omega)))|(refine rg 1 (dK rfl (vV (aL rfl rfl) ?_)))|refine nZ ?_));all_goals first | (exfalso;omega) | exact ⟨.inl rfl,[0],_,rfl,rfl,rfl,⟨.inr (aD rfl rfl (bM _)),trivial⟩,by decide,mA⟩ | exact ⟨.inr rfl,[0],_,rfl,rfl,rfl,⟨.inr (aD rfl rfl (bM _)),trivial⟩,by decide,mA⟩
end Go.Proofs.YtmmkhmilpeodnaaGreat
namespace Go.Ld
open Go.Ab Go.Proofs.YtmmkhmilpeodnaaGreat
def HR (P X Q Y R : List W) (k : Nat) : List W := P ++ ((Y.take k ++ X.drop k) ++ (Q ++ ((X.take k ++ Y.drop k) ++ R)))
theorem zW4 (P X Q Y R : List W) : HR P X Q Y R 0 = P ++ (X ++ (Q ++ (Y ++ R))) := by simp [HR]
theorem zW3 {P X Q Y R : List W} {n : Nat} (h1 : X.length = n) (h2 : Y.length = n) : HR P X Q Y R n = P ++ (Y ++ (Q ++ (X ++ R))) := by
  unfold HR;rw [cF (by omega),cF (by omega),cY (by omega),cY (by omega)];simp
theorem yB1 {X1 X2 : List W} {x : W} {k : Nat} (h : X1.length = k) : (X1 ++ x :: X2).take k = X1 ∧ (X1 ++ x :: X2).drop k = x :: X2 ∧ (X1 ++ x :: X2).take (k + 1) = X1 ++ [x] ∧ (X1 ++ x :: X2).drop (k + 1) = X2 := by
  subst h;refine ⟨wI,wM,?_,?_⟩
  · rw [show X1 ++ x :: X2 = (X1 ++ [x]) ++ X2 by simp,show X1.length + 1 = (X1 ++ [x]).length by simp,wI]
  · rw [show X1 ++ x :: X2 = (X1 ++ [x]) ++ X2 by simp,show X1.length + 1 = (X1 ++ [x]).length by simp,wM]
theorem LU {X : List W} {k : Nat} (h : k < X.length) : ∃ X1 x X2,X = X1 ++ x :: X2 ∧ X1.length = k := ⟨X.take k,X[k],X.drop (k + 1),by simp,by simp;omega⟩
theorem VB {P X Q Y R : List W} {n k : Nat} (h1 : X.length = n) (h2 : Y.length = n) (hk : k < n) : ∃ x y,x ∈ X ∧ y ∈ Y ∧ (HR P X Q Y R k)[P.length + k]? = some x ∧ (HR P X Q Y R k)[P.length + n + Q.length + k]? = some y ∧
    ((HR P X Q Y R k).set (P.length + k) y)[P.length + n + Q.length + k]? = some y ∧ ((HR P X Q Y R k).set (P.length + k) y).set (P.length + n + Q.length + k) x = HR P X Q Y R (k + 1) := by
  obtain ⟨X1,x,X2,rfl,hx⟩ := LU (show k < X.length by omega)
  obtain ⟨Y1,y,Y2,rfl,hy⟩ := LU (show k < Y.length by omega)
  obtain ⟨a1,a2,a3,a4⟩ := yB1 (x := x) (X2 := X2) hx;obtain ⟨b1,b2,b3,b4⟩ := yB1 (x := y) (X2 := Y2) hy;simp only [aF,List.length_cons] at h1 h2;have e : HR P (X1 ++ x :: X2) Q (Y1 ++ y :: Y2) R k = (P ++ Y1) ++ x :: (X2 ++ (Q ++ (X1 ++ y :: (Y2 ++ R)))) := by
    unfold HR;rw [a1,a2,b1,b2];simp
  have e1 : (HR P (X1 ++ x :: X2) Q (Y1 ++ y :: Y2) R k).set (P.length + k) y = ((P ++ Y1) ++ y :: (X2 ++ (Q ++ X1))) ++ y :: (Y2 ++ R) := by
    rw [e,nW _ _ _ _ (by simp;omega)];simp
  have l1 : P.length + n + Q.length + k = ((P ++ Y1) ++ y :: (X2 ++ (Q ++ X1))).length := by
    simp only [aF,List.length_cons];omega
  refine ⟨x,y,by simp,by simp,?_,?_,?_,?_⟩
  · rw [e];exact nM _ _ _ (by simp;omega)
  · rw [e,show (P ++ Y1) ++ x :: (X2 ++ (Q ++ (X1 ++ y :: (Y2 ++ R)))) = ((P ++ Y1) ++ x :: (X2 ++ (Q ++ X1))) ++ y :: (Y2 ++ R) by simp]
    exact nM _ _ _ (by simp only [aF,List.length_cons];omega)
  · rw [e1];exact nM _ _ _ l1
  · rw [e1,nW _ _ _ _ l1];unfold HR;rw [a3,a4,b3,b4];simp
end Go.Ld
namespace Go.Proofs.YtmmkhmilpeodnaaGreat
open Go Go.Ab Go.Ld
attribute [local irreducible] VC AW bX aR
set_option maxHeartbeats 4000000
theorem EU (P X Q Y R : List W) {n a b N : Nat} (h1 : X.length = n) (h2 : Y.length = n) (ha : a = P.length) (hb : b = P.length + n + Q.length) (hN : N = P.length + (n + (Q.length + (n + R.length)))) (hl : N ≤ 100000) :
    aR Tryz.prog 181 [.sl 0 0 N 3,.i a,.i b,.i n,rI] [.arr (fQ (P ++ (X ++ (Q ++ (Y ++ R))))) 3] (.tup []) [.arr (fQ (P ++ (Y ++ (Q ++ (X ++ R))))) 3] := by
  refine bO T Tryz.func181 rfl rfl rfl rfl ?_
  (repeat' (first|refine wS ?_|refine wB ?_|(refine rg 0 (aV ?_))|refine nZ ?_));refine cN (X := {k : Nat // k ≤ n}) (fun k => [(0,.sl 0 0 N 3),(1,.i a),(2,.i b),(3,.i n),(4,rI),(10,.i k.1)]) (fun k => [.arr (fQ (HR P X Q Y R k.1)) 3]) (fun k => n - k.1) ⟨0,by omega⟩ ⟨[0],rfl,by (repeat (first | exact trivial | refine ⟨rfl,?_⟩)),⟨.inr (aD rfl (by dsimp only;rw [zW4]) (bM _)),trivial⟩,by decide,mA⟩ ?_
  rintro ⟨k,hk⟩;dsimp only;by_cases hlt : k < n
  · obtain ⟨x,y,_,_,p1,p2,p3,p4⟩ := VB (P := P) (Q := Q) (R := R) h1 h2 hlt;have q1 := pG (j := (a : Int) + (k : Int)) p1 (by omega)
    have q2 := pG (j := (b : Int) + (k : Int)) p2 (by omega)
    have t1 := wO (L := HR P X Q Y R k) (j := (a : Int) + (k : Int)) (i := P.length + k) (x := y) (by omega)
    have q3 := pG (j := (b : Int) + (k : Int)) p3 (by omega)
    have t2 := wO (L := (HR P X Q Y R k).set (P.length + k) y) (j := (b : Int) + (k : Int)) (i := P.length + n + Q.length + k) (x := x) (by omega)
    rw [← t1] at q3 t2;rw [p4] at t2;clear p1 p2 p3 p4 t1;generalize HR P X Q Y R k = L at *
    (repeat' (first|refine wS ?_|refine wB ?_|refine wK ?_|(refine wC rfl ?_ ?_<;>(intro hb;(try simp only [nm] at hb);try (exfalso;omega)))|(refine rg 1 (dK rfl (vV (aL rfl rfl) ?_)))|(refine nD (id := 3) 38 [[],[],[],[1,2],[],[],[],[5,6],[],[],[],[9,10],rM 8 4,rM 8 5,[],[],[],[15,16],rM 14 4,rM 14 5,[0,1,2,3,8,9,10,11,12,13,14,15,16,17,18,19],[0,1,2,3,8,9,10,11,12,13,14,15,16,17,18,19,20]] (rM 16 21) [[],[16],[16,17],[16],rM 16 4,rM 16 5,rM 16 6,rM 16 5,rM 16 8,rM 16 9,rM 16 10,rM 16 9,rM 16 8,rM 16 8,rM 16 14,rM 16 15,rM 16 16,rM 16 15,rM 16 14,rM 16 14,rM 20 4,rM 20 4] [(21,0)] cJ rfl (by decide +kernel) (cK rfl rfl rfl rfl (by exact cC rfl) ?_);refine cK rfl rfl rfl rfl (by exact cC rfl) ?_;refine cK rfl rfl rfl rfl (by exact cC rfl) ?_;refine cK rfl rfl rfl rfl (by exact bV rfl rfl (by omega) (by omega)) ?_;refine cK rfl rfl rfl rfl (by exact cC rfl) ?_;refine cK rfl rfl rfl rfl (by exact cC rfl) ?_;refine cK rfl rfl rfl rfl (by exact cC rfl) ?_;refine cK rfl rfl rfl rfl (by exact bV rfl rfl (by omega) (by omega)) ?_;refine cK rfl rfl rfl rfl (by exact cC rfl) ?_;refine cK rfl rfl rfl rfl (by exact cC rfl) ?_;refine cK rfl rfl rfl rfl (by exact cC rfl) ?_;refine cK rfl rfl rfl rfl (by exact bV rfl rfl (by omega) (by omega)) ?_;refine cK rfl rfl rfl rfl (by exact aJ T rfl rfl rfl rfl rfl (by omega) (by omega)) ?_;refine cK rfl rfl rfl rfl (by exact aP T rfl rfl (bH rfl q2) rfl) ?_;refine cK rfl rfl rfl rfl (by exact cC rfl) ?_;refine cK rfl rfl rfl rfl (by exact cC rfl) ?_;refine cK rfl rfl rfl rfl (by exact cC rfl) ?_;refine cK rfl rfl rfl rfl (by exact bV rfl rfl (by omega) (by omega)) ?_;refine cK rfl rfl rfl rfl (by exact aJ T rfl rfl rfl rfl rfl (by omega) (by omega)) ?_;refine cK rfl rfl rfl rfl (by exact aP T rfl rfl (bH rfl q1) rfl) ?_;refine cK rfl rfl rfl rfl (by exact aJ T rfl rfl rfl rfl rfl (by omega) (by omega)) ?_;refine vB rfl rfl rfl rfl (aN rfl) T rfl rfl rfl rfl rfl rfl (by decide) (tZ rfl q1 rfl) ?_;refine rB rfl rfl rfl (by exact rfl) ?_;refine vV (by exact aJ T rfl rfl rfl rfl rfl (by omega) (by omega)) ?_;refine aU T rfl rfl rfl rfl rfl rfl (by decide) (lX rfl q3 rfl) ?_)|(refine iA 2 rfl rfl rfl (by omega) (by omega) ?_)|refine nZ ?_));all_goals first | (exfalso;omega) | exact ⟨⟨k + 1,by omega⟩,by dsimp only;omega,⟨[0],rfl,by (repeat (first | exact trivial | refine ⟨rfl,?_⟩)),⟨.inr (aD rfl (by dsimp only;rw [← t2];try rfl) (bM _)),trivial⟩,by decide,mA⟩⟩
  · obtain rfl : k = n := by omega
    have e := zW3 (P := P) (Q := Q) (R := R) h1 h2
    (repeat' (first|refine wS ?_|refine wE ?_|(refine wC rfl ?_ ?_<;>(intro hb;(try simp only [nm] at hb);try (exfalso;omega)))|(refine rg 1 (dK rfl (vV (aL rfl rfl) ?_)))|refine nZ ?_));all_goals first | (exfalso;omega) | exact ⟨.inl rfl,[0],_,rfl,rfl,rfl,⟨.inr (aD rfl (by rw [e]) (bM _)),trivial⟩,by decide,mA⟩ | exact ⟨.inr rfl,[0],_,rfl,rfl,rfl,⟨.inr (aD rfl (by rw [e]) (bM _)),trivial⟩,by decide,mA⟩
theorem VW (P X Y R : List W) {a m b N : Nat} (ha : a = P.length) (hm : m = P.length + X.length) (hb : b = P.length + X.length + Y.length) (hN : N = b + R.length) (hl : N ≤ 100000) (hX : 0 < X.length) (hY : 0 < Y.length) :
    aR Tryz.prog 176 [.sl 0 0 N 3,.i a,.i m,.i b,rI] [.arr (fQ (P ++ (X ++ (Y ++ R)))) 3] (.tup []) [.arr (fQ (P ++ (Y ++ (X ++ R)))) 3] := by
  refine bO T Tryz.func176 rfl rfl rfl rfl ?_
  (repeat' (first|refine wS ?_|refine wB ?_|(refine rg 0 (dK rfl (vV (cP rfl rfl (by omega) (by omega)) (aV ?_))))|(refine rg 1 (dK rfl (vV (cP rfl rfl (by omega) (by omega)) (aV ?_))))|refine nZ ?_));refine cN (X := {q : List W × List W × List W × List W // q.1 ++ (q.2.2.1 ++ (q.2.1 ++ q.2.2.2)) = P ++ (Y ++ (X ++ R)) ∧ q.1.length + q.2.1.length = m ∧ m + q.2.2.1.length + q.2.2.2.length = N ∧ 0 < q.2.1.length ∧ 0 < q.2.2.1.length})
    (fun q => [(0,.sl 0 0 N 3),(1,.i a),(2,.i m),(3,.i b),(4,rI),(10,.i q.1.2.1.length),(11,.i q.1.2.2.1.length)]) (fun q => [.arr (fQ (q.1.1 ++ (q.1.2.1 ++ (q.1.2.2.1 ++ q.1.2.2.2)))) 3]) (fun q => q.1.2.1.length + q.1.2.2.1.length) ⟨(P,X,Y,R),by dsimp only;exact ⟨rfl,by omega,by omega,hX,hY⟩⟩
    ⟨[0],rfl,⟨rfl,rfl,rfl,rfl,rfl,by dsimp only;rw [show (X.length : Int) = (m : Int) - (a : Int) by omega];rfl,by dsimp only;rw [show (Y.length : Int) = (b : Int) - (m : Int) by omega];rfl,trivial⟩,⟨.inr (aD rfl rfl (bM _)),trivial⟩,by decide,mA⟩ ?_
  rintro ⟨⟨P1,X1,Y1,R1⟩,h1,h2,h3,h4,h5⟩;dsimp only at h1 h2 h3 h4 h5 ⊢;have hsb : ((P1.length : Nat) : Int) = (m : Int) - (X1.length : Int) := by omega
  by_cases hij : X1.length = Y1.length
  · have hc := EU P1 X1 [] Y1 R1 (n := X1.length) (a := P1.length) (b := m) (N := N) rfl hij.symm rfl (by simp;omega) (by simp;omega) hl
    rw [List.nil_append,List.nil_append,hsb,h1] at hc
    (repeat' (first|refine wS ?_|refine wE ?_|refine wU ?_|(refine rg 2 (dK rfl (vV (rA rfl rfl (by omega)) ?_)))|(refine rg 8 (dK rfl (mW rfl (vV (cP rfl rfl (by omega) (by omega)) (dK rfl (mW rfl (fF [0] rfl rfl (hc) rfl rfl (by decide) ⟨.inr (aD rfl rfl (bM _)),trivial⟩ (by simp) rfl ?_)))))))|refine nZ ?_));all_goals first | (exfalso;omega) | exact ⟨.inl rfl,[0],_,rfl,rfl,rfl,⟨.inr (aD rfl (bY _ (bM _)) (bM _)),trivial⟩,by decide,mA⟩ | exact ⟨.inr rfl,[0],_,rfl,rfl,rfl,⟨.inr (aD rfl (bY _ (bM _)) (bM _)),trivial⟩,by decide,mA⟩
  · by_cases hgt : Y1.length < X1.length
    · -- a part of the left side goes to the end
      obtain ⟨A,B,rfl,hA⟩ : ∃ A B,X1 = A ++ B ∧ A.length = Y1.length := ⟨X1.take Y1.length,X1.drop Y1.length,by simp,by simp;omega⟩
      rw [aF] at *;have hc := EU P1 A B Y1 R1 (n := Y1.length) (a := P1.length) (b := m) (N := N) hA rfl rfl (by omega) (by omega) hl
      rw [hsb] at hc;rw [bP]
      (repeat' (first|refine wS ?_|refine wB ?_|refine wK ?_|refine wT ?_|(refine rg 2 (dK rfl (vV (xD rfl rfl (by omega)) ?_)))|(refine rg 3 (dK rfl (vV (PO rfl rfl (by omega)) ?_)))|(refine rg 4 (dK rfl (mW rfl (vV (cP rfl rfl (by omega) (by omega)) (dK rfl (mW rfl (fF [0] rfl rfl (hc) rfl rfl (by decide) ⟨.inr (aD rfl rfl (bM _)),trivial⟩ (by simp) rfl ?_)))))))|(refine rg 5 (dK rfl (vV (cP rfl rfl (by omega) (by omega)) (aV ?_))))|refine nZ ?_));all_goals first | (exfalso;omega) | skip
      refine ⟨⟨(P1 ++ Y1,B,A,R1),by dsimp only;refine ⟨by rw [← h1];simp,?_,?_,?_,?_⟩ <;> (try simp only [aF]) <;> omega⟩,by dsimp only;omega,⟨[0],rfl,⟨rfl,rfl,rfl,rfl,rfl,by dsimp only;rw [show (B.length : Int) = ((A.length + B.length : Nat) : Int) - (Y1.length : Int) by omega];rfl,by dsimp only;rw [hA];rfl,trivial⟩,⟨.inr (aD rfl (by rw [bY _ (bM _)];simp) (bM _)),trivial⟩,by decide,mA⟩⟩
    · -- a part of the right side goes to the front
      obtain ⟨A,B,rfl,hA⟩ : ∃ A B,Y1 = A ++ B ∧ B.length = X1.length := ⟨Y1.take (Y1.length - X1.length),Y1.drop (Y1.length - X1.length),by simp,by simp;omega⟩
      rw [aF] at *;have hc := EU P1 X1 A B R1 (n := X1.length) (a := P1.length) (b := m + A.length) (N := N) rfl hA rfl (by omega) (by omega) hl
      rw [hsb,show ((m + A.length : Nat) : Int) = (m : Int) + ((A.length + B.length : Nat) : Int) - (X1.length : Int) by omega] at hc
      rw [bP]
      (repeat' (first|refine wS ?_|refine wB ?_|refine wK ?_|refine wT ?_|refine wU ?_|(refine rg 2 (dK rfl (vV (xD rfl rfl (by omega)) ?_)))|(refine rg 3 (dK rfl (vV (V9 rfl rfl (by omega)) ?_)))|(refine rg 6 (dK rfl (mW rfl (vV (cP rfl rfl (by omega) (by omega)) (dK rfl (vV (bV rfl rfl (by omega) (by omega)) (mW rfl (vV (cP rfl rfl (by omega) (by omega)) (dK rfl (fF [0] rfl rfl (hc) rfl rfl (by decide) ⟨.inr (aD rfl rfl (bM _)),trivial⟩ (by simp) rfl ?_))))))))))|(refine rg 7 (dK rfl (vV (cP rfl rfl (by omega) (by omega)) (aV ?_))))|refine nZ ?_));all_goals first | (exfalso;omega) | skip
      refine ⟨⟨(P1,B,A,X1 ++ R1),by dsimp only;refine ⟨by rw [← h1];simp,?_,?_,?_,?_⟩ <;> (try simp only [aF]) <;> omega⟩,by dsimp only;omega,⟨[0],rfl,⟨rfl,rfl,rfl,rfl,rfl,by dsimp only;rw [hA];rfl,by dsimp only;rw [show (A.length : Int) = ((A.length + B.length : Nat) : Int) - (X1.length : Int) by omega];rfl,trivial⟩,⟨.inr (aD rfl (by rw [bY _ (bM _)]) (bM _)),trivial⟩,by decide,mA⟩⟩
end Go.Proofs.YtmmkhmilpeodnaaGreat
namespace Go.Ld
open Go.Ab Go.Proofs.YtmmkhmilpeodnaaGreat
theorem RA {V : List W} {i : Nat} {z : W} (h0 : 0 < i) (h : V[i - 1]? = some z) : V.take i = V.take (i - 1) ++ [z] := by
  conv => lhs;rw [show i = (i - 1) + 1 by omega]
  rw [zC0,h];rfl
theorem zL2 {V : List W} {i : Nat} {z : W} (h : V[i]? = some z) : V.drop i = z :: V.drop (i + 1) := by
  obtain ⟨hi,e⟩ := aB.1 h;rw [aX hi,e]
theorem NU {V : List W} {i : Nat} (hu : Up V) {x y z : W} (h0 : 0 < i) (h : V[i - 1]? = some z) (hy : y ∈ V.take i) (hz : eM z x ≤ 0) : eM y x ≤ 0 := by
  have h1 : Up (V.take i) := hu.sublist (List.take_sublist _ _);rw [RA h0 h] at h1 hy;exact jH.le_tr (NV h1 y hy) hz
theorem NW {V : List W} {i : Nat} (hu : Up V) {x y z : W} (h : V[i]? = some z) (hy : y ∈ V.drop i) (hz : eM x z ≤ 0) : eM x y ≤ 0 := by
  have h1 : Up (V.drop i) := hu.sublist (List.drop_sublist _ _);rw [zL2 h] at h1 hy;exact jH.le_tr hz (zD6 h1 y hy)
theorem sA {V : List W} {i : Nat} {y : W} (h : y ∈ V.take i) (hi : i ≤ V.length) : 0 < i ∧ ∃ z,V[i - 1]? = some z := by
  have : 0 < i := by
    rcases M1 i with rfl | h0
    · simp at h
    · exact h0
  exact ⟨this,_,aA (by omega)⟩
theorem uF {V : List W} {i : Nat} {y : W} (h : y ∈ V.drop i) : ∃ z,V[i]? = some z := by
  have : i < V.length := by
    rcases hC i V.length with h0 | h0
    · exact h0
    · rw [cY h0] at h;cases h
  exact ⟨_,aA this⟩
theorem zR3 {u : W} {V : List W} {i : Nat} (hi : i ≤ V.length) (hu : Up V) (h1 : ∀ z,0 < i → V[i - 1]? = some z → eM z u < 0) (h2 : ∀ z,V[i]? = some z → ¬ eM z u < 0) : dY eM ([u] ++ V) = V.take i ++ u :: V.drop i := by
  refine I7 ?_ (LQ (by rw [bL];exact hu) (fun y hy => ?_) (fun y hy => ?_))
  · refine List.perm_middle.trans ?_;rw [bL];exact .refl _
  · obtain ⟨h0,z,hz⟩ := sA hy hi;exact NU hu h0 hz hy (D1 (h1 z h0 hz))
  · obtain ⟨z,hz⟩ := uF hy;exact NW hu hz hy (yA1 (h2 z hz))
theorem zR2 {v : W} {U : List W} {i : Nat} (hi : i ≤ U.length) (hu : Up U) (h1 : ∀ z,0 < i → U[i - 1]? = some z → ¬ eM v z < 0) (h2 : ∀ z,U[i]? = some z → eM v z < 0) : dY eM (U ++ [v]) = U.take i ++ v :: U.drop i := by
  refine I7 ?_ (LQ (by rw [bL];exact hu) (fun y hy => ?_) (fun y hy => ?_))
  · refine List.perm_middle.trans ?_;rw [bL];exact (M2 _ _).symm
  · obtain ⟨h0,z,hz⟩ := sA hy hi;exact NU hu h0 hz hy (yA1 (h1 z h0 hz))
  · obtain ⟨z,hz⟩ := uF hy;exact NW hu hz hy (D1 (h2 z hz))
theorem zY9 {U V : List W} {i e : Nat} (hU : Up U) (hV : Up V) (hi : i ≤ U.length) (he : e ≤ V.length) (h1 : ∀ x y,0 < i → U[i - 1]? = some x → V[e]? = some y → ¬ eM y x < 0) (h2 : ∀ x y,0 < e → U[i]? = some x → V[e - 1]? = some y → eM y x < 0) :
    dY eM (U ++ V) = dY eM (U.take i ++ V.take e) ++ dY eM (U.drop i ++ V.drop e) := by
  have hU1 : Up (U.take i ++ U.drop i) := by rw [bL];exact hU
  have hV1 : Up (V.take e ++ V.drop e) := by rw [bL];exact hV
  have cU := (eX.1 hU1).2.2;have cV := (eX.1 hV1).2.2;refine I7 ?_ (zP2 (lM jH _) (lM jH _) fun x y hx hy => ?_)
  · refine ((dD _ _).append (dD _ _)).trans ?_;have e1 : (U.take i ++ V.take e ++ (U.drop i ++ V.drop e)).Perm (U.take i ++ U.drop i ++ (V.take e ++ V.drop e)) := by
      rw [bP,bP];refine List.Perm.append_left _ ?_;rw [← bP,← bP];exact List.perm_append_comm.append_right _
    rw [bL,bL] at e1;exact e1
  · have hx := (dD _ _).mem_iff.1 hx;have hy := (dD _ _).mem_iff.1 hy;rcases bI.1 hx with hx | hx <;> rcases bI.1 hy with hy | hy
    · exact cU x hx y hy
    · obtain ⟨h0,z,hz⟩ := sA hx hi;obtain ⟨q,hq⟩ := uF hy;exact NW hV hq hy (NU hU h0 hz hx (yA1 (h1 z q h0 hz hq)))
    · obtain ⟨h0,z,hz⟩ := sA hx he;obtain ⟨q,hq⟩ := uF hy;exact NW hU hq hy (NU hV h0 hz hx (D1 (h2 q z h0 hq hz)))
    · exact cV x hx y hy
def M6 (P V : List W) (u : W) (R : List W) (k : Nat) : List W := (P ++ V.take k) ++ u :: (V.drop k ++ R)
theorem HK {P V : List W} {u : W} {R : List W} {k : Nat} (h : k < V.length) : ∃ y,(M6 P V u R k)[P.length + k]? = some u ∧ (M6 P V u R k)[P.length + k + 1]? = some y ∧
    ((M6 P V u R k).set (P.length + k) y)[P.length + k + 1]? = some y ∧ ((M6 P V u R k).set (P.length + k) y).set (P.length + k + 1) u = M6 P V u R (k + 1) ∧
    (M6 P V u R (k + 1))[P.length + k + 1]? = some u ∧ (M6 P V u R (k + 1))[P.length + k]? = some y ∧ ((M6 P V u R (k + 1)).set (P.length + k + 1) y)[P.length + k]? = some y ∧ ((M6 P V u R (k + 1)).set (P.length + k + 1) y).set (P.length + k) u = M6 P V u R k := by
  obtain ⟨V1,y,V2,rfl,hk⟩ := LU h;obtain ⟨a1,a2,a3,a4⟩ := yB1 (x := y) (X2 := V2) hk;have e : M6 P (V1 ++ y :: V2) u R k = (P ++ V1) ++ u :: y :: (V2 ++ R) := by unfold M6;rw [a1,a2];simp
  have e' : M6 P (V1 ++ y :: V2) u R (k + 1) = (P ++ V1) ++ y :: u :: (V2 ++ R) := by unfold M6;rw [a3,a4];simp
  have l0 : P.length + k = (P ++ V1).length := by simp;omega
  have s1 : ∀ (p q : W),((P ++ V1) ++ p :: q :: (V2 ++ R))[P.length + k + 1]? = some q := fun p q => by
    rw [show (P ++ V1) ++ p :: q :: (V2 ++ R) = ((P ++ V1) ++ [p]) ++ q :: (V2 ++ R) by simp];exact nM _ _ _ (by simp;omega)
  have s2 : ∀ (p q z : W),((P ++ V1) ++ p :: q :: (V2 ++ R)).set (P.length + k + 1) z = (P ++ V1) ++ p :: z :: (V2 ++ R) := fun p q z => by
    rw [show (P ++ V1) ++ p :: q :: (V2 ++ R) = ((P ++ V1) ++ [p]) ++ q :: (V2 ++ R) by simp,nW _ _ _ _ (by simp;omega)];simp
  rw [e,e'];refine ⟨y,nM _ _ _ l0,s1 _ _,?_,?_,s1 _ _,nM _ _ _ l0,?_,?_⟩
  · rw [nW _ _ _ _ l0];exact s1 _ _
  · rw [nW _ _ _ _ l0,s2]
  · rw [s2];exact nM _ _ _ l0
  · rw [s2,nW _ _ _ _ l0]
theorem ZU {P U V R : List W} {i k : Nat} (h : i = P.length + U.length + k) (hk : k < V.length) : (P ++ (U ++ (V ++ R)))[i]? = V[k]? := by
  subst h;rw [aE (by omega),aE (by omega),aH (by omega)]
  congr 1;omega
theorem ZV {P U V R : List W} {i k : Nat} (h : i = P.length + k) (hk : k < U.length) : (P ++ (U ++ (V ++ R)))[i]? = U[k]? := by
  subst h;rw [aE (by omega),aH (by omega)]
  congr 1;omega
end Go.Ld
namespace Go.Proofs.YtmmkhmilpeodnaaGreat
open Go Go.Ab Go.Ld
attribute [local irreducible] VC AW bX aR
set_option maxHeartbeats 4000000
theorem yR : yT Tryz.prog 3 .i64 := by unfold yT;kernel_rfl
theorem rD : yT Tryz.prog 119 .u64 := by unfold yT;kernel_rfl
attribute [local irreducible] yT
theorem zP7 (P : List W) (u : W) (V R : List W) {a m b N : Nat} (ha : a = P.length) (hm : m = a + 1) (hb : b = m + V.length) (hN : N = b + R.length) (hl : N ≤ 100000) (hV : Up V) (hu : M7 u) (hw : ∀ w,w ∈ V → M7 w) :
    aR Tryz.prog 162 [.sl 0 0 N 3,.i a,.i m,.i b,rI] [.arr (fQ (P ++ ([u] ++ (V ++ R)))) 3] (.tup []) [.arr (fQ (P ++ (dY eM ([u] ++ V) ++ R))) 3] := by
  refine bO T Tryz.func162 rfl rfl rfl rfl ?_
  (repeat' (first|refine wS ?_|refine wB ?_|refine wT ?_|(refine rg 0 (dK rfl (vV (cP rfl rfl (by omega) (by omega)) (vV (lO rfl rfl (by omega)) ?_))))|(refine rg 1 (mW rfl (aV ?_)))|(refine rg 2 (mW rfl (aV ?_)))|refine nZ ?_));refine cN (X := {q : Nat × Nat // m ≤ q.1 ∧ q.1 ≤ q.2 ∧ q.2 ≤ b ∧ (∀ z, 0 < q.1 - m → V[q.1 - m - 1]? = some z → eM z u < 0) ∧ (∀ z, V[q.2 - m]? = some z → ¬ eM z u < 0)})
    (fun q => [(0,.sl 0 0 N 3),(1,.i a),(4,rI),(10,.i q.1.1),(11,.i q.1.2)]) (fun _ => [.arr (fQ (P ++ ([u] ++ (V ++ R)))) 3]) (fun q => q.1.2 - q.1.1) ⟨(m,b),by dsimp only;exact ⟨by omega,by omega,by omega,fun z h => by omega,fun z h => by rw [cM (by omega)] at h;cases h⟩⟩
    ⟨[0],rfl,by (repeat (first | exact trivial | refine ⟨rfl,?_⟩)),⟨.inr (aD rfl rfl (bM _)),trivial⟩,by decide,mA⟩ ?_
  rintro ⟨⟨i,j⟩,h1,h2,h3,h4,h5⟩;dsimp only at h1 h2 h3 h4 h5 ⊢;by_cases hij : i < j
  · have hP : ((i : Int) + j) / 2 ^ (1 : Int).toNat = (((i + j) / 2 : Nat) : Int) := by rw [show (2 : Int) ^ (1 : Int).toNat = 2 from rfl];omega
    have hw1 : IntKind.u64.wrap ((i : Int) + j) = (i : Int) + j := W9 (by omega) (by omega)
    have hw2 : IntKind.i64.wrap (((i + j) / 2 : Nat) : Int) = (((i + j) / 2 : Nat) : Int) := IntWalk.i64_in _ (by omega)
    have hh : i ≤ (i + j) / 2 ∧ (i + j) / 2 < j := by omega
    generalize hq : (i + j) / 2 = q at *;obtain ⟨z,hz⟩ : ∃ z,V[q - m]? = some z := ⟨_,aA (by omega)⟩
    have q1 := pG (L := P ++ ([u] ++ (V ++ R))) (j := (q : Int)) (i := q) (x := z) (by rw [ZU (k := q - m) (by simp;omega) (by omega)];exact hz) rfl
    have q2 := pG (L := P ++ ([u] ++ (V ++ R))) (j := (a : Int)) (i := a) (x := u) (by rw [ZV (k := 0) (by omega) (by simp)];rfl) rfl
    have hc := wW z u (hw z (aQ hz)) hu;by_cases h0 : eM z u < 0
    · generalize hx : eM z u = x at *
      (repeat' (first|refine wS ?_|refine wB ?_|refine wK ?_|(refine wC rfl ?_ ?_<;>(intro hb;(try simp only [nm] at hb);try (exfalso;omega)))|(refine rg 3 (dK rfl (vV (aL rfl rfl) ?_)))|(refine rg 4 (dK rfl (vV (bV rfl rfl (by omega) (by omega)) (vV (iM yR rD rfl hw1) (vV (by exact hP ▸ sD rfl rfl (by decide) (by decide)) ?_))));refine vV (iM rD yR rfl hw2) (aV ?_))|(refine bN (id := 5) 220 yH0 (rM 40 11) yH1 cJ rfl (by decide +kernel) (dN rfl (dN rfl (dN rfl (dV rfl (by exact aJ T rfl rfl rfl rfl rfl (by omega) (by omega)) ?_))));refine dV rfl (by exact aP T rfl rfl (bH rfl q1) rfl) ?_;refine dN rfl (dN rfl (dV rfl (by exact aJ T rfl rfl rfl rfl rfl (by omega) (by omega)) ?_));refine dV rfl (by exact aP T rfl rfl (bH rfl q2) rfl) ?_;refine dV rfl (kC (hc)) (dV rfl (aL rfl rfl) (dE ?_)))|(refine iA 6 rfl rfl rfl (by omega) (by omega) ?_)|refine nZ ?_));all_goals first | (exfalso;omega) | skip
      exact ⟨⟨(q + 1,j),by dsimp only;exact ⟨by omega,by omega,by omega,fun z' _ hz' => by rw [show q + 1 - m - 1 = q - m by omega,hz] at hz';cases hz';omega,h5⟩⟩,by dsimp only;omega,⟨[0],rfl,by (repeat (first | exact trivial | refine ⟨rfl,?_⟩)),⟨.inr (aD rfl rfl (bM _)),trivial⟩,by decide,mA⟩⟩
    · generalize hx : eM z u = x at *
      (repeat' (first|refine wS ?_|refine wB ?_|refine wK ?_|(refine wC rfl ?_ ?_<;>(intro hb;(try simp only [nm] at hb);try (exfalso;omega)))|(refine rg 3 (dK rfl (vV (aL rfl rfl) ?_)))|(refine rg 4 (dK rfl (vV (bV rfl rfl (by omega) (by omega)) (vV (iM yR rD rfl hw1) (vV (by exact hP ▸ sD rfl rfl (by decide) (by decide)) ?_))));refine vV (iM rD yR rfl hw2) (aV ?_))|(refine bN (id := 5) 220 yH0 (rM 40 11) yH1 cJ rfl (by decide +kernel) (dN rfl (dN rfl (dN rfl (dV rfl (by exact aJ T rfl rfl rfl rfl rfl (by omega) (by omega)) ?_))));refine dV rfl (by exact aP T rfl rfl (bH rfl q1) rfl) ?_;refine dN rfl (dN rfl (dV rfl (by exact aJ T rfl rfl rfl rfl rfl (by omega) (by omega)) ?_));refine dV rfl (by exact aP T rfl rfl (bH rfl q2) rfl) ?_;refine dV rfl (kC (hc)) (dV rfl (aL rfl rfl) (dE ?_)))|(refine rg 7 (mW rfl (aV ?_)))|refine nZ ?_));all_goals first | (exfalso;omega) | skip
      exact ⟨⟨(i,q),by dsimp only;exact ⟨by omega,by omega,by omega,h4,fun z' hz' => by rw [hz] at hz';cases hz';omega⟩⟩,by dsimp only;omega,⟨[0],rfl,by (repeat (first | exact trivial | refine ⟨rfl,?_⟩)),⟨.inr (aD rfl rfl (bM _)),trivial⟩,by decide,mA⟩⟩
  · obtain rfl : i = j := by omega
    have hmg := zR3 (u := u) (i := i - m) (by omega) hV h4 h5
    (repeat' (first|refine wS ?_|refine wB ?_|refine wE ?_|(refine wC rfl ?_ ?_<;>(intro hb;(try simp only [nm] at hb);try (exfalso;omega)))|(refine rg 3 (dK rfl (vV (aL rfl rfl) ?_)))|(refine rg 8 (mW rfl (aV ?_)))|refine nZ ?_));all_goals first | (exfalso;omega) | skip
    refine cN (X := {t : Nat // t ≤ i - m}) (fun t => [(0,.sl 0 0 N 3),(10,.i i),(13,.i ((a + t.1 : Nat) : Int))]) (fun t => [.arr (fQ (M6 P V u R t.1)) 3]) (fun t => i - m - t.1) ⟨0,by omega⟩ ⟨[0],rfl,⟨rfl,rfl,by dsimp only;rfl,trivial⟩,⟨.inr (aD rfl (by dsimp only;unfold M6;simp) (bM _)),trivial⟩,by decide,mA⟩ ?_
    rintro ⟨t,ht⟩;dsimp only;by_cases hlt : t < i - m
    · obtain ⟨y,p1,p2,p3,p4,_⟩ := HK (P := P) (u := u) (R := R) (show t < V.length by omega)
      have q1 := pG (j := ((a + t : Nat) : Int)) p1 (by omega)
      have q2 := pG (j := ((a + t : Nat) : Int) + 1) p2 (by omega)
      have t1 := wO (L := M6 P V u R t) (j := ((a + t : Nat) : Int)) (i := P.length + t) (x := y) (by omega)
      have q3 := pG (j := ((a + t : Nat) : Int) + 1) p3 (by omega)
      have t2 := wO (L := (M6 P V u R t).set (P.length + t) y) (j := ((a + t : Nat) : Int) + 1) (i := P.length + t + 1) (x := u) (by omega)
      rw [← t1] at q3 t2;rw [p4] at t2;have hJ : ((a + t : Nat) : Int) + 1 = ((a + (t + 1) : Nat) : Int) := by omega
      have hJ1 : ((a + t : Nat) : Int) < (i : Int) - 1 := by omega
      have hJ2 : 0 ≤ ((a + t : Nat) : Int) := by omega
      clear p1 p2 p3 p4 t1;generalize ((a + t : Nat) : Int) = J at *;generalize M6 P V u R t = L at *
      (repeat' (first|refine wS ?_|refine wB ?_|refine wK ?_|(refine wC rfl ?_ ?_<;>(intro hb;(try simp only [nm] at hb);try (exfalso;omega)))|(refine rg 9 (dK rfl (vV (cP rfl rfl (by omega) (by omega)) (vV (aL rfl rfl) ?_))))|(refine nD (id := 11) 220 yG8 (rM 61 15) [[],[61],[61,62],[61,62,63],[61,62,63],rM 61 5,rM 61 6,rM 61 6,rM 61 5,rM 61 5,rM 61 10,rM 61 11,rM 61 10,rM 61 10,[63,64,65],[63,64,65]] [(15,0)] cJ rfl (by decide +kernel) (cK rfl rfl rfl rfl (by exact cC rfl) ?_);refine cK rfl rfl rfl rfl (by exact cC rfl) ?_;refine cK rfl rfl rfl rfl (by exact cC rfl) ?_;refine cK rfl rfl rfl rfl (by exact cC rfl) ?_;refine cK rfl rfl rfl rfl (by exact bV rfl rfl (by omega) (by omega)) ?_;refine cK rfl rfl rfl rfl (by exact cC rfl) ?_;refine cK rfl rfl rfl rfl (by exact cC rfl) ?_;refine cK rfl rfl rfl rfl (by exact bV rfl rfl (by omega) (by omega)) ?_;refine cK rfl rfl rfl rfl (by exact aJ T rfl rfl rfl rfl rfl (by omega) (by omega)) ?_;refine cK rfl rfl rfl rfl (by exact aP T rfl rfl (bH rfl q2) rfl) ?_;refine cK rfl rfl rfl rfl (by exact cC rfl) ?_;refine cK rfl rfl rfl rfl (by exact cC rfl) ?_;refine cK rfl rfl rfl rfl (by exact aJ T rfl rfl rfl rfl rfl (by omega) (by omega)) ?_;refine cK rfl rfl rfl rfl (by exact aP T rfl rfl (bH rfl q1) rfl) ?_;refine cK rfl rfl rfl rfl (by exact aJ T rfl rfl rfl rfl rfl (by omega) (by omega)) ?_;refine vB rfl rfl rfl rfl (aN rfl) T rfl rfl rfl rfl rfl rfl (by decide) (tZ rfl q1 rfl) ?_;refine rB rfl rfl rfl (by exact rfl) ?_;refine vV (by exact aJ T rfl rfl rfl rfl rfl (by omega) (by omega)) ?_;refine aU T rfl rfl rfl rfl rfl rfl (by decide) (lX rfl q3 rfl) ?_)|(refine iA 10 rfl rfl rfl (by omega) (by omega) ?_)|refine nZ ?_));all_goals first | (exfalso;omega) | skip
      exact ⟨⟨t + 1,by omega⟩,by dsimp only;omega,⟨[0],rfl,⟨rfl,rfl,by dsimp only;rw [← hJ];try rfl,trivial⟩,⟨.inr (aD rfl (by dsimp only;rw [← t2];try rfl) (bM _)),trivial⟩,by decide,mA⟩⟩
    · obtain rfl : t = i - m := by omega
      have ee : M6 P V u R (i - m) = P ++ (dY eM ([u] ++ V) ++ R) := by rw [hmg];unfold M6;simp
      have hJ1 : ¬ ((a + (i - m) : Nat) : Int) < (i : Int) - 1 := by omega
      generalize ((a + (i - m) : Nat) : Int) = J at *
      (repeat' (first|refine wS ?_|refine wR ?_|refine wE ?_|(refine wC rfl ?_ ?_<;>(intro hb;(try simp only [nm] at hb);try (exfalso;omega)))|(refine rg 9 (dK rfl (vV (cP rfl rfl (by omega) (by omega)) (vV (aL rfl rfl) ?_))))|refine nZ ?_));all_goals first | (exfalso;omega) | exact ⟨.inl rfl,[0],_,rfl,rfl,rfl,⟨.inr (aD rfl (by rw [ee]) (bM _)),trivial⟩,by decide,mA⟩ | exact ⟨.inr rfl,[0],_,rfl,rfl,rfl,⟨.inr (aD rfl (by rw [ee]) (bM _)),trivial⟩,by decide,mA⟩
theorem zP6 (P U : List W) (v : W) (R : List W) {a m b N : Nat} (ha : a = P.length) (hm : m = a + U.length) (hb : b = m + 1) (hN : N = b + R.length) (hl : N ≤ 100000) (hU2 : 2 ≤ U.length) (hU : Up U) (hv : M7 v) (hw : ∀ w,w ∈ U → M7 w) :
    aR Tryz.prog 162 [.sl 0 0 N 3,.i a,.i m,.i b,rI] [.arr (fQ (P ++ (U ++ ([v] ++ R)))) 3] (.tup []) [.arr (fQ (P ++ (dY eM (U ++ [v]) ++ R))) 3] := by
  refine bO T Tryz.func162 rfl rfl rfl rfl ?_
  (repeat' (first|refine wS ?_|refine wB ?_|refine wK ?_|refine wT ?_|refine wU ?_|(refine rg 0 (dK rfl (vV (cP rfl rfl (by omega) (by omega)) (vV (gL rfl rfl (by omega)) ?_))))|(refine rg 12 (dK rfl (vV (cP rfl rfl (by omega) (by omega)) (vV (lO rfl rfl (by omega)) ?_))))|(refine rg 13 (mW rfl (aV ?_)))|(refine rg 14 (mW rfl (aV ?_)))|refine nZ ?_));refine cN (X := {q : Nat × Nat // a ≤ q.1 ∧ q.1 ≤ q.2 ∧ q.2 ≤ m ∧ (∀ z, 0 < q.1 - a → U[q.1 - a - 1]? = some z → ¬ eM v z < 0) ∧ (∀ z, U[q.2 - a]? = some z → eM v z < 0)})
    (fun q => [(0,.sl 0 0 N 3),(2,.i m),(4,rI),(14,.i q.1.1),(15,.i q.1.2)]) (fun _ => [.arr (fQ (P ++ (U ++ ([v] ++ R)))) 3]) (fun q => q.1.2 - q.1.1) ⟨(a,m),by dsimp only;exact ⟨by omega,by omega,by omega,fun z h => by omega,fun z h => by rw [cM (by omega)] at h;cases h⟩⟩
    ⟨[0],rfl,by (repeat (first | exact trivial | refine ⟨rfl,?_⟩)),⟨.inr (aD rfl rfl (bM _)),trivial⟩,by decide,mA⟩ ?_
  rintro ⟨⟨i,j⟩,h1,h2,h3,h4,h5⟩;dsimp only at h1 h2 h3 h4 h5 ⊢;by_cases hij : i < j
  · have hP : ((i : Int) + j) / 2 ^ (1 : Int).toNat = (((i + j) / 2 : Nat) : Int) := by rw [show (2 : Int) ^ (1 : Int).toNat = 2 from rfl];omega
    have hw1 : IntKind.u64.wrap ((i : Int) + j) = (i : Int) + j := W9 (by omega) (by omega)
    have hw2 : IntKind.i64.wrap (((i + j) / 2 : Nat) : Int) = (((i + j) / 2 : Nat) : Int) := IntWalk.i64_in _ (by omega)
    have hh : i ≤ (i + j) / 2 ∧ (i + j) / 2 < j := by omega
    generalize hq : (i + j) / 2 = q at *;obtain ⟨z,hz⟩ : ∃ z,U[q - a]? = some z := ⟨_,aA (by omega)⟩
    have q1 := pG (L := P ++ (U ++ ([v] ++ R))) (j := (m : Int)) (i := m) (x := v) (by rw [ZU (k := 0) (by omega) (by simp)];rfl) rfl
    have q2 := pG (L := P ++ (U ++ ([v] ++ R))) (j := (q : Int)) (i := q) (x := z) (by rw [ZV (k := q - a) (by omega) (by omega)];exact hz) rfl
    have hc := wW v z hv (hw z (aQ hz));by_cases h0 : eM v z < 0
    · generalize hx : eM v z = x at *
      (repeat' (first|refine wS ?_|refine wB ?_|refine wK ?_|(refine wC rfl ?_ ?_<;>(intro hb;(try simp only [nm] at hb);try (exfalso;omega)))|(refine rg 15 (dK rfl (vV (aL rfl rfl) ?_)))|(refine rg 16 (dK rfl (vV (bV rfl rfl (by omega) (by omega)) (vV (iM yR rD rfl hw1) (vV (by exact hP ▸ sD rfl rfl (by decide) (by decide)) ?_))));refine vV (iM rD yR rfl hw2) (aV ?_))|(refine bN (id := 17) 220 yH2 (rM 92 12) yH3 cJ rfl (by decide +kernel) (dN rfl (dN rfl (dN rfl (dV rfl (by exact aJ T rfl rfl rfl rfl rfl (by omega) (by omega)) ?_))));refine dV rfl (by exact aP T rfl rfl (bH rfl q1) rfl) ?_;refine dN rfl (dN rfl (dV rfl (by exact aJ T rfl rfl rfl rfl rfl (by omega) (by omega)) ?_));refine dV rfl (by exact aP T rfl rfl (bH rfl q2) rfl) ?_;refine dV rfl (kC (hc)) (dV rfl (aL rfl rfl) (dV rfl (dX rfl) (dE ?_))))|(refine rg 19 (mW rfl (aV ?_)))|refine nZ ?_));all_goals first | (exfalso;omega) | skip
      exact ⟨⟨(i,q),by dsimp only;exact ⟨by omega,by omega,by omega,h4,fun z' hz' => by rw [hz] at hz';cases hz';omega⟩⟩,by dsimp only;omega,⟨[0],rfl,by (repeat (first | exact trivial | refine ⟨rfl,?_⟩)),⟨.inr (aD rfl rfl (bM _)),trivial⟩,by decide,mA⟩⟩
    · generalize hx : eM v z = x at *
      (repeat' (first|refine wS ?_|refine wB ?_|refine wK ?_|(refine wC rfl ?_ ?_<;>(intro hb;(try simp only [nm] at hb);try (exfalso;omega)))|(refine rg 15 (dK rfl (vV (aL rfl rfl) ?_)))|(refine rg 16 (dK rfl (vV (bV rfl rfl (by omega) (by omega)) (vV (iM yR rD rfl hw1) (vV (by exact hP ▸ sD rfl rfl (by decide) (by decide)) ?_))));refine vV (iM rD yR rfl hw2) (aV ?_))|(refine bN (id := 17) 220 yH2 (rM 92 12) yH3 cJ rfl (by decide +kernel) (dN rfl (dN rfl (dN rfl (dV rfl (by exact aJ T rfl rfl rfl rfl rfl (by omega) (by omega)) ?_))));refine dV rfl (by exact aP T rfl rfl (bH rfl q1) rfl) ?_;refine dN rfl (dN rfl (dV rfl (by exact aJ T rfl rfl rfl rfl rfl (by omega) (by omega)) ?_));refine dV rfl (by exact aP T rfl rfl (bH rfl q2) rfl) ?_;refine dV rfl (kC (hc)) (dV rfl (aL rfl rfl) (dV rfl (dX rfl) (dE ?_))))|(refine iA 18 rfl rfl rfl (by omega) (by omega) ?_)|refine nZ ?_));all_goals first | (exfalso;omega) | skip
      exact ⟨⟨(q + 1,j),by dsimp only;exact ⟨by omega,by omega,by omega,fun z' _ hz' => by rw [show q + 1 - a - 1 = q - a by omega,hz] at hz';cases hz';omega,h5⟩⟩,by dsimp only;omega,⟨[0],rfl,by (repeat (first | exact trivial | refine ⟨rfl,?_⟩)),⟨.inr (aD rfl rfl (bM _)),trivial⟩,by decide,mA⟩⟩
  · obtain rfl : i = j := by omega
    have hmg := zR2 (v := v) (i := i - a) (by omega) hU h4 h5
    (repeat' (first|refine wS ?_|refine wB ?_|refine wE ?_|(refine wC rfl ?_ ?_<;>(intro hb;(try simp only [nm] at hb);try (exfalso;omega)))|(refine rg 15 (dK rfl (vV (aL rfl rfl) ?_)))|(refine rg 20 (mW rfl (aV ?_)))|refine nZ ?_));all_goals first | (exfalso;omega) | skip
    refine cN (X := {t : Nat // i - a ≤ t ∧ t ≤ U.length}) (fun t => [(0,.sl 0 0 N 3),(14,.i i),(17,.i ((a + t.1 : Nat) : Int))]) (fun t => [.arr (fQ (M6 P U v R t.1)) 3]) (fun t => t.1) ⟨U.length,by omega⟩ ⟨[0],rfl,⟨rfl,rfl,by dsimp only;rw [← hm];rfl,trivial⟩,⟨.inr (aD rfl (by dsimp only;unfold M6;simp) (bM _)),trivial⟩,by decide,mA⟩ ?_
    rintro ⟨t,ht,ht2⟩;dsimp only;by_cases hlt : i - a < t
    · obtain ⟨t,rfl⟩ : ∃ t',t = t' + 1 := ⟨t - 1,by omega⟩
      obtain ⟨y,_,_,_,_,p1,p2,p3,p4⟩ := HK (P := P) (u := v) (R := R) (show t < U.length by omega)
      have q1 := pG (j := ((a + (t + 1) : Nat) : Int)) p1 (by omega)
      have q2 := pG (j := ((a + (t + 1) : Nat) : Int) - 1) p2 (by omega)
      have t1 := wO (L := M6 P U v R (t + 1)) (j := ((a + (t + 1) : Nat) : Int)) (i := P.length + t + 1) (x := y) (by omega)
      have q3 := pG (j := ((a + (t + 1) : Nat) : Int) - 1) p3 (by omega)
      have t2 := wO (L := (M6 P U v R (t + 1)).set (P.length + t + 1) y) (j := ((a + (t + 1) : Nat) : Int) - 1) (i := P.length + t) (x := v) (by omega)
      rw [← t1] at q3 t2;rw [p4] at t2;have hJ : ((a + (t + 1) : Nat) : Int) - 1 = ((a + t : Nat) : Int) := by omega
      have hJ1 : ((a + (t + 1) : Nat) : Int) > (i : Int) := by omega
      have hJ2 : 1 ≤ ((a + (t + 1) : Nat) : Int) := by omega
      have hJ3 : ((a + (t + 1) : Nat) : Int) < N := by omega
      clear p1 p2 p3 p4 t1;generalize ((a + (t + 1) : Nat) : Int) = J at *;generalize M6 P U v R (t + 1) = L at *
      (repeat' (first|refine wS ?_|refine wB ?_|refine wK ?_|(refine wC rfl ?_ ?_<;>(intro hb;(try simp only [nm] at hb);try (exfalso;omega)))|(refine rg 21 (dK rfl (vV (fM rfl rfl) ?_)))|(refine nD (id := 23) 220 yG8 (rM 113 15) [[],[113],[113,114],[113,114,115],[113,114,115],rM 113 5,rM 113 6,rM 113 6,rM 113 5,rM 113 5,rM 113 10,rM 113 11,rM 113 10,rM 113 10,[115,116,117],[115,116,117]] [(15,0)] cJ rfl (by decide +kernel) (cK rfl rfl rfl rfl (by exact cC rfl) ?_);refine cK rfl rfl rfl rfl (by exact cC rfl) ?_;refine cK rfl rfl rfl rfl (by exact cC rfl) ?_;refine cK rfl rfl rfl rfl (by exact cC rfl) ?_;refine cK rfl rfl rfl rfl (by exact cP rfl rfl (by omega) (by omega)) ?_;refine cK rfl rfl rfl rfl (by exact cC rfl) ?_;refine cK rfl rfl rfl rfl (by exact cC rfl) ?_;refine cK rfl rfl rfl rfl (by exact cP rfl rfl (by omega) (by omega)) ?_;refine cK rfl rfl rfl rfl (by exact aJ T rfl rfl rfl rfl rfl (by omega) (by omega)) ?_;refine cK rfl rfl rfl rfl (by exact aP T rfl rfl (bH rfl q2) rfl) ?_;refine cK rfl rfl rfl rfl (by exact cC rfl) ?_;refine cK rfl rfl rfl rfl (by exact cC rfl) ?_;refine cK rfl rfl rfl rfl (by exact aJ T rfl rfl rfl rfl rfl (by omega) (by omega)) ?_;refine cK rfl rfl rfl rfl (by exact aP T rfl rfl (bH rfl q1) rfl) ?_;refine cK rfl rfl rfl rfl (by exact aJ T rfl rfl rfl rfl rfl (by omega) (by omega)) ?_;refine vB rfl rfl rfl rfl (aN rfl) T rfl rfl rfl rfl rfl rfl (by decide) (tZ rfl q1 rfl) ?_;refine rB rfl rfl rfl (by exact rfl) ?_;refine vV (by exact aJ T rfl rfl rfl rfl rfl (by omega) (by omega)) ?_;refine aU T rfl rfl rfl rfl rfl rfl (by decide) (lX rfl q3 rfl) ?_)|(refine rg 22 (mW rfl (vV (cP rfl rfl (by omega) (by omega)) (aV ?_))))|refine nZ ?_));all_goals first | (exfalso;omega) | skip
      exact ⟨⟨t,by omega⟩,by dsimp only;omega,⟨[0],rfl,⟨rfl,rfl,by dsimp only;rw [← hJ];try rfl,trivial⟩,⟨.inr (aD rfl (by dsimp only;rw [← t2];try rfl) (bM _)),trivial⟩,by decide,mA⟩⟩
    · obtain rfl : t = i - a := by omega
      have ee : M6 P U v R (i - a) = P ++ (dY eM (U ++ [v]) ++ R) := by rw [hmg];unfold M6;simp
      have hJ1 : ¬ ((a + (i - a) : Nat) : Int) > (i : Int) := by omega
      generalize ((a + (i - a) : Nat) : Int) = J at *
      (repeat' (first|refine wS ?_|refine wR ?_|refine wE ?_|(refine wC rfl ?_ ?_<;>(intro hb;(try simp only [nm] at hb);try (exfalso;omega)))|(refine rg 21 (dK rfl (vV (fM rfl rfl) ?_)))|refine nZ ?_));all_goals first | (exfalso;omega) | exact ⟨.inl rfl,[0],_,rfl,rfl,rfl,⟨.inr (aD rfl (by rw [ee]) (bM _)),trivial⟩,by decide,mA⟩ | exact ⟨.inr rfl,[0],_,rfl,rfl,rfl,⟨.inr (aD rfl (by rw [ee]) (bM _)),trivial⟩,by decide,mA⟩
end Go.Proofs.YtmmkhmilpeodnaaGreat
namespace Go.Ab
open Go
set_option maxHeartbeats 1000000
theorem pR {z : Array Value} {zs : List Value} (hz : z.toList = zs) (hn : zs ≠ []) (m : Nat) : (∀ v,v ∈ (Builtin.zeroCells z m).toList → v ∈ zs) ∧ (Builtin.zeroCells z m).toList.length = m * zs.length := by
  subst hz;have h0 : 0 < z.size := by
    rcases M1 z.size with h | h
    · exact absurd (by simpa using Array.size_eq_zero_iff.1 h) hn
    · exact h
  unfold Builtin.zeroCells;constructor
  · intro v hv;simp only [bE,Array.toList_ofFn,List.mem_ofFn,Array.toList_map,Array.toList_range] at hv;rcases hv with ⟨i,hi⟩
    first
      | (have hlt := Nat.mod_lt i.1 h0;rw [getElem!_pos z _ hlt] at hi;rw [← hi];exact Array.mem_toList_iff.2 (Array.getElem_mem _))
      | (have hlt := Nat.mod_lt i h0;rw [getElem!_pos z _ hlt] at hi;rw [← hi.2];exact Array.mem_toList_iff.2 (Array.getElem_mem _))
  · simp
section
variable {P : Program} {env : dW} {h : Hp} {n : Nat × Nat} {ops : Array Oper} {rest : List Oper} {K : dW → Hp → Prop} {ty : TypeId} {pos : String} {af : Array Edge}
theorem M9 (T : oG P) {t e k off len sz : Nat} {i : TI} {x : Operand} {es : List (List AV)} (hx : evu env x = some (.sl k off len sz)) (ht : T.elem t = some e) (he : T.ti e = some i) (hz : i.zero.length = sz ∧ i.zero.all Value.oneCell' = true ∧ 0 < sz) (hkk : h[k]? = some (.arr es sz)) (hle : off + len ≤ es.length)
    (hk : VC P n ops rest env (h.set k (.arr (es.take off) sz)) K) : VC P n ops (⟨none,.call { callee := .builtin .clear,args := #[x],argTypes := #[t] },ty,pos,af,none⟩ :: rest) env h K := by
  intro c ρ S a w Q s hQ;refine wpList_plain rfl fun K' hK' => ?_
  have p := s.pre;have hxv := p.evu hx;simp only [R] at hxv;obtain ⟨ad,cap,hev,_,hxv⟩ := hxv;obtain ⟨inf,z,t1,t2,t3,t4,t5,t6,t7⟩ := T.tiOk e i he;have hund : P.underlying t = some (.slice e) := T.elemOk _ _ ht;have hzv : ∀ w,(zeroValue e).run P w = .ok z w := fun w => by simp [zeroValue,typeInfo,t1,t4]
  obtain ⟨hz1,hz2,hz3⟩ := hz;have hzc := pR (z := z.cells) t5 (fun h0 => by rw [h0] at hz1;simp at hz1;omega)
  have ev1 : ∀ r w',(Builtin.clear_ #[t] ty #[a.eval x]).run P w = .ok r w' → (execOp a.eval ⟨none,.call { callee := .builtin .clear,args := #[x],argTypes := #[t] },ty,pos,af,none⟩).run P w = .ok (.value r) w' := fun r w' hr => by
    simp [execOp,resolve,invoke,builtin,hr]
  have fin : ∀ {r : Value} {w' : World},(Builtin.clear_ #[t] ty #[a.eval x]).run P w = .ok r w' → HS c ρ S (h.set k (.arr (es.take off) sz)) w' ∧ iC ρ ρ S S w w' → Oper.wp P ⟨none,.call { callee := .builtin .clear,args := #[x],argTypes := #[t] },ty,pos,af,none⟩ a w K' Q := fun {r w'} hr ⟨g1,g2⟩ => by
    unfold Oper.wp;rw [ev1 r w' hr];exact hK' _ _ (hk c ρ S _ _ Q ⟨by rw [mY];exact s.size,by rw [kL];exact s.defers.later g2,fun tt uu huu => (s.env tt uu huu).later g2,g1,s.cm⟩ hQ)
  have stay : HS c ρ S (h.set k (.arr (es.take off) sz)) w ∧ iC ρ ρ S S w w := ⟨s.hs.alter hkk (GX off) (by simp),⟨fun _ _ h => h,fun _ h => h,fun _ _ => rfl,fun _ _ _ _ _ h => h⟩⟩
  cases len with
  | zero =>
    refine fin (r := .tuple #[]) ?_ stay;rw [hev];cases ad <;> simp [Builtin.clear_,run_underlying hund]
  | succ m =>
    rcases hxv with ⟨h0,_⟩ | ⟨b,o,hp,ha,hlc,hroom⟩
    · cases h0
    · have hB := p.blk k _ hkk;obtain ⟨hes,hs0,hB⟩ := hB;rcases hB with hB | ⟨b',o',ys,h4,⟨cc,ct,h5,h6⟩,h7⟩
      · obtain ⟨hB,_⟩ := hB;subst hB;simp at hle
      rw [hp] at h4;cases h4;have hyl := fD h7;have hfl := eB hes;have hmul : (off + (m + 1)) * sz ≤ es.length * sz := eW _ hle;rw [eC] at hmul;have hpos : 0 < (m + 1) * sz := zO6 (by omega) hz3
      have hlast := h6 (ys.length - 1) (ys[ys.length - 1]'(by omega)) (aA _)
      have hsz := (aG.1 hlast).1;obtain ⟨hzm,hzl⟩ := hzc (m + 1);rw [hz1] at hzl;generalize hZ : (Builtin.zeroCells z.cells (m + 1)).toList = Z at *;have hst := run_storeCells_at P b (o + off * sz) ct Z 0 cc w h5 (by rw [hzl];omega) (by intro v hv;exact (bG.1 hz2) v (hzm v hv))
      subst ha;refine fin (r := .tuple #[]) (w' := w.setRow b (cc.toList.take (o + off * sz + 0) ++ Z ++ cc.toList.drop (o + off * sz + 0 + Z.length)).toArray) ?_ (s.hs.upd hkk (by simp) hp (qU h5 ?_) fun l => ?_)
      · rw [hev];simp only [Builtin.clear_];simp [run_underlying hund,hzv,hZ,hst]
      · simp;omega
      · refine ⟨fun e he => hes e (eJ he),hz3,.inr ⟨b,o,ys.take (off * sz),rfl,⟨_,ct,setRow_heap w b cc _ ct _ h5,fun j y hj => ?_⟩,?_⟩⟩
        · rw [bZ] at hj;split at hj
          · rename_i hjo;have := h6 j y hj;have hjl := (aG.1 this).1;rw [iL,bP,aH (by simp;omega),bZ,if_pos (by omega)]
            simpa using this
          · cases hj
        · rw [C9 hes];exact qF (h7.later l) _
end
end Go.Ab
namespace Go.Ld
open Go.Ab Go.Proofs.YtmmkhmilpeodnaaGreat
theorem zE6 {P U V R : List W} {a m b mid n lo hi s : Nat} (ha : a = P.length) (hm : m = a + U.length) (hb : b = m + V.length) (hmid : mid = (a + b) / 2) (hn : n = mid + m) (hU : Up U) (hV : Up V)
    (hc : mid < m ∧ lo = n - b ∧ hi = mid ∨ m ≤ mid ∧ lo = a ∧ hi = m) (hs1 : lo ≤ s) (hs2 : s ≤ hi)
    (h1 : ∀ x y,lo < s → (P ++ (U ++ (V ++ R)))[s - 1]? = some x → (P ++ (U ++ (V ++ R)))[n - s]? = some y → ¬ eM y x < 0)
    (h2 : ∀ x y,s < hi → (P ++ (U ++ (V ++ R)))[s]? = some x → (P ++ (U ++ (V ++ R)))[n - 1 - s]? = some y → eM y x < 0) :
    ∃ X1 X2 Y1 Y2,U = X1 ++ X2 ∧ V = Y1 ++ Y2 ∧ s = a + X1.length ∧ n = (m + Y1.length) + s ∧ mid = a + X1.length + Y1.length ∧ dY eM (U ++ V) = dY eM (X1 ++ Y1) ++ dY eM (X2 ++ Y2) := by
  have f1 : a ≤ s ∧ s ≤ m ∧ m + s ≤ n ∧ n ≤ b + s := by rcases hc with ⟨c1,c2,c3⟩ | ⟨c1,c2,c3⟩ <;> omega
  obtain ⟨f1,f2,f3,f4⟩ := f1;refine ⟨U.take (s - a),U.drop (s - a),V.take (n - s - m),V.drop (n - s - m),by simp,by simp,by rw [bD];omega,by rw [bD];omega,by rw [bD,bD];omega,?_⟩
  refine zY9 hU hV (by omega) (by omega) (fun x y h0 hx hy => ?_) (fun x y h0 hx hy => ?_)
  · have i1 := (aB.1 hy).1;refine h1 x y (by rcases hc with ⟨c1,c2,c3⟩ | ⟨c1,c2,c3⟩ <;> omega) ?_ ?_
    · rw [ZV (k := s - a - 1) (by omega) (by omega)];exact hx
    · rw [ZU (k := n - s - m) (by omega) (by omega)];exact hy
  · have i1 := (aB.1 hx).1;refine h2 x y (by rcases hc with ⟨c1,c2,c3⟩ | ⟨c1,c2,c3⟩ <;> omega) ?_ ?_
    · rw [ZV (k := s - a) (by omega) (by omega)];exact hx
    · rw [ZU (k := n - s - m - 1) (by omega) (by omega)];exact hy
theorem zW1 {A B : List W} (h : Up (A ++ B)) : Up A := (eX.1 h).1
theorem zW0 {A B : List W} (h : Up (A ++ B)) : Up B := (eX.1 h).2.1
def bs (k : Nat) (l : List W) : List W := if h : l.length ≤ k ∨ k = 0 then dY eM l else dY eM (l.take k) ++ bs k (l.drop k)
  termination_by l.length
  decreasing_by simp only [dJ];omega
theorem S7 {k : Nat} {l : List W} (h : l.length ≤ k) : bs k l = dY eM l := by unfold bs;rw [dif_pos (.inl h)]
theorem zZ3 {k : Nat} {l : List W} (h : k < l.length) (h0 : 0 < k) : bs k l = dY eM (l.take k) ++ bs k (l.drop k) := by rw [bs,dif_neg (by omega)]
theorem BD {k : Nat} {a b : List W} (h : a.length = k) (h0 : 0 < k) : bs k (a ++ b) = dY eM a ++ bs k b := by
  subst h;cases b with
  | nil => rw [List.append_nil,S7 (aY _),S7 (bU _)];simp [dY]
  | cons x b => rw [zZ3 (by simp) h0,wI,wM]
theorem zU4 (k : Nat) (l : List W) : (bs k l).length = l.length := by
  induction hn : l.length using Nat.strongRecOn generalizing l with
  | _ n ih =>
    unfold bs;split
    · rw [iP,hn]
    · rw [aF,iP,bD,ih (l.drop k).length (by rw [dJ];omega) _ rfl,dJ];omega
theorem HW (a b : List W) : dY eM (dY eM a ++ dY eM b) = dY eM (a ++ b) :=
  I7 ((dD _ _).trans ((dD _ _).append (dD _ _)).symm) (lM jH _)
end Go.Ld
namespace Go.Proofs.YtmmkhmilpeodnaaGreat
open Go Go.Ab Go.Ld
attribute [local irreducible] VC AW bX aR yT
set_option maxHeartbeats 4000000
theorem zN7 : ∀ (k : Nat) (P U V R : List W) {a m b N : Nat},b - a ≤ k → 0 < U.length → 0 < V.length → a = P.length → m = a + U.length → b = m + V.length → N = b + R.length → N ≤ 100000 → Up U → Up V → (∀ w,w ∈ U → M7 w) → (∀ w,w ∈ V → M7 w) →
    aR Tryz.prog 162 [.sl 0 0 N 3,.i a,.i m,.i b,rI] [.arr (fQ (P ++ (U ++ (V ++ R)))) 3] (.tup []) [.arr (fQ (P ++ (dY eM (U ++ V) ++ R))) 3] := by
  intro k
  induction k with
  | zero => intros;exfalso;omega
  | succ k ih =>
    intro P U V R a m b N hk hU0 hV0 ha hm hb hN hl hU hV hwU hwV;by_cases hu1 : U.length = 1
    · obtain ⟨u,rfl⟩ := List.length_eq_one_iff.1 hu1;exact zP7 P u V R ha hm hb hN hl hV (hwU u (by simp)) hwV
    by_cases hv1 : V.length = 1
    · obtain ⟨v,rfl⟩ := List.length_eq_one_iff.1 hv1;exact zP6 P U v R ha hm hb hN hl (by omega) hU (hwV v (by simp)) hwU
    have hP : ((a : Int) + b) / 2 ^ (1 : Int).toNat = (((a + b) / 2 : Nat) : Int) := by rw [show (2 : Int) ^ (1 : Int).toNat = 2 from rfl];omega
    have hw1 : IntKind.u64.wrap ((a : Int) + b) = (a : Int) + b := W9 (by omega) (by omega)
    have hw2 : IntKind.i64.wrap (((a + b) / 2 : Nat) : Int) = (((a + b) / 2 : Nat) : Int) := IntWalk.i64_in _ (by omega)
    obtain ⟨mid,hmid⟩ : ∃ mid,mid = (a + b) / 2 := ⟨_,rfl⟩;rw [← hmid] at hP hw2;have hD1 : ∀ i,a ≤ i → i < m → (P ++ (U ++ (V ++ R)))[i]? = U[i - a]? := fun i h1 h2 => ZV (by omega) (by omega)
    have hD2 : ∀ i,m ≤ i → i < b → (P ++ (U ++ (V ++ R)))[i]? = V[i - m]? := fun i h1 h2 => ZU (by omega) (by omega)
    have hcut : ∀ {lo hi s : Nat},_ := @zE6 P U V R a m b mid (mid + m);generalize hDe : P ++ (U ++ (V ++ R)) = D at *;refine bO T Tryz.func162 rfl rfl rfl rfl ?_;apply Go.Ab.cutT (T := ∀ lo hi : Nat,(mid < m ∧ lo = mid + m - b ∧ hi = mid ∨ m ≤ mid ∧ lo = a ∧ hi = m) → _)
    · intro rest;by_cases h : mid < m
      · obtain ⟨lo,hlo⟩ : ∃ lo : Nat,lo = mid + m - b := ⟨_,rfl⟩;obtain ⟨hi,hhi⟩ : ∃ hi : Nat,hi = mid := ⟨_,rfl⟩
        (repeat' (first|refine wS ?_|refine wB ?_|refine wK ?_|refine wU ?_|(refine wC rfl ?_ ?_<;>(intro hb;(try simp only [nm] at hb);try (exfalso;omega)))|(refine rg 0 (dK rfl (vV (cP rfl rfl (by omega) (by omega)) (vV (gL rfl rfl (by omega)) ?_))))|(refine rg 12 (dK rfl (vV (cP rfl rfl (by omega) (by omega)) (vV (gL rfl rfl (by omega)) ?_))))|(refine rg 24 (dK rfl (vV (bV rfl rfl (by omega) (by omega)) (vV (iM yR rD rfl hw1) (vV (by exact hP ▸ sD rfl rfl (by decide) (by decide)) ?_))));refine vV (iM rD yR rfl hw2) (aV ?_))|(refine rg 25 (dK rfl (vV (bV rfl rfl (by omega) (by omega)) (aV ?_))))|(refine rg 26 (qJ ?_))|(refine rg 27 (dK rfl (vV (fM rfl rfl) ?_)))|(refine rg 28 (dK rfl (vV (cP rfl rfl (by omega) (by omega)) (aV ?_))))|(refine rg 29 (mW rfl (aV ?_)))|(refine rg 32 (mW rfl (vV (cP rfl rfl (by omega) (by omega)) (aV ?_))))|refine nZ ?_));all_goals first | (exfalso;omega) | exact fE [(0,.sl 0 0 N 3),(1,.i a),(2,.i m),(3,.i b),(4,rI),(18,.i mid),(19,.i ((mid : Int) + m)),(20,.i lo),(21,.i hi),(22,.i ((mid : Int) + m - 1))] [.arr (fQ D) 3] ⟨[0],rfl,⟨rfl,rfl,rfl,rfl,rfl,rfl,rfl,by rw [show (lo : Int) = (mid : Int) + m - b by omega];rfl,by rw [hhi];rfl,rfl,trivial⟩,⟨.inr (aD rfl rfl (bM _)),trivial⟩,by decide,mA⟩ (rest.get lo hi (by omega))
      · obtain ⟨lo,hlo⟩ : ∃ lo : Nat,lo = a := ⟨_,rfl⟩;obtain ⟨hi,hhi⟩ : ∃ hi : Nat,hi = m := ⟨_,rfl⟩
        (repeat' (first|refine wS ?_|refine wB ?_|refine wK ?_|refine wU ?_|(refine wC rfl ?_ ?_<;>(intro hb;(try simp only [nm] at hb);try (exfalso;omega)))|(refine rg 0 (dK rfl (vV (cP rfl rfl (by omega) (by omega)) (vV (gL rfl rfl (by omega)) ?_))))|(refine rg 12 (dK rfl (vV (cP rfl rfl (by omega) (by omega)) (vV (gL rfl rfl (by omega)) ?_))))|(refine rg 24 (dK rfl (vV (bV rfl rfl (by omega) (by omega)) (vV (iM yR rD rfl hw1) (vV (by exact hP ▸ sD rfl rfl (by decide) (by decide)) ?_))));refine vV (iM rD yR rfl hw2) (aV ?_))|(refine rg 25 (dK rfl (vV (bV rfl rfl (by omega) (by omega)) (aV ?_))))|(refine rg 26 (qJ ?_))|(refine rg 27 (dK rfl (vV (fM rfl rfl) ?_)))|(refine rg 30 (mW rfl (aV ?_)))|(refine rg 31 (mW rfl (aV ?_)))|(refine rg 32 (mW rfl (vV (cP rfl rfl (by omega) (by omega)) (aV ?_))))|refine nZ ?_));all_goals first | (exfalso;omega) | exact fE [(0,.sl 0 0 N 3),(1,.i a),(2,.i m),(3,.i b),(4,rI),(18,.i mid),(19,.i ((mid : Int) + m)),(20,.i lo),(21,.i hi),(22,.i ((mid : Int) + m - 1))] [.arr (fQ D) 3] ⟨[0],rfl,⟨rfl,rfl,rfl,rfl,rfl,rfl,rfl,by rw [hlo];rfl,by rw [hhi];rfl,rfl,trivial⟩,⟨.inr (aD rfl rfl (bM _)),trivial⟩,by decide,mA⟩ (rest.get lo hi (by omega))
    intro lo hi hc;have hcut := fun s => @hcut lo hi s ha hm hb hmid rfl hU hV hc
    refine cN (X := {q : Nat × Nat // lo ≤ q.1 ∧ q.1 ≤ q.2 ∧ q.2 ≤ hi ∧ (∀ x y, lo < q.1 → D[q.1 - 1]? = some x → D[mid + m - q.1]? = some y → ¬ eM y x < 0) ∧ (∀ x y, q.2 < hi → D[q.2]? = some x → D[mid + m - 1 - q.2]? = some y → eM y x < 0)})
      (fun q => [(0,.sl 0 0 N 3),(1,.i a),(2,.i m),(3,.i b),(4,rI),(18,.i mid),(19,.i ((mid : Int) + m)),(20,.i q.1.1),(21,.i q.1.2),(22,.i ((mid : Int) + m - 1))]) (fun _ => [.arr (fQ D) 3]) (fun q => q.1.2 - q.1.1) ⟨(lo,hi),by dsimp only;exact ⟨by omega,by omega,by omega,fun x y h => by omega,fun x y h => by omega⟩⟩
      ⟨[0],rfl,by (repeat (first | exact trivial | refine ⟨rfl,?_⟩)),⟨.inr (aD rfl rfl (bM _)),trivial⟩,by decide,mA⟩ ?_
    rintro ⟨⟨i,j⟩,h1,h2,h3,h4,h5⟩;dsimp only at h1 h2 h3 h4 h5 ⊢;have hlo : a ≤ lo ∧ hi ≤ m ∧ m ≤ mid + m - hi ∧ mid + m - lo ≤ b ∧ lo ≤ mid + m := by omega
    by_cases hij : i < j
    · clear hP hw1 hw2;have hP : ((i : Int) + j) / 2 ^ (1 : Int).toNat = (((i + j) / 2 : Nat) : Int) := by rw [show (2 : Int) ^ (1 : Int).toNat = 2 from rfl];omega
      have hw1 : IntKind.u64.wrap ((i : Int) + j) = (i : Int) + j := W9 (by omega) (by omega)
      have hw2 : IntKind.i64.wrap (((i + j) / 2 : Nat) : Int) = (((i + j) / 2 : Nat) : Int) := IntWalk.i64_in _ (by omega)
      have hh : i ≤ (i + j) / 2 ∧ (i + j) / 2 < j := by omega
      generalize hq : (i + j) / 2 = q at *;obtain ⟨x,hx⟩ : ∃ x,U[q - a]? = some x := ⟨_,aA (by omega)⟩
      obtain ⟨y,hy⟩ : ∃ y,V[mid + m - 1 - q - m]? = some y := ⟨_,aA (by omega)⟩
      have wx := hwU x (aQ hx);have wy := hwV y (aQ hy);rw [← hD1 q (by omega) (by omega)] at hx
      rw [← hD2 (mid + m - 1 - q) (by omega) (by omega)] at hy
      have q1 := pG (j := (mid : Int) + m - 1 - q) hy (by omega)
      have q2 := pG (j := (q : Int)) hx rfl;have hc' := wW y x wy wx;by_cases h0 : eM y x < 0
      · generalize hz : eM y x = z at *
        (repeat' (first|refine wS ?_|refine wB ?_|refine wK ?_|(refine wC rfl ?_ ?_<;>(intro hb;(try simp only [nm] at hb);try (exfalso;omega)))|(refine rg 33 (dK rfl (vV (aL rfl rfl) ?_)))|(refine rg 34 (dK rfl (vV (bV rfl rfl (by omega) (by omega)) (vV (iM yR rD rfl hw1) (vV (by exact hP ▸ sD rfl rfl (by decide) (by decide)) ?_))));refine vV (iM rD yR rfl hw2) (aV ?_))|(refine bN (id := 35) 220 yH4 (rM 158 14) yH5 cJ rfl (by decide +kernel) (dN rfl (dN rfl (dN rfl (dN rfl (dV rfl (cP rfl rfl (by omega) (by omega)) (dV rfl (by exact aJ T rfl rfl rfl rfl rfl (by omega) (by omega)) ?_))))));refine dV rfl (by exact aP T rfl rfl (bH rfl q1) rfl) ?_;refine dN rfl (dN rfl (dV rfl (by exact aJ T rfl rfl rfl rfl rfl (by omega) (by omega)) ?_));refine dV rfl (by exact aP T rfl rfl (bH rfl q2) rfl) ?_;refine dV rfl (kC (hc')) (dV rfl (aL rfl rfl) (dV rfl (dX rfl) (dE ?_))))|(refine rg 37 (mW rfl (aV ?_)))|refine nZ ?_));all_goals first | (exfalso;omega) | skip
        exact ⟨⟨(i,q),by dsimp only;exact ⟨by omega,by omega,by omega,h4,fun x' y' _ hx' hy' => by rw [hx] at hx';rw [hy] at hy';cases hx';cases hy';omega⟩⟩,by dsimp only;omega,⟨[0],rfl,by (repeat (first | exact trivial | refine ⟨rfl,?_⟩)),⟨.inr (aD rfl rfl (bM _)),trivial⟩,by decide,mA⟩⟩
      · generalize hz : eM y x = z at *
        (repeat' (first|refine wS ?_|refine wB ?_|refine wK ?_|(refine wC rfl ?_ ?_<;>(intro hb;(try simp only [nm] at hb);try (exfalso;omega)))|(refine rg 33 (dK rfl (vV (aL rfl rfl) ?_)))|(refine rg 34 (dK rfl (vV (bV rfl rfl (by omega) (by omega)) (vV (iM yR rD rfl hw1) (vV (by exact hP ▸ sD rfl rfl (by decide) (by decide)) ?_))));refine vV (iM rD yR rfl hw2) (aV ?_))|(refine bN (id := 35) 220 yH4 (rM 158 14) yH5 cJ rfl (by decide +kernel) (dN rfl (dN rfl (dN rfl (dN rfl (dV rfl (cP rfl rfl (by omega) (by omega)) (dV rfl (by exact aJ T rfl rfl rfl rfl rfl (by omega) (by omega)) ?_))))));refine dV rfl (by exact aP T rfl rfl (bH rfl q1) rfl) ?_;refine dN rfl (dN rfl (dV rfl (by exact aJ T rfl rfl rfl rfl rfl (by omega) (by omega)) ?_));refine dV rfl (by exact aP T rfl rfl (bH rfl q2) rfl) ?_;refine dV rfl (kC (hc')) (dV rfl (aL rfl rfl) (dV rfl (dX rfl) (dE ?_))))|(refine iA 36 rfl rfl rfl (by omega) (by omega) ?_)|refine nZ ?_));all_goals first | (exfalso;omega) | skip
        exact ⟨⟨(q + 1,j),by dsimp only;exact ⟨by omega,by omega,by omega,fun x' y' _ hx' hy' => by rw [show q + 1 - 1 = q by omega,hx] at hx';rw [show mid + m - (q + 1) = mid + m - 1 - q by omega,hy] at hy';cases hx';cases hy';omega,h5⟩⟩,by dsimp only;omega,⟨[0],rfl,by (repeat (first | exact trivial | refine ⟨rfl,?_⟩)),⟨.inr (aD rfl rfl (bM _)),trivial⟩,by decide,mA⟩⟩
    · obtain rfl : i = j := by omega
      obtain ⟨X1,X2,Y1,Y2,rfl,rfl,e1,e2,e3,hsrt⟩ := hcut i (by omega) (by omega) h4 h5
      clear hcut h4 h5 hD1 hD2 hP hw1 hw2;rw [hsrt];obtain ⟨e,he⟩ : ∃ e,e = m + Y1.length := ⟨_,rfl⟩;simp only [aF] at hm hb hU0 hV0 hu1 hv1;have uX1 := zW1 hU;have uX2 := zW0 hU;have uY1 := zW1 hV;have uY2 := zW0 hV;have w1 := ih P X1 Y1 (X2 ++ (Y2 ++ R)) (a := a) (m := i) (b := mid) (N := N);have w2 := ih (P ++ dY eM (X1 ++ Y1)) X2 Y2 R (a := mid) (m := e) (b := b) (N := N);have hsl : (dY eM (X1 ++ Y1)).length = X1.length + Y1.length := by rw [iP,aF]
      have w0 := VW (P ++ X1) X2 Y1 (Y2 ++ R) (a := i) (m := m) (b := e) (N := N);simp only [aF,hsl] at w0 w1 w2;have c0 : i < m → m < e → _ := fun h h' => w0 (by omega) (by omega) (by omega) (by omega) hl (by omega) (by omega)
      have c1 : a < i → i < mid → _ := fun h h' => w1 (by omega) (by omega) (by omega) ha (by omega) (by omega) (by omega) hl uX1 uY1 (fun w hw => hwU w (by simp [hw])) (fun w hw => hwV w (by simp [hw]))
      have c2 : mid < e → e < b → _ := fun h h' => w2 (by omega) (by omega) (by omega) (by omega) (by omega) (by omega) (by omega) hl uX2 uY2 (fun w hw => hwU w (by simp [hw])) (fun w hw => hwV w (by simp [hw]))
      have d0 : ¬ (i < m ∧ m < e) → D = P ++ (X1 ++ (Y1 ++ (X2 ++ (Y2 ++ R)))) := fun h => by
        rw [← hDe];by_cases h' : X2.length = 0
        · rw [bW h'];simp
        · rw [bW (show Y1.length = 0 by omega)];simp
      have d1 : ¬ (a < i ∧ i < mid) → P ++ (X1 ++ (Y1 ++ (X2 ++ (Y2 ++ R)))) = P ++ (dY eM (X1 ++ Y1) ++ (X2 ++ (Y2 ++ R))) := fun h => by
        by_cases h' : X1.length = 0
        · rw [bW h',List.nil_append,List.nil_append,U8 uY1]
        · rw [bW (show Y1.length = 0 by omega),List.nil_append,List.append_nil,U8 uX1]
      have d2 : ¬ (mid < e ∧ e < b) → P ++ (dY eM (X1 ++ Y1) ++ (X2 ++ (Y2 ++ R))) = P ++ (dY eM (X1 ++ Y1) ++ dY eM (X2 ++ Y2) ++ R) := fun h => by
        by_cases h' : X2.length = 0
        · rw [bW h',List.nil_append,List.nil_append,U8 uY2];simp
        · rw [bW (show Y2.length = 0 by omega),List.nil_append,List.append_nil,U8 uX2];simp
      have g0 : (P ++ X1) ++ (X2 ++ (Y1 ++ (Y2 ++ R))) = D := by rw [← hDe];simp
      have g1 : (P ++ X1) ++ (Y1 ++ (X2 ++ (Y2 ++ R))) = P ++ (X1 ++ (Y1 ++ (X2 ++ (Y2 ++ R)))) := by simp
      have g2 : (P ++ dY eM (X1 ++ Y1)) ++ (X2 ++ (Y2 ++ R)) = P ++ (dY eM (X1 ++ Y1) ++ (X2 ++ (Y2 ++ R))) := by simp
      have g3 : (P ++ dY eM (X1 ++ Y1)) ++ (dY eM (X2 ++ Y2) ++ R) = P ++ (dY eM (X1 ++ Y1) ++ dY eM (X2 ++ Y2) ++ R) := by simp
      rw [g0,g1] at c0;rw [g2,g3] at c2;clear w0 w1 w2 ih g0 g1 g2 g3 hDe hwU hwV;generalize P ++ (dY eM (X1 ++ Y1) ++ dY eM (X2 ++ Y2) ++ R) = A3 at *;generalize P ++ (dY eM (X1 ++ Y1) ++ (X2 ++ (Y2 ++ R))) = A2 at *;generalize P ++ (X1 ++ (Y1 ++ (X2 ++ (Y2 ++ R)))) = A1 at *;apply Go.Ab.cutT
      · intro rest;by_cases h : i < m ∧ m < e
        · have hc' := c0 h.1 h.2;rw [show (e : Int) = (mid : Int) + m - i by omega] at hc'
          (repeat' (first|refine wS ?_|refine wE ?_|(refine wC rfl ?_ ?_<;>(intro hb;(try simp only [nm] at hb);try (exfalso;omega)))|(refine rg 33 (dK rfl (vV (aL rfl rfl) ?_)))|(refine rg 38 (dK rfl (vV (cP rfl rfl (by omega) (by omega)) (aV ?_))))|(refine rg 39 (dK rfl (vV (aL rfl rfl) (mV ?_)));refine cH rfl rfl ?_ ?_<;>(intro hb;rw [hb];(try simp only [nm] at hb);try (exfalso;omega));(all_goals (refine yN rfl (yN rfl (yV (aL rfl rfl) (pV ?_))))))|(refine rg 40 (dK rfl (dK rfl (mW rfl (fF [0] rfl rfl (hc') rfl rfl (by decide) ⟨.inr (aD rfl rfl (bM _)),trivial⟩ (by simp) rfl ?_)))))|refine nZ ?_));all_goals first | (exfalso;omega) | exact fE [(0,.sl 0 0 N 3),(1,.i a),(3,.i b),(4,rI),(18,.i mid),(20,.i i),(24,.i e)] [.arr (fQ A1) 3] ⟨[0],rfl,⟨rfl,rfl,rfl,rfl,rfl,rfl,by rw [show (e : Int) = (mid : Int) + m - i by omega];rfl,trivial⟩,⟨.inr (aD rfl (bY _ (bM _)) (bM _)),trivial⟩,by decide,mA⟩ rest.get
        · obtain rfl := d0 h
          (repeat' (first|refine wS ?_|refine wK ?_|refine wE ?_|refine wU ?_|(refine wC rfl ?_ ?_<;>(intro hb;(try simp only [nm] at hb);try (exfalso;omega)))|(refine rg 33 (dK rfl (vV (aL rfl rfl) ?_)))|(refine rg 38 (dK rfl (vV (cP rfl rfl (by omega) (by omega)) (aV ?_))))|(refine rg 39 (dK rfl (vV (aL rfl rfl) (mV ?_)));refine cH rfl rfl ?_ ?_<;>(intro hb;rw [hb];(try simp only [nm] at hb);try (exfalso;omega));(all_goals first|(refine gT (mW rfl (gT (mW rfl (gT (vV (aL rfl rfl) ?_))))))|(iterate 3 refine gF ?_));(all_goals (refine pV ?_)))|refine nZ ?_));all_goals first | (exfalso;omega) | exact fE [(0,.sl 0 0 N 3),(1,.i a),(3,.i b),(4,rI),(18,.i mid),(20,.i i),(24,.i e)] [.arr (fQ D) 3] ⟨[0],rfl,⟨rfl,rfl,rfl,rfl,rfl,rfl,by rw [show (e : Int) = (mid : Int) + m - i by omega];rfl,trivial⟩,⟨.inr (aD rfl rfl (bM _)),trivial⟩,by decide,mA⟩ rest.get
      clear c0 d0;apply Go.Ab.cutT
      · intro rest;by_cases h : a < i ∧ i < mid
        · have hc' := c1 h.1 h.2
          (repeat' (first|refine wS ?_|(refine wC rfl ?_ ?_<;>(intro hb;(try simp only [nm] at hb);try (exfalso;omega)))|(refine rg 41 (dK rfl (vV (aL rfl rfl) (mV ?_)));refine cH rfl rfl ?_ ?_<;>(intro hb;rw [hb];(try simp only [nm] at hb);try (exfalso;omega));(all_goals (refine yN rfl (yN rfl (yV (aL rfl rfl) (pV ?_))))))|(refine rg 42 (dK rfl (dK rfl (mW rfl (fF [0] rfl rfl (hc') rfl rfl (by decide) ⟨.inr (aD rfl rfl (bM _)),trivial⟩ (by simp) rfl ?_)))))|refine nZ ?_));all_goals first | (exfalso;omega) | exact fE [(0,.sl 0 0 N 3),(1,.i a),(3,.i b),(4,rI),(18,.i mid),(24,.i e)] [.arr (fQ A2) 3] ⟨[0],rfl,(by repeat first|exact trivial|refine ⟨rfl,?_⟩),⟨.inr (aD rfl (bY _ (bM _)) (bM _)),trivial⟩,by decide,mA⟩ rest.get
        · obtain rfl := d1 h
          (repeat' (first|refine wS ?_|refine wK ?_|refine wU ?_|(refine wC rfl ?_ ?_<;>(intro hb;(try simp only [nm] at hb);try (exfalso;omega)))|(refine rg 41 (dK rfl (vV (aL rfl rfl) (mV ?_)));refine cH rfl rfl ?_ ?_<;>(intro hb;rw [hb];(try simp only [nm] at hb);try (exfalso;omega));(all_goals first|(refine gT (mW rfl (gT (mW rfl (gT (vV (aL rfl rfl) ?_))))))|(iterate 3 refine gF ?_));(all_goals (refine pV ?_)))|refine nZ ?_));all_goals first | (exfalso;omega) | exact fE [(0,.sl 0 0 N 3),(1,.i a),(3,.i b),(4,rI),(18,.i mid),(24,.i e)] [.arr (fQ A1) 3] ⟨[0],rfl,(by repeat first|exact trivial|refine ⟨rfl,?_⟩),⟨.inr (aD rfl rfl (bM _)),trivial⟩,by decide,mA⟩ rest.get
      clear c1 d1;by_cases h : mid < e ∧ e < b
      · have hc' := c2 h.1 h.2
        (repeat' (first|(refine wC rfl ?_ ?_<;>(intro hb;(try simp only [nm] at hb);try (exfalso;omega)))|(refine rg 43 (dK rfl (vV (aL rfl rfl) (mV ?_)));refine cH rfl rfl ?_ ?_<;>(intro hb;rw [hb];(try simp only [nm] at hb);try (exfalso;omega));(all_goals (refine yN rfl (yN rfl (yV (aL rfl rfl) (pV ?_))))))|(refine rg 44 (dK rfl (dK rfl (mW rfl (fF [0] rfl rfl (hc') rfl rfl (by decide) ⟨.inr (aD rfl rfl (bM _)),trivial⟩ (by simp) rfl ?_)))))|refine nZ ?_));all_goals first | (exfalso;omega) | exact ⟨.inl rfl,[0],_,rfl,rfl,rfl,⟨.inr (aD rfl (bY _ (bM _)) (bM _)),trivial⟩,by decide,mA⟩ | exact ⟨.inr rfl,[0],_,rfl,rfl,rfl,⟨.inr (aD rfl (bY _ (bM _)) (bM _)),trivial⟩,by decide,mA⟩
      · obtain rfl := d2 h
        (repeat' (first|refine wK ?_|refine wU ?_|(refine wC rfl ?_ ?_<;>(intro hb;(try simp only [nm] at hb);try (exfalso;omega)))|(refine rg 43 (dK rfl (vV (aL rfl rfl) (mV ?_)));refine cH rfl rfl ?_ ?_<;>(intro hb;rw [hb];(try simp only [nm] at hb);try (exfalso;omega));(all_goals first|(refine gT (mW rfl (gT (mW rfl (gT (vV (aL rfl rfl) ?_))))))|(iterate 3 refine gF ?_));(all_goals (refine pV ?_)))|refine nZ ?_));all_goals first | (exfalso;omega) | exact ⟨.inl rfl,[0],_,rfl,rfl,rfl,⟨.inr (aD rfl rfl (bM _)),trivial⟩,by decide,mA⟩ | exact ⟨.inr rfl,[0],_,rfl,rfl,rfl,⟨.inr (aD rfl rfl (bM _)),trivial⟩,by decide,mA⟩
end Go.Proofs.YtmmkhmilpeodnaaGreat
namespace Go.Ld
open Go.Ab Go.Proofs.YtmmkhmilpeodnaaGreat
theorem OB {Q r1 r2 : List W} {a b : Nat} (ha : a = Q.length) (hb : b = a + r1.length) : UG (Q ++ (r1 ++ r2)) a b = Q ++ (dY eM r1 ++ r2) := by
  subst ha hb;unfold UG;rw [wI,wM,show Q.length + r1.length - Q.length = r1.length by omega,wI,← LF,wM,wM]
theorem OX {Q r1 r2 : List W} {w : W} (h : w ∈ (Q ++ dY eM r1) ++ r2) : w ∈ Q ++ (r1 ++ r2) := by
  rw [bP] at h;rcases bI.1 h with h | h
  · exact bI.2 (.inl h)
  · rcases bI.1 h with h | h
    · exact bI.2 (.inr (bI.2 (.inl ((dD _ _).mem_iff.1 h))))
    · exact bI.2 (.inr (bI.2 (.inr h)))
end Go.Ld
namespace Go.Proofs.YtmmkhmilpeodnaaGreat
open Go Go.Ab Go.Ld
attribute [local irreducible] VC AW bX aR
set_option maxHeartbeats 4000000
theorem VH (l : List W) {N : Nat} (hN : N = l.length) (hl : N ≤ 100000) (hw : ∀ w,w ∈ l → M7 w) :
    aR Tryz.prog 132 [.sl 0 0 N 3,.i N,rI] [.arr (fQ l) 3] (.tup []) [.arr (fQ (dY eM l)) 3] := by
  refine bO T Tryz.func132 rfl rfl rfl rfl ?_;apply Go.Ab.cutT
  · intro rest
    (repeat' (first|refine wS ?_|refine wB ?_|(refine rg 0 (aV ?_))|(refine rg 1 (mW rfl (qJ ?_)))|refine nZ ?_));refine cN (X := {q : Nat × List W × List W // q.2.1.length = q.1 ∧ q.1 + q.2.2.length = N ∧ bs 20 l = q.2.1 ++ bs 20 q.2.2 ∧ ∀ w, w ∈ q.2.1 ++ q.2.2 → w ∈ l})
      (fun q => [(0,.sl 0 0 N 3),(1,.i N),(2,rI),(6,.i 20),(7,.i q.1.1),(8,.i ((q.1.1 : Int) + 20))]) (fun q => [.arr (fQ (q.1.2.1 ++ q.1.2.2)) 3]) (fun q => q.1.2.2.length) ⟨(0,[],l),by simp;omega⟩
      ⟨[0],rfl,by (repeat (first | exact trivial | refine ⟨rfl,?_⟩)),⟨.inr (aD rfl rfl (bM _)),trivial⟩,by decide,mA⟩ ?_
    rintro ⟨⟨a,Q,r⟩,h1,h2,h3,h4⟩;dsimp only at h1 h2 h3 h4 ⊢;by_cases hlt : a + 20 ≤ N
    · obtain ⟨r1,r2,rfl,hr⟩ : ∃ r1 r2,r = r1 ++ r2 ∧ r1.length = 20 := ⟨r.take 20,r.drop 20,by simp,by simp;omega⟩
      rw [aF] at h2;have hc := JG (Q ++ (r1 ++ r2)) a (a + 20) (by omega) (by simp;omega) (by simp;omega) (fun w hw' => hw w (h4 w hw'))
      rw [OB h1.symm (by omega),show (Q ++ (r1 ++ r2)).length = N by simp;omega,show ((a + 20 : Nat) : Int) = (a : Int) + 20 by omega] at hc
      rw [BD hr (by omega)] at h3
      (repeat' (first|refine wS ?_|refine wB ?_|refine wK ?_|(refine wC rfl ?_ ?_<;>(intro hb;(try simp only [nm] at hb);try (exfalso;omega)))|(refine rg 2 (dK rfl (vV (iO rfl rfl) ?_)))|(refine rg 3 (dK rfl (dK rfl (fF [0] rfl rfl (hc) rfl rfl (by decide) ⟨.inr (aD rfl rfl (bM _)),trivial⟩ (by simp) rfl ?_))))|(refine rg 4 (mW rfl (aV ?_)))|(refine rg 5 (dK rfl (vV (bV rfl rfl (by omega) (by omega)) (aV ?_))))|refine nZ ?_));all_goals first | (exfalso;omega) | skip
      exact ⟨⟨(a + 20,Q ++ dY eM r1,r2),by dsimp only;exact ⟨by rw [aF,iP];omega,by omega,by rw [h3];simp,fun w hw' => h4 w (OX hw')⟩⟩,by dsimp only;rw [aF];omega,⟨[0],rfl,by (repeat (first | exact trivial | refine ⟨rfl,?_⟩)),⟨.inr (aD rfl (by rw [bY _ (bM _),bP]) (bM _)),trivial⟩,by decide,mA⟩⟩
    · have hc := JG (Q ++ (r ++ [])) a N (by omega) (by simp;omega) (by simp;omega) (fun w hw' => hw w (h4 w (by simpa using hw')))
      rw [OB h1.symm (by omega),List.append_nil,List.append_nil,show (Q ++ r).length = N by simp;omega,← S7 (k := 20) (by omega),← h3] at hc
      (repeat' (first|refine wS ?_|refine wB ?_|refine wE ?_|(refine wC rfl ?_ ?_<;>(intro hb;(try simp only [nm] at hb);try (exfalso;omega)))|(refine rg 2 (dK rfl (vV (iO rfl rfl) ?_)))|(refine rg 6 (dK rfl (dK rfl (fF [0] rfl rfl (hc) rfl rfl (by decide) ⟨.inr (aD rfl rfl (bM _)),trivial⟩ (by simp) rfl ?_))))|refine nZ ?_));all_goals first | (exfalso;omega) | exact fE [(0,.sl 0 0 N 3),(1,.i N),(2,rI),(6,.i 20)] [.arr (fQ (bs 20 l)) 3] ⟨[0],rfl,by (repeat (first | exact trivial | refine ⟨rfl,?_⟩)),⟨.inr (aD rfl (bY _ (bM _)) (bM _)),trivial⟩,by decide,mA⟩ rest.get
  refine cN (X := {k : Nat // 20 ≤ k ∧ k ≤ 200000}) (fun k => [(0, .sl 0 0 N 3), (1, .i N), (2, rI), (6, .i k.1)]) (fun k => [.arr (fQ (bs k.1 l)) 3]) (fun k => N - k.1) ⟨20, by omega, by omega⟩
    ⟨[0],rfl,by (repeat (first | exact trivial | refine ⟨rfl,?_⟩)),⟨.inr (aD rfl rfl (bM _)),trivial⟩,by decide,mA⟩ ?_
  rintro ⟨k,hk,hk2⟩;dsimp only;by_cases hkN : k < N
  · (repeat' (first|refine wS ?_|refine wB ?_|refine wK ?_|(refine wC rfl (fun hb => ?_) (fun hb => ?_) <;> (((try simp only [nm] at hb);try (exfalso;omega))))|(refine rg 7 (dK rfl (vV (aL rfl rfl) ?_)))|(refine rg 8 (mW rfl (vV (sE rfl rfl (by omega) (by omega)) (qJ ?_))))|(refine nZ ?_)));all_goals try (exfalso;omega)
    refine cN (X := {q : Nat × List W × List W // q.2.1.length = q.1 ∧ q.1 + q.2.2.length = N ∧ bs (2 * k) l = q.2.1 ++ bs (2 * k) q.2.2 ∧ ∀ w, w ∈ q.2.1 ++ q.2.2 → w ∈ l})
      (fun q => [(0,.sl 0 0 N 3),(1,.i N),(2,rI),(6,.i k),(7,.i q.1.1),(8,.i ((q.1.1 : Int) + 2 * k))]) (fun q => [.arr (fQ (q.1.2.1 ++ bs k q.1.2.2)) 3]) (fun q => q.1.2.2.length) ⟨(0,[],l),by simp;omega⟩
      ⟨[0],rfl,⟨rfl,rfl,rfl,rfl,rfl,by dsimp only;rw [show ((0 : Nat) : Int) + 2 * (k : Int) = 2 * k by omega];rfl,trivial⟩,⟨.inr (aD rfl rfl (bM _)),trivial⟩,by decide,mA⟩ ?_
    rintro ⟨⟨a,Q,r⟩,h1,h2,h3,h4⟩;dsimp only at h1 h2 h3 h4 ⊢;by_cases hlt : a + 2 * k ≤ N
    · obtain ⟨r1,r2,r3,rfl,hr1,hr2⟩ : ∃ r1 r2 r3,r = r1 ++ (r2 ++ r3) ∧ r1.length = k ∧ r2.length = k := ⟨r.take k,(r.drop k).take k,(r.drop k).drop k,by simp only [bL],by simp;omega,by simp;omega⟩
      simp only [aF] at h2;have hc := zN7 (2 * k) Q (dY eM r1) (dY eM r2) (bs k r3) (a := a) (m := a + k) (b := a + 2 * k) (N := N) (by omega) (by rw [iP]; omega) (by rw [iP]; omega) h1.symm (by rw [iP]; omega) (by rw [iP]; omega) (by rw [zU4]; omega) hl (lM jH _) (lM jH _)
        (fun w hw' => hw w (h4 w (by have := (dD eM _).mem_iff.1 hw';simp [this]))) (fun w hw' => hw w (h4 w (by have := (dD eM _).mem_iff.1 hw';simp [this])))
      rw [HW,← BD hr2 (by omega),← BD hr1 (by omega),show ((a + 2 * k : Nat) : Int) = (a : Int) + 2 * k by omega,show ((a + k : Nat) : Int) = (a : Int) + k by omega] at hc
      rw [← bP r1,BD (k := 2 * k) (by rw [aF];omega) (by omega)] at h3
      (repeat' (first|refine wS ?_|refine wB ?_|refine wK ?_|(refine wC rfl ?_ ?_<;>(intro hb;(try simp only [nm] at hb);try (exfalso;omega)))|(refine rg 9 (dK rfl (vV (iO rfl rfl) ?_)))|(refine rg 10 (dK rfl (dK rfl (vV (bV rfl rfl (by omega) (by omega)) (dK rfl (fF [0] rfl rfl (hc) rfl rfl (by decide) ⟨.inr (aD rfl rfl (bM _)),trivial⟩ (by simp) rfl ?_))))))|(refine rg 11 (mW rfl (aV ?_)))|(refine rg 12 (dK rfl (vV (sE rfl rfl (by omega) (by omega)) (vV (bV rfl rfl (by omega) (by omega)) (aV ?_)))))|refine nZ ?_));all_goals first | (exfalso;omega) | skip
      exact ⟨⟨(a + 2 * k,Q ++ dY eM (r1 ++ r2),r3),by dsimp only;exact ⟨by rw [aF,iP,aF];omega,by omega,by rw [h3];simp,fun w hw' => h4 w (by have := OX hw';rwa [bP] at this)⟩⟩,by dsimp only;simp only [aF];omega,⟨[0],rfl,by (repeat (first | exact trivial | refine ⟨rfl,?_⟩)),⟨.inr (aD rfl (by rw [bY _ (bM _),bP]) (bM _)),trivial⟩,by decide,mA⟩⟩
    · by_cases hm : a + k < N
      · obtain ⟨r1,r2,rfl,hr1⟩ : ∃ r1 r2,r = r1 ++ r2 ∧ r1.length = k := ⟨r.take k,r.drop k,by simp,by simp;omega⟩
        simp only [aF] at h2;have hc := zN7 (2 * k) Q (dY eM r1) (dY eM r2) [] (a := a) (m := a + k) (b := N) (N := N) (by omega) (by rw [iP]; omega) (by rw [iP]; omega) h1.symm (by rw [iP]; omega) (by rw [iP]; omega) (by simp) hl (lM jH _) (lM jH _)
          (fun w hw' => hw w (h4 w (by have := (dD eM _).mem_iff.1 hw';simp [this]))) (fun w hw' => hw w (h4 w (by have := (dD eM _).mem_iff.1 hw';simp [this])))
        rw [HW,List.append_nil,List.append_nil,← S7 (k := 2 * k) (l := r1 ++ r2) (by rw [aF];omega),← h3,← S7 (k := k) (l := r2) (by omega),← BD hr1 (by omega),show ((a + k : Nat) : Int) = (a : Int) + k by omega] at hc
        (repeat' (first|refine wS ?_|refine wE ?_|(refine wC rfl ?_ ?_<;>(intro hb;(try simp only [nm] at hb);try (exfalso;omega)))|(refine rg 9 (dK rfl (vV (iO rfl rfl) ?_)))|(refine rg 13 (dK rfl (vV (bV rfl rfl (by omega) (by omega)) (aV ?_))))|(refine rg 14 (dK rfl (vV (aL rfl rfl) ?_)))|(refine rg 15 (dK rfl (dK rfl (mW rfl (fF [0] rfl rfl (hc) rfl rfl (by decide) ⟨.inr (aD rfl rfl (bM _)),trivial⟩ (by simp) rfl ?_)))))|(refine rg 16 (mW rfl (vV (sE rfl rfl (by omega) (by omega)) (aV ?_))))|refine nZ ?_));all_goals first | (exfalso;omega) | skip
        exact ⟨⟨2 * k,by omega,by omega⟩,by dsimp only;omega,⟨[0],rfl,⟨rfl,rfl,rfl,by dsimp only;rw [show ((2 * k : Nat) : Int) = (k : Int) * 2 by omega];rfl,trivial⟩,⟨.inr (aD rfl (bY _ (bM _)) (bM _)),trivial⟩,by decide,mA⟩⟩
      · rw [S7 (k := 2 * k) (l := r) (by omega),← S7 (k := k) (l := r) (by omega)] at h3
        rw [← h3]
        (repeat' (first|refine wS ?_|refine wK ?_|refine wE ?_|(refine wC rfl ?_ ?_<;>(intro hb;(try simp only [nm] at hb);try (exfalso;omega)))|(refine rg 9 (dK rfl (vV (iO rfl rfl) ?_)))|(refine rg 13 (dK rfl (vV (bV rfl rfl (by omega) (by omega)) (aV ?_))))|(refine rg 14 (dK rfl (vV (aL rfl rfl) ?_)))|(refine rg 16 (mW rfl (vV (sE rfl rfl (by omega) (by omega)) (aV ?_))))|refine nZ ?_));all_goals first | (exfalso;omega) | skip
        exact ⟨⟨2 * k,by omega,by omega⟩,by dsimp only;omega,⟨[0],rfl,⟨rfl,rfl,rfl,by dsimp only;rw [show ((2 * k : Nat) : Int) = (k : Int) * 2 by omega];rfl,trivial⟩,⟨.inr (aD rfl rfl (bM _)),trivial⟩,by decide,mA⟩⟩
  · rw [S7 (k := k) (l := l) (by omega)]
    (repeat' (first|refine wS ?_|refine wE ?_|(refine wC rfl ?_ ?_<;>(intro hb;(try simp only [nm] at hb);try (exfalso;omega)))|(refine rg 7 (dK rfl (vV (aL rfl rfl) ?_)))|refine nZ ?_));all_goals first | (exfalso;omega) | exact ⟨.inl rfl,[0],_,rfl,rfl,rfl,⟨.inr (aD rfl rfl (bM _)),trivial⟩,by decide,mA⟩ | exact ⟨.inr rfl,[0],_,rfl,rfl,rfl,⟨.inr (aD rfl rfl (bM _)),trivial⟩,by decide,mA⟩
theorem zF0 (l : List W) {N : Nat} (hN : N = l.length) (hl : N ≤ 100000) (hw : ∀ w,w ∈ l → M7 w) :
    aR Tryz.prog 96 [.sl 0 0 N 3,rI] [.arr (fQ l) 3] (.tup []) [.arr (fQ (dY eM l)) 3] := by
  have hc := VH l hN hl hw;refine bO T Tryz.func96 rfl rfl rfl rfl ?_
  (repeat' (first|(refine rg 0 (dK rfl (qW T rfl (mW rfl (fF [0] rfl rfl (hc) rfl rfl (by decide) ⟨.inr (aD rfl rfl (bM _)),trivial⟩ (by simp) rfl ?_)))))|refine nZ ?_));all_goals first | (exfalso;omega) | exact ⟨.inl rfl,[0],_,rfl,rfl,rfl,⟨.inr (aD rfl (bY _ (bM _)) (bM _)),trivial⟩,by decide,mA⟩ | exact ⟨.inr rfl,[0],_,rfl,rfl,rfl,⟨.inr (aD rfl (bY _ (bM _)) (bM _)),trivial⟩,by decide,mA⟩
end Go.Proofs.YtmmkhmilpeodnaaGreat
namespace Go.Ld
open Go.Ab Go.Proofs.YtmmkhmilpeodnaaGreat
abbrev w0 : W := ([],0,[])
def zX (l : List W) : Nat → List W
  | 0 => []
  | m + 1 => if 0 < m ∧ F2 (l.getD m w0) (l.getD (m - 1) w0) = true then zX l m else zX l m ++ [l.getD m w0]
theorem MZ {l : List W} {m : Nat} (h : 0 < m) (e : F2 (l.getD m w0) (l.getD (m - 1) w0) = true) : zX l (m + 1) = zX l m := by
  rw [zX,if_pos ⟨h,e⟩]
theorem MY {l : List W} {m : Nat} (e : F2 (l.getD m w0) (l.getD (m - 1) w0) = false) : zX l (m + 1) = zX l m ++ [l.getD m w0] := by
  rw [zX,if_neg (fun q => by rw [e] at q;cases q.2)]
theorem MX (l : List W) : zX l 1 = [l.getD 0 w0] := by
  rw [zX,if_neg (fun q => QM _ q.1)];rfl
theorem EG (y : W) : ∀ (A : List W) (p : W), kO F2 p (A ++ [y]) = kO F2 p A ++ (if F2 y ((p :: A).getLastD w0) = true then [] else [y])
  | [],p => by
    show (if F2 y p = true then [] else [y]) = _
    simp [kO]
  | x :: A,p => by
    rw [List.cons_append,kO,kO,EG y A x];have e : ((p :: x :: A).getLastD w0) = ((x :: A).getLastD w0) := by simp [List.getLastD]
    rw [e];split <;> simp
theorem ZB (y : W) (A : List W) (h : A ≠ []) : zV F2 (A ++ [y]) = zV F2 A ++ (if F2 y (A.getLastD w0) = true then [] else [y]) := by
  cases A with
  | nil => exact absurd rfl h
  | cons x A => rw [List.cons_append];show x :: kO F2 x (A ++ [y]) = _;rw [EG];rfl
theorem oT {l : List W} {m : Nat} (h : m < l.length) : l.getD m w0 = l[m] := by rw [aC,aA h];rfl
theorem PW (l : List W) : ∀ m, m ≤ l.length → zX l m = zV F2 (l.take m)
  | 0,_ => by rw [kQ];rfl
  | m + 1,h => by
    have e : l.take (m + 1) = l.take m ++ [l.getD m w0] := by rw [oT (by omega),aT (by omega)]
    rcases M1 m with rfl | h0
    · rw [MX,e];rfl
    · have hne : l.take m ≠ [] := fun q => by have := congrArg List.length q;rw [bD,List.length_nil] at this;omega
      rw [e,ZB _ _ hne,← PW l m (by omega)]
      have hl : (l.take m).getLastD w0 = l.getD (m - 1) w0 := by
        rw [List.getLastD_eq_getLast?,List.getLast?_eq_getElem?,bD,EM (by omega),List.getElem?_take_of_lt (by omega),aC]
      rw [hl];cases hq : F2 (l.getD m w0) (l.getD (m - 1) w0) with
      | true => rw [MZ h0 hq,if_pos rfl,List.append_nil]
      | false => rw [MY hq,if_neg (by simp)]
theorem zU1 (l : List W) : zX l l.length = zV F2 l := by rw [PW l _ (aY _),dS]
theorem yD9 {l : List W} {m i : Nat} (hm : m < l.length) (hi : i = m) : (fQ l)[i]? = some (wA (l.getD m w0)) := by
  subst hi;simp [hm]
theorem NF {G l : List W} {m : Nat} {i : Nat} (hg : G.length ≤ m) (hm : m < l.length) (hi : i = m) : (fQ (G ++ l.drop G.length))[i]? = some (wA (l.getD m w0)) := by
  subst hi;rw [bS,aE hg,eD,show G.length + (i - G.length) = i by omega,aA hm,oT hm];rfl
theorem zP8 {G l : List W} {x : W} {j : Int} (h : G.length < l.length) (hj : j = G.length) : (fQ (G ++ l.drop G.length)).set (0 + j.toNat) (wA x) = fQ ((G ++ [x]) ++ l.drop (G ++ [x]).length) := by
  rw [wO (i := G.length) hj,aX h,nW _ _ _ _ rfl];simp
theorem SM {G l : List W} (h : G.length ≤ l.length) : (fQ (G ++ l.drop G.length)).length = l.length := by simp;omega
theorem VA {G : List W} {l : List W} : (fQ (G ++ l.drop G.length)).take (0 + (G.length : Int).toNat) = fQ G := by
  rw [Nat.zero_add,bJ,← lH,wI]
end Go.Ld
namespace Go.Proofs.YtmmkhmilpeodnaaGreat
open Go Go.Ab Go.Ld
attribute [local irreducible] VC AW bX aR
set_option maxHeartbeats 4000000
abbrev yC2 : AV := .clo (.func 102) [] []
theorem MU (l : List W) (hl : l.length ≤ 1000000) (hw : ∀ w,w ∈ l → M7 w) : aR Tryz.prog 101 [.sl 0 0 l.length 3,yC2] [.arr (fQ l) 3] (.sl 0 0 (zV F2 l).length 3) [.arr (fQ (zV F2 l)) 3] := by
  rw [← zU1];have hll : (fQ l).length = l.length := eV l;refine bO T Tryz.func101 rfl rfl rfl rfl ?_;by_cases h2 : l.length < 2
  · have hk : zX l l.length = l := by
      match l,h2 with
      | [],_ => rfl
      | [a],_ => exact MX _
      | _ :: _ :: _,h => exact absurd h (by simp)
    rw [hk]
    (repeat' (first|refine wS ?_|refine wR ?_|(refine wC rfl ?_ ?_<;>(intro hb;(try simp only [nm] at hb);try (exfalso;omega)))|(refine rg 0 (aV ?_))|(refine rg 1 (mW rfl (qW T rfl (vV (aL rfl rfl) ?_))))|(refine rg 2 (mW rfl (aV ?_)))|refine nZ ?_));all_goals first | (exfalso;omega) | exact ⟨.inl rfl,[0],_,rfl,rfl,rfl,⟨.inr (aD rfl rfl (bM _)),trivial⟩,by decide,mA⟩
  · (repeat' (first|refine wS ?_|refine wB ?_|refine wK ?_|(refine wC rfl (fun hb => ?_) (fun hb => ?_) <;> (((try simp only [nm] at hb);try (exfalso;omega))))|(refine rg 0 (aV ?_))|(refine rg 1 (mW rfl (qW T rfl (vV (aL rfl rfl) ?_))))|(refine rg 3 (aV ?_))|(refine nZ ?_)));all_goals try (exfalso;omega)
    refine cN (X := {k : Nat // 1 ≤ k ∧ k ≤ l.length ∧ zX l k = l.take k}) (fun k => [(0,.sl 0 0 l.length 3),(1,yC2),(5,.i k.1)]) (fun _ => [.arr (fQ l) 3]) (fun k => l.length - k.1) ⟨1,by omega,by omega,by rw [MX,oT (by omega),aT (by omega)];rfl⟩ ⟨[0],rfl,by (repeat (first | exact trivial | refine ⟨rfl,?_⟩)),⟨.inr (aD rfl rfl (bM _)),trivial⟩,by decide,mA⟩ ?_
    rintro ⟨k,hk1,hk,hkc⟩;dsimp only;by_cases hlt : k < l.length
    · have e1 := yD9 (i := 0 + (k : Int).toNat) hlt (by omega)
      have e2 := yD9 (l := l) (m := k - 1) (i := 0 + ((k : Int) - 1).toNat) (by omega) (by omega)
      have hc := AA (l.getD k w0) (l.getD (k - 1) w0) (hw _ (by rw [oT hlt];exact aI _)) (hw _ (by rw [oT (by omega)];exact aI _))
      cases hd : F2 (l.getD k w0) (l.getD (k - 1) w0) with
      | true =>
        have hc1 := MZ (l := l) hk1 hd;rw [hkc] at hc1;rw [hd] at hc;clear hd;generalize l.getD k w0 = a at *;generalize l.getD (k - 1) w0 = b at *
        (repeat' (first|refine wS ?_|refine wB ?_|refine wK ?_|refine wT ?_|(refine wC rfl ?_ ?_<;>(intro hb;(try simp only [nm] at hb);try (exfalso;omega)))|(refine rg 4 (dK rfl (qW T rfl (vV (aL rfl rfl) ?_))))|(refine tS (id := 6) 10 66 yH6 yH7 (rM 18 10) yH8 cJ rfl (by decide +kernel) (by decide +kernel) ?_;(dsimp only [List.take,List.drop]);refine dN rfl (dN rfl (dN rfl (dV rfl (by exact aJ T rfl rfl rfl rfl rfl (by omega) (by omega)) ?_)));refine dV rfl (by exact aP T rfl rfl (bH rfl e1) rfl) ?_;refine dN rfl (dN rfl (dV rfl (cP rfl rfl (by omega) (by omega)) (dV rfl (by exact aJ T rfl rfl rfl rfl rfl (by omega) (by omega)) ?_)));refine dV rfl (by exact aP T rfl rfl (bH rfl e2) rfl) ?_;refine dE ?_;refine fU ?_;refine vV (kC (hc)) ?_)|(refine rg 7 (dK rfl (vV (by exact kT T rfl rfl rfl rfl rfl rfl (by omega) (by omega) (by omega)) ?_));refine aV ?_)|(refine rg 8 (aV ?_))|refine nZ ?_));all_goals try (exfalso;omega)
        have hl1 : (zX l (k + 1)).length = k := by rw [hc1];simp;omega
        refine cN (X := {j : Nat // 1 ≤ j ∧ k + j ≤ l.length ∧ (zX l (k + j)).length + 1 ≤ k + j}) (fun j => [(0,.sl 0 0 l.length 3),(1,yC2),(5,.i (zX l (k + j.1)).length),(6,.sl 0 (0 + (k : Int).toNat) ((l.length : Int) - (k : Int)).toNat 3),(7,.i j.1)]) (fun j => [.arr (fQ (zX l (k + j.1) ++ l.drop (zX l (k + j.1)).length)) 3]) (fun j => l.length - (k + j.1)) ⟨1,by omega,by omega,by omega⟩ ⟨[0],rfl,⟨rfl,rfl,by dsimp only;rw [hl1];rfl,rfl,rfl,trivial⟩,⟨.inr (aD rfl (by dsimp only;rw [hl1,hc1,bL]) (bM _)),trivial⟩,by decide,mA⟩ ?_
        clear e1 e2 hl1 hc1 hc a b;rintro ⟨j,hj1,hj,hjc⟩;dsimp only;by_cases hjl : k + j < l.length
        · have e1 := NF (G := zX l (k + j)) (l := l) (m := k + j) (i := 0 + (k : Int).toNat + (j : Int).toNat) (by omega) hjl (by omega)
          have e2 := NF (G := zX l (k + j)) (l := l) (m := k + j - 1) (i := 0 + (k : Int).toNat + ((j : Int) - 1).toNat) (by omega) (by omega) (by omega)
          have e3 := NF (G := zX l (k + j)) (l := l) (m := (zX l (k + j)).length) (i := 0 + (((zX l (k + j)).length : Nat) : Int).toNat) (aY _) (by omega) (by omega)
          have hset := zP8 (G := zX l (k + j)) (l := l) (x := l.getD (k + j) w0) (j := (((zX l (k + j)).length : Nat) : Int)) (by omega) rfl
          have hal := SM (G := zX l (k + j)) (l := l) (by omega)
          have hdup := MZ (l := l) (m := k + j) (by omega)
          have hnew := MY (l := l) (m := k + j);have hc := AA (l.getD (k + j) w0) (l.getD (k + j - 1) w0) (hw _ (by rw [oT hjl];exact aI _)) (hw _ (by rw [oT (by omega)];exact aI _))
          have hnl : ∀ G : List W,(G ++ [l.getD (k + j) w0]).length = G.length + 1 := fun G => by simp
          rw [show k + j + 1 = k + (j + 1) by omega] at hdup hnew
          generalize l.getD (k + j) w0 = a at *;generalize l.getD (k + j - 1) w0 = b at *;generalize l.getD (zX l (k + j)).length w0 = y at *;generalize zX l (k + j) = G at *;cases hd : F2 a b with
          | true =>
            have hdup := hdup hd;rw [hd] at hc;generalize hA : fQ (G ++ l.drop G.length) = A at *
            (repeat' (first|refine wS ?_|refine wB ?_|refine wK ?_|refine wU ?_|(refine wC rfl ?_ ?_<;>(intro hb;(try simp only [nm] at hb);try (exfalso;omega)))|(refine rg 9 (dK rfl (qW T rfl (vV (aL rfl rfl) ?_))))|(refine bN (id := 11) 66 yH9 (rM 38 12) yI0 cJ rfl (by decide +kernel) (dN rfl (dN rfl (dN rfl (dV rfl (by exact aJ T rfl rfl rfl rfl rfl (by omega) (by omega)) ?_))));refine dV rfl (by exact aP T rfl rfl (bH rfl e1) rfl) ?_;refine dN rfl (dN rfl (dV rfl (cP rfl rfl (by omega) (by omega)) (dV rfl (by exact aJ T rfl rfl rfl rfl rfl (by omega) (by omega)) ?_)));refine dV rfl (by exact aP T rfl rfl (bH rfl e2) rfl) ?_;refine dV rfl (kC (hc)) (dV rfl (dX rfl) (dE ?_)))|(refine iA 10 rfl rfl rfl (by omega) (by omega) ?_)|refine nZ ?_));all_goals try (exfalso;omega)
            all_goals exact ⟨⟨j + 1,by omega,by omega,by rw [hdup];omega⟩,by dsimp only;omega,[0],rfl,⟨rfl,rfl,by dsimp only;rw [hdup];rfl,rfl,rfl,trivial⟩,⟨.inr (aD rfl (by dsimp only;rw [hdup];exact hA.symm) (bM _)),trivial⟩,by decide,mA⟩
          | false =>
            have hnew := hnew hd;have hgl := hnl G;rw [hd] at hc;generalize hA : fQ (G ++ l.drop G.length) = A at *
            (repeat' (first|refine wS ?_|refine wB ?_|refine wK ?_|refine wT ?_|(refine wC rfl ?_ ?_<;>(intro hb;(try simp only [nm] at hb);try (exfalso;omega)))|(refine rg 9 (dK rfl (qW T rfl (vV (aL rfl rfl) ?_))))|(refine bN (id := 11) 66 yH9 (rM 38 12) yI0 cJ rfl (by decide +kernel) (dN rfl (dN rfl (dN rfl (dV rfl (by exact aJ T rfl rfl rfl rfl rfl (by omega) (by omega)) ?_))));refine dV rfl (by exact aP T rfl rfl (bH rfl e1) rfl) ?_;refine dN rfl (dN rfl (dV rfl (cP rfl rfl (by omega) (by omega)) (dV rfl (by exact aJ T rfl rfl rfl rfl rfl (by omega) (by omega)) ?_)));refine dV rfl (by exact aP T rfl rfl (bH rfl e2) rfl) ?_;refine dV rfl (kC (hc)) (dV rfl (dX rfl) (dE ?_)))|(refine rg 12 (dK rfl (dK rfl (vV (by exact aJ T rfl rfl rfl rfl rfl (by omega) (by omega)) ?_)));refine vV (by exact aP T rfl rfl (bH rfl e1) rfl) ?_;refine vV (by exact aJ T rfl rfl rfl rfl rfl (by omega) (by omega)) ?_;refine aU T rfl rfl rfl rfl rfl rfl (by decide) (lX rfl e3 rfl) ?_)|(refine iA 13 rfl rfl rfl (by omega) (by omega) ?_)|(refine iA 10 rfl rfl rfl (by omega) (by omega) ?_)|refine nZ ?_));all_goals try (exfalso;omega)
            all_goals exact ⟨⟨j + 1,by omega,by omega,by rw [hnew];omega⟩,by dsimp only;omega,[0],rfl,⟨rfl,rfl,by dsimp only;rw [hnew,hgl];rfl,rfl,rfl,trivial⟩,⟨.inr (aD rfl (by dsimp only;rw [hnew];exact hset) (bM _)),trivial⟩,by decide,mA⟩
        · have hkj : k + j = l.length := by omega
          have hcm : zX l l.length = zX l (k + j) := by rw [hkj]
          have hal := SM (G := zX l (k + j)) (l := l) (by omega)
          have htk := VA (G := zX l (k + j)) (l := l);rw [hcm];generalize zX l (k + j) = G at *
          (repeat' (first|refine wS ?_|refine wR ?_|refine wE ?_|(refine wC rfl ?_ ?_<;>(intro hb;(try simp only [nm] at hb);try (exfalso;omega)))|(refine rg 9 (dK rfl (qW T rfl (vV (aL rfl rfl) ?_))))|(refine rg 14 (dK rfl (vV (by exact kT T rfl rfl rfl rfl rfl rfl (by omega) (by omega) (by omega)) ?_));refine M9 T rfl rfl rfl ⟨rfl,rfl,by decide⟩ rfl (by rw [hal];omega) ?_)|(refine rg 15 (dK rfl (vV (by exact kT T rfl rfl rfl rfl rfl rfl (by omega) (by omega) (by omega)) ?_));refine aV ?_)|refine nZ ?_));all_goals try (exfalso;omega)
          all_goals exact ⟨.inl rfl,[0],_,rfl,(by show AV.sl 0 0 ((G.length : Int) - 0).toNat 3 = AV.sl 0 0 G.length 3;rw [show ((G.length : Int) - 0).toNat = G.length by omega]),rfl,⟨.inr (aD rfl htk (bM _)),trivial⟩,by decide,mA⟩
      | false =>
        have hnew := MY (l := l) hd;rw [hkc,oT hlt,← aT hlt] at hnew;rw [hd] at hc;clear hd;generalize l.getD k w0 = a at *;generalize l.getD (k - 1) w0 = b at *
        (repeat' (first|refine wS ?_|refine wB ?_|refine wK ?_|refine wU ?_|(refine wC rfl ?_ ?_<;>(intro hb;(try simp only [nm] at hb);try (exfalso;omega)))|(refine rg 4 (dK rfl (qW T rfl (vV (aL rfl rfl) ?_))))|(refine tS (id := 6) 10 66 yH6 yH7 (rM 18 10) yH8 cJ rfl (by decide +kernel) (by decide +kernel) ?_;(dsimp only [List.take,List.drop]);refine dN rfl (dN rfl (dN rfl (dV rfl (by exact aJ T rfl rfl rfl rfl rfl (by omega) (by omega)) ?_)));refine dV rfl (by exact aP T rfl rfl (bH rfl e1) rfl) ?_;refine dN rfl (dN rfl (dV rfl (cP rfl rfl (by omega) (by omega)) (dV rfl (by exact aJ T rfl rfl rfl rfl rfl (by omega) (by omega)) ?_)));refine dV rfl (by exact aP T rfl rfl (bH rfl e2) rfl) ?_;refine dE ?_;refine fU ?_;refine vV (kC (hc)) ?_)|(refine iA 5 rfl rfl rfl (by omega) (by omega) ?_)|refine nZ ?_));all_goals try (exfalso;omega)
        all_goals exact ⟨⟨k + 1,by omega,hlt,hnew⟩,by dsimp only;omega,[0],rfl,by (repeat (first | exact trivial | refine ⟨rfl,?_⟩)),⟨.inr (aD rfl rfl (bM _)),trivial⟩,by decide,mA⟩
    · obtain rfl : k = l.length := by omega
      have hcm : zX l l.length = l := by rw [hkc,dS]
      rw [hcm]
      (repeat' (first|refine wS ?_|refine wR ?_|refine wE ?_|(refine wC rfl ?_ ?_<;>(intro hb;(try simp only [nm] at hb);try (exfalso;omega)))|(refine rg 4 (dK rfl (qW T rfl (vV (aL rfl rfl) ?_))))|(refine rg 16 (mW rfl (aV ?_)))|refine nZ ?_));all_goals first | (exfalso;omega) | exact ⟨.inl rfl,[0],_,rfl,rfl,rfl,⟨.inr (aD rfl rfl (bM _)),trivial⟩,by decide,mA⟩
theorem KF (l : List W) (hl : l.length ≤ 1000000) : aR Tryz.prog 95 [.rowE (fQ l) 3] [] (.sl 0 0 l.length 3) [.arr (fQ l) 3] := by
  have hll : (fQ l).length = l.length := eV l;refine bO T Tryz.func95 rfl rfl rfl rfl ?_
  repeat' (first|refine wS ?_|refine wK ?_|refine wT ?_|refine wU ?_|(refine rg 0 (aV ?_))|(refine rg 1 (mV ?_);refine rC T rfl rfl rfl rfl fun b hb=>?_;cases b)|refine nZ ?_)
  · (repeat' (first|refine wR ?_|(refine rg 3 (bQ (by exact bC T rfl rfl (by decide) (by decide) rfl rfl rfl) rfl ?_);refine mW rfl (fR T rfl rfl rfl rfl rfl rfl (by decide) (.row (lU l)) (zO8 l) (by simp;omega) (by simp;omega) rfl ?_);refine aV ?_)|(refine nZ ?_)));exact ⟨.inl rfl,[1],_,rfl,(by show AV.sl 1 0 (0 + (fQ l).length) 3 = AV.sl 1 0 l.length 3;simp),rfl,⟨.inr (aD rfl rfl (bM _)),trivial⟩,by decide,wX⟩
  · have hl0 : l = [] := eT.1 (Classical.byContradiction fun h => by have := hb (by omega);cases this)
    subst hl0
    (repeat' (first|refine wR ?_|(refine rg 2 (vV (eI rfl) (rP 2 3 rfl (by decide) ?_)))|refine nZ ?_));exact ⟨.inl rfl,[0],_,rfl,rfl,rfl,⟨.inr (aD rfl rfl (bM _)),trivial⟩,by decide,wX⟩
theorem iJ : ∀ {es : List (List AV)}, (∀ e, e ∈ es → AV.idfL e = true) → AV.idfL es.flatten = true
  | [],_ => rfl
  | e :: es,h => by
    have h1 := h e aS;have h2 := iJ (es := es) fun q hq => h q (aK _ hq);rw [eL];generalize es.flatten = F at *;clear h
    induction e with
    | nil => exact h2
    | cons x e ih =>
      simp only [List.cons_append,AV.idfL,aM] at h1 ⊢;exact ⟨h1.1,ih h1.2⟩
theorem DK (l : List W) (hl : l.length ≤ 100000) (hw : ∀ w,w ∈ l → M7 w) : aR Tryz.prog 49 [.rowE (fQ l) 3] [] (.rowE (fQ (fY l)) 3) [] := by
  refine mH (by simp : (fY l).length = (fQ (fY l)).length) (iJ (bM _)) ?_
  have h1 := KF l (by omega)
  have h2 := zF0 l rfl hl hw;have h3 := MU (dY eM l) (by rw [iP];omega) (fun w h => hw w ((dD _ _).mem_iff.1 h))
  rw [iP] at h3;show aR _ _ _ _ (.sl 0 0 (zV F2 (dY eM l)).length 3) [.arr (fQ (zV F2 (dY eM l))) 3];generalize zV F2 (dY eM l) = R at *;refine bO T Tryz.func49 rfl rfl rfl rfl ?_
  (repeat' (first|refine wS ?_|refine wR ?_|(refine rg 0 (aV ?_))|(refine rg 1 (mW rfl (bQ (by exact fL rfl rfl h1 (.inr ⟨rfl,rfl,by simp⟩)) rfl ?_));refine aV ?_)|(refine rg 2 (mW rfl (fF [0] rfl rfl (h2) rfl rfl (by decide) ⟨.inr (aD rfl (bY _ (bM _)) (bM _)),trivial⟩ (by simp) rfl ?_)))|(refine rg 3 (mW rfl (fF [0] rfl rfl (h3) rfl rfl (by decide) ⟨.inr (aD rfl (bY _ (bM _)) (bM _)),trivial⟩ (by simp) rfl ?_));refine aV ?_)|refine nZ ?_));all_goals exact ⟨.inl rfl,[0],_,rfl,rfl,rfl,⟨.inr (aD rfl (bY _ (bM _)) (bM _)),trivial⟩,by decide,fun i h => absurd h (dH _)⟩
end Go.Proofs.YtmmkhmilpeodnaaGreat
namespace Go.Ab
open Go
mutual
def AV.pln : AV → Bool
  | .v _ => true
  | .any => true
  | .row .. => true
  | .mrow .. => true
  | .pr .. => true
  | .agg cs => AV.plnL cs
  | _ => false
def AV.plnL : List AV → Bool
  | [] => true
  | x :: l => AV.pln x && AV.plnL l
end
mutual
theorem QU {h : Hp} : ∀ (x : AV), x.pln = true → oK h x x
  | .v x,_ => .v x
  | .any,_ => .any
  | .row cs l s,_ => .row cs l s
  | .mrow ks vs,_ => .mrow ks vs
  | .pr cs o,_ => .pr cs o
  | .agg cs,e => .agg (gM cs (by simpa [AV.pln] using e))
  | .ptr ..,e | .ep ..,e | .sl ..,e | .mp ..,e | .tup ..,e | .clo ..,e | .cond ..,e | .ifc ..,e => by simp [AV.pln] at e
theorem gM {h : Hp} : ∀ (xs : List AV), AV.plnL xs = true → mI h xs xs
  | [],_ => .nil
  | x :: l,e => by
    simp only [AV.plnL,aM] at e;exact .cons (QU x e.1) (gM l e.2)
end
theorem Q7 : ∀ (a b : List AV), AV.plnL (a ++ b) = (AV.plnL a && AV.plnL b)
  | [],b => by simp [AV.plnL]
  | x :: a,b => by simp [AV.plnL,Q7 a b,Bool.and_assoc]
theorem vP {α : Type} {g : α → List AV} (hg : ∀ a, AV.plnL (g a) = true) : ∀ l : List α, AV.plnL (l.map g).flatten = true
  | [] => rfl
  | a :: l => by rw [List.map_cons,eL,Q7,hg a,vP hg l];rfl
theorem vH {h : Hp} {k n sz : Nat} {es : List (List AV)} (hk : h[k]? = some (.arr es sz)) (hn : n = es.length) (hp : AV.plnL es.flatten = true) : oK h (.sl k 0 n sz) (.rowE es sz) := by
  subst hn;refine oK.sl hk (by omega) ?_
  rw [lT,dS];exact gM _ hp
end Go.Ab
namespace Go.Ld
open Go.Ab Go.Proofs.YtmmkhmilpeodnaaGreat
theorem gJ (l : List SP) : (fA l).length = l.length := bB _
theorem eZ (l : List SP) : ∀ e,e ∈ fA l → AV.idfL e = true := by intro e he;obtain ⟨i,_,rfl⟩ := bE.1 he;rfl
theorem CT (l : List SP) : (fA l).flatten.all AV.one = true := by
  induction l with
  | nil => rfl
  | cons x l ih => exact ih
theorem rE {l : List SP} {j : Int} {i : Nat} (h : i < l.length) (e : j = i) : (fA l)[j.toNat]? = some [AV.i (l.getD i (0,0)).1,AV.i (l.getD i (0,0)).2] := by
  subst e;rw [bJ,bS,aA h,aC,aA h];rfl
theorem I6 {l : List SP} {j : Int} {i : Nat} (h : i < l.length) (e : j = i) : (fA l)[0 + j.toNat]? = some [AV.i (l.getD i (0,0)).1,AV.i (l.getD i (0,0)).2] := by
  rw [Nat.zero_add];exact rE h e
theorem X5 {l : List SP} {j : Int} {i : Nat} {r : SP} (e : j = i) : (fA l).set (0 + j.toNat) [AV.i r.1,AV.i r.2] = fA (l.set i r) := by
  subst e;rw [Nat.zero_add,bJ];show _ = List.map (fun p : SP => [AV.i p.1,AV.i p.2]) (l.set i r);rw [pP]
end Go.Ld
namespace Go.Proofs.YtmmkhmilpeodnaaGreat
open Go Go.Ab Go.Ld
attribute [local irreducible] VC AW bX aR
set_option maxHeartbeats 4000000
theorem kV (l : List Nat) : ∀ i : Nat,i < 0 → l[i]? = some i := fun i h => absurd h (dH _)
theorem ZC (l : List SP) (hl : l.length ≤ 1000000) : aR Tryz.prog 128 [.rowE (fA l) 2] [] (.sl 0 0 l.length 2) [.arr (fA l) 2] := by
  have hll : (fA l).length = l.length := gJ l;refine bO T Tryz.func128 rfl rfl rfl rfl ?_
  repeat' (first|refine wS ?_|refine wK ?_|refine wT ?_|refine wU ?_|(refine rg 0 (aV ?_))|(refine rg 1 (mV ?_);refine rC T rfl rfl rfl rfl fun b hb=>?_;cases b)|refine nZ ?_)
  · (repeat' (first|refine wR ?_|(refine rg 3 (bQ (by exact bC T rfl rfl (by decide) (by decide) rfl rfl rfl) rfl ?_);refine mW rfl (fR T rfl rfl rfl rfl rfl rfl (by decide) (.row (jI l)) (CT l) (by simp;omega) (by simp;omega) rfl ?_);refine aV ?_)|(refine nZ ?_)));exact ⟨.inl rfl,[1],_,rfl,(by show AV.sl 1 0 (0 + (fA l).length) 2 = AV.sl 1 0 l.length 2;simp),rfl,⟨.inr (aD rfl rfl (eZ _)),trivial⟩,by decide,kV _⟩
  · have hl0 : l = [] := eT.1 (Classical.byContradiction fun h => by have := hb (by omega);cases this)
    subst hl0
    (repeat' (first|refine wR ?_|(refine rg 2 (vV (eI rfl) (rP 2 2 rfl (by decide) ?_)))|refine nZ ?_));exact ⟨.inl rfl,[0],_,rfl,rfl,rfl,⟨.inr (aD rfl rfl (eZ _)),trivial⟩,by decide,kV _⟩
theorem GH (w : W) (hw : M7 w) : aR Tryz.prog 91 [LJ w] [] (.agg [.sl 0 0 w.1.length 1,.i w.2.1,.sl 1 0 w.2.2.length 2]) [.arr (ints w.1) 1,.arr (fA w.2.2) 2] := by
  obtain ⟨p,m,c⟩ := w;have h1 := L1 p (by have := hw.1;dsimp only at this;omega)
  have h2 := ZC c hw.2;dsimp only;refine bO T Tryz.func91 rfl rfl rfl rfl ?_
  (repeat' (first|refine wS ?_|refine wR ?_|(refine rg 0 (bQ (cD rfl rfl) rfl (bQ (bT T rfl) rfl ?_)))|(refine bN (id := 1) 12 [[],[0],[0,1],[],[3],[],[5],[0,1,2,5,6],rN 8] (rM 3 9) [[],[],[],[3,4,5],[3,4,5],rM 3 5,rM 3 5,[6,7],[]] cJ rfl (by decide +kernel) (dP T rfl (dO T rfl (zT rfl rfl rfl (by exact fL rfl rfl h1 (.inr ⟨rfl,rfl,by simp⟩)) rfl ?_)));refine dP T rfl (dO T rfl (dP T rfl (dO T rfl (zT rfl rfl rfl (by exact fL rfl rfl h2 (.inr ⟨rfl,rfl,by simp⟩)) rfl ?_))));refine dV rfl (by exact eU T rfl rfl rfl rfl) ?_;refine dE ?_;refine aU T rfl rfl rfl rfl rfl rfl (by decide) rfl ?_)|refine nZ ?_));all_goals exact ⟨.inl rfl,[2,3],_,rfl,rfl,rfl,⟨.inr (aD rfl (bY _ (ints_idf p)) (ints_idf p)),.inr (aD rfl (bY _ (eZ c)) (eZ c)),trivial⟩,by decide,kV _⟩
theorem X3 {h : Hp} {k n : Nat} {l : List SP} (hk : h[k]? = some (.arr (fA l) 2)) (hn : n = l.length) : oK h (.sl k 0 n 2) (.rowE (fA l) 2) := vH hk (by rw [hn,gJ]) (vP (fun _ => rfl) _)
theorem zT3 (w : W) {i k : Nat} (hw : M7 w) (hi : i < w.1.length) (hk : k < w.1.length) (hc : w.2.2.length = w.1.length) :
    aR Tryz.prog 48 [LJ w,.i i,.i k] [] (.agg [.sl 0 0 w.1.length 1,.i w.2.1,.sl 1 0 w.2.2.length 2]) [.arr (ints (oV w i k).1) 1,.arr (fA (oV w i k).2.2) 2] := by
  have hcl := GH w hw;obtain ⟨p,m,c⟩ := w;have hw1 := hw.1;have hw2 := hw.2;dsimp only at hi hk hc hcl hw1 hw2;have p1 := J5 (l := p) (j := (i : Int)) (i := i) 0 hi rfl;have p2 := J5 (l := p) (j := (k : Int)) (i := k) 0 hk rfl;have ps := PE (l := p) (j := (i : Int)) (i := i) (x := p.getD k 0) rfl;have p3 := J5 (l := p.set i (p.getD k 0)) (j := (k : Int)) (i := k) 0 (by simpa using hk) rfl
  have pt := PE (l := p.set i (p.getD k 0)) (j := (k : Int)) (i := k) (x := p.getD i 0) rfl;have c1 := I6 (l := c) (j := (i : Int)) (i := i) (by omega) rfl
  have c2 := I6 (l := c) (j := (k : Int)) (i := k) (by omega) rfl
  have cs := X5 (l := c) (j := (i : Int)) (i := i) (r := c.getD k (0,0)) rfl;have c3 := I6 (l := c.set i (c.getD k (0,0))) (j := (k : Int)) (i := k) (by rw [gG];omega) rfl
  have ct := X5 (l := c.set i (c.getD k (0,0))) (j := (k : Int)) (i := k) (r := c.getD i (0,0)) rfl;show aR _ _ _ _ _ [.arr (ints ((p.set i (p.getD k 0)).set k (p.getD i 0))) 1,.arr (fA ((c.set i (c.getD k (0,0))).set k (c.getD i (0,0)))) 2];have hlp : (ints p).length = p.length := dC _;have hlc : (fA c).length = c.length := gJ _;dsimp only;refine bO T Tryz.func48 rfl rfl rfl rfl ?_
  (repeat' (first|refine wS ?_|(refine rg 0 (bQ (cD rfl rfl) rfl (bQ (bT T rfl) rfl ?_)))|(refine rg 1 (lW T rfl (bQ (by exact fL rfl rfl hcl (.inr ⟨rfl,rfl,by simp⟩)) rfl ?_));refine aU T rfl rfl rfl rfl rfl rfl (by decide) rfl ?_)|refine nZ ?_));refine fE [(1,.i i),(2,.i k),(3,.ptr 0 0),(6,.ptr 1 0)] [.cells [.sl 2 0 p.length 1,.i m,.sl 3 0 c.length 2],.cells [.nils,.i 0,.nils],.arr (ints p) 1,.arr (fA c) 2] ⟨[0,1,2,3],rfl,(by repeat first|exact trivial|refine ⟨rfl,?_⟩),⟨.inr rfl,.inr rfl,.inr (aD rfl (bY _ (ints_idf p)) (ints_idf p)),.inr (aD rfl (bY _ (eZ c)) (eZ c)),trivial⟩,by decide,kV _⟩ ?_
  rw [← ps] at p3 pt;rw [← cs] at c3 ct;generalize p.getD k 0 = x at *;generalize p.getD i 0 = y at *;generalize c.getD k (0,0) = r at *;generalize c.getD i (0,0) = q at *
  (repeat' (first|refine wS ?_|refine wR ?_|(refine nD (id := 2) 46 yI1 (rM 9 17) [[],[],[9,10],[9,10,11],[9,10,11],rM 9 5,rM 9 6,rM 9 6,rM 9 8,rM 9 6,rM 9 6,rM 9 11,rM 9 11,rM 9 13,rM 9 11,rM 9 11,[12,13,14],[12,13,14]] [(17,2)] cJ rfl (by decide +kernel) (cK rfl rfl rfl rfl (by exact cE T rfl rfl rfl) ?_);refine cK rfl rfl rfl rfl (by exact aP T rfl rfl rfl rfl) ?_;refine cK rfl rfl rfl rfl (by exact cC rfl) ?_;refine cK rfl rfl rfl rfl (by exact cE T rfl rfl rfl) ?_;refine cK rfl rfl rfl rfl (by exact aP T rfl rfl rfl rfl) ?_;refine cK rfl rfl rfl rfl (by exact cC rfl) ?_;refine cK rfl rfl rfl rfl (by exact cE T rfl rfl rfl) ?_;refine cK rfl rfl rfl rfl (by exact aP T rfl rfl rfl rfl) ?_;refine cK rfl rfl rfl rfl (by exact cC rfl) ?_;refine cK rfl rfl rfl rfl (by exact aJ T rfl rfl rfl rfl rfl (by omega) (by omega)) ?_;refine cK rfl rfl rfl rfl (by exact aP T rfl rfl (bH rfl p2) rfl) ?_;refine cK rfl rfl rfl rfl (by exact cE T rfl rfl rfl) ?_;refine cK rfl rfl rfl rfl (by exact aP T rfl rfl rfl rfl) ?_;refine cK rfl rfl rfl rfl (by exact cC rfl) ?_;refine cK rfl rfl rfl rfl (by exact aJ T rfl rfl rfl rfl rfl (by omega) (by omega)) ?_;refine cK rfl rfl rfl rfl (by exact aP T rfl rfl (bH rfl p1) rfl) ?_;refine cK rfl rfl rfl rfl (by exact aJ T rfl rfl rfl rfl rfl (by omega) (by omega)) ?_;refine vB rfl rfl rfl rfl (aN rfl) T rfl rfl rfl rfl rfl rfl (by decide) (tZ rfl p1 rfl) ?_;refine rB rfl rfl rfl (by exact rfl) ?_;refine vV (by exact aJ T rfl rfl rfl rfl rfl (by omega) (by omega)) ?_;refine aU T rfl rfl rfl rfl rfl rfl (by decide) (lX rfl p3 rfl) ?_)|(refine nD (id := 3) 46 yI1 (rM 27 17) [[],[],[27,28],[27,28,29],[27,28,29],rM 27 5,rM 27 6,rM 27 6,rM 27 8,rM 27 6,rM 27 6,rM 27 11,rM 27 11,rM 27 13,rM 27 11,rM 27 11,[30,31,32],[30,31,32]] [(17,3)] cJ rfl (by decide +kernel) (cK rfl rfl rfl rfl (by exact cE T rfl rfl rfl) ?_);refine cK rfl rfl rfl rfl (by exact aP T rfl rfl rfl rfl) ?_;refine cK rfl rfl rfl rfl (by exact cC rfl) ?_;refine cK rfl rfl rfl rfl (by exact cE T rfl rfl rfl) ?_;refine cK rfl rfl rfl rfl (by exact aP T rfl rfl rfl rfl) ?_;refine cK rfl rfl rfl rfl (by exact cC rfl) ?_;refine cK rfl rfl rfl rfl (by exact cE T rfl rfl rfl) ?_;refine cK rfl rfl rfl rfl (by exact aP T rfl rfl rfl rfl) ?_;refine cK rfl rfl rfl rfl (by exact cC rfl) ?_;refine cK rfl rfl rfl rfl (by exact aJ T rfl rfl rfl rfl rfl (by omega) (by omega)) ?_;refine cK rfl rfl rfl rfl (by exact aP T rfl rfl (bH rfl c2) rfl) ?_;refine cK rfl rfl rfl rfl (by exact cE T rfl rfl rfl) ?_;refine cK rfl rfl rfl rfl (by exact aP T rfl rfl rfl rfl) ?_;refine cK rfl rfl rfl rfl (by exact cC rfl) ?_;refine cK rfl rfl rfl rfl (by exact aJ T rfl rfl rfl rfl rfl (by omega) (by omega)) ?_;refine cK rfl rfl rfl rfl (by exact aP T rfl rfl (bH rfl c1) rfl) ?_;refine cK rfl rfl rfl rfl (by exact aJ T rfl rfl rfl rfl rfl (by omega) (by omega)) ?_;refine vB rfl rfl rfl rfl (aN rfl) T rfl rfl rfl rfl rfl rfl (by decide) (tZ rfl c1 rfl) ?_;refine rB rfl rfl rfl (by exact rfl) ?_;refine vV (by exact aJ T rfl rfl rfl rfl rfl (by omega) (by omega)) ?_;refine aU T rfl rfl rfl rfl rfl rfl (by decide) (lX rfl c3 rfl) ?_)|(refine rg 4 (vV (aP T rfl rfl rfl rfl) (aU T rfl rfl rfl rfl rfl rfl (by decide) rfl ?_)))|refine nZ ?_));all_goals exact ⟨.inl rfl,[2,3],_,rfl,rfl,rfl,⟨.inr (aD rfl pt (ints_idf _)),.inr (aD rfl ct (eZ _)),trivial⟩,by decide,kV _⟩
theorem zT4 (w : W) {i k : Nat} (hw : M7 w) (hi : i < w.1.length) (hk : k < w.1.length) (hc : w.2.2.length = w.1.length) : aR Tryz.prog 48 [LJ w,.i i,.i k] [] (LJ (oV w i k)) [] :=
  H4 (zT3 w hw hi hk hc) (.agg (.cons (M8 rfl (by simp [oV])) (.cons (.v _) (.cons (X3 rfl (by simp [oV])) .nil))))
theorem XQ (a b : W) : aR Tryz.prog 138 [LJ a,LJ b] [] (.i (cI a.2.1 b.2.1)) [] := by
  have h := EF a.2.1 b.2.1;refine bO T Tryz.func138 rfl rfl rfl rfl ?_
  (repeat' (first|refine wS ?_|refine wR ?_|(refine rg 0 (bQ (cD rfl rfl) rfl (bQ (cD rfl rfl) rfl (aV ?_))))|(refine rg 1 (gH T rfl (gH T rfl (vV (kC (h)) (aV ?_)))))|refine nZ ?_));all_goals first | (exfalso;omega) | exact rQ
end Go.Proofs.YtmmkhmilpeodnaaGreat
namespace Go.Ld
open Go.Ab Go.Proofs.YtmmkhmilpeodnaaGreat
def tE {α : Type} (p : α → Bool) : List α → Nat → Int
  | [],_ => -1
  | x :: l,k => if p x = true then k else tE p l (k + 1)
theorem FN {α : Type} {p : α → Bool} {l : List α} {k : Nat} (h : k < l.length) : tE p (l.drop k) k = if p l[k] = true then (k : Int) else tE p (l.drop (k + 1)) (k + 1) := by
  rw [aX h];rfl
theorem AJ {α : Type} {p : α → Bool} {l : List α} {k : Nat} (h : l.length ≤ k) : tE p (l.drop k) k = -1 := by
  rw [cY h];rfl
theorem J6 {α : Type} (p : α → Bool) : ∀ (l : List α) (k : Nat), decide (tE p l k ≥ 0) = l.any p
  | [],k => by simp [tE]
  | x :: l,k => by
    unfold tE;split
    · rename_i h;simp [h]
    · rename_i h;rw [J6 p l (k + 1)];simp [h]
theorem DX {α : Type} (p : α → Bool) : ∀ (l : List α) (k : Nat), tE p l k = match l.findIdx? p with
    | some i => ((k + i : Nat) : Int)
    | none => -1
  | [],k => by simp [tE]
  | x :: l,k => by
    unfold tE;rw [List.findIdx?_cons];by_cases h : p x = true
    · rw [if_pos h,if_pos h];simp
    · rw [if_neg h,if_neg h,DX p l (k + 1)];cases l.findIdx? p with
      | none => rfl
      | some i => show ((k + 1 + i : Nat) : Int) = ((k + (i + 1) : Nat) : Int);omega
theorem pT (l : List G) : ∀ e,e ∈ jW l → e.length = 2 := by intro e he;obtain ⟨n,_,rfl⟩ := bE.1 he;rfl
theorem jV (l : List G) : (jW l).length = l.length := bB _
theorem YH (l : List G) : (jW l).flatten.all AV.one = true := by
  induction l with
  | nil => rfl
  | cons x l ih => exact ih
theorem eG (l : List G) : ∀ e,e ∈ jW l → AV.idfL e = true := by intro e he;obtain ⟨x,_,rfl⟩ := bE.1 he;rfl
end Go.Ld
namespace Go.Proofs.YtmmkhmilpeodnaaGreat
open Go Go.Ab Go.Ld
attribute [local irreducible] VC AW bX aR
set_option maxHeartbeats 4000000
abbrev UI (g : G) : AV := .agg (gA g)
theorem rW {l : List W} {k : Nat} (h : k < l.length) : (fQ l)[(k : Int).toNat]? = some (wA l[k]) := by simp [h]
theorem V6 {l : List G} {k : Nat} (h : k < l.length) : (jW l)[(k : Int).toNat]? = some (gA l[k]) := by simp [h]
theorem PD {l : List Int} {k : Nat} (h : k < l.length) : (ints l)[(k : Int).toNat]? = some [AV.i l[k]] := by simp [h]
theorem XU {l : List W} {F : FuncId} {caps : List AV} {p : W → Bool} (hl : l.length ≤ 1000000) (hi : AV.idfL caps = true) (hF : ∀ x,x ∈ l → aR Tryz.prog F (.agg (wA x) :: caps) [] (.b (p x)) []) :
    aR Tryz.prog 139 [.rowE (fQ l) 3,.clo (.func F) [] caps] [] (.i (tE p l 0)) [] := by
  have hlen : (fQ l).length = l.length := bB _;refine bO T Tryz.func139 rfl rfl rfl rfl ?_
  (repeat' (first|refine wS ?_|refine wB ?_|(refine rg 0 (aV ?_))|(refine rg 1 (mW rfl (qW T rfl (mV ?_))))|refine nZ ?_));refine cN (X := {k : Nat // k ≤ l.length ∧ tE p l 0 = tE p (l.drop k) k}) (fun k => [(0,.rowE (fQ l) 3),(1,.clo (.func F) [] caps),(7,.i (fQ l).length),(8,.i k.1)]) (fun _ => []) (fun k => l.length - k.1) ⟨0,by simp,rfl⟩ ⟨[],rfl,⟨rfl,by rw [mR hi];rfl,rfl,rfl,trivial⟩,trivial,cQ,fun _ h => absurd h (dH _)⟩ ?_
  rintro ⟨k,hk,he⟩;dsimp only;by_cases hlt : k < l.length
  · have hc := hF l[k] (aI hlt);have hg := rW (l := l) hlt;rw [FN hlt] at he;generalize l[k] = y at *;cases hp : p y with
    | true =>
      rw [hp] at hc;rw [hp,if_pos rfl] at he
      (repeat' (first|refine wS ?_|refine wB ?_|refine wK ?_|refine wR ?_|refine wT ?_|(refine wC rfl ?_ ?_<;>(intro hb;(try simp only [nm] at hb);try (exfalso;omega)))|(refine rg 2 (vV (aL rfl rfl) ?_))|(refine rg 3 (mW rfl (aV ?_)))|(refine rg 4 (dK rfl (mW rfl (vV (ix T rfl (by omega) (lU l) hg) (lW T rfl (vV (by exact eQ rfl rfl hc rfl (by simp [AV.idfL,AV.idf,hi]) rfl) ?_))))))|(refine rg 5 (mW rfl (aV ?_)))|refine nZ ?_));all_goals first | (exfalso;omega) | exact cX (.inl rfl) rfl (by rw [he];rfl)
    | false =>
      rw [hp] at hc;rw [hp,if_neg (by simp)] at he
      (repeat' (first|refine wS ?_|refine wB ?_|refine wK ?_|refine wU ?_|(refine wC rfl ?_ ?_<;>(intro hb;(try simp only [nm] at hb);try (exfalso;omega)))|(refine rg 2 (vV (aL rfl rfl) ?_))|(refine rg 3 (mW rfl (aV ?_)))|(refine rg 4 (dK rfl (mW rfl (vV (ix T rfl (by omega) (lU l) hg) (lW T rfl (vV (by exact eQ rfl rfl hc rfl (by simp [AV.idfL,AV.idf,hi]) rfl) ?_))))))|(refine rg 6 (vV (bV rfl rfl (by omega) (by omega)) (mV ?_)))|refine nZ ?_));all_goals first | (exfalso;omega) | exact ⟨⟨k + 1,hlt,he⟩,by dsimp only;omega,⟨[],rfl,⟨rfl,by rw [mR hi];rfl,rfl,rfl,trivial⟩,trivial,cQ,fun _ h => absurd h (dH _)⟩⟩
  · rw [AJ (by omega)] at he
    (repeat' (first|refine wS ?_|refine wR ?_|refine wE ?_|(refine wC rfl ?_ ?_<;>(intro hb;(try simp only [nm] at hb);try (exfalso;omega)))|(refine rg 2 (vV (aL rfl rfl) ?_))|(refine rg 7 (aV ?_))|refine nZ ?_));all_goals first | (exfalso;omega) | exact cX (.inl rfl) rfl (by rw [he];rfl)
theorem zS0 {l : List W} {F : FuncId} {caps : List AV} {p : W → Bool} (hl : l.length ≤ 1000000) (hi : AV.idfL caps = true) (hF : ∀ x,x ∈ l → aR Tryz.prog F (.agg (wA x) :: caps) [] (.b (p x)) []) :
    aR Tryz.prog 140 [.rowE (fQ l) 3,.clo (.func F) [] caps] [] (.b (l.any p)) [] := by
  have hc := XU hl hi hF;rw [← J6 p l 0];refine bO T Tryz.func140 rfl rfl rfl rfl ?_
  (repeat' (first|refine wS ?_|refine wR ?_|(refine rg 0 (aV ?_))|(refine rg 1 (dK rfl (vV (by exact eQ rfl rfl hc rfl (by simp [AV.idfL,AV.idf,hi]) rfl) ?_));refine vV (jX rfl rfl) (aV ?_))|refine nZ ?_));all_goals first | (exfalso;omega) | exact rQ
theorem zO0 {l : List G} {F : FuncId} {caps : List AV} {p : G → Bool} (hl : l.length ≤ 1000000) (hi : AV.idfL caps = true) (hF : ∀ x,x ∈ l → aR Tryz.prog F (.agg (gA x) :: caps) [] (.b (p x)) []) :
    aR Tryz.prog 89 [.rowE (jW l) 2,.clo (.func F) [] caps] [] (.i (tE p l 0)) [] := by
  have hlen : (jW l).length = l.length := bB _;refine bO T Tryz.func89 rfl rfl rfl rfl ?_
  (repeat' (first|refine wS ?_|refine wB ?_|(refine rg 0 (aV ?_))|(refine rg 1 (mW rfl (qW T rfl (mV ?_))))|refine nZ ?_));refine cN (X := {k : Nat // k ≤ l.length ∧ tE p l 0 = tE p (l.drop k) k}) (fun k => [(0,.rowE (jW l) 2),(1,.clo (.func F) [] caps),(7,.i (jW l).length),(8,.i k.1)]) (fun _ => []) (fun k => l.length - k.1) ⟨0,by simp,rfl⟩ ⟨[],rfl,⟨rfl,by rw [mR hi];rfl,rfl,rfl,trivial⟩,trivial,cQ,fun _ h => absurd h (dH _)⟩ ?_
  rintro ⟨k,hk,he⟩;dsimp only;by_cases hlt : k < l.length
  · have hc := hF l[k] (aI hlt);have hg := V6 (l := l) hlt;rw [FN hlt] at he;generalize l[k] = y at *;cases hp : p y with
    | true =>
      rw [hp] at hc;rw [hp,if_pos rfl] at he
      (repeat' (first|refine wS ?_|refine wB ?_|refine wK ?_|refine wR ?_|refine wT ?_|(refine wC rfl ?_ ?_<;>(intro hb;(try simp only [nm] at hb);try (exfalso;omega)))|(refine rg 2 (vV (aL rfl rfl) ?_))|(refine rg 3 (mW rfl (aV ?_)))|(refine rg 4 (dK rfl (mW rfl (vV (ix T rfl (by omega) (pT l) hg) (lW T rfl (vV (by exact eQ rfl rfl hc rfl (by simp [AV.idfL,AV.idf,hi]) rfl) ?_))))))|(refine rg 5 (mW rfl (aV ?_)))|refine nZ ?_));all_goals first | (exfalso;omega) | exact cX (.inl rfl) rfl (by rw [he];rfl)
    | false =>
      rw [hp] at hc;rw [hp,if_neg (by simp)] at he
      (repeat' (first|refine wS ?_|refine wB ?_|refine wK ?_|refine wU ?_|(refine wC rfl ?_ ?_<;>(intro hb;(try simp only [nm] at hb);try (exfalso;omega)))|(refine rg 2 (vV (aL rfl rfl) ?_))|(refine rg 3 (mW rfl (aV ?_)))|(refine rg 4 (dK rfl (mW rfl (vV (ix T rfl (by omega) (pT l) hg) (lW T rfl (vV (by exact eQ rfl rfl hc rfl (by simp [AV.idfL,AV.idf,hi]) rfl) ?_))))))|(refine rg 6 (vV (bV rfl rfl (by omega) (by omega)) (mV ?_)))|refine nZ ?_));all_goals first | (exfalso;omega) | exact ⟨⟨k + 1,hlt,he⟩,by dsimp only;omega,⟨[],rfl,⟨rfl,by rw [mR hi];rfl,rfl,rfl,trivial⟩,trivial,cQ,fun _ h => absurd h (dH _)⟩⟩
  · rw [AJ (by omega)] at he
    (repeat' (first|refine wS ?_|refine wR ?_|refine wE ?_|(refine wC rfl ?_ ?_<;>(intro hb;(try simp only [nm] at hb);try (exfalso;omega)))|(refine rg 2 (vV (aL rfl rfl) ?_))|(refine rg 7 (aV ?_))|refine nZ ?_));all_goals first | (exfalso;omega) | exact cX (.inl rfl) rfl (by rw [he];rfl)
theorem zS4 {l : List G} {F : FuncId} {caps : List AV} {p : G → Bool} (hl : l.length ≤ 1000000) (hi : AV.idfL caps = true) (hF : ∀ x,x ∈ l → aR Tryz.prog F (.agg (gA x) :: caps) [] (.b (p x)) []) :
    aR Tryz.prog 51 [.rowE (jW l) 2,.clo (.func F) [] caps] [] (.b (l.any p)) [] := by
  have hc := zO0 hl hi hF;rw [← J6 p l 0];refine bO T Tryz.func51 rfl rfl rfl rfl ?_
  (repeat' (first|refine wS ?_|refine wR ?_|(refine rg 0 (aV ?_))|(refine rg 1 (dK rfl (vV (by exact eQ rfl rfl hc rfl (by simp [AV.idfL,AV.idf,hi]) rfl) ?_));refine vV (jX rfl rfl) (aV ?_))|refine nZ ?_));all_goals first | (exfalso;omega) | exact rQ
theorem zY3 {l : List Int} {F : FuncId} {caps : List AV} {p : Int → Bool} (hl : l.length ≤ 1000000) (hi : AV.idfL caps = true) (hF : ∀ x,x ∈ l → aR Tryz.prog F (.i x :: caps) [] (.b (p x)) []) :
    aR Tryz.prog 117 [.rowE (ints l) 1,.clo (.func F) [] caps] [] (.i (tE p l 0)) [] := by
  have hlen : (ints l).length = l.length := bB _;refine bO T Tryz.func117 rfl rfl rfl rfl ?_
  (repeat' (first|refine wS ?_|refine wB ?_|(refine rg 0 (aV ?_))|(refine rg 1 (mW rfl (qW T rfl (mV ?_))))|refine nZ ?_));refine cN (X := {k : Nat // k ≤ l.length ∧ tE p l 0 = tE p (l.drop k) k}) (fun k => [(0,.rowE (ints l) 1),(1,.clo (.func F) [] caps),(7,.i (ints l).length),(8,.i k.1)]) (fun _ => []) (fun k => l.length - k.1) ⟨0,by simp,rfl⟩ ⟨[],rfl,⟨rfl,by rw [mR hi];rfl,rfl,rfl,trivial⟩,trivial,cQ,fun _ h => absurd h (dH _)⟩ ?_
  rintro ⟨k,hk,he⟩;dsimp only;by_cases hlt : k < l.length
  · have hc := hF l[k] (aI hlt);have hg := PD (l := l) hlt;rw [FN hlt] at he;generalize l[k] = y at *;cases hp : p y with
    | true =>
      rw [hp] at hc;rw [hp,if_pos rfl] at he
      (repeat' (first|refine wS ?_|refine wB ?_|refine wK ?_|refine wR ?_|refine wT ?_|(refine wC rfl ?_ ?_<;>(intro hb;(try simp only [nm] at hb);try (exfalso;omega)))|(refine rg 2 (vV (aL rfl rfl) ?_))|(refine rg 3 (mW rfl (aV ?_)))|(refine rg 4 (dK rfl (mW rfl (vV (ix T rfl (by omega) (ints_len l) hg) (lW T rfl (vV (by exact eQ rfl rfl hc rfl (by simp [AV.idfL,AV.idf,hi]) rfl) ?_))))))|(refine rg 5 (mW rfl (aV ?_)))|refine nZ ?_));all_goals first | (exfalso;omega) | exact cX (.inl rfl) rfl (by rw [he];rfl)
    | false =>
      rw [hp] at hc;rw [hp,if_neg (by simp)] at he
      (repeat' (first|refine wS ?_|refine wB ?_|refine wK ?_|refine wU ?_|(refine wC rfl ?_ ?_<;>(intro hb;(try simp only [nm] at hb);try (exfalso;omega)))|(refine rg 2 (vV (aL rfl rfl) ?_))|(refine rg 3 (mW rfl (aV ?_)))|(refine rg 4 (dK rfl (mW rfl (vV (ix T rfl (by omega) (ints_len l) hg) (lW T rfl (vV (by exact eQ rfl rfl hc rfl (by simp [AV.idfL,AV.idf,hi]) rfl) ?_))))))|(refine rg 6 (vV (bV rfl rfl (by omega) (by omega)) (mV ?_)))|refine nZ ?_));all_goals first | (exfalso;omega) | exact ⟨⟨k + 1,hlt,he⟩,by dsimp only;omega,⟨[],rfl,⟨rfl,by rw [mR hi];rfl,rfl,rfl,trivial⟩,trivial,cQ,fun _ h => absurd h (dH _)⟩⟩
  · rw [AJ (by omega)] at he
    (repeat' (first|refine wS ?_|refine wR ?_|refine wE ?_|(refine wC rfl ?_ ?_<;>(intro hb;(try simp only [nm] at hb);try (exfalso;omega)))|(refine rg 2 (vV (aL rfl rfl) ?_))|(refine rg 7 (aV ?_))|refine nZ ?_));all_goals first | (exfalso;omega) | exact cX (.inl rfl) rfl (by rw [he];rfl)
theorem YG {l : List Int} {F : FuncId} {caps : List AV} {p : Int → Bool} (hl : l.length ≤ 1000000) (hi : AV.idfL caps = true) (hF : ∀ x,x ∈ l → aR Tryz.prog F (.i x :: caps) [] (.b (p x)) []) :
    aR Tryz.prog 61 [.rowE (ints l) 1,.clo (.func F) [] caps] [] (.b (l.any p)) [] := by
  have hc := zY3 hl hi hF;rw [← J6 p l 0];refine bO T Tryz.func61 rfl rfl rfl rfl ?_
  (repeat' (first|refine wS ?_|refine wR ?_|(refine rg 0 (aV ?_))|(refine rg 1 (dK rfl (vV (by exact eQ rfl rfl hc rfl (by simp [AV.idfL,AV.idf,hi]) rfl) ?_));refine vV (jX rfl rfl) (aV ?_))|refine nZ ?_));all_goals first | (exfalso;omega) | exact rQ
end Go.Proofs.YtmmkhmilpeodnaaGreat
namespace Go.Ab
open Go
def pM (L : List Nat) (pos k : Nat) : Nat := match L[k]? with
  | some j => j
  | none => pos
theorem HS.callP {c : nT} {ρ ρ' : Pl} {S S' : Nat → Prop} {H hin hout : Hp} {w w' : World} {L : List Nat} {pos : Nat} {b1 : AB} (s : HS c ρ S H w) (hL : L.length = hin.length) (hnd : L.Nodup) (hh : tT (th L H.length) H 0 hin) (hng : ∀ b, b ∈ hin → b ≠ .gone)
    (hlen : hout.length = hin.length) (hp0 : ρ pos = Option.none) (hp1 : H[pos]? = some .gone) (hpm : c.m ≤ pos)
    (hs : HS (oB w (fun k => ρ (th L H.length k)) S hin) ρ' S' (hout ++ [b1]) w') :
    ∃ ρ3 : Pl,HS c ρ3 S' ((zC H L (hout.map (AB.map (pM L pos)))).set pos (b1.map (pM L pos))) w' ∧ iC ρ ρ3 S S' w w' ∧ (∀ {x : AV} {y : Value},R S' w' x ρ' y → R S' w' (x.map (pM L pos)) ρ3 y) ∧ ∀ j,j ≠ pos → ρ3 j = ρ j := by
  have hin_at : ∀ {i : Nat} {b : AB},hin[i]? = some b → ∃ j,L[i]? = some j ∧ j < H.length ∧ H[j]? = some (b.map (th L H.length)) ∧ b.map (th L H.length) ≠ .gone := fun {i b} hb => by
    have hne := hng b (aQ hb);have hlt : i < L.length := by rw [hL];exact (aB.1 hb).1
    have hj := aA hlt;have hth : th L H.length i = L[i] := by simp [th,hj]
    rcases hh.get i b hb with hg | hg
    · exact absurd hg hne
    · rw [Nat.zero_add,hth] at hg;exact ⟨L[i],hj,(aB.1 hg).1,hg,by cases b <;> simp [AB.map] at * ⟩
  have thL : ∀ {i j : Nat},L[i]? = some j → th L H.length i = j := fun hi => by simp [th,hi]
  have keep : ∀ {i j : Nat},i < hin.length → L[i]? = some j → ρ' i = ρ j := fun {i j} hi hj => by
    have := hs.keep i hi;simp only [oB] at this;rw [this,thL hj]
  have hM : ∀ b,(oB w (fun k => ρ (th L H.length k)) S hin).M b → w.heap.size ≤ b ∨ ∃ (i j : Nat) (o : Nat) (x : AB),hin[i]? = some x ∧ L[i]? = some j ∧ ρ j = some (b,o) := fun b hb => by
    rcases hb with hb | ⟨k,x,o,hb,_,hp⟩
    · exact .inl hb
    · obtain ⟨j,h3,_⟩ := hin_at hb;exact .inr ⟨k,j,o,x,hb,h3,by rw [← thL h3];exact hp⟩
  have hcM : ∀ b,(oB w (fun k => ρ (th L H.length k)) S hin).M b → c.M b := fun b hb => by
    rcases hM b hb with hb | ⟨i,j,o,x,h3,h4,h5⟩
    · exact c.new b (bA s.ext.size hb)
    · obtain ⟨j',h6,_,h7,h8⟩ := hin_at h3;rw [h4] at h6;cases h6;exact (s.live j _ _ h7 h8 h5).1
  have hlow : ∀ b,b < w.heap.size → (oB w (fun k => ρ (th L H.length k)) S hin).M b → ∃ (i j : Nat) (o : Nat) (x : AB),hin[i]? = some x ∧ L[i]? = some j ∧ ρ j = some (b,o) := fun b hlt hb => by
    rcases hM b hb with hb | hb
    · omega
    · exact hb
  have other : ∀ {k : Nat} {b : AB} {q : Nat × Nat},H[k]? = some b → b ≠ .gone → k ∉ L → ρ k = some q → ¬ (oB w (fun k => ρ (th L H.length k)) S hin).M q.1 := fun {k b q} hb hg hkL hq hm => by
    obtain ⟨i,j,o,x,h3,h4,h5⟩ := hlow q.1 (s.rng k q hq) hm;obtain ⟨j',h6,_,h7,h8⟩ := hin_at h3;rw [h4] at h6;cases h6;have := s.inj k j _ _ q _ hb h7 hg h8 hq h5 rfl;subst this;exact hkL (aQ h4)
  have stM : ∀ b,S b → ¬ (oB w (fun k => ρ (th L H.length k)) S hin).M b := fun b hb hm => by
    obtain ⟨i,j,o,x,h3,h4,h5⟩ := hlow b (s.stab b hb) hm;obtain ⟨j',h6,_,h7,h8⟩ := hin_at h3;rw [h4] at h6;cases h6;exact (s.live j _ _ h7 h8 h5).2 hb
  have same : ∀ b,b < w.heap.size → ¬ (oB w (fun k => ρ (th L H.length k)) S hin).M b → w'.heap[b]? = w.heap[b]? := fun b hb hm => hs.ext.same b hb hm
  have hposL : pos ∉ L := fun hm => by
    obtain ⟨i,hi⟩ := GZ.1 hm;have hlt : i < hin.length := by rw [← hL];exact (aB.1 hi).1
    obtain ⟨j,h3,_,h4,h5⟩ := hin_at (aA hlt);rw [hi] at h3;cases h3;rw [hp1] at h4;exact h5 (Option.some.inj h4).symm
  have hposH : pos < H.length := (aB.1 hp1).1
  let ρ3 : Pl := fun j => if j = pos then ρ' hin.length else ρ j
  have r3p : ρ3 pos = ρ' hin.length := if_pos rfl;have r3o : ∀ j,j ≠ pos → ρ3 j = ρ j := fun j hj => if_neg hj
  have l : iC ρ ρ3 S S' w w' := by
    refine ⟨fun k q hq => ?_,hs.st0,fun b hb => same b (s.stab b hb) (stM b hb),fun _ _ _ _ _ hr => hs.ext.room hr⟩
    rw [r3o k (fun e => by rw [e,hp0] at hq;cases hq)];exact hq
  have pl : ∀ k q,ρ' k = some q → ρ3 (pM L pos k) = some q := fun k q hq => by
    by_cases hk : k < hin.length
    · obtain ⟨j,h3,_,_⟩ := hin_at (aA hk);have hbk : pM L pos k = j := by simp [pM,h3]
      have hjp : j ≠ pos := fun e => hposL (e ▸ aQ h3);rw [hbk,r3o j hjp,← keep hk h3];exact hq
    · by_cases hk2 : k = hin.length
      · have hbk : pM L pos k = pos := by unfold pM;rw [cM (by omega)]
        rw [hbk,r3p,← hk2];exact hq
      · have := hs.dom k (by rw [aF,hlen,List.length_singleton];omega)
        rw [this] at hq;cases hq
  have shift : ∀ {x : AV} {y : Value},R S' w' x ρ' y → R S' w' (x.map (pM L pos)) ρ3 y := fun {x y} hx => Q3 _ _ x y (mB (fun _ h => h) (fun _ _ => rfl) x ρ' _ y pl (fun _ _ _ _ _ h => h) hx);have shiftB : ∀ {b : AB} {pp},RB S' w' ρ' pp b → RB S' w' ρ3 pp (b.map (pM L pos)) := fun {b pp} hb => GY _ _ (RB.later (ρ := ρ') (S := S') ⟨pl,fun _ h => h,fun _ _ => rfl,fun _ _ _ _ _ h => h⟩ (fun _ _ _ => rfl) hb);have get : ∀ {k : Nat} {b : AB},((zC H L (hout.map (AB.map (pM L pos)))).set pos (b1.map (pM L pos)))[k]? = some b →
      (k ≠ pos ∧ k ∉ L ∧ H[k]? = some b) ∨ (∃ (i : Nat) (b' : AB),(hout ++ [b1])[i]? = some b' ∧ b = b'.map (pM L pos) ∧ pM L pos i = k ∧ ρ3 k = ρ' i) := fun {k b} hb => by
    rw [gX] at hb;by_cases hk : pos = k
    · rw [if_pos hk,if_pos (by rw [kS];exact hposH)] at hb
      cases hb;refine .inr ⟨hin.length,b1,by rw [← hlen];simp,rfl,?_,by rw [← hk];exact r3p⟩
      unfold pM;rw [cM (by omega)]
      exact hk
    · rw [if_neg hk] at hb;by_cases hkL : k ∈ L
      · obtain ⟨i,hi⟩ := GZ.1 hkL;have hiL : i < hin.length := by rw [← hL];exact (aB.1 hi).1
        have hb' := aA (l := hout) (i := i) (by omega)
        have hkl : k < H.length := by
          have := (aB.1 hb).1
          rwa [kS] at this
        rw [FD (b := (hout[i]'(by omega)).map (pM L pos)) hnd hi (by simp [hb']) hkl] at hb
        simp only [Option.some.injEq] at hb;exact .inr ⟨i,_,by rw [aH (by omega)];exact hb',hb.symm,by simp [pM,hi],by rw [r3o k (fun e => hk e.symm)];exact (keep hiL hi).symm⟩
      · rw [wQ _ _ _ hkL] at hb;exact .inl ⟨fun e => hk e.symm,hkL,hb⟩
  have mapg : ∀ {θ : Nat → Nat} {b : AB},b.map θ ≠ .gone → b ≠ .gone := fun hb e => hb (by rw [e];rfl)
  refine ⟨ρ3,⟨fun k hk => ?_,fun k q hq => ?_,fun k b hb => ?_,fun k b q hb hg hq => ?_,fun k k' b b' q q' hb hb' hg hg' hq hq' e => ?_,hs.stab,s.ext.trans hs.ext (fun b hb hlt => hcM b hb),fun b hb => hs.st0 b (s.st0 b hb),fun b hb => ?_,?_,fun k hk => ?_,hs.glob⟩,l,shift,r3o⟩
  · rw [gG,kS] at hk;rw [r3o k (by omega)]
    exact s.dom k hk
  · by_cases hk : k = pos
    · rw [hk,r3p] at hq;exact hs.rng _ q hq
    · rw [r3o k hk] at hq;exact dI (s.rng k q hq) hs.ext.size
  · rcases get hb with ⟨h3,h4,h5⟩ | ⟨i,b',h3,rfl,h4,h5⟩
    · rw [r3o k h3];by_cases hg : b = .gone
      · subst hg;trivial
      · exact RB.later l (fun b1 o1 hp => same b1 (s.rng k _ hp) (other h5 hg h4 hp)) (s.blk k b h5)
    · rw [h5];exact shiftB (hs.blk i b' h3)
  · rcases get hb with ⟨h3,h4,h5⟩ | ⟨i,b',h3,rfl,h4,h5⟩
    · rw [r3o k h3] at hq;obtain ⟨h7,h8⟩ := s.live k b q h5 hg hq;refine ⟨h7,fun hs' => ?_⟩
      rcases hs.st1 _ hs' with h9 | h9
      · exact h8 h9
      · exact other h5 hg h4 hq h9
    · rw [h5] at hq;obtain ⟨h7,h8⟩ := hs.live i b' q h3 (mapg hg) hq;exact ⟨hcM _ h7,h8⟩
  · rcases get hb with ⟨h3,h4,h5⟩ | ⟨i,b1,h3,rfl,h4,h5⟩ <;> rcases get hb' with ⟨h3',h4',h5'⟩ | ⟨i',b1',h3',rfl,h4',h5'⟩
    · rw [r3o k h3] at hq;rw [r3o k' h3'] at hq';exact s.inj k k' b b' q q' h5 h5' hg hg' hq hq' e
    · rw [r3o k h3] at hq;rw [h5'] at hq';have hl := (hs.live i' b1' q' h3' (mapg hg') hq').1;rw [← e] at hl;exact absurd hl (other h5 hg h4 hq)
    · rw [r3o k' h3'] at hq';rw [h5] at hq;have hl := (hs.live i b1 q h3 (mapg hg) hq).1;rw [e] at hl;exact absurd hl (other h5' hg' h4' hq')
    · rw [h5] at hq;rw [h5'] at hq';have := hs.inj i i' b1 b1' q q' h3 h3' (mapg hg) (mapg hg') hq hq' e;subst this;rw [← h4,← h4']
  · rcases hs.st1 b hb with hb' | hb'
    · exact s.st1 b hb'
    · exact .inr (hcM b hb')
  · rw [gG,kS];exact s.mle
  · rw [r3o k (by omega)]
    exact s.keep k hk
theorem tT.up {θ : Nat → Nat} {h H : Hp} (hb : ∀ (j : Nat) b, h[j]? = some b → b ≠ .gone → H[j]? = some b) : ∀ {hin : Hp} {i : Nat}, (∀ b, b ∈ hin → b ≠ .gone) → tT θ h i hin → tT θ H i hin
  | [],_,_,_ => trivial
  | b :: r,i,hng,hs => by
    refine ⟨?_,tT.up hb (fun x hx => hng x (aK _ hx)) hs.2⟩;rcases hs.1 with h1 | h1
    · exact .inl h1
    · refine .inr (hb _ _ h1 ?_);have := hng b aS;cases b <;> simp [AB.map] at *
section
variable {P : Program} {env : dW} {h : Hp} {d : Option Nat} {ty : TypeId} {pos : String} {af : Array Edge}
theorem KR (L : List Nat) {pp k : Nat} {nb b1 u1 : AB} {uu : AV} {dd : Nat} {x : Operand} {f : FuncId} {fs cs us xs : List AV} {args : List Operand} {ats : Array TypeId} {res : AV} {hin hout : Hp} (hx : evu env x = some (.clo (.func f) fs cs)) (ha : yD env args = some us)
    (hc : aR P f xs hin res (hout ++ [b1])) (hxs : ∀ N,fs ++ us ++ cs = AV.mapL (th L N) xs) (hL : L.length = hin.length) (hnd : L.Nodup) (hh : ∀ N,tT (th L N) h 0 hin) (hng : ∀ b,b ∈ hin → b ≠ .gone) (hlen : hout.length = hin.length)
    (hput : ∀ H : Hp,(∀ (j : Nat) b,h[j]? = some b → b ≠ .gone → H[j]? = some b) → zC H L (hout.map (AB.map (pM L pp))) = H.set k nb) (hu : res.map (pM L pp) = uu) (hb1 : b1.map (pM L pp) = u1) :
    kY P ⟨some dd,.call { callee := .value x,args := args.toArray,argTypes := ats },ty,pos,af,none⟩ env h pp k nb uu [u1] := by
  intro c ρ S a w H g p hbel hpp K' Q hK';obtain ⟨hr0,hH0,hm0⟩ : ρ pp = none ∧ H[pp]? = some .gone ∧ c.m ≤ pp := by
    rcases hpp with h0 | h0
    · cases h0
    · exact h0
  have hxv := p.evu hx;simp only [R] at hxv;obtain ⟨ys,zs,e1,h1,h2⟩ := hxv;have hall : RL S w (fs ++ us ++ cs) ρ (ys.toList ++ args.map a.eval ++ zs.toList) := gW (gW h1 (uG p ha)) h2;rw [hxs H.length] at hall;have hargs := nO (th L H.length) ρ _ _ hall;obtain ⟨hf,hc⟩ := hc;have hsub := tT.up hbel hng (hh H.length);have hs0 := g.hand hL hnd hsub;have hcall := hc _ S w _ hs0 hargs;unfold Oper.wp;have hrun : (execOp a.eval ⟨some dd,.call { callee := .value x,args := args.toArray,argTypes := ats },ty,pos,af,none⟩).run P w = .ok (.enter f (ys.toList ++ args.map a.eval ++ zs.toList).toArray) w := by
    have e2 : (ys ++ (args.toArray.map a.eval) ++ zs) = (ys.toList ++ args.map a.eval ++ zs.toList).toArray := by
      apply Array.ext';simp
    simp only [execOp,resolve,e1,Deferred.ofValue,Sem.run_bind,Sem.run_pure,Result.andThen_ok,invoke];rw [e2];exact vM hf
  rw [hrun];simp only [Oper.upon];refine hcall.mono ?_;rintro e w' ⟨y,ρ',S',rfl,hs,hy⟩;simp only;obtain ⟨ρ3,g1,g2,g3,g4⟩ := g.callP hL hnd hsub hng hlen hr0 hH0 hm0 hs;rw [hput H hbel,hb1] at g1;exact hK' _ ρ3 S' w' g1 g2 (hu ▸ g3 hy) (fun j hj => g4 j (hj (by simp)))
end
theorem pN.freezeP {n : Nat × Nat} {c : nT} {ρ : Pl} {S : Nat → Prop} {env : dW} {h : Hp} {a : Act} {w : World} {t k off : Nat} {cs : List AV} (s : pN n c ρ S env h a w) (ht : look env t = some (.ptr k off)) (hk : h[k]? = some (.cells cs)) (hi : AV.idfL cs = true) :
    pN n c ρ (fun b => S b ∨ ∃ o,ρ k = some (b,o)) ((t,.pr cs off) :: env) (h.set k .gone) a w := by
  refine ⟨s.size,s.defers.st (fun _ h => .inl h),fun t' x hx => ?_,s.hs.freezeC hk (by simp),s.cm⟩
  rw [gS] at hx;split at hx
  · rename_i e;subst e;cases hx;exact JU hi (s.hs.blk k _ hk) (s.env t _ ht)
  · exact KZ (fun _ h => .inl h) (s.env t' x hx)
theorem GV {S S' : Nat → Prop} {w : World} {ρ : Pl} {x x' : AV} (hS : ∀ b, S b → S' b) (hx : ∀ y, R S w x ρ y → R S' w x' ρ y) : ∀ {cs : List AV} {f : Nat}, cs[f]? = some x → ∀ {ys : List Value}, RL S w cs ρ ys → RL S' w (cs.set f x') ρ ys
  | [],f,hf,ys,h => by simp at hf
  | c :: cs,0,hf,ys,h => by
    simp only [eH,Option.some.injEq] at hf;subst hf;simp only [RL,List.set_cons_zero] at h ⊢;obtain ⟨y,zs,e,h1,h2⟩ := h;exact ⟨y,zs,e,hx y h1,zB4 hS h2⟩
  | c :: cs,f + 1,hf,ys,h => by
    simp only [kH] at hf;simp only [RL,List.set_cons_succ] at h ⊢;obtain ⟨y,zs,e,h1,h2⟩ := h;exact ⟨y,zs,e,KZ hS h1,GV hS hx hf h2⟩
theorem pN.freezeIn {n : Nat × Nat} {c : nT} {ρ : Pl} {S : Nat → Prop} {env : dW} {h : Hp} {a : Act} {w : World} {j f k len sz : Nat} {cs : List AV} {es : List (List AV)} (s : pN n c ρ S env h a w) (hj : h[j]? = some (.cells cs)) (hf : cs[f]? = some (.sl k 0 len sz)) (hk : h[k]? = some (.arr es sz)) (hn : len = es.length) (hi : AV.idfL es.flatten = true) :
    pN n c ρ (fun b => S b ∨ ∃ o,ρ k = some (b,o)) env ((h.set k .gone).set j (.cells (cs.set f (.rowE es sz)))) a w := by
  have hne : j ≠ k := by rintro rfl;rw [hj] at hk;cases hk
  have h1 := s.hs.freeze hk;have hj' : (h.set k .gone)[j]? = some (.cells cs) := by rw [iT (Ne.symm hne)];exact hj
  refine ⟨s.size,s.defers.st (fun _ h => .inl h),fun t' x hx => KZ (fun _ h => .inl h) (s.env t' x hx),h1.alter hj' (fun _ => ?_) (by simp),s.cm⟩
  have hb := s.hs.blk j _ hj;simp only [RB] at hb ⊢;obtain ⟨b,o,ys,e1,e2,e3⟩ := hb;refine ⟨b,o,ys,e1,e2,GV (fun _ h => .inl h) (fun y hy => ?_) hf e3⟩;rw [hn] at hy;exact xH hi (s.hs.blk k _ hk) hy
section
variable {P : Program} {n : Nat × Nat} {ops : Array Oper} {env : dW} {h : Hp} {K : dW → Hp → Prop} {rest : List Oper} {Q : Exit → dW → Hp → Prop} {code : Code}
theorem fC (t : Nat) {k off : Nat} {cs : List AV} (ht : look env t = some (.ptr k off)) (hk : h[k]? = some (.cells cs)) (hi : AV.idfL cs = true) (hv : AW P n code ((t,.pr cs off) :: env) (h.set k .gone) Q) : AW P n code env h Q :=
  fun c ρ S a w QQ s hQ => hv c ρ _ a w QQ (s.freezeP ht hk hi) hQ
theorem nL (j f : Nat) {k len sz : Nat} {cs : List AV} {es : List (List AV)} (hj : h[j]? = some (.cells cs)) (hf : cs[f]? = some (.sl k 0 len sz)) (hk : h[k]? = some (.arr es sz)) (hn : len = es.length) (hi : AV.idfL es.flatten = true) (hv : AW P n code env ((h.set k .gone).set j (.cells (cs.set f (.rowE es sz)))) Q) : AW P n code env h Q :=
  fun c ρ S a w QQ s hQ => hv c ρ _ a w QQ (s.freezeIn hj hf hk hn hi) hQ
end
theorem HS.snocG {c : nT} {ρ : Pl} {S : Nat → Prop} {H : Hp} {w : World} (s : HS c ρ S H w) : HS c ρ S (H ++ [.gone]) w := by
  have get : ∀ {k : Nat} {b : AB},(H ++ [AB.gone])[k]? = some b → b ≠ .gone → H[k]? = some b := fun {k b} hb hg => by
    by_cases hk : k < H.length
    · rwa [aH hk] at hb
    · rw [aE (by omega)] at hb
      by_cases e : k - H.length = 0
      · rw [e] at hb;simp at hb;exact absurd hb.symm hg
      · rw [cM (by simp;omega)] at hb;cases hb
  refine ⟨fun k hk => s.dom k (by simp at hk;omega),s.rng,fun k b hb => ?_,fun k b q hb hg hq => s.live k b q (get hb hg) hg hq,fun k k' b b' q q' hb hb' hg hg' hq hq' e => s.inj k k' b b' q q' (get hb hg) (get hb' hg') hg hg' hq hq' e,s.stab,s.ext,s.st0,s.st1,by rw [aF];have := s.mle;omega,s.keep,s.glob⟩
  by_cases hg : b = .gone
  · subst hg;trivial
  · exact s.blk k b (get hb hg)
theorem BN {P : Program} {f : FuncId} {args : List AV} {res : AV} {hin hout : Hp} (h : aR P f args hin res hout) : aR P f args hin res (hout ++ [.gone]) := by
  refine ⟨h.1,fun ρ S w vs hs ha => (h.2 ρ S w vs hs ha).mono ?_⟩;rintro e w' ⟨y,ρ',S',rfl,h2,h3⟩;exact ⟨y,ρ',S',rfl,h2.snocG,h3⟩
end Go.Ab
namespace Go.Ab
open Go
set_option maxHeartbeats 1000000
theorem DC {w : World} {n b off : Nat} {d : List Value} {os : Array Obj} {c : Array Value} {e : TypeId} (hc : w.heap[b]? = some (.cells c e (0,0))) (hb : b < w.heap.size) :
    (Sort.grow (Sort.putRow id (Sort.ahead w n) b off d.toArray) os).heap[b]? = some (.cells (Sort.putCells id off d.toArray c) e (0,0)) := by
  rw [Sort.heap_grow_old _ _ (by rw [Sort.size_putRow];exact hb)]
  unfold Sort.putRow Sort.mapBlock;show (w.heap.modify b _)[b]? = _;rw [yK,if_pos rfl,hc];rfl
theorem IL {w : World} {n b off : Nat} {d : List Value} {os : Array Obj} {c : Array Value} {e : TypeId} (hc : w.heap[b]? = some (.cells c e (0,0))) (hb : b < w.heap.size) :
    mK (fun x => x = b) w (Sort.grow (Sort.putRow id (Sort.ahead w n) b off d.toArray) os) := by
  have other : ∀ x,x < w.heap.size → x ≠ b → (Sort.grow (Sort.putRow id (Sort.ahead w n) b off d.toArray) os).heap[x]? = w.heap[x]? := fun x hx hne => by
    rw [Sort.heap_grow_old _ _ (by rw [Sort.size_putRow];exact hx)]
    unfold Sort.putRow Sort.mapBlock;show (w.heap.modify b _)[x]? = _;rw [yK,if_neg (Ne.symm hne)]
  refine ⟨rfl,rfl,rfl,by rw [Sort.size_grow,Sort.size_putRow];exact iY _ _,fun x hx hne => other x hx hne,fun x cc ee fz hcc => ?_⟩
  by_cases hx : x = b
  · subst hx;rw [hc] at hcc;cases hcc;exact ⟨_,_,DC hc hb,by simp [Sort.putCells]⟩
  · exact ⟨cc,fz,by rw [other x (aG.1 hcc).1 hx];exact hcc,rfl⟩
theorem zG0 {c : nT} {ρ : Pl} {S : Nat → Prop} {es es' : List (List AV)} {sz : Nat} {w w' : World} {b o n : Nat} {ys ys' Z : List Value} (s : HS c ρ S [.arr es sz] w) (hp : ρ 0 = some (b, o)) (hne : es ≠ [])
    (hys : R7 w b o ys) (hl : (ys' ++ Z).length = ys.length) (he : ∀ e,e ∈ es' → e.length = sz) (hr : ∀ S' w',iC ρ ρ S S' w w' → RL S' w' es'.flatten ρ ys')
    (hw : w' = Sort.putRow id (Sort.ahead w n) b o (ys' ++ Z).toArray) : HS c ρ S [.arr es' sz] w' := by
  obtain ⟨_,h0,h3⟩ := s.blk 0 _ rfl;obtain ⟨c,ty,hc,hg⟩ := hys;have hb := (aG.1 hc).1;have hw2 : w' = Sort.grow (Sort.putRow id (Sort.ahead w n) b o (ys' ++ Z).toArray) #[] := by rw [hw,K0]
  have hh : w'.heap[b]? = some (.cells (Sort.putCells id o (ys' ++ Z).toArray c) ty (0,0)) := by rw [hw2];exact DC hc hb
  obtain ⟨s',_⟩ := s.upd (k := 0) (b0 := .arr es sz) (nb := .arr es' sz) (w' := w') rfl (by simp) hp (by rw [hw2];exact IL hc hb) (fun l => by
    refine ⟨he,h0,.inr ⟨b,o,ys',rfl,⟨_,ty,hh,fun j y hj => ?_⟩,hr _ _ l⟩⟩
    obtain ⟨hjl,hz⟩ := aB.1 hj;rw [aF] at hl;have hold := hg j (ys[j]'(by omega)) (aA (by omega))
    unfold Sort.putCells;rw [HB,hold];show some (if o ≤ o + j ∧ o + j < o + (ys' ++ Z).toArray.size then _ else _) = _
    have hsz : (ys' ++ Z).toArray.size = ys'.length + Z.length := by simp
    rw [if_pos ⟨by omega,by omega⟩]
    congr 1;rw [show o + j - o = j by omega,getElem!_pos _ j (by omega)]
    show (ys' ++ Z).toArray[j]'_ = y
    rw [A8,List.getElem_append_left hjl];exact hz)
  exact s'
theorem TF {es : List (List AV)} {sz : Nat} (h : ∀ e,e ∈ es → e.length = sz) (m : Nat) : (es.drop m).flatten = es.flatten.drop (m * sz) := by
  induction es generalizing m with
  | nil => simp
  | cons a l ih =>
    have ha := h a aS;cases m with
    | zero => simp
    | succ m =>
      rw [List.drop_succ_cons,eL,ih (fun e he => h e (aK _ he)),List.drop_append];rw [cY (l := a) (by rw [ha,eC];omega),ha,eC,T1,UA,List.nil_append]
theorem zB5 {S : Nat → Prop} {w : World} {ρ : Pl} : ∀ {xs as_ : List AV} {ys bs : List Value}, RL S w xs ρ ys → RL S w as_ ρ bs → RL S w (xs ++ as_) ρ (ys ++ bs)
  | [],as_,ys,bs,h,h' => by simp only [RL] at h;subst h;exact h'
  | x :: xs,as_,ys,bs,h,h' => by
    simp only [RL] at h;obtain ⟨y,zs,rfl,h1,h2⟩ := h;exact ⟨y,zs ++ bs,rfl,h1,zB5 h2 h'⟩
theorem QJ {S : Nat → Prop} {w : World} {ρ : Pl} : ∀ {xs : List AV} {ys : List Value}, RL S w xs ρ ys → xs.all AV.one = true → ∀ u, u ∈ ys → u.oneCell' = true
  | [],ys,h,_,u,hu => by simp only [RL] at h;subst h;cases hu
  | x :: xs,ys,h,h1,u,hu => by
    simp only [RL] at h;obtain ⟨y,zs,rfl,h2,h3⟩ := h;simp only [U5,aM] at h1;rcases bR.1 hu with rfl | hu
    · exact FI h2 h1.1
    · exact QJ h3 h1.2 u hu
theorem F3 {P : Program} {f : FuncId} {sz : Nat} (hfn : ∃ fn, P.funcs[f]? = some fn ∧ (fn.name == "runtime.NumGoroutine") = false ∧ fn.body.isNone = false)
    (hs : ∀ (blk off cap len i j : Nat) (cs : List Value) (w : World),cs.length = len * sz → Sort.Holds id w blk off cs.toArray → (∀ u,u ∈ cs → u.oneCell' = true) → len ≤ cap → cap ≤ 9223372036854775807 → i ≤ j → j ≤ len →
      Calls P f #[.slice (some ⟨blk,off,none⟩) len cap,.int .i64 i,.int .i64 j] w fun e w' => e = .returned (.slice (some ⟨blk,off,none⟩) (len - (j - i)) cap) ∧ ∃ (q : Nat) (Z : List Value),Z.length = (j - i) * sz ∧ w' = Sort.putRow id (Sort.ahead w q) blk off (cs.take (i * sz) ++ cs.drop (j * sz) ++ Z).toArray)
    (es : List (List AV)) (hes : ∀ e,e ∈ es → e.length = sz) (h1 : es.flatten.all AV.one = true) (i j : Nat) (hij : i ≤ j) (hj : j ≤ es.length) (hne : es ≠ []) :
    aR P f [.sl 0 0 es.length sz,.i (i : Int),.i (j : Int)] [.arr es sz] (.sl 0 0 (es.length - (j - i)) sz) [.arr (es.take i ++ es.drop j) sz] := by
  refine ⟨hfn,fun ρ S w vs s hv => ?_⟩
  simp only [RL] at hv;obtain ⟨y,_,rfl,hy,y2,_,rfl,hy2,y3,_,rfl,hy3,rfl⟩ := hv;simp only [R] at hy hy2 hy3;subst hy2 hy3;obtain ⟨a,cap,rfl,hcap,hy⟩ := hy;have hl0 : 0 < es.length := dZ.2 hne;rcases hy with ⟨h0,_⟩ | ⟨b,o,hp,ha,hcl,hrm⟩
  · omega
  · obtain ⟨_,hs0,hB⟩ := s.blk 0 _ rfl;rcases hB with hB | ⟨b',o',ys,h4,h5,h6⟩
    · exact absurd hB.1 hne
    · rw [hp] at h4;cases h4;rw [H7,Nat.add_zero] at ha;subst ha;have hmax : maxLen ≤ 9223372036854775807 := by decide
      have hyl : ys.length = es.length * sz := by rw [fD h6,eB hes]
      obtain ⟨cc,ct,hcc,hcg⟩ := h5;have hH : Sort.Holds id w b o ys.toArray := fun t ht => by
        have ht' : t < ys.length := by simpa using ht
        have h7 := hcg t ys[t] (aA ht');refine ⟨?_,?_⟩
        · show w.cell? ⟨b,o + t,none⟩ = some (ys.toArray[t]!);rw [getElem!_pos _ t ht];simp only [World.cell?,hcc];rw [A8];exact h7
        · simp [World.frozen?,hcc]
      refine (hs b o cap es.length i j ys w hyl hH (QJ h6 h1) hcl (by omega) hij hj).mono fun e w' ⟨he,q,Z,hZ,hw⟩ => ?_
      subst he;have hil : i * sz ≤ j * sz := eW _ hij;have hjl : j * sz ≤ es.length * sz := eW _ hj;have hsub : (j - i) * sz = j * sz - i * sz := Nat.sub_mul _ _ _;have s' := zG0 (es' := es.take i ++ es.drop j) (ys := ys) (ys' := ys.take (i * sz) ++ ys.drop (j * sz)) (Z := Z) (n := q) s hp hne ⟨cc, ct, hcc, hcg⟩ (by simp only [aF, bD, dJ, hZ]; omega)
        (fun e he => by rcases bI.1 he with he | he;exact hes e (eJ he);exact hes e (eK he))
        (fun S' w' l => by
          rw [fZ,C9 hes,TF hes]
          exact zB5 (qF (h6.later l) _) (uN (h6.later l) _)) hw
      have hsz0 := hs0;refine ⟨_,ρ,S,rfl,s',?_⟩;simp only [R];refine ⟨_,cap,rfl,hcap,.inr ⟨b,o,hp,by simp,by omega,?_⟩⟩
      rw [hw];have hb := (aG.1 hcc).1;have hw2 : Sort.putRow id (Sort.ahead w q) b o (ys.take (i * sz) ++ ys.drop (j * sz) ++ Z).toArray = Sort.grow (Sort.putRow id (Sort.ahead w q) b o (ys.take (i * sz) ++ ys.drop (j * sz) ++ Z).toArray) #[] := by rw [K0]
      rw [hw2];exact (IL hcc hb).room hrm
theorem Y4 {P : Program} (w : World) (t e ty : TypeId) (z : Value) (ht : P.underlying t = some (.slice e)) (hv : ∀ w, (zeroValue e).run P w = .ok z w) (hz : z.cells.toList ≠ []) (h1 : ∀ u, u ∈ z.cells.toList → u.oneCell' = true) (b o n c : Nat) (hn : 0 < n)
    (hc : ∀ j,j < n * z.cells.toList.length → (w.cell? ⟨b,o + j,none⟩).isSome = true) (hf : ∀ j,j < n * z.cells.toList.length → w.frozen? ⟨b,o + j,none⟩ = false) :
    (Builtin.clear_ #[t] ty #[.slice (some ⟨b,o,none⟩) n c]).run P w = .ok (.tuple #[]) (w.setCells b o (Builtin.zeroCells z.cells n).toList) := by
  obtain ⟨hm,hl⟩ := pR (z := z.cells) rfl hz n;have hst := run_storeCells_cells (P := P) b o (Builtin.zeroCells z.cells n).toList 0 w (fun j hj => by simpa using hc j (by omega)) (fun j hj => by simpa using hf j (by omega)) (fun v hv' => h1 v (hm v hv'))
  simp only [Nat.add_zero] at hst;obtain ⟨m,rfl⟩ : ∃ m,n = m + 1 := ⟨n - 1,by omega⟩
  simp [Builtin.clear_,run_underlying ht,hv,hst]
end Go.Ab
namespace Go.Proofs.YtmmkhmilpeodnaaGreat
open Go Go.Ab Go.Ld Go.Lib Go.Sort Go.RowKit Go.Shelf
theorem S4 (d : List Value) (i j : Nat) (Z : List Value) (hij : i ≤ j) (hj : j ≤ d.length) (hZ : Z.length = j - i) :
    lay (lay d.toArray i (d.drop j)) (i + (d.length - j)) Z = (d.take i ++ d.drop j ++ Z).toArray := by
  apply Array.ext_getElem?;intro t;have l1 : (d.take i).length = i := by simp;omega
  have l2 : (d.drop j).length = d.length - j := by simp
  rw [lay_get? _ _ _ _ (by rw [lay_size];simp;omega),lay_get? _ _ _ _ (by rw [l2];simp;omega),show (d.take i ++ d.drop j ++ Z).toArray[t]? = (d.take i ++ d.drop j ++ Z)[t]? from iL]
  simp only [hZ,l2];by_cases c1 : t < i
  · rw [if_neg (by omega),if_neg (by omega),aH (by simp;omega),aH (by omega),bZ,if_pos c1,iL]
  · by_cases c2 : t < i + (d.length - j)
    · rw [if_neg (by omega),if_pos (by omega),aH (by simp;omega),aE (by omega),l1]
    · rw [aE (by simp;omega)]
      simp only [aF,l1,l2];by_cases c3 : t < d.length
      · rw [if_pos (by omega)]
      · rw [if_neg (by omega),if_neg (by omega),Array.getElem?_eq_none (by simp;omega),cM (by omega)]
set_option maxHeartbeats 4000000 in
set_option maxRecDepth 1000000 in
theorem zL3 (blk off cap len i j : Nat) (cs : List Value) (w : World) (hcl0 : cs.length = len * 2) (hH : Holds id w blk off cs.toArray) (h1 : ∀ u,u ∈ cs → u.oneCell' = true) (hcap : len ≤ cap) (hm : cap ≤ 9223372036854775807) (hij : i ≤ j) (hj : j ≤ len) :
    Calls Tryz.prog 143 #[.slice (some ⟨blk,off,none⟩) len cap,.int .i64 i,.int .i64 j] w fun e w' => e = .returned (.slice (some ⟨blk,off,none⟩) (len - (j - i)) cap) ∧ ∃ (q : Nat) (Z : List Value),Z.length = (j - i) * 2 ∧ w' = putRow id (Sort.ahead w q) blk off (cs.take (i * 2) ++ cs.drop (j * 2) ++ Z).toArray := by
  by_cases heq : i = j
  · subst heq;have h0 : Calls Tryz.prog 143 #[.slice (some ⟨blk,off,none⟩) len cap,.int .i64 i,.int .i64 i] w fun e w' => e = .returned (.slice (some ⟨blk,off,none⟩) len cap) ∧ w' = w := by
      clear hH h1
      go_enter Tryz.func143,Tryz.ntmps143
      go_wp2
      all_goals (go_ret;exact ⟨rfl,rfl⟩)
    refine h0.mono ?_;rintro e w' ⟨rfl,rfl⟩;refine ⟨by rw [eY,zB7],0,[],by simp,?_⟩
    rw [List.append_nil,bL];exact (putRow_self id (Sort.ahead w' 0) blk off cs.toArray hH).symm
  · have hlt : i < j := by omega
    obtain ⟨inf,z,t1,t2,t3,t4,t5,t6,t7⟩ := T.tiOk 48 _ rfl;have t22 : Tryz.prog.underlying 82 = some (.slice 48) := T.elemOk _ _ rfl;have hzv : ∀ w,(zeroValue 48).run Tryz.prog w = .ok z w := fun w => by simp [zeroValue,typeInfo,t1,t4]
    have hz2 : z.cells.toList.length = 2 := by rw [t5];rfl
    have hz1 : ∀ u,u ∈ z.cells.toList → u.oneCell' = true := by rw [t5];exact bG.1 rfl
    obtain ⟨_,hZl⟩ := pR (z := z.cells) rfl (by intro h;rw [h] at hz2;cases hz2) (j - i)
    rw [hz2] at hZl;have hji : len - (i + (len - j)) = j - i := by omega
    obtain ⟨Z,hZe⟩ : ∃ Z,Z = (Builtin.zeroCells z.cells (j - i)).toList := ⟨_,rfl⟩;rw [← hZe] at hZl;obtain ⟨news,hnews⟩ : ∃ news,news = cs.drop (j * 2) := ⟨_,rfl⟩;have hlen : news.length = (len - j) * 2 := by rw [hnews,dJ];omega
    have hget : ∀ t,t < (len - j) * 2 → news[t]? = some (cs.toArray[j * 2 + t]!) := by
      intro t ht;rw [hnews,eD,getElem!_pos cs.toArray (j * 2 + t) (by simp;omega),A8,aA]
    obtain ⟨A,hA,hsrc⟩ : ∃ A : Addr,(if cap = j then some (⟨blk,off,none⟩ : Addr) else some ⟨blk,off + j * 2,none⟩) = some A ∧ Hid (∀ t u,news[t]? = some u → w.drew.cell? (A.add t) = some u) := by
      by_cases h : cap = j
      · refine ⟨⟨blk,off,none⟩,by simp [h],fun t u hu => ?_⟩
        have h0 : news.length = 0 := by rw [hlen];omega
        rw [eT.1 h0] at hu;simp at hu
      · refine ⟨⟨blk,off + j * 2,none⟩,by simp [h],fun t u hu => ?_⟩
        have ht : t < (len - j) * 2 := by
          have := (aB.1 hu).1
          rwa [hlen] at this
        rw [hget t ht] at hu;rw [Addr.add_lit,show off + j * 2 + t = off + (j * 2 + t) by omega]
        exact (hH (j * 2 + t) (by simp;omega)).1.trans hu
    have s1 : Hid (news.length = (len - j) * 2) := hlen;have s2 : Hid (∀ u ∈ news,u.oneCell' = true) := by
      intro u hu;rw [hnews] at hu;exact h1 u (eK hu)
    have s3 : Hid (∀ t,t < news.length → (w.drew.cell? ⟨blk,off + i * 2 + t,none⟩).isSome = true ∧ w.drew.frozen? ⟨blk,off + i * 2 + t,none⟩ = false) := by
      intro t ht;rw [hlen] at ht;rw [dU];exact ⟨by show (w.cell? _).isSome = true;rw [(hH (i * 2 + t) (by simp;omega)).1];rfl,(hH (i * 2 + t) (by simp;omega)).2⟩
    obtain ⟨W1,hW1⟩ : ∃ W1,W1 = w.drew.setCells blk (off + i * 2) news := ⟨_,rfl⟩;have hW1' : W1 = putRow id (Sort.ahead w 1) blk off (lay cs.toArray (i * 2) (cs.drop (j * 2))) := by
      have h := putRow_setCells id (Sort.ahead w 1) blk off (cs.drop (j * 2)) cs.toArray (i * 2) (by simp;omega)
      rw [T3,putRow_self id (Sort.ahead w 1) blk off cs.toArray (holds_ahead id w 1 blk off cs.toArray hH)] at h;rw [hW1,hnews];exact h
    have hH1 : Holds id W1 blk off (lay cs.toArray (i * 2) (cs.drop (j * 2))) := by rw [hW1'];exact holds_putRow id _ blk off cs.toArray _ (holds_ahead id w 1 blk off cs.toArray hH) (lay_size _ _ _)
    have hcl : ∀ ty,(Builtin.clear_ #[82] ty #[.slice (some ⟨blk,off + (i + (len - j)) * 2,none⟩) (len - (i + (len - j))) (cap - (i + (len - j)))]).run Tryz.prog W1 = .ok (.tuple #[]) (W1.setCells blk (off + (i + (len - j)) * 2) Z) :=
      fun ty => by
       rw [hZe,← hji];exact Y4 W1 _ _ ty z t22 hzv (by intro h; rw [h] at hz2; cases hz2) hz1 blk _ _ _ (by omega)
        (fun t ht => by rw [hz2] at ht;rw [dU,(hH1 _ (by rw [lay_size];simp;omega)).1];rfl) (fun t ht => by rw [hz2] at ht;rw [dU];exact (hH1 _ (by rw [lay_size];simp;omega)).2)
    have X : Aside (W1 = putRow id (Sort.ahead w 1) blk off (lay cs.toArray (i * 2) (cs.drop (j * 2)))) := hW1';have hW : Hid (W1 = w.drew.setCells blk (off + i * 2) news) := hW1;have mixed := cJ;have hic : i ≤ cap := by omega
    have hjc : j ≤ cap := by omega
    clear hW1 hW1' hH1 hH hget hnews hlen hji hZe
    go_enter Tryz.func143,Tryz.ntmps143
    go_wp2_with fail
    go_region_law_o (refine step_append_room rfl (.tmp 22) (.tmp 25) 82 rfl 48 inf 2 t22 t1 t2 blk off i cap (by simp [Act.eval,Act.put]) A (len - j) (cap - j) news (by simp [Act.eval,Act.put]) s1.out hsrc.out s2.out (by omega) s3.out ?_;rw [← hW.out])
    go_wp2
    go_ret
    refine ⟨by rw [show len - (j - i) = i + (len - j) by omega];rfl,1,Z,hZl,?_⟩
    rw [X.out,← T3 Z,show off + (i + (len - j)) * 2 = off + (i * 2 + (cs.length - j * 2)) by omega,putRow_setCells id _ blk off _ _ _ (by rw [lay_size,nR];omega),T3,
      S4 cs (i * 2) (j * 2) _ (by omega) (by omega) (by omega)]
theorem zT9 (l : List SP) (i j : Nat) (hij : i ≤ j) (hj : j ≤ l.length) (hne : l ≠ []) :
    aR Tryz.prog 143 [.sl 0 0 l.length 2,.i (i : Int),.i (j : Int)] [.arr (fA l) 2] (.sl 0 0 (l.length - (j - i)) 2) [.arr (fA (l.take i ++ l.drop j)) 2] := by
  have h := F3 (sz := 2) ⟨_,Tryz.func143,by kernel_rfl,by kernel_rfl⟩ zL3 (fA l) (jI l) (CT l) i j hij (by rw [bB];exact hj) (fun h => hne (mJ.1 h))
  rw [bB,← lH,← List.map_drop,← dB] at h;exact h
set_option maxHeartbeats 4000000 in
set_option maxRecDepth 1000000 in
theorem zL4 (blk off cap len i j : Nat) (cs : List Value) (w : World) (hcl0 : cs.length = len * 2) (hH : Holds id w blk off cs.toArray) (h1 : ∀ u,u ∈ cs → u.oneCell' = true) (hcap : len ≤ cap) (hm : cap ≤ 9223372036854775807) (hij : i ≤ j) (hj : j ≤ len) :
    Calls Tryz.prog 88 #[.slice (some ⟨blk,off,none⟩) len cap,.int .i64 i,.int .i64 j] w fun e w' => e = .returned (.slice (some ⟨blk,off,none⟩) (len - (j - i)) cap) ∧ ∃ (q : Nat) (Z : List Value),Z.length = (j - i) * 2 ∧ w' = putRow id (Sort.ahead w q) blk off (cs.take (i * 2) ++ cs.drop (j * 2) ++ Z).toArray := by
  by_cases heq : i = j
  · subst heq;have h0 : Calls Tryz.prog 88 #[.slice (some ⟨blk,off,none⟩) len cap,.int .i64 i,.int .i64 i] w fun e w' => e = .returned (.slice (some ⟨blk,off,none⟩) len cap) ∧ w' = w := by
      clear hH h1
      go_enter Tryz.func88,Tryz.ntmps88
      go_wp2
      all_goals (go_ret;exact ⟨rfl,rfl⟩)
    refine h0.mono ?_;rintro e w' ⟨rfl,rfl⟩;refine ⟨by rw [eY,zB7],0,[],by simp,?_⟩
    rw [List.append_nil,bL];exact (putRow_self id (Sort.ahead w' 0) blk off cs.toArray hH).symm
  · have hlt : i < j := by omega
    obtain ⟨inf,z,t1,t2,t3,t4,t5,t6,t7⟩ := T.tiOk 87 _ rfl;have t22 : Tryz.prog.underlying 79 = some (.slice 87) := T.elemOk _ _ rfl;have hzv : ∀ w,(zeroValue 87).run Tryz.prog w = .ok z w := fun w => by simp [zeroValue,typeInfo,t1,t4]
    have hz2 : z.cells.toList.length = 2 := by rw [t5];rfl
    have hz1 : ∀ u,u ∈ z.cells.toList → u.oneCell' = true := by rw [t5];exact bG.1 rfl
    obtain ⟨_,hZl⟩ := pR (z := z.cells) rfl (by intro h;rw [h] at hz2;cases hz2) (j - i)
    rw [hz2] at hZl;have hji : len - (i + (len - j)) = j - i := by omega
    obtain ⟨Z,hZe⟩ : ∃ Z,Z = (Builtin.zeroCells z.cells (j - i)).toList := ⟨_,rfl⟩;rw [← hZe] at hZl;obtain ⟨news,hnews⟩ : ∃ news,news = cs.drop (j * 2) := ⟨_,rfl⟩;have hlen : news.length = (len - j) * 2 := by rw [hnews,dJ];omega
    have hget : ∀ t,t < (len - j) * 2 → news[t]? = some (cs.toArray[j * 2 + t]!) := by
      intro t ht;rw [hnews,eD,getElem!_pos cs.toArray (j * 2 + t) (by simp;omega),A8,aA]
    obtain ⟨A,hA,hsrc⟩ : ∃ A : Addr,(if cap = j then some (⟨blk,off,none⟩ : Addr) else some ⟨blk,off + j * 2,none⟩) = some A ∧ Hid (∀ t u,news[t]? = some u → w.drew.cell? (A.add t) = some u) := by
      by_cases h : cap = j
      · refine ⟨⟨blk,off,none⟩,by simp [h],fun t u hu => ?_⟩
        have h0 : news.length = 0 := by rw [hlen];omega
        rw [eT.1 h0] at hu;simp at hu
      · refine ⟨⟨blk,off + j * 2,none⟩,by simp [h],fun t u hu => ?_⟩
        have ht : t < (len - j) * 2 := by
          have := (aB.1 hu).1
          rwa [hlen] at this
        rw [hget t ht] at hu;rw [Addr.add_lit,show off + j * 2 + t = off + (j * 2 + t) by omega]
        exact (hH (j * 2 + t) (by simp;omega)).1.trans hu
    have s1 : Hid (news.length = (len - j) * 2) := hlen;have s2 : Hid (∀ u ∈ news,u.oneCell' = true) := by
      intro u hu;rw [hnews] at hu;exact h1 u (eK hu)
    have s3 : Hid (∀ t,t < news.length → (w.drew.cell? ⟨blk,off + i * 2 + t,none⟩).isSome = true ∧ w.drew.frozen? ⟨blk,off + i * 2 + t,none⟩ = false) := by
      intro t ht;rw [hlen] at ht;rw [dU];exact ⟨by show (w.cell? _).isSome = true;rw [(hH (i * 2 + t) (by simp;omega)).1];rfl,(hH (i * 2 + t) (by simp;omega)).2⟩
    obtain ⟨W1,hW1⟩ : ∃ W1,W1 = w.drew.setCells blk (off + i * 2) news := ⟨_,rfl⟩;have hW1' : W1 = putRow id (Sort.ahead w 1) blk off (lay cs.toArray (i * 2) (cs.drop (j * 2))) := by
      have h := putRow_setCells id (Sort.ahead w 1) blk off (cs.drop (j * 2)) cs.toArray (i * 2) (by simp;omega)
      rw [T3,putRow_self id (Sort.ahead w 1) blk off cs.toArray (holds_ahead id w 1 blk off cs.toArray hH)] at h;rw [hW1,hnews];exact h
    have hH1 : Holds id W1 blk off (lay cs.toArray (i * 2) (cs.drop (j * 2))) := by rw [hW1'];exact holds_putRow id _ blk off cs.toArray _ (holds_ahead id w 1 blk off cs.toArray hH) (lay_size _ _ _)
    have hcl : ∀ ty,(Builtin.clear_ #[79] ty #[.slice (some ⟨blk,off + (i + (len - j)) * 2,none⟩) (len - (i + (len - j))) (cap - (i + (len - j)))]).run Tryz.prog W1 = .ok (.tuple #[]) (W1.setCells blk (off + (i + (len - j)) * 2) Z) :=
      fun ty => by
       rw [hZe,← hji];exact Y4 W1 _ _ ty z t22 hzv (by intro h; rw [h] at hz2; cases hz2) hz1 blk _ _ _ (by omega)
        (fun t ht => by rw [hz2] at ht;rw [dU,(hH1 _ (by rw [lay_size];simp;omega)).1];rfl) (fun t ht => by rw [hz2] at ht;rw [dU];exact (hH1 _ (by rw [lay_size];simp;omega)).2)
    have X : Aside (W1 = putRow id (Sort.ahead w 1) blk off (lay cs.toArray (i * 2) (cs.drop (j * 2)))) := hW1';have hW : Hid (W1 = w.drew.setCells blk (off + i * 2) news) := hW1;have mixed := cJ;have hic : i ≤ cap := by omega
    have hjc : j ≤ cap := by omega
    clear hW1 hW1' hH1 hH hget hnews hlen hji hZe
    go_enter Tryz.func88,Tryz.ntmps88
    go_wp2_with fail
    go_region_law_o (refine step_append_room rfl (.tmp 22) (.tmp 25) 79 rfl 87 inf 2 t22 t1 t2 blk off i cap (by simp [Act.eval,Act.put]) A (len - j) (cap - j) news (by simp [Act.eval,Act.put]) s1.out hsrc.out s2.out (by omega) s3.out ?_;rw [← hW.out])
    go_wp2
    go_ret
    refine ⟨by rw [show len - (j - i) = i + (len - j) by omega];rfl,1,Z,hZl,?_⟩
    rw [X.out,← T3 Z,show off + (i + (len - j)) * 2 = off + (i * 2 + (cs.length - j * 2)) by omega,putRow_setCells id _ blk off _ _ _ (by rw [lay_size,nR];omega),T3,
      S4 cs (i * 2) (j * 2) _ (by omega) (by omega) (by omega)]
theorem zU0 (l : List G) (i j : Nat) (hij : i ≤ j) (hj : j ≤ l.length) (hne : l ≠ []) :
    aR Tryz.prog 88 [.sl 0 0 l.length 2,.i (i : Int),.i (j : Int)] [.arr (jW l) 2] (.sl 0 0 (l.length - (j - i)) 2) [.arr (jW (l.take i ++ l.drop j)) 2] := by
  have h := F3 (sz := 2) ⟨_,Tryz.func88,by kernel_rfl,by kernel_rfl⟩ zL4 (jW l) (pT l) (YH l) i j hij (by rw [bB];exact hj) (fun h => hne (mJ.1 h))
  rw [bB,← lH,← List.map_drop,← dB] at h;exact h
end Go.Proofs.YtmmkhmilpeodnaaGreat
namespace Go.Proofs.YtmmkhmilpeodnaaGreat
open Go Go.Ab Go.Shelf Go.Proofs
shelf_lay Lays2.n23 Nm2 23 at Tryz as laysDelete
theorem MS (l : List Int) (i j : Nat) (hij : i ≤ j) (hj : j ≤ l.length) (hne : l ≠ []) :
    aR Tryz.prog 142 [.sl 0 0 l.length 1,.i (i : Int),.i (j : Int)] [.arr (ints l) 1] (.sl 0 0 (l.length - (j - i)) 1) [.arr (ints (l.take i ++ l.drop j)) 1] :=
  GU ⟨_,Tryz.func142,by kernel_rfl,by kernel_rfl⟩ (fun blk off cap i j zs w h1 h2 h3 h4 h5 => Any.slices_Delete_int laysDelete blk off cap i j zs w h1 h2 h3 h4 h5) l i j hij hj hne
end Go.Proofs.YtmmkhmilpeodnaaGreat
