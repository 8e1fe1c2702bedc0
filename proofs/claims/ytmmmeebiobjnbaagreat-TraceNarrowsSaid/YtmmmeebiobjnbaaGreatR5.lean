/-
  Texts of the logic and of the layer,in one module (part 5).
-/
import Derived.Test.YtmmmeebiobjnbaaGreatR4
import Derived.Shelf.RegionOpenPlain
import Derived.Deep.LoopGhost
import Derived.Deep.RegionLaw
import Derived.Lib.Walk
import Derived.Lib.SlicesDelete
import Derived.Sort.WalkB12
import Derived.Shelf.Slices.Delete
import Derived.Ground.Names2Prog
set_option linter.unusedVariables false
set_option linter.unusedSimpArgs false
set_option linter.unnecessarySimpa false
namespace Go.Proofs.YtmmmeebiobjnbaaGreat
open Go Go.Ab Go.Ld
attribute [local irreducible] VC AW cE aU
set_option maxHeartbeats 4000000
theorem yD4 {a b : List SP} {k : Nat} (h1 : k < a.length) (h2 : k < b.length) : cB (a.drop k) (b.drop k) = Q3 (cS a[k] b[k]) (cB (a.drop (k + 1)) (b.drop (k + 1))) := by
  rw [aT h1,aT h2];rfl
theorem zP2 {a b : List SP} {k : Nat} (h1 : k < a.length) (h2 : k = b.length) : cB (a.drop k) (b.drop k) = 1 := by
  rw [aT h1,cT (l := b) (by omega)];rfl
theorem zP1 {a b : List SP} {k : Nat} (h1 : k = a.length) (h2 : k < b.length) : cB (a.drop k) (b.drop k) = -1 := by
  rw [cT (l := a) (by omega),aT h2];rfl
theorem zP0 {a b : List SP} {k : Nat} (h1 : k = a.length) (h2 : k = b.length) : cB (a.drop k) (b.drop k) = 0 := by
  rw [cT (l := a) (by omega),cT (l := b) (by omega)];rfl
abbrev yB7 : AV := .clo (.func 131) [] []
theorem OD (a b : List SP) (ha : a.length ≤ 9223372036854775807) (hb : b.length ≤ 9223372036854775807) : aU Tryz.prog 130 [.rowE (fL a) 2,.rowE (fL b) 2,yB7] [] (.i (cB a b)) [] := by
  have hla : (fL a).length = a.length := by simp
  have hlb : (fL b).length = b.length := by simp
  refine bX T Tryz.func130 rfl rfl rfl rfl ?_
  (repeat' (first|refine wS ?_|refine wB ?_|(refine rg 0 (aV ?_))|(refine rg 1 (mW rfl (qW T rfl (mV ?_))))|refine nZ ?_));refine dC (X := {k : Nat // k ≤ a.length ∧ k ≤ b.length ∧ cB a b = cB (a.drop k) (b.drop k)}) (fun k => [(0,.rowE (fL a) 2),(1,.rowE (fL b) 2),(2,yB7),(11,.rowE (fL a) 2),(12,.i (fL a).length),(13,.i k.1)]) (fun _ => []) (fun k => a.length - k.1) ⟨0,by omega,by omega,rfl⟩ (gM []) ?_
  rintro ⟨k,hk,hkb,he⟩;dsimp only;by_cases h1 : k < a.length
  · have g1 := DB h1;by_cases h2 : k < b.length
    · have g2 := DB h2;have e1 := yD4 h1 h2;have hc := XI a[k] b[k];generalize a[k] = x at *;generalize b[k] = y at *;by_cases h0 : cS x y = 0
      · rw [h0] at hc e1;rw [XJ] at e1
        (repeat' (first|refine wS ?_|refine wB ?_|refine wK ?_|refine wU ?_|(refine wC rfl ?_ ?_<;>(intro hb;(try simp only [nm] at hb);try (exfalso;omega)))|(refine rg 2 (vV (aJ rfl rfl) ?_))|(refine rg 3 (mW rfl (vV (ix T rfl (by omega) (lJ a) g1) (lW T rfl (cH (cK T rfl) rfl (aW rfl (bA T rfl rfl rfl rfl rfl rfl (by decide) rfl ?_)))))))|(refine rg 4 (dK rfl (qW T rfl (vV (gV rfl rfl) ?_))))|(refine rg 6 (dK rfl (vV (ix T rfl (by omega) (lJ b) g2) (lW T rfl (cH (cK T rfl) rfl (bA T rfl rfl rfl rfl rfl rfl (by decide) rfl ?_))))))|(refine rg 7 (mW rfl (lW T rfl (lW T rfl (vV (kC (hc)) (aV ?_))))))|(refine rg 8 (mW rfl (vV (fY rfl rfl) ?_)))|(refine rg 10 (vV (cJ rfl rfl (by omega) (by omega)) (mV ?_)))|refine nZ ?_));all_goals first | (exfalso;omega) | exact ⟨⟨k + 1,by omega,by omega,he.trans e1⟩,by dsimp only;omega,gM []⟩
      · rw [NL h0] at e1;generalize cS x y = q at *
        (repeat' (first|refine wS ?_|refine wB ?_|refine wK ?_|refine wR ?_|(refine wC rfl ?_ ?_<;>(intro hb;(try simp only [nm] at hb);try (exfalso;omega)))|(refine rg 2 (vV (aJ rfl rfl) ?_))|(refine rg 3 (mW rfl (vV (ix T rfl (by omega) (lJ a) g1) (lW T rfl (cH (cK T rfl) rfl (aW rfl (bA T rfl rfl rfl rfl rfl rfl (by decide) rfl ?_)))))))|(refine rg 4 (dK rfl (qW T rfl (vV (gV rfl rfl) ?_))))|(refine rg 6 (dK rfl (vV (ix T rfl (by omega) (lJ b) g2) (lW T rfl (cH (cK T rfl) rfl (bA T rfl rfl rfl rfl rfl rfl (by decide) rfl ?_))))))|(refine rg 7 (mW rfl (lW T rfl (lW T rfl (vV (kC (hc)) (aV ?_))))))|(refine rg 8 (mW rfl (vV (fY rfl rfl) ?_)))|(refine rg 9 (mW rfl (aV ?_)))|refine nZ ?_));all_goals first | (exfalso;omega) | exact dH (.inl rfl) rfl (by rw [he,e1];rfl)
    · have e1 := zP2 h1 (show k = b.length by omega)
      (repeat' (first|refine wS ?_|refine wB ?_|refine wK ?_|refine wR ?_|(refine wC rfl ?_ ?_<;>(intro hb;(try simp only [nm] at hb);try (exfalso;omega)))|(refine rg 2 (vV (aJ rfl rfl) ?_))|(refine rg 3 (mW rfl (vV (ix T rfl (by omega) (lJ a) g1) (lW T rfl (cH (cK T rfl) rfl (aW rfl (bA T rfl rfl rfl rfl rfl rfl (by decide) rfl ?_)))))))|(refine rg 4 (dK rfl (qW T rfl (vV (gV rfl rfl) ?_))))|(refine rg 5 (aV ?_))|refine nZ ?_));all_goals first | (exfalso;omega) | exact dH (.inl rfl) rfl (by rw [he,e1];rfl)
  · by_cases h2 : k < b.length
    · have e1 := zP1 (show k = a.length by omega) h2
      (repeat' (first|refine wS ?_|refine wR ?_|refine wE ?_|(refine wC rfl ?_ ?_<;>(intro hb;(try simp only [nm] at hb);try (exfalso;omega)))|(refine rg 2 (vV (aJ rfl rfl) ?_))|(refine rg 11 (mW rfl (qW T rfl (mW rfl (qW T rfl (vV (aJ rfl rfl) ?_))))))|(refine rg 12 (aV ?_))|refine nZ ?_));all_goals first | (exfalso;omega) | exact dH (.inl rfl) rfl (by rw [he,e1];rfl)
    · have e1 := zP0 (show k = a.length by omega) (show k = b.length by omega)
      (repeat' (first|refine wS ?_|refine wK ?_|refine wR ?_|refine wE ?_|(refine wC rfl ?_ ?_<;>(intro hb;(try simp only [nm] at hb);try (exfalso;omega)))|(refine rg 2 (vV (aJ rfl rfl) ?_))|(refine rg 11 (mW rfl (qW T rfl (mW rfl (qW T rfl (vV (aJ rfl rfl) ?_))))))|(refine rg 13 (aV ?_))|refine nZ ?_));all_goals first | (exfalso;omega) | exact dH (.inl rfl) rfl (by rw [he,e1];rfl)
abbrev MM (w : W) : AV := .agg (wA w)
def M1 (w : W) : Prop := w.1.length ≤ 1000000 ∧ w.2.2.length ≤ 1000000
theorem PW (a b : W) (ha : M1 a) (hb : M1 b) : aU Tryz.prog 95 [MM a,MM b] [] (.i (oO a b)) [] := by
  obtain ⟨p,m,c⟩ := a;obtain ⟨p',m',c'⟩ := b;unfold M1 at ha hb;dsimp only at ha hb;have h1 := UJ p p' (by omega) (by omega)
  have h2 := OD c c' (by omega) (by omega)
  have e : oO (p,m,c) (p',m',c') = Q3 (cL p p') (cB c c') := rfl;rw [e];generalize cL p p' = x at *;generalize cB c c' = y at *;by_cases h0 : x = 0
  · subst h0;rw [XJ];refine bX T Tryz.func95 rfl rfl rfl rfl ?_
    (repeat' (first|refine wS ?_|refine wK ?_|refine wR ?_|refine wU ?_|(refine rg 0 (cH (cY rfl rfl) rfl (cH (cY rfl rfl) rfl (aV ?_))))|(refine rg 1 (iP T rfl (iP T rfl (vV (kC (h1)) (aV ?_)))))|(refine rg 2 (mW rfl (vV (fY rfl rfl) ?_)))|(refine rg 4 (iP T rfl (iP T rfl (vV (kC (h2)) (aV ?_)))))|refine nZ ?_));all_goals first | (exfalso;omega) | exact rQ
  · rw [NL h0];refine bX T Tryz.func95 rfl rfl rfl rfl ?_
    (repeat' (first|refine wS ?_|refine wR ?_|(refine wC rfl ?_ ?_<;>(intro hb;(try simp only [nm] at hb);try (exfalso;omega)))|(refine rg 0 (cH (cY rfl rfl) rfl (cH (cY rfl rfl) rfl (aV ?_))))|(refine rg 1 (iP T rfl (iP T rfl (vV (kC (h1)) (aV ?_)))))|(refine rg 2 (mW rfl (vV (fY rfl rfl) ?_)))|(refine rg 3 (mW rfl (aV ?_)))|refine nZ ?_));all_goals first | (exfalso;omega) | exact rQ
theorem wY (a b : W) (ha : M1 a) (hb : M1 b) : aU Tryz.prog 93 [MM a,MM b] [] (.i (eN a b)) [] := by
  have h1 := PW a b ha hb;have h2 := ET a.2.1 b.2.1;have h3 := yB4 (oO a b) (cI a.2.1 b.2.1);refine bX T Tryz.func93 rfl rfl rfl rfl ?_
  (repeat' (first|refine wS ?_|refine wR ?_|(refine rg 0 (cH (cY rfl rfl) rfl (cH (cY rfl rfl) rfl (aV ?_))))|(refine cO (id := 1) 15 [[],[],[0,1],[],[3],[],[5],rN 7,rN 8,rN 9] (rM 5 10) [[],[5],[],[5,6,7],[5,6,7],rM 5 5,rM 5 5,[],[],[]] cW rfl (by decide +kernel) (dO T rfl (dO T rfl (dV rfl (kC (h1)) (dP T rfl (dO T rfl (dP T rfl (dO T rfl (dV rfl (kC (h2)) (F9 rfl rfl rfl (by exact bD T rfl rfl (by decide) (by decide) rfl rfl rfl) rfl ?_)))))))));refine dV rfl (by exact eW rfl rfl (h3) (by ((repeat (first|exact .nil|exact .v _|refine .cons ?_ ?_|refine .sl rfl (by simp) ?_));done)) rfl rfl) ?_;(all_goals (refine dE ?_;refine aV ?_)))|refine nZ ?_));all_goals first | (exfalso;omega) | exact rQ
theorem AI (a b : W) (ha : M1 a) (hb : M1 b) : aU Tryz.prog 98 [MM a,MM b] [] (.b (E3 a b)) [] := by
  have h1 := PW a b ha hb;refine bX T Tryz.func98 rfl rfl rfl rfl ?_
  (repeat' (first|refine wS ?_|refine wR ?_|(refine rg 0 (cH (cY rfl rfl) rfl (cH (cY rfl rfl) rfl (aV ?_))))|(refine rg 1 (lW T rfl (lW T rfl (vV (kC (h1)) (vV (eX rfl rfl) (aV ?_))))))|refine nZ ?_));all_goals first | (exfalso;omega) | exact rQ
end Go.Proofs.YtmmmeebiobjnbaaGreat
namespace Go.Ld
open Go.Ab Go.Proofs.YtmmmeebiobjnbaaGreat
theorem pE (l : List W) : ∀ e,e ∈ gB l → e.length = 3 := by intro e he;obtain ⟨n,_,rfl⟩ := bB.1 he;rfl
theorem fH (l : List W) : (gB l).length = l.length := aY _
theorem pM {L : List W} {j : Int} {i : Nat} {x : W} (h : L[i]? = some x) (e : j = i) : (gB L)[0 + j.toNat]? = some (wA x) := by
  subst e;simp [h]
theorem wM {L : List W} {j : Int} {i : Nat} {x : W} (e : j = i) : (gB L).set (0 + j.toNat) (wA x) = gB (L.set i x) := by
  subst e;simp [gB,wG]
theorem nK {α : Type} (A B : List α) (x : α) {n : Nat} (h : n = A.length) : (A ++ x :: B)[n]? = some x := by subst h;simp
theorem nW {α : Type} (A B : List α) (x y : α) {n : Nat} (h : n = A.length) : (A ++ x :: B).set n y = A ++ y :: B := by subst h;simp
abbrev Up (l : List W) : Prop := l.Pairwise (fun a b => eN a b ≤ 0)
theorem T8 {l : List W} (h : Up l) : dY eN l = l := (F3 jF (.refl _) h).symm
theorem H6 {l m : List W} (hp : m.Perm l) (h : Up m) : dY eN l = m := (F3 jF hp h).symm
theorem C5 {a b : W} (h : eN a b < 0) : eN a b ≤ 0 := by omega
theorem MT {S1 S2 : List W} {x : W} (h : Up (S1 ++ S2)) (h1 : ∀ y,y ∈ S1 → eN y x ≤ 0) (h2 : ∀ y,y ∈ S2 → eN x y ≤ 0) : Up (S1 ++ x :: S2) := by
  obtain ⟨a,b,c⟩ := eT.1 h;refine eT.2 ⟨a,eV.2 ⟨h2,b⟩,fun p hp q hq => ?_⟩
  rcases bU.1 hq with rfl | hq
  · exact h1 p hp
  · exact c p hp q hq
theorem zS6 {A B : List W} (h1 : Up A) (h2 : Up B) (h3 : ∀ a b,a ∈ A → b ∈ B → eN a b ≤ 0) : Up (A ++ B) := eT.2 ⟨h1,h2,fun a ha b hb => h3 a b ha hb⟩
theorem PD {A : List W} {y : W} (h : Up (A ++ [y])) : ∀ z,z ∈ A ++ [y] → eN z y ≤ 0 := by
  intro z hz;obtain ⟨a,b,c⟩ := eT.1 h;rcases bF.1 hz with hz | hz
  · exact c z hz y (by simp)
  · rw [bI.1 hz,jF.rfl'];exact eH _
theorem zE6 {B : List W} {y : W} (h : Up (y :: B)) : ∀ z,z ∈ y :: B → eN y z ≤ 0 := by
  intro z hz;rcases bU.1 hz with rfl | hz
  · rw [jF.rfl'];exact eH _
  · exact (eV.1 h).1 z hz
theorem yE1 {a b : W} (h : ¬ eN a b < 0) : eN b a ≤ 0 := by have := jF.neg a b;omega
def UZ (l : List W) (a b : Nat) : List W := l.take a ++ (dY eN ((l.drop a).take (b - a)) ++ l.drop b)
theorem iQ {l : List W} : (dY eN l).length = l.length := (dI eN l).length_eq
theorem VZ {l : List W} {a : Nat} (h : a ≤ l.length) : UZ l a a = l := by unfold UZ;simp [dY]
theorem zF9 {l : List W} {a : Nat} (h : a < l.length) : UZ l a (a + 1) = l := by
  unfold UZ;rw [show a + 1 - a = 1 by omega,aT h]
  simp only [oJ,kP,dY,CK];rw [List.singleton_append,← aT h,bQ]
structure zS1 (l : List W) (a i : Nat) (x : W) (q : List W × List W) : Prop where
  eq : q.1 ++ q.2 = dY eN ((l.drop a).take (i - a))
  gt : ∀ y,y ∈ q.2 → eN x y < 0
def vP (l : List W) (a i : Nat) (x : W) (q : List W × List W) : List W := (l.take a ++ q.1) ++ x :: (q.2 ++ l.drop (i + 1))
theorem TQ {l : List W} {a i : Nat} {x : W} (h1 : a < i) (h2 : i < l.length) (hx : l[i]? = some x) : zS1 l a i x (dY eN ((l.drop a).take (i - a)),[]) ∧ UZ l a i = vP l a i x (dY eN ((l.drop a).take (i - a)),[]) := by
  refine ⟨⟨by simp,fun y hy => by cases hy⟩,?_⟩
  unfold UZ vP;have : l.drop i = x :: l.drop (i + 1) := by
    rw [aA h2] at hx;rw [aT h2];cases hx;rfl
  simp [this]
theorem QH {l : List W} {a i : Nat} {x : W} {q : List W × List W} (h : zS1 l a i x q) (h1 : a < i) (h2 : i < l.length) : q.1.length + q.2.length = i - a := by
  have := congrArg List.length h.eq;simp only [aF,iQ,bC,dD] at this;omega
theorem YL {l : List W} {a i : Nat} {x : W} {q : List W × List W} (h : zS1 l a i x q) (h1 : a < i) (h2 : i < l.length) : (vP l a i x q).length = l.length := by
  have := QH h h1 h2;unfold vP;simp only [aF,List.length_cons,bC,dD];omega
theorem YI {l : List W} {a i : Nat} {x : W} {q : List W × List W} (h : zS1 l a i x q) (h1 : a < i) (h2 : i < l.length) (hx : l[i]? = some x) (hs : ∀ y,y ∈ q.1 → eN y x ≤ 0) : vP l a i x q = UZ l a (i + 1) := by
  unfold vP UZ;have e : (l.drop a).take (i + 1 - a) = (l.drop a).take (i - a) ++ [x] := by
    rw [show i + 1 - a = (i - a) + 1 by omega,zD3]
    rw [dU,show a + (i - a) = i by omega,hx];rfl
  rw [e];have hp : (q.1 ++ x :: q.2).Perm ((l.drop a).take (i - a) ++ [x]) := by
    refine List.perm_middle.trans ?_;rw [h.eq];exact ((dI eN _).cons x).trans (L6 _ _).symm
  have hu : Up (q.1 ++ x :: q.2) := MT (by rw [h.eq];exact lP jF _) hs (fun y hy => C5 (h.gt y hy))
  rw [H6 hp hu];simp
theorem zK9 {l : List W} {a i : Nat} {x y : W} {S : List W} {q : List W × List W} (h : zS1 l a i x q) (e : q.1 = S ++ [y]) (hc : ¬ eN x y < 0) : ∀ z,z ∈ q.1 → eN z x ≤ 0 := by
  have hu : Up (q.1 ++ q.2) := by rw [h.eq];exact lP jF _
  have hu1 : Up q.1 := (eT.1 hu).1;rw [e] at hu1;intro z hz;rw [e] at hz;exact jF.le_tr (PD hu1 z hz) (yE1 hc)
theorem YJ {l : List W} {a i : Nat} {x y : W} {S : List W} {q : List W × List W} (h : zS1 l a i x q) (e : q.1 = S ++ [y]) (hc : eN x y < 0) : zS1 l a i x (S,y :: q.2) := by
  refine ⟨?_,fun z hz => ?_⟩
  · rw [← h.eq,e];simp
  · rcases bU.1 hz with rfl | hz
    · exact hc
    · exact h.gt z hz
end Go.Ld
namespace Go.Proofs.YtmmmeebiobjnbaaGreat
open Go Go.Ab Go.Ld
attribute [local irreducible] VC AW cE aU
set_option maxHeartbeats 4000000
theorem zS2 (l : List W) : (gB l).flatten.all AV.one = true := by
  induction l with
  | nil => rfl
  | cons x l ih => simp only [List.map_cons,eL,List.all_append,ih];rfl
theorem bV (l : List W) : ∀ e,e ∈ gB l → AV.idfL e = true := by
  intro e he;obtain ⟨x,_,rfl⟩ := bB.1 he;rfl
theorem lL : ∀ i : Nat,i < 1 → ([0] : List Nat)[i]? = some i := by decide
abbrev rR : AV := .clo (.func 93) [] []
theorem KM (l : List W) (a b : Nat) (hab : a ≤ b) (hb : b ≤ l.length) (hl : l.length ≤ 100000) (hw : ∀ w,w ∈ l → M1 w) :
    aU Tryz.prog 147 [.sl 0 0 l.length 3,.i a,.i b,rR] [.arr (gB l) 3] (.tup []) [.arr (gB (UZ l a b)) 3] := by
  rcases iZ a b with hlt | hge
  · refine bX T Tryz.func147 rfl rfl rfl rfl ?_
    (repeat' (first|refine wS ?_|refine wB ?_|(refine iA 0 rfl rfl rfl (by omega) (by omega) ?_)|refine nZ ?_));refine dC (X := {i : Nat // a + 1 ≤ i ∧ i ≤ b}) (fun i => [(0,.sl 0 0 l.length 3),(1,.i a),(2,.i b),(3,rR),(8,.i i.1)]) (fun i => [.arr (gB (UZ l a i.1)) 3]) (fun i => b - i.1) ⟨a + 1,by omega,by omega⟩ ⟨[0],rfl,by (repeat (first | exact trivial | refine ⟨rfl,?_⟩)),⟨.inr (aC rfl (by dsimp only;rw [zF9 (by omega)]) (bV _)),trivial⟩,by decide,lL⟩ ?_
    rintro ⟨i,h1,h2⟩;dsimp only;by_cases hi : i < b
    · (repeat' (first|refine wS ?_|refine wB ?_|refine wK ?_|(refine wC rfl (fun hb => ?_) (fun hb => ?_) <;> (((try simp only [nm] at hb);try (exfalso;omega))))|(refine rg 1 (dK rfl (vV (aJ rfl rfl) ?_)))|(refine rg 3 (mW rfl (aV ?_)))|(refine nZ ?_)));all_goals try (exfalso;omega)
      have hil : i < l.length := by omega
      obtain ⟨x,hx⟩ : ∃ x,l[i]? = some x := ⟨_,aA hil⟩;obtain ⟨s1,s2⟩ := TQ (a := a) (by omega) hil hx
      refine dC (X := {q : List W × List W // zS1 l a i x q}) (fun q => [(0,.sl 0 0 l.length 3),(1,.i a),(2,.i b),(3,rR),(8,.i i),(9,.i ((a + q.1.1.length : Nat) : Int))]) (fun q => [.arr (gB (vP l a i x q.1)) 3]) (fun q => q.1.1.length) ⟨_,s1⟩ ⟨[0],rfl,⟨rfl,rfl,rfl,rfl,rfl,by dsimp only;rw [iQ,bC,dD,show a + min (i - a) (l.length - a) = i by omega];rfl,trivial⟩,⟨.inr (aC rfl (by dsimp only;rw [s2]) (bV _)),trivial⟩,by decide,lL⟩ ?_
      rintro ⟨⟨S1,S2⟩,hq⟩;dsimp only;have hln := QH hq (by omega) hil
      dsimp only at hln;have hwx : M1 x := hw x (aL hx);have hal : (l.take a).length = a := by rw [bC];omega
      rcases List.eq_nil_or_concat S1 with rfl | ⟨S,y,rfl⟩
      · have ee := YI hq (by omega) hil hx (fun y hy => by cases hy)
        have hJ : ((a + ([] : List W).length : Nat) : Int) = a := by simp
        generalize ((a + ([] : List W).length : Nat) : Int) = J at *;generalize vP l a i x ([],S2) = L at *
        (repeat' (first|refine wS ?_|refine wE ?_|refine wU ?_|(refine cO (id := 4) 53 yL5 (rM 18 17) yL6 cW rfl (by decide +kernel) (dN rfl (dN rfl (dV rfl (GQ rfl rfl (by omega)) (dN rfl (tG rfl (tG rfl (tG rfl (tG rfl (dG ?_)))))))));refine tG rfl (tG rfl (tG rfl (tG rfl (tG rfl (tG rfl (tG rfl (dV rfl (jV rfl rfl) (dE ?_)))))))))|(refine iA 2 rfl rfl rfl (by omega) (by omega) ?_)|refine nZ ?_));all_goals first | (exfalso;omega) | exact ⟨⟨i + 1,by omega,by omega⟩,by dsimp only;omega,⟨[0],rfl,by (repeat (first | exact trivial | refine ⟨rfl,?_⟩)),⟨.inr (aC rfl (by dsimp only;rw [ee]) (bV _)),trivial⟩,by decide,lL⟩⟩
      · rw [List.concat_eq_append] at *;have hy : y ∈ l := by
          have h3 : y ∈ dY eN ((l.drop a).take (i - a)) := by rw [← hq.eq];simp
          exact dS (eK ((dI _ _).mem_iff.1 h3))
        have hc := wY x y hwx (hw y hy);have hL : vP l a i x (S ++ [y],S2) = (l.take a ++ S) ++ y :: x :: (S2 ++ l.drop (i + 1)) := by unfold vP;simp
        have hJ : ((a + (S ++ [y]).length : Nat) : Int) = ((a + S.length + 1 : Nat) : Int) := by simp;omega
        have hAl : a + S.length = (l.take a ++ S).length := by rw [aF,hal]
        have hlen := YL hq (by omega) hil
        by_cases h0 : eN x y < 0
        · have ee := YJ hq rfl h0;have q1 := pM (L := vP l a i x (S ++ [y],S2)) (j := ((a + (S ++ [y]).length : Nat) : Int)) (i := a + S.length + 1) (x := x) (by rw [hL,show (l.take a ++ S) ++ y :: x :: (S2 ++ l.drop (i + 1)) = ((l.take a ++ S) ++ [y]) ++ x :: (S2 ++ l.drop (i + 1)) by simp];exact nK _ _ _ (by simp;omega)) hJ
          have q2 := pM (L := vP l a i x (S ++ [y],S2)) (j := ((a + (S ++ [y]).length : Nat) : Int) - 1) (i := a + S.length) (x := y) (by rw [hL];exact nK _ _ _ hAl) (by omega)
          have t1 := wM (L := vP l a i x (S ++ [y],S2)) (j := ((a + (S ++ [y]).length : Nat) : Int)) (i := a + S.length + 1) (x := y) hJ;have e1 : (vP l a i x (S ++ [y],S2)).set (a + S.length + 1) y = (l.take a ++ S) ++ y :: y :: (S2 ++ l.drop (i + 1)) := by
            rw [hL,show (l.take a ++ S) ++ y :: x :: (S2 ++ l.drop (i + 1)) = ((l.take a ++ S) ++ [y]) ++ x :: (S2 ++ l.drop (i + 1)) by simp,nW _ _ _ _ (by simp;omega)];simp
          rw [e1] at t1;have q3 := pM (L := (l.take a ++ S) ++ y :: y :: (S2 ++ l.drop (i + 1))) (j := ((a + (S ++ [y]).length : Nat) : Int) - 1) (i := a + S.length) (x := y) (nK _ _ _ hAl) (by omega)
          have t2 := wM (L := (l.take a ++ S) ++ y :: y :: (S2 ++ l.drop (i + 1))) (j := ((a + (S ++ [y]).length : Nat) : Int) - 1) (i := a + S.length) (x := x) (by omega)
          rw [nW _ _ _ _ hAl,show (l.take a ++ S) ++ x :: y :: (S2 ++ l.drop (i + 1)) = vP l a i x (S,y :: S2) by unfold vP;simp,← t1] at t2
          rw [← t1] at q3;have hJ2 : ((a + (S ++ [y]).length : Nat) : Int) - 1 = ((a + S.length : Nat) : Int) := by omega
          have hJ3 : ((a + (S ++ [y]).length : Nat) : Int) < l.length := by omega
          have hJ4 : (a : Int) < ((a + (S ++ [y]).length : Nat) : Int) := by omega
          clear hJ hL;generalize ((a + (S ++ [y]).length : Nat) : Int) = J at *;generalize eN x y = z at *;generalize vP l a i x (S ++ [y],S2) = L at *
          (repeat' (first|refine wS ?_|refine wB ?_|refine wK ?_|(refine wC rfl ?_ ?_<;>(intro hb;(try simp only [nm] at hb);try (exfalso;omega)))|(refine cO (id := 4) 53 yL5 (rM 18 17) yL6 cW rfl (by decide +kernel) (dN rfl (dN rfl (dV rfl (fB rfl rfl) (dM ?_))));refine kZ rfl rfl rfl rfl ?_ ?_<;>(intro hb;rw [hb];(try simp only [nm] at hb);try (exfalso;omega))<;>(refine tM ?_);(all_goals (refine tN rfl (tN rfl (dT rfl (by exact aO T rfl rfl rfl rfl rfl (by omega) (by omega)) ?_));refine dT rfl (by exact aN T rfl rfl (bP rfl q1) rfl) ?_;refine tN rfl (tN rfl (dT rfl (cX rfl rfl (by omega) (by omega)) (dT rfl (by exact aO T rfl rfl rfl rfl rfl (by omega) (by omega)) ?_)));refine dT rfl (by exact aN T rfl rfl (bP rfl q2) rfl) ?_;refine dT rfl (kC (hc)) (dT rfl (aJ rfl rfl) (dV rfl (kM rfl rfl) (dE ?_))))))|(refine nY (id := 6) 53 yL7 (rM 37 15) yL8 [(15,0)] cW rfl (by decide +kernel) (cP rfl rfl rfl rfl (by exact bR rfl) ?_);refine cP rfl rfl rfl rfl (by exact bR rfl) ?_;refine cP rfl rfl rfl rfl (by exact bR rfl) ?_;refine cP rfl rfl rfl rfl (by exact bR rfl) ?_;refine cP rfl rfl rfl rfl (by exact cX rfl rfl (by omega) (by omega)) ?_;refine cP rfl rfl rfl rfl (by exact bR rfl) ?_;refine cP rfl rfl rfl rfl (by exact bR rfl) ?_;refine cP rfl rfl rfl rfl (by exact cX rfl rfl (by omega) (by omega)) ?_;refine cP rfl rfl rfl rfl (by exact aO T rfl rfl rfl rfl rfl (by omega) (by omega)) ?_;refine cP rfl rfl rfl rfl (by exact aN T rfl rfl (bP rfl q2) rfl) ?_;refine cP rfl rfl rfl rfl (by exact bR rfl) ?_;refine cP rfl rfl rfl rfl (by exact bR rfl) ?_;refine cP rfl rfl rfl rfl (by exact aO T rfl rfl rfl rfl rfl (by omega) (by omega)) ?_;refine cP rfl rfl rfl rfl (by exact aN T rfl rfl (bP rfl q1) rfl) ?_;refine cP rfl rfl rfl rfl (by exact aO T rfl rfl rfl rfl rfl (by omega) (by omega)) ?_;refine xJ rfl rfl rfl rfl (aG rfl) T rfl rfl rfl rfl rfl rfl (by decide) (wO rfl q1 rfl) ?_;refine sD rfl rfl rfl (by exact rfl) ?_;refine vV (by exact aO T rfl rfl rfl rfl rfl (by omega) (by omega)) ?_;refine bA T rfl rfl rfl rfl rfl rfl (by decide) (mK rfl q3 rfl) ?_)|(refine rg 5 (mW rfl (vV (cX rfl rfl (by omega) (by omega)) (aV ?_))))|refine nZ ?_));all_goals first | (exfalso;omega) | exact ⟨⟨_,ee⟩,by dsimp only;simp,⟨[0],rfl,⟨rfl,rfl,rfl,rfl,rfl,by dsimp only;rw [← hJ2];try rfl,trivial⟩,⟨.inr (aC rfl (by dsimp only;rw [← t2];try rfl) (bV _)),trivial⟩,by decide,lL⟩⟩
        · have ee := YI hq (by omega) hil hx (zK9 hq rfl h0)
          have q1 := pM (L := vP l a i x (S ++ [y],S2)) (j := ((a + (S ++ [y]).length : Nat) : Int)) (i := a + S.length + 1) (x := x) (by rw [hL,show (l.take a ++ S) ++ y :: x :: (S2 ++ l.drop (i + 1)) = ((l.take a ++ S) ++ [y]) ++ x :: (S2 ++ l.drop (i + 1)) by simp];exact nK _ _ _ (by simp;omega)) hJ
          have q2 := pM (L := vP l a i x (S ++ [y],S2)) (j := ((a + (S ++ [y]).length : Nat) : Int) - 1) (i := a + S.length) (x := y) (by rw [hL];exact nK _ _ _ hAl) (by omega)
          have hJ3 : ((a + (S ++ [y]).length : Nat) : Int) < l.length := by omega
          have hJ4 : (a : Int) < ((a + (S ++ [y]).length : Nat) : Int) := by omega
          clear hJ hL;generalize ((a + (S ++ [y]).length : Nat) : Int) = J at *;generalize eN x y = z at *;generalize vP l a i x (S ++ [y],S2) = L at *
          (repeat' (first|refine wS ?_|refine wE ?_|(refine wC rfl ?_ ?_<;>(intro hb;(try simp only [nm] at hb);try (exfalso;omega)))|(refine cO (id := 4) 53 yL5 (rM 18 17) yL6 cW rfl (by decide +kernel) (dN rfl (dN rfl (dV rfl (fB rfl rfl) (dM ?_))));refine kZ rfl rfl rfl rfl ?_ ?_<;>(intro hb;rw [hb];(try simp only [nm] at hb);try (exfalso;omega))<;>(refine tM ?_);(all_goals (refine tN rfl (tN rfl (dT rfl (by exact aO T rfl rfl rfl rfl rfl (by omega) (by omega)) ?_));refine dT rfl (by exact aN T rfl rfl (bP rfl q1) rfl) ?_;refine tN rfl (tN rfl (dT rfl (cX rfl rfl (by omega) (by omega)) (dT rfl (by exact aO T rfl rfl rfl rfl rfl (by omega) (by omega)) ?_)));refine dT rfl (by exact aN T rfl rfl (bP rfl q2) rfl) ?_;refine dT rfl (kC (hc)) (dT rfl (aJ rfl rfl) (dV rfl (kM rfl rfl) (dE ?_))))))|(refine iA 2 rfl rfl rfl (by omega) (by omega) ?_)|refine nZ ?_));all_goals first | (exfalso;omega) | exact ⟨⟨i + 1,by omega,by omega⟩,by dsimp only;omega,⟨[0],rfl,by (repeat (first | exact trivial | refine ⟨rfl,?_⟩)),⟨.inr (aC rfl (by dsimp only;rw [ee]) (bV _)),trivial⟩,by decide,lL⟩⟩
    · obtain rfl : i = b := by omega
      (repeat' (first|refine wS ?_|refine wE ?_|(refine wC rfl ?_ ?_<;>(intro hb;(try simp only [nm] at hb);try (exfalso;omega)))|(refine rg 1 (dK rfl (vV (aJ rfl rfl) ?_)))|refine nZ ?_));all_goals first | (exfalso;omega) | exact ⟨.inl rfl,[0],_,rfl,rfl,rfl,⟨.inr (aC rfl rfl (bV _)),trivial⟩,by decide,lL⟩ | exact ⟨.inr rfl,[0],_,rfl,rfl,rfl,⟨.inr (aC rfl rfl (bV _)),trivial⟩,by decide,lL⟩
  · obtain rfl : a = b := by omega
    rw [VZ hb];refine bX T Tryz.func147 rfl rfl rfl rfl ?_
    (repeat' (first|refine wS ?_|refine wB ?_|(refine iA 0 rfl rfl rfl (by omega) (by omega) ?_)|refine nZ ?_));refine dC (X := Unit) (fun _ => [(0,.sl 0 0 l.length 3),(1,.i a),(2,.i a),(3,rR),(8,.i ((a : Int) + 1))]) (fun _ => [.arr (gB l) 3]) (fun _ => 0) () ⟨[0],rfl,by (repeat (first | exact trivial | refine ⟨rfl,?_⟩)),⟨.inr (aC rfl rfl (bV _)),trivial⟩,by decide,lL⟩ ?_
    intro _;dsimp only
    (repeat' (first|refine wS ?_|refine wE ?_|(refine wC rfl ?_ ?_<;>(intro hb;(try simp only [nm] at hb);try (exfalso;omega)))|(refine rg 1 (dK rfl (vV (aJ rfl rfl) ?_)))|refine nZ ?_));all_goals first | (exfalso;omega) | exact ⟨.inl rfl,[0],_,rfl,rfl,rfl,⟨.inr (aC rfl rfl (bV _)),trivial⟩,by decide,lL⟩ | exact ⟨.inr rfl,[0],_,rfl,rfl,rfl,⟨.inr (aC rfl rfl (bV _)),trivial⟩,by decide,lL⟩
end Go.Proofs.YtmmmeebiobjnbaaGreat
namespace Go.Ld
open Go.Ab Go.Proofs.YtmmmeebiobjnbaaGreat
def IM (P X Q Y R : List W) (k : Nat) : List W := P ++ ((Y.take k ++ X.drop k) ++ (Q ++ ((X.take k ++ Y.drop k) ++ R)))
theorem yA6 (P X Q Y R : List W) : IM P X Q Y R 0 = P ++ (X ++ (Q ++ (Y ++ R))) := by simp [IM]
theorem yA5 {P X Q Y R : List W} {n : Nat} (h1 : X.length = n) (h2 : Y.length = n) : IM P X Q Y R n = P ++ (Y ++ (Q ++ (X ++ R))) := by
  unfold IM;rw [bS (by omega),bS (by omega),cT (by omega),cT (by omega)];simp
theorem yE9 {X1 X2 : List W} {x : W} {k : Nat} (h : X1.length = k) : (X1 ++ x :: X2).take k = X1 ∧ (X1 ++ x :: X2).drop k = x :: X2 ∧ (X1 ++ x :: X2).take (k + 1) = X1 ++ [x] ∧ (X1 ++ x :: X2).drop (k + 1) = X2 := by
  subst h;refine ⟨wF,wH,?_,?_⟩
  · rw [show X1 ++ x :: X2 = (X1 ++ [x]) ++ X2 by simp,show X1.length + 1 = (X1 ++ [x]).length by simp,wF]
  · rw [show X1 ++ x :: X2 = (X1 ++ [x]) ++ X2 by simp,show X1.length + 1 = (X1 ++ [x]).length by simp,wH]
theorem MX {X : List W} {k : Nat} (h : k < X.length) : ∃ X1 x X2,X = X1 ++ x :: X2 ∧ X1.length = k := ⟨X.take k,X[k],X.drop (k + 1),by simp,by simp;omega⟩
theorem VS {P X Q Y R : List W} {n k : Nat} (h1 : X.length = n) (h2 : Y.length = n) (hk : k < n) : ∃ x y,x ∈ X ∧ y ∈ Y ∧ (IM P X Q Y R k)[P.length + k]? = some x ∧ (IM P X Q Y R k)[P.length + n + Q.length + k]? = some y ∧
    ((IM P X Q Y R k).set (P.length + k) y)[P.length + n + Q.length + k]? = some y ∧ ((IM P X Q Y R k).set (P.length + k) y).set (P.length + n + Q.length + k) x = IM P X Q Y R (k + 1) := by
  obtain ⟨X1,x,X2,rfl,hx⟩ := MX (show k < X.length by omega)
  obtain ⟨Y1,y,Y2,rfl,hy⟩ := MX (show k < Y.length by omega)
  obtain ⟨a1,a2,a3,a4⟩ := yE9 (x := x) (X2 := X2) hx;obtain ⟨b1,b2,b3,b4⟩ := yE9 (x := y) (X2 := Y2) hy;simp only [aF,List.length_cons] at h1 h2;have e : IM P (X1 ++ x :: X2) Q (Y1 ++ y :: Y2) R k = (P ++ Y1) ++ x :: (X2 ++ (Q ++ (X1 ++ y :: (Y2 ++ R)))) := by
    unfold IM;rw [a1,a2,b1,b2];simp
  have e1 : (IM P (X1 ++ x :: X2) Q (Y1 ++ y :: Y2) R k).set (P.length + k) y = ((P ++ Y1) ++ y :: (X2 ++ (Q ++ X1))) ++ y :: (Y2 ++ R) := by
    rw [e,nW _ _ _ _ (by simp;omega)];simp
  have l1 : P.length + n + Q.length + k = ((P ++ Y1) ++ y :: (X2 ++ (Q ++ X1))).length := by
    simp only [aF,List.length_cons];omega
  refine ⟨x,y,by simp,by simp,?_,?_,?_,?_⟩
  · rw [e];exact nK _ _ _ (by simp;omega)
  · rw [e,show (P ++ Y1) ++ x :: (X2 ++ (Q ++ (X1 ++ y :: (Y2 ++ R)))) = ((P ++ Y1) ++ x :: (X2 ++ (Q ++ X1))) ++ y :: (Y2 ++ R) by simp]
    exact nK _ _ _ (by simp only [aF,List.length_cons];omega)
  · rw [e1];exact nK _ _ _ l1
  · rw [e1,nW _ _ _ _ l1];unfold IM;rw [a3,a4,b3,b4];simp
end Go.Ld
namespace Go.Proofs.YtmmmeebiobjnbaaGreat
open Go Go.Ab Go.Ld
attribute [local irreducible] VC AW cE aU
set_option maxHeartbeats 4000000
theorem FL (P X Q Y R : List W) {n a b N : Nat} (h1 : X.length = n) (h2 : Y.length = n) (ha : a = P.length) (hb : b = P.length + n + Q.length) (hN : N = P.length + (n + (Q.length + (n + R.length)))) (hl : N ≤ 100000) :
    aU Tryz.prog 162 [.sl 0 0 N 3,.i a,.i b,.i n,rR] [.arr (gB (P ++ (X ++ (Q ++ (Y ++ R))))) 3] (.tup []) [.arr (gB (P ++ (Y ++ (Q ++ (X ++ R))))) 3] := by
  refine bX T Tryz.func162 rfl rfl rfl rfl ?_
  (repeat' (first|refine wS ?_|refine wB ?_|(refine rg 0 (aV ?_))|refine nZ ?_));refine dC (X := {k : Nat // k ≤ n}) (fun k => [(0,.sl 0 0 N 3),(1,.i a),(2,.i b),(3,.i n),(4,rR),(10,.i k.1)]) (fun k => [.arr (gB (IM P X Q Y R k.1)) 3]) (fun k => n - k.1) ⟨0,by omega⟩ ⟨[0],rfl,by (repeat (first | exact trivial | refine ⟨rfl,?_⟩)),⟨.inr (aC rfl (by dsimp only;rw [yA6]) (bV _)),trivial⟩,by decide,lL⟩ ?_
  rintro ⟨k,hk⟩;dsimp only;by_cases hlt : k < n
  · obtain ⟨x,y,_,_,p1,p2,p3,p4⟩ := VS (P := P) (Q := Q) (R := R) h1 h2 hlt;have q1 := pM (j := (a : Int) + (k : Int)) p1 (by omega)
    have q2 := pM (j := (b : Int) + (k : Int)) p2 (by omega)
    have t1 := wM (L := IM P X Q Y R k) (j := (a : Int) + (k : Int)) (i := P.length + k) (x := y) (by omega)
    have q3 := pM (j := (b : Int) + (k : Int)) p3 (by omega)
    have t2 := wM (L := (IM P X Q Y R k).set (P.length + k) y) (j := (b : Int) + (k : Int)) (i := P.length + n + Q.length + k) (x := x) (by omega)
    rw [← t1] at q3 t2;rw [p4] at t2;clear p1 p2 p3 p4 t1;generalize IM P X Q Y R k = L at *
    (repeat' (first|refine wS ?_|refine wB ?_|refine wK ?_|(refine wC rfl ?_ ?_<;>(intro hb;(try simp only [nm] at hb);try (exfalso;omega)))|(refine rg 1 (dK rfl (vV (aJ rfl rfl) ?_)))|(refine nY (id := 3) 38 [[],[],[],[1,2],[],[],[],[5,6],[],[],[],[9,10],rM 8 4,rM 8 5,[],[],[],[15,16],rM 14 4,rM 14 5,[0,1,2,3,8,9,10,11,12,13,14,15,16,17,18,19],[0,1,2,3,8,9,10,11,12,13,14,15,16,17,18,19,20]] (rM 16 21) [[],[16],[16,17],[16],rM 16 4,rM 16 5,rM 16 6,rM 16 5,rM 16 8,rM 16 9,rM 16 10,rM 16 9,rM 16 8,rM 16 8,rM 16 14,rM 16 15,rM 16 16,rM 16 15,rM 16 14,rM 16 14,rM 20 4,rM 20 4] [(21,0)] cW rfl (by decide +kernel) (cP rfl rfl rfl rfl (by exact bR rfl) ?_);refine cP rfl rfl rfl rfl (by exact bR rfl) ?_;refine cP rfl rfl rfl rfl (by exact bR rfl) ?_;refine cP rfl rfl rfl rfl (by exact cJ rfl rfl (by omega) (by omega)) ?_;refine cP rfl rfl rfl rfl (by exact bR rfl) ?_;refine cP rfl rfl rfl rfl (by exact bR rfl) ?_;refine cP rfl rfl rfl rfl (by exact bR rfl) ?_;refine cP rfl rfl rfl rfl (by exact cJ rfl rfl (by omega) (by omega)) ?_;refine cP rfl rfl rfl rfl (by exact bR rfl) ?_;refine cP rfl rfl rfl rfl (by exact bR rfl) ?_;refine cP rfl rfl rfl rfl (by exact bR rfl) ?_;refine cP rfl rfl rfl rfl (by exact cJ rfl rfl (by omega) (by omega)) ?_;refine cP rfl rfl rfl rfl (by exact aO T rfl rfl rfl rfl rfl (by omega) (by omega)) ?_;refine cP rfl rfl rfl rfl (by exact aN T rfl rfl (bP rfl q2) rfl) ?_;refine cP rfl rfl rfl rfl (by exact bR rfl) ?_;refine cP rfl rfl rfl rfl (by exact bR rfl) ?_;refine cP rfl rfl rfl rfl (by exact bR rfl) ?_;refine cP rfl rfl rfl rfl (by exact cJ rfl rfl (by omega) (by omega)) ?_;refine cP rfl rfl rfl rfl (by exact aO T rfl rfl rfl rfl rfl (by omega) (by omega)) ?_;refine cP rfl rfl rfl rfl (by exact aN T rfl rfl (bP rfl q1) rfl) ?_;refine cP rfl rfl rfl rfl (by exact aO T rfl rfl rfl rfl rfl (by omega) (by omega)) ?_;refine xJ rfl rfl rfl rfl (aG rfl) T rfl rfl rfl rfl rfl rfl (by decide) (wO rfl q1 rfl) ?_;refine sD rfl rfl rfl (by exact rfl) ?_;refine vV (by exact aO T rfl rfl rfl rfl rfl (by omega) (by omega)) ?_;refine bA T rfl rfl rfl rfl rfl rfl (by decide) (mK rfl q3 rfl) ?_)|(refine iA 2 rfl rfl rfl (by omega) (by omega) ?_)|refine nZ ?_));all_goals first | (exfalso;omega) | exact ⟨⟨k + 1,by omega⟩,by dsimp only;omega,⟨[0],rfl,by (repeat (first | exact trivial | refine ⟨rfl,?_⟩)),⟨.inr (aC rfl (by dsimp only;rw [← t2];try rfl) (bV _)),trivial⟩,by decide,lL⟩⟩
  · obtain rfl : k = n := by omega
    have e := yA5 (P := P) (Q := Q) (R := R) h1 h2
    (repeat' (first|refine wS ?_|refine wE ?_|(refine wC rfl ?_ ?_<;>(intro hb;(try simp only [nm] at hb);try (exfalso;omega)))|(refine rg 1 (dK rfl (vV (aJ rfl rfl) ?_)))|refine nZ ?_));all_goals first | (exfalso;omega) | exact ⟨.inl rfl,[0],_,rfl,rfl,rfl,⟨.inr (aC rfl (by rw [e]) (bV _)),trivial⟩,by decide,lL⟩ | exact ⟨.inr rfl,[0],_,rfl,rfl,rfl,⟨.inr (aC rfl (by rw [e]) (bV _)),trivial⟩,by decide,lL⟩
theorem WO (P X Y R : List W) {a m b N : Nat} (ha : a = P.length) (hm : m = P.length + X.length) (hb : b = P.length + X.length + Y.length) (hN : N = b + R.length) (hl : N ≤ 100000) (hX : 0 < X.length) (hY : 0 < Y.length) :
    aU Tryz.prog 158 [.sl 0 0 N 3,.i a,.i m,.i b,rR] [.arr (gB (P ++ (X ++ (Y ++ R)))) 3] (.tup []) [.arr (gB (P ++ (Y ++ (X ++ R)))) 3] := by
  refine bX T Tryz.func158 rfl rfl rfl rfl ?_
  (repeat' (first|refine wS ?_|refine wB ?_|(refine rg 0 (dK rfl (vV (cX rfl rfl (by omega) (by omega)) (aV ?_))))|(refine rg 1 (dK rfl (vV (cX rfl rfl (by omega) (by omega)) (aV ?_))))|refine nZ ?_));refine dC (X := {q : List W × List W × List W × List W // q.1 ++ (q.2.2.1 ++ (q.2.1 ++ q.2.2.2)) = P ++ (Y ++ (X ++ R)) ∧ q.1.length + q.2.1.length = m ∧ m + q.2.2.1.length + q.2.2.2.length = N ∧ 0 < q.2.1.length ∧ 0 < q.2.2.1.length})
    (fun q => [(0,.sl 0 0 N 3),(1,.i a),(2,.i m),(3,.i b),(4,rR),(10,.i q.1.2.1.length),(11,.i q.1.2.2.1.length)]) (fun q => [.arr (gB (q.1.1 ++ (q.1.2.1 ++ (q.1.2.2.1 ++ q.1.2.2.2)))) 3]) (fun q => q.1.2.1.length + q.1.2.2.1.length) ⟨(P,X,Y,R),by dsimp only;exact ⟨rfl,by omega,by omega,hX,hY⟩⟩
    ⟨[0],rfl,⟨rfl,rfl,rfl,rfl,rfl,by dsimp only;rw [show (X.length : Int) = (m : Int) - (a : Int) by omega];rfl,by dsimp only;rw [show (Y.length : Int) = (b : Int) - (m : Int) by omega];rfl,trivial⟩,⟨.inr (aC rfl rfl (bV _)),trivial⟩,by decide,lL⟩ ?_
  rintro ⟨⟨P1,X1,Y1,R1⟩,h1,h2,h3,h4,h5⟩;dsimp only at h1 h2 h3 h4 h5 ⊢;have hsb : ((P1.length : Nat) : Int) = (m : Int) - (X1.length : Int) := by omega
  by_cases hij : X1.length = Y1.length
  · have hc := FL P1 X1 [] Y1 R1 (n := X1.length) (a := P1.length) (b := m) (N := N) rfl hij.symm rfl (by simp;omega) (by simp;omega) hl
    rw [List.nil_append,List.nil_append,hsb,h1] at hc
    (repeat' (first|refine wS ?_|refine wE ?_|refine wU ?_|(refine rg 2 (dK rfl (vV (V6 rfl rfl (by omega)) ?_)))|(refine rg 8 (dK rfl (mW rfl (vV (cX rfl rfl (by omega) (by omega)) (dK rfl (mW rfl (eA [0] rfl rfl (hc) rfl rfl (by decide) ⟨.inr (aC rfl rfl (bV _)),trivial⟩ (by simp) rfl ?_)))))))|refine nZ ?_));all_goals first | (exfalso;omega) | exact ⟨.inl rfl,[0],_,rfl,rfl,rfl,⟨.inr (aC rfl (bE _ (bV _)) (bV _)),trivial⟩,by decide,lL⟩ | exact ⟨.inr rfl,[0],_,rfl,rfl,rfl,⟨.inr (aC rfl (bE _ (bV _)) (bV _)),trivial⟩,by decide,lL⟩
  · by_cases hgt : Y1.length < X1.length
    · -- a part of the left side goes to the end
      obtain ⟨A,B,rfl,hA⟩ : ∃ A B,X1 = A ++ B ∧ A.length = Y1.length := ⟨X1.take Y1.length,X1.drop Y1.length,by simp,by simp;omega⟩
      rw [aF] at *;have hc := FL P1 A B Y1 R1 (n := Y1.length) (a := P1.length) (b := m) (N := N) hA rfl rfl (by omega) (by omega) hl
      rw [hsb] at hc;rw [bW]
      (repeat' (first|refine wS ?_|refine wB ?_|refine wK ?_|refine wT ?_|(refine rg 2 (dK rfl (vV (V5 rfl rfl (by omega)) ?_)))|(refine rg 3 (dK rfl (vV (zM1 rfl rfl (by omega)) ?_)))|(refine rg 4 (dK rfl (mW rfl (vV (cX rfl rfl (by omega) (by omega)) (dK rfl (mW rfl (eA [0] rfl rfl (hc) rfl rfl (by decide) ⟨.inr (aC rfl rfl (bV _)),trivial⟩ (by simp) rfl ?_)))))))|(refine rg 5 (dK rfl (vV (cX rfl rfl (by omega) (by omega)) (aV ?_))))|refine nZ ?_));all_goals first | (exfalso;omega) | skip
      refine ⟨⟨(P1 ++ Y1,B,A,R1),by dsimp only;refine ⟨by rw [← h1];simp,?_,?_,?_,?_⟩ <;> (try simp only [aF]) <;> omega⟩,by dsimp only;omega,⟨[0],rfl,⟨rfl,rfl,rfl,rfl,rfl,by dsimp only;rw [show (B.length : Int) = ((A.length + B.length : Nat) : Int) - (Y1.length : Int) by omega];rfl,by dsimp only;rw [hA];rfl,trivial⟩,⟨.inr (aC rfl (by rw [bE _ (bV _)];simp) (bV _)),trivial⟩,by decide,lL⟩⟩
    · -- a part of the right side goes to the front
      obtain ⟨A,B,rfl,hA⟩ : ∃ A B,Y1 = A ++ B ∧ B.length = X1.length := ⟨Y1.take (Y1.length - X1.length),Y1.drop (Y1.length - X1.length),by simp,by simp;omega⟩
      rw [aF] at *;have hc := FL P1 X1 A B R1 (n := X1.length) (a := P1.length) (b := m + A.length) (N := N) rfl hA rfl (by omega) (by omega) hl
      rw [hsb,show ((m + A.length : Nat) : Int) = (m : Int) + ((A.length + B.length : Nat) : Int) - (X1.length : Int) by omega] at hc
      rw [bW]
      (repeat' (first|refine wS ?_|refine wB ?_|refine wK ?_|refine wT ?_|refine wU ?_|(refine rg 2 (dK rfl (vV (V5 rfl rfl (by omega)) ?_)))|(refine rg 3 (dK rfl (vV (GQ rfl rfl (by omega)) ?_)))|(refine rg 6 (dK rfl (mW rfl (vV (cX rfl rfl (by omega) (by omega)) (dK rfl (vV (cJ rfl rfl (by omega) (by omega)) (mW rfl (vV (cX rfl rfl (by omega) (by omega)) (dK rfl (eA [0] rfl rfl (hc) rfl rfl (by decide) ⟨.inr (aC rfl rfl (bV _)),trivial⟩ (by simp) rfl ?_))))))))))|(refine rg 7 (dK rfl (vV (cX rfl rfl (by omega) (by omega)) (aV ?_))))|refine nZ ?_));all_goals first | (exfalso;omega) | skip
      refine ⟨⟨(P1,B,A,X1 ++ R1),by dsimp only;refine ⟨by rw [← h1];simp,?_,?_,?_,?_⟩ <;> (try simp only [aF]) <;> omega⟩,by dsimp only;omega,⟨[0],rfl,⟨rfl,rfl,rfl,rfl,rfl,by dsimp only;rw [hA];rfl,by dsimp only;rw [show (A.length : Int) = ((A.length + B.length : Nat) : Int) - (X1.length : Int) by omega];rfl,trivial⟩,⟨.inr (aC rfl (by rw [bE _ (bV _)]) (bV _)),trivial⟩,by decide,lL⟩⟩
end Go.Proofs.YtmmmeebiobjnbaaGreat
namespace Go.Ld
open Go.Ab Go.Proofs.YtmmmeebiobjnbaaGreat
theorem RX {V : List W} {i : Nat} {z : W} (h0 : 0 < i) (h : V[i - 1]? = some z) : V.take i = V.take (i - 1) ++ [z] := by
  conv => lhs;rw [show i = (i - 1) + 1 by omega]
  rw [zD3,h];rfl
theorem zN8 {V : List W} {i : Nat} {z : W} (h : V[i]? = some z) : V.drop i = z :: V.drop (i + 1) := by
  obtain ⟨hi,e⟩ := aB.1 h;rw [aT hi,e]
theorem PC {V : List W} {i : Nat} (hu : Up V) {x y z : W} (h0 : 0 < i) (h : V[i - 1]? = some z) (hy : y ∈ V.take i) (hz : eN z x ≤ 0) : eN y x ≤ 0 := by
  have h1 : Up (V.take i) := hu.sublist (List.take_sublist _ _);rw [RX h0 h] at h1 hy;exact jF.le_tr (PD h1 y hy) hz
theorem PE {V : List W} {i : Nat} (hu : Up V) {x y z : W} (h : V[i]? = some z) (hy : y ∈ V.drop i) (hz : eN x z ≤ 0) : eN x y ≤ 0 := by
  have h1 : Up (V.drop i) := hu.sublist (List.drop_sublist _ _);rw [zN8 h] at h1 hy;exact jF.le_tr hz (zE6 h1 y hy)
theorem rX {V : List W} {i : Nat} {y : W} (h : y ∈ V.take i) (hi : i ≤ V.length) : 0 < i ∧ ∃ z,V[i - 1]? = some z := by
  have : 0 < i := by
    rcases L5 i with rfl | h0
    · simp at h
    · exact h0
  exact ⟨this,_,aA (by omega)⟩
theorem uC {V : List W} {i : Nat} {y : W} (h : y ∈ V.drop i) : ∃ z,V[i]? = some z := by
  have : i < V.length := by
    rcases iZ i V.length with h0 | h0
    · exact h0
    · rw [cT h0] at h;cases h
  exact ⟨_,aA this⟩
theorem zV0 {u : W} {V : List W} {i : Nat} (hi : i ≤ V.length) (hu : Up V) (h1 : ∀ z,0 < i → V[i - 1]? = some z → eN z u < 0) (h2 : ∀ z,V[i]? = some z → ¬ eN z u < 0) : dY eN ([u] ++ V) = V.take i ++ u :: V.drop i := by
  refine H6 ?_ (MT (by rw [bQ];exact hu) (fun y hy => ?_) (fun y hy => ?_))
  · refine List.perm_middle.trans ?_;rw [bQ];exact .refl _
  · obtain ⟨h0,z,hz⟩ := rX hy hi;exact PC hu h0 hz hy (C5 (h1 z h0 hz))
  · obtain ⟨z,hz⟩ := uC hy;exact PE hu hz hy (yE1 (h2 z hz))
theorem zU9 {v : W} {U : List W} {i : Nat} (hi : i ≤ U.length) (hu : Up U) (h1 : ∀ z,0 < i → U[i - 1]? = some z → ¬ eN v z < 0) (h2 : ∀ z,U[i]? = some z → eN v z < 0) : dY eN (U ++ [v]) = U.take i ++ v :: U.drop i := by
  refine H6 ?_ (MT (by rw [bQ];exact hu) (fun y hy => ?_) (fun y hy => ?_))
  · refine List.perm_middle.trans ?_;rw [bQ];exact (L6 _ _).symm
  · obtain ⟨h0,z,hz⟩ := rX hy hi;exact PC hu h0 hz hy (yE1 (h1 z h0 hz))
  · obtain ⟨z,hz⟩ := uC hy;exact PE hu hz hy (C5 (h2 z hz))
theorem yD2 {U V : List W} {i e : Nat} (hU : Up U) (hV : Up V) (hi : i ≤ U.length) (he : e ≤ V.length) (h1 : ∀ x y,0 < i → U[i - 1]? = some x → V[e]? = some y → ¬ eN y x < 0) (h2 : ∀ x y,0 < e → U[i]? = some x → V[e - 1]? = some y → eN y x < 0) :
    dY eN (U ++ V) = dY eN (U.take i ++ V.take e) ++ dY eN (U.drop i ++ V.drop e) := by
  have hU1 : Up (U.take i ++ U.drop i) := by rw [bQ];exact hU
  have hV1 : Up (V.take e ++ V.drop e) := by rw [bQ];exact hV
  have cU := (eT.1 hU1).2.2;have cV := (eT.1 hV1).2.2;refine H6 ?_ (zS6 (lP jF _) (lP jF _) fun x y hx hy => ?_)
  · refine ((dI _ _).append (dI _ _)).trans ?_;have e1 : (U.take i ++ V.take e ++ (U.drop i ++ V.drop e)).Perm (U.take i ++ U.drop i ++ (V.take e ++ V.drop e)) := by
      rw [bW,bW];refine List.Perm.append_left _ ?_;rw [← bW,← bW];exact List.perm_append_comm.append_right _
    rw [bQ,bQ] at e1;exact e1
  · have hx := (dI _ _).mem_iff.1 hx;have hy := (dI _ _).mem_iff.1 hy;rcases bF.1 hx with hx | hx <;> rcases bF.1 hy with hy | hy
    · exact cU x hx y hy
    · obtain ⟨h0,z,hz⟩ := rX hx hi;obtain ⟨q,hq⟩ := uC hy;exact PE hV hq hy (PC hU h0 hz hx (yE1 (h1 z q h0 hz hq)))
    · obtain ⟨h0,z,hz⟩ := rX hx he;obtain ⟨q,hq⟩ := uC hy;exact PE hU hq hy (PC hV h0 hz hx (C5 (h2 q z h0 hq hz)))
    · exact cV x hx y hy
def L9 (P V : List W) (u : W) (R : List W) (k : Nat) : List W := (P ++ V.take k) ++ u :: (V.drop k ++ R)
theorem II {P V : List W} {u : W} {R : List W} {k : Nat} (h : k < V.length) : ∃ y,(L9 P V u R k)[P.length + k]? = some u ∧ (L9 P V u R k)[P.length + k + 1]? = some y ∧
    ((L9 P V u R k).set (P.length + k) y)[P.length + k + 1]? = some y ∧ ((L9 P V u R k).set (P.length + k) y).set (P.length + k + 1) u = L9 P V u R (k + 1) ∧
    (L9 P V u R (k + 1))[P.length + k + 1]? = some u ∧ (L9 P V u R (k + 1))[P.length + k]? = some y ∧ ((L9 P V u R (k + 1)).set (P.length + k + 1) y)[P.length + k]? = some y ∧ ((L9 P V u R (k + 1)).set (P.length + k + 1) y).set (P.length + k) u = L9 P V u R k := by
  obtain ⟨V1,y,V2,rfl,hk⟩ := MX h;obtain ⟨a1,a2,a3,a4⟩ := yE9 (x := y) (X2 := V2) hk;have e : L9 P (V1 ++ y :: V2) u R k = (P ++ V1) ++ u :: y :: (V2 ++ R) := by unfold L9;rw [a1,a2];simp
  have e' : L9 P (V1 ++ y :: V2) u R (k + 1) = (P ++ V1) ++ y :: u :: (V2 ++ R) := by unfold L9;rw [a3,a4];simp
  have l0 : P.length + k = (P ++ V1).length := by simp;omega
  have s1 : ∀ (p q : W),((P ++ V1) ++ p :: q :: (V2 ++ R))[P.length + k + 1]? = some q := fun p q => by
    rw [show (P ++ V1) ++ p :: q :: (V2 ++ R) = ((P ++ V1) ++ [p]) ++ q :: (V2 ++ R) by simp];exact nK _ _ _ (by simp;omega)
  have s2 : ∀ (p q z : W),((P ++ V1) ++ p :: q :: (V2 ++ R)).set (P.length + k + 1) z = (P ++ V1) ++ p :: z :: (V2 ++ R) := fun p q z => by
    rw [show (P ++ V1) ++ p :: q :: (V2 ++ R) = ((P ++ V1) ++ [p]) ++ q :: (V2 ++ R) by simp,nW _ _ _ _ (by simp;omega)];simp
  rw [e,e'];refine ⟨y,nK _ _ _ l0,s1 _ _,?_,?_,s1 _ _,nK _ _ _ l0,?_,?_⟩
  · rw [nW _ _ _ _ l0];exact s1 _ _
  · rw [nW _ _ _ _ l0,s2]
  · rw [s2];exact nK _ _ _ l0
  · rw [s2,nW _ _ _ _ l0]
theorem zA8 {P U V R : List W} {i k : Nat} (h : i = P.length + U.length + k) (hk : k < V.length) : (P ++ (U ++ (V ++ R)))[i]? = V[k]? := by
  subst h;rw [aE (by omega),aE (by omega),aH (by omega)]
  congr 1;omega
theorem zA9 {P U V R : List W} {i k : Nat} (h : i = P.length + k) (hk : k < U.length) : (P ++ (U ++ (V ++ R)))[i]? = U[k]? := by
  subst h;rw [aE (by omega),aH (by omega)]
  congr 1;omega
end Go.Ld
namespace Go.Proofs.YtmmmeebiobjnbaaGreat
open Go Go.Ab Go.Ld
attribute [local irreducible] VC AW cE aU
set_option maxHeartbeats 4000000
theorem yR : P9 Tryz.prog 3 .i64 := by unfold P9;kernel_rfl
theorem rG : P9 Tryz.prog 139 .u64 := by unfold P9;kernel_rfl
attribute [local irreducible] P9
theorem zT1 (P : List W) (u : W) (V R : List W) {a m b N : Nat} (ha : a = P.length) (hm : m = a + 1) (hb : b = m + V.length) (hN : N = b + R.length) (hl : N ≤ 100000) (hV : Up V) (hu : M1 u) (hw : ∀ w,w ∈ V → M1 w) :
    aU Tryz.prog 148 [.sl 0 0 N 3,.i a,.i m,.i b,rR] [.arr (gB (P ++ ([u] ++ (V ++ R)))) 3] (.tup []) [.arr (gB (P ++ (dY eN ([u] ++ V) ++ R))) 3] := by
  refine bX T Tryz.func148 rfl rfl rfl rfl ?_
  (repeat' (first|refine wS ?_|refine wB ?_|refine wT ?_|(refine rg 0 (dK rfl (vV (cX rfl rfl (by omega) (by omega)) (vV (lA rfl rfl (by omega)) ?_))))|(refine rg 1 (mW rfl (aV ?_)))|(refine rg 2 (mW rfl (aV ?_)))|refine nZ ?_));refine dC (X := {q : Nat × Nat // m ≤ q.1 ∧ q.1 ≤ q.2 ∧ q.2 ≤ b ∧ (∀ z, 0 < q.1 - m → V[q.1 - m - 1]? = some z → eN z u < 0) ∧ (∀ z, V[q.2 - m]? = some z → ¬ eN z u < 0)})
    (fun q => [(0,.sl 0 0 N 3),(1,.i a),(4,rR),(10,.i q.1.1),(11,.i q.1.2)]) (fun _ => [.arr (gB (P ++ ([u] ++ (V ++ R)))) 3]) (fun q => q.1.2 - q.1.1) ⟨(m,b),by dsimp only;exact ⟨by omega,by omega,by omega,fun z h => by omega,fun z h => by rw [cQ (by omega)] at h;cases h⟩⟩
    ⟨[0],rfl,by (repeat (first | exact trivial | refine ⟨rfl,?_⟩)),⟨.inr (aC rfl rfl (bV _)),trivial⟩,by decide,lL⟩ ?_
  rintro ⟨⟨i,j⟩,h1,h2,h3,h4,h5⟩;dsimp only at h1 h2 h3 h4 h5 ⊢;by_cases hij : i < j
  · have hP : ((i : Int) + j) / 2 ^ (1 : Int).toNat = (((i + j) / 2 : Nat) : Int) := by rw [show (2 : Int) ^ (1 : Int).toNat = 2 from rfl];omega
    have hw1 : IntKind.u64.wrap ((i : Int) + j) = (i : Int) + j := IA (by omega) (by omega)
    have hw2 : IntKind.i64.wrap (((i + j) / 2 : Nat) : Int) = (((i + j) / 2 : Nat) : Int) := IntWalk.i64_in _ (by omega)
    have hh : i ≤ (i + j) / 2 ∧ (i + j) / 2 < j := by omega
    generalize hq : (i + j) / 2 = q at *;obtain ⟨z,hz⟩ : ∃ z,V[q - m]? = some z := ⟨_,aA (by omega)⟩
    have q1 := pM (L := P ++ ([u] ++ (V ++ R))) (j := (q : Int)) (i := q) (x := z) (by rw [zA8 (k := q - m) (by simp;omega) (by omega)];exact hz) rfl
    have q2 := pM (L := P ++ ([u] ++ (V ++ R))) (j := (a : Int)) (i := a) (x := u) (by rw [zA9 (k := 0) (by omega) (by simp)];rfl) rfl
    have hc := wY z u (hw z (aL hz)) hu;by_cases h0 : eN z u < 0
    · generalize hx : eN z u = x at *
      (repeat' (first|refine wS ?_|refine wB ?_|refine wK ?_|(refine wC rfl ?_ ?_<;>(intro hb;(try simp only [nm] at hb);try (exfalso;omega)))|(refine rg 3 (dK rfl (vV (aJ rfl rfl) ?_)))|(refine rg 4 (dK rfl (vV (cJ rfl rfl (by omega) (by omega)) (vV (jC yR rG rfl hw1) (vV (by exact hP ▸ uD rfl rfl (by decide) (by decide)) ?_))));refine vV (jC rG yR rfl hw2) (aV ?_))|(refine cO (id := 5) 220 yL9 (rM 40 11) yM0 cW rfl (by decide +kernel) (dN rfl (dN rfl (dN rfl (dV rfl (by exact aO T rfl rfl rfl rfl rfl (by omega) (by omega)) ?_))));refine dV rfl (by exact aN T rfl rfl (bP rfl q1) rfl) ?_;refine dN rfl (dN rfl (dV rfl (by exact aO T rfl rfl rfl rfl rfl (by omega) (by omega)) ?_));refine dV rfl (by exact aN T rfl rfl (bP rfl q2) rfl) ?_;refine dV rfl (kC (hc)) (dV rfl (aJ rfl rfl) (dE ?_)))|(refine iA 6 rfl rfl rfl (by omega) (by omega) ?_)|refine nZ ?_));all_goals first | (exfalso;omega) | skip
      exact ⟨⟨(q + 1,j),by dsimp only;exact ⟨by omega,by omega,by omega,fun z' _ hz' => by rw [show q + 1 - m - 1 = q - m by omega,hz] at hz';cases hz';omega,h5⟩⟩,by dsimp only;omega,⟨[0],rfl,by (repeat (first | exact trivial | refine ⟨rfl,?_⟩)),⟨.inr (aC rfl rfl (bV _)),trivial⟩,by decide,lL⟩⟩
    · generalize hx : eN z u = x at *
      (repeat' (first|refine wS ?_|refine wB ?_|refine wK ?_|(refine wC rfl ?_ ?_<;>(intro hb;(try simp only [nm] at hb);try (exfalso;omega)))|(refine rg 3 (dK rfl (vV (aJ rfl rfl) ?_)))|(refine rg 4 (dK rfl (vV (cJ rfl rfl (by omega) (by omega)) (vV (jC yR rG rfl hw1) (vV (by exact hP ▸ uD rfl rfl (by decide) (by decide)) ?_))));refine vV (jC rG yR rfl hw2) (aV ?_))|(refine cO (id := 5) 220 yL9 (rM 40 11) yM0 cW rfl (by decide +kernel) (dN rfl (dN rfl (dN rfl (dV rfl (by exact aO T rfl rfl rfl rfl rfl (by omega) (by omega)) ?_))));refine dV rfl (by exact aN T rfl rfl (bP rfl q1) rfl) ?_;refine dN rfl (dN rfl (dV rfl (by exact aO T rfl rfl rfl rfl rfl (by omega) (by omega)) ?_));refine dV rfl (by exact aN T rfl rfl (bP rfl q2) rfl) ?_;refine dV rfl (kC (hc)) (dV rfl (aJ rfl rfl) (dE ?_)))|(refine rg 7 (mW rfl (aV ?_)))|refine nZ ?_));all_goals first | (exfalso;omega) | skip
      exact ⟨⟨(i,q),by dsimp only;exact ⟨by omega,by omega,by omega,h4,fun z' hz' => by rw [hz] at hz';cases hz';omega⟩⟩,by dsimp only;omega,⟨[0],rfl,by (repeat (first | exact trivial | refine ⟨rfl,?_⟩)),⟨.inr (aC rfl rfl (bV _)),trivial⟩,by decide,lL⟩⟩
  · obtain rfl : i = j := by omega
    have hmg := zV0 (u := u) (i := i - m) (by omega) hV h4 h5
    (repeat' (first|refine wS ?_|refine wB ?_|refine wE ?_|(refine wC rfl ?_ ?_<;>(intro hb;(try simp only [nm] at hb);try (exfalso;omega)))|(refine rg 3 (dK rfl (vV (aJ rfl rfl) ?_)))|(refine rg 8 (mW rfl (aV ?_)))|refine nZ ?_));all_goals first | (exfalso;omega) | skip
    refine dC (X := {t : Nat // t ≤ i - m}) (fun t => [(0,.sl 0 0 N 3),(10,.i i),(13,.i ((a + t.1 : Nat) : Int))]) (fun t => [.arr (gB (L9 P V u R t.1)) 3]) (fun t => i - m - t.1) ⟨0,by omega⟩ ⟨[0],rfl,⟨rfl,rfl,by dsimp only;rfl,trivial⟩,⟨.inr (aC rfl (by dsimp only;unfold L9;simp) (bV _)),trivial⟩,by decide,lL⟩ ?_
    rintro ⟨t,ht⟩;dsimp only;by_cases hlt : t < i - m
    · obtain ⟨y,p1,p2,p3,p4,_⟩ := II (P := P) (u := u) (R := R) (show t < V.length by omega)
      have q1 := pM (j := ((a + t : Nat) : Int)) p1 (by omega)
      have q2 := pM (j := ((a + t : Nat) : Int) + 1) p2 (by omega)
      have t1 := wM (L := L9 P V u R t) (j := ((a + t : Nat) : Int)) (i := P.length + t) (x := y) (by omega)
      have q3 := pM (j := ((a + t : Nat) : Int) + 1) p3 (by omega)
      have t2 := wM (L := (L9 P V u R t).set (P.length + t) y) (j := ((a + t : Nat) : Int) + 1) (i := P.length + t + 1) (x := u) (by omega)
      rw [← t1] at q3 t2;rw [p4] at t2;have hJ : ((a + t : Nat) : Int) + 1 = ((a + (t + 1) : Nat) : Int) := by omega
      have hJ1 : ((a + t : Nat) : Int) < (i : Int) - 1 := by omega
      have hJ2 : 0 ≤ ((a + t : Nat) : Int) := by omega
      clear p1 p2 p3 p4 t1;generalize ((a + t : Nat) : Int) = J at *;generalize L9 P V u R t = L at *
      (repeat' (first|refine wS ?_|refine wB ?_|refine wK ?_|(refine wC rfl ?_ ?_<;>(intro hb;(try simp only [nm] at hb);try (exfalso;omega)))|(refine rg 9 (dK rfl (vV (cX rfl rfl (by omega) (by omega)) (vV (aJ rfl rfl) ?_))))|(refine nY (id := 11) 220 yL7 (rM 61 15) [[],[61],[61,62],[61,62,63],[61,62,63],rM 61 5,rM 61 6,rM 61 6,rM 61 5,rM 61 5,rM 61 10,rM 61 11,rM 61 10,rM 61 10,[63,64,65],[63,64,65]] [(15,0)] cW rfl (by decide +kernel) (cP rfl rfl rfl rfl (by exact bR rfl) ?_);refine cP rfl rfl rfl rfl (by exact bR rfl) ?_;refine cP rfl rfl rfl rfl (by exact bR rfl) ?_;refine cP rfl rfl rfl rfl (by exact bR rfl) ?_;refine cP rfl rfl rfl rfl (by exact cJ rfl rfl (by omega) (by omega)) ?_;refine cP rfl rfl rfl rfl (by exact bR rfl) ?_;refine cP rfl rfl rfl rfl (by exact bR rfl) ?_;refine cP rfl rfl rfl rfl (by exact cJ rfl rfl (by omega) (by omega)) ?_;refine cP rfl rfl rfl rfl (by exact aO T rfl rfl rfl rfl rfl (by omega) (by omega)) ?_;refine cP rfl rfl rfl rfl (by exact aN T rfl rfl (bP rfl q2) rfl) ?_;refine cP rfl rfl rfl rfl (by exact bR rfl) ?_;refine cP rfl rfl rfl rfl (by exact bR rfl) ?_;refine cP rfl rfl rfl rfl (by exact aO T rfl rfl rfl rfl rfl (by omega) (by omega)) ?_;refine cP rfl rfl rfl rfl (by exact aN T rfl rfl (bP rfl q1) rfl) ?_;refine cP rfl rfl rfl rfl (by exact aO T rfl rfl rfl rfl rfl (by omega) (by omega)) ?_;refine xJ rfl rfl rfl rfl (aG rfl) T rfl rfl rfl rfl rfl rfl (by decide) (wO rfl q1 rfl) ?_;refine sD rfl rfl rfl (by exact rfl) ?_;refine vV (by exact aO T rfl rfl rfl rfl rfl (by omega) (by omega)) ?_;refine bA T rfl rfl rfl rfl rfl rfl (by decide) (mK rfl q3 rfl) ?_)|(refine iA 10 rfl rfl rfl (by omega) (by omega) ?_)|refine nZ ?_));all_goals first | (exfalso;omega) | skip
      exact ⟨⟨t + 1,by omega⟩,by dsimp only;omega,⟨[0],rfl,⟨rfl,rfl,by dsimp only;rw [← hJ];try rfl,trivial⟩,⟨.inr (aC rfl (by dsimp only;rw [← t2];try rfl) (bV _)),trivial⟩,by decide,lL⟩⟩
    · obtain rfl : t = i - m := by omega
      have ee : L9 P V u R (i - m) = P ++ (dY eN ([u] ++ V) ++ R) := by rw [hmg];unfold L9;simp
      have hJ1 : ¬ ((a + (i - m) : Nat) : Int) < (i : Int) - 1 := by omega
      generalize ((a + (i - m) : Nat) : Int) = J at *
      (repeat' (first|refine wS ?_|refine wR ?_|refine wE ?_|(refine wC rfl ?_ ?_<;>(intro hb;(try simp only [nm] at hb);try (exfalso;omega)))|(refine rg 9 (dK rfl (vV (cX rfl rfl (by omega) (by omega)) (vV (aJ rfl rfl) ?_))))|refine nZ ?_));all_goals first | (exfalso;omega) | exact ⟨.inl rfl,[0],_,rfl,rfl,rfl,⟨.inr (aC rfl (by rw [ee]) (bV _)),trivial⟩,by decide,lL⟩ | exact ⟨.inr rfl,[0],_,rfl,rfl,rfl,⟨.inr (aC rfl (by rw [ee]) (bV _)),trivial⟩,by decide,lL⟩
theorem zT0 (P U : List W) (v : W) (R : List W) {a m b N : Nat} (ha : a = P.length) (hm : m = a + U.length) (hb : b = m + 1) (hN : N = b + R.length) (hl : N ≤ 100000) (hU2 : 2 ≤ U.length) (hU : Up U) (hv : M1 v) (hw : ∀ w,w ∈ U → M1 w) :
    aU Tryz.prog 148 [.sl 0 0 N 3,.i a,.i m,.i b,rR] [.arr (gB (P ++ (U ++ ([v] ++ R)))) 3] (.tup []) [.arr (gB (P ++ (dY eN (U ++ [v]) ++ R))) 3] := by
  refine bX T Tryz.func148 rfl rfl rfl rfl ?_
  (repeat' (first|refine wS ?_|refine wB ?_|refine wK ?_|refine wT ?_|refine wU ?_|(refine rg 0 (dK rfl (vV (cX rfl rfl (by omega) (by omega)) (vV (gR rfl rfl (by omega)) ?_))))|(refine rg 12 (dK rfl (vV (cX rfl rfl (by omega) (by omega)) (vV (lA rfl rfl (by omega)) ?_))))|(refine rg 13 (mW rfl (aV ?_)))|(refine rg 14 (mW rfl (aV ?_)))|refine nZ ?_));refine dC (X := {q : Nat × Nat // a ≤ q.1 ∧ q.1 ≤ q.2 ∧ q.2 ≤ m ∧ (∀ z, 0 < q.1 - a → U[q.1 - a - 1]? = some z → ¬ eN v z < 0) ∧ (∀ z, U[q.2 - a]? = some z → eN v z < 0)})
    (fun q => [(0,.sl 0 0 N 3),(2,.i m),(4,rR),(14,.i q.1.1),(15,.i q.1.2)]) (fun _ => [.arr (gB (P ++ (U ++ ([v] ++ R)))) 3]) (fun q => q.1.2 - q.1.1) ⟨(a,m),by dsimp only;exact ⟨by omega,by omega,by omega,fun z h => by omega,fun z h => by rw [cQ (by omega)] at h;cases h⟩⟩
    ⟨[0],rfl,by (repeat (first | exact trivial | refine ⟨rfl,?_⟩)),⟨.inr (aC rfl rfl (bV _)),trivial⟩,by decide,lL⟩ ?_
  rintro ⟨⟨i,j⟩,h1,h2,h3,h4,h5⟩;dsimp only at h1 h2 h3 h4 h5 ⊢;by_cases hij : i < j
  · have hP : ((i : Int) + j) / 2 ^ (1 : Int).toNat = (((i + j) / 2 : Nat) : Int) := by rw [show (2 : Int) ^ (1 : Int).toNat = 2 from rfl];omega
    have hw1 : IntKind.u64.wrap ((i : Int) + j) = (i : Int) + j := IA (by omega) (by omega)
    have hw2 : IntKind.i64.wrap (((i + j) / 2 : Nat) : Int) = (((i + j) / 2 : Nat) : Int) := IntWalk.i64_in _ (by omega)
    have hh : i ≤ (i + j) / 2 ∧ (i + j) / 2 < j := by omega
    generalize hq : (i + j) / 2 = q at *;obtain ⟨z,hz⟩ : ∃ z,U[q - a]? = some z := ⟨_,aA (by omega)⟩
    have q1 := pM (L := P ++ (U ++ ([v] ++ R))) (j := (m : Int)) (i := m) (x := v) (by rw [zA8 (k := 0) (by omega) (by simp)];rfl) rfl
    have q2 := pM (L := P ++ (U ++ ([v] ++ R))) (j := (q : Int)) (i := q) (x := z) (by rw [zA9 (k := q - a) (by omega) (by omega)];exact hz) rfl
    have hc := wY v z hv (hw z (aL hz));by_cases h0 : eN v z < 0
    · generalize hx : eN v z = x at *
      (repeat' (first|refine wS ?_|refine wB ?_|refine wK ?_|(refine wC rfl ?_ ?_<;>(intro hb;(try simp only [nm] at hb);try (exfalso;omega)))|(refine rg 15 (dK rfl (vV (aJ rfl rfl) ?_)))|(refine rg 16 (dK rfl (vV (cJ rfl rfl (by omega) (by omega)) (vV (jC yR rG rfl hw1) (vV (by exact hP ▸ uD rfl rfl (by decide) (by decide)) ?_))));refine vV (jC rG yR rfl hw2) (aV ?_))|(refine cO (id := 17) 220 yM1 (rM 92 12) yM2 cW rfl (by decide +kernel) (dN rfl (dN rfl (dN rfl (dV rfl (by exact aO T rfl rfl rfl rfl rfl (by omega) (by omega)) ?_))));refine dV rfl (by exact aN T rfl rfl (bP rfl q1) rfl) ?_;refine dN rfl (dN rfl (dV rfl (by exact aO T rfl rfl rfl rfl rfl (by omega) (by omega)) ?_));refine dV rfl (by exact aN T rfl rfl (bP rfl q2) rfl) ?_;refine dV rfl (kC (hc)) (dV rfl (aJ rfl rfl) (dV rfl (eM rfl) (dE ?_))))|(refine rg 19 (mW rfl (aV ?_)))|refine nZ ?_));all_goals first | (exfalso;omega) | skip
      exact ⟨⟨(i,q),by dsimp only;exact ⟨by omega,by omega,by omega,h4,fun z' hz' => by rw [hz] at hz';cases hz';omega⟩⟩,by dsimp only;omega,⟨[0],rfl,by (repeat (first | exact trivial | refine ⟨rfl,?_⟩)),⟨.inr (aC rfl rfl (bV _)),trivial⟩,by decide,lL⟩⟩
    · generalize hx : eN v z = x at *
      (repeat' (first|refine wS ?_|refine wB ?_|refine wK ?_|(refine wC rfl ?_ ?_<;>(intro hb;(try simp only [nm] at hb);try (exfalso;omega)))|(refine rg 15 (dK rfl (vV (aJ rfl rfl) ?_)))|(refine rg 16 (dK rfl (vV (cJ rfl rfl (by omega) (by omega)) (vV (jC yR rG rfl hw1) (vV (by exact hP ▸ uD rfl rfl (by decide) (by decide)) ?_))));refine vV (jC rG yR rfl hw2) (aV ?_))|(refine cO (id := 17) 220 yM1 (rM 92 12) yM2 cW rfl (by decide +kernel) (dN rfl (dN rfl (dN rfl (dV rfl (by exact aO T rfl rfl rfl rfl rfl (by omega) (by omega)) ?_))));refine dV rfl (by exact aN T rfl rfl (bP rfl q1) rfl) ?_;refine dN rfl (dN rfl (dV rfl (by exact aO T rfl rfl rfl rfl rfl (by omega) (by omega)) ?_));refine dV rfl (by exact aN T rfl rfl (bP rfl q2) rfl) ?_;refine dV rfl (kC (hc)) (dV rfl (aJ rfl rfl) (dV rfl (eM rfl) (dE ?_))))|(refine iA 18 rfl rfl rfl (by omega) (by omega) ?_)|refine nZ ?_));all_goals first | (exfalso;omega) | skip
      exact ⟨⟨(q + 1,j),by dsimp only;exact ⟨by omega,by omega,by omega,fun z' _ hz' => by rw [show q + 1 - a - 1 = q - a by omega,hz] at hz';cases hz';omega,h5⟩⟩,by dsimp only;omega,⟨[0],rfl,by (repeat (first | exact trivial | refine ⟨rfl,?_⟩)),⟨.inr (aC rfl rfl (bV _)),trivial⟩,by decide,lL⟩⟩
  · obtain rfl : i = j := by omega
    have hmg := zU9 (v := v) (i := i - a) (by omega) hU h4 h5
    (repeat' (first|refine wS ?_|refine wB ?_|refine wE ?_|(refine wC rfl ?_ ?_<;>(intro hb;(try simp only [nm] at hb);try (exfalso;omega)))|(refine rg 15 (dK rfl (vV (aJ rfl rfl) ?_)))|(refine rg 20 (mW rfl (aV ?_)))|refine nZ ?_));all_goals first | (exfalso;omega) | skip
    refine dC (X := {t : Nat // i - a ≤ t ∧ t ≤ U.length}) (fun t => [(0,.sl 0 0 N 3),(14,.i i),(17,.i ((a + t.1 : Nat) : Int))]) (fun t => [.arr (gB (L9 P U v R t.1)) 3]) (fun t => t.1) ⟨U.length,by omega⟩ ⟨[0],rfl,⟨rfl,rfl,by dsimp only;rw [← hm];rfl,trivial⟩,⟨.inr (aC rfl (by dsimp only;unfold L9;simp) (bV _)),trivial⟩,by decide,lL⟩ ?_
    rintro ⟨t,ht,ht2⟩;dsimp only;by_cases hlt : i - a < t
    · obtain ⟨t,rfl⟩ : ∃ t',t = t' + 1 := ⟨t - 1,by omega⟩
      obtain ⟨y,_,_,_,_,p1,p2,p3,p4⟩ := II (P := P) (u := v) (R := R) (show t < U.length by omega)
      have q1 := pM (j := ((a + (t + 1) : Nat) : Int)) p1 (by omega)
      have q2 := pM (j := ((a + (t + 1) : Nat) : Int) - 1) p2 (by omega)
      have t1 := wM (L := L9 P U v R (t + 1)) (j := ((a + (t + 1) : Nat) : Int)) (i := P.length + t + 1) (x := y) (by omega)
      have q3 := pM (j := ((a + (t + 1) : Nat) : Int) - 1) p3 (by omega)
      have t2 := wM (L := (L9 P U v R (t + 1)).set (P.length + t + 1) y) (j := ((a + (t + 1) : Nat) : Int) - 1) (i := P.length + t) (x := v) (by omega)
      rw [← t1] at q3 t2;rw [p4] at t2;have hJ : ((a + (t + 1) : Nat) : Int) - 1 = ((a + t : Nat) : Int) := by omega
      have hJ1 : ((a + (t + 1) : Nat) : Int) > (i : Int) := by omega
      have hJ2 : 1 ≤ ((a + (t + 1) : Nat) : Int) := by omega
      have hJ3 : ((a + (t + 1) : Nat) : Int) < N := by omega
      clear p1 p2 p3 p4 t1;generalize ((a + (t + 1) : Nat) : Int) = J at *;generalize L9 P U v R (t + 1) = L at *
      (repeat' (first|refine wS ?_|refine wB ?_|refine wK ?_|(refine wC rfl ?_ ?_<;>(intro hb;(try simp only [nm] at hb);try (exfalso;omega)))|(refine rg 21 (dK rfl (vV (fB rfl rfl) ?_)))|(refine nY (id := 23) 220 yL7 (rM 113 15) [[],[113],[113,114],[113,114,115],[113,114,115],rM 113 5,rM 113 6,rM 113 6,rM 113 5,rM 113 5,rM 113 10,rM 113 11,rM 113 10,rM 113 10,[115,116,117],[115,116,117]] [(15,0)] cW rfl (by decide +kernel) (cP rfl rfl rfl rfl (by exact bR rfl) ?_);refine cP rfl rfl rfl rfl (by exact bR rfl) ?_;refine cP rfl rfl rfl rfl (by exact bR rfl) ?_;refine cP rfl rfl rfl rfl (by exact bR rfl) ?_;refine cP rfl rfl rfl rfl (by exact cX rfl rfl (by omega) (by omega)) ?_;refine cP rfl rfl rfl rfl (by exact bR rfl) ?_;refine cP rfl rfl rfl rfl (by exact bR rfl) ?_;refine cP rfl rfl rfl rfl (by exact cX rfl rfl (by omega) (by omega)) ?_;refine cP rfl rfl rfl rfl (by exact aO T rfl rfl rfl rfl rfl (by omega) (by omega)) ?_;refine cP rfl rfl rfl rfl (by exact aN T rfl rfl (bP rfl q2) rfl) ?_;refine cP rfl rfl rfl rfl (by exact bR rfl) ?_;refine cP rfl rfl rfl rfl (by exact bR rfl) ?_;refine cP rfl rfl rfl rfl (by exact aO T rfl rfl rfl rfl rfl (by omega) (by omega)) ?_;refine cP rfl rfl rfl rfl (by exact aN T rfl rfl (bP rfl q1) rfl) ?_;refine cP rfl rfl rfl rfl (by exact aO T rfl rfl rfl rfl rfl (by omega) (by omega)) ?_;refine xJ rfl rfl rfl rfl (aG rfl) T rfl rfl rfl rfl rfl rfl (by decide) (wO rfl q1 rfl) ?_;refine sD rfl rfl rfl (by exact rfl) ?_;refine vV (by exact aO T rfl rfl rfl rfl rfl (by omega) (by omega)) ?_;refine bA T rfl rfl rfl rfl rfl rfl (by decide) (mK rfl q3 rfl) ?_)|(refine rg 22 (mW rfl (vV (cX rfl rfl (by omega) (by omega)) (aV ?_))))|refine nZ ?_));all_goals first | (exfalso;omega) | skip
      exact ⟨⟨t,by omega⟩,by dsimp only;omega,⟨[0],rfl,⟨rfl,rfl,by dsimp only;rw [← hJ];try rfl,trivial⟩,⟨.inr (aC rfl (by dsimp only;rw [← t2];try rfl) (bV _)),trivial⟩,by decide,lL⟩⟩
    · obtain rfl : t = i - a := by omega
      have ee : L9 P U v R (i - a) = P ++ (dY eN (U ++ [v]) ++ R) := by rw [hmg];unfold L9;simp
      have hJ1 : ¬ ((a + (i - a) : Nat) : Int) > (i : Int) := by omega
      generalize ((a + (i - a) : Nat) : Int) = J at *
      (repeat' (first|refine wS ?_|refine wR ?_|refine wE ?_|(refine wC rfl ?_ ?_<;>(intro hb;(try simp only [nm] at hb);try (exfalso;omega)))|(refine rg 21 (dK rfl (vV (fB rfl rfl) ?_)))|refine nZ ?_));all_goals first | (exfalso;omega) | exact ⟨.inl rfl,[0],_,rfl,rfl,rfl,⟨.inr (aC rfl (by rw [ee]) (bV _)),trivial⟩,by decide,lL⟩ | exact ⟨.inr rfl,[0],_,rfl,rfl,rfl,⟨.inr (aC rfl (by rw [ee]) (bV _)),trivial⟩,by decide,lL⟩
end Go.Proofs.YtmmmeebiobjnbaaGreat
namespace Go.Ld
open Go.Ab Go.Proofs.YtmmmeebiobjnbaaGreat
theorem zF7 {P U V R : List W} {a m b mid n lo hi s : Nat} (ha : a = P.length) (hm : m = a + U.length) (hb : b = m + V.length) (hmid : mid = (a + b) / 2) (hn : n = mid + m) (hU : Up U) (hV : Up V)
    (hc : mid < m ∧ lo = n - b ∧ hi = mid ∨ m ≤ mid ∧ lo = a ∧ hi = m) (hs1 : lo ≤ s) (hs2 : s ≤ hi)
    (h1 : ∀ x y,lo < s → (P ++ (U ++ (V ++ R)))[s - 1]? = some x → (P ++ (U ++ (V ++ R)))[n - s]? = some y → ¬ eN y x < 0)
    (h2 : ∀ x y,s < hi → (P ++ (U ++ (V ++ R)))[s]? = some x → (P ++ (U ++ (V ++ R)))[n - 1 - s]? = some y → eN y x < 0) :
    ∃ X1 X2 Y1 Y2,U = X1 ++ X2 ∧ V = Y1 ++ Y2 ∧ s = a + X1.length ∧ n = (m + Y1.length) + s ∧ mid = a + X1.length + Y1.length ∧ dY eN (U ++ V) = dY eN (X1 ++ Y1) ++ dY eN (X2 ++ Y2) := by
  have f1 : a ≤ s ∧ s ≤ m ∧ m + s ≤ n ∧ n ≤ b + s := by rcases hc with ⟨c1,c2,c3⟩ | ⟨c1,c2,c3⟩ <;> omega
  obtain ⟨f1,f2,f3,f4⟩ := f1;refine ⟨U.take (s - a),U.drop (s - a),V.take (n - s - m),V.drop (n - s - m),by simp,by simp,by rw [bC];omega,by rw [bC];omega,by rw [bC,bC];omega,?_⟩
  refine yD2 hU hV (by omega) (by omega) (fun x y h0 hx hy => ?_) (fun x y h0 hx hy => ?_)
  · have i1 := (aB.1 hy).1;refine h1 x y (by rcases hc with ⟨c1,c2,c3⟩ | ⟨c1,c2,c3⟩ <;> omega) ?_ ?_
    · rw [zA9 (k := s - a - 1) (by omega) (by omega)];exact hx
    · rw [zA8 (k := n - s - m) (by omega) (by omega)];exact hy
  · have i1 := (aB.1 hx).1;refine h2 x y (by rcases hc with ⟨c1,c2,c3⟩ | ⟨c1,c2,c3⟩ <;> omega) ?_ ?_
    · rw [zA9 (k := s - a) (by omega) (by omega)];exact hx
    · rw [zA8 (k := n - s - m - 1) (by omega) (by omega)];exact hy
theorem yA2 {A B : List W} (h : Up (A ++ B)) : Up A := (eT.1 h).1
theorem yA1 {A B : List W} (h : Up (A ++ B)) : Up B := (eT.1 h).2.1
def bs (k : Nat) (l : List W) : List W := if h : l.length ≤ k ∨ k = 0 then dY eN l else dY eN (l.take k) ++ bs k (l.drop k)
  termination_by l.length
  decreasing_by simp only [dD];omega
theorem R5 {k : Nat} {l : List W} (h : l.length ≤ k) : bs k l = dY eN l := by unfold bs;rw [dif_pos (.inl h)]
theorem yD5 {k : Nat} {l : List W} (h : k < l.length) (h0 : 0 < k) : bs k l = dY eN (l.take k) ++ bs k (l.drop k) := by rw [bs,dif_neg (by omega)]
theorem BM {k : Nat} {a b : List W} (h : a.length = k) (h0 : 0 < k) : bs k (a ++ b) = dY eN a ++ bs k b := by
  subst h;cases b with
  | nil => rw [List.append_nil,R5 (aX _),R5 (bY _)];simp [dY]
  | cons x b => rw [yD5 (by simp) h0,wF,wH]
theorem zX8 (k : Nat) (l : List W) : (bs k l).length = l.length := by
  induction hn : l.length using Nat.strongRecOn generalizing l with
  | _ n ih =>
    unfold bs;split
    · rw [iQ,hn]
    · rw [aF,iQ,bC,ih (l.drop k).length (by rw [dD];omega) _ rfl,dD];omega
theorem IU (a b : List W) : dY eN (dY eN a ++ dY eN b) = dY eN (a ++ b) :=
  H6 ((dI _ _).trans ((dI _ _).append (dI _ _)).symm) (lP jF _)
end Go.Ld
namespace Go.Proofs.YtmmmeebiobjnbaaGreat
open Go Go.Ab Go.Ld
attribute [local irreducible] VC AW cE aU P9
set_option maxHeartbeats 4000000
theorem zQ7 : ∀ (k : Nat) (P U V R : List W) {a m b N : Nat},b - a ≤ k → 0 < U.length → 0 < V.length → a = P.length → m = a + U.length → b = m + V.length → N = b + R.length → N ≤ 100000 → Up U → Up V → (∀ w,w ∈ U → M1 w) → (∀ w,w ∈ V → M1 w) →
    aU Tryz.prog 148 [.sl 0 0 N 3,.i a,.i m,.i b,rR] [.arr (gB (P ++ (U ++ (V ++ R)))) 3] (.tup []) [.arr (gB (P ++ (dY eN (U ++ V) ++ R))) 3] := by
  intro k
  induction k with
  | zero => intros;exfalso;omega
  | succ k ih =>
    intro P U V R a m b N hk hU0 hV0 ha hm hb hN hl hU hV hwU hwV;by_cases hu1 : U.length = 1
    · obtain ⟨u,rfl⟩ := CQ.1 hu1;exact zT1 P u V R ha hm hb hN hl hV (hwU u (by simp)) hwV
    by_cases hv1 : V.length = 1
    · obtain ⟨v,rfl⟩ := CQ.1 hv1;exact zT0 P U v R ha hm hb hN hl (by omega) hU (hwV v (by simp)) hwU
    have hP : ((a : Int) + b) / 2 ^ (1 : Int).toNat = (((a + b) / 2 : Nat) : Int) := by rw [show (2 : Int) ^ (1 : Int).toNat = 2 from rfl];omega
    have hw1 : IntKind.u64.wrap ((a : Int) + b) = (a : Int) + b := IA (by omega) (by omega)
    have hw2 : IntKind.i64.wrap (((a + b) / 2 : Nat) : Int) = (((a + b) / 2 : Nat) : Int) := IntWalk.i64_in _ (by omega)
    obtain ⟨mid,hmid⟩ : ∃ mid,mid = (a + b) / 2 := ⟨_,rfl⟩;rw [← hmid] at hP hw2;have hD1 : ∀ i,a ≤ i → i < m → (P ++ (U ++ (V ++ R)))[i]? = U[i - a]? := fun i h1 h2 => zA9 (by omega) (by omega)
    have hD2 : ∀ i,m ≤ i → i < b → (P ++ (U ++ (V ++ R)))[i]? = V[i - m]? := fun i h1 h2 => zA8 (by omega) (by omega)
    have hcut : ∀ {lo hi s : Nat},_ := @zF7 P U V R a m b mid (mid + m);generalize hDe : P ++ (U ++ (V ++ R)) = D at *;refine bX T Tryz.func148 rfl rfl rfl rfl ?_;apply Go.Ab.cutT (T := ∀ lo hi : Nat,(mid < m ∧ lo = mid + m - b ∧ hi = mid ∨ m ≤ mid ∧ lo = a ∧ hi = m) → _)
    · intro rest;by_cases h : mid < m
      · obtain ⟨lo,hlo⟩ : ∃ lo : Nat,lo = mid + m - b := ⟨_,rfl⟩;obtain ⟨hi,hhi⟩ : ∃ hi : Nat,hi = mid := ⟨_,rfl⟩
        (repeat' (first|refine wS ?_|refine wB ?_|refine wK ?_|refine wU ?_|(refine wC rfl ?_ ?_<;>(intro hb;(try simp only [nm] at hb);try (exfalso;omega)))|(refine rg 0 (dK rfl (vV (cX rfl rfl (by omega) (by omega)) (vV (gR rfl rfl (by omega)) ?_))))|(refine rg 12 (dK rfl (vV (cX rfl rfl (by omega) (by omega)) (vV (gR rfl rfl (by omega)) ?_))))|(refine rg 24 (dK rfl (vV (cJ rfl rfl (by omega) (by omega)) (vV (jC yR rG rfl hw1) (vV (by exact hP ▸ uD rfl rfl (by decide) (by decide)) ?_))));refine vV (jC rG yR rfl hw2) (aV ?_))|(refine rg 25 (dK rfl (vV (cJ rfl rfl (by omega) (by omega)) (aV ?_))))|(refine rg 26 (uV ?_))|(refine rg 27 (dK rfl (vV (fB rfl rfl) ?_)))|(refine rg 28 (dK rfl (vV (cX rfl rfl (by omega) (by omega)) (aV ?_))))|(refine rg 29 (mW rfl (aV ?_)))|(refine rg 32 (mW rfl (vV (cX rfl rfl (by omega) (by omega)) (aV ?_))))|refine nZ ?_));all_goals first | (exfalso;omega) | exact eU [(0,.sl 0 0 N 3),(1,.i a),(2,.i m),(3,.i b),(4,rR),(18,.i mid),(19,.i ((mid : Int) + m)),(20,.i lo),(21,.i hi),(22,.i ((mid : Int) + m - 1))] [.arr (gB D) 3] ⟨[0],rfl,⟨rfl,rfl,rfl,rfl,rfl,rfl,rfl,by rw [show (lo : Int) = (mid : Int) + m - b by omega];rfl,by rw [hhi];rfl,rfl,trivial⟩,⟨.inr (aC rfl rfl (bV _)),trivial⟩,by decide,lL⟩ (rest.get lo hi (by omega))
      · obtain ⟨lo,hlo⟩ : ∃ lo : Nat,lo = a := ⟨_,rfl⟩;obtain ⟨hi,hhi⟩ : ∃ hi : Nat,hi = m := ⟨_,rfl⟩
        (repeat' (first|refine wS ?_|refine wB ?_|refine wK ?_|refine wU ?_|(refine wC rfl ?_ ?_<;>(intro hb;(try simp only [nm] at hb);try (exfalso;omega)))|(refine rg 0 (dK rfl (vV (cX rfl rfl (by omega) (by omega)) (vV (gR rfl rfl (by omega)) ?_))))|(refine rg 12 (dK rfl (vV (cX rfl rfl (by omega) (by omega)) (vV (gR rfl rfl (by omega)) ?_))))|(refine rg 24 (dK rfl (vV (cJ rfl rfl (by omega) (by omega)) (vV (jC yR rG rfl hw1) (vV (by exact hP ▸ uD rfl rfl (by decide) (by decide)) ?_))));refine vV (jC rG yR rfl hw2) (aV ?_))|(refine rg 25 (dK rfl (vV (cJ rfl rfl (by omega) (by omega)) (aV ?_))))|(refine rg 26 (uV ?_))|(refine rg 27 (dK rfl (vV (fB rfl rfl) ?_)))|(refine rg 30 (mW rfl (aV ?_)))|(refine rg 31 (mW rfl (aV ?_)))|(refine rg 32 (mW rfl (vV (cX rfl rfl (by omega) (by omega)) (aV ?_))))|refine nZ ?_));all_goals first | (exfalso;omega) | exact eU [(0,.sl 0 0 N 3),(1,.i a),(2,.i m),(3,.i b),(4,rR),(18,.i mid),(19,.i ((mid : Int) + m)),(20,.i lo),(21,.i hi),(22,.i ((mid : Int) + m - 1))] [.arr (gB D) 3] ⟨[0],rfl,⟨rfl,rfl,rfl,rfl,rfl,rfl,rfl,by rw [hlo];rfl,by rw [hhi];rfl,rfl,trivial⟩,⟨.inr (aC rfl rfl (bV _)),trivial⟩,by decide,lL⟩ (rest.get lo hi (by omega))
    intro lo hi hc;have hcut := fun s => @hcut lo hi s ha hm hb hmid rfl hU hV hc
    refine dC (X := {q : Nat × Nat // lo ≤ q.1 ∧ q.1 ≤ q.2 ∧ q.2 ≤ hi ∧ (∀ x y, lo < q.1 → D[q.1 - 1]? = some x → D[mid + m - q.1]? = some y → ¬ eN y x < 0) ∧ (∀ x y, q.2 < hi → D[q.2]? = some x → D[mid + m - 1 - q.2]? = some y → eN y x < 0)})
      (fun q => [(0,.sl 0 0 N 3),(1,.i a),(2,.i m),(3,.i b),(4,rR),(18,.i mid),(19,.i ((mid : Int) + m)),(20,.i q.1.1),(21,.i q.1.2),(22,.i ((mid : Int) + m - 1))]) (fun _ => [.arr (gB D) 3]) (fun q => q.1.2 - q.1.1) ⟨(lo,hi),by dsimp only;exact ⟨by omega,by omega,by omega,fun x y h => by omega,fun x y h => by omega⟩⟩
      ⟨[0],rfl,by (repeat (first | exact trivial | refine ⟨rfl,?_⟩)),⟨.inr (aC rfl rfl (bV _)),trivial⟩,by decide,lL⟩ ?_
    rintro ⟨⟨i,j⟩,h1,h2,h3,h4,h5⟩;dsimp only at h1 h2 h3 h4 h5 ⊢;have hlo : a ≤ lo ∧ hi ≤ m ∧ m ≤ mid + m - hi ∧ mid + m - lo ≤ b ∧ lo ≤ mid + m := by omega
    by_cases hij : i < j
    · clear hP hw1 hw2;have hP : ((i : Int) + j) / 2 ^ (1 : Int).toNat = (((i + j) / 2 : Nat) : Int) := by rw [show (2 : Int) ^ (1 : Int).toNat = 2 from rfl];omega
      have hw1 : IntKind.u64.wrap ((i : Int) + j) = (i : Int) + j := IA (by omega) (by omega)
      have hw2 : IntKind.i64.wrap (((i + j) / 2 : Nat) : Int) = (((i + j) / 2 : Nat) : Int) := IntWalk.i64_in _ (by omega)
      have hh : i ≤ (i + j) / 2 ∧ (i + j) / 2 < j := by omega
      generalize hq : (i + j) / 2 = q at *;obtain ⟨x,hx⟩ : ∃ x,U[q - a]? = some x := ⟨_,aA (by omega)⟩
      obtain ⟨y,hy⟩ : ∃ y,V[mid + m - 1 - q - m]? = some y := ⟨_,aA (by omega)⟩
      have wx := hwU x (aL hx);have wy := hwV y (aL hy);rw [← hD1 q (by omega) (by omega)] at hx
      rw [← hD2 (mid + m - 1 - q) (by omega) (by omega)] at hy
      have q1 := pM (j := (mid : Int) + m - 1 - q) hy (by omega)
      have q2 := pM (j := (q : Int)) hx rfl;have hc' := wY y x wy wx;by_cases h0 : eN y x < 0
      · generalize hz : eN y x = z at *
        (repeat' (first|refine wS ?_|refine wB ?_|refine wK ?_|(refine wC rfl ?_ ?_<;>(intro hb;(try simp only [nm] at hb);try (exfalso;omega)))|(refine rg 33 (dK rfl (vV (aJ rfl rfl) ?_)))|(refine rg 34 (dK rfl (vV (cJ rfl rfl (by omega) (by omega)) (vV (jC yR rG rfl hw1) (vV (by exact hP ▸ uD rfl rfl (by decide) (by decide)) ?_))));refine vV (jC rG yR rfl hw2) (aV ?_))|(refine cO (id := 35) 220 yM3 (rM 158 14) yM4 cW rfl (by decide +kernel) (dN rfl (dN rfl (dN rfl (dN rfl (dV rfl (cX rfl rfl (by omega) (by omega)) (dV rfl (by exact aO T rfl rfl rfl rfl rfl (by omega) (by omega)) ?_))))));refine dV rfl (by exact aN T rfl rfl (bP rfl q1) rfl) ?_;refine dN rfl (dN rfl (dV rfl (by exact aO T rfl rfl rfl rfl rfl (by omega) (by omega)) ?_));refine dV rfl (by exact aN T rfl rfl (bP rfl q2) rfl) ?_;refine dV rfl (kC (hc')) (dV rfl (aJ rfl rfl) (dV rfl (eM rfl) (dE ?_))))|(refine rg 37 (mW rfl (aV ?_)))|refine nZ ?_));all_goals first | (exfalso;omega) | skip
        exact ⟨⟨(i,q),by dsimp only;exact ⟨by omega,by omega,by omega,h4,fun x' y' _ hx' hy' => by rw [hx] at hx';rw [hy] at hy';cases hx';cases hy';omega⟩⟩,by dsimp only;omega,⟨[0],rfl,by (repeat (first | exact trivial | refine ⟨rfl,?_⟩)),⟨.inr (aC rfl rfl (bV _)),trivial⟩,by decide,lL⟩⟩
      · generalize hz : eN y x = z at *
        (repeat' (first|refine wS ?_|refine wB ?_|refine wK ?_|(refine wC rfl ?_ ?_<;>(intro hb;(try simp only [nm] at hb);try (exfalso;omega)))|(refine rg 33 (dK rfl (vV (aJ rfl rfl) ?_)))|(refine rg 34 (dK rfl (vV (cJ rfl rfl (by omega) (by omega)) (vV (jC yR rG rfl hw1) (vV (by exact hP ▸ uD rfl rfl (by decide) (by decide)) ?_))));refine vV (jC rG yR rfl hw2) (aV ?_))|(refine cO (id := 35) 220 yM3 (rM 158 14) yM4 cW rfl (by decide +kernel) (dN rfl (dN rfl (dN rfl (dN rfl (dV rfl (cX rfl rfl (by omega) (by omega)) (dV rfl (by exact aO T rfl rfl rfl rfl rfl (by omega) (by omega)) ?_))))));refine dV rfl (by exact aN T rfl rfl (bP rfl q1) rfl) ?_;refine dN rfl (dN rfl (dV rfl (by exact aO T rfl rfl rfl rfl rfl (by omega) (by omega)) ?_));refine dV rfl (by exact aN T rfl rfl (bP rfl q2) rfl) ?_;refine dV rfl (kC (hc')) (dV rfl (aJ rfl rfl) (dV rfl (eM rfl) (dE ?_))))|(refine iA 36 rfl rfl rfl (by omega) (by omega) ?_)|refine nZ ?_));all_goals first | (exfalso;omega) | skip
        exact ⟨⟨(q + 1,j),by dsimp only;exact ⟨by omega,by omega,by omega,fun x' y' _ hx' hy' => by rw [show q + 1 - 1 = q by omega,hx] at hx';rw [show mid + m - (q + 1) = mid + m - 1 - q by omega,hy] at hy';cases hx';cases hy';omega,h5⟩⟩,by dsimp only;omega,⟨[0],rfl,by (repeat (first | exact trivial | refine ⟨rfl,?_⟩)),⟨.inr (aC rfl rfl (bV _)),trivial⟩,by decide,lL⟩⟩
    · obtain rfl : i = j := by omega
      obtain ⟨X1,X2,Y1,Y2,rfl,rfl,e1,e2,e3,hsrt⟩ := hcut i (by omega) (by omega) h4 h5
      clear hcut h4 h5 hD1 hD2 hP hw1 hw2;rw [hsrt];obtain ⟨e,he⟩ : ∃ e,e = m + Y1.length := ⟨_,rfl⟩;simp only [aF] at hm hb hU0 hV0 hu1 hv1;have uX1 := yA2 hU;have uX2 := yA1 hU;have uY1 := yA2 hV;have uY2 := yA1 hV;have w1 := ih P X1 Y1 (X2 ++ (Y2 ++ R)) (a := a) (m := i) (b := mid) (N := N);have w2 := ih (P ++ dY eN (X1 ++ Y1)) X2 Y2 R (a := mid) (m := e) (b := b) (N := N);have hsl : (dY eN (X1 ++ Y1)).length = X1.length + Y1.length := by rw [iQ,aF]
      have w0 := WO (P ++ X1) X2 Y1 (Y2 ++ R) (a := i) (m := m) (b := e) (N := N);simp only [aF,hsl] at w0 w1 w2;have c0 : i < m → m < e → _ := fun h h' => w0 (by omega) (by omega) (by omega) (by omega) hl (by omega) (by omega)
      have c1 : a < i → i < mid → _ := fun h h' => w1 (by omega) (by omega) (by omega) ha (by omega) (by omega) (by omega) hl uX1 uY1 (fun w hw => hwU w (by simp [hw])) (fun w hw => hwV w (by simp [hw]))
      have c2 : mid < e → e < b → _ := fun h h' => w2 (by omega) (by omega) (by omega) (by omega) (by omega) (by omega) (by omega) hl uX2 uY2 (fun w hw => hwU w (by simp [hw])) (fun w hw => hwV w (by simp [hw]))
      have d0 : ¬ (i < m ∧ m < e) → D = P ++ (X1 ++ (Y1 ++ (X2 ++ (Y2 ++ R)))) := fun h => by
        rw [← hDe];by_cases h' : X2.length = 0
        · rw [bZ h'];simp
        · rw [bZ (show Y1.length = 0 by omega)];simp
      have d1 : ¬ (a < i ∧ i < mid) → P ++ (X1 ++ (Y1 ++ (X2 ++ (Y2 ++ R)))) = P ++ (dY eN (X1 ++ Y1) ++ (X2 ++ (Y2 ++ R))) := fun h => by
        by_cases h' : X1.length = 0
        · rw [bZ h',List.nil_append,List.nil_append,T8 uY1]
        · rw [bZ (show Y1.length = 0 by omega),List.nil_append,List.append_nil,T8 uX1]
      have d2 : ¬ (mid < e ∧ e < b) → P ++ (dY eN (X1 ++ Y1) ++ (X2 ++ (Y2 ++ R))) = P ++ (dY eN (X1 ++ Y1) ++ dY eN (X2 ++ Y2) ++ R) := fun h => by
        by_cases h' : X2.length = 0
        · rw [bZ h',List.nil_append,List.nil_append,T8 uY2];simp
        · rw [bZ (show Y2.length = 0 by omega),List.nil_append,List.append_nil,T8 uX2];simp
      have g0 : (P ++ X1) ++ (X2 ++ (Y1 ++ (Y2 ++ R))) = D := by rw [← hDe];simp
      have g1 : (P ++ X1) ++ (Y1 ++ (X2 ++ (Y2 ++ R))) = P ++ (X1 ++ (Y1 ++ (X2 ++ (Y2 ++ R)))) := by simp
      have g2 : (P ++ dY eN (X1 ++ Y1)) ++ (X2 ++ (Y2 ++ R)) = P ++ (dY eN (X1 ++ Y1) ++ (X2 ++ (Y2 ++ R))) := by simp
      have g3 : (P ++ dY eN (X1 ++ Y1)) ++ (dY eN (X2 ++ Y2) ++ R) = P ++ (dY eN (X1 ++ Y1) ++ dY eN (X2 ++ Y2) ++ R) := by simp
      rw [g0,g1] at c0;rw [g2,g3] at c2;clear w0 w1 w2 ih g0 g1 g2 g3 hDe hwU hwV;generalize P ++ (dY eN (X1 ++ Y1) ++ dY eN (X2 ++ Y2) ++ R) = A3 at *;generalize P ++ (dY eN (X1 ++ Y1) ++ (X2 ++ (Y2 ++ R))) = A2 at *;generalize P ++ (X1 ++ (Y1 ++ (X2 ++ (Y2 ++ R)))) = A1 at *;apply Go.Ab.cutT
      · intro rest;by_cases h : i < m ∧ m < e
        · have hc' := c0 h.1 h.2;rw [show (e : Int) = (mid : Int) + m - i by omega] at hc'
          (repeat' (first|refine wS ?_|refine wE ?_|(refine wC rfl ?_ ?_<;>(intro hb;(try simp only [nm] at hb);try (exfalso;omega)))|(refine rg 33 (dK rfl (vV (aJ rfl rfl) ?_)))|(refine rg 38 (dK rfl (vV (cX rfl rfl (by omega) (by omega)) (aV ?_))))|(refine rg 39 (dK rfl (vV (aJ rfl rfl) (mV ?_)));refine bT rfl rfl ?_ ?_<;>(intro hb;rw [hb];(try simp only [nm] at hb);try (exfalso;omega));(all_goals (refine yN rfl (yN rfl (yV (aJ rfl rfl) (pV ?_))))))|(refine rg 40 (dK rfl (dK rfl (mW rfl (eA [0] rfl rfl (hc') rfl rfl (by decide) ⟨.inr (aC rfl rfl (bV _)),trivial⟩ (by simp) rfl ?_)))))|refine nZ ?_));all_goals first | (exfalso;omega) | exact eU [(0,.sl 0 0 N 3),(1,.i a),(3,.i b),(4,rR),(18,.i mid),(20,.i i),(24,.i e)] [.arr (gB A1) 3] ⟨[0],rfl,⟨rfl,rfl,rfl,rfl,rfl,rfl,by rw [show (e : Int) = (mid : Int) + m - i by omega];rfl,trivial⟩,⟨.inr (aC rfl (bE _ (bV _)) (bV _)),trivial⟩,by decide,lL⟩ rest.get
        · obtain rfl := d0 h
          (repeat' (first|refine wS ?_|refine wK ?_|refine wE ?_|refine wU ?_|(refine wC rfl ?_ ?_<;>(intro hb;(try simp only [nm] at hb);try (exfalso;omega)))|(refine rg 33 (dK rfl (vV (aJ rfl rfl) ?_)))|(refine rg 38 (dK rfl (vV (cX rfl rfl (by omega) (by omega)) (aV ?_))))|(refine rg 39 (dK rfl (vV (aJ rfl rfl) (mV ?_)));refine bT rfl rfl ?_ ?_<;>(intro hb;rw [hb];(try simp only [nm] at hb);try (exfalso;omega));(all_goals first|(refine gT (mW rfl (gT (mW rfl (gT (vV (aJ rfl rfl) ?_))))))|(iterate 3 refine gF ?_));(all_goals (refine pV ?_)))|refine nZ ?_));all_goals first | (exfalso;omega) | exact eU [(0,.sl 0 0 N 3),(1,.i a),(3,.i b),(4,rR),(18,.i mid),(20,.i i),(24,.i e)] [.arr (gB D) 3] ⟨[0],rfl,⟨rfl,rfl,rfl,rfl,rfl,rfl,by rw [show (e : Int) = (mid : Int) + m - i by omega];rfl,trivial⟩,⟨.inr (aC rfl rfl (bV _)),trivial⟩,by decide,lL⟩ rest.get
      clear c0 d0;apply Go.Ab.cutT
      · intro rest;by_cases h : a < i ∧ i < mid
        · have hc' := c1 h.1 h.2
          (repeat' (first|refine wS ?_|(refine wC rfl ?_ ?_<;>(intro hb;(try simp only [nm] at hb);try (exfalso;omega)))|(refine rg 41 (dK rfl (vV (aJ rfl rfl) (mV ?_)));refine bT rfl rfl ?_ ?_<;>(intro hb;rw [hb];(try simp only [nm] at hb);try (exfalso;omega));(all_goals (refine yN rfl (yN rfl (yV (aJ rfl rfl) (pV ?_))))))|(refine rg 42 (dK rfl (dK rfl (mW rfl (eA [0] rfl rfl (hc') rfl rfl (by decide) ⟨.inr (aC rfl rfl (bV _)),trivial⟩ (by simp) rfl ?_)))))|refine nZ ?_));all_goals first | (exfalso;omega) | exact eU [(0,.sl 0 0 N 3),(1,.i a),(3,.i b),(4,rR),(18,.i mid),(24,.i e)] [.arr (gB A2) 3] ⟨[0],rfl,(by repeat first|exact trivial|refine ⟨rfl,?_⟩),⟨.inr (aC rfl (bE _ (bV _)) (bV _)),trivial⟩,by decide,lL⟩ rest.get
        · obtain rfl := d1 h
          (repeat' (first|refine wS ?_|refine wK ?_|refine wU ?_|(refine wC rfl ?_ ?_<;>(intro hb;(try simp only [nm] at hb);try (exfalso;omega)))|(refine rg 41 (dK rfl (vV (aJ rfl rfl) (mV ?_)));refine bT rfl rfl ?_ ?_<;>(intro hb;rw [hb];(try simp only [nm] at hb);try (exfalso;omega));(all_goals first|(refine gT (mW rfl (gT (mW rfl (gT (vV (aJ rfl rfl) ?_))))))|(iterate 3 refine gF ?_));(all_goals (refine pV ?_)))|refine nZ ?_));all_goals first | (exfalso;omega) | exact eU [(0,.sl 0 0 N 3),(1,.i a),(3,.i b),(4,rR),(18,.i mid),(24,.i e)] [.arr (gB A1) 3] ⟨[0],rfl,(by repeat first|exact trivial|refine ⟨rfl,?_⟩),⟨.inr (aC rfl rfl (bV _)),trivial⟩,by decide,lL⟩ rest.get
      clear c1 d1;by_cases h : mid < e ∧ e < b
      · have hc' := c2 h.1 h.2
        (repeat' (first|(refine wC rfl ?_ ?_<;>(intro hb;(try simp only [nm] at hb);try (exfalso;omega)))|(refine rg 43 (dK rfl (vV (aJ rfl rfl) (mV ?_)));refine bT rfl rfl ?_ ?_<;>(intro hb;rw [hb];(try simp only [nm] at hb);try (exfalso;omega));(all_goals (refine yN rfl (yN rfl (yV (aJ rfl rfl) (pV ?_))))))|(refine rg 44 (dK rfl (dK rfl (mW rfl (eA [0] rfl rfl (hc') rfl rfl (by decide) ⟨.inr (aC rfl rfl (bV _)),trivial⟩ (by simp) rfl ?_)))))|refine nZ ?_));all_goals first | (exfalso;omega) | exact ⟨.inl rfl,[0],_,rfl,rfl,rfl,⟨.inr (aC rfl (bE _ (bV _)) (bV _)),trivial⟩,by decide,lL⟩ | exact ⟨.inr rfl,[0],_,rfl,rfl,rfl,⟨.inr (aC rfl (bE _ (bV _)) (bV _)),trivial⟩,by decide,lL⟩
      · obtain rfl := d2 h
        (repeat' (first|refine wK ?_|refine wU ?_|(refine wC rfl ?_ ?_<;>(intro hb;(try simp only [nm] at hb);try (exfalso;omega)))|(refine rg 43 (dK rfl (vV (aJ rfl rfl) (mV ?_)));refine bT rfl rfl ?_ ?_<;>(intro hb;rw [hb];(try simp only [nm] at hb);try (exfalso;omega));(all_goals first|(refine gT (mW rfl (gT (mW rfl (gT (vV (aJ rfl rfl) ?_))))))|(iterate 3 refine gF ?_));(all_goals (refine pV ?_)))|refine nZ ?_));all_goals first | (exfalso;omega) | exact ⟨.inl rfl,[0],_,rfl,rfl,rfl,⟨.inr (aC rfl rfl (bV _)),trivial⟩,by decide,lL⟩ | exact ⟨.inr rfl,[0],_,rfl,rfl,rfl,⟨.inr (aC rfl rfl (bV _)),trivial⟩,by decide,lL⟩
end Go.Proofs.YtmmmeebiobjnbaaGreat
namespace Go.Ld
open Go.Ab Go.Proofs.YtmmmeebiobjnbaaGreat
theorem PI {Q r1 r2 : List W} {a b : Nat} (ha : a = Q.length) (hb : b = a + r1.length) : UZ (Q ++ (r1 ++ r2)) a b = Q ++ (dY eN r1 ++ r2) := by
  subst ha hb;unfold UZ;rw [wF,wH,show Q.length + r1.length - Q.length = r1.length by omega,wF,← MI,wH,wH]
theorem QB {Q r1 r2 : List W} {w : W} (h : w ∈ (Q ++ dY eN r1) ++ r2) : w ∈ Q ++ (r1 ++ r2) := by
  rw [bW] at h;rcases bF.1 h with h | h
  · exact bF.2 (.inl h)
  · rcases bF.1 h with h | h
    · exact bF.2 (.inr (bF.2 (.inl ((dI _ _).mem_iff.1 h))))
    · exact bF.2 (.inr (bF.2 (.inr h)))
end Go.Ld
namespace Go.Proofs.YtmmmeebiobjnbaaGreat
open Go Go.Ab Go.Ld
attribute [local irreducible] VC AW cE aU
set_option maxHeartbeats 4000000
theorem VX (l : List W) {N : Nat} (hN : N = l.length) (hl : N ≤ 100000) (hw : ∀ w,w ∈ l → M1 w) :
    aU Tryz.prog 128 [.sl 0 0 N 3,.i N,rR] [.arr (gB l) 3] (.tup []) [.arr (gB (dY eN l)) 3] := by
  refine bX T Tryz.func128 rfl rfl rfl rfl ?_;apply Go.Ab.cutT
  · intro rest
    (repeat' (first|refine wS ?_|refine wB ?_|(refine rg 0 (aV ?_))|(refine rg 1 (mW rfl (uV ?_)))|refine nZ ?_));refine dC (X := {q : Nat × List W × List W // q.2.1.length = q.1 ∧ q.1 + q.2.2.length = N ∧ bs 20 l = q.2.1 ++ bs 20 q.2.2 ∧ ∀ w, w ∈ q.2.1 ++ q.2.2 → w ∈ l})
      (fun q => [(0,.sl 0 0 N 3),(1,.i N),(2,rR),(6,.i 20),(7,.i q.1.1),(8,.i ((q.1.1 : Int) + 20))]) (fun q => [.arr (gB (q.1.2.1 ++ q.1.2.2)) 3]) (fun q => q.1.2.2.length) ⟨(0,[],l),by simp;omega⟩
      ⟨[0],rfl,by (repeat (first | exact trivial | refine ⟨rfl,?_⟩)),⟨.inr (aC rfl rfl (bV _)),trivial⟩,by decide,lL⟩ ?_
    rintro ⟨⟨a,Q,r⟩,h1,h2,h3,h4⟩;dsimp only at h1 h2 h3 h4 ⊢;by_cases hlt : a + 20 ≤ N
    · obtain ⟨r1,r2,rfl,hr⟩ : ∃ r1 r2,r = r1 ++ r2 ∧ r1.length = 20 := ⟨r.take 20,r.drop 20,by simp,by simp;omega⟩
      rw [aF] at h2;have hc := KM (Q ++ (r1 ++ r2)) a (a + 20) (by omega) (by simp;omega) (by simp;omega) (fun w hw' => hw w (h4 w hw'))
      rw [PI h1.symm (by omega),show (Q ++ (r1 ++ r2)).length = N by simp;omega,show ((a + 20 : Nat) : Int) = (a : Int) + 20 by omega] at hc
      rw [BM hr (by omega)] at h3
      (repeat' (first|refine wS ?_|refine wB ?_|refine wK ?_|(refine wC rfl ?_ ?_<;>(intro hb;(try simp only [nm] at hb);try (exfalso;omega)))|(refine rg 2 (dK rfl (vV (iC rfl rfl) ?_)))|(refine rg 3 (dK rfl (dK rfl (eA [0] rfl rfl (hc) rfl rfl (by decide) ⟨.inr (aC rfl rfl (bV _)),trivial⟩ (by simp) rfl ?_))))|(refine rg 4 (mW rfl (aV ?_)))|(refine rg 5 (dK rfl (vV (cJ rfl rfl (by omega) (by omega)) (aV ?_))))|refine nZ ?_));all_goals first | (exfalso;omega) | skip
      exact ⟨⟨(a + 20,Q ++ dY eN r1,r2),by dsimp only;exact ⟨by rw [aF,iQ];omega,by omega,by rw [h3];simp,fun w hw' => h4 w (QB hw')⟩⟩,by dsimp only;rw [aF];omega,⟨[0],rfl,by (repeat (first | exact trivial | refine ⟨rfl,?_⟩)),⟨.inr (aC rfl (by rw [bE _ (bV _),bW]) (bV _)),trivial⟩,by decide,lL⟩⟩
    · have hc := KM (Q ++ (r ++ [])) a N (by omega) (by simp;omega) (by simp;omega) (fun w hw' => hw w (h4 w (by simpa using hw')))
      rw [PI h1.symm (by omega),List.append_nil,List.append_nil,show (Q ++ r).length = N by simp;omega,← R5 (k := 20) (by omega),← h3] at hc
      (repeat' (first|refine wS ?_|refine wB ?_|refine wE ?_|(refine wC rfl ?_ ?_<;>(intro hb;(try simp only [nm] at hb);try (exfalso;omega)))|(refine rg 2 (dK rfl (vV (iC rfl rfl) ?_)))|(refine rg 6 (dK rfl (dK rfl (eA [0] rfl rfl (hc) rfl rfl (by decide) ⟨.inr (aC rfl rfl (bV _)),trivial⟩ (by simp) rfl ?_))))|refine nZ ?_));all_goals first | (exfalso;omega) | exact eU [(0,.sl 0 0 N 3),(1,.i N),(2,rR),(6,.i 20)] [.arr (gB (bs 20 l)) 3] ⟨[0],rfl,by (repeat (first | exact trivial | refine ⟨rfl,?_⟩)),⟨.inr (aC rfl (bE _ (bV _)) (bV _)),trivial⟩,by decide,lL⟩ rest.get
  refine dC (X := {k : Nat // 20 ≤ k ∧ k ≤ 200000}) (fun k => [(0, .sl 0 0 N 3), (1, .i N), (2, rR), (6, .i k.1)]) (fun k => [.arr (gB (bs k.1 l)) 3]) (fun k => N - k.1) ⟨20, by omega, by omega⟩
    ⟨[0],rfl,by (repeat (first | exact trivial | refine ⟨rfl,?_⟩)),⟨.inr (aC rfl rfl (bV _)),trivial⟩,by decide,lL⟩ ?_
  rintro ⟨k,hk,hk2⟩;dsimp only;by_cases hkN : k < N
  · (repeat' (first|refine wS ?_|refine wB ?_|refine wK ?_|(refine wC rfl (fun hb => ?_) (fun hb => ?_) <;> (((try simp only [nm] at hb);try (exfalso;omega))))|(refine rg 7 (dK rfl (vV (aJ rfl rfl) ?_)))|(refine rg 8 (mW rfl (vV (B8 rfl rfl (by omega) (by omega)) (uV ?_))))|(refine nZ ?_)));all_goals try (exfalso;omega)
    refine dC (X := {q : Nat × List W × List W // q.2.1.length = q.1 ∧ q.1 + q.2.2.length = N ∧ bs (2 * k) l = q.2.1 ++ bs (2 * k) q.2.2 ∧ ∀ w, w ∈ q.2.1 ++ q.2.2 → w ∈ l})
      (fun q => [(0,.sl 0 0 N 3),(1,.i N),(2,rR),(6,.i k),(7,.i q.1.1),(8,.i ((q.1.1 : Int) + 2 * k))]) (fun q => [.arr (gB (q.1.2.1 ++ bs k q.1.2.2)) 3]) (fun q => q.1.2.2.length) ⟨(0,[],l),by simp;omega⟩
      ⟨[0],rfl,⟨rfl,rfl,rfl,rfl,rfl,by dsimp only;rw [show ((0 : Nat) : Int) + 2 * (k : Int) = 2 * k by omega];rfl,trivial⟩,⟨.inr (aC rfl rfl (bV _)),trivial⟩,by decide,lL⟩ ?_
    rintro ⟨⟨a,Q,r⟩,h1,h2,h3,h4⟩;dsimp only at h1 h2 h3 h4 ⊢;by_cases hlt : a + 2 * k ≤ N
    · obtain ⟨r1,r2,r3,rfl,hr1,hr2⟩ : ∃ r1 r2 r3,r = r1 ++ (r2 ++ r3) ∧ r1.length = k ∧ r2.length = k := ⟨r.take k,(r.drop k).take k,(r.drop k).drop k,by simp only [bQ],by simp;omega,by simp;omega⟩
      simp only [aF] at h2;have hc := zQ7 (2 * k) Q (dY eN r1) (dY eN r2) (bs k r3) (a := a) (m := a + k) (b := a + 2 * k) (N := N) (by omega) (by rw [iQ]; omega) (by rw [iQ]; omega) h1.symm (by rw [iQ]; omega) (by rw [iQ]; omega) (by rw [zX8]; omega) hl (lP jF _) (lP jF _)
        (fun w hw' => hw w (h4 w (by have := (dI eN _).mem_iff.1 hw';simp [this]))) (fun w hw' => hw w (h4 w (by have := (dI eN _).mem_iff.1 hw';simp [this])))
      rw [IU,← BM hr2 (by omega),← BM hr1 (by omega),show ((a + 2 * k : Nat) : Int) = (a : Int) + 2 * k by omega,show ((a + k : Nat) : Int) = (a : Int) + k by omega] at hc
      rw [← bW r1,BM (k := 2 * k) (by rw [aF];omega) (by omega)] at h3
      (repeat' (first|refine wS ?_|refine wB ?_|refine wK ?_|(refine wC rfl ?_ ?_<;>(intro hb;(try simp only [nm] at hb);try (exfalso;omega)))|(refine rg 9 (dK rfl (vV (iC rfl rfl) ?_)))|(refine rg 10 (dK rfl (dK rfl (vV (cJ rfl rfl (by omega) (by omega)) (dK rfl (eA [0] rfl rfl (hc) rfl rfl (by decide) ⟨.inr (aC rfl rfl (bV _)),trivial⟩ (by simp) rfl ?_))))))|(refine rg 11 (mW rfl (aV ?_)))|(refine rg 12 (dK rfl (vV (B8 rfl rfl (by omega) (by omega)) (vV (cJ rfl rfl (by omega) (by omega)) (aV ?_)))))|refine nZ ?_));all_goals first | (exfalso;omega) | skip
      exact ⟨⟨(a + 2 * k,Q ++ dY eN (r1 ++ r2),r3),by dsimp only;exact ⟨by rw [aF,iQ,aF];omega,by omega,by rw [h3];simp,fun w hw' => h4 w (by have := QB hw';rwa [bW] at this)⟩⟩,by dsimp only;simp only [aF];omega,⟨[0],rfl,by (repeat (first | exact trivial | refine ⟨rfl,?_⟩)),⟨.inr (aC rfl (by rw [bE _ (bV _),bW]) (bV _)),trivial⟩,by decide,lL⟩⟩
    · by_cases hm : a + k < N
      · obtain ⟨r1,r2,rfl,hr1⟩ : ∃ r1 r2,r = r1 ++ r2 ∧ r1.length = k := ⟨r.take k,r.drop k,by simp,by simp;omega⟩
        simp only [aF] at h2;have hc := zQ7 (2 * k) Q (dY eN r1) (dY eN r2) [] (a := a) (m := a + k) (b := N) (N := N) (by omega) (by rw [iQ]; omega) (by rw [iQ]; omega) h1.symm (by rw [iQ]; omega) (by rw [iQ]; omega) (by simp) hl (lP jF _) (lP jF _)
          (fun w hw' => hw w (h4 w (by have := (dI eN _).mem_iff.1 hw';simp [this]))) (fun w hw' => hw w (h4 w (by have := (dI eN _).mem_iff.1 hw';simp [this])))
        rw [IU,List.append_nil,List.append_nil,← R5 (k := 2 * k) (l := r1 ++ r2) (by rw [aF];omega),← h3,← R5 (k := k) (l := r2) (by omega),← BM hr1 (by omega),show ((a + k : Nat) : Int) = (a : Int) + k by omega] at hc
        (repeat' (first|refine wS ?_|refine wE ?_|(refine wC rfl ?_ ?_<;>(intro hb;(try simp only [nm] at hb);try (exfalso;omega)))|(refine rg 9 (dK rfl (vV (iC rfl rfl) ?_)))|(refine rg 13 (dK rfl (vV (cJ rfl rfl (by omega) (by omega)) (aV ?_))))|(refine rg 14 (dK rfl (vV (aJ rfl rfl) ?_)))|(refine rg 15 (dK rfl (dK rfl (mW rfl (eA [0] rfl rfl (hc) rfl rfl (by decide) ⟨.inr (aC rfl rfl (bV _)),trivial⟩ (by simp) rfl ?_)))))|(refine rg 16 (mW rfl (vV (B8 rfl rfl (by omega) (by omega)) (aV ?_))))|refine nZ ?_));all_goals first | (exfalso;omega) | skip
        exact ⟨⟨2 * k,by omega,by omega⟩,by dsimp only;omega,⟨[0],rfl,⟨rfl,rfl,rfl,by dsimp only;rw [show ((2 * k : Nat) : Int) = (k : Int) * 2 by omega];rfl,trivial⟩,⟨.inr (aC rfl (bE _ (bV _)) (bV _)),trivial⟩,by decide,lL⟩⟩
      · rw [R5 (k := 2 * k) (l := r) (by omega),← R5 (k := k) (l := r) (by omega)] at h3
        rw [← h3]
        (repeat' (first|refine wS ?_|refine wK ?_|refine wE ?_|(refine wC rfl ?_ ?_<;>(intro hb;(try simp only [nm] at hb);try (exfalso;omega)))|(refine rg 9 (dK rfl (vV (iC rfl rfl) ?_)))|(refine rg 13 (dK rfl (vV (cJ rfl rfl (by omega) (by omega)) (aV ?_))))|(refine rg 14 (dK rfl (vV (aJ rfl rfl) ?_)))|(refine rg 16 (mW rfl (vV (B8 rfl rfl (by omega) (by omega)) (aV ?_))))|refine nZ ?_));all_goals first | (exfalso;omega) | skip
        exact ⟨⟨2 * k,by omega,by omega⟩,by dsimp only;omega,⟨[0],rfl,⟨rfl,rfl,rfl,by dsimp only;rw [show ((2 * k : Nat) : Int) = (k : Int) * 2 by omega];rfl,trivial⟩,⟨.inr (aC rfl rfl (bV _)),trivial⟩,by decide,lL⟩⟩
  · rw [R5 (k := k) (l := l) (by omega)]
    (repeat' (first|refine wS ?_|refine wE ?_|(refine wC rfl ?_ ?_<;>(intro hb;(try simp only [nm] at hb);try (exfalso;omega)))|(refine rg 7 (dK rfl (vV (aJ rfl rfl) ?_)))|refine nZ ?_));all_goals first | (exfalso;omega) | exact ⟨.inl rfl,[0],_,rfl,rfl,rfl,⟨.inr (aC rfl rfl (bV _)),trivial⟩,by decide,lL⟩ | exact ⟨.inr rfl,[0],_,rfl,rfl,rfl,⟨.inr (aC rfl rfl (bV _)),trivial⟩,by decide,lL⟩
theorem zG1 (l : List W) {N : Nat} (hN : N = l.length) (hl : N ≤ 100000) (hw : ∀ w,w ∈ l → M1 w) :
    aU Tryz.prog 92 [.sl 0 0 N 3,rR] [.arr (gB l) 3] (.tup []) [.arr (gB (dY eN l)) 3] := by
  have hc := VX l hN hl hw;refine bX T Tryz.func92 rfl rfl rfl rfl ?_
  (repeat' (first|(refine rg 0 (dK rfl (qW T rfl (mW rfl (eA [0] rfl rfl (hc) rfl rfl (by decide) ⟨.inr (aC rfl rfl (bV _)),trivial⟩ (by simp) rfl ?_)))))|refine nZ ?_));all_goals first | (exfalso;omega) | exact ⟨.inl rfl,[0],_,rfl,rfl,rfl,⟨.inr (aC rfl (bE _ (bV _)) (bV _)),trivial⟩,by decide,lL⟩ | exact ⟨.inr rfl,[0],_,rfl,rfl,rfl,⟨.inr (aC rfl (bE _ (bV _)) (bV _)),trivial⟩,by decide,lL⟩
end Go.Proofs.YtmmmeebiobjnbaaGreat
namespace Go.Ld
open Go.Ab Go.Proofs.YtmmmeebiobjnbaaGreat
abbrev w0 : W := ([],0,[])
def zM (l : List W) : Nat → List W
  | 0 => []
  | m + 1 => if 0 < m ∧ E3 (l.getD m w0) (l.getD (m - 1) w0) = true then zM l m else zM l m ++ [l.getD m w0]
theorem OI {l : List W} {m : Nat} (h : 0 < m) (e : E3 (l.getD m w0) (l.getD (m - 1) w0) = true) : zM l (m + 1) = zM l m := by
  rw [zM,if_pos ⟨h,e⟩]
theorem OH {l : List W} {m : Nat} (e : E3 (l.getD m w0) (l.getD (m - 1) w0) = false) : zM l (m + 1) = zM l m ++ [l.getD m w0] := by
  rw [zM,if_neg (fun q => by rw [e] at q;cases q.2)]
theorem OG (l : List W) : zM l 1 = [l.getD 0 w0] := by
  rw [zM,if_neg (fun q => Nat.lt_irrefl _ q.1)];rfl
theorem EU (y : W) : ∀ (A : List W) (p : W), kN E3 p (A ++ [y]) = kN E3 p A ++ (if E3 y ((p :: A).getLastD w0) = true then [] else [y])
  | [],p => by
    show (if E3 y p = true then [] else [y]) = _
    simp [kN]
  | x :: A,p => by
    rw [List.cons_append,kN,kN,EU y A x];have e : ((p :: x :: A).getLastD w0) = ((x :: A).getLastD w0) := by simp [List.getLastD]
    rw [e];split <;> simp
theorem ZQ (y : W) (A : List W) (h : A ≠ []) : zL E3 (A ++ [y]) = zL E3 A ++ (if E3 y (A.getLastD w0) = true then [] else [y]) := by
  cases A with
  | nil => exact absurd rfl h
  | cons x A => rw [List.cons_append];show x :: kN E3 x (A ++ [y]) = _;rw [EU];rfl
theorem oP {l : List W} {m : Nat} (h : m < l.length) : l.getD m w0 = l[m] := by rw [aD,aA h];rfl
theorem QY (l : List W) : ∀ m, m ≤ l.length → zM l m = zL E3 (l.take m)
  | 0,_ => by rw [kP];rfl
  | m + 1,h => by
    have e : l.take (m + 1) = l.take m ++ [l.getD m w0] := by rw [oP (by omega),aP (by omega)]
    rcases L5 m with rfl | h0
    · rw [OG,e];rfl
    · have hne : l.take m ≠ [] := fun q => by have := congrArg List.length q;rw [bC,List.length_nil] at this;omega
      rw [e,ZQ _ _ hne,← QY l m (by omega)]
      have hl : (l.take m).getLastD w0 = l.getD (m - 1) w0 := by
        rw [List.getLastD_eq_getLast?,List.getLast?_eq_getElem?,bC,zY8 (by omega),List.getElem?_take_of_lt (by omega),aD]
      rw [hl];cases hq : E3 (l.getD m w0) (l.getD (m - 1) w0) with
      | true => rw [OI h0 hq,if_pos rfl,List.append_nil]
      | false => rw [OH hq,if_neg (by simp)]
theorem zX5 (l : List W) : zM l l.length = zL E3 l := by rw [QY l _ (aX _),cM]
theorem yJ3 {l : List W} {m i : Nat} (hm : m < l.length) (hi : i = m) : (gB l)[i]? = some (wA (l.getD m w0)) := by
  subst hi;simp [hm]
theorem OQ {G l : List W} {m : Nat} {i : Nat} (hg : G.length ≤ m) (hm : m < l.length) (hi : i = m) : (gB (G ++ l.drop G.length))[i]? = some (wA (l.getD m w0)) := by
  subst hi;rw [bL,aE hg,dU,show G.length + (i - G.length) = i by omega,aA hm,oP hm];rfl
theorem zT5 {G l : List W} {x : W} {j : Int} (h : G.length < l.length) (hj : j = G.length) : (gB (G ++ l.drop G.length)).set (0 + j.toNat) (wA x) = gB ((G ++ [x]) ++ l.drop (G ++ [x]).length) := by
  rw [wM (i := G.length) hj,aT h,nW _ _ _ _ rfl];simp
theorem TK {G l : List W} (h : G.length ≤ l.length) : (gB (G ++ l.drop G.length)).length = l.length := by simp;omega
theorem VP {G : List W} {l : List W} : (gB (G ++ l.drop G.length)).take (0 + (G.length : Int).toNat) = gB G := by
  rw [Nat.zero_add,bM,← kJ,wF]
end Go.Ld
namespace Go.Proofs.YtmmmeebiobjnbaaGreat
open Go Go.Ab Go.Ld
attribute [local irreducible] VC AW cE aU
set_option maxHeartbeats 4000000
abbrev yG3 : AV := .clo (.func 98) [] []
theorem OE (l : List W) (hl : l.length ≤ 1000000) (hw : ∀ w,w ∈ l → M1 w) : aU Tryz.prog 97 [.sl 0 0 l.length 3,yG3] [.arr (gB l) 3] (.sl 0 0 (zL E3 l).length 3) [.arr (gB (zL E3 l)) 3] := by
  rw [← zX5];have hll : (gB l).length = l.length := fH l;refine bX T Tryz.func97 rfl rfl rfl rfl ?_;by_cases h2 : l.length < 2
  · have hk : zM l l.length = l := by
      match l,h2 with
      | [],_ => rfl
      | [a],_ => exact OG _
      | _ :: _ :: _,h => exact absurd h (by simp)
    rw [hk]
    (repeat' (first|refine wS ?_|refine wR ?_|(refine wC rfl ?_ ?_<;>(intro hb;(try simp only [nm] at hb);try (exfalso;omega)))|(refine rg 0 (aV ?_))|(refine rg 1 (mW rfl (qW T rfl (vV (aJ rfl rfl) ?_))))|(refine rg 2 (mW rfl (aV ?_)))|refine nZ ?_));all_goals first | (exfalso;omega) | exact ⟨.inl rfl,[0],_,rfl,rfl,rfl,⟨.inr (aC rfl rfl (bV _)),trivial⟩,by decide,lL⟩
  · (repeat' (first|refine wS ?_|refine wB ?_|refine wK ?_|(refine wC rfl (fun hb => ?_) (fun hb => ?_) <;> (((try simp only [nm] at hb);try (exfalso;omega))))|(refine rg 0 (aV ?_))|(refine rg 1 (mW rfl (qW T rfl (vV (aJ rfl rfl) ?_))))|(refine rg 3 (aV ?_))|(refine nZ ?_)));all_goals try (exfalso;omega)
    refine dC (X := {k : Nat // 1 ≤ k ∧ k ≤ l.length ∧ zM l k = l.take k}) (fun k => [(0,.sl 0 0 l.length 3),(1,yG3),(5,.i k.1)]) (fun _ => [.arr (gB l) 3]) (fun k => l.length - k.1) ⟨1,by omega,by omega,by rw [OG,oP (by omega),aP (by omega)];rfl⟩ ⟨[0],rfl,by (repeat (first | exact trivial | refine ⟨rfl,?_⟩)),⟨.inr (aC rfl rfl (bV _)),trivial⟩,by decide,lL⟩ ?_
    rintro ⟨k,hk1,hk,hkc⟩;dsimp only;by_cases hlt : k < l.length
    · have e1 := yJ3 (i := 0 + (k : Int).toNat) hlt (by omega)
      have e2 := yJ3 (l := l) (m := k - 1) (i := 0 + ((k : Int) - 1).toNat) (by omega) (by omega)
      have hc := AI (l.getD k w0) (l.getD (k - 1) w0) (hw _ (by rw [oP hlt];exact aM _)) (hw _ (by rw [oP (by omega)];exact aM _))
      cases hd : E3 (l.getD k w0) (l.getD (k - 1) w0) with
      | true =>
        have hc1 := OI (l := l) hk1 hd;rw [hkc] at hc1;rw [hd] at hc;clear hd;generalize l.getD k w0 = a at *;generalize l.getD (k - 1) w0 = b at *
        (repeat' (first|refine wS ?_|refine wB ?_|refine wK ?_|refine wT ?_|(refine wC rfl ?_ ?_<;>(intro hb;(try simp only [nm] at hb);try (exfalso;omega)))|(refine rg 4 (dK rfl (qW T rfl (vV (aJ rfl rfl) ?_))))|(refine tH (id := 6) 10 66 yM5 yM6 (rM 18 10) yM7 cW rfl (by decide +kernel) (by decide +kernel) ?_;(dsimp only [List.take,List.drop]);refine dN rfl (dN rfl (dN rfl (dV rfl (by exact aO T rfl rfl rfl rfl rfl (by omega) (by omega)) ?_)));refine dV rfl (by exact aN T rfl rfl (bP rfl e1) rfl) ?_;refine dN rfl (dN rfl (dV rfl (cX rfl rfl (by omega) (by omega)) (dV rfl (by exact aO T rfl rfl rfl rfl rfl (by omega) (by omega)) ?_)));refine dV rfl (by exact aN T rfl rfl (bP rfl e2) rfl) ?_;refine dE ?_;refine iF ?_;refine vV (kC (hc)) ?_)|(refine rg 7 (dK rfl (vV (by exact jJ T rfl rfl rfl rfl rfl rfl (by omega) (by omega) (by omega)) ?_));refine aV ?_)|(refine rg 8 (aV ?_))|refine nZ ?_));all_goals try (exfalso;omega)
        have hl1 : (zM l (k + 1)).length = k := by rw [hc1];simp;omega
        refine dC (X := {j : Nat // 1 ≤ j ∧ k + j ≤ l.length ∧ (zM l (k + j)).length + 1 ≤ k + j}) (fun j => [(0,.sl 0 0 l.length 3),(1,yG3),(5,.i (zM l (k + j.1)).length),(6,.sl 0 (0 + (k : Int).toNat) ((l.length : Int) - (k : Int)).toNat 3),(7,.i j.1)]) (fun j => [.arr (gB (zM l (k + j.1) ++ l.drop (zM l (k + j.1)).length)) 3]) (fun j => l.length - (k + j.1)) ⟨1,by omega,by omega,by omega⟩ ⟨[0],rfl,⟨rfl,rfl,by dsimp only;rw [hl1];rfl,rfl,rfl,trivial⟩,⟨.inr (aC rfl (by dsimp only;rw [hl1,hc1,bQ]) (bV _)),trivial⟩,by decide,lL⟩ ?_
        clear e1 e2 hl1 hc1 hc a b;rintro ⟨j,hj1,hj,hjc⟩;dsimp only;by_cases hjl : k + j < l.length
        · have e1 := OQ (G := zM l (k + j)) (l := l) (m := k + j) (i := 0 + (k : Int).toNat + (j : Int).toNat) (by omega) hjl (by omega)
          have e2 := OQ (G := zM l (k + j)) (l := l) (m := k + j - 1) (i := 0 + (k : Int).toNat + ((j : Int) - 1).toNat) (by omega) (by omega) (by omega)
          have e3 := OQ (G := zM l (k + j)) (l := l) (m := (zM l (k + j)).length) (i := 0 + (((zM l (k + j)).length : Nat) : Int).toNat) (aX _) (by omega) (by omega)
          have hset := zT5 (G := zM l (k + j)) (l := l) (x := l.getD (k + j) w0) (j := (((zM l (k + j)).length : Nat) : Int)) (by omega) rfl
          have hal := TK (G := zM l (k + j)) (l := l) (by omega)
          have hdup := OI (l := l) (m := k + j) (by omega)
          have hnew := OH (l := l) (m := k + j);have hc := AI (l.getD (k + j) w0) (l.getD (k + j - 1) w0) (hw _ (by rw [oP hjl];exact aM _)) (hw _ (by rw [oP (by omega)];exact aM _))
          have hnl : ∀ G : List W,(G ++ [l.getD (k + j) w0]).length = G.length + 1 := fun G => by simp
          rw [show k + j + 1 = k + (j + 1) by omega] at hdup hnew
          generalize l.getD (k + j) w0 = a at *;generalize l.getD (k + j - 1) w0 = b at *;generalize l.getD (zM l (k + j)).length w0 = y at *;generalize zM l (k + j) = G at *;cases hd : E3 a b with
          | true =>
            have hdup := hdup hd;rw [hd] at hc;generalize hA : gB (G ++ l.drop G.length) = A at *
            (repeat' (first|refine wS ?_|refine wB ?_|refine wK ?_|refine wU ?_|(refine wC rfl ?_ ?_<;>(intro hb;(try simp only [nm] at hb);try (exfalso;omega)))|(refine rg 9 (dK rfl (qW T rfl (vV (aJ rfl rfl) ?_))))|(refine cO (id := 11) 66 yM8 (rM 38 12) yM9 cW rfl (by decide +kernel) (dN rfl (dN rfl (dN rfl (dV rfl (by exact aO T rfl rfl rfl rfl rfl (by omega) (by omega)) ?_))));refine dV rfl (by exact aN T rfl rfl (bP rfl e1) rfl) ?_;refine dN rfl (dN rfl (dV rfl (cX rfl rfl (by omega) (by omega)) (dV rfl (by exact aO T rfl rfl rfl rfl rfl (by omega) (by omega)) ?_)));refine dV rfl (by exact aN T rfl rfl (bP rfl e2) rfl) ?_;refine dV rfl (kC (hc)) (dV rfl (eM rfl) (dE ?_)))|(refine iA 10 rfl rfl rfl (by omega) (by omega) ?_)|refine nZ ?_));all_goals try (exfalso;omega)
            all_goals exact ⟨⟨j + 1,by omega,by omega,by rw [hdup];omega⟩,by dsimp only;omega,[0],rfl,⟨rfl,rfl,by dsimp only;rw [hdup];rfl,rfl,rfl,trivial⟩,⟨.inr (aC rfl (by dsimp only;rw [hdup];exact hA.symm) (bV _)),trivial⟩,by decide,lL⟩
          | false =>
            have hnew := hnew hd;have hgl := hnl G;rw [hd] at hc;generalize hA : gB (G ++ l.drop G.length) = A at *
            (repeat' (first|refine wS ?_|refine wB ?_|refine wK ?_|refine wT ?_|(refine wC rfl ?_ ?_<;>(intro hb;(try simp only [nm] at hb);try (exfalso;omega)))|(refine rg 9 (dK rfl (qW T rfl (vV (aJ rfl rfl) ?_))))|(refine cO (id := 11) 66 yM8 (rM 38 12) yM9 cW rfl (by decide +kernel) (dN rfl (dN rfl (dN rfl (dV rfl (by exact aO T rfl rfl rfl rfl rfl (by omega) (by omega)) ?_))));refine dV rfl (by exact aN T rfl rfl (bP rfl e1) rfl) ?_;refine dN rfl (dN rfl (dV rfl (cX rfl rfl (by omega) (by omega)) (dV rfl (by exact aO T rfl rfl rfl rfl rfl (by omega) (by omega)) ?_)));refine dV rfl (by exact aN T rfl rfl (bP rfl e2) rfl) ?_;refine dV rfl (kC (hc)) (dV rfl (eM rfl) (dE ?_)))|(refine rg 12 (dK rfl (dK rfl (vV (by exact aO T rfl rfl rfl rfl rfl (by omega) (by omega)) ?_)));refine vV (by exact aN T rfl rfl (bP rfl e1) rfl) ?_;refine vV (by exact aO T rfl rfl rfl rfl rfl (by omega) (by omega)) ?_;refine bA T rfl rfl rfl rfl rfl rfl (by decide) (mK rfl e3 rfl) ?_)|(refine iA 13 rfl rfl rfl (by omega) (by omega) ?_)|(refine iA 10 rfl rfl rfl (by omega) (by omega) ?_)|refine nZ ?_));all_goals try (exfalso;omega)
            all_goals exact ⟨⟨j + 1,by omega,by omega,by rw [hnew];omega⟩,by dsimp only;omega,[0],rfl,⟨rfl,rfl,by dsimp only;rw [hnew,hgl];rfl,rfl,rfl,trivial⟩,⟨.inr (aC rfl (by dsimp only;rw [hnew];exact hset) (bV _)),trivial⟩,by decide,lL⟩
        · have hkj : k + j = l.length := by omega
          have hcm : zM l l.length = zM l (k + j) := by rw [hkj]
          have hal := TK (G := zM l (k + j)) (l := l) (by omega)
          have htk := VP (G := zM l (k + j)) (l := l);rw [hcm];generalize zM l (k + j) = G at *
          (repeat' (first|refine wS ?_|refine wR ?_|refine wE ?_|(refine wC rfl ?_ ?_<;>(intro hb;(try simp only [nm] at hb);try (exfalso;omega)))|(refine rg 9 (dK rfl (qW T rfl (vV (aJ rfl rfl) ?_))))|(refine rg 14 (dK rfl (vV (by exact jJ T rfl rfl rfl rfl rfl rfl (by omega) (by omega) (by omega)) ?_));refine M2 T rfl rfl rfl ⟨rfl,rfl,by decide⟩ rfl (by rw [hal];omega) ?_)|(refine rg 15 (dK rfl (vV (by exact jJ T rfl rfl rfl rfl rfl rfl (by omega) (by omega) (by omega)) ?_));refine aV ?_)|refine nZ ?_));all_goals try (exfalso;omega)
          all_goals exact ⟨.inl rfl,[0],_,rfl,(by show AV.sl 0 0 ((G.length : Int) - 0).toNat 3 = AV.sl 0 0 G.length 3;rw [show ((G.length : Int) - 0).toNat = G.length by omega]),rfl,⟨.inr (aC rfl htk (bV _)),trivial⟩,by decide,lL⟩
      | false =>
        have hnew := OH (l := l) hd;rw [hkc,oP hlt,← aP hlt] at hnew;rw [hd] at hc;clear hd;generalize l.getD k w0 = a at *;generalize l.getD (k - 1) w0 = b at *
        (repeat' (first|refine wS ?_|refine wB ?_|refine wK ?_|refine wU ?_|(refine wC rfl ?_ ?_<;>(intro hb;(try simp only [nm] at hb);try (exfalso;omega)))|(refine rg 4 (dK rfl (qW T rfl (vV (aJ rfl rfl) ?_))))|(refine tH (id := 6) 10 66 yM5 yM6 (rM 18 10) yM7 cW rfl (by decide +kernel) (by decide +kernel) ?_;(dsimp only [List.take,List.drop]);refine dN rfl (dN rfl (dN rfl (dV rfl (by exact aO T rfl rfl rfl rfl rfl (by omega) (by omega)) ?_)));refine dV rfl (by exact aN T rfl rfl (bP rfl e1) rfl) ?_;refine dN rfl (dN rfl (dV rfl (cX rfl rfl (by omega) (by omega)) (dV rfl (by exact aO T rfl rfl rfl rfl rfl (by omega) (by omega)) ?_)));refine dV rfl (by exact aN T rfl rfl (bP rfl e2) rfl) ?_;refine dE ?_;refine iF ?_;refine vV (kC (hc)) ?_)|(refine iA 5 rfl rfl rfl (by omega) (by omega) ?_)|refine nZ ?_));all_goals try (exfalso;omega)
        all_goals exact ⟨⟨k + 1,by omega,hlt,hnew⟩,by dsimp only;omega,[0],rfl,by (repeat (first | exact trivial | refine ⟨rfl,?_⟩)),⟨.inr (aC rfl rfl (bV _)),trivial⟩,by decide,lL⟩
    · obtain rfl : k = l.length := by omega
      have hcm : zM l l.length = l := by rw [hkc,cM]
      rw [hcm]
      (repeat' (first|refine wS ?_|refine wR ?_|refine wE ?_|(refine wC rfl ?_ ?_<;>(intro hb;(try simp only [nm] at hb);try (exfalso;omega)))|(refine rg 4 (dK rfl (qW T rfl (vV (aJ rfl rfl) ?_))))|(refine rg 16 (mW rfl (aV ?_)))|refine nZ ?_));all_goals first | (exfalso;omega) | exact ⟨.inl rfl,[0],_,rfl,rfl,rfl,⟨.inr (aC rfl rfl (bV _)),trivial⟩,by decide,lL⟩
theorem LM (l : List W) (hl : l.length ≤ 1000000) : aU Tryz.prog 91 [.rowE (gB l) 3] [] (.sl 0 0 l.length 3) [.arr (gB l) 3] := by
  have hll : (gB l).length = l.length := fH l;refine bX T Tryz.func91 rfl rfl rfl rfl ?_
  repeat' (first|refine wS ?_|refine wK ?_|refine wT ?_|refine wU ?_|(refine rg 0 (aV ?_))|(refine rg 1 (mV ?_);refine sN T rfl rfl rfl rfl fun b hb=>?_;cases b)|refine nZ ?_)
  · (repeat' (first|refine wR ?_|(refine rg 3 (cH (by exact bD T rfl rfl (by decide) (by decide) rfl rfl rfl) rfl ?_);refine mW rfl (fR T rfl rfl rfl rfl rfl rfl (by decide) (.row (pE l)) (zS2 l) (by simp;omega) (by simp;omega) rfl ?_);refine aV ?_)|(refine nZ ?_)));exact ⟨.inl rfl,[1],_,rfl,(by show AV.sl 1 0 (0 + (gB l).length) 3 = AV.sl 1 0 l.length 3;simp),rfl,⟨.inr (aC rfl rfl (bV _)),trivial⟩,by decide,CG⟩
  · have hl0 : l = [] := fA.1 (Classical.byContradiction fun h => by have := hb (by omega);cases this)
    subst hl0
    (repeat' (first|refine wR ?_|(refine rg 2 (vV (dJ rfl) (nG 2 3 rfl (by decide) ?_)))|refine nZ ?_));exact ⟨.inl rfl,[0],_,rfl,rfl,rfl,⟨.inr (aC rfl rfl (bV _)),trivial⟩,by decide,CG⟩
theorem gE : ∀ {es : List (List AV)}, (∀ e, e ∈ es → AV.idfL e = true) → AV.idfL es.flatten = true
  | [],_ => rfl
  | e :: es,h => by
    have h1 := h e aS;have h2 := gE (es := es) fun q hq => h q (aI _ hq);rw [eL];generalize es.flatten = F at *;clear h
    induction e with
    | nil => exact h2
    | cons x e ih =>
      simp only [List.cons_append,AV.idfL,aK] at h1 ⊢;exact ⟨h1.1,ih h1.2⟩
theorem DU (l : List W) (hl : l.length ≤ 100000) (hw : ∀ w,w ∈ l → M1 w) : aU Tryz.prog 64 [.rowE (gB l) 3] [] (.rowE (gB (gJ l)) 3) [] := by
  refine kE (by simp : (gJ l).length = (gB (gJ l)).length) (gE (bV _)) ?_
  have h1 := LM l (by omega)
  have h2 := zG1 l rfl hl hw;have h3 := OE (dY eN l) (by rw [iQ];omega) (fun w h => hw w ((dI _ _).mem_iff.1 h))
  rw [iQ] at h3;show aU _ _ _ _ (.sl 0 0 (zL E3 (dY eN l)).length 3) [.arr (gB (zL E3 (dY eN l))) 3];generalize zL E3 (dY eN l) = R at *;refine bX T Tryz.func64 rfl rfl rfl rfl ?_
  (repeat' (first|refine wS ?_|refine wR ?_|(refine rg 0 (aV ?_))|(refine rg 1 (mW rfl (cH (by exact fQ rfl rfl h1 (.inr ⟨rfl,rfl,by simp⟩)) rfl ?_));refine aV ?_)|(refine rg 2 (mW rfl (eA [0] rfl rfl (h2) rfl rfl (by decide) ⟨.inr (aC rfl (bE _ (bV _)) (bV _)),trivial⟩ (by simp) rfl ?_)))|(refine rg 3 (mW rfl (eA [0] rfl rfl (h3) rfl rfl (by decide) ⟨.inr (aC rfl (bE _ (bV _)) (bV _)),trivial⟩ (by simp) rfl ?_));refine aV ?_)|refine nZ ?_));all_goals exact ⟨.inl rfl,[0],_,rfl,rfl,rfl,⟨.inr (aC rfl (bE _ (bV _)) (bV _)),trivial⟩,by decide,fun i h => absurd h (eJ _)⟩
end Go.Proofs.YtmmmeebiobjnbaaGreat
namespace Go.Ab
open Go
mutual
def AV.pln : AV → Bool
  | .v _ => true
  | .any => true
  | .row .. => true
  | .mrow .. => true
  | .pr .. => true
  | .agg cs => AV.plnL cs
  | _ => false
def AV.plnL : List AV → Bool
  | [] => true
  | x :: l => AV.pln x && AV.plnL l
end
mutual
theorem RS {h : Hp} : ∀ (x : AV), x.pln = true → nN h x x
  | .v x,_ => .v x
  | .any,_ => .any
  | .row cs l s,_ => .row cs l s
  | .mrow ks vs,_ => .mrow ks vs
  | .pr cs o,_ => .pr cs o
  | .agg cs,e => .agg (kW cs (by simpa [AV.pln] using e))
  | .ptr ..,e | .ep ..,e | .sl ..,e | .mp ..,e | .tup ..,e | .clo ..,e | .cond ..,e | .ifc ..,e => by simp [AV.pln] at e
theorem kW {h : Hp} : ∀ (xs : List AV), AV.plnL xs = true → mC h xs xs
  | [],_ => .nil
  | x :: l,e => by
    simp only [AV.plnL,aK] at e;exact .cons (RS x e.1) (kW l e.2)
end
theorem Q0 : ∀ (a b : List AV), AV.plnL (a ++ b) = (AV.plnL a && AV.plnL b)
  | [],b => by simp [AV.plnL]
  | x :: a,b => by simp [AV.plnL,Q0 a b,Bool.and_assoc]
theorem qD {α : Type} {g : α → List AV} (hg : ∀ a, AV.plnL (g a) = true) : ∀ l : List α, AV.plnL (l.map g).flatten = true
  | [] => rfl
  | a :: l => by rw [List.map_cons,eL,Q0,hg a,qD hg l];rfl
theorem nU {h : Hp} {k n sz : Nat} {es : List (List AV)} (hk : h[k]? = some (.arr es sz)) (hn : n = es.length) (hp : AV.plnL es.flatten = true) : nN h (.sl k 0 n sz) (.rowE es sz) := by
  subst hn;refine nN.sl hk (by omega) ?_
  rw [lZ,cM];exact kW _ hp
end Go.Ab
namespace Go.Ld
open Go.Ab Go.Proofs.YtmmmeebiobjnbaaGreat
theorem hO (l : List SP) : (fL l).length = l.length := aY _
theorem fD (l : List SP) : ∀ e,e ∈ fL l → AV.idfL e = true := by intro e he;obtain ⟨i,_,rfl⟩ := bB.1 he;rfl
theorem DA (l : List SP) : (fL l).flatten.all AV.one = true := by
  induction l with
  | nil => rfl
  | cons x l ih => exact ih
theorem vB {l : List SP} {j : Int} {i : Nat} (h : i < l.length) (e : j = i) : (fL l)[j.toNat]? = some [AV.i (l.getD i (0,0)).1,AV.i (l.getD i (0,0)).2] := by
  subst e;rw [bM,bL,aA h,aD,aA h];rfl
theorem H5 {l : List SP} {j : Int} {i : Nat} (h : i < l.length) (e : j = i) : (fL l)[0 + j.toNat]? = some [AV.i (l.getD i (0,0)).1,AV.i (l.getD i (0,0)).2] := by
  rw [Nat.zero_add];exact vB h e
theorem Y3 {l : List SP} {j : Int} {i : Nat} {r : SP} (e : j = i) : (fL l).set (0 + j.toNat) [AV.i r.1,AV.i r.2] = fL (l.set i r) := by
  subst e;rw [Nat.zero_add,bM];show _ = List.map (fun p : SP => [AV.i p.1,AV.i p.2]) (l.set i r);rw [wG]
end Go.Ld
namespace Go.Proofs.YtmmmeebiobjnbaaGreat
open Go Go.Ab Go.Ld
attribute [local irreducible] VC AW cE aU
set_option maxHeartbeats 4000000
theorem kI (l : List Nat) : ∀ i : Nat,i < 0 → l[i]? = some i := fun i h => absurd h (eJ _)
theorem ZR (l : List SP) (hl : l.length ≤ 1000000) : aU Tryz.prog 124 [.rowE (fL l) 2] [] (.sl 0 0 l.length 2) [.arr (fL l) 2] := by
  have hll : (fL l).length = l.length := hO l;refine bX T Tryz.func124 rfl rfl rfl rfl ?_
  repeat' (first|refine wS ?_|refine wK ?_|refine wT ?_|refine wU ?_|(refine rg 0 (aV ?_))|(refine rg 1 (mV ?_);refine sN T rfl rfl rfl rfl fun b hb=>?_;cases b)|refine nZ ?_)
  · (repeat' (first|refine wR ?_|(refine rg 3 (cH (by exact bD T rfl rfl (by decide) (by decide) rfl rfl rfl) rfl ?_);refine mW rfl (fR T rfl rfl rfl rfl rfl rfl (by decide) (.row (lJ l)) (DA l) (by simp;omega) (by simp;omega) rfl ?_);refine aV ?_)|(refine nZ ?_)));exact ⟨.inl rfl,[1],_,rfl,(by show AV.sl 1 0 (0 + (fL l).length) 2 = AV.sl 1 0 l.length 2;simp),rfl,⟨.inr (aC rfl rfl (fD _)),trivial⟩,by decide,kI _⟩
  · have hl0 : l = [] := fA.1 (Classical.byContradiction fun h => by have := hb (by omega);cases this)
    subst hl0
    (repeat' (first|refine wR ?_|(refine rg 2 (vV (dJ rfl) (nG 2 2 rfl (by decide) ?_)))|refine nZ ?_));exact ⟨.inl rfl,[0],_,rfl,rfl,rfl,⟨.inr (aC rfl rfl (fD _)),trivial⟩,by decide,kI _⟩
theorem GZ (w : W) (hw : M1 w) : aU Tryz.prog 86 [MM w] [] (.agg [.sl 0 0 w.1.length 1,.i w.2.1,.sl 1 0 w.2.2.length 2]) [.arr (ints w.1) 1,.arr (fL w.2.2) 2] := by
  obtain ⟨p,m,c⟩ := w;have h1 := HB p (by have := hw.1;dsimp only at this;omega)
  have h2 := ZR c hw.2;dsimp only;refine bX T Tryz.func86 rfl rfl rfl rfl ?_
  (repeat' (first|refine wS ?_|refine wR ?_|(refine rg 0 (cH (cY rfl rfl) rfl (cH (cK T rfl) rfl ?_)))|(refine cO (id := 1) 12 [[],[0],[0,1],[],[3],[],[5],[0,1,2,5,6],rN 8] (rM 3 9) [[],[],[],[3,4,5],[3,4,5],rM 3 5,rM 3 5,[6,7],[]] cW rfl (by decide +kernel) (dP T rfl (dO T rfl (F9 rfl rfl rfl (by exact fQ rfl rfl h1 (.inr ⟨rfl,rfl,by simp⟩)) rfl ?_)));refine dP T rfl (dO T rfl (dP T rfl (dO T rfl (F9 rfl rfl rfl (by exact fQ rfl rfl h2 (.inr ⟨rfl,rfl,by simp⟩)) rfl ?_))));refine dV rfl (by exact eR T rfl rfl rfl rfl) ?_;refine dE ?_;refine bA T rfl rfl rfl rfl rfl rfl (by decide) rfl ?_)|refine nZ ?_));all_goals exact ⟨.inl rfl,[2,3],_,rfl,rfl,rfl,⟨.inr (aC rfl (bE _ (bN p)) (bN p)),.inr (aC rfl (bE _ (fD c)) (fD c)),trivial⟩,by decide,kI _⟩
theorem W8 {h : Hp} {k n : Nat} {l : List SP} (hk : h[k]? = some (.arr (fL l) 2)) (hn : n = l.length) : nN h (.sl k 0 n 2) (.rowE (fL l) 2) := nU hk (by rw [hn,hO]) (qD (fun _ => rfl) _)
theorem zW8 (w : W) {i k : Nat} (hw : M1 w) (hi : i < w.1.length) (hk : k < w.1.length) (hc : w.2.2.length = w.1.length) :
    aU Tryz.prog 63 [MM w,.i i,.i k] [] (.agg [.sl 0 0 w.1.length 1,.i w.2.1,.sl 1 0 w.2.2.length 2]) [.arr (ints (oS w i k).1) 1,.arr (fL (oS w i k).2.2) 2] := by
  have hcl := GZ w hw;obtain ⟨p,m,c⟩ := w;have hw1 := hw.1;have hw2 := hw.2;dsimp only at hi hk hc hcl hw1 hw2;have p1 := U9 (l := p) (j := (i : Int)) (i := i) 0 hi rfl;have p2 := U9 (l := p) (j := (k : Int)) (i := k) 0 hk rfl;have ps := QE (l := p) (j := (i : Int)) (i := i) (x := p.getD k 0) rfl;have p3 := U9 (l := p.set i (p.getD k 0)) (j := (k : Int)) (i := k) 0 (by simpa using hk) rfl
  have pt := QE (l := p.set i (p.getD k 0)) (j := (k : Int)) (i := k) (x := p.getD i 0) rfl;have c1 := H5 (l := c) (j := (i : Int)) (i := i) (by omega) rfl
  have c2 := H5 (l := c) (j := (k : Int)) (i := k) (by omega) rfl
  have cs := Y3 (l := c) (j := (i : Int)) (i := i) (r := c.getD k (0,0)) rfl;have c3 := H5 (l := c.set i (c.getD k (0,0))) (j := (k : Int)) (i := k) (by rw [gY];omega) rfl
  have ct := Y3 (l := c.set i (c.getD k (0,0))) (j := (k : Int)) (i := k) (r := c.getD i (0,0)) rfl;show aU _ _ _ _ _ [.arr (ints ((p.set i (p.getD k 0)).set k (p.getD i 0))) 1,.arr (fL ((c.set i (c.getD k (0,0))).set k (c.getD i (0,0)))) 2];have hlp : (ints p).length = p.length := dA _;have hlc : (fL c).length = c.length := hO _;dsimp only;refine bX T Tryz.func63 rfl rfl rfl rfl ?_
  (repeat' (first|refine wS ?_|(refine rg 0 (cH (cY rfl rfl) rfl (cH (cK T rfl) rfl ?_)))|(refine rg 1 (lW T rfl (cH (by exact fQ rfl rfl hcl (.inr ⟨rfl,rfl,by simp⟩)) rfl ?_));refine bA T rfl rfl rfl rfl rfl rfl (by decide) rfl ?_)|refine nZ ?_));refine eU [(1,.i i),(2,.i k),(3,.ptr 0 0),(6,.ptr 1 0)] [.cells [.sl 2 0 p.length 1,.i m,.sl 3 0 c.length 2],.cells [.nils,.i 0,.nils],.arr (ints p) 1,.arr (fL c) 2] ⟨[0,1,2,3],rfl,(by repeat first|exact trivial|refine ⟨rfl,?_⟩),⟨.inr rfl,.inr rfl,.inr (aC rfl (bE _ (bN p)) (bN p)),.inr (aC rfl (bE _ (fD c)) (fD c)),trivial⟩,by decide,kI _⟩ ?_
  rw [← ps] at p3 pt;rw [← cs] at c3 ct;generalize p.getD k 0 = x at *;generalize p.getD i 0 = y at *;generalize c.getD k (0,0) = r at *;generalize c.getD i (0,0) = q at *
  (repeat' (first|refine wS ?_|refine wR ?_|(refine nY (id := 2) 46 yN0 (rM 9 17) [[],[],[9,10],[9,10,11],[9,10,11],rM 9 5,rM 9 6,rM 9 6,rM 9 8,rM 9 6,rM 9 6,rM 9 11,rM 9 11,rM 9 13,rM 9 11,rM 9 11,[12,13,14],[12,13,14]] [(17,2)] cW rfl (by decide +kernel) (cP rfl rfl rfl rfl (by exact bG T rfl rfl rfl) ?_);refine cP rfl rfl rfl rfl (by exact aN T rfl rfl rfl rfl) ?_;refine cP rfl rfl rfl rfl (by exact bR rfl) ?_;refine cP rfl rfl rfl rfl (by exact bG T rfl rfl rfl) ?_;refine cP rfl rfl rfl rfl (by exact aN T rfl rfl rfl rfl) ?_;refine cP rfl rfl rfl rfl (by exact bR rfl) ?_;refine cP rfl rfl rfl rfl (by exact bG T rfl rfl rfl) ?_;refine cP rfl rfl rfl rfl (by exact aN T rfl rfl rfl rfl) ?_;refine cP rfl rfl rfl rfl (by exact bR rfl) ?_;refine cP rfl rfl rfl rfl (by exact aO T rfl rfl rfl rfl rfl (by omega) (by omega)) ?_;refine cP rfl rfl rfl rfl (by exact aN T rfl rfl (bP rfl p2) rfl) ?_;refine cP rfl rfl rfl rfl (by exact bG T rfl rfl rfl) ?_;refine cP rfl rfl rfl rfl (by exact aN T rfl rfl rfl rfl) ?_;refine cP rfl rfl rfl rfl (by exact bR rfl) ?_;refine cP rfl rfl rfl rfl (by exact aO T rfl rfl rfl rfl rfl (by omega) (by omega)) ?_;refine cP rfl rfl rfl rfl (by exact aN T rfl rfl (bP rfl p1) rfl) ?_;refine cP rfl rfl rfl rfl (by exact aO T rfl rfl rfl rfl rfl (by omega) (by omega)) ?_;refine xJ rfl rfl rfl rfl (aG rfl) T rfl rfl rfl rfl rfl rfl (by decide) (wO rfl p1 rfl) ?_;refine sD rfl rfl rfl (by exact rfl) ?_;refine vV (by exact aO T rfl rfl rfl rfl rfl (by omega) (by omega)) ?_;refine bA T rfl rfl rfl rfl rfl rfl (by decide) (mK rfl p3 rfl) ?_)|(refine nY (id := 3) 46 yN0 (rM 27 17) [[],[],[27,28],[27,28,29],[27,28,29],rM 27 5,rM 27 6,rM 27 6,rM 27 8,rM 27 6,rM 27 6,rM 27 11,rM 27 11,rM 27 13,rM 27 11,rM 27 11,[30,31,32],[30,31,32]] [(17,3)] cW rfl (by decide +kernel) (cP rfl rfl rfl rfl (by exact bG T rfl rfl rfl) ?_);refine cP rfl rfl rfl rfl (by exact aN T rfl rfl rfl rfl) ?_;refine cP rfl rfl rfl rfl (by exact bR rfl) ?_;refine cP rfl rfl rfl rfl (by exact bG T rfl rfl rfl) ?_;refine cP rfl rfl rfl rfl (by exact aN T rfl rfl rfl rfl) ?_;refine cP rfl rfl rfl rfl (by exact bR rfl) ?_;refine cP rfl rfl rfl rfl (by exact bG T rfl rfl rfl) ?_;refine cP rfl rfl rfl rfl (by exact aN T rfl rfl rfl rfl) ?_;refine cP rfl rfl rfl rfl (by exact bR rfl) ?_;refine cP rfl rfl rfl rfl (by exact aO T rfl rfl rfl rfl rfl (by omega) (by omega)) ?_;refine cP rfl rfl rfl rfl (by exact aN T rfl rfl (bP rfl c2) rfl) ?_;refine cP rfl rfl rfl rfl (by exact bG T rfl rfl rfl) ?_;refine cP rfl rfl rfl rfl (by exact aN T rfl rfl rfl rfl) ?_;refine cP rfl rfl rfl rfl (by exact bR rfl) ?_;refine cP rfl rfl rfl rfl (by exact aO T rfl rfl rfl rfl rfl (by omega) (by omega)) ?_;refine cP rfl rfl rfl rfl (by exact aN T rfl rfl (bP rfl c1) rfl) ?_;refine cP rfl rfl rfl rfl (by exact aO T rfl rfl rfl rfl rfl (by omega) (by omega)) ?_;refine xJ rfl rfl rfl rfl (aG rfl) T rfl rfl rfl rfl rfl rfl (by decide) (wO rfl c1 rfl) ?_;refine sD rfl rfl rfl (by exact rfl) ?_;refine vV (by exact aO T rfl rfl rfl rfl rfl (by omega) (by omega)) ?_;refine bA T rfl rfl rfl rfl rfl rfl (by decide) (mK rfl c3 rfl) ?_)|(refine rg 4 (vV (aN T rfl rfl rfl rfl) (bA T rfl rfl rfl rfl rfl rfl (by decide) rfl ?_)))|refine nZ ?_));all_goals exact ⟨.inl rfl,[2,3],_,rfl,rfl,rfl,⟨.inr (aC rfl pt (bN _)),.inr (aC rfl ct (fD _)),trivial⟩,by decide,kI _⟩
theorem zW9 (w : W) {i k : Nat} (hw : M1 w) (hi : i < w.1.length) (hk : k < w.1.length) (hc : w.2.2.length = w.1.length) : aU Tryz.prog 63 [MM w,.i i,.i k] [] (MM (oS w i k)) [] :=
  G5 (zW8 w hw hi hk hc) (.agg (.cons (uZ rfl (by simp [oS])) (.cons (.v _) (.cons (W8 rfl (by simp [oS])) .nil))))
theorem YC (a b : W) : aU Tryz.prog 134 [MM a,MM b] [] (.i (cI a.2.1 b.2.1)) [] := by
  have h := ET a.2.1 b.2.1;refine bX T Tryz.func134 rfl rfl rfl rfl ?_
  (repeat' (first|refine wS ?_|refine wR ?_|(refine rg 0 (cH (cY rfl rfl) rfl (cH (cY rfl rfl) rfl (aV ?_))))|(refine rg 1 (iP T rfl (iP T rfl (vV (kC (h)) (aV ?_)))))|refine nZ ?_));all_goals first | (exfalso;omega) | exact rQ
end Go.Proofs.YtmmmeebiobjnbaaGreat
namespace Go.Ld
open Go.Ab Go.Proofs.YtmmmeebiobjnbaaGreat
def tA {α : Type} (p : α → Bool) : List α → Nat → Int
  | [],_ => -1
  | x :: l,k => if p x = true then k else tA p l (k + 1)
theorem GJ {α : Type} {p : α → Bool} {l : List α} {k : Nat} (h : k < l.length) : tA p (l.drop k) k = if p l[k] = true then (k : Int) else tA p (l.drop (k + 1)) (k + 1) := by
  rw [aT h];rfl
theorem AS {α : Type} {p : α → Bool} {l : List α} {k : Nat} (h : l.length ≤ k) : tA p (l.drop k) k = -1 := by
  rw [cT h];rfl
theorem I8 {α : Type} (p : α → Bool) : ∀ (l : List α) (k : Nat), decide (tA p l k ≥ 0) = l.any p
  | [],k => by simp [tA]
  | x :: l,k => by
    unfold tA;split
    · rename_i h;simp [h]
    · rename_i h;rw [I8 p l (k + 1)];simp [h]
theorem EJ {α : Type} (p : α → Bool) : ∀ (l : List α) (k : Nat), tA p l k = match l.findIdx? p with
    | some i => ((k + i : Nat) : Int)
    | none => -1
  | [],k => by simp [tA]
  | x :: l,k => by
    unfold tA;rw [List.findIdx?_cons];by_cases h : p x = true
    · rw [if_pos h,if_pos h];simp
    · rw [if_neg h,if_neg h,EJ p l (k + 1)];cases l.findIdx? p with
      | none => rfl
      | some i => show ((k + 1 + i : Nat) : Int) = ((k + (i + 1) : Nat) : Int);omega
theorem qY (l : List G) : ∀ e,e ∈ kB l → e.length = 2 := by intro e he;obtain ⟨n,_,rfl⟩ := bB.1 he;rfl
theorem jH (l : List G) : (kB l).length = l.length := aY _
theorem YX (l : List G) : (kB l).flatten.all AV.one = true := by
  induction l with
  | nil => rfl
  | cons x l ih => exact ih
theorem eG (l : List G) : ∀ e,e ∈ kB l → AV.idfL e = true := by intro e he;obtain ⟨x,_,rfl⟩ := bB.1 he;rfl
end Go.Ld
namespace Go.Proofs.YtmmmeebiobjnbaaGreat
open Go Go.Ab Go.Ld
attribute [local irreducible] VC AW cE aU
set_option maxHeartbeats 4000000
abbrev VA (g : G) : AV := .agg (gA g)
theorem A0 {l : List W} {k : Nat} (h : k < l.length) : (gB l)[(k : Int).toNat]? = some (wA l[k]) := by simp [h]
theorem GN {l : List G} {k : Nat} (h : k < l.length) : (kB l)[(k : Int).toNat]? = some (gA l[k]) := by simp [h]
theorem QD {l : List Int} {k : Nat} (h : k < l.length) : (ints l)[(k : Int).toNat]? = some [AV.i l[k]] := by simp [h]
theorem YH {l : List W} {F : FuncId} {caps : List AV} {p : W → Bool} (hl : l.length ≤ 1000000) (hi : AV.idfL caps = true) (hF : ∀ x,x ∈ l → aU Tryz.prog F (.agg (wA x) :: caps) [] (.b (p x)) []) :
    aU Tryz.prog 135 [.rowE (gB l) 3,.clo (.func F) [] caps] [] (.i (tA p l 0)) [] := by
  have hlen : (gB l).length = l.length := aY _;refine bX T Tryz.func135 rfl rfl rfl rfl ?_
  (repeat' (first|refine wS ?_|refine wB ?_|(refine rg 0 (aV ?_))|(refine rg 1 (mW rfl (qW T rfl (mV ?_))))|refine nZ ?_));refine dC (X := {k : Nat // k ≤ l.length ∧ tA p l 0 = tA p (l.drop k) k}) (fun k => [(0,.rowE (gB l) 3),(1,.clo (.func F) [] caps),(7,.i (gB l).length),(8,.i k.1)]) (fun _ => []) (fun k => l.length - k.1) ⟨0,by simp,rfl⟩ ⟨[],rfl,⟨rfl,by rw [lB hi];rfl,rfl,rfl,trivial⟩,trivial,eP,fun _ h => absurd h (eJ _)⟩ ?_
  rintro ⟨k,hk,he⟩;dsimp only;by_cases hlt : k < l.length
  · have hc := hF l[k] (aM hlt);have hg := A0 (l := l) hlt;rw [GJ hlt] at he;generalize l[k] = y at *;cases hp : p y with
    | true =>
      rw [hp] at hc;rw [hp,if_pos rfl] at he
      (repeat' (first|refine wS ?_|refine wB ?_|refine wK ?_|refine wR ?_|refine wT ?_|(refine wC rfl ?_ ?_<;>(intro hb;(try simp only [nm] at hb);try (exfalso;omega)))|(refine rg 2 (vV (aJ rfl rfl) ?_))|(refine rg 3 (mW rfl (aV ?_)))|(refine rg 4 (dK rfl (mW rfl (vV (ix T rfl (by omega) (pE l) hg) (lW T rfl (vV (by exact fU rfl rfl hc rfl (by simp [AV.idfL,AV.idf,hi]) rfl) ?_))))))|(refine rg 5 (mW rfl (aV ?_)))|refine nZ ?_));all_goals first | (exfalso;omega) | exact dH (.inl rfl) rfl (by rw [he];rfl)
    | false =>
      rw [hp] at hc;rw [hp,if_neg (by simp)] at he
      (repeat' (first|refine wS ?_|refine wB ?_|refine wK ?_|refine wU ?_|(refine wC rfl ?_ ?_<;>(intro hb;(try simp only [nm] at hb);try (exfalso;omega)))|(refine rg 2 (vV (aJ rfl rfl) ?_))|(refine rg 3 (mW rfl (aV ?_)))|(refine rg 4 (dK rfl (mW rfl (vV (ix T rfl (by omega) (pE l) hg) (lW T rfl (vV (by exact fU rfl rfl hc rfl (by simp [AV.idfL,AV.idf,hi]) rfl) ?_))))))|(refine rg 6 (vV (cJ rfl rfl (by omega) (by omega)) (mV ?_)))|refine nZ ?_));all_goals first | (exfalso;omega) | exact ⟨⟨k + 1,hlt,he⟩,by dsimp only;omega,⟨[],rfl,⟨rfl,by rw [lB hi];rfl,rfl,rfl,trivial⟩,trivial,eP,fun _ h => absurd h (eJ _)⟩⟩
  · rw [AS (by omega)] at he
    (repeat' (first|refine wS ?_|refine wR ?_|refine wE ?_|(refine wC rfl ?_ ?_<;>(intro hb;(try simp only [nm] at hb);try (exfalso;omega)))|(refine rg 2 (vV (aJ rfl rfl) ?_))|(refine rg 7 (aV ?_))|refine nZ ?_));all_goals first | (exfalso;omega) | exact dH (.inl rfl) rfl (by rw [he];rfl)
theorem zV5 {l : List W} {F : FuncId} {caps : List AV} {p : W → Bool} (hl : l.length ≤ 1000000) (hi : AV.idfL caps = true) (hF : ∀ x,x ∈ l → aU Tryz.prog F (.agg (wA x) :: caps) [] (.b (p x)) []) :
    aU Tryz.prog 136 [.rowE (gB l) 3,.clo (.func F) [] caps] [] (.b (l.any p)) [] := by
  have hc := YH hl hi hF;rw [← I8 p l 0];refine bX T Tryz.func136 rfl rfl rfl rfl ?_
  (repeat' (first|refine wS ?_|refine wR ?_|(refine rg 0 (aV ?_))|(refine rg 1 (dK rfl (vV (by exact fU rfl rfl hc rfl (by simp [AV.idfL,AV.idf,hi]) rfl) ?_));refine vV (gV rfl rfl) (aV ?_))|refine nZ ?_));all_goals first | (exfalso;omega) | exact rQ
theorem zR1 {l : List G} {F : FuncId} {caps : List AV} {p : G → Bool} (hl : l.length ≤ 1000000) (hi : AV.idfL caps = true) (hF : ∀ x,x ∈ l → aU Tryz.prog F (.agg (gA x) :: caps) [] (.b (p x)) []) :
    aU Tryz.prog 84 [.rowE (kB l) 2,.clo (.func F) [] caps] [] (.i (tA p l 0)) [] := by
  have hlen : (kB l).length = l.length := aY _;refine bX T Tryz.func84 rfl rfl rfl rfl ?_
  (repeat' (first|refine wS ?_|refine wB ?_|(refine rg 0 (aV ?_))|(refine rg 1 (mW rfl (qW T rfl (mV ?_))))|refine nZ ?_));refine dC (X := {k : Nat // k ≤ l.length ∧ tA p l 0 = tA p (l.drop k) k}) (fun k => [(0,.rowE (kB l) 2),(1,.clo (.func F) [] caps),(7,.i (kB l).length),(8,.i k.1)]) (fun _ => []) (fun k => l.length - k.1) ⟨0,by simp,rfl⟩ ⟨[],rfl,⟨rfl,by rw [lB hi];rfl,rfl,rfl,trivial⟩,trivial,eP,fun _ h => absurd h (eJ _)⟩ ?_
  rintro ⟨k,hk,he⟩;dsimp only;by_cases hlt : k < l.length
  · have hc := hF l[k] (aM hlt);have hg := GN (l := l) hlt;rw [GJ hlt] at he;generalize l[k] = y at *;cases hp : p y with
    | true =>
      rw [hp] at hc;rw [hp,if_pos rfl] at he
      (repeat' (first|refine wS ?_|refine wB ?_|refine wK ?_|refine wR ?_|refine wT ?_|(refine wC rfl ?_ ?_<;>(intro hb;(try simp only [nm] at hb);try (exfalso;omega)))|(refine rg 2 (vV (aJ rfl rfl) ?_))|(refine rg 3 (mW rfl (aV ?_)))|(refine rg 4 (dK rfl (mW rfl (vV (ix T rfl (by omega) (qY l) hg) (lW T rfl (vV (by exact fU rfl rfl hc rfl (by simp [AV.idfL,AV.idf,hi]) rfl) ?_))))))|(refine rg 5 (mW rfl (aV ?_)))|refine nZ ?_));all_goals first | (exfalso;omega) | exact dH (.inl rfl) rfl (by rw [he];rfl)
    | false =>
      rw [hp] at hc;rw [hp,if_neg (by simp)] at he
      (repeat' (first|refine wS ?_|refine wB ?_|refine wK ?_|refine wU ?_|(refine wC rfl ?_ ?_<;>(intro hb;(try simp only [nm] at hb);try (exfalso;omega)))|(refine rg 2 (vV (aJ rfl rfl) ?_))|(refine rg 3 (mW rfl (aV ?_)))|(refine rg 4 (dK rfl (mW rfl (vV (ix T rfl (by omega) (qY l) hg) (lW T rfl (vV (by exact fU rfl rfl hc rfl (by simp [AV.idfL,AV.idf,hi]) rfl) ?_))))))|(refine rg 6 (vV (cJ rfl rfl (by omega) (by omega)) (mV ?_)))|refine nZ ?_));all_goals first | (exfalso;omega) | exact ⟨⟨k + 1,hlt,he⟩,by dsimp only;omega,⟨[],rfl,⟨rfl,by rw [lB hi];rfl,rfl,rfl,trivial⟩,trivial,eP,fun _ h => absurd h (eJ _)⟩⟩
  · rw [AS (by omega)] at he
    (repeat' (first|refine wS ?_|refine wR ?_|refine wE ?_|(refine wC rfl ?_ ?_<;>(intro hb;(try simp only [nm] at hb);try (exfalso;omega)))|(refine rg 2 (vV (aJ rfl rfl) ?_))|(refine rg 7 (aV ?_))|refine nZ ?_));all_goals first | (exfalso;omega) | exact dH (.inl rfl) rfl (by rw [he];rfl)
theorem zV9 {l : List G} {F : FuncId} {caps : List AV} {p : G → Bool} (hl : l.length ≤ 1000000) (hi : AV.idfL caps = true) (hF : ∀ x,x ∈ l → aU Tryz.prog F (.agg (gA x) :: caps) [] (.b (p x)) []) :
    aU Tryz.prog 66 [.rowE (kB l) 2,.clo (.func F) [] caps] [] (.b (l.any p)) [] := by
  have hc := zR1 hl hi hF;rw [← I8 p l 0];refine bX T Tryz.func66 rfl rfl rfl rfl ?_
  (repeat' (first|refine wS ?_|refine wR ?_|(refine rg 0 (aV ?_))|(refine rg 1 (dK rfl (vV (by exact fU rfl rfl hc rfl (by simp [AV.idfL,AV.idf,hi]) rfl) ?_));refine vV (gV rfl rfl) (aV ?_))|refine nZ ?_));all_goals first | (exfalso;omega) | exact rQ
theorem zR0 {l : List Int} {F : FuncId} {caps : List AV} {p : Int → Bool} (hl : l.length ≤ 1000000) (hi : AV.idfL caps = true) (hF : ∀ x,x ∈ l → aU Tryz.prog F (.i x :: caps) [] (.b (p x)) []) :
    aU Tryz.prog 54 [.rowE (ints l) 1,.clo (.func F) [] caps] [] (.i (tA p l 0)) [] := by
  have hlen : (ints l).length = l.length := aY _;refine bX T Tryz.func54 rfl rfl rfl rfl ?_
  (repeat' (first|refine wS ?_|refine wB ?_|(refine rg 0 (aV ?_))|(refine rg 1 (mW rfl (qW T rfl (mV ?_))))|refine nZ ?_));refine dC (X := {k : Nat // k ≤ l.length ∧ tA p l 0 = tA p (l.drop k) k}) (fun k => [(0,.rowE (ints l) 1),(1,.clo (.func F) [] caps),(7,.i (ints l).length),(8,.i k.1)]) (fun _ => []) (fun k => l.length - k.1) ⟨0,by simp,rfl⟩ ⟨[],rfl,⟨rfl,by rw [lB hi];rfl,rfl,rfl,trivial⟩,trivial,eP,fun _ h => absurd h (eJ _)⟩ ?_
  rintro ⟨k,hk,he⟩;dsimp only;by_cases hlt : k < l.length
  · have hc := hF l[k] (aM hlt);have hg := QD (l := l) hlt;rw [GJ hlt] at he;generalize l[k] = y at *;cases hp : p y with
    | true =>
      rw [hp] at hc;rw [hp,if_pos rfl] at he
      (repeat' (first|refine wS ?_|refine wB ?_|refine wK ?_|refine wR ?_|refine wT ?_|(refine wC rfl ?_ ?_<;>(intro hb;(try simp only [nm] at hb);try (exfalso;omega)))|(refine rg 2 (vV (aJ rfl rfl) ?_))|(refine rg 3 (mW rfl (aV ?_)))|(refine rg 4 (dK rfl (mW rfl (vV (ix T rfl (by omega) (eB l) hg) (lW T rfl (vV (by exact fU rfl rfl hc rfl (by simp [AV.idfL,AV.idf,hi]) rfl) ?_))))))|(refine rg 5 (mW rfl (aV ?_)))|refine nZ ?_));all_goals first | (exfalso;omega) | exact dH (.inl rfl) rfl (by rw [he];rfl)
    | false =>
      rw [hp] at hc;rw [hp,if_neg (by simp)] at he
      (repeat' (first|refine wS ?_|refine wB ?_|refine wK ?_|refine wU ?_|(refine wC rfl ?_ ?_<;>(intro hb;(try simp only [nm] at hb);try (exfalso;omega)))|(refine rg 2 (vV (aJ rfl rfl) ?_))|(refine rg 3 (mW rfl (aV ?_)))|(refine rg 4 (dK rfl (mW rfl (vV (ix T rfl (by omega) (eB l) hg) (lW T rfl (vV (by exact fU rfl rfl hc rfl (by simp [AV.idfL,AV.idf,hi]) rfl) ?_))))))|(refine rg 6 (vV (cJ rfl rfl (by omega) (by omega)) (mV ?_)))|refine nZ ?_));all_goals first | (exfalso;omega) | exact ⟨⟨k + 1,hlt,he⟩,by dsimp only;omega,⟨[],rfl,⟨rfl,by rw [lB hi];rfl,rfl,rfl,trivial⟩,trivial,eP,fun _ h => absurd h (eJ _)⟩⟩
  · rw [AS (by omega)] at he
    (repeat' (first|refine wS ?_|refine wR ?_|refine wE ?_|(refine wC rfl ?_ ?_<;>(intro hb;(try simp only [nm] at hb);try (exfalso;omega)))|(refine rg 2 (vV (aJ rfl rfl) ?_))|(refine rg 7 (aV ?_))|refine nZ ?_));all_goals first | (exfalso;omega) | exact dH (.inl rfl) rfl (by rw [he];rfl)
theorem zV8 {l : List Int} {F : FuncId} {caps : List AV} {p : Int → Bool} (hl : l.length ≤ 1000000) (hi : AV.idfL caps = true) (hF : ∀ x,x ∈ l → aU Tryz.prog F (.i x :: caps) [] (.b (p x)) []) :
    aU Tryz.prog 68 [.rowE (ints l) 1,.clo (.func F) [] caps] [] (.b (l.any p)) [] := by
  have hc := zR0 hl hi hF;rw [← I8 p l 0];refine bX T Tryz.func68 rfl rfl rfl rfl ?_
  (repeat' (first|refine wS ?_|refine wR ?_|(refine rg 0 (aV ?_))|(refine rg 1 (dK rfl (vV (by exact fU rfl rfl hc rfl (by simp [AV.idfL,AV.idf,hi]) rfl) ?_));refine vV (gV rfl rfl) (aV ?_))|refine nZ ?_));all_goals first | (exfalso;omega) | exact rQ
end Go.Proofs.YtmmmeebiobjnbaaGreat
namespace Go.Proofs.YtmmmeebiobjnbaaGreat
open Go Go.Ab Go.Ld Go.Lib Go.Sort Go.RowKit Go.Shelf
theorem R3 (d : List Value) (i j : Nat) (Z : List Value) (hij : i ≤ j) (hj : j ≤ d.length) (hZ : Z.length = j - i) :
    lay (lay d.toArray i (d.drop j)) (i + (d.length - j)) Z = (d.take i ++ d.drop j ++ Z).toArray := by
  apply Array.ext_getElem?;intro t;have l1 : (d.take i).length = i := by simp;omega
  have l2 : (d.drop j).length = d.length - j := by simp
  rw [lay_get? _ _ _ _ (by rw [lay_size];simp;omega),lay_get? _ _ _ _ (by rw [l2];simp;omega),show (d.take i ++ d.drop j ++ Z).toArray[t]? = (d.take i ++ d.drop j ++ Z)[t]? from iM]
  simp only [hZ,l2];by_cases c1 : t < i
  · rw [if_neg (by omega),if_neg (by omega),aH (by simp;omega),aH (by omega),cD,if_pos c1,iM]
  · by_cases c2 : t < i + (d.length - j)
    · rw [if_neg (by omega),if_pos (by omega),aH (by simp;omega),aE (by omega),l1]
    · rw [aE (by simp;omega)]
      simp only [aF,l1,l2];by_cases c3 : t < d.length
      · rw [if_pos (by omega)]
      · rw [if_neg (by omega),if_neg (by omega),Array.getElem?_eq_none (by simp;omega),cQ (by omega)]
set_option maxHeartbeats 4000000 in
set_option maxRecDepth 1000000 in
theorem zN9 (blk off cap len i j : Nat) (cs : List Value) (w : World) (hcl0 : cs.length = len * 2) (hH : Holds id w blk off cs.toArray) (h1 : ∀ u,u ∈ cs → u.oneCell' = true) (hcap : len ≤ cap) (hm : cap ≤ 9223372036854775807) (hij : i ≤ j) (hj : j ≤ len) :
    Calls Tryz.prog 139 #[.slice (some ⟨blk,off,none⟩) len cap,.int .i64 i,.int .i64 j] w fun e w' => e = .returned (.slice (some ⟨blk,off,none⟩) (len - (j - i)) cap) ∧ ∃ (q : Nat) (Z : List Value),Z.length = (j - i) * 2 ∧ w' = putRow id (Sort.ahead w q) blk off (cs.take (i * 2) ++ cs.drop (j * 2) ++ Z).toArray := by
  by_cases heq : i = j
  · subst heq;have h0 : Calls Tryz.prog 139 #[.slice (some ⟨blk,off,none⟩) len cap,.int .i64 i,.int .i64 i] w fun e w' => e = .returned (.slice (some ⟨blk,off,none⟩) len cap) ∧ w' = w := by
      clear hH h1
      go_enter Tryz.func139,Tryz.ntmps139
      go_wp2
      all_goals (go_ret;exact ⟨rfl,rfl⟩)
    refine h0.mono ?_;rintro e w' ⟨rfl,rfl⟩;refine ⟨by rw [dX,zD0],0,[],by simp,?_⟩
    rw [List.append_nil,bQ];exact (putRow_self id (Sort.ahead w' 0) blk off cs.toArray hH).symm
  · have hlt : i < j := by omega
    obtain ⟨inf,z,t1,t2,t3,t4,t5,t6,t7⟩ := T.tiOk 102 _ rfl;have t22 : Tryz.prog.underlying 103 = some (.slice 102) := T.elemOk _ _ rfl;have hzv : ∀ w,(zeroValue 102).run Tryz.prog w = .ok z w := fun w => by simp [zeroValue,typeInfo,t1,t4]
    have hz2 : z.cells.toList.length = 2 := by rw [t5];rfl
    have hz1 : ∀ u,u ∈ z.cells.toList → u.oneCell' = true := by rw [t5];exact bH.1 rfl
    obtain ⟨_,hZl⟩ := pZ (z := z.cells) rfl (by intro h;rw [h] at hz2;cases hz2) (j - i)
    rw [hz2] at hZl;have hji : len - (i + (len - j)) = j - i := by omega
    obtain ⟨Z,hZe⟩ : ∃ Z,Z = (Builtin.zeroCells z.cells (j - i)).toList := ⟨_,rfl⟩;rw [← hZe] at hZl;obtain ⟨news,hnews⟩ : ∃ news,news = cs.drop (j * 2) := ⟨_,rfl⟩;have hlen : news.length = (len - j) * 2 := by rw [hnews,dD];omega
    have hget : ∀ t,t < (len - j) * 2 → news[t]? = some (cs.toArray[j * 2 + t]!) := by
      intro t ht;rw [hnews,dU,getElem!_pos cs.toArray (j * 2 + t) (by simp;omega),zX,aA]
    obtain ⟨A,hA,hsrc⟩ : ∃ A : Addr,(if cap = j then some (⟨blk,off,none⟩ : Addr) else some ⟨blk,off + j * 2,none⟩) = some A ∧ Hid (∀ t u,news[t]? = some u → w.drew.cell? (A.add t) = some u) := by
      by_cases h : cap = j
      · refine ⟨⟨blk,off,none⟩,by simp [h],fun t u hu => ?_⟩
        have h0 : news.length = 0 := by rw [hlen];omega
        rw [fA.1 h0] at hu;simp at hu
      · refine ⟨⟨blk,off + j * 2,none⟩,by simp [h],fun t u hu => ?_⟩
        have ht : t < (len - j) * 2 := by
          have := (aB.1 hu).1
          rwa [hlen] at this
        rw [hget t ht] at hu;rw [Addr.add_lit,show off + j * 2 + t = off + (j * 2 + t) by omega]
        exact (hH (j * 2 + t) (by simp;omega)).1.trans hu
    have s1 : Hid (news.length = (len - j) * 2) := hlen;have s2 : Hid (∀ u ∈ news,u.oneCell' = true) := by
      intro u hu;rw [hnews] at hu;exact h1 u (dS hu)
    have s3 : Hid (∀ t,t < news.length → (w.drew.cell? ⟨blk,off + i * 2 + t,none⟩).isSome = true ∧ w.drew.frozen? ⟨blk,off + i * 2 + t,none⟩ = false) := by
      intro t ht;rw [hlen] at ht;rw [dR];exact ⟨by show (w.cell? _).isSome = true;rw [(hH (i * 2 + t) (by simp;omega)).1];rfl,(hH (i * 2 + t) (by simp;omega)).2⟩
    obtain ⟨W1,hW1⟩ : ∃ W1,W1 = w.drew.setCells blk (off + i * 2) news := ⟨_,rfl⟩;have hW1' : W1 = putRow id (Sort.ahead w 1) blk off (lay cs.toArray (i * 2) (cs.drop (j * 2))) := by
      have h := putRow_setCells id (Sort.ahead w 1) blk off (cs.drop (j * 2)) cs.toArray (i * 2) (by simp;omega)
      rw [S6,putRow_self id (Sort.ahead w 1) blk off cs.toArray (holds_ahead id w 1 blk off cs.toArray hH)] at h;rw [hW1,hnews];exact h
    have hH1 : Holds id W1 blk off (lay cs.toArray (i * 2) (cs.drop (j * 2))) := by rw [hW1'];exact holds_putRow id _ blk off cs.toArray _ (holds_ahead id w 1 blk off cs.toArray hH) (lay_size _ _ _)
    have hcl : ∀ ty,(Builtin.clear_ #[103] ty #[.slice (some ⟨blk,off + (i + (len - j)) * 2,none⟩) (len - (i + (len - j))) (cap - (i + (len - j)))]).run Tryz.prog W1 = .ok (.tuple #[]) (W1.setCells blk (off + (i + (len - j)) * 2) Z) :=
      fun ty => by
       rw [hZe,← hji];exact Z1 W1 _ _ ty z t22 hzv (by intro h; rw [h] at hz2; cases hz2) hz1 blk _ _ _ (by omega)
        (fun t ht => by rw [hz2] at ht;rw [dR,(hH1 _ (by rw [lay_size];simp;omega)).1];rfl) (fun t ht => by rw [hz2] at ht;rw [dR];exact (hH1 _ (by rw [lay_size];simp;omega)).2)
    have X : Aside (W1 = putRow id (Sort.ahead w 1) blk off (lay cs.toArray (i * 2) (cs.drop (j * 2)))) := hW1';have hW : Hid (W1 = w.drew.setCells blk (off + i * 2) news) := hW1;have mixed := cW;have hic : i ≤ cap := by omega
    have hjc : j ≤ cap := by omega
    clear hW1 hW1' hH1 hH hget hnews hlen hji hZe
    go_enter Tryz.func139,Tryz.ntmps139
    go_wp2_with fail
    go_region_law_o (refine step_append_room rfl (.tmp 22) (.tmp 25) 103 rfl 102 inf 2 t22 t1 t2 blk off i cap (by simp [Act.eval,Act.put]) A (len - j) (cap - j) news (by simp [Act.eval,Act.put]) s1.out hsrc.out s2.out (by omega) s3.out ?_;rw [← hW.out])
    go_wp2
    go_ret
    refine ⟨by rw [show len - (j - i) = i + (len - j) by omega];rfl,1,Z,hZl,?_⟩
    rw [X.out,← S6 Z,show off + (i + (len - j)) * 2 = off + (i * 2 + (cs.length - j * 2)) by omega,putRow_setCells id _ blk off _ _ _ (by rw [lay_size,nR];omega),S6,
      R3 cs (i * 2) (j * 2) _ (by omega) (by omega) (by omega)]
theorem zX3 (l : List SP) (i j : Nat) (hij : i ≤ j) (hj : j ≤ l.length) (hne : l ≠ []) :
    aU Tryz.prog 139 [.sl 0 0 l.length 2,.i (i : Int),.i (j : Int)] [.arr (fL l) 2] (.sl 0 0 (l.length - (j - i)) 2) [.arr (fL (l.take i ++ l.drop j)) 2] := by
  have h := E5 (sz := 2) ⟨_,Tryz.func139,by kernel_rfl,by kernel_rfl⟩ zN9 (fL l) (lJ l) (DA l) i j hij (by rw [aY];exact hj) (fun h => hne (mH.1 h))
  rw [aY,← kJ,← yH4,← bO] at h;exact h
set_option maxHeartbeats 4000000 in
set_option maxRecDepth 1000000 in
theorem zO0 (blk off cap len i j : Nat) (cs : List Value) (w : World) (hcl0 : cs.length = len * 2) (hH : Holds id w blk off cs.toArray) (h1 : ∀ u,u ∈ cs → u.oneCell' = true) (hcap : len ≤ cap) (hm : cap ≤ 9223372036854775807) (hij : i ≤ j) (hj : j ≤ len) :
    Calls Tryz.prog 83 #[.slice (some ⟨blk,off,none⟩) len cap,.int .i64 i,.int .i64 j] w fun e w' => e = .returned (.slice (some ⟨blk,off,none⟩) (len - (j - i)) cap) ∧ ∃ (q : Nat) (Z : List Value),Z.length = (j - i) * 2 ∧ w' = putRow id (Sort.ahead w q) blk off (cs.take (i * 2) ++ cs.drop (j * 2) ++ Z).toArray := by
  by_cases heq : i = j
  · subst heq;have h0 : Calls Tryz.prog 83 #[.slice (some ⟨blk,off,none⟩) len cap,.int .i64 i,.int .i64 i] w fun e w' => e = .returned (.slice (some ⟨blk,off,none⟩) len cap) ∧ w' = w := by
      clear hH h1
      go_enter Tryz.func83,Tryz.ntmps83
      go_wp2
      all_goals (go_ret;exact ⟨rfl,rfl⟩)
    refine h0.mono ?_;rintro e w' ⟨rfl,rfl⟩;refine ⟨by rw [dX,zD0],0,[],by simp,?_⟩
    rw [List.append_nil,bQ];exact (putRow_self id (Sort.ahead w' 0) blk off cs.toArray hH).symm
  · have hlt : i < j := by omega
    obtain ⟨inf,z,t1,t2,t3,t4,t5,t6,t7⟩ := T.tiOk 108 _ rfl;have t22 : Tryz.prog.underlying 98 = some (.slice 108) := T.elemOk _ _ rfl;have hzv : ∀ w,(zeroValue 108).run Tryz.prog w = .ok z w := fun w => by simp [zeroValue,typeInfo,t1,t4]
    have hz2 : z.cells.toList.length = 2 := by rw [t5];rfl
    have hz1 : ∀ u,u ∈ z.cells.toList → u.oneCell' = true := by rw [t5];exact bH.1 rfl
    obtain ⟨_,hZl⟩ := pZ (z := z.cells) rfl (by intro h;rw [h] at hz2;cases hz2) (j - i)
    rw [hz2] at hZl;have hji : len - (i + (len - j)) = j - i := by omega
    obtain ⟨Z,hZe⟩ : ∃ Z,Z = (Builtin.zeroCells z.cells (j - i)).toList := ⟨_,rfl⟩;rw [← hZe] at hZl;obtain ⟨news,hnews⟩ : ∃ news,news = cs.drop (j * 2) := ⟨_,rfl⟩;have hlen : news.length = (len - j) * 2 := by rw [hnews,dD];omega
    have hget : ∀ t,t < (len - j) * 2 → news[t]? = some (cs.toArray[j * 2 + t]!) := by
      intro t ht;rw [hnews,dU,getElem!_pos cs.toArray (j * 2 + t) (by simp;omega),zX,aA]
    obtain ⟨A,hA,hsrc⟩ : ∃ A : Addr,(if cap = j then some (⟨blk,off,none⟩ : Addr) else some ⟨blk,off + j * 2,none⟩) = some A ∧ Hid (∀ t u,news[t]? = some u → w.drew.cell? (A.add t) = some u) := by
      by_cases h : cap = j
      · refine ⟨⟨blk,off,none⟩,by simp [h],fun t u hu => ?_⟩
        have h0 : news.length = 0 := by rw [hlen];omega
        rw [fA.1 h0] at hu;simp at hu
      · refine ⟨⟨blk,off + j * 2,none⟩,by simp [h],fun t u hu => ?_⟩
        have ht : t < (len - j) * 2 := by
          have := (aB.1 hu).1
          rwa [hlen] at this
        rw [hget t ht] at hu;rw [Addr.add_lit,show off + j * 2 + t = off + (j * 2 + t) by omega]
        exact (hH (j * 2 + t) (by simp;omega)).1.trans hu
    have s1 : Hid (news.length = (len - j) * 2) := hlen;have s2 : Hid (∀ u ∈ news,u.oneCell' = true) := by
      intro u hu;rw [hnews] at hu;exact h1 u (dS hu)
    have s3 : Hid (∀ t,t < news.length → (w.drew.cell? ⟨blk,off + i * 2 + t,none⟩).isSome = true ∧ w.drew.frozen? ⟨blk,off + i * 2 + t,none⟩ = false) := by
      intro t ht;rw [hlen] at ht;rw [dR];exact ⟨by show (w.cell? _).isSome = true;rw [(hH (i * 2 + t) (by simp;omega)).1];rfl,(hH (i * 2 + t) (by simp;omega)).2⟩
    obtain ⟨W1,hW1⟩ : ∃ W1,W1 = w.drew.setCells blk (off + i * 2) news := ⟨_,rfl⟩;have hW1' : W1 = putRow id (Sort.ahead w 1) blk off (lay cs.toArray (i * 2) (cs.drop (j * 2))) := by
      have h := putRow_setCells id (Sort.ahead w 1) blk off (cs.drop (j * 2)) cs.toArray (i * 2) (by simp;omega)
      rw [S6,putRow_self id (Sort.ahead w 1) blk off cs.toArray (holds_ahead id w 1 blk off cs.toArray hH)] at h;rw [hW1,hnews];exact h
    have hH1 : Holds id W1 blk off (lay cs.toArray (i * 2) (cs.drop (j * 2))) := by rw [hW1'];exact holds_putRow id _ blk off cs.toArray _ (holds_ahead id w 1 blk off cs.toArray hH) (lay_size _ _ _)
    have hcl : ∀ ty,(Builtin.clear_ #[98] ty #[.slice (some ⟨blk,off + (i + (len - j)) * 2,none⟩) (len - (i + (len - j))) (cap - (i + (len - j)))]).run Tryz.prog W1 = .ok (.tuple #[]) (W1.setCells blk (off + (i + (len - j)) * 2) Z) :=
      fun ty => by
       rw [hZe,← hji];exact Z1 W1 _ _ ty z t22 hzv (by intro h; rw [h] at hz2; cases hz2) hz1 blk _ _ _ (by omega)
        (fun t ht => by rw [hz2] at ht;rw [dR,(hH1 _ (by rw [lay_size];simp;omega)).1];rfl) (fun t ht => by rw [hz2] at ht;rw [dR];exact (hH1 _ (by rw [lay_size];simp;omega)).2)
    have X : Aside (W1 = putRow id (Sort.ahead w 1) blk off (lay cs.toArray (i * 2) (cs.drop (j * 2)))) := hW1';have hW : Hid (W1 = w.drew.setCells blk (off + i * 2) news) := hW1;have mixed := cW;have hic : i ≤ cap := by omega
    have hjc : j ≤ cap := by omega
    clear hW1 hW1' hH1 hH hget hnews hlen hji hZe
    go_enter Tryz.func83,Tryz.ntmps83
    go_wp2_with fail
    go_region_law_o (refine step_append_room rfl (.tmp 22) (.tmp 25) 98 rfl 108 inf 2 t22 t1 t2 blk off i cap (by simp [Act.eval,Act.put]) A (len - j) (cap - j) news (by simp [Act.eval,Act.put]) s1.out hsrc.out s2.out (by omega) s3.out ?_;rw [← hW.out])
    go_wp2
    go_ret
    refine ⟨by rw [show len - (j - i) = i + (len - j) by omega];rfl,1,Z,hZl,?_⟩
    rw [X.out,← S6 Z,show off + (i + (len - j)) * 2 = off + (i * 2 + (cs.length - j * 2)) by omega,putRow_setCells id _ blk off _ _ _ (by rw [lay_size,nR];omega),S6,
      R3 cs (i * 2) (j * 2) _ (by omega) (by omega) (by omega)]
theorem zX4 (l : List G) (i j : Nat) (hij : i ≤ j) (hj : j ≤ l.length) (hne : l ≠ []) :
    aU Tryz.prog 83 [.sl 0 0 l.length 2,.i (i : Int),.i (j : Int)] [.arr (kB l) 2] (.sl 0 0 (l.length - (j - i)) 2) [.arr (kB (l.take i ++ l.drop j)) 2] := by
  have h := E5 (sz := 2) ⟨_,Tryz.func83,by kernel_rfl,by kernel_rfl⟩ zO0 (kB l) (qY l) (YX l) i j hij (by rw [aY];exact hj) (fun h => hne (mH.1 h))
  rw [aY,← kJ,← yH4,← bO] at h;exact h
end Go.Proofs.YtmmmeebiobjnbaaGreat
namespace Go.Proofs.YtmmmeebiobjnbaaGreat
open Go Go.Ab Go.Shelf Go.Proofs
shelf_lay Lays2.n23 Nm2 23 at Tryz as laysDelete
theorem ZN (l : List Int) (i j : Nat) (hij : i ≤ j) (hj : j ≤ l.length) (hne : l ≠ []) :
    aU Tryz.prog 138 [.sl 0 0 l.length 1,.i (i : Int),.i (j : Int)] [.arr (ints l) 1] (.sl 0 0 (l.length - (j - i)) 1) [.arr (ints (l.take i ++ l.drop j)) 1] :=
  HM ⟨_,Tryz.func138,by kernel_rfl,by kernel_rfl⟩ (fun blk off cap i j zs w h1 h2 h3 h4 h5 => Any.slices_Delete_int laysDelete blk off cap i j zs w h1 h2 h3 h4 h5) l i j hij hj hne
end Go.Proofs.YtmmmeebiobjnbaaGreat
namespace Go.Ld
open Go.Ab Go.Proofs.YtmmmeebiobjnbaaGreat
abbrev gG (q : W → Bool) (l : List W) : List W := l.filter fun x => !q x
theorem xB {q : W → Bool} {l : List W} {k : Nat} (h : k < l.length) : gG q (l.take (k + 1)) = if q l[k] then gG q (l.take k) else gG q (l.take k) ++ [l[k]] := by
  unfold gG;rw [aP h,tV];cases e : q l[k] <;> simp [e]
theorem KL (q : W → Bool) (l : List W) (k : Nat) : (gG q (l.take k)).length ≤ k := bK (fG _ _) (by simp;omega)
theorem B7 {α : Type} (p : α → Bool) : ∀ (l : List α) (k : Nat), (tA p l k = -1 ∧ ∀ x, x ∈ l → p x = false) ∨ ∃ (j : Nat) (hj : j < l.length), tA p l k = ((k + j : Nat) : Int) ∧ p l[j] = true ∧ ∀ x, x ∈ l.take j → p x = false
  | [],k => .inl ⟨rfl,fun x hx => by cases hx⟩
  | y :: l,k => by
    unfold tA;cases hp : p y with
    | true => exact .inr ⟨0,by simp,by rw [if_pos rfl];rfl,by simpa using hp,fun x hx => by simp at hx⟩
    | false =>
      rw [if_neg (by simp)]
      rcases B7 p l (k + 1) with ⟨h1,h2⟩ | ⟨j,hj,h1,h2,h3⟩
      · refine .inl ⟨h1,fun x hx => ?_⟩
        rcases bU.1 hx with rfl | hx
        · exact hp
        · exact h2 x hx
      · refine .inr ⟨j + 1,by simp;omega,by rw [h1];omega,by simpa using h2,fun x hx => ?_⟩
        rw [oJ] at hx;rcases bU.1 hx with rfl | hx
        · exact hp
        · exact h3 x hx
def N7 (m x : W) : W := if x.2.1 < m.2.1 then x else m
theorem KE : ∀ (l : List W) (f : W), (l.foldl N7 f).2.1 = l.foldl (fun m x => if x.2.1 < m then x.2.1 else m) f.2.1
  | [],_ => rfl
  | x :: l,f => by
    rw [D3,D3,KE l];congr 1;unfold N7;split <;> rfl
theorem UD {l : List W} {f : W} {k : Nat} (h : k < l.length) : (l.take (k + 1)).foldl N7 f = N7 ((l.take k).foldl N7 f) l[k] := by
  rw [aP h,zD7];rfl
end Go.Ld
namespace Go.Proofs.YtmmmeebiobjnbaaGreat
open Go Go.Ab Go.Ld
attribute [local irreducible] VC AW cE aU
set_option maxHeartbeats 4000000
theorem zZ4 {F : FuncId} {caps : List AV} {q : W → Bool} (l : List W) (hl : l.length ≤ 1000000) (hi : AV.idfL caps = true) (hp : AV.plnL caps = true) (hF : ∀ x,x ∈ l → aU Tryz.prog F (.agg (wA x) :: caps) [] (.b (q x)) []) :
    aU Tryz.prog 100 [.sl 0 0 l.length 3,.clo (.func F) [] caps] [.arr (gB l) 3] (.sl 0 0 (gG q l).length 3) [.arr (gB (gG q l)) 3] := by
  have hll : (gB l).length = l.length := fH l;have hix := YH hl hi hF;have hvw : nN [.arr (gB l) 3] (.sl 0 0 l.length 3) (.rowE (gB l) 3) := nU rfl hll.symm (qD (fun _ => rfl) _);refine bX T Tryz.func100 rfl rfl rfl rfl ?_;rcases B7 q l 0 with ⟨h1,h2⟩ | ⟨j,hj,h1,h2,h3⟩
  · rw [h1] at hix;have hk : gG q l = l := oK.2 fun x hx => by rw [h2 x hx];rfl
    rw [hk]
    (repeat' (first|refine wS ?_|refine wR ?_|refine wT ?_|(refine rg 0 (aV ?_))|(refine rg 1 (dK rfl (vV (by exact eW rfl rfl hix (.cons hvw (.cons (.clo .nil (kW _ hp)) .nil)) rfl rfl) ?_));refine aV ?_)|(refine rg 2 (mW rfl (vV (eX rfl rfl) ?_)))|(refine rg 3 (mW rfl (aV ?_)))|refine nZ ?_));all_goals first | (exfalso;omega) | exact ⟨.inl rfl,[0],_,rfl,rfl,rfl,⟨.inr (aC rfl rfl (bV _)),trivial⟩,by decide,lL⟩
  · rw [h1,Nat.zero_add] at hix;have hk0 : gG q (l.take (j + 1)) = l.take j := by
      rw [xB hj,if_pos h2];exact oK.2 fun x hx => by rw [h3 x hx];rfl
    have hkl : (gG q (l.take (j + 1))).length = j := by rw [hk0];simp;omega
    have hka : gG q (l.take (j + 1)) ++ l.drop (gG q (l.take (j + 1))).length = l := by rw [hkl,hk0,bQ]
    have hkf : gG q l = gG q (l.take l.length) := by rw [cM]
    rw [hkf]
    (repeat' (first|refine wS ?_|refine wB ?_|refine wK ?_|refine wU ?_|(refine rg 0 (aV ?_))|(refine rg 1 (dK rfl (vV (by exact eW rfl rfl hix (.cons hvw (.cons (.clo .nil (kW _ hp)) .nil)) rfl rfl) ?_));refine aV ?_)|(refine rg 2 (mW rfl (vV (eX rfl rfl) ?_)))|(refine iA 4 rfl rfl rfl (by omega) (by omega) ?_)|refine nZ ?_));all_goals try (exfalso;omega)
    refine dC (X := {m : Nat // m ≤ l.length}) (fun m => [(0,.sl 0 0 l.length 3),(1,.clo (.func F) [] caps),(5,.i (gG q (l.take m.1)).length),(6,.i m.1)]) (fun m => [.arr (gB (gG q (l.take m.1) ++ l.drop (gG q (l.take m.1)).length)) 3]) (fun m => l.length - m.1) ⟨j + 1,hj⟩ ⟨[0],rfl,⟨rfl,by rw [lB hi];rfl,by dsimp only;rw [hkl];rfl,rfl,trivial⟩,⟨.inr (aC rfl (by dsimp only;rw [hka]) (bV _)),trivial⟩,by decide,lL⟩ ?_
    rintro ⟨m,hm⟩;dsimp only;have hle := KL q l m;by_cases hlt : m < l.length
    · have hs := xB (q := q) hlt;have hget := OQ (G := gG q (l.take m)) (l := l) (m := m) (i := 0 + (m : Int).toNat) hle hlt (by omega)
      have hg2 := OQ (G := gG q (l.take m)) (l := l) (m := (gG q (l.take m)).length) (i := 0 + (((gG q (l.take m)).length : Nat) : Int).toNat) (aX _) (by omega) (by omega)
      rw [oP hlt] at hget;have hset := zT5 (G := gG q (l.take m)) (l := l) (x := l[m]) (j := (((gG q (l.take m)).length : Nat) : Int)) (by omega) rfl
      have hc := hF l[m] (aM hlt);have hal := TK (G := gG q (l.take m)) (l := l) (by omega)
      generalize l[m] = x at *;generalize l.getD (gG q (l.take m)).length w0 = y at *;generalize hG : gG q (l.take m) = G at *;generalize hA : gB (G ++ l.drop G.length) = A at *;cases e : q x
      · rw [e] at hc hs;rw [if_neg (by simp)] at hs
        (repeat' (first|refine wS ?_|refine wB ?_|refine wK ?_|refine wT ?_|(refine wC rfl ?_ ?_<;>(intro hb;(try simp only [nm] at hb);try (exfalso;omega)))|(refine rg 5 (dK rfl (qW T rfl (vV (aJ rfl rfl) ?_))))|(refine rg 7 (dK rfl (vV (by exact aO T rfl rfl rfl rfl rfl (by omega) (by omega)) ?_));refine vV (by exact aN T rfl rfl (bP rfl hget) rfl) ?_;refine cH (cK T rfl) rfl (bA T rfl rfl rfl rfl rfl rfl (by decide) rfl ?_))|(refine rg 8 (mW rfl (vV (aN T rfl rfl rfl rfl) (vV (by exact fU rfl rfl hc rfl (by simp [AV.idfL,AV.idf,hi]) rfl) ?_)));refine vV (eM rfl) ?_)|(refine rg 9 (dK rfl (vV (aN T rfl rfl rfl rfl) (vV (by exact aO T rfl rfl rfl rfl rfl (by omega) (by omega)) ?_)));refine bA T rfl rfl rfl rfl rfl rfl (by decide) (mK rfl hg2 rfl) ?_)|(refine iA 10 rfl rfl rfl (by omega) (by omega) ?_)|(refine iA 6 rfl rfl rfl (by omega) (by omega) ?_)|refine nZ ?_));all_goals try (exfalso;omega)
        all_goals exact ⟨⟨m + 1,hlt⟩,by dsimp only;omega,[0],rfl,⟨rfl,by rw [lB hi];rfl,by rw [hs];simp only [aF];rfl,rfl,trivial⟩,⟨.inr (aC rfl (by rw [hs];exact hset) (bV _)),trivial⟩,by decide,lL⟩
      · rw [e] at hc hs;rw [if_pos rfl] at hs
        (repeat' (first|refine wS ?_|refine wB ?_|refine wK ?_|refine wU ?_|(refine wC rfl ?_ ?_<;>(intro hb;(try simp only [nm] at hb);try (exfalso;omega)))|(refine rg 5 (dK rfl (qW T rfl (vV (aJ rfl rfl) ?_))))|(refine rg 7 (dK rfl (vV (by exact aO T rfl rfl rfl rfl rfl (by omega) (by omega)) ?_));refine vV (by exact aN T rfl rfl (bP rfl hget) rfl) ?_;refine cH (cK T rfl) rfl (bA T rfl rfl rfl rfl rfl rfl (by decide) rfl ?_))|(refine rg 8 (mW rfl (vV (aN T rfl rfl rfl rfl) (vV (by exact fU rfl rfl hc rfl (by simp [AV.idfL,AV.idf,hi]) rfl) ?_)));refine vV (eM rfl) ?_)|(refine iA 6 rfl rfl rfl (by omega) (by omega) ?_)|refine nZ ?_));all_goals try (exfalso;omega)
        all_goals exact ⟨⟨m + 1,hlt⟩,by dsimp only;omega,[0],rfl,⟨rfl,by rw [lB hi];rfl,by rw [hs];rfl,rfl,trivial⟩,⟨.inr (aC rfl (by rw [hs];exact hA.symm) (bV _)),trivial⟩,by decide,lL⟩
    · obtain rfl : m = l.length := by omega
      have hal := TK (G := gG q (l.take l.length)) (l := l) (by omega)
      have htk := VP (G := gG q (l.take l.length)) (l := l);generalize gG q (l.take l.length) = G at *
      (repeat' (first|refine wS ?_|refine wR ?_|refine wE ?_|(refine wC rfl ?_ ?_<;>(intro hb;(try simp only [nm] at hb);try (exfalso;omega)))|(refine rg 5 (dK rfl (qW T rfl (vV (aJ rfl rfl) ?_))))|(refine rg 11 (dK rfl (vV (by exact jJ T rfl rfl rfl rfl rfl rfl (by omega) (by omega) (by omega)) ?_));refine M2 T rfl rfl rfl ⟨rfl,rfl,by decide⟩ rfl (by rw [hal];omega) ?_)|(refine rg 12 (dK rfl (vV (by exact jJ T rfl rfl rfl rfl rfl rfl (by omega) (by omega) (by omega)) ?_));refine aV ?_)|refine nZ ?_));all_goals try (exfalso;omega)
      all_goals exact ⟨.inl rfl,[0],_,rfl,(by show AV.sl 0 0 ((G.length : Int) - 0).toNat 3 = AV.sl 0 0 G.length 3;rw [show ((G.length : Int) - 0).toNat = G.length by omega]),rfl,⟨.inr (aC rfl htk (bV _)),trivial⟩,by decide,lL⟩
abbrev yC0 : AV := .clo (.func 134) [] []
theorem VB {f : W} {l : List W} {k : Nat} (h : k < l.length) : (gB (f :: l))[((k : Int) + 1).toNat]? = some (wA l[k]) := by
  rw [show ((k : Int) + 1).toNat = k + 1 by omega];simp [h]
theorem yB9 (f : W) (l : List W) (hl : l.length ≤ 1000000) : aU Tryz.prog 133 [.rowE (gB (f :: l)) 3,yC0] [] (MM (l.foldl N7 f)) [] := by
  have hll : (gB (f :: l)).length = l.length + 1 := by simp
  have hg0 : (gB (f :: l))[(0 : Int).toNat]? = some (wA f) := rfl;refine bX T Tryz.func133 rfl rfl rfl rfl ?_
  (repeat' (first|refine wS ?_|refine wB ?_|refine wK ?_|refine wU ?_|(refine rg 0 (cH (cK T rfl) rfl ?_))|(refine rg 1 (mW rfl (qW T rfl (vV (aJ rfl rfl) ?_))))|(refine rg 3 (mW rfl (vV (ix T rfl (by omega) (pE _) hg0) (lW T rfl (cH (cK T rfl) rfl (bA T rfl rfl rfl rfl rfl rfl (by decide) rfl ?_))))))|(refine rg 4 (aV ?_))|refine nZ ?_));all_goals try (exfalso;omega)
  refine dC (X := {k : Nat // k ≤ l.length}) (fun k => [(0,.rowE (gB (f :: l)) 3),(1,yC0),(4,.ptr 0 0),(5,.ptr 1 0),(6,.i ((k.1 : Int) + 1))]) (fun k => [.cells [.nils,.i 0,.nils],.cells (wA ((l.take k.1).foldl N7 f))]) (fun k => l.length - k.1) ⟨0,bY _⟩ ⟨[0,1],rfl,by (repeat (first | exact trivial | refine ⟨rfl,?_⟩)),⟨.inr rfl,.inr rfl,trivial⟩,by decide,kI _⟩ ?_
  rintro ⟨k,hk⟩;dsimp only;by_cases hlt : k < l.length
  · have hs := UD (f := f) hlt;have hg := VB (f := f) hlt;have hc := YC l[k] ((l.take k).foldl N7 f);generalize l[k] = x at *;generalize (l.take k).foldl N7 f = m at *;by_cases h0 : x.2.1 < m.2.1
    · have hv : cI x.2.1 m.2.1 = -1 := by unfold cI;rw [if_pos h0]
      rw [hv] at hc;rw [N7,if_pos h0] at hs
      (repeat' (first|refine wS ?_|refine wB ?_|refine wK ?_|refine wT ?_|(refine wC rfl ?_ ?_<;>(intro hb;(try simp only [nm] at hb);try (exfalso;omega)))|(refine rg 5 (dK rfl (qW T rfl (vV (aJ rfl rfl) ?_))))|(refine cO (id := 7) 33 [[],[],[],[1,2],[1,2,3],[],rN 6,rN 7] (rM 20 8) [[],[20],[20,21],[20],[20],rM 20 5,[],[]] cW rfl (by decide +kernel) (dN rfl (dN rfl (dN rfl (dV rfl (ix T rfl (by omega) (pE _) hg) (dO T rfl (dO T rfl (dV rfl (kC (hc)) (dV rfl (aJ rfl rfl) (dE ?_))))))))))|(refine rg 8 (dK rfl (vV (ix T rfl (by omega) (pE _) hg) (lW T rfl (bA T rfl rfl rfl rfl rfl rfl (by decide) rfl ?_)))))|(refine iA 6 rfl rfl rfl (by omega) (by omega) ?_)|refine nZ ?_));all_goals try (exfalso;omega)
      all_goals exact ⟨⟨k + 1,hlt⟩,by dsimp only;omega,[0,1],rfl,by (repeat (first | exact trivial | refine ⟨rfl,?_⟩)),⟨.inr rfl,.inr (by dsimp only;rw [hs];rfl),trivial⟩,by decide,kI _⟩
    · have hv : 0 ≤ cI x.2.1 m.2.1 := by unfold cI;rw [if_neg h0];split <;> omega
      rw [N7,if_neg h0] at hs;generalize cI x.2.1 m.2.1 = v at *
      (repeat' (first|refine wS ?_|refine wB ?_|refine wK ?_|(refine wC rfl ?_ ?_<;>(intro hb;(try simp only [nm] at hb);try (exfalso;omega)))|(refine rg 5 (dK rfl (qW T rfl (vV (aJ rfl rfl) ?_))))|(refine cO (id := 7) 33 [[],[],[],[1,2],[1,2,3],[],rN 6,rN 7] (rM 20 8) [[],[20],[20,21],[20],[20],rM 20 5,[],[]] cW rfl (by decide +kernel) (dN rfl (dN rfl (dN rfl (dV rfl (ix T rfl (by omega) (pE _) hg) (dO T rfl (dO T rfl (dV rfl (kC (hc)) (dV rfl (aJ rfl rfl) (dE ?_))))))))))|(refine iA 6 rfl rfl rfl (by omega) (by omega) ?_)|refine nZ ?_));all_goals try (exfalso;omega)
      all_goals exact ⟨⟨k + 1,hlt⟩,by dsimp only;omega,[0,1],rfl,by (repeat (first | exact trivial | refine ⟨rfl,?_⟩)),⟨.inr rfl,.inr (by dsimp only;rw [hs];rfl),trivial⟩,by decide,kI _⟩
  · obtain rfl : k = l.length := by omega
    rw [cM];generalize l.foldl N7 f = m at *
    (repeat' (first|refine wS ?_|refine wR ?_|refine wE ?_|(refine wC rfl ?_ ?_<;>(intro hb;(try simp only [nm] at hb);try (exfalso;omega)))|(refine rg 5 (dK rfl (qW T rfl (vV (aJ rfl rfl) ?_))))|(refine rg 9 (lW T rfl (bA T rfl rfl rfl rfl rfl rfl (by decide) rfl ?_)))|refine nZ ?_));all_goals first | (exfalso;omega) | exact ⟨.inl rfl,[],_,rfl,rfl,rfl,trivial,by decide,kI _⟩
theorem yJ6 : NX Tryz.prog 105 1 = some (3,1) := by kernel_rfl
theorem QC (g : G) (hne : g.2 ≠ []) (hl : g.2.length ≤ 1000000) : aU Tryz.prog 99 [VA g] [] (.i (gI g)) [] := by
  obtain ⟨b,ws⟩ := g;cases ws with
  | nil => exact absurd rfl hne
  | cons f l =>
    have hc := yB9 f l (by simp at hl;omega)
    show aU _ _ _ _ (.i (l.foldl (fun m x => if x.2.1 < m then x.2.1 else m) f.2.1)) []
    rw [← KE];generalize l.foldl N7 f = m at *;refine bX T Tryz.func99 rfl rfl rfl rfl ?_
    (repeat' (first|refine wS ?_|refine wR ?_|(refine rg 0 (cH (cY rfl rfl) rfl (aV ?_)))|(refine rg 1 (iP T rfl (vV (kC (hc)) (vV (by exact UA T rfl yJ6 rfl rfl) ?_)));refine aV ?_)|refine nZ ?_));all_goals first | (exfalso;omega) | exact rQ
end Go.Proofs.YtmmmeebiobjnbaaGreat
