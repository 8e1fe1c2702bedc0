/-
  Texts of the logic and of the layer,in one module (part 5).
-/
import Derived.Test.YtbialaoigijlgaaGreatDoorG4
import Derived.Lib.SlicesDelete
import Derived.Deep.RegionLaw
import Derived.Sort.EncStr
import Derived.Shelf.RegionOpenPlain
import Derived.Deep.LoopGhost
import Derived.Lib.Walk
import Derived.Sort.WalkB12
import Derived.Shelf.Slices.Delete
import Derived.Ground.Names2Prog
set_option linter.unusedVariables false
set_option linter.unusedSimpArgs false
set_option linter.unnecessarySimpa false
namespace Go.Ld
open Go.Ab Go.Proofs.YtbialaoigijlgaaGreatDoor
theorem RG {P U V R : List W} {i k : Nat} (h : i = P.length + U.length + k) (hk : k < V.length) : (P ++ (U ++ (V ++ R)))[i]? = V[k]? := by
  subst h;rw [aE (by omega),aE (by omega),aF (by omega)]
  congr 1;omega
theorem RH {P U V R : List W} {i k : Nat} (h : i = P.length + k) (hk : k < U.length) : (P ++ (U ++ (V ++ R)))[i]? = U[k]? := by
  subst h;rw [aE (by omega),aF (by omega)]
  congr 1;omega
end Go.Ld
namespace Go.Proofs.YtbialaoigijlgaaGreatDoor
open Go Go.Ab Go.Ld
attribute [local irreducible] VC AW bV aO
set_option maxHeartbeats 4000000
theorem uU : E4 Tryz.prog 3 .i64 := by unfold E4;kernel_rfl
theorem oY : E4 Tryz.prog 146 .u64 := by unfold E4;kernel_rfl
attribute [local irreducible] E4
theorem XJ (P : List W) (u : W) (V R : List W) {a m b N : Nat} (ha : a = P.length) (hm : m = a + 1) (hb : b = m + V.length) (hN : N = b + R.length) (hl : N ≤ 100000) (hV : Up V) (hu : A7 u) (hw : ∀ w,w ∈ V → A7 w) :
    aO Tryz.prog 140 [.sl 0 0 N 3,.i a,.i m,.i b,pF] [.arr (eY (P ++ ([u] ++ (V ++ R)))) 3] (.tup []) [.arr (eY (P ++ (dW eH ([u] ++ V) ++ R))) 3] := by
  refine bK T Tryz.func140 rfl rfl rfl rfl ?_
  (repeat' (first|refine wS ?_|refine wB ?_|refine wT ?_|(refine rg 0 (dQ rfl (vV (cO rfl rfl (by omega) (by omega)) (vV (kE rfl rfl (by omega)) ?_))))|(refine rg 1 (mW rfl (aV ?_)))|(refine rg 2 (mW rfl (aV ?_)))|refine nZ ?_));refine cK (X := {q : Nat × Nat // m ≤ q.1 ∧ q.1 ≤ q.2 ∧ q.2 ≤ b ∧ (∀ z, 0 < q.1 - m → V[q.1 - m - 1]? = some z → eH z u < 0) ∧ (∀ z, V[q.2 - m]? = some z → ¬ eH z u < 0)})
    (fun q => [(0,.sl 0 0 N 3),(1,.i a),(4,pF),(10,.i q.1.1),(11,.i q.1.2)]) (fun _ => [.arr (eY (P ++ ([u] ++ (V ++ R)))) 3]) (fun q => q.1.2 - q.1.1) ⟨(m,b),by dsimp only;exact ⟨by omega,by omega,by omega,fun z h => by omega,fun z h => by rw [cH (by omega)] at h;cases h⟩⟩
    ⟨[0],rfl,by (repeat (first | exact trivial | refine ⟨rfl,?_⟩)),⟨.inr (aG rfl rfl (bE _)),trivial⟩,by decide,kN⟩ ?_
  rintro ⟨⟨i,j⟩,h1,h2,h3,h4,h5⟩;dsimp only at h1 h2 h3 h4 h5 ⊢;by_cases hij : i < j
  · have hP : ((i : Int) + j) / 2 ^ (1 : Int).toNat = (((i + j) / 2 : Nat) : Int) := by rw [show (2 : Int) ^ (1 : Int).toNat = 2 from rfl];omega
    have hw1 : IntKind.u64.wrap ((i : Int) + j) = (i : Int) + j := BT (by omega) (by omega)
    have hw2 : IntKind.i64.wrap (((i + j) / 2 : Nat) : Int) = (((i + j) / 2 : Nat) : Int) := IntWalk.i64_in _ (by omega)
    have hh : i ≤ (i + j) / 2 ∧ (i + j) / 2 < j := by omega
    generalize hq : (i + j) / 2 = q at *;obtain ⟨z,hz⟩ : ∃ z,V[q - m]? = some z := ⟨_,aB (by omega)⟩
    have q1 := nS (L := P ++ ([u] ++ (V ++ R))) (j := (q : Int)) (i := q) (x := z) (by rw [RG (k := q - m) (by simp;omega) (by omega)];exact hz) rfl
    have q2 := nS (L := P ++ ([u] ++ (V ++ R))) (j := (a : Int)) (i := a) (x := u) (by rw [RH (k := 0) (by omega) (by simp)];rfl) rfl
    have hc := tK z u (hw z (aM hz)) hu;by_cases h0 : eH z u < 0
    · generalize hx : eH z u = x at *
      (repeat' (first|refine wS ?_|refine wB ?_|refine wK ?_|(refine wC rfl ?_ ?_<;>(intro hb;(try simp only [nm] at hb);try (exfalso;omega)))|(refine rg 3 (dQ rfl (vV (aJ rfl rfl) ?_)))|(refine rg 4 (dQ rfl (vV (bS rfl rfl (by omega) (by omega)) (vV (iG uU oY rfl hw1) (vV (by exact hP ▸ rC rfl rfl (by decide) (by decide)) ?_))));refine vV (iG oY uU rfl hw2) (aV ?_))|(refine cJ (id := 5) 220 zM3 (rM 40 11) zM4 cN rfl (by decide +kernel) (dN rfl (dN rfl (dN rfl (dV rfl (by exact aL T rfl rfl rfl rfl rfl (by omega) (by omega)) ?_))));refine dV rfl (by exact aT T rfl rfl (bJ rfl q1) rfl) ?_;refine dN rfl (dN rfl (dV rfl (by exact aL T rfl rfl rfl rfl rfl (by omega) (by omega)) ?_));refine dV rfl (by exact aT T rfl rfl (bJ rfl q2) rfl) ?_;refine dV rfl (kC (hc)) (dV rfl (aJ rfl rfl) (dE ?_)))|(refine iA 6 rfl rfl rfl (by omega) (by omega) ?_)|refine nZ ?_));all_goals first | (exfalso;omega) | skip
      exact ⟨⟨(q + 1,j),by dsimp only;exact ⟨by omega,by omega,by omega,fun z' _ hz' => by rw [show q + 1 - m - 1 = q - m by omega,hz] at hz';cases hz';omega,h5⟩⟩,by dsimp only;omega,⟨[0],rfl,by (repeat (first | exact trivial | refine ⟨rfl,?_⟩)),⟨.inr (aG rfl rfl (bE _)),trivial⟩,by decide,kN⟩⟩
    · generalize hx : eH z u = x at *
      (repeat' (first|refine wS ?_|refine wB ?_|refine wK ?_|(refine wC rfl ?_ ?_<;>(intro hb;(try simp only [nm] at hb);try (exfalso;omega)))|(refine rg 3 (dQ rfl (vV (aJ rfl rfl) ?_)))|(refine rg 4 (dQ rfl (vV (bS rfl rfl (by omega) (by omega)) (vV (iG uU oY rfl hw1) (vV (by exact hP ▸ rC rfl rfl (by decide) (by decide)) ?_))));refine vV (iG oY uU rfl hw2) (aV ?_))|(refine cJ (id := 5) 220 zM3 (rM 40 11) zM4 cN rfl (by decide +kernel) (dN rfl (dN rfl (dN rfl (dV rfl (by exact aL T rfl rfl rfl rfl rfl (by omega) (by omega)) ?_))));refine dV rfl (by exact aT T rfl rfl (bJ rfl q1) rfl) ?_;refine dN rfl (dN rfl (dV rfl (by exact aL T rfl rfl rfl rfl rfl (by omega) (by omega)) ?_));refine dV rfl (by exact aT T rfl rfl (bJ rfl q2) rfl) ?_;refine dV rfl (kC (hc)) (dV rfl (aJ rfl rfl) (dE ?_)))|(refine rg 7 (mW rfl (aV ?_)))|refine nZ ?_));all_goals first | (exfalso;omega) | skip
      exact ⟨⟨(i,q),by dsimp only;exact ⟨by omega,by omega,by omega,h4,fun z' hz' => by rw [hz] at hz';cases hz';omega⟩⟩,by dsimp only;omega,⟨[0],rfl,by (repeat (first | exact trivial | refine ⟨rfl,?_⟩)),⟨.inr (aG rfl rfl (bE _)),trivial⟩,by decide,kN⟩⟩
  · obtain rfl : i = j := by omega
    have hmg := XW (u := u) (i := i - m) (by omega) hV h4 h5
    (repeat' (first|refine wS ?_|refine wB ?_|refine wE ?_|(refine wC rfl ?_ ?_<;>(intro hb;(try simp only [nm] at hb);try (exfalso;omega)))|(refine rg 3 (dQ rfl (vV (aJ rfl rfl) ?_)))|(refine rg 8 (mW rfl (aV ?_)))|refine nZ ?_));all_goals first | (exfalso;omega) | skip
    refine cK (X := {t : Nat // t ≤ i - m}) (fun t => [(0,.sl 0 0 N 3),(10,.i i),(13,.i ((a + t.1 : Nat) : Int))]) (fun t => [.arr (eY (B4 P V u R t.1)) 3]) (fun t => i - m - t.1) ⟨0,by omega⟩ ⟨[0],rfl,⟨rfl,rfl,by dsimp only;rfl,trivial⟩,⟨.inr (aG rfl (by dsimp only;unfold B4;simp) (bE _)),trivial⟩,by decide,kN⟩ ?_
    rintro ⟨t,ht⟩;dsimp only;by_cases hlt : t < i - m
    · obtain ⟨y,p1,p2,p3,p4,_⟩ := CA (P := P) (u := u) (R := R) (show t < V.length by omega)
      have q1 := nS (j := ((a + t : Nat) : Int)) p1 (by omega)
      have q2 := nS (j := ((a + t : Nat) : Int) + 1) p2 (by omega)
      have t1 := tB (L := B4 P V u R t) (j := ((a + t : Nat) : Int)) (i := P.length + t) (x := y) (by omega)
      have q3 := nS (j := ((a + t : Nat) : Int) + 1) p3 (by omega)
      have t2 := tB (L := (B4 P V u R t).set (P.length + t) y) (j := ((a + t : Nat) : Int) + 1) (i := P.length + t + 1) (x := u) (by omega)
      rw [← t1] at q3 t2;rw [p4] at t2;have hJ : ((a + t : Nat) : Int) + 1 = ((a + (t + 1) : Nat) : Int) := by omega
      have hJ1 : ((a + t : Nat) : Int) < (i : Int) - 1 := by omega
      have hJ2 : 0 ≤ ((a + t : Nat) : Int) := by omega
      clear p1 p2 p3 p4 t1;generalize ((a + t : Nat) : Int) = J at *;generalize B4 P V u R t = L at *
      (repeat' (first|refine wS ?_|refine wB ?_|refine wK ?_|(refine wC rfl ?_ ?_<;>(intro hb;(try simp only [nm] at hb);try (exfalso;omega)))|(refine rg 9 (dQ rfl (vV (cO rfl rfl (by omega) (by omega)) (vV (aJ rfl rfl) ?_))))|(refine mN (id := 11) 220 zM1 (rM 61 15) [[],[61],[61,62],[61,62,63],[61,62,63],rM 61 5,rM 61 6,rM 61 6,rM 61 5,rM 61 5,rM 61 10,rM 61 11,rM 61 10,rM 61 10,[63,64,65],[63,64,65]] [(15,0)] cN rfl (by decide +kernel) (cM rfl rfl rfl rfl (by exact bU rfl) ?_);refine cM rfl rfl rfl rfl (by exact bU rfl) ?_;refine cM rfl rfl rfl rfl (by exact bU rfl) ?_;refine cM rfl rfl rfl rfl (by exact bU rfl) ?_;refine cM rfl rfl rfl rfl (by exact bS rfl rfl (by omega) (by omega)) ?_;refine cM rfl rfl rfl rfl (by exact bU rfl) ?_;refine cM rfl rfl rfl rfl (by exact bU rfl) ?_;refine cM rfl rfl rfl rfl (by exact bS rfl rfl (by omega) (by omega)) ?_;refine cM rfl rfl rfl rfl (by exact aL T rfl rfl rfl rfl rfl (by omega) (by omega)) ?_;refine cM rfl rfl rfl rfl (by exact aT T rfl rfl (bJ rfl q2) rfl) ?_;refine cM rfl rfl rfl rfl (by exact bU rfl) ?_;refine cM rfl rfl rfl rfl (by exact bU rfl) ?_;refine cM rfl rfl rfl rfl (by exact aL T rfl rfl rfl rfl rfl (by omega) (by omega)) ?_;refine cM rfl rfl rfl rfl (by exact aT T rfl rfl (bJ rfl q1) rfl) ?_;refine cM rfl rfl rfl rfl (by exact aL T rfl rfl rfl rfl rfl (by omega) (by omega)) ?_;refine uA rfl rfl rfl rfl (aN rfl) T rfl rfl rfl rfl rfl rfl (by decide) (tD rfl q1 rfl) ?_;refine pT rfl rfl rfl (by exact rfl) ?_;refine vV (by exact aL T rfl rfl rfl rfl rfl (by omega) (by omega)) ?_;refine aQ T rfl rfl rfl rfl rfl rfl (by decide) (lP rfl q3 rfl) ?_)|(refine iA 10 rfl rfl rfl (by omega) (by omega) ?_)|refine nZ ?_));all_goals first | (exfalso;omega) | skip
      exact ⟨⟨t + 1,by omega⟩,by dsimp only;omega,⟨[0],rfl,⟨rfl,rfl,by dsimp only;rw [← hJ];try rfl,trivial⟩,⟨.inr (aG rfl (by dsimp only;rw [← t2];try rfl) (bE _)),trivial⟩,by decide,kN⟩⟩
    · obtain rfl : t = i - m := by omega
      have ee : B4 P V u R (i - m) = P ++ (dW eH ([u] ++ V) ++ R) := by rw [hmg];unfold B4;simp
      have hJ1 : ¬ ((a + (i - m) : Nat) : Int) < (i : Int) - 1 := by omega
      generalize ((a + (i - m) : Nat) : Int) = J at *
      (repeat' (first|refine wS ?_|refine wR ?_|refine wE ?_|(refine wC rfl ?_ ?_<;>(intro hb;(try simp only [nm] at hb);try (exfalso;omega)))|(refine rg 9 (dQ rfl (vV (cO rfl rfl (by omega) (by omega)) (vV (aJ rfl rfl) ?_))))|refine nZ ?_));all_goals first | (exfalso;omega) | exact ⟨.inl rfl,[0],_,rfl,rfl,rfl,⟨.inr (aG rfl (by rw [ee]) (bE _)),trivial⟩,by decide,kN⟩ | exact ⟨.inr rfl,[0],_,rfl,rfl,rfl,⟨.inr (aG rfl (by rw [ee]) (bE _)),trivial⟩,by decide,kN⟩
theorem XI (P U : List W) (v : W) (R : List W) {a m b N : Nat} (ha : a = P.length) (hm : m = a + U.length) (hb : b = m + 1) (hN : N = b + R.length) (hl : N ≤ 100000) (hU2 : 2 ≤ U.length) (hU : Up U) (hv : A7 v) (hw : ∀ w,w ∈ U → A7 w) :
    aO Tryz.prog 140 [.sl 0 0 N 3,.i a,.i m,.i b,pF] [.arr (eY (P ++ (U ++ ([v] ++ R)))) 3] (.tup []) [.arr (eY (P ++ (dW eH (U ++ [v]) ++ R))) 3] := by
  refine bK T Tryz.func140 rfl rfl rfl rfl ?_
  (repeat' (first|refine wS ?_|refine wB ?_|refine wK ?_|refine wT ?_|refine wU ?_|(refine rg 0 (dQ rfl (vV (cO rfl rfl (by omega) (by omega)) (vV (fP rfl rfl (by omega)) ?_))))|(refine rg 12 (dQ rfl (vV (cO rfl rfl (by omega) (by omega)) (vV (kE rfl rfl (by omega)) ?_))))|(refine rg 13 (mW rfl (aV ?_)))|(refine rg 14 (mW rfl (aV ?_)))|refine nZ ?_));refine cK (X := {q : Nat × Nat // a ≤ q.1 ∧ q.1 ≤ q.2 ∧ q.2 ≤ m ∧ (∀ z, 0 < q.1 - a → U[q.1 - a - 1]? = some z → ¬ eH v z < 0) ∧ (∀ z, U[q.2 - a]? = some z → eH v z < 0)})
    (fun q => [(0,.sl 0 0 N 3),(2,.i m),(4,pF),(14,.i q.1.1),(15,.i q.1.2)]) (fun _ => [.arr (eY (P ++ (U ++ ([v] ++ R)))) 3]) (fun q => q.1.2 - q.1.1) ⟨(a,m),by dsimp only;exact ⟨by omega,by omega,by omega,fun z h => by omega,fun z h => by rw [cH (by omega)] at h;cases h⟩⟩
    ⟨[0],rfl,by (repeat (first | exact trivial | refine ⟨rfl,?_⟩)),⟨.inr (aG rfl rfl (bE _)),trivial⟩,by decide,kN⟩ ?_
  rintro ⟨⟨i,j⟩,h1,h2,h3,h4,h5⟩;dsimp only at h1 h2 h3 h4 h5 ⊢;by_cases hij : i < j
  · have hP : ((i : Int) + j) / 2 ^ (1 : Int).toNat = (((i + j) / 2 : Nat) : Int) := by rw [show (2 : Int) ^ (1 : Int).toNat = 2 from rfl];omega
    have hw1 : IntKind.u64.wrap ((i : Int) + j) = (i : Int) + j := BT (by omega) (by omega)
    have hw2 : IntKind.i64.wrap (((i + j) / 2 : Nat) : Int) = (((i + j) / 2 : Nat) : Int) := IntWalk.i64_in _ (by omega)
    have hh : i ≤ (i + j) / 2 ∧ (i + j) / 2 < j := by omega
    generalize hq : (i + j) / 2 = q at *;obtain ⟨z,hz⟩ : ∃ z,U[q - a]? = some z := ⟨_,aB (by omega)⟩
    have q1 := nS (L := P ++ (U ++ ([v] ++ R))) (j := (m : Int)) (i := m) (x := v) (by rw [RG (k := 0) (by omega) (by simp)];rfl) rfl
    have q2 := nS (L := P ++ (U ++ ([v] ++ R))) (j := (q : Int)) (i := q) (x := z) (by rw [RH (k := q - a) (by omega) (by omega)];exact hz) rfl
    have hc := tK v z hv (hw z (aM hz));by_cases h0 : eH v z < 0
    · generalize hx : eH v z = x at *
      (repeat' (first|refine wS ?_|refine wB ?_|refine wK ?_|(refine wC rfl ?_ ?_<;>(intro hb;(try simp only [nm] at hb);try (exfalso;omega)))|(refine rg 15 (dQ rfl (vV (aJ rfl rfl) ?_)))|(refine rg 16 (dQ rfl (vV (bS rfl rfl (by omega) (by omega)) (vV (iG uU oY rfl hw1) (vV (by exact hP ▸ rC rfl rfl (by decide) (by decide)) ?_))));refine vV (iG oY uU rfl hw2) (aV ?_))|(refine cJ (id := 17) 220 zM5 (rM 92 12) zM6 cN rfl (by decide +kernel) (dN rfl (dN rfl (dN rfl (dV rfl (by exact aL T rfl rfl rfl rfl rfl (by omega) (by omega)) ?_))));refine dV rfl (by exact aT T rfl rfl (bJ rfl q1) rfl) ?_;refine dN rfl (dN rfl (dV rfl (by exact aL T rfl rfl rfl rfl rfl (by omega) (by omega)) ?_));refine dV rfl (by exact aT T rfl rfl (bJ rfl q2) rfl) ?_;refine dV rfl (kC (hc)) (dV rfl (aJ rfl rfl) (dV rfl (eL rfl) (dE ?_))))|(refine rg 19 (mW rfl (aV ?_)))|refine nZ ?_));all_goals first | (exfalso;omega) | skip
      exact ⟨⟨(i,q),by dsimp only;exact ⟨by omega,by omega,by omega,h4,fun z' hz' => by rw [hz] at hz';cases hz';omega⟩⟩,by dsimp only;omega,⟨[0],rfl,by (repeat (first | exact trivial | refine ⟨rfl,?_⟩)),⟨.inr (aG rfl rfl (bE _)),trivial⟩,by decide,kN⟩⟩
    · generalize hx : eH v z = x at *
      (repeat' (first|refine wS ?_|refine wB ?_|refine wK ?_|(refine wC rfl ?_ ?_<;>(intro hb;(try simp only [nm] at hb);try (exfalso;omega)))|(refine rg 15 (dQ rfl (vV (aJ rfl rfl) ?_)))|(refine rg 16 (dQ rfl (vV (bS rfl rfl (by omega) (by omega)) (vV (iG uU oY rfl hw1) (vV (by exact hP ▸ rC rfl rfl (by decide) (by decide)) ?_))));refine vV (iG oY uU rfl hw2) (aV ?_))|(refine cJ (id := 17) 220 zM5 (rM 92 12) zM6 cN rfl (by decide +kernel) (dN rfl (dN rfl (dN rfl (dV rfl (by exact aL T rfl rfl rfl rfl rfl (by omega) (by omega)) ?_))));refine dV rfl (by exact aT T rfl rfl (bJ rfl q1) rfl) ?_;refine dN rfl (dN rfl (dV rfl (by exact aL T rfl rfl rfl rfl rfl (by omega) (by omega)) ?_));refine dV rfl (by exact aT T rfl rfl (bJ rfl q2) rfl) ?_;refine dV rfl (kC (hc)) (dV rfl (aJ rfl rfl) (dV rfl (eL rfl) (dE ?_))))|(refine iA 18 rfl rfl rfl (by omega) (by omega) ?_)|refine nZ ?_));all_goals first | (exfalso;omega) | skip
      exact ⟨⟨(q + 1,j),by dsimp only;exact ⟨by omega,by omega,by omega,fun z' _ hz' => by rw [show q + 1 - a - 1 = q - a by omega,hz] at hz';cases hz';omega,h5⟩⟩,by dsimp only;omega,⟨[0],rfl,by (repeat (first | exact trivial | refine ⟨rfl,?_⟩)),⟨.inr (aG rfl rfl (bE _)),trivial⟩,by decide,kN⟩⟩
  · obtain rfl : i = j := by omega
    have hmg := XV (v := v) (i := i - a) (by omega) hU h4 h5
    (repeat' (first|refine wS ?_|refine wB ?_|refine wE ?_|(refine wC rfl ?_ ?_<;>(intro hb;(try simp only [nm] at hb);try (exfalso;omega)))|(refine rg 15 (dQ rfl (vV (aJ rfl rfl) ?_)))|(refine rg 20 (mW rfl (aV ?_)))|refine nZ ?_));all_goals first | (exfalso;omega) | skip
    refine cK (X := {t : Nat // i - a ≤ t ∧ t ≤ U.length}) (fun t => [(0,.sl 0 0 N 3),(14,.i i),(17,.i ((a + t.1 : Nat) : Int))]) (fun t => [.arr (eY (B4 P U v R t.1)) 3]) (fun t => t.1) ⟨U.length,by omega⟩ ⟨[0],rfl,⟨rfl,rfl,by dsimp only;rw [← hm];rfl,trivial⟩,⟨.inr (aG rfl (by dsimp only;unfold B4;simp) (bE _)),trivial⟩,by decide,kN⟩ ?_
    rintro ⟨t,ht,ht2⟩;dsimp only;by_cases hlt : i - a < t
    · obtain ⟨t,rfl⟩ : ∃ t',t = t' + 1 := ⟨t - 1,by omega⟩
      obtain ⟨y,_,_,_,_,p1,p2,p3,p4⟩ := CA (P := P) (u := v) (R := R) (show t < U.length by omega)
      have q1 := nS (j := ((a + (t + 1) : Nat) : Int)) p1 (by omega)
      have q2 := nS (j := ((a + (t + 1) : Nat) : Int) - 1) p2 (by omega)
      have t1 := tB (L := B4 P U v R (t + 1)) (j := ((a + (t + 1) : Nat) : Int)) (i := P.length + t + 1) (x := y) (by omega)
      have q3 := nS (j := ((a + (t + 1) : Nat) : Int) - 1) p3 (by omega)
      have t2 := tB (L := (B4 P U v R (t + 1)).set (P.length + t + 1) y) (j := ((a + (t + 1) : Nat) : Int) - 1) (i := P.length + t) (x := v) (by omega)
      rw [← t1] at q3 t2;rw [p4] at t2;have hJ : ((a + (t + 1) : Nat) : Int) - 1 = ((a + t : Nat) : Int) := by omega
      have hJ1 : ((a + (t + 1) : Nat) : Int) > (i : Int) := by omega
      have hJ2 : 1 ≤ ((a + (t + 1) : Nat) : Int) := by omega
      have hJ3 : ((a + (t + 1) : Nat) : Int) < N := by omega
      clear p1 p2 p3 p4 t1;generalize ((a + (t + 1) : Nat) : Int) = J at *;generalize B4 P U v R (t + 1) = L at *
      (repeat' (first|refine wS ?_|refine wB ?_|refine wK ?_|(refine wC rfl ?_ ?_<;>(intro hb;(try simp only [nm] at hb);try (exfalso;omega)))|(refine rg 21 (dQ rfl (vV (fU rfl rfl) ?_)))|(refine mN (id := 23) 220 zM1 (rM 113 15) [[],[113],[113,114],[113,114,115],[113,114,115],rM 113 5,rM 113 6,rM 113 6,rM 113 5,rM 113 5,rM 113 10,rM 113 11,rM 113 10,rM 113 10,[115,116,117],[115,116,117]] [(15,0)] cN rfl (by decide +kernel) (cM rfl rfl rfl rfl (by exact bU rfl) ?_);refine cM rfl rfl rfl rfl (by exact bU rfl) ?_;refine cM rfl rfl rfl rfl (by exact bU rfl) ?_;refine cM rfl rfl rfl rfl (by exact bU rfl) ?_;refine cM rfl rfl rfl rfl (by exact cO rfl rfl (by omega) (by omega)) ?_;refine cM rfl rfl rfl rfl (by exact bU rfl) ?_;refine cM rfl rfl rfl rfl (by exact bU rfl) ?_;refine cM rfl rfl rfl rfl (by exact cO rfl rfl (by omega) (by omega)) ?_;refine cM rfl rfl rfl rfl (by exact aL T rfl rfl rfl rfl rfl (by omega) (by omega)) ?_;refine cM rfl rfl rfl rfl (by exact aT T rfl rfl (bJ rfl q2) rfl) ?_;refine cM rfl rfl rfl rfl (by exact bU rfl) ?_;refine cM rfl rfl rfl rfl (by exact bU rfl) ?_;refine cM rfl rfl rfl rfl (by exact aL T rfl rfl rfl rfl rfl (by omega) (by omega)) ?_;refine cM rfl rfl rfl rfl (by exact aT T rfl rfl (bJ rfl q1) rfl) ?_;refine cM rfl rfl rfl rfl (by exact aL T rfl rfl rfl rfl rfl (by omega) (by omega)) ?_;refine uA rfl rfl rfl rfl (aN rfl) T rfl rfl rfl rfl rfl rfl (by decide) (tD rfl q1 rfl) ?_;refine pT rfl rfl rfl (by exact rfl) ?_;refine vV (by exact aL T rfl rfl rfl rfl rfl (by omega) (by omega)) ?_;refine aQ T rfl rfl rfl rfl rfl rfl (by decide) (lP rfl q3 rfl) ?_)|(refine rg 22 (mW rfl (vV (cO rfl rfl (by omega) (by omega)) (aV ?_))))|refine nZ ?_));all_goals first | (exfalso;omega) | skip
      exact ⟨⟨t,by omega⟩,by dsimp only;omega,⟨[0],rfl,⟨rfl,rfl,by dsimp only;rw [← hJ];try rfl,trivial⟩,⟨.inr (aG rfl (by dsimp only;rw [← t2];try rfl) (bE _)),trivial⟩,by decide,kN⟩⟩
    · obtain rfl : t = i - a := by omega
      have ee : B4 P U v R (i - a) = P ++ (dW eH (U ++ [v]) ++ R) := by rw [hmg];unfold B4;simp
      have hJ1 : ¬ ((a + (i - a) : Nat) : Int) > (i : Int) := by omega
      generalize ((a + (i - a) : Nat) : Int) = J at *
      (repeat' (first|refine wS ?_|refine wR ?_|refine wE ?_|(refine wC rfl ?_ ?_<;>(intro hb;(try simp only [nm] at hb);try (exfalso;omega)))|(refine rg 21 (dQ rfl (vV (fU rfl rfl) ?_)))|refine nZ ?_));all_goals first | (exfalso;omega) | exact ⟨.inl rfl,[0],_,rfl,rfl,rfl,⟨.inr (aG rfl (by rw [ee]) (bE _)),trivial⟩,by decide,kN⟩ | exact ⟨.inr rfl,[0],_,rfl,rfl,rfl,⟨.inr (aG rfl (by rw [ee]) (bE _)),trivial⟩,by decide,kN⟩
end Go.Proofs.YtbialaoigijlgaaGreatDoor
namespace Go.Ab
open Go
set_option maxHeartbeats 1000000
theorem oB {z : Array Value} {zs : List Value} (hz : z.toList = zs) (hn : zs ≠ []) (m : Nat) : (∀ v,v ∈ (Builtin.zeroCells z m).toList → v ∈ zs) ∧ (Builtin.zeroCells z m).toList.length = m * zs.length := by
  subst hz;have h0 : 0 < z.size := by
    rcases A9 z.size with h | h
    · exact absurd (by simpa using Array.size_eq_zero_iff.1 h) hn
    · exact h
  unfold Builtin.zeroCells;constructor
  · intro v hv;simp only [bM,Array.toList_ofFn,List.mem_ofFn,Array.toList_map,Array.toList_range] at hv;rcases hv with ⟨i,hi⟩
    first
      | (have hlt := Nat.mod_lt i.1 h0;rw [getElem!_pos z _ hlt] at hi;rw [← hi];exact Array.mem_toList_iff.2 (Array.getElem_mem _))
      | (have hlt := Nat.mod_lt i h0;rw [getElem!_pos z _ hlt] at hi;rw [← hi.2];exact Array.mem_toList_iff.2 (Array.getElem_mem _))
  · simp
section
variable {P : Program} {env : dK} {h : Hp} {n : Nat × Nat} {ops : Array Oper} {rest : List Oper} {K : dK → Hp → Prop} {ty : TypeId} {pos : String} {af : Array Edge}
theorem B8 (T : nQ P) {t e k off len sz : Nat} {i : TI} {x : Operand} {es : List (List AV)} (hx : evu env x = some (.sl k off len sz)) (ht : T.elem t = some e) (he : T.ti e = some i) (hz : i.zero.length = sz ∧ i.zero.all Value.oneCell' = true ∧ 0 < sz) (hkk : h[k]? = some (.arr es sz)) (hle : off + len ≤ es.length)
    (hk : VC P n ops rest env (h.set k (.arr (es.take off) sz)) K) : VC P n ops (⟨none,.call { callee := .builtin .clear,args := #[x],argTypes := #[t] },ty,pos,af,none⟩ :: rest) env h K := by
  intro c ρ S a w Q s hQ;refine wpList_plain rfl fun K' hK' => ?_
  have p := s.pre;have hxv := p.evu hx;simp only [R] at hxv;obtain ⟨ad,cap,hev,_,hxv⟩ := hxv;obtain ⟨inf,z,t1,t2,t3,t4,t5,t6,t7⟩ := T.tiOk e i he;have hund : P.underlying t = some (.slice e) := T.elemOk _ _ ht;have hzv : ∀ w,(zeroValue e).run P w = .ok z w := fun w => by simp [zeroValue,typeInfo,t1,t4]
  obtain ⟨hz1,hz2,hz3⟩ := hz;have hzc := oB (z := z.cells) t5 (fun h0 => by rw [h0] at hz1;simp at hz1;omega)
  have ev1 : ∀ r w',(Builtin.clear_ #[t] ty #[a.eval x]).run P w = .ok r w' → (execOp a.eval ⟨none,.call { callee := .builtin .clear,args := #[x],argTypes := #[t] },ty,pos,af,none⟩).run P w = .ok (.value r) w' := fun r w' hr => by
    simp [execOp,resolve,invoke,builtin,hr]
  have fin : ∀ {r : Value} {w' : World},(Builtin.clear_ #[t] ty #[a.eval x]).run P w = .ok r w' → HS c ρ S (h.set k (.arr (es.take off) sz)) w' ∧ gQ ρ ρ S S w w' → Oper.wp P ⟨none,.call { callee := .builtin .clear,args := #[x],argTypes := #[t] },ty,pos,af,none⟩ a w K' Q := fun {r w'} hr ⟨g1,g2⟩ => by
    unfold Oper.wp;rw [ev1 r w' hr];exact hK' _ _ (hk c ρ S _ _ Q ⟨by rw [kQ];exact s.size,by rw [iT];exact s.defers.later g2,fun tt uu huu => (s.env tt uu huu).later g2,g1,s.cm⟩ hQ)
  have stay : HS c ρ S (h.set k (.arr (es.take off) sz)) w ∧ gQ ρ ρ S S w w := ⟨s.hs.alter hkk (BK off) (by simp),⟨fun _ _ h => h,fun _ h => h,fun _ _ => rfl,fun _ _ _ _ _ h => h⟩⟩
  cases len with
  | zero =>
    refine fin (r := .tuple #[]) ?_ stay;rw [hev];cases ad <;> simp [Builtin.clear_,run_underlying hund]
  | succ m =>
    rcases hxv with ⟨h0,_⟩ | ⟨b,o,hp,ha,hlc,hroom⟩
    · cases h0
    · have hB := p.blk k _ hkk;obtain ⟨hes,hs0,hB⟩ := hB;rcases hB with hB | ⟨b',o',ys,h4,⟨cc,ct,h5,h6⟩,h7⟩
      · obtain ⟨hB,_⟩ := hB;subst hB;simp at hle
      rw [hp] at h4;cases h4;have hyl := fI h7;have hfl := fA hes;have hmul : (off + (m + 1)) * sz ≤ es.length * sz := gN _ hle;rw [eF] at hmul;have hpos : 0 < (m + 1) * sz := Nat.mul_pos (by omega) hz3
      have hlast := h6 (ys.length - 1) (ys[ys.length - 1]'(by omega)) (aB _)
      have hsz := (aH.1 hlast).1;obtain ⟨hzm,hzl⟩ := hzc (m + 1);rw [hz1] at hzl;generalize hZ : (Builtin.zeroCells z.cells (m + 1)).toList = Z at *;have hst := run_storeCells_at P b (o + off * sz) ct Z 0 cc w h5 (by rw [hzl];omega) (by intro v hv;exact (bB.1 hz2) v (hzm v hv))
      subst ha;refine fin (r := .tuple #[]) (w' := w.setRow b (cc.toList.take (o + off * sz + 0) ++ Z ++ cc.toList.drop (o + off * sz + 0 + Z.length)).toArray) ?_ (s.hs.upd hkk (by simp) hp (nO h5 ?_) fun l => ?_)
      · rw [hev];simp only [Builtin.clear_];simp [run_underlying hund,hzv,hZ,hst]
      · simp;omega
      · refine ⟨fun e he => hes e (eG he),hz3,.inr ⟨b,o,ys.take (off * sz),rfl,⟨_,ct,setRow_heap w b cc _ ct _ h5,fun j y hj => ?_⟩,?_⟩⟩
        · rw [bN] at hj;split at hj
          · rename_i hjo;have := h6 j y hj;have hjl := (aH.1 this).1;rw [gE,bD,aF (by simp;omega),bN,if_pos (by omega)]
            simpa using this
          · cases hj
        · rw [mL hes];exact oX (h7.later l) _
end
end Go.Ab
namespace Go.Ld
open Go.Ab Go.Proofs.YtbialaoigijlgaaGreatDoor
theorem TA {P U V R : List W} {a m b mid n lo hi s : Nat} (ha : a = P.length) (hm : m = a + U.length) (hb : b = m + V.length) (hmid : mid = (a + b) / 2) (hn : n = mid + m) (hU : Up U) (hV : Up V)
    (hc : mid < m ∧ lo = n - b ∧ hi = mid ∨ m ≤ mid ∧ lo = a ∧ hi = m) (hs1 : lo ≤ s) (hs2 : s ≤ hi)
    (h1 : ∀ x y,lo < s → (P ++ (U ++ (V ++ R)))[s - 1]? = some x → (P ++ (U ++ (V ++ R)))[n - s]? = some y → ¬ eH y x < 0)
    (h2 : ∀ x y,s < hi → (P ++ (U ++ (V ++ R)))[s]? = some x → (P ++ (U ++ (V ++ R)))[n - 1 - s]? = some y → eH y x < 0) :
    ∃ X1 X2 Y1 Y2,U = X1 ++ X2 ∧ V = Y1 ++ Y2 ∧ s = a + X1.length ∧ n = (m + Y1.length) + s ∧ mid = a + X1.length + Y1.length ∧ dW eH (U ++ V) = dW eH (X1 ++ Y1) ++ dW eH (X2 ++ Y2) := by
  have f1 : a ≤ s ∧ s ≤ m ∧ m + s ≤ n ∧ n ≤ b + s := by rcases hc with ⟨c1,c2,c3⟩ | ⟨c1,c2,c3⟩ <;> omega
  obtain ⟨f1,f2,f3,f4⟩ := f1;refine ⟨U.take (s - a),U.drop (s - a),V.take (n - s - m),V.drop (n - s - m),by simp,by simp,by rw [aU];omega,by rw [aU];omega,by rw [aU,aU];omega,?_⟩
  refine zD1 hU hV (by omega) (by omega) (fun x y h0 hx hy => ?_) (fun x y h0 hx hy => ?_)
  · have i1 := (aA.1 hy).1;refine h1 x y (by rcases hc with ⟨c1,c2,c3⟩ | ⟨c1,c2,c3⟩ <;> omega) ?_ ?_
    · rw [RH (k := s - a - 1) (by omega) (by omega)];exact hx
    · rw [RG (k := n - s - m) (by omega) (by omega)];exact hy
  · have i1 := (aA.1 hx).1;refine h2 x y (by rcases hc with ⟨c1,c2,c3⟩ | ⟨c1,c2,c3⟩ <;> omega) ?_ ?_
    · rw [RH (k := s - a) (by omega) (by omega)];exact hx
    · rw [RG (k := n - s - m - 1) (by omega) (by omega)];exact hy
theorem zA1 {A B : List W} (h : Up (A ++ B)) : Up A := (eU.1 h).1
theorem zA0 {A B : List W} (h : Up (A ++ B)) : Up B := (eU.1 h).2.1
def bs (k : Nat) (l : List W) : List W := if h : l.length ≤ k ∨ k = 0 then dW eH l else dW eH (l.take k) ++ bs k (l.drop k)
  termination_by l.length
  decreasing_by simp only [dD];omega
theorem G8 {k : Nat} {l : List W} (h : l.length ≤ k) : bs k l = dW eH l := by unfold bs;rw [dif_pos (.inl h)]
theorem zD6 {k : Nat} {l : List W} (h : k < l.length) (h0 : 0 < k) : bs k l = dW eH (l.take k) ++ bs k (l.drop k) := by rw [bs,dif_neg (by omega)]
theorem O9 {k : Nat} {a b : List W} (h : a.length = k) (h0 : 0 < k) : bs k (a ++ b) = dW eH a ++ bs k b := by
  subst h;cases b with
  | nil => rw [List.append_nil,G8 (aX _),G8 (bP _)];simp [dW]
  | cons x b => rw [zD6 (by simp) h0,sV,sY]
theorem ZD (k : Nat) (l : List W) : (bs k l).length = l.length := by
  induction hn : l.length using Nat.strongRecOn generalizing l with
  | _ n ih =>
    unfold bs;split
    · rw [gY,hn]
    · rw [aD,gY,aU,ih (l.drop k).length (by rw [dD];omega) _ rfl,dD];omega
theorem CK (a b : List W) : dW eH (dW eH a ++ dW eH b) = dW eH (a ++ b) :=
  zA ((dU _ _).trans ((dU _ _).append (dU _ _)).symm) (kD iJ _)
end Go.Ld
namespace Go.Proofs.YtbialaoigijlgaaGreatDoor
open Go Go.Ab Go.Ld
attribute [local irreducible] VC AW bV aO E4
set_option maxHeartbeats 4000000
theorem WM : ∀ (k : Nat) (P U V R : List W) {a m b N : Nat},b - a ≤ k → 0 < U.length → 0 < V.length → a = P.length → m = a + U.length → b = m + V.length → N = b + R.length → N ≤ 100000 → Up U → Up V → (∀ w,w ∈ U → A7 w) → (∀ w,w ∈ V → A7 w) →
    aO Tryz.prog 140 [.sl 0 0 N 3,.i a,.i m,.i b,pF] [.arr (eY (P ++ (U ++ (V ++ R)))) 3] (.tup []) [.arr (eY (P ++ (dW eH (U ++ V) ++ R))) 3] := by
  intro k
  induction k with
  | zero => intros;exfalso;omega
  | succ k ih =>
    intro P U V R a m b N hk hU0 hV0 ha hm hb hN hl hU hV hwU hwV;by_cases hu1 : U.length = 1
    · obtain ⟨u,rfl⟩ := List.length_eq_one_iff.1 hu1;exact XJ P u V R ha hm hb hN hl hV (hwU u (by simp)) hwV
    by_cases hv1 : V.length = 1
    · obtain ⟨v,rfl⟩ := List.length_eq_one_iff.1 hv1;exact XI P U v R ha hm hb hN hl (by omega) hU (hwV v (by simp)) hwU
    have hP : ((a : Int) + b) / 2 ^ (1 : Int).toNat = (((a + b) / 2 : Nat) : Int) := by rw [show (2 : Int) ^ (1 : Int).toNat = 2 from rfl];omega
    have hw1 : IntKind.u64.wrap ((a : Int) + b) = (a : Int) + b := BT (by omega) (by omega)
    have hw2 : IntKind.i64.wrap (((a + b) / 2 : Nat) : Int) = (((a + b) / 2 : Nat) : Int) := IntWalk.i64_in _ (by omega)
    obtain ⟨mid,hmid⟩ : ∃ mid,mid = (a + b) / 2 := ⟨_,rfl⟩;rw [← hmid] at hP hw2;have hD1 : ∀ i,a ≤ i → i < m → (P ++ (U ++ (V ++ R)))[i]? = U[i - a]? := fun i h1 h2 => RH (by omega) (by omega)
    have hD2 : ∀ i,m ≤ i → i < b → (P ++ (U ++ (V ++ R)))[i]? = V[i - m]? := fun i h1 h2 => RG (by omega) (by omega)
    have hcut : ∀ {lo hi s : Nat},_ := @TA P U V R a m b mid (mid + m);generalize hDe : P ++ (U ++ (V ++ R)) = D at *;refine bK T Tryz.func140 rfl rfl rfl rfl ?_;apply Go.Ab.cutT (T := ∀ lo hi : Nat,(mid < m ∧ lo = mid + m - b ∧ hi = mid ∨ m ≤ mid ∧ lo = a ∧ hi = m) → _)
    · intro rest;by_cases h : mid < m
      · obtain ⟨lo,hlo⟩ : ∃ lo : Nat,lo = mid + m - b := ⟨_,rfl⟩;obtain ⟨hi,hhi⟩ : ∃ hi : Nat,hi = mid := ⟨_,rfl⟩
        (repeat' (first|refine wS ?_|refine wB ?_|refine wK ?_|refine wU ?_|(refine wC rfl ?_ ?_<;>(intro hb;(try simp only [nm] at hb);try (exfalso;omega)))|(refine rg 0 (dQ rfl (vV (cO rfl rfl (by omega) (by omega)) (vV (fP rfl rfl (by omega)) ?_))))|(refine rg 12 (dQ rfl (vV (cO rfl rfl (by omega) (by omega)) (vV (fP rfl rfl (by omega)) ?_))))|(refine rg 24 (dQ rfl (vV (bS rfl rfl (by omega) (by omega)) (vV (iG uU oY rfl hw1) (vV (by exact hP ▸ rC rfl rfl (by decide) (by decide)) ?_))));refine vV (iG oY uU rfl hw2) (aV ?_))|(refine rg 25 (dQ rfl (vV (bS rfl rfl (by omega) (by omega)) (aV ?_))))|(refine rg 26 (qA ?_))|(refine rg 27 (dQ rfl (vV (fU rfl rfl) ?_)))|(refine rg 28 (dQ rfl (vV (cO rfl rfl (by omega) (by omega)) (aV ?_))))|(refine rg 29 (mW rfl (aV ?_)))|(refine rg 32 (mW rfl (vV (cO rfl rfl (by omega) (by omega)) (aV ?_))))|refine nZ ?_));all_goals first | (exfalso;omega) | exact eP [(0,.sl 0 0 N 3),(1,.i a),(2,.i m),(3,.i b),(4,pF),(18,.i mid),(19,.i ((mid : Int) + m)),(20,.i lo),(21,.i hi),(22,.i ((mid : Int) + m - 1))] [.arr (eY D) 3] ⟨[0],rfl,⟨rfl,rfl,rfl,rfl,rfl,rfl,rfl,by rw [show (lo : Int) = (mid : Int) + m - b by omega];rfl,by rw [hhi];rfl,rfl,trivial⟩,⟨.inr (aG rfl rfl (bE _)),trivial⟩,by decide,kN⟩ (rest.get lo hi (by omega))
      · obtain ⟨lo,hlo⟩ : ∃ lo : Nat,lo = a := ⟨_,rfl⟩;obtain ⟨hi,hhi⟩ : ∃ hi : Nat,hi = m := ⟨_,rfl⟩
        (repeat' (first|refine wS ?_|refine wB ?_|refine wK ?_|refine wU ?_|(refine wC rfl ?_ ?_<;>(intro hb;(try simp only [nm] at hb);try (exfalso;omega)))|(refine rg 0 (dQ rfl (vV (cO rfl rfl (by omega) (by omega)) (vV (fP rfl rfl (by omega)) ?_))))|(refine rg 12 (dQ rfl (vV (cO rfl rfl (by omega) (by omega)) (vV (fP rfl rfl (by omega)) ?_))))|(refine rg 24 (dQ rfl (vV (bS rfl rfl (by omega) (by omega)) (vV (iG uU oY rfl hw1) (vV (by exact hP ▸ rC rfl rfl (by decide) (by decide)) ?_))));refine vV (iG oY uU rfl hw2) (aV ?_))|(refine rg 25 (dQ rfl (vV (bS rfl rfl (by omega) (by omega)) (aV ?_))))|(refine rg 26 (qA ?_))|(refine rg 27 (dQ rfl (vV (fU rfl rfl) ?_)))|(refine rg 30 (mW rfl (aV ?_)))|(refine rg 31 (mW rfl (aV ?_)))|(refine rg 32 (mW rfl (vV (cO rfl rfl (by omega) (by omega)) (aV ?_))))|refine nZ ?_));all_goals first | (exfalso;omega) | exact eP [(0,.sl 0 0 N 3),(1,.i a),(2,.i m),(3,.i b),(4,pF),(18,.i mid),(19,.i ((mid : Int) + m)),(20,.i lo),(21,.i hi),(22,.i ((mid : Int) + m - 1))] [.arr (eY D) 3] ⟨[0],rfl,⟨rfl,rfl,rfl,rfl,rfl,rfl,rfl,by rw [hlo];rfl,by rw [hhi];rfl,rfl,trivial⟩,⟨.inr (aG rfl rfl (bE _)),trivial⟩,by decide,kN⟩ (rest.get lo hi (by omega))
    intro lo hi hc;have hcut := fun s => @hcut lo hi s ha hm hb hmid rfl hU hV hc
    refine cK (X := {q : Nat × Nat // lo ≤ q.1 ∧ q.1 ≤ q.2 ∧ q.2 ≤ hi ∧ (∀ x y, lo < q.1 → D[q.1 - 1]? = some x → D[mid + m - q.1]? = some y → ¬ eH y x < 0) ∧ (∀ x y, q.2 < hi → D[q.2]? = some x → D[mid + m - 1 - q.2]? = some y → eH y x < 0)})
      (fun q => [(0,.sl 0 0 N 3),(1,.i a),(2,.i m),(3,.i b),(4,pF),(18,.i mid),(19,.i ((mid : Int) + m)),(20,.i q.1.1),(21,.i q.1.2),(22,.i ((mid : Int) + m - 1))]) (fun _ => [.arr (eY D) 3]) (fun q => q.1.2 - q.1.1) ⟨(lo,hi),by dsimp only;exact ⟨by omega,by omega,by omega,fun x y h => by omega,fun x y h => by omega⟩⟩
      ⟨[0],rfl,by (repeat (first | exact trivial | refine ⟨rfl,?_⟩)),⟨.inr (aG rfl rfl (bE _)),trivial⟩,by decide,kN⟩ ?_
    rintro ⟨⟨i,j⟩,h1,h2,h3,h4,h5⟩;dsimp only at h1 h2 h3 h4 h5 ⊢;have hlo : a ≤ lo ∧ hi ≤ m ∧ m ≤ mid + m - hi ∧ mid + m - lo ≤ b ∧ lo ≤ mid + m := by omega
    by_cases hij : i < j
    · clear hP hw1 hw2;have hP : ((i : Int) + j) / 2 ^ (1 : Int).toNat = (((i + j) / 2 : Nat) : Int) := by rw [show (2 : Int) ^ (1 : Int).toNat = 2 from rfl];omega
      have hw1 : IntKind.u64.wrap ((i : Int) + j) = (i : Int) + j := BT (by omega) (by omega)
      have hw2 : IntKind.i64.wrap (((i + j) / 2 : Nat) : Int) = (((i + j) / 2 : Nat) : Int) := IntWalk.i64_in _ (by omega)
      have hh : i ≤ (i + j) / 2 ∧ (i + j) / 2 < j := by omega
      generalize hq : (i + j) / 2 = q at *;obtain ⟨x,hx⟩ : ∃ x,U[q - a]? = some x := ⟨_,aB (by omega)⟩
      obtain ⟨y,hy⟩ : ∃ y,V[mid + m - 1 - q - m]? = some y := ⟨_,aB (by omega)⟩
      have wx := hwU x (aM hx);have wy := hwV y (aM hy);rw [← hD1 q (by omega) (by omega)] at hx
      rw [← hD2 (mid + m - 1 - q) (by omega) (by omega)] at hy
      have q1 := nS (j := (mid : Int) + m - 1 - q) hy (by omega)
      have q2 := nS (j := (q : Int)) hx rfl;have hc' := tK y x wy wx;by_cases h0 : eH y x < 0
      · generalize hz : eH y x = z at *
        (repeat' (first|refine wS ?_|refine wB ?_|refine wK ?_|(refine wC rfl ?_ ?_<;>(intro hb;(try simp only [nm] at hb);try (exfalso;omega)))|(refine rg 33 (dQ rfl (vV (aJ rfl rfl) ?_)))|(refine rg 34 (dQ rfl (vV (bS rfl rfl (by omega) (by omega)) (vV (iG uU oY rfl hw1) (vV (by exact hP ▸ rC rfl rfl (by decide) (by decide)) ?_))));refine vV (iG oY uU rfl hw2) (aV ?_))|(refine cJ (id := 35) 220 zM7 (rM 158 14) zM8 cN rfl (by decide +kernel) (dN rfl (dN rfl (dN rfl (dN rfl (dV rfl (cO rfl rfl (by omega) (by omega)) (dV rfl (by exact aL T rfl rfl rfl rfl rfl (by omega) (by omega)) ?_))))));refine dV rfl (by exact aT T rfl rfl (bJ rfl q1) rfl) ?_;refine dN rfl (dN rfl (dV rfl (by exact aL T rfl rfl rfl rfl rfl (by omega) (by omega)) ?_));refine dV rfl (by exact aT T rfl rfl (bJ rfl q2) rfl) ?_;refine dV rfl (kC (hc')) (dV rfl (aJ rfl rfl) (dV rfl (eL rfl) (dE ?_))))|(refine rg 37 (mW rfl (aV ?_)))|refine nZ ?_));all_goals first | (exfalso;omega) | skip
        exact ⟨⟨(i,q),by dsimp only;exact ⟨by omega,by omega,by omega,h4,fun x' y' _ hx' hy' => by rw [hx] at hx';rw [hy] at hy';cases hx';cases hy';omega⟩⟩,by dsimp only;omega,⟨[0],rfl,by (repeat (first | exact trivial | refine ⟨rfl,?_⟩)),⟨.inr (aG rfl rfl (bE _)),trivial⟩,by decide,kN⟩⟩
      · generalize hz : eH y x = z at *
        (repeat' (first|refine wS ?_|refine wB ?_|refine wK ?_|(refine wC rfl ?_ ?_<;>(intro hb;(try simp only [nm] at hb);try (exfalso;omega)))|(refine rg 33 (dQ rfl (vV (aJ rfl rfl) ?_)))|(refine rg 34 (dQ rfl (vV (bS rfl rfl (by omega) (by omega)) (vV (iG uU oY rfl hw1) (vV (by exact hP ▸ rC rfl rfl (by decide) (by decide)) ?_))));refine vV (iG oY uU rfl hw2) (aV ?_))|(refine cJ (id := 35) 220 zM7 (rM 158 14) zM8 cN rfl (by decide +kernel) (dN rfl (dN rfl (dN rfl (dN rfl (dV rfl (cO rfl rfl (by omega) (by omega)) (dV rfl (by exact aL T rfl rfl rfl rfl rfl (by omega) (by omega)) ?_))))));refine dV rfl (by exact aT T rfl rfl (bJ rfl q1) rfl) ?_;refine dN rfl (dN rfl (dV rfl (by exact aL T rfl rfl rfl rfl rfl (by omega) (by omega)) ?_));refine dV rfl (by exact aT T rfl rfl (bJ rfl q2) rfl) ?_;refine dV rfl (kC (hc')) (dV rfl (aJ rfl rfl) (dV rfl (eL rfl) (dE ?_))))|(refine iA 36 rfl rfl rfl (by omega) (by omega) ?_)|refine nZ ?_));all_goals first | (exfalso;omega) | skip
        exact ⟨⟨(q + 1,j),by dsimp only;exact ⟨by omega,by omega,by omega,fun x' y' _ hx' hy' => by rw [show q + 1 - 1 = q by omega,hx] at hx';rw [show mid + m - (q + 1) = mid + m - 1 - q by omega,hy] at hy';cases hx';cases hy';omega,h5⟩⟩,by dsimp only;omega,⟨[0],rfl,by (repeat (first | exact trivial | refine ⟨rfl,?_⟩)),⟨.inr (aG rfl rfl (bE _)),trivial⟩,by decide,kN⟩⟩
    · obtain rfl : i = j := by omega
      obtain ⟨X1,X2,Y1,Y2,rfl,rfl,e1,e2,e3,hsrt⟩ := hcut i (by omega) (by omega) h4 h5
      clear hcut h4 h5 hD1 hD2 hP hw1 hw2;rw [hsrt];obtain ⟨e,he⟩ : ∃ e,e = m + Y1.length := ⟨_,rfl⟩;simp only [aD] at hm hb hU0 hV0 hu1 hv1;have uX1 := zA1 hU;have uX2 := zA0 hU;have uY1 := zA1 hV;have uY2 := zA0 hV;have w1 := ih P X1 Y1 (X2 ++ (Y2 ++ R)) (a := a) (m := i) (b := mid) (N := N);have w2 := ih (P ++ dW eH (X1 ++ Y1)) X2 Y2 R (a := mid) (m := e) (b := b) (N := N);have hsl : (dW eH (X1 ++ Y1)).length = X1.length + Y1.length := by rw [gY,aD]
      have w0 := NJ (P ++ X1) X2 Y1 (Y2 ++ R) (a := i) (m := m) (b := e) (N := N);simp only [aD,hsl] at w0 w1 w2;have c0 : i < m → m < e → _ := fun h h' => w0 (by omega) (by omega) (by omega) (by omega) hl (by omega) (by omega)
      have c1 : a < i → i < mid → _ := fun h h' => w1 (by omega) (by omega) (by omega) ha (by omega) (by omega) (by omega) hl uX1 uY1 (fun w hw => hwU w (by simp [hw])) (fun w hw => hwV w (by simp [hw]))
      have c2 : mid < e → e < b → _ := fun h h' => w2 (by omega) (by omega) (by omega) (by omega) (by omega) (by omega) (by omega) hl uX2 uY2 (fun w hw => hwU w (by simp [hw])) (fun w hw => hwV w (by simp [hw]))
      have d0 : ¬ (i < m ∧ m < e) → D = P ++ (X1 ++ (Y1 ++ (X2 ++ (Y2 ++ R)))) := fun h => by
        rw [← hDe];by_cases h' : X2.length = 0
        · rw [bL h'];simp
        · rw [bL (show Y1.length = 0 by omega)];simp
      have d1 : ¬ (a < i ∧ i < mid) → P ++ (X1 ++ (Y1 ++ (X2 ++ (Y2 ++ R)))) = P ++ (dW eH (X1 ++ Y1) ++ (X2 ++ (Y2 ++ R))) := fun h => by
        by_cases h' : X1.length = 0
        · rw [bL h',List.nil_append,List.nil_append,J0 uY1]
        · rw [bL (show Y1.length = 0 by omega),List.nil_append,List.append_nil,J0 uX1]
      have d2 : ¬ (mid < e ∧ e < b) → P ++ (dW eH (X1 ++ Y1) ++ (X2 ++ (Y2 ++ R))) = P ++ (dW eH (X1 ++ Y1) ++ dW eH (X2 ++ Y2) ++ R) := fun h => by
        by_cases h' : X2.length = 0
        · rw [bL h',List.nil_append,List.nil_append,J0 uY2];simp
        · rw [bL (show Y2.length = 0 by omega),List.nil_append,List.append_nil,J0 uX2];simp
      have g0 : (P ++ X1) ++ (X2 ++ (Y1 ++ (Y2 ++ R))) = D := by rw [← hDe];simp
      have g1 : (P ++ X1) ++ (Y1 ++ (X2 ++ (Y2 ++ R))) = P ++ (X1 ++ (Y1 ++ (X2 ++ (Y2 ++ R)))) := by simp
      have g2 : (P ++ dW eH (X1 ++ Y1)) ++ (X2 ++ (Y2 ++ R)) = P ++ (dW eH (X1 ++ Y1) ++ (X2 ++ (Y2 ++ R))) := by simp
      have g3 : (P ++ dW eH (X1 ++ Y1)) ++ (dW eH (X2 ++ Y2) ++ R) = P ++ (dW eH (X1 ++ Y1) ++ dW eH (X2 ++ Y2) ++ R) := by simp
      rw [g0,g1] at c0;rw [g2,g3] at c2;clear w0 w1 w2 ih g0 g1 g2 g3 hDe hwU hwV;generalize P ++ (dW eH (X1 ++ Y1) ++ dW eH (X2 ++ Y2) ++ R) = A3 at *;generalize P ++ (dW eH (X1 ++ Y1) ++ (X2 ++ (Y2 ++ R))) = A2 at *;generalize P ++ (X1 ++ (Y1 ++ (X2 ++ (Y2 ++ R)))) = A1 at *;apply Go.Ab.cutT
      · intro rest;by_cases h : i < m ∧ m < e
        · have hc' := c0 h.1 h.2;rw [show (e : Int) = (mid : Int) + m - i by omega] at hc'
          (repeat' (first|refine wS ?_|refine wE ?_|(refine wC rfl ?_ ?_<;>(intro hb;(try simp only [nm] at hb);try (exfalso;omega)))|(refine rg 33 (dQ rfl (vV (aJ rfl rfl) ?_)))|(refine rg 38 (dQ rfl (vV (cO rfl rfl (by omega) (by omega)) (aV ?_))))|(refine rg 39 (dQ rfl (vV (aJ rfl rfl) (mV ?_)));refine cC rfl rfl ?_ ?_<;>(intro hb;rw [hb];(try simp only [nm] at hb);try (exfalso;omega));(all_goals (refine yN rfl (yN rfl (yV (aJ rfl rfl) (pV ?_))))))|(refine rg 40 (dQ rfl (dQ rfl (mW rfl (eJ [0] rfl rfl (hc') rfl rfl (by decide) ⟨.inr (aG rfl rfl (bE _)),trivial⟩ (by simp) rfl ?_)))))|refine nZ ?_));all_goals first | (exfalso;omega) | exact eP [(0,.sl 0 0 N 3),(1,.i a),(3,.i b),(4,pF),(18,.i mid),(20,.i i),(24,.i e)] [.arr (eY A1) 3] ⟨[0],rfl,⟨rfl,rfl,rfl,rfl,rfl,rfl,by rw [show (e : Int) = (mid : Int) + m - i by omega];rfl,trivial⟩,⟨.inr (aG rfl (cE _ (bE _)) (bE _)),trivial⟩,by decide,kN⟩ rest.get
        · obtain rfl := d0 h
          (repeat' (first|refine wS ?_|refine wK ?_|refine wE ?_|refine wU ?_|(refine wC rfl ?_ ?_<;>(intro hb;(try simp only [nm] at hb);try (exfalso;omega)))|(refine rg 33 (dQ rfl (vV (aJ rfl rfl) ?_)))|(refine rg 38 (dQ rfl (vV (cO rfl rfl (by omega) (by omega)) (aV ?_))))|(refine rg 39 (dQ rfl (vV (aJ rfl rfl) (mV ?_)));refine cC rfl rfl ?_ ?_<;>(intro hb;rw [hb];(try simp only [nm] at hb);try (exfalso;omega));(all_goals first|(refine gT (mW rfl (gT (mW rfl (gT (vV (aJ rfl rfl) ?_))))))|(iterate 3 refine gF ?_));(all_goals (refine pV ?_)))|refine nZ ?_));all_goals first | (exfalso;omega) | exact eP [(0,.sl 0 0 N 3),(1,.i a),(3,.i b),(4,pF),(18,.i mid),(20,.i i),(24,.i e)] [.arr (eY D) 3] ⟨[0],rfl,⟨rfl,rfl,rfl,rfl,rfl,rfl,by rw [show (e : Int) = (mid : Int) + m - i by omega];rfl,trivial⟩,⟨.inr (aG rfl rfl (bE _)),trivial⟩,by decide,kN⟩ rest.get
      clear c0 d0;apply Go.Ab.cutT
      · intro rest;by_cases h : a < i ∧ i < mid
        · have hc' := c1 h.1 h.2
          (repeat' (first|refine wS ?_|(refine wC rfl ?_ ?_<;>(intro hb;(try simp only [nm] at hb);try (exfalso;omega)))|(refine rg 41 (dQ rfl (vV (aJ rfl rfl) (mV ?_)));refine cC rfl rfl ?_ ?_<;>(intro hb;rw [hb];(try simp only [nm] at hb);try (exfalso;omega));(all_goals (refine yN rfl (yN rfl (yV (aJ rfl rfl) (pV ?_))))))|(refine rg 42 (dQ rfl (dQ rfl (mW rfl (eJ [0] rfl rfl (hc') rfl rfl (by decide) ⟨.inr (aG rfl rfl (bE _)),trivial⟩ (by simp) rfl ?_)))))|refine nZ ?_));all_goals first | (exfalso;omega) | exact eP [(0,.sl 0 0 N 3),(1,.i a),(3,.i b),(4,pF),(18,.i mid),(24,.i e)] [.arr (eY A2) 3] ⟨[0],rfl,(by repeat first|exact trivial|refine ⟨rfl,?_⟩),⟨.inr (aG rfl (cE _ (bE _)) (bE _)),trivial⟩,by decide,kN⟩ rest.get
        · obtain rfl := d1 h
          (repeat' (first|refine wS ?_|refine wK ?_|refine wU ?_|(refine wC rfl ?_ ?_<;>(intro hb;(try simp only [nm] at hb);try (exfalso;omega)))|(refine rg 41 (dQ rfl (vV (aJ rfl rfl) (mV ?_)));refine cC rfl rfl ?_ ?_<;>(intro hb;rw [hb];(try simp only [nm] at hb);try (exfalso;omega));(all_goals first|(refine gT (mW rfl (gT (mW rfl (gT (vV (aJ rfl rfl) ?_))))))|(iterate 3 refine gF ?_));(all_goals (refine pV ?_)))|refine nZ ?_));all_goals first | (exfalso;omega) | exact eP [(0,.sl 0 0 N 3),(1,.i a),(3,.i b),(4,pF),(18,.i mid),(24,.i e)] [.arr (eY A1) 3] ⟨[0],rfl,(by repeat first|exact trivial|refine ⟨rfl,?_⟩),⟨.inr (aG rfl rfl (bE _)),trivial⟩,by decide,kN⟩ rest.get
      clear c1 d1;by_cases h : mid < e ∧ e < b
      · have hc' := c2 h.1 h.2
        (repeat' (first|(refine wC rfl ?_ ?_<;>(intro hb;(try simp only [nm] at hb);try (exfalso;omega)))|(refine rg 43 (dQ rfl (vV (aJ rfl rfl) (mV ?_)));refine cC rfl rfl ?_ ?_<;>(intro hb;rw [hb];(try simp only [nm] at hb);try (exfalso;omega));(all_goals (refine yN rfl (yN rfl (yV (aJ rfl rfl) (pV ?_))))))|(refine rg 44 (dQ rfl (dQ rfl (mW rfl (eJ [0] rfl rfl (hc') rfl rfl (by decide) ⟨.inr (aG rfl rfl (bE _)),trivial⟩ (by simp) rfl ?_)))))|refine nZ ?_));all_goals first | (exfalso;omega) | exact ⟨.inl rfl,[0],_,rfl,rfl,rfl,⟨.inr (aG rfl (cE _ (bE _)) (bE _)),trivial⟩,by decide,kN⟩ | exact ⟨.inr rfl,[0],_,rfl,rfl,rfl,⟨.inr (aG rfl (cE _ (bE _)) (bE _)),trivial⟩,by decide,kN⟩
      · obtain rfl := d2 h
        (repeat' (first|refine wK ?_|refine wU ?_|(refine wC rfl ?_ ?_<;>(intro hb;(try simp only [nm] at hb);try (exfalso;omega)))|(refine rg 43 (dQ rfl (vV (aJ rfl rfl) (mV ?_)));refine cC rfl rfl ?_ ?_<;>(intro hb;rw [hb];(try simp only [nm] at hb);try (exfalso;omega));(all_goals first|(refine gT (mW rfl (gT (mW rfl (gT (vV (aJ rfl rfl) ?_))))))|(iterate 3 refine gF ?_));(all_goals (refine pV ?_)))|refine nZ ?_));all_goals first | (exfalso;omega) | exact ⟨.inl rfl,[0],_,rfl,rfl,rfl,⟨.inr (aG rfl rfl (bE _)),trivial⟩,by decide,kN⟩ | exact ⟨.inr rfl,[0],_,rfl,rfl,rfl,⟨.inr (aG rfl rfl (bE _)),trivial⟩,by decide,kN⟩
end Go.Proofs.YtbialaoigijlgaaGreatDoor
namespace Go.Ld
open Go.Ab Go.Proofs.YtbialaoigijlgaaGreatDoor
theorem HR {Q r1 r2 : List W} {a b : Nat} (ha : a = Q.length) (hb : b = a + r1.length) : MF (Q ++ (r1 ++ r2)) a b = Q ++ (dW eH r1 ++ r2) := by
  subst ha hb;unfold MF;rw [sV,sY,show Q.length + r1.length - Q.length = r1.length by omega,sV,← EZ,sY,sY]
theorem IF {Q r1 r2 : List W} {w : W} (h : w ∈ (Q ++ dW eH r1) ++ r2) : w ∈ Q ++ (r1 ++ r2) := by
  rw [bD] at h;rcases bQ.1 h with h | h
  · exact bQ.2 (.inl h)
  · rcases bQ.1 h with h | h
    · exact bQ.2 (.inr (bQ.2 (.inl ((dU _ _).mem_iff.1 h))))
    · exact bQ.2 (.inr (bQ.2 (.inr h)))
end Go.Ld
namespace Go.Proofs.YtbialaoigijlgaaGreatDoor
open Go Go.Ab Go.Ld
attribute [local irreducible] VC AW bV aO
set_option maxHeartbeats 4000000
theorem NA (l : List W) {N : Nat} (hN : N = l.length) (hl : N ≤ 100000) (hw : ∀ w,w ∈ l → A7 w) :
    aO Tryz.prog 113 [.sl 0 0 N 3,.i N,pF] [.arr (eY l) 3] (.tup []) [.arr (eY (dW eH l)) 3] := by
  refine bK T Tryz.func113 rfl rfl rfl rfl ?_;apply Go.Ab.cutT
  · intro rest
    (repeat' (first|refine wS ?_|refine wB ?_|(refine rg 0 (aV ?_))|(refine rg 1 (mW rfl (qA ?_)))|refine nZ ?_));refine cK (X := {q : Nat × List W × List W // q.2.1.length = q.1 ∧ q.1 + q.2.2.length = N ∧ bs 20 l = q.2.1 ++ bs 20 q.2.2 ∧ ∀ w, w ∈ q.2.1 ++ q.2.2 → w ∈ l})
      (fun q => [(0,.sl 0 0 N 3),(1,.i N),(2,pF),(6,.i 20),(7,.i q.1.1),(8,.i ((q.1.1 : Int) + 20))]) (fun q => [.arr (eY (q.1.2.1 ++ q.1.2.2)) 3]) (fun q => q.1.2.2.length) ⟨(0,[],l),by simp;omega⟩
      ⟨[0],rfl,by (repeat (first | exact trivial | refine ⟨rfl,?_⟩)),⟨.inr (aG rfl rfl (bE _)),trivial⟩,by decide,kN⟩ ?_
    rintro ⟨⟨a,Q,r⟩,h1,h2,h3,h4⟩;dsimp only at h1 h2 h3 h4 ⊢;by_cases hlt : a + 20 ≤ N
    · obtain ⟨r1,r2,rfl,hr⟩ : ∃ r1 r2,r = r1 ++ r2 ∧ r1.length = 20 := ⟨r.take 20,r.drop 20,by simp,by simp;omega⟩
      rw [aD] at h2;have hc := DH (Q ++ (r1 ++ r2)) a (a + 20) (by omega) (by simp;omega) (by simp;omega) (fun w hw' => hw w (h4 w hw'))
      rw [HR h1.symm (by omega),show (Q ++ (r1 ++ r2)).length = N by simp;omega,show ((a + 20 : Nat) : Int) = (a : Int) + 20 by omega] at hc
      rw [O9 hr (by omega)] at h3
      (repeat' (first|refine wS ?_|refine wB ?_|refine wK ?_|(refine wC rfl ?_ ?_<;>(intro hb;(try simp only [nm] at hb);try (exfalso;omega)))|(refine rg 2 (dQ rfl (vV (iP rfl rfl) ?_)))|(refine rg 3 (dQ rfl (dQ rfl (eJ [0] rfl rfl (hc) rfl rfl (by decide) ⟨.inr (aG rfl rfl (bE _)),trivial⟩ (by simp) rfl ?_))))|(refine rg 4 (mW rfl (aV ?_)))|(refine rg 5 (dQ rfl (vV (bS rfl rfl (by omega) (by omega)) (aV ?_))))|refine nZ ?_));all_goals first | (exfalso;omega) | skip
      exact ⟨⟨(a + 20,Q ++ dW eH r1,r2),by dsimp only;exact ⟨by rw [aD,gY];omega,by omega,by rw [h3];simp,fun w hw' => h4 w (IF hw')⟩⟩,by dsimp only;rw [aD];omega,⟨[0],rfl,by (repeat (first | exact trivial | refine ⟨rfl,?_⟩)),⟨.inr (aG rfl (by rw [cE _ (bE _),bD]) (bE _)),trivial⟩,by decide,kN⟩⟩
    · have hc := DH (Q ++ (r ++ [])) a N (by omega) (by simp;omega) (by simp;omega) (fun w hw' => hw w (h4 w (by simpa using hw')))
      rw [HR h1.symm (by omega),List.append_nil,List.append_nil,show (Q ++ r).length = N by simp;omega,← G8 (k := 20) (by omega),← h3] at hc
      (repeat' (first|refine wS ?_|refine wB ?_|refine wE ?_|(refine wC rfl ?_ ?_<;>(intro hb;(try simp only [nm] at hb);try (exfalso;omega)))|(refine rg 2 (dQ rfl (vV (iP rfl rfl) ?_)))|(refine rg 6 (dQ rfl (dQ rfl (eJ [0] rfl rfl (hc) rfl rfl (by decide) ⟨.inr (aG rfl rfl (bE _)),trivial⟩ (by simp) rfl ?_))))|refine nZ ?_));all_goals first | (exfalso;omega) | exact eP [(0,.sl 0 0 N 3),(1,.i N),(2,pF),(6,.i 20)] [.arr (eY (bs 20 l)) 3] ⟨[0],rfl,by (repeat (first | exact trivial | refine ⟨rfl,?_⟩)),⟨.inr (aG rfl (cE _ (bE _)) (bE _)),trivial⟩,by decide,kN⟩ rest.get
  refine cK (X := {k : Nat // 20 ≤ k ∧ k ≤ 200000}) (fun k => [(0, .sl 0 0 N 3), (1, .i N), (2, pF), (6, .i k.1)]) (fun k => [.arr (eY (bs k.1 l)) 3]) (fun k => N - k.1) ⟨20, by omega, by omega⟩
    ⟨[0],rfl,by (repeat (first | exact trivial | refine ⟨rfl,?_⟩)),⟨.inr (aG rfl rfl (bE _)),trivial⟩,by decide,kN⟩ ?_
  rintro ⟨k,hk,hk2⟩;dsimp only;by_cases hkN : k < N
  · (repeat' (first|refine wS ?_|refine wB ?_|refine wK ?_|(refine wC rfl (fun hb => ?_) (fun hb => ?_) <;> (((try simp only [nm] at hb);try (exfalso;omega))))|(refine rg 7 (dQ rfl (vV (aJ rfl rfl) ?_)))|(refine rg 8 (mW rfl (vV (xE rfl rfl (by omega) (by omega)) (qA ?_))))|(refine nZ ?_)));all_goals try (exfalso;omega)
    refine cK (X := {q : Nat × List W × List W // q.2.1.length = q.1 ∧ q.1 + q.2.2.length = N ∧ bs (2 * k) l = q.2.1 ++ bs (2 * k) q.2.2 ∧ ∀ w, w ∈ q.2.1 ++ q.2.2 → w ∈ l})
      (fun q => [(0,.sl 0 0 N 3),(1,.i N),(2,pF),(6,.i k),(7,.i q.1.1),(8,.i ((q.1.1 : Int) + 2 * k))]) (fun q => [.arr (eY (q.1.2.1 ++ bs k q.1.2.2)) 3]) (fun q => q.1.2.2.length) ⟨(0,[],l),by simp;omega⟩
      ⟨[0],rfl,⟨rfl,rfl,rfl,rfl,rfl,by dsimp only;rw [show ((0 : Nat) : Int) + 2 * (k : Int) = 2 * k by omega];rfl,trivial⟩,⟨.inr (aG rfl rfl (bE _)),trivial⟩,by decide,kN⟩ ?_
    rintro ⟨⟨a,Q,r⟩,h1,h2,h3,h4⟩;dsimp only at h1 h2 h3 h4 ⊢;by_cases hlt : a + 2 * k ≤ N
    · obtain ⟨r1,r2,r3,rfl,hr1,hr2⟩ : ∃ r1 r2 r3,r = r1 ++ (r2 ++ r3) ∧ r1.length = k ∧ r2.length = k := ⟨r.take k,(r.drop k).take k,(r.drop k).drop k,by simp only [bG],by simp;omega,by simp;omega⟩
      simp only [aD] at h2;have hc := WM (2 * k) Q (dW eH r1) (dW eH r2) (bs k r3) (a := a) (m := a + k) (b := a + 2 * k) (N := N) (by omega) (by rw [gY]; omega) (by rw [gY]; omega) h1.symm (by rw [gY]; omega) (by rw [gY]; omega) (by rw [ZD]; omega) hl (kD iJ _) (kD iJ _)
        (fun w hw' => hw w (h4 w (by have := (dU eH _).mem_iff.1 hw';simp [this]))) (fun w hw' => hw w (h4 w (by have := (dU eH _).mem_iff.1 hw';simp [this])))
      rw [CK,← O9 hr2 (by omega),← O9 hr1 (by omega),show ((a + 2 * k : Nat) : Int) = (a : Int) + 2 * k by omega,show ((a + k : Nat) : Int) = (a : Int) + k by omega] at hc
      rw [← bD r1,O9 (k := 2 * k) (by rw [aD];omega) (by omega)] at h3
      (repeat' (first|refine wS ?_|refine wB ?_|refine wK ?_|(refine wC rfl ?_ ?_<;>(intro hb;(try simp only [nm] at hb);try (exfalso;omega)))|(refine rg 9 (dQ rfl (vV (iP rfl rfl) ?_)))|(refine rg 10 (dQ rfl (dQ rfl (vV (bS rfl rfl (by omega) (by omega)) (dQ rfl (eJ [0] rfl rfl (hc) rfl rfl (by decide) ⟨.inr (aG rfl rfl (bE _)),trivial⟩ (by simp) rfl ?_))))))|(refine rg 11 (mW rfl (aV ?_)))|(refine rg 12 (dQ rfl (vV (xE rfl rfl (by omega) (by omega)) (vV (bS rfl rfl (by omega) (by omega)) (aV ?_)))))|refine nZ ?_));all_goals first | (exfalso;omega) | skip
      exact ⟨⟨(a + 2 * k,Q ++ dW eH (r1 ++ r2),r3),by dsimp only;exact ⟨by rw [aD,gY,aD];omega,by omega,by rw [h3];simp,fun w hw' => h4 w (by have := IF hw';rwa [bD] at this)⟩⟩,by dsimp only;simp only [aD];omega,⟨[0],rfl,by (repeat (first | exact trivial | refine ⟨rfl,?_⟩)),⟨.inr (aG rfl (by rw [cE _ (bE _),bD]) (bE _)),trivial⟩,by decide,kN⟩⟩
    · by_cases hm : a + k < N
      · obtain ⟨r1,r2,rfl,hr1⟩ : ∃ r1 r2,r = r1 ++ r2 ∧ r1.length = k := ⟨r.take k,r.drop k,by simp,by simp;omega⟩
        simp only [aD] at h2;have hc := WM (2 * k) Q (dW eH r1) (dW eH r2) [] (a := a) (m := a + k) (b := N) (N := N) (by omega) (by rw [gY]; omega) (by rw [gY]; omega) h1.symm (by rw [gY]; omega) (by rw [gY]; omega) (by simp) hl (kD iJ _) (kD iJ _)
          (fun w hw' => hw w (h4 w (by have := (dU eH _).mem_iff.1 hw';simp [this]))) (fun w hw' => hw w (h4 w (by have := (dU eH _).mem_iff.1 hw';simp [this])))
        rw [CK,List.append_nil,List.append_nil,← G8 (k := 2 * k) (l := r1 ++ r2) (by rw [aD];omega),← h3,← G8 (k := k) (l := r2) (by omega),← O9 hr1 (by omega),show ((a + k : Nat) : Int) = (a : Int) + k by omega] at hc
        (repeat' (first|refine wS ?_|refine wE ?_|(refine wC rfl ?_ ?_<;>(intro hb;(try simp only [nm] at hb);try (exfalso;omega)))|(refine rg 9 (dQ rfl (vV (iP rfl rfl) ?_)))|(refine rg 13 (dQ rfl (vV (bS rfl rfl (by omega) (by omega)) (aV ?_))))|(refine rg 14 (dQ rfl (vV (aJ rfl rfl) ?_)))|(refine rg 15 (dQ rfl (dQ rfl (mW rfl (eJ [0] rfl rfl (hc) rfl rfl (by decide) ⟨.inr (aG rfl rfl (bE _)),trivial⟩ (by simp) rfl ?_)))))|(refine rg 16 (mW rfl (vV (xE rfl rfl (by omega) (by omega)) (aV ?_))))|refine nZ ?_));all_goals first | (exfalso;omega) | skip
        exact ⟨⟨2 * k,by omega,by omega⟩,by dsimp only;omega,⟨[0],rfl,⟨rfl,rfl,rfl,by dsimp only;rw [show ((2 * k : Nat) : Int) = (k : Int) * 2 by omega];rfl,trivial⟩,⟨.inr (aG rfl (cE _ (bE _)) (bE _)),trivial⟩,by decide,kN⟩⟩
      · rw [G8 (k := 2 * k) (l := r) (by omega),← G8 (k := k) (l := r) (by omega)] at h3
        rw [← h3]
        (repeat' (first|refine wS ?_|refine wK ?_|refine wE ?_|(refine wC rfl ?_ ?_<;>(intro hb;(try simp only [nm] at hb);try (exfalso;omega)))|(refine rg 9 (dQ rfl (vV (iP rfl rfl) ?_)))|(refine rg 13 (dQ rfl (vV (bS rfl rfl (by omega) (by omega)) (aV ?_))))|(refine rg 14 (dQ rfl (vV (aJ rfl rfl) ?_)))|(refine rg 16 (mW rfl (vV (xE rfl rfl (by omega) (by omega)) (aV ?_))))|refine nZ ?_));all_goals first | (exfalso;omega) | skip
        exact ⟨⟨2 * k,by omega,by omega⟩,by dsimp only;omega,⟨[0],rfl,⟨rfl,rfl,rfl,by dsimp only;rw [show ((2 * k : Nat) : Int) = (k : Int) * 2 by omega];rfl,trivial⟩,⟨.inr (aG rfl rfl (bE _)),trivial⟩,by decide,kN⟩⟩
  · rw [G8 (k := k) (l := l) (by omega)]
    (repeat' (first|refine wS ?_|refine wE ?_|(refine wC rfl ?_ ?_<;>(intro hb;(try simp only [nm] at hb);try (exfalso;omega)))|(refine rg 7 (dQ rfl (vV (aJ rfl rfl) ?_)))|refine nZ ?_));all_goals first | (exfalso;omega) | exact ⟨.inl rfl,[0],_,rfl,rfl,rfl,⟨.inr (aG rfl rfl (bE _)),trivial⟩,by decide,kN⟩ | exact ⟨.inr rfl,[0],_,rfl,rfl,rfl,⟨.inr (aG rfl rfl (bE _)),trivial⟩,by decide,kN⟩
theorem TE (l : List W) {N : Nat} (hN : N = l.length) (hl : N ≤ 100000) (hw : ∀ w,w ∈ l → A7 w) :
    aO Tryz.prog 83 [.sl 0 0 N 3,pF] [.arr (eY l) 3] (.tup []) [.arr (eY (dW eH l)) 3] := by
  have hc := NA l hN hl hw;refine bK T Tryz.func83 rfl rfl rfl rfl ?_
  (repeat' (first|(refine rg 0 (dQ rfl (qW T rfl (mW rfl (eJ [0] rfl rfl (hc) rfl rfl (by decide) ⟨.inr (aG rfl rfl (bE _)),trivial⟩ (by simp) rfl ?_)))))|refine nZ ?_));all_goals first | (exfalso;omega) | exact ⟨.inl rfl,[0],_,rfl,rfl,rfl,⟨.inr (aG rfl (cE _ (bE _)) (bE _)),trivial⟩,by decide,kN⟩ | exact ⟨.inr rfl,[0],_,rfl,rfl,rfl,⟨.inr (aG rfl (cE _ (bE _)) (bE _)),trivial⟩,by decide,kN⟩
end Go.Proofs.YtbialaoigijlgaaGreatDoor
namespace Go.Ld
open Go.Ab Go.Proofs.YtbialaoigijlgaaGreatDoor
abbrev w0 : W := ([],0,[])
def wF (l : List W) : Nat → List W
  | 0 => []
  | m + 1 => if 0 < m ∧ xS (l.getD m w0) (l.getD (m - 1) w0) = true then wF l m else wF l m ++ [l.getD m w0]
theorem GU {l : List W} {m : Nat} (h : 0 < m) (e : xS (l.getD m w0) (l.getD (m - 1) w0) = true) : wF l (m + 1) = wF l m := by
  rw [wF,if_pos ⟨h,e⟩]
theorem GS {l : List W} {m : Nat} (e : xS (l.getD m w0) (l.getD (m - 1) w0) = false) : wF l (m + 1) = wF l m ++ [l.getD m w0] := by
  rw [wF,if_neg (fun q => by rw [e] at q;cases q.2)]
theorem GR (l : List W) : wF l 1 = [l.getD 0 w0] := by
  rw [wF,if_neg (fun q => Nat.lt_irrefl _ q.1)];rfl
theorem W2 (y : W) : ∀ (A : List W) (p : W), jG xS p (A ++ [y]) = jG xS p A ++ (if xS y ((p :: A).getLastD w0) = true then [] else [y])
  | [],p => by
    show (if xS y p = true then [] else [y]) = _
    simp [jG]
  | x :: A,p => by
    rw [List.cons_append,jG,jG,W2 y A x];have e : ((p :: x :: A).getLastD w0) = ((x :: A).getLastD w0) := by simp [List.getLastD]
    rw [e];split <;> simp
theorem QJ (y : W) (A : List W) (h : A ≠ []) : wD xS (A ++ [y]) = wD xS A ++ (if xS y (A.getLastD w0) = true then [] else [y]) := by
  cases A with
  | nil => exact absurd rfl h
  | cons x A => rw [List.cons_append];show x :: jG xS x (A ++ [y]) = _;rw [W2];rfl
theorem nD {l : List W} {m : Nat} (h : m < l.length) : l.getD m w0 = l[m] := by rw [aC,aB h];rfl
theorem IX (l : List W) : ∀ m, m ≤ l.length → wF l m = wD xS (l.take m)
  | 0,_ => by rw [lL];rfl
  | m + 1,h => by
    have e : l.take (m + 1) = l.take m ++ [l.getD m w0] := by rw [nD (by omega),aR (by omega)]
    rcases A9 m with rfl | h0
    · rw [GR,e];rfl
    · have hne : l.take m ≠ [] := fun q => by have := congrArg List.length q;rw [aU,List.length_nil] at this;omega
      rw [e,QJ _ _ hne,← IX l m (by omega)]
      have hl : (l.take m).getLastD w0 = l.getD (m - 1) w0 := by
        rw [List.getLastD_eq_getLast?,List.getLast?_eq_getElem?,aU,ZK (by omega),List.getElem?_take_of_lt (by omega),aC]
      rw [hl];cases hq : xS (l.getD m w0) (l.getD (m - 1) w0) with
      | true => rw [GU h0 hq,if_pos rfl,List.append_nil]
      | false => rw [GS hq,if_neg (by simp)]
theorem YY (l : List W) : wF l l.length = wD xS l := by rw [IX l _ (aX _),dA]
theorem zJ4 {l : List W} {m i : Nat} (hm : m < l.length) (hi : i = m) : (eY l)[i]? = some (wA (l.getD m w0)) := by
  subst hi;simp [hm]
theorem HB {G l : List W} {m : Nat} {i : Nat} (hg : G.length ≤ m) (hm : m < l.length) (hi : i = m) : (eY (G ++ l.drop G.length))[i]? = some (wA (l.getD m w0)) := by
  subst hi;rw [bI,aE hg,eC,show G.length + (i - G.length) = i by omega,aB hm,nD hm];rfl
theorem XK {G l : List W} {x : W} {j : Int} (h : G.length < l.length) (hj : j = G.length) : (eY (G ++ l.drop G.length)).set (0 + j.toNat) (wA x) = eY ((G ++ [x]) ++ l.drop (G ++ [x]).length) := by
  rw [tB (i := G.length) hj,aS h,mI _ _ _ _ rfl];simp
theorem KN {G l : List W} (h : G.length ≤ l.length) : (eY (G ++ l.drop G.length)).length = l.length := by simp;omega
theorem MU {G : List W} {l : List W} : (eY (G ++ l.drop G.length)).take (0 + (G.length : Int).toNat) = eY G := by
  rw [Nat.zero_add,bR,← jY,sV]
end Go.Ld
namespace Go.Proofs.YtbialaoigijlgaaGreatDoor
open Go Go.Ab Go.Ld
attribute [local irreducible] VC AW bV aO
set_option maxHeartbeats 4000000
abbrev zH4 : AV := .clo (.func 89) [] []
theorem GP (l : List W) (hl : l.length ≤ 1000000) (hw : ∀ w,w ∈ l → A7 w) : aO Tryz.prog 88 [.sl 0 0 l.length 3,zH4] [.arr (eY l) 3] (.sl 0 0 (wD xS l).length 3) [.arr (eY (wD xS l)) 3] := by
  rw [← YY];have hll : (eY l).length = l.length := eD l;refine bK T Tryz.func88 rfl rfl rfl rfl ?_;by_cases h2 : l.length < 2
  · have hk : wF l l.length = l := by
      match l,h2 with
      | [],_ => rfl
      | [a],_ => exact GR _
      | _ :: _ :: _,h => exact absurd h (by simp)
    rw [hk]
    (repeat' (first|refine wS ?_|refine wR ?_|(refine wC rfl ?_ ?_<;>(intro hb;(try simp only [nm] at hb);try (exfalso;omega)))|(refine rg 0 (aV ?_))|(refine rg 1 (mW rfl (qW T rfl (vV (aJ rfl rfl) ?_))))|(refine rg 2 (mW rfl (aV ?_)))|refine nZ ?_));all_goals first | (exfalso;omega) | exact ⟨.inl rfl,[0],_,rfl,rfl,rfl,⟨.inr (aG rfl rfl (bE _)),trivial⟩,by decide,kN⟩
  · (repeat' (first|refine wS ?_|refine wB ?_|refine wK ?_|(refine wC rfl (fun hb => ?_) (fun hb => ?_) <;> (((try simp only [nm] at hb);try (exfalso;omega))))|(refine rg 0 (aV ?_))|(refine rg 1 (mW rfl (qW T rfl (vV (aJ rfl rfl) ?_))))|(refine rg 3 (aV ?_))|(refine nZ ?_)));all_goals try (exfalso;omega)
    refine cK (X := {k : Nat // 1 ≤ k ∧ k ≤ l.length ∧ wF l k = l.take k}) (fun k => [(0,.sl 0 0 l.length 3),(1,zH4),(5,.i k.1)]) (fun _ => [.arr (eY l) 3]) (fun k => l.length - k.1) ⟨1,by omega,by omega,by rw [GR,nD (by omega),aR (by omega)];rfl⟩ ⟨[0],rfl,by (repeat (first | exact trivial | refine ⟨rfl,?_⟩)),⟨.inr (aG rfl rfl (bE _)),trivial⟩,by decide,kN⟩ ?_
    rintro ⟨k,hk1,hk,hkc⟩;dsimp only;by_cases hlt : k < l.length
    · have e1 := zJ4 (i := 0 + (k : Int).toNat) hlt (by omega)
      have e2 := zJ4 (l := l) (m := k - 1) (i := 0 + ((k : Int) - 1).toNat) (by omega) (by omega)
      have hc := M6 (l.getD k w0) (l.getD (k - 1) w0) (hw _ (by rw [nD hlt];exact aI _)) (hw _ (by rw [nD (by omega)];exact aI _))
      cases hd : xS (l.getD k w0) (l.getD (k - 1) w0) with
      | true =>
        have hc1 := GU (l := l) hk1 hd;rw [hkc] at hc1;rw [hd] at hc;clear hd;generalize l.getD k w0 = a at *;generalize l.getD (k - 1) w0 = b at *
        (repeat' (first|refine wS ?_|refine wB ?_|refine wK ?_|refine wT ?_|(refine wC rfl ?_ ?_<;>(intro hb;(try simp only [nm] at hb);try (exfalso;omega)))|(refine rg 4 (dQ rfl (qW T rfl (vV (aJ rfl rfl) ?_))))|(refine mC (id := 6) 10 66 zM9 zN0 (rM 18 10) zN1 cN rfl (by decide +kernel) (by decide +kernel) ?_;(dsimp only [List.take,List.drop]);refine dN rfl (dN rfl (dN rfl (dV rfl (by exact aL T rfl rfl rfl rfl rfl (by omega) (by omega)) ?_)));refine dV rfl (by exact aT T rfl rfl (bJ rfl e1) rfl) ?_;refine dN rfl (dN rfl (dV rfl (cO rfl rfl (by omega) (by omega)) (dV rfl (by exact aL T rfl rfl rfl rfl rfl (by omega) (by omega)) ?_)));refine dV rfl (by exact aT T rfl rfl (bJ rfl e2) rfl) ?_;refine dE ?_;refine gB ?_;refine vV (kC (hc)) ?_)|(refine rg 7 (dQ rfl (vV (by exact jL T rfl rfl rfl rfl rfl rfl (by omega) (by omega) (by omega)) ?_));refine aV ?_)|(refine rg 8 (aV ?_))|refine nZ ?_));all_goals try (exfalso;omega)
        have hl1 : (wF l (k + 1)).length = k := by rw [hc1];simp;omega
        refine cK (X := {j : Nat // 1 ≤ j ∧ k + j ≤ l.length ∧ (wF l (k + j)).length + 1 ≤ k + j}) (fun j => [(0,.sl 0 0 l.length 3),(1,zH4),(5,.i (wF l (k + j.1)).length),(6,.sl 0 (0 + (k : Int).toNat) ((l.length : Int) - (k : Int)).toNat 3),(7,.i j.1)]) (fun j => [.arr (eY (wF l (k + j.1) ++ l.drop (wF l (k + j.1)).length)) 3]) (fun j => l.length - (k + j.1)) ⟨1,by omega,by omega,by omega⟩ ⟨[0],rfl,⟨rfl,rfl,by dsimp only;rw [hl1];rfl,rfl,rfl,trivial⟩,⟨.inr (aG rfl (by dsimp only;rw [hl1,hc1,bG]) (bE _)),trivial⟩,by decide,kN⟩ ?_
        clear e1 e2 hl1 hc1 hc a b;rintro ⟨j,hj1,hj,hjc⟩;dsimp only;by_cases hjl : k + j < l.length
        · have e1 := HB (G := wF l (k + j)) (l := l) (m := k + j) (i := 0 + (k : Int).toNat + (j : Int).toNat) (by omega) hjl (by omega)
          have e2 := HB (G := wF l (k + j)) (l := l) (m := k + j - 1) (i := 0 + (k : Int).toNat + ((j : Int) - 1).toNat) (by omega) (by omega) (by omega)
          have e3 := HB (G := wF l (k + j)) (l := l) (m := (wF l (k + j)).length) (i := 0 + (((wF l (k + j)).length : Nat) : Int).toNat) (aX _) (by omega) (by omega)
          have hset := XK (G := wF l (k + j)) (l := l) (x := l.getD (k + j) w0) (j := (((wF l (k + j)).length : Nat) : Int)) (by omega) rfl
          have hal := KN (G := wF l (k + j)) (l := l) (by omega)
          have hdup := GU (l := l) (m := k + j) (by omega)
          have hnew := GS (l := l) (m := k + j);have hc := M6 (l.getD (k + j) w0) (l.getD (k + j - 1) w0) (hw _ (by rw [nD hjl];exact aI _)) (hw _ (by rw [nD (by omega)];exact aI _))
          have hnl : ∀ G : List W,(G ++ [l.getD (k + j) w0]).length = G.length + 1 := fun G => by simp
          rw [show k + j + 1 = k + (j + 1) by omega] at hdup hnew
          generalize l.getD (k + j) w0 = a at *;generalize l.getD (k + j - 1) w0 = b at *;generalize l.getD (wF l (k + j)).length w0 = y at *;generalize wF l (k + j) = G at *;cases hd : xS a b with
          | true =>
            have hdup := hdup hd;rw [hd] at hc;generalize hA : eY (G ++ l.drop G.length) = A at *
            (repeat' (first|refine wS ?_|refine wB ?_|refine wK ?_|refine wU ?_|(refine wC rfl ?_ ?_<;>(intro hb;(try simp only [nm] at hb);try (exfalso;omega)))|(refine rg 9 (dQ rfl (qW T rfl (vV (aJ rfl rfl) ?_))))|(refine cJ (id := 11) 66 zN2 (rM 38 12) zN3 cN rfl (by decide +kernel) (dN rfl (dN rfl (dN rfl (dV rfl (by exact aL T rfl rfl rfl rfl rfl (by omega) (by omega)) ?_))));refine dV rfl (by exact aT T rfl rfl (bJ rfl e1) rfl) ?_;refine dN rfl (dN rfl (dV rfl (cO rfl rfl (by omega) (by omega)) (dV rfl (by exact aL T rfl rfl rfl rfl rfl (by omega) (by omega)) ?_)));refine dV rfl (by exact aT T rfl rfl (bJ rfl e2) rfl) ?_;refine dV rfl (kC (hc)) (dV rfl (eL rfl) (dE ?_)))|(refine iA 10 rfl rfl rfl (by omega) (by omega) ?_)|refine nZ ?_));all_goals try (exfalso;omega)
            all_goals exact ⟨⟨j + 1,by omega,by omega,by rw [hdup];omega⟩,by dsimp only;omega,[0],rfl,⟨rfl,rfl,by dsimp only;rw [hdup];rfl,rfl,rfl,trivial⟩,⟨.inr (aG rfl (by dsimp only;rw [hdup];exact hA.symm) (bE _)),trivial⟩,by decide,kN⟩
          | false =>
            have hnew := hnew hd;have hgl := hnl G;rw [hd] at hc;generalize hA : eY (G ++ l.drop G.length) = A at *
            (repeat' (first|refine wS ?_|refine wB ?_|refine wK ?_|refine wT ?_|(refine wC rfl ?_ ?_<;>(intro hb;(try simp only [nm] at hb);try (exfalso;omega)))|(refine rg 9 (dQ rfl (qW T rfl (vV (aJ rfl rfl) ?_))))|(refine cJ (id := 11) 66 zN2 (rM 38 12) zN3 cN rfl (by decide +kernel) (dN rfl (dN rfl (dN rfl (dV rfl (by exact aL T rfl rfl rfl rfl rfl (by omega) (by omega)) ?_))));refine dV rfl (by exact aT T rfl rfl (bJ rfl e1) rfl) ?_;refine dN rfl (dN rfl (dV rfl (cO rfl rfl (by omega) (by omega)) (dV rfl (by exact aL T rfl rfl rfl rfl rfl (by omega) (by omega)) ?_)));refine dV rfl (by exact aT T rfl rfl (bJ rfl e2) rfl) ?_;refine dV rfl (kC (hc)) (dV rfl (eL rfl) (dE ?_)))|(refine rg 12 (dQ rfl (dQ rfl (vV (by exact aL T rfl rfl rfl rfl rfl (by omega) (by omega)) ?_)));refine vV (by exact aT T rfl rfl (bJ rfl e1) rfl) ?_;refine vV (by exact aL T rfl rfl rfl rfl rfl (by omega) (by omega)) ?_;refine aQ T rfl rfl rfl rfl rfl rfl (by decide) (lP rfl e3 rfl) ?_)|(refine iA 13 rfl rfl rfl (by omega) (by omega) ?_)|(refine iA 10 rfl rfl rfl (by omega) (by omega) ?_)|refine nZ ?_));all_goals try (exfalso;omega)
            all_goals exact ⟨⟨j + 1,by omega,by omega,by rw [hnew];omega⟩,by dsimp only;omega,[0],rfl,⟨rfl,rfl,by dsimp only;rw [hnew,hgl];rfl,rfl,rfl,trivial⟩,⟨.inr (aG rfl (by dsimp only;rw [hnew];exact hset) (bE _)),trivial⟩,by decide,kN⟩
        · have hkj : k + j = l.length := by omega
          have hcm : wF l l.length = wF l (k + j) := by rw [hkj]
          have hal := KN (G := wF l (k + j)) (l := l) (by omega)
          have htk := MU (G := wF l (k + j)) (l := l);rw [hcm];generalize wF l (k + j) = G at *
          (repeat' (first|refine wS ?_|refine wR ?_|refine wE ?_|(refine wC rfl ?_ ?_<;>(intro hb;(try simp only [nm] at hb);try (exfalso;omega)))|(refine rg 9 (dQ rfl (qW T rfl (vV (aJ rfl rfl) ?_))))|(refine rg 14 (dQ rfl (vV (by exact jL T rfl rfl rfl rfl rfl rfl (by omega) (by omega) (by omega)) ?_));refine B8 T rfl rfl rfl ⟨rfl,rfl,by decide⟩ rfl (by rw [hal];omega) ?_)|(refine rg 15 (dQ rfl (vV (by exact jL T rfl rfl rfl rfl rfl rfl (by omega) (by omega) (by omega)) ?_));refine aV ?_)|refine nZ ?_));all_goals try (exfalso;omega)
          all_goals exact ⟨.inl rfl,[0],_,rfl,(by show AV.sl 0 0 ((G.length : Int) - 0).toNat 3 = AV.sl 0 0 G.length 3;rw [show ((G.length : Int) - 0).toNat = G.length by omega]),rfl,⟨.inr (aG rfl htk (bE _)),trivial⟩,by decide,kN⟩
      | false =>
        have hnew := GS (l := l) hd;rw [hkc,nD hlt,← aR hlt] at hnew;rw [hd] at hc;clear hd;generalize l.getD k w0 = a at *;generalize l.getD (k - 1) w0 = b at *
        (repeat' (first|refine wS ?_|refine wB ?_|refine wK ?_|refine wU ?_|(refine wC rfl ?_ ?_<;>(intro hb;(try simp only [nm] at hb);try (exfalso;omega)))|(refine rg 4 (dQ rfl (qW T rfl (vV (aJ rfl rfl) ?_))))|(refine mC (id := 6) 10 66 zM9 zN0 (rM 18 10) zN1 cN rfl (by decide +kernel) (by decide +kernel) ?_;(dsimp only [List.take,List.drop]);refine dN rfl (dN rfl (dN rfl (dV rfl (by exact aL T rfl rfl rfl rfl rfl (by omega) (by omega)) ?_)));refine dV rfl (by exact aT T rfl rfl (bJ rfl e1) rfl) ?_;refine dN rfl (dN rfl (dV rfl (cO rfl rfl (by omega) (by omega)) (dV rfl (by exact aL T rfl rfl rfl rfl rfl (by omega) (by omega)) ?_)));refine dV rfl (by exact aT T rfl rfl (bJ rfl e2) rfl) ?_;refine dE ?_;refine gB ?_;refine vV (kC (hc)) ?_)|(refine iA 5 rfl rfl rfl (by omega) (by omega) ?_)|refine nZ ?_));all_goals try (exfalso;omega)
        all_goals exact ⟨⟨k + 1,by omega,hlt,hnew⟩,by dsimp only;omega,[0],rfl,by (repeat (first | exact trivial | refine ⟨rfl,?_⟩)),⟨.inr (aG rfl rfl (bE _)),trivial⟩,by decide,kN⟩
    · obtain rfl : k = l.length := by omega
      have hcm : wF l l.length = l := by rw [hkc,dA]
      rw [hcm]
      (repeat' (first|refine wS ?_|refine wR ?_|refine wE ?_|(refine wC rfl ?_ ?_<;>(intro hb;(try simp only [nm] at hb);try (exfalso;omega)))|(refine rg 4 (dQ rfl (qW T rfl (vV (aJ rfl rfl) ?_))))|(refine rg 16 (mW rfl (aV ?_)))|refine nZ ?_));all_goals first | (exfalso;omega) | exact ⟨.inl rfl,[0],_,rfl,rfl,rfl,⟨.inr (aG rfl rfl (bE _)),trivial⟩,by decide,kN⟩
theorem EF (l : List W) (hl : l.length ≤ 1000000) : aO Tryz.prog 82 [.rowE (eY l) 3] [] (.sl 0 0 l.length 3) [.arr (eY l) 3] := by
  have hll : (eY l).length = l.length := eD l;refine bK T Tryz.func82 rfl rfl rfl rfl ?_
  repeat' (first|refine wS ?_|refine wK ?_|refine wT ?_|refine wU ?_|(refine rg 0 (aV ?_))|(refine rg 1 (mV ?_);refine qE T rfl rfl rfl rfl fun b hb=>?_;cases b)|refine nZ ?_)
  · (repeat' (first|refine wR ?_|(refine rg 3 (bT (by exact bC T rfl rfl (by decide) (by decide) rfl rfl rfl) rfl ?_);refine mW rfl (gR T rfl rfl rfl rfl rfl rfl (by decide) (.row (jB l)) (XB l) (by simp;omega) (by simp;omega) rfl ?_);refine aV ?_)|(refine nZ ?_)));exact ⟨.inl rfl,[1],_,rfl,(by show AV.sl 1 0 (0 + (eY l).length) 3 = AV.sl 1 0 l.length 3;simp),rfl,⟨.inr (aG rfl rfl (bE _)),trivial⟩,by decide,I1⟩
  · have hl0 : l = [] := fH.1 (Classical.byContradiction fun h => by have := hb (by omega);cases this)
    subst hl0
    (repeat' (first|refine wR ?_|(refine rg 2 (vV (fG rfl) (rL 2 3 rfl (by decide) ?_)))|refine nZ ?_));exact ⟨.inl rfl,[0],_,rfl,rfl,rfl,⟨.inr (aG rfl rfl (bE _)),trivial⟩,by decide,I1⟩
theorem gD : ∀ {es : List (List AV)}, (∀ e, e ∈ es → AV.idfL e = true) → AV.idfL es.flatten = true
  | [],_ => rfl
  | e :: es,h => by
    have h1 := h e bA;have h2 := gD (es := es) fun q hq => h q (aY _ hq);rw [dZ];generalize es.flatten = F at *;clear h
    induction e with
    | nil => exact h2
    | cons x e ih =>
      simp only [List.cons_append,AV.idfL,aP] at h1 ⊢;exact ⟨h1.1,ih h1.2⟩
theorem U0 (l : List W) (hl : l.length ≤ 100000) (hw : ∀ w,w ∈ l → A7 w) : aO Tryz.prog 41 [.rowE (eY l) 3] [] (.rowE (eY (iE l)) 3) [] := by
  refine kU (by simp : (iE l).length = (eY (iE l)).length) (gD (bE _)) ?_
  have h1 := EF l (by omega)
  have h2 := TE l rfl hl hw;have h3 := GP (dW eH l) (by rw [gY];omega) (fun w h => hw w ((dU _ _).mem_iff.1 h))
  rw [gY] at h3;show aO _ _ _ _ (.sl 0 0 (wD xS (dW eH l)).length 3) [.arr (eY (wD xS (dW eH l))) 3];generalize wD xS (dW eH l) = R at *;refine bK T Tryz.func41 rfl rfl rfl rfl ?_
  (repeat' (first|refine wS ?_|refine wR ?_|(refine rg 0 (aV ?_))|(refine rg 1 (mW rfl (bT (by exact fZ rfl rfl h1 (.inr ⟨rfl,rfl,by simp⟩)) rfl ?_));refine aV ?_)|(refine rg 2 (mW rfl (eJ [0] rfl rfl (h2) rfl rfl (by decide) ⟨.inr (aG rfl (cE _ (bE _)) (bE _)),trivial⟩ (by simp) rfl ?_)))|(refine rg 3 (mW rfl (eJ [0] rfl rfl (h3) rfl rfl (by decide) ⟨.inr (aG rfl (cE _ (bE _)) (bE _)),trivial⟩ (by simp) rfl ?_));refine aV ?_)|refine nZ ?_));all_goals exact ⟨.inl rfl,[0],_,rfl,rfl,rfl,⟨.inr (aG rfl (cE _ (bE _)) (bE _)),trivial⟩,by decide,fun i h => absurd h (dI _)⟩
end Go.Proofs.YtbialaoigijlgaaGreatDoor
namespace Go.Ab
open Go
mutual
def AV.pln : AV → Bool
  | .v _ => true
  | .any => true
  | .row .. => true
  | .mrow .. => true
  | .pr .. => true
  | .agg cs => AV.plnL cs
  | _ => false
def AV.plnL : List AV → Bool
  | [] => true
  | x :: l => AV.pln x && AV.plnL l
end
mutual
theorem JJ {h : Hp} : ∀ (x : AV), x.pln = true → mT h x x
  | .v x,_ => .v x
  | .any,_ => .any
  | .row cs l s,_ => .row cs l s
  | .mrow ks vs,_ => .mrow ks vs
  | .pr cs o,_ => .pr cs o
  | .agg cs,e => .agg (fK cs (by simpa [AV.pln] using e))
  | .ptr ..,e | .ep ..,e | .sl ..,e | .mp ..,e | .tup ..,e | .clo ..,e | .cond ..,e | .ifc ..,e => by simp [AV.pln] at e
theorem fK {h : Hp} : ∀ (xs : List AV), AV.plnL xs = true → kV h xs xs
  | [],_ => .nil
  | x :: l,e => by
    simp only [AV.plnL,aP] at e;exact .cons (JJ x e.1) (fK l e.2)
end
theorem F2 : ∀ (a b : List AV), AV.plnL (a ++ b) = (AV.plnL a && AV.plnL b)
  | [],b => by simp [AV.plnL]
  | x :: a,b => by simp [AV.plnL,F2 a b,Bool.and_assoc]
theorem sG {α : Type} {g : α → List AV} (hg : ∀ a, AV.plnL (g a) = true) : ∀ l : List α, AV.plnL (l.map g).flatten = true
  | [] => rfl
  | a :: l => by rw [List.map_cons,dZ,F2,hg a,sG hg l];rfl
theorem rX {h : Hp} {k n sz : Nat} {es : List (List AV)} (hk : h[k]? = some (.arr es sz)) (hn : n = es.length) (hp : AV.plnL es.flatten = true) : mT h (.sl k 0 n sz) (.rowE es sz) := by
  subst hn;refine mT.sl hk (by omega) ?_
  rw [nH,dA];exact fK _ hp
end Go.Ab
namespace Go.Ld
open Go.Ab Go.Proofs.YtbialaoigijlgaaGreatDoor
theorem fO (l : List SP) : (eO l).length = l.length := bF _
theorem eZ (l : List SP) : ∀ e,e ∈ eO l → AV.idfL e = true := by intro e he;obtain ⟨i,_,rfl⟩ := bM.1 he;rfl
theorem T1 (l : List SP) : (eO l).flatten.all AV.one = true := by
  induction l with
  | nil => rfl
  | cons x l ih => exact ih
theorem oZ {l : List SP} {j : Int} {i : Nat} (h : i < l.length) (e : j = i) : (eO l)[j.toNat]? = some [AV.i (l.getD i (0,0)).1,AV.i (l.getD i (0,0)).2] := by
  subst e;rw [bR,bI,aB h,aC,aB h];rfl
theorem yZ {l : List SP} {j : Int} {i : Nat} (h : i < l.length) (e : j = i) : (eO l)[0 + j.toNat]? = some [AV.i (l.getD i (0,0)).1,AV.i (l.getD i (0,0)).2] := by
  rw [Nat.zero_add];exact oZ h e
theorem K6 {l : List SP} {j : Int} {i : Nat} {r : SP} (e : j = i) : (eO l).set (0 + j.toNat) [AV.i r.1,AV.i r.2] = eO (l.set i r) := by
  subst e;rw [Nat.zero_add,bR];show _ = List.map (fun p : SP => [AV.i p.1,AV.i p.2]) (l.set i r);rw [R8]
end Go.Ld
namespace Go.Proofs.YtbialaoigijlgaaGreatDoor
open Go Go.Ab Go.Ld
attribute [local irreducible] VC AW bV aO
set_option maxHeartbeats 4000000
theorem jT (l : List Nat) : ∀ i : Nat,i < 0 → l[i]? = some i := fun i h => absurd h (dI _)
theorem QK (l : List SP) (hl : l.length ≤ 1000000) : aO Tryz.prog 97 [.rowE (eO l) 2] [] (.sl 0 0 l.length 2) [.arr (eO l) 2] := by
  have hll : (eO l).length = l.length := fO l;refine bK T Tryz.func97 rfl rfl rfl rfl ?_
  repeat' (first|refine wS ?_|refine wK ?_|refine wT ?_|refine wU ?_|(refine rg 0 (aV ?_))|(refine rg 1 (mV ?_);refine qE T rfl rfl rfl rfl fun b hb=>?_;cases b)|refine nZ ?_)
  · (repeat' (first|refine wR ?_|(refine rg 3 (bT (by exact bC T rfl rfl (by decide) (by decide) rfl rfl rfl) rfl ?_);refine mW rfl (gR T rfl rfl rfl rfl rfl rfl (by decide) (.row (gX l)) (T1 l) (by simp;omega) (by simp;omega) rfl ?_);refine aV ?_)|(refine nZ ?_)));exact ⟨.inl rfl,[1],_,rfl,(by show AV.sl 1 0 (0 + (eO l).length) 2 = AV.sl 1 0 l.length 2;simp),rfl,⟨.inr (aG rfl rfl (eZ _)),trivial⟩,by decide,jT _⟩
  · have hl0 : l = [] := fH.1 (Classical.byContradiction fun h => by have := hb (by omega);cases this)
    subst hl0
    (repeat' (first|refine wR ?_|(refine rg 2 (vV (fG rfl) (rL 2 2 rfl (by decide) ?_)))|refine nZ ?_));exact ⟨.inl rfl,[0],_,rfl,rfl,rfl,⟨.inr (aG rfl rfl (eZ _)),trivial⟩,by decide,jT _⟩
theorem J7 (w : W) (hw : A7 w) : aO Tryz.prog 47 [S6 w] [] (.agg [.sl 0 0 w.1.length 1,.i w.2.1,.sl 1 0 w.2.2.length 2]) [.arr (ints w.1) 1,.arr (eO w.2.2) 2] := by
  obtain ⟨p,m,c⟩ := w;have h1 := AQ p (by have := hw.1;dsimp only at this;omega)
  have h2 := QK c hw.2;dsimp only;refine bK T Tryz.func47 rfl rfl rfl rfl ?_
  (repeat' (first|refine wS ?_|refine wR ?_|(refine rg 0 (bT (cQ rfl rfl) rfl (bT (bH T rfl) rfl ?_)))|(refine cJ (id := 1) 12 [[],[0],[0,1],[],[3],[],[5],[0,1,2,5,6],rN 8] (rM 3 9) [[],[],[],[3,4,5],[3,4,5],rM 3 5,rM 3 5,[6,7],[]] cN rfl (by decide +kernel) (dP T rfl (dO T rfl (yH rfl rfl rfl (by exact fZ rfl rfl h1 (.inr ⟨rfl,rfl,by simp⟩)) rfl ?_)));refine dP T rfl (dO T rfl (dP T rfl (dO T rfl (yH rfl rfl rfl (by exact fZ rfl rfl h2 (.inr ⟨rfl,rfl,by simp⟩)) rfl ?_))));refine dV rfl (by exact fB T rfl rfl rfl rfl) ?_;refine dE ?_;refine aQ T rfl rfl rfl rfl rfl rfl (by decide) rfl ?_)|refine nZ ?_));all_goals exact ⟨.inl rfl,[2,3],_,rfl,rfl,rfl,⟨.inr (aG rfl (cE _ (bO p)) (bO p)),.inr (aG rfl (cE _ (eZ c)) (eZ c)),trivial⟩,by decide,jT _⟩
theorem xY {h : Hp} {k n : Nat} {l : List SP} (hk : h[k]? = some (.arr (eO l) 2)) (hn : n = l.length) : mT h (.sl k 0 n 2) (.rowE (eO l) 2) := rX hk (by rw [hn,fO]) (sG (fun _ => rfl) _)
theorem VS (w : W) (hw : A7 w) : aO Tryz.prog 47 [S6 w] [] (S6 w) [] :=
  uH (J7 w hw) (.agg (.cons (wQ rfl rfl) (.cons (.v _) (.cons (xY rfl rfl) .nil))))
theorem YP (w : W) {i k : Nat} (hw : A7 w) (hi : i < w.1.length) (hk : k < w.1.length) (hc : w.2.2.length = w.1.length) :
    aO Tryz.prog 40 [S6 w,.i i,.i k] [] (.agg [.sl 0 0 w.1.length 1,.i w.2.1,.sl 1 0 w.2.2.length 2]) [.arr (ints (D7 w i k).1) 1,.arr (eO (D7 w i k).2.2) 2] := by
  have hcl := J7 w hw;obtain ⟨p,m,c⟩ := w;have hw1 := hw.1;have hw2 := hw.2;dsimp only at hi hk hc hcl hw1 hw2;have p1 := zO (l := p) (j := (i : Int)) (i := i) 0 hi rfl;have p2 := zO (l := p) (j := (k : Int)) (i := k) 0 hk rfl;have ps := II (l := p) (j := (i : Int)) (i := i) (x := p.getD k 0) rfl;have p3 := zO (l := p.set i (p.getD k 0)) (j := (k : Int)) (i := k) 0 (by simpa using hk) rfl
  have pt := II (l := p.set i (p.getD k 0)) (j := (k : Int)) (i := k) (x := p.getD i 0) rfl;have c1 := yZ (l := c) (j := (i : Int)) (i := i) (by omega) rfl
  have c2 := yZ (l := c) (j := (k : Int)) (i := k) (by omega) rfl
  have cs := K6 (l := c) (j := (i : Int)) (i := i) (r := c.getD k (0,0)) rfl;have c3 := yZ (l := c.set i (c.getD k (0,0))) (j := (k : Int)) (i := k) (by rw [fX];omega) rfl
  have ct := K6 (l := c.set i (c.getD k (0,0))) (j := (k : Int)) (i := k) (r := c.getD i (0,0)) rfl;show aO _ _ _ _ _ [.arr (ints ((p.set i (p.getD k 0)).set k (p.getD i 0))) 1,.arr (eO ((c.set i (c.getD k (0,0))).set k (c.getD i (0,0)))) 2];have hlp : (ints p).length = p.length := cW _;have hlc : (eO c).length = c.length := fO _;dsimp only;refine bK T Tryz.func40 rfl rfl rfl rfl ?_
  (repeat' (first|refine wS ?_|(refine rg 0 (bT (cQ rfl rfl) rfl (bT (bH T rfl) rfl ?_)))|(refine rg 1 (lW T rfl (bT (by exact fZ rfl rfl hcl (.inr ⟨rfl,rfl,by simp⟩)) rfl ?_));refine aQ T rfl rfl rfl rfl rfl rfl (by decide) rfl ?_)|refine nZ ?_));refine eP [(1,.i i),(2,.i k),(3,.ptr 0 0),(6,.ptr 1 0)] [.cells [.sl 2 0 p.length 1,.i m,.sl 3 0 c.length 2],.cells [.nils,.i 0,.nils],.arr (ints p) 1,.arr (eO c) 2] ⟨[0,1,2,3],rfl,(by repeat first|exact trivial|refine ⟨rfl,?_⟩),⟨.inr rfl,.inr rfl,.inr (aG rfl (cE _ (bO p)) (bO p)),.inr (aG rfl (cE _ (eZ c)) (eZ c)),trivial⟩,by decide,jT _⟩ ?_
  rw [← ps] at p3 pt;rw [← cs] at c3 ct;generalize p.getD k 0 = x at *;generalize p.getD i 0 = y at *;generalize c.getD k (0,0) = r at *;generalize c.getD i (0,0) = q at *
  (repeat' (first|refine wS ?_|refine wR ?_|(refine mN (id := 2) 46 zN4 (rM 9 17) [[],[],[9,10],[9,10,11],[9,10,11],rM 9 5,rM 9 6,rM 9 6,rM 9 8,rM 9 6,rM 9 6,rM 9 11,rM 9 11,rM 9 13,rM 9 11,rM 9 11,[12,13,14],[12,13,14]] [(17,2)] cN rfl (by decide +kernel) (cM rfl rfl rfl rfl (by exact bY T rfl rfl rfl) ?_);refine cM rfl rfl rfl rfl (by exact aT T rfl rfl rfl rfl) ?_;refine cM rfl rfl rfl rfl (by exact bU rfl) ?_;refine cM rfl rfl rfl rfl (by exact bY T rfl rfl rfl) ?_;refine cM rfl rfl rfl rfl (by exact aT T rfl rfl rfl rfl) ?_;refine cM rfl rfl rfl rfl (by exact bU rfl) ?_;refine cM rfl rfl rfl rfl (by exact bY T rfl rfl rfl) ?_;refine cM rfl rfl rfl rfl (by exact aT T rfl rfl rfl rfl) ?_;refine cM rfl rfl rfl rfl (by exact bU rfl) ?_;refine cM rfl rfl rfl rfl (by exact aL T rfl rfl rfl rfl rfl (by omega) (by omega)) ?_;refine cM rfl rfl rfl rfl (by exact aT T rfl rfl (bJ rfl p2) rfl) ?_;refine cM rfl rfl rfl rfl (by exact bY T rfl rfl rfl) ?_;refine cM rfl rfl rfl rfl (by exact aT T rfl rfl rfl rfl) ?_;refine cM rfl rfl rfl rfl (by exact bU rfl) ?_;refine cM rfl rfl rfl rfl (by exact aL T rfl rfl rfl rfl rfl (by omega) (by omega)) ?_;refine cM rfl rfl rfl rfl (by exact aT T rfl rfl (bJ rfl p1) rfl) ?_;refine cM rfl rfl rfl rfl (by exact aL T rfl rfl rfl rfl rfl (by omega) (by omega)) ?_;refine uA rfl rfl rfl rfl (aN rfl) T rfl rfl rfl rfl rfl rfl (by decide) (tD rfl p1 rfl) ?_;refine pT rfl rfl rfl (by exact rfl) ?_;refine vV (by exact aL T rfl rfl rfl rfl rfl (by omega) (by omega)) ?_;refine aQ T rfl rfl rfl rfl rfl rfl (by decide) (lP rfl p3 rfl) ?_)|(refine mN (id := 3) 46 zN4 (rM 27 17) [[],[],[27,28],[27,28,29],[27,28,29],rM 27 5,rM 27 6,rM 27 6,rM 27 8,rM 27 6,rM 27 6,rM 27 11,rM 27 11,rM 27 13,rM 27 11,rM 27 11,[30,31,32],[30,31,32]] [(17,3)] cN rfl (by decide +kernel) (cM rfl rfl rfl rfl (by exact bY T rfl rfl rfl) ?_);refine cM rfl rfl rfl rfl (by exact aT T rfl rfl rfl rfl) ?_;refine cM rfl rfl rfl rfl (by exact bU rfl) ?_;refine cM rfl rfl rfl rfl (by exact bY T rfl rfl rfl) ?_;refine cM rfl rfl rfl rfl (by exact aT T rfl rfl rfl rfl) ?_;refine cM rfl rfl rfl rfl (by exact bU rfl) ?_;refine cM rfl rfl rfl rfl (by exact bY T rfl rfl rfl) ?_;refine cM rfl rfl rfl rfl (by exact aT T rfl rfl rfl rfl) ?_;refine cM rfl rfl rfl rfl (by exact bU rfl) ?_;refine cM rfl rfl rfl rfl (by exact aL T rfl rfl rfl rfl rfl (by omega) (by omega)) ?_;refine cM rfl rfl rfl rfl (by exact aT T rfl rfl (bJ rfl c2) rfl) ?_;refine cM rfl rfl rfl rfl (by exact bY T rfl rfl rfl) ?_;refine cM rfl rfl rfl rfl (by exact aT T rfl rfl rfl rfl) ?_;refine cM rfl rfl rfl rfl (by exact bU rfl) ?_;refine cM rfl rfl rfl rfl (by exact aL T rfl rfl rfl rfl rfl (by omega) (by omega)) ?_;refine cM rfl rfl rfl rfl (by exact aT T rfl rfl (bJ rfl c1) rfl) ?_;refine cM rfl rfl rfl rfl (by exact aL T rfl rfl rfl rfl rfl (by omega) (by omega)) ?_;refine uA rfl rfl rfl rfl (aN rfl) T rfl rfl rfl rfl rfl rfl (by decide) (tD rfl c1 rfl) ?_;refine pT rfl rfl rfl (by exact rfl) ?_;refine vV (by exact aL T rfl rfl rfl rfl rfl (by omega) (by omega)) ?_;refine aQ T rfl rfl rfl rfl rfl rfl (by decide) (lP rfl c3 rfl) ?_)|(refine rg 4 (vV (aT T rfl rfl rfl rfl) (aQ T rfl rfl rfl rfl rfl rfl (by decide) rfl ?_)))|refine nZ ?_));all_goals exact ⟨.inl rfl,[2,3],_,rfl,rfl,rfl,⟨.inr (aG rfl pt (bO _)),.inr (aG rfl ct (eZ _)),trivial⟩,by decide,jT _⟩
theorem YQ (w : W) {i k : Nat} (hw : A7 w) (hi : i < w.1.length) (hk : k < w.1.length) (hc : w.2.2.length = w.1.length) : aO Tryz.prog 40 [S6 w,.i i,.i k] [] (S6 (D7 w i k)) [] :=
  uH (YP w hw hi hk hc) (.agg (.cons (wQ rfl (by simp [D7])) (.cons (.v _) (.cons (xY rfl (by simp [D7])) .nil))))
theorem OY (a b : W) : aO Tryz.prog 119 [S6 a,S6 b] [] (.i (cI a.2.1 b.2.1)) [] := by
  have h := V9 a.2.1 b.2.1;refine bK T Tryz.func119 rfl rfl rfl rfl ?_
  (repeat' (first|refine wS ?_|refine wR ?_|(refine rg 0 (bT (cQ rfl rfl) rfl (bT (cQ rfl rfl) rfl (aV ?_))))|(refine rg 1 (hO T rfl (hO T rfl (vV (kC (h)) (aV ?_)))))|refine nZ ?_));all_goals first | (exfalso;omega) | exact rQ
end Go.Proofs.YtbialaoigijlgaaGreatDoor
namespace Go.Ld
open Go.Ab Go.Proofs.YtbialaoigijlgaaGreatDoor
def qK {α : Type} (p : α → Bool) : List α → Nat → Int
  | [],_ => -1
  | x :: l,k => if p x = true then k else qK p l (k + 1)
theorem Z8 {α : Type} {p : α → Bool} {l : List α} {k : Nat} (h : k < l.length) : qK p (l.drop k) k = if p l[k] = true then (k : Int) else qK p (l.drop (k + 1)) (k + 1) := by
  rw [aS h];rfl
theorem N6 {α : Type} {p : α → Bool} {l : List α} {k : Nat} (h : l.length ≤ k) : qK p (l.drop k) k = -1 := by
  rw [cT h];rfl
theorem zP {α : Type} (p : α → Bool) : ∀ (l : List α) (k : Nat), decide (qK p l k ≥ 0) = l.any p
  | [],k => by simp [qK]
  | x :: l,k => by
    unfold qK;split
    · rename_i h;simp [h]
    · rename_i h;rw [zP p l (k + 1)];simp [h]
theorem U8 {α : Type} (p : α → Bool) : ∀ (l : List α) (k : Nat), qK p l k = match l.findIdx? p with
    | some i => ((k + i : Nat) : Int)
    | none => -1
  | [],k => by simp [qK]
  | x :: l,k => by
    unfold qK;rw [List.findIdx?_cons];by_cases h : p x = true
    · rw [if_pos h,if_pos h];simp
    · rw [if_neg h,if_neg h,U8 p l (k + 1)];cases l.findIdx? p with
      | none => rfl
      | some i => show ((k + 1 + i : Nat) : Int) = ((k + (i + 1) : Nat) : Int);omega
theorem mS (l : List G) : ∀ e,e ∈ iB l → e.length = 2 := by intro e he;obtain ⟨n,_,rfl⟩ := bM.1 he;rfl
theorem gZ (l : List G) : (iB l).length = l.length := bF _
theorem PO (l : List G) : (iB l).flatten.all AV.one = true := by
  induction l with
  | nil => rfl
  | cons x l ih => exact ih
theorem eA (l : List G) : ∀ e,e ∈ iB l → AV.idfL e = true := by intro e he;obtain ⟨x,_,rfl⟩ := bM.1 he;rfl
end Go.Ld
namespace Go.Proofs.YtbialaoigijlgaaGreatDoor
open Go Go.Ab Go.Ld
attribute [local irreducible] VC AW bV aO
set_option maxHeartbeats 4000000
abbrev MH (g : G) : AV := .agg (gA g)
theorem mH {l : List W} {k : Nat} (h : k < l.length) : (eY l)[(k : Int).toNat]? = some (wA l[k]) := by simp [h]
theorem zR {l : List G} {k : Nat} (h : k < l.length) : (iB l)[(k : Int).toNat]? = some (gA l[k]) := by simp [h]
theorem IH {l : List Int} {k : Nat} (h : k < l.length) : (ints l)[(k : Int).toNat]? = some [AV.i l[k]] := by simp [h]
theorem PB {l : List W} {F : FuncId} {caps : List AV} {p : W → Bool} (hl : l.length ≤ 1000000) (hi : AV.idfL caps = true) (hF : ∀ x,x ∈ l → aO Tryz.prog F (.agg (wA x) :: caps) [] (.b (p x)) []) :
    aO Tryz.prog 120 [.rowE (eY l) 3,.clo (.func F) [] caps] [] (.i (qK p l 0)) [] := by
  have hlen : (eY l).length = l.length := bF _;refine bK T Tryz.func120 rfl rfl rfl rfl ?_
  (repeat' (first|refine wS ?_|refine wB ?_|(refine rg 0 (aV ?_))|(refine rg 1 (mW rfl (qW T rfl (mV ?_))))|refine nZ ?_));refine cK (X := {k : Nat // k ≤ l.length ∧ qK p l 0 = qK p (l.drop k) k}) (fun k => [(0,.rowE (eY l) 3),(1,.clo (.func F) [] caps),(7,.i (eY l).length),(8,.i k.1)]) (fun _ => []) (fun k => l.length - k.1) ⟨0,by simp,rfl⟩ ⟨[],rfl,⟨rfl,by rw [lE hi];rfl,rfl,rfl,trivial⟩,trivial,cX,fun _ h => absurd h (dI _)⟩ ?_
  rintro ⟨k,hk,he⟩;dsimp only;by_cases hlt : k < l.length
  · have hc := hF l[k] (aI hlt);have hg := mH (l := l) hlt;rw [Z8 hlt] at he;generalize l[k] = y at *;cases hp : p y with
    | true =>
      rw [hp] at hc;rw [hp,if_pos rfl] at he
      (repeat' (first|refine wS ?_|refine wB ?_|refine wK ?_|refine wR ?_|refine wT ?_|(refine wC rfl ?_ ?_<;>(intro hb;(try simp only [nm] at hb);try (exfalso;omega)))|(refine rg 2 (vV (aJ rfl rfl) ?_))|(refine rg 3 (mW rfl (aV ?_)))|(refine rg 4 (dQ rfl (mW rfl (vV (ix T rfl (by omega) (jB l) hg) (lW T rfl (vV (by exact eQ rfl rfl hc rfl (by simp [AV.idfL,AV.idf,hi]) rfl) ?_))))))|(refine rg 5 (mW rfl (aV ?_)))|refine nZ ?_));all_goals first | (exfalso;omega) | exact cY (.inl rfl) rfl (by rw [he];rfl)
    | false =>
      rw [hp] at hc;rw [hp,if_neg (by simp)] at he
      (repeat' (first|refine wS ?_|refine wB ?_|refine wK ?_|refine wU ?_|(refine wC rfl ?_ ?_<;>(intro hb;(try simp only [nm] at hb);try (exfalso;omega)))|(refine rg 2 (vV (aJ rfl rfl) ?_))|(refine rg 3 (mW rfl (aV ?_)))|(refine rg 4 (dQ rfl (mW rfl (vV (ix T rfl (by omega) (jB l) hg) (lW T rfl (vV (by exact eQ rfl rfl hc rfl (by simp [AV.idfL,AV.idf,hi]) rfl) ?_))))))|(refine rg 6 (vV (bS rfl rfl (by omega) (by omega)) (mV ?_)))|refine nZ ?_));all_goals first | (exfalso;omega) | exact ⟨⟨k + 1,hlt,he⟩,by dsimp only;omega,⟨[],rfl,⟨rfl,by rw [lE hi];rfl,rfl,rfl,trivial⟩,trivial,cX,fun _ h => absurd h (dI _)⟩⟩
  · rw [N6 (by omega)] at he
    (repeat' (first|refine wS ?_|refine wR ?_|refine wE ?_|(refine wC rfl ?_ ?_<;>(intro hb;(try simp only [nm] at hb);try (exfalso;omega)))|(refine rg 2 (vV (aJ rfl rfl) ?_))|(refine rg 7 (aV ?_))|refine nZ ?_));all_goals first | (exfalso;omega) | exact cY (.inl rfl) rfl (by rw [he];rfl)
theorem YC {l : List W} {F : FuncId} {caps : List AV} {p : W → Bool} (hl : l.length ≤ 1000000) (hi : AV.idfL caps = true) (hF : ∀ x,x ∈ l → aO Tryz.prog F (.agg (wA x) :: caps) [] (.b (p x)) []) :
    aO Tryz.prog 121 [.rowE (eY l) 3,.clo (.func F) [] caps] [] (.b (l.any p)) [] := by
  have hc := PB hl hi hF;rw [← zP p l 0];refine bK T Tryz.func121 rfl rfl rfl rfl ?_
  (repeat' (first|refine wS ?_|refine wR ?_|(refine rg 0 (aV ?_))|(refine rg 1 (dQ rfl (vV (by exact eQ rfl rfl hc rfl (by simp [AV.idfL,AV.idf,hi]) rfl) ?_));refine vV (jD rfl rfl) (aV ?_))|refine nZ ?_));all_goals first | (exfalso;omega) | exact rQ
theorem WR {l : List G} {F : FuncId} {caps : List AV} {p : G → Bool} (hl : l.length ≤ 1000000) (hi : AV.idfL caps = true) (hF : ∀ x,x ∈ l → aO Tryz.prog F (.agg (gA x) :: caps) [] (.b (p x)) []) :
    aO Tryz.prog 75 [.rowE (iB l) 2,.clo (.func F) [] caps] [] (.i (qK p l 0)) [] := by
  have hlen : (iB l).length = l.length := bF _;refine bK T Tryz.func75 rfl rfl rfl rfl ?_
  (repeat' (first|refine wS ?_|refine wB ?_|(refine rg 0 (aV ?_))|(refine rg 1 (mW rfl (qW T rfl (mV ?_))))|refine nZ ?_));refine cK (X := {k : Nat // k ≤ l.length ∧ qK p l 0 = qK p (l.drop k) k}) (fun k => [(0,.rowE (iB l) 2),(1,.clo (.func F) [] caps),(7,.i (iB l).length),(8,.i k.1)]) (fun _ => []) (fun k => l.length - k.1) ⟨0,by simp,rfl⟩ ⟨[],rfl,⟨rfl,by rw [lE hi];rfl,rfl,rfl,trivial⟩,trivial,cX,fun _ h => absurd h (dI _)⟩ ?_
  rintro ⟨k,hk,he⟩;dsimp only;by_cases hlt : k < l.length
  · have hc := hF l[k] (aI hlt);have hg := zR (l := l) hlt;rw [Z8 hlt] at he;generalize l[k] = y at *;cases hp : p y with
    | true =>
      rw [hp] at hc;rw [hp,if_pos rfl] at he
      (repeat' (first|refine wS ?_|refine wB ?_|refine wK ?_|refine wR ?_|refine wT ?_|(refine wC rfl ?_ ?_<;>(intro hb;(try simp only [nm] at hb);try (exfalso;omega)))|(refine rg 2 (vV (aJ rfl rfl) ?_))|(refine rg 3 (mW rfl (aV ?_)))|(refine rg 4 (dQ rfl (mW rfl (vV (ix T rfl (by omega) (mS l) hg) (lW T rfl (vV (by exact eQ rfl rfl hc rfl (by simp [AV.idfL,AV.idf,hi]) rfl) ?_))))))|(refine rg 5 (mW rfl (aV ?_)))|refine nZ ?_));all_goals first | (exfalso;omega) | exact cY (.inl rfl) rfl (by rw [he];rfl)
    | false =>
      rw [hp] at hc;rw [hp,if_neg (by simp)] at he
      (repeat' (first|refine wS ?_|refine wB ?_|refine wK ?_|refine wU ?_|(refine wC rfl ?_ ?_<;>(intro hb;(try simp only [nm] at hb);try (exfalso;omega)))|(refine rg 2 (vV (aJ rfl rfl) ?_))|(refine rg 3 (mW rfl (aV ?_)))|(refine rg 4 (dQ rfl (mW rfl (vV (ix T rfl (by omega) (mS l) hg) (lW T rfl (vV (by exact eQ rfl rfl hc rfl (by simp [AV.idfL,AV.idf,hi]) rfl) ?_))))))|(refine rg 6 (vV (bS rfl rfl (by omega) (by omega)) (mV ?_)))|refine nZ ?_));all_goals first | (exfalso;omega) | exact ⟨⟨k + 1,hlt,he⟩,by dsimp only;omega,⟨[],rfl,⟨rfl,by rw [lE hi];rfl,rfl,rfl,trivial⟩,trivial,cX,fun _ h => absurd h (dI _)⟩⟩
  · rw [N6 (by omega)] at he
    (repeat' (first|refine wS ?_|refine wR ?_|refine wE ?_|(refine wC rfl ?_ ?_<;>(intro hb;(try simp only [nm] at hb);try (exfalso;omega)))|(refine rg 2 (vV (aJ rfl rfl) ?_))|(refine rg 7 (aV ?_))|refine nZ ?_));all_goals first | (exfalso;omega) | exact cY (.inl rfl) rfl (by rw [he];rfl)
theorem YF {l : List G} {F : FuncId} {caps : List AV} {p : G → Bool} (hl : l.length ≤ 1000000) (hi : AV.idfL caps = true) (hF : ∀ x,x ∈ l → aO Tryz.prog F (.agg (gA x) :: caps) [] (.b (p x)) []) :
    aO Tryz.prog 43 [.rowE (iB l) 2,.clo (.func F) [] caps] [] (.b (l.any p)) [] := by
  have hc := WR hl hi hF;rw [← zP p l 0];refine bK T Tryz.func43 rfl rfl rfl rfl ?_
  (repeat' (first|refine wS ?_|refine wR ?_|(refine rg 0 (aV ?_))|(refine rg 1 (dQ rfl (vV (by exact eQ rfl rfl hc rfl (by simp [AV.idfL,AV.idf,hi]) rfl) ?_));refine vV (jD rfl rfl) (aV ?_))|refine nZ ?_));all_goals first | (exfalso;omega) | exact rQ
theorem zC5 {l : List Int} {F : FuncId} {caps : List AV} {p : Int → Bool} (hl : l.length ≤ 1000000) (hi : AV.idfL caps = true) (hF : ∀ x,x ∈ l → aO Tryz.prog F (.i x :: caps) [] (.b (p x)) []) :
    aO Tryz.prog 100 [.rowE (ints l) 1,.clo (.func F) [] caps] [] (.i (qK p l 0)) [] := by
  have hlen : (ints l).length = l.length := bF _;refine bK T Tryz.func100 rfl rfl rfl rfl ?_
  (repeat' (first|refine wS ?_|refine wB ?_|(refine rg 0 (aV ?_))|(refine rg 1 (mW rfl (qW T rfl (mV ?_))))|refine nZ ?_));refine cK (X := {k : Nat // k ≤ l.length ∧ qK p l 0 = qK p (l.drop k) k}) (fun k => [(0,.rowE (ints l) 1),(1,.clo (.func F) [] caps),(7,.i (ints l).length),(8,.i k.1)]) (fun _ => []) (fun k => l.length - k.1) ⟨0,by simp,rfl⟩ ⟨[],rfl,⟨rfl,by rw [lE hi];rfl,rfl,rfl,trivial⟩,trivial,cX,fun _ h => absurd h (dI _)⟩ ?_
  rintro ⟨k,hk,he⟩;dsimp only;by_cases hlt : k < l.length
  · have hc := hF l[k] (aI hlt);have hg := IH (l := l) hlt;rw [Z8 hlt] at he;generalize l[k] = y at *;cases hp : p y with
    | true =>
      rw [hp] at hc;rw [hp,if_pos rfl] at he
      (repeat' (first|refine wS ?_|refine wB ?_|refine wK ?_|refine wR ?_|refine wT ?_|(refine wC rfl ?_ ?_<;>(intro hb;(try simp only [nm] at hb);try (exfalso;omega)))|(refine rg 2 (vV (aJ rfl rfl) ?_))|(refine rg 3 (mW rfl (aV ?_)))|(refine rg 4 (dQ rfl (mW rfl (vV (ix T rfl (by omega) (bZ l) hg) (lW T rfl (vV (by exact eQ rfl rfl hc rfl (by simp [AV.idfL,AV.idf,hi]) rfl) ?_))))))|(refine rg 5 (mW rfl (aV ?_)))|refine nZ ?_));all_goals first | (exfalso;omega) | exact cY (.inl rfl) rfl (by rw [he];rfl)
    | false =>
      rw [hp] at hc;rw [hp,if_neg (by simp)] at he
      (repeat' (first|refine wS ?_|refine wB ?_|refine wK ?_|refine wU ?_|(refine wC rfl ?_ ?_<;>(intro hb;(try simp only [nm] at hb);try (exfalso;omega)))|(refine rg 2 (vV (aJ rfl rfl) ?_))|(refine rg 3 (mW rfl (aV ?_)))|(refine rg 4 (dQ rfl (mW rfl (vV (ix T rfl (by omega) (bZ l) hg) (lW T rfl (vV (by exact eQ rfl rfl hc rfl (by simp [AV.idfL,AV.idf,hi]) rfl) ?_))))))|(refine rg 6 (vV (bS rfl rfl (by omega) (by omega)) (mV ?_)))|refine nZ ?_));all_goals first | (exfalso;omega) | exact ⟨⟨k + 1,hlt,he⟩,by dsimp only;omega,⟨[],rfl,⟨rfl,by rw [lE hi];rfl,rfl,rfl,trivial⟩,trivial,cX,fun _ h => absurd h (dI _)⟩⟩
  · rw [N6 (by omega)] at he
    (repeat' (first|refine wS ?_|refine wR ?_|refine wE ?_|(refine wC rfl ?_ ?_<;>(intro hb;(try simp only [nm] at hb);try (exfalso;omega)))|(refine rg 2 (vV (aJ rfl rfl) ?_))|(refine rg 7 (aV ?_))|refine nZ ?_));all_goals first | (exfalso;omega) | exact cY (.inl rfl) rfl (by rw [he];rfl)
theorem PN {l : List Int} {F : FuncId} {caps : List AV} {p : Int → Bool} (hl : l.length ≤ 1000000) (hi : AV.idfL caps = true) (hF : ∀ x,x ∈ l → aO Tryz.prog F (.i x :: caps) [] (.b (p x)) []) :
    aO Tryz.prog 53 [.rowE (ints l) 1,.clo (.func F) [] caps] [] (.b (l.any p)) [] := by
  have hc := zC5 hl hi hF;rw [← zP p l 0];refine bK T Tryz.func53 rfl rfl rfl rfl ?_
  (repeat' (first|refine wS ?_|refine wR ?_|(refine rg 0 (aV ?_))|(refine rg 1 (dQ rfl (vV (by exact eQ rfl rfl hc rfl (by simp [AV.idfL,AV.idf,hi]) rfl) ?_));refine vV (jD rfl rfl) (aV ?_))|refine nZ ?_));all_goals first | (exfalso;omega) | exact rQ
end Go.Proofs.YtbialaoigijlgaaGreatDoor
namespace Go.Ab
open Go
def nW (L : List Nat) (pos k : Nat) : Nat := match L[k]? with
  | some j => j
  | none => pos
theorem HS.callP {c : mZ} {ρ ρ' : Pl} {S S' : Nat → Prop} {H hin hout : Hp} {w w' : World} {L : List Nat} {pos : Nat} {b1 : AB} (s : HS c ρ S H w) (hL : L.length = hin.length) (hnd : L.Nodup) (hh : qU (th L H.length) H 0 hin) (hng : ∀ b, b ∈ hin → b ≠ .gone)
    (hlen : hout.length = hin.length) (hp0 : ρ pos = Option.none) (hp1 : H[pos]? = some .gone) (hpm : c.m ≤ pos)
    (hs : HS (mM w (fun k => ρ (th L H.length k)) S hin) ρ' S' (hout ++ [b1]) w') :
    ∃ ρ3 : Pl,HS c ρ3 S' ((vK H L (hout.map (AB.map (nW L pos)))).set pos (b1.map (nW L pos))) w' ∧ gQ ρ ρ3 S S' w w' ∧ (∀ {x : AV} {y : Value},R S' w' x ρ' y → R S' w' (x.map (nW L pos)) ρ3 y) ∧ ∀ j,j ≠ pos → ρ3 j = ρ j := by
  have hin_at : ∀ {i : Nat} {b : AB},hin[i]? = some b → ∃ j,L[i]? = some j ∧ j < H.length ∧ H[j]? = some (b.map (th L H.length)) ∧ b.map (th L H.length) ≠ .gone := fun {i b} hb => by
    have hne := hng b (aM hb);have hlt : i < L.length := by rw [hL];exact (aA.1 hb).1
    have hj := aB hlt;have hth : th L H.length i = L[i] := by simp [th,hj]
    rcases hh.get i b hb with hg | hg
    · exact absurd hg hne
    · rw [Nat.zero_add,hth] at hg;exact ⟨L[i],hj,(aA.1 hg).1,hg,by cases b <;> simp [AB.map] at * ⟩
  have thL : ∀ {i j : Nat},L[i]? = some j → th L H.length i = j := fun hi => by simp [th,hi]
  have keep : ∀ {i j : Nat},i < hin.length → L[i]? = some j → ρ' i = ρ j := fun {i j} hi hj => by
    have := hs.keep i hi;simp only [mM] at this;rw [this,thL hj]
  have hM : ∀ b,(mM w (fun k => ρ (th L H.length k)) S hin).M b → w.heap.size ≤ b ∨ ∃ (i j : Nat) (o : Nat) (x : AB),hin[i]? = some x ∧ L[i]? = some j ∧ ρ j = some (b,o) := fun b hb => by
    rcases hb with hb | ⟨k,x,o,hb,_,hp⟩
    · exact .inl hb
    · obtain ⟨j,h3,_⟩ := hin_at hb;exact .inr ⟨k,j,o,x,hb,h3,by rw [← thL h3];exact hp⟩
  have hcM : ∀ b,(mM w (fun k => ρ (th L H.length k)) S hin).M b → c.M b := fun b hb => by
    rcases hM b hb with hb | ⟨i,j,o,x,h3,h4,h5⟩
    · exact c.new b (bW s.ext.size hb)
    · obtain ⟨j',h6,_,h7,h8⟩ := hin_at h3;rw [h4] at h6;cases h6;exact (s.live j _ _ h7 h8 h5).1
  have hlow : ∀ b,b < w.heap.size → (mM w (fun k => ρ (th L H.length k)) S hin).M b → ∃ (i j : Nat) (o : Nat) (x : AB),hin[i]? = some x ∧ L[i]? = some j ∧ ρ j = some (b,o) := fun b hlt hb => by
    rcases hM b hb with hb | hb
    · omega
    · exact hb
  have other : ∀ {k : Nat} {b : AB} {q : Nat × Nat},H[k]? = some b → b ≠ .gone → k ∉ L → ρ k = some q → ¬ (mM w (fun k => ρ (th L H.length k)) S hin).M q.1 := fun {k b q} hb hg hkL hq hm => by
    obtain ⟨i,j,o,x,h3,h4,h5⟩ := hlow q.1 (s.rng k q hq) hm;obtain ⟨j',h6,_,h7,h8⟩ := hin_at h3;rw [h4] at h6;cases h6;have := s.inj k j _ _ q _ hb h7 hg h8 hq h5 rfl;subst this;exact hkL (aM h4)
  have stM : ∀ b,S b → ¬ (mM w (fun k => ρ (th L H.length k)) S hin).M b := fun b hb hm => by
    obtain ⟨i,j,o,x,h3,h4,h5⟩ := hlow b (s.stab b hb) hm;obtain ⟨j',h6,_,h7,h8⟩ := hin_at h3;rw [h4] at h6;cases h6;exact (s.live j _ _ h7 h8 h5).2 hb
  have same : ∀ b,b < w.heap.size → ¬ (mM w (fun k => ρ (th L H.length k)) S hin).M b → w'.heap[b]? = w.heap[b]? := fun b hb hm => hs.ext.same b hb hm
  have hposL : pos ∉ L := fun hm => by
    obtain ⟨i,hi⟩ := BM.1 hm;have hlt : i < hin.length := by rw [← hL];exact (aA.1 hi).1
    obtain ⟨j,h3,_,h4,h5⟩ := hin_at (aB hlt);rw [hi] at h3;cases h3;rw [hp1] at h4;exact h5 (Option.some.inj h4).symm
  have hposH : pos < H.length := (aA.1 hp1).1
  let ρ3 : Pl := fun j => if j = pos then ρ' hin.length else ρ j
  have r3p : ρ3 pos = ρ' hin.length := if_pos rfl;have r3o : ∀ j,j ≠ pos → ρ3 j = ρ j := fun j hj => if_neg hj
  have l : gQ ρ ρ3 S S' w w' := by
    refine ⟨fun k q hq => ?_,hs.st0,fun b hb => same b (s.stab b hb) (stM b hb),fun _ _ _ _ _ hr => hs.ext.room hr⟩
    rw [r3o k (fun e => by rw [e,hp0] at hq;cases hq)];exact hq
  have pl : ∀ k q,ρ' k = some q → ρ3 (nW L pos k) = some q := fun k q hq => by
    by_cases hk : k < hin.length
    · obtain ⟨j,h3,_,_⟩ := hin_at (aB hk);have hbk : nW L pos k = j := by simp [nW,h3]
      have hjp : j ≠ pos := fun e => hposL (e ▸ aM h3);rw [hbk,r3o j hjp,← keep hk h3];exact hq
    · by_cases hk2 : k = hin.length
      · have hbk : nW L pos k = pos := by unfold nW;rw [cH (by omega)]
        rw [hbk,r3p,← hk2];exact hq
      · have := hs.dom k (by rw [aD,hlen,List.length_singleton];omega)
        rw [this] at hq;cases hq
  have shift : ∀ {x : AV} {y : Value},R S' w' x ρ' y → R S' w' (x.map (nW L pos)) ρ3 y := fun {x y} hx => E2 _ _ x y (lU (fun _ h => h) (fun _ _ => rfl) x ρ' _ y pl (fun _ _ _ _ _ h => h) hx);have shiftB : ∀ {b : AB} {pp},RB S' w' ρ' pp b → RB S' w' ρ3 pp (b.map (nW L pos)) := fun {b pp} hb => BL _ _ (RB.later (ρ := ρ') (S := S') ⟨pl,fun _ h => h,fun _ _ => rfl,fun _ _ _ _ _ h => h⟩ (fun _ _ _ => rfl) hb);have get : ∀ {k : Nat} {b : AB},((vK H L (hout.map (AB.map (nW L pos)))).set pos (b1.map (nW L pos)))[k]? = some b →
      (k ≠ pos ∧ k ∉ L ∧ H[k]? = some b) ∨ (∃ (i : Nat) (b' : AB),(hout ++ [b1])[i]? = some b' ∧ b = b'.map (nW L pos) ∧ nW L pos i = k ∧ ρ3 k = ρ' i) := fun {k b} hb => by
    rw [gJ] at hb;by_cases hk : pos = k
    · rw [if_pos hk,if_pos (by rw [jK];exact hposH)] at hb
      cases hb;refine .inr ⟨hin.length,b1,by rw [← hlen];simp,rfl,?_,by rw [← hk];exact r3p⟩
      unfold nW;rw [cH (by omega)]
      exact hk
    · rw [if_neg hk] at hb;by_cases hkL : k ∈ L
      · obtain ⟨i,hi⟩ := BM.1 hkL;have hiL : i < hin.length := by rw [← hL];exact (aA.1 hi).1
        have hb' := aB (l := hout) (i := i) (by omega)
        have hkl : k < H.length := by
          have := (aA.1 hb).1
          rwa [jK] at this
        rw [Y4 (b := (hout[i]'(by omega)).map (nW L pos)) hnd hi (by simp [hb']) hkl] at hb
        simp only [Option.some.injEq] at hb;exact .inr ⟨i,_,by rw [aF (by omega)];exact hb',hb.symm,by simp [nW,hi],by rw [r3o k (fun e => hk e.symm)];exact (keep hiL hi).symm⟩
      · rw [tJ _ _ _ hkL] at hb;exact .inl ⟨fun e => hk e.symm,hkL,hb⟩
  have mapg : ∀ {θ : Nat → Nat} {b : AB},b.map θ ≠ .gone → b ≠ .gone := fun hb e => hb (by rw [e];rfl)
  refine ⟨ρ3,⟨fun k hk => ?_,fun k q hq => ?_,fun k b hb => ?_,fun k b q hb hg hq => ?_,fun k k' b b' q q' hb hb' hg hg' hq hq' e => ?_,hs.stab,s.ext.trans hs.ext (fun b hb hlt => hcM b hb),fun b hb => hs.st0 b (s.st0 b hb),fun b hb => ?_,?_,fun k hk => ?_,hs.glob⟩,l,shift,r3o⟩
  · rw [fX,jK] at hk;rw [r3o k (by omega)]
    exact s.dom k hk
  · by_cases hk : k = pos
    · rw [hk,r3p] at hq;exact hs.rng _ q hq
    · rw [r3o k hk] at hq;exact dH (s.rng k q hq) hs.ext.size
  · rcases get hb with ⟨h3,h4,h5⟩ | ⟨i,b',h3,rfl,h4,h5⟩
    · rw [r3o k h3];by_cases hg : b = .gone
      · subst hg;trivial
      · exact RB.later l (fun b1 o1 hp => same b1 (s.rng k _ hp) (other h5 hg h4 hp)) (s.blk k b h5)
    · rw [h5];exact shiftB (hs.blk i b' h3)
  · rcases get hb with ⟨h3,h4,h5⟩ | ⟨i,b',h3,rfl,h4,h5⟩
    · rw [r3o k h3] at hq;obtain ⟨h7,h8⟩ := s.live k b q h5 hg hq;refine ⟨h7,fun hs' => ?_⟩
      rcases hs.st1 _ hs' with h9 | h9
      · exact h8 h9
      · exact other h5 hg h4 hq h9
    · rw [h5] at hq;obtain ⟨h7,h8⟩ := hs.live i b' q h3 (mapg hg) hq;exact ⟨hcM _ h7,h8⟩
  · rcases get hb with ⟨h3,h4,h5⟩ | ⟨i,b1,h3,rfl,h4,h5⟩ <;> rcases get hb' with ⟨h3',h4',h5'⟩ | ⟨i',b1',h3',rfl,h4',h5'⟩
    · rw [r3o k h3] at hq;rw [r3o k' h3'] at hq';exact s.inj k k' b b' q q' h5 h5' hg hg' hq hq' e
    · rw [r3o k h3] at hq;rw [h5'] at hq';have hl := (hs.live i' b1' q' h3' (mapg hg') hq').1;rw [← e] at hl;exact absurd hl (other h5 hg h4 hq)
    · rw [r3o k' h3'] at hq';rw [h5] at hq;have hl := (hs.live i b1 q h3 (mapg hg) hq).1;rw [e] at hl;exact absurd hl (other h5' hg' h4' hq')
    · rw [h5] at hq;rw [h5'] at hq';have := hs.inj i i' b1 b1' q q' h3 h3' (mapg hg) (mapg hg') hq hq' e;subst this;rw [← h4,← h4']
  · rcases hs.st1 b hb with hb' | hb'
    · exact s.st1 b hb'
    · exact .inr (hcM b hb')
  · rw [fX,jK];exact s.mle
  · rw [r3o k (by omega)]
    exact s.keep k hk
theorem qU.up {θ : Nat → Nat} {h H : Hp} (hb : ∀ (j : Nat) b, h[j]? = some b → b ≠ .gone → H[j]? = some b) : ∀ {hin : Hp} {i : Nat}, (∀ b, b ∈ hin → b ≠ .gone) → qU θ h i hin → qU θ H i hin
  | [],_,_,_ => trivial
  | b :: r,i,hng,hs => by
    refine ⟨?_,qU.up hb (fun x hx => hng x (aY _ hx)) hs.2⟩;rcases hs.1 with h1 | h1
    · exact .inl h1
    · refine .inr (hb _ _ h1 ?_);have := hng b bA;cases b <;> simp [AB.map] at *
section
variable {P : Program} {env : dK} {h : Hp} {d : Option Nat} {ty : TypeId} {pos : String} {af : Array Edge}
theorem EO (L : List Nat) {pp k : Nat} {nb b1 u1 : AB} {uu : AV} {dd : Nat} {x : Operand} {f : FuncId} {fs cs us xs : List AV} {args : List Operand} {ats : Array TypeId} {res : AV} {hin hout : Hp} (hx : evu env x = some (.clo (.func f) fs cs)) (ha : xR env args = some us)
    (hc : aO P f xs hin res (hout ++ [b1])) (hxs : ∀ N,fs ++ us ++ cs = AV.mapL (th L N) xs) (hL : L.length = hin.length) (hnd : L.Nodup) (hh : ∀ N,qU (th L N) h 0 hin) (hng : ∀ b,b ∈ hin → b ≠ .gone) (hlen : hout.length = hin.length)
    (hput : ∀ H : Hp,(∀ (j : Nat) b,h[j]? = some b → b ≠ .gone → H[j]? = some b) → vK H L (hout.map (AB.map (nW L pp))) = H.set k nb) (hu : res.map (nW L pp) = uu) (hb1 : b1.map (nW L pp) = u1) :
    jR P ⟨some dd,.call { callee := .value x,args := args.toArray,argTypes := ats },ty,pos,af,none⟩ env h pp k nb uu [u1] := by
  intro c ρ S a w H g p hbel hpp K' Q hK';obtain ⟨hr0,hH0,hm0⟩ : ρ pp = none ∧ H[pp]? = some .gone ∧ c.m ≤ pp := by
    rcases hpp with h0 | h0
    · cases h0
    · exact h0
  have hxv := p.evu hx;simp only [R] at hxv;obtain ⟨ys,zs,e1,h1,h2⟩ := hxv;have hall : RL S w (fs ++ us ++ cs) ρ (ys.toList ++ args.map a.eval ++ zs.toList) := hC (hC h1 (rG p ha)) h2;rw [hxs H.length] at hall;have hargs := nR (th L H.length) ρ _ _ hall;obtain ⟨hf,hc⟩ := hc;have hsub := qU.up hbel hng (hh H.length);have hs0 := g.hand hL hnd hsub;have hcall := hc _ S w _ hs0 hargs;unfold Oper.wp;have hrun : (execOp a.eval ⟨some dd,.call { callee := .value x,args := args.toArray,argTypes := ats },ty,pos,af,none⟩).run P w = .ok (.enter f (ys.toList ++ args.map a.eval ++ zs.toList).toArray) w := by
    have e2 : (ys ++ (args.toArray.map a.eval) ++ zs) = (ys.toList ++ args.map a.eval ++ zs.toList).toArray := by
      apply Array.ext';simp
    simp only [execOp,resolve,e1,Deferred.ofValue,Sem.run_bind,Sem.run_pure,Result.andThen_ok,invoke];rw [e2];exact vG hf
  rw [hrun];simp only [Oper.upon];refine hcall.mono ?_;rintro e w' ⟨y,ρ',S',rfl,hs,hy⟩;simp only;obtain ⟨ρ3,g1,g2,g3,g4⟩ := g.callP hL hnd hsub hng hlen hr0 hH0 hm0 hs;rw [hput H hbel,hb1] at g1;exact hK' _ ρ3 S' w' g1 g2 (hu ▸ g3 hy) (fun j hj => g4 j (hj (by simp)))
end
theorem nX.freezeP {n : Nat × Nat} {c : mZ} {ρ : Pl} {S : Nat → Prop} {env : dK} {h : Hp} {a : Act} {w : World} {t k off : Nat} {cs : List AV} (s : nX n c ρ S env h a w) (ht : look env t = some (.ptr k off)) (hk : h[k]? = some (.cells cs)) (hi : AV.idfL cs = true) :
    nX n c ρ (fun b => S b ∨ ∃ o,ρ k = some (b,o)) ((t,.pr cs off) :: env) (h.set k .gone) a w := by
  refine ⟨s.size,s.defers.st (fun _ h => .inl h),fun t' x hx => ?_,s.hs.freezeC hk (by simp),s.cm⟩
  rw [gH] at hx;split at hx
  · rename_i e;subst e;cases hx;exact DR hi (s.hs.blk k _ hk) (s.env t _ ht)
  · exact RV (fun _ h => .inl h) (s.env t' x hx)
theorem BI {S S' : Nat → Prop} {w : World} {ρ : Pl} {x x' : AV} (hS : ∀ b, S b → S' b) (hx : ∀ y, R S w x ρ y → R S' w x' ρ y) : ∀ {cs : List AV} {f : Nat}, cs[f]? = some x → ∀ {ys : List Value}, RL S w cs ρ ys → RL S' w (cs.set f x') ρ ys
  | [],f,hf,ys,h => by simp at hf
  | c :: cs,0,hf,ys,h => by
    simp only [dX,Option.some.injEq] at hf;subst hf;simp only [RL,List.set_cons_zero] at h ⊢;obtain ⟨y,zs,e,h1,h2⟩ := h;exact ⟨y,zs,e,hx y h1,RY hS h2⟩
  | c :: cs,f + 1,hf,ys,h => by
    simp only [jA] at hf;simp only [RL,List.set_cons_succ] at h ⊢;obtain ⟨y,zs,e,h1,h2⟩ := h;exact ⟨y,zs,e,RV hS h1,BI hS hx hf h2⟩
theorem nX.freezeIn {n : Nat × Nat} {c : mZ} {ρ : Pl} {S : Nat → Prop} {env : dK} {h : Hp} {a : Act} {w : World} {j f k len sz : Nat} {cs : List AV} {es : List (List AV)} (s : nX n c ρ S env h a w) (hj : h[j]? = some (.cells cs)) (hf : cs[f]? = some (.sl k 0 len sz)) (hk : h[k]? = some (.arr es sz)) (hn : len = es.length) (hi : AV.idfL es.flatten = true) :
    nX n c ρ (fun b => S b ∨ ∃ o,ρ k = some (b,o)) env ((h.set k .gone).set j (.cells (cs.set f (.rowE es sz)))) a w := by
  have hne : j ≠ k := by rintro rfl;rw [hj] at hk;cases hk
  have h1 := s.hs.freeze hk;have hj' : (h.set k .gone)[j]? = some (.cells cs) := by rw [iZ (Ne.symm hne)];exact hj
  refine ⟨s.size,s.defers.st (fun _ h => .inl h),fun t' x hx => RV (fun _ h => .inl h) (s.env t' x hx),h1.alter hj' (fun _ => ?_) (by simp),s.cm⟩
  have hb := s.hs.blk j _ hj;simp only [RB] at hb ⊢;obtain ⟨b,o,ys,e1,e2,e3⟩ := hb;refine ⟨b,o,ys,e1,e2,BI (fun _ h => .inl h) (fun y hy => ?_) hf e3⟩;rw [hn] at hy;exact zW hi (s.hs.blk k _ hk) hy
section
variable {P : Program} {n : Nat × Nat} {ops : Array Oper} {env : dK} {h : Hp} {K : dK → Hp → Prop} {rest : List Oper} {Q : Exit → dK → Hp → Prop} {code : Code}
theorem fC (t : Nat) {k off : Nat} {cs : List AV} (ht : look env t = some (.ptr k off)) (hk : h[k]? = some (.cells cs)) (hi : AV.idfL cs = true) (hv : AW P n code ((t,.pr cs off) :: env) (h.set k .gone) Q) : AW P n code env h Q :=
  fun c ρ S a w QQ s hQ => hv c ρ _ a w QQ (s.freezeP ht hk hi) hQ
theorem mB (j f : Nat) {k len sz : Nat} {cs : List AV} {es : List (List AV)} (hj : h[j]? = some (.cells cs)) (hf : cs[f]? = some (.sl k 0 len sz)) (hk : h[k]? = some (.arr es sz)) (hn : len = es.length) (hi : AV.idfL es.flatten = true) (hv : AW P n code env ((h.set k .gone).set j (.cells (cs.set f (.rowE es sz)))) Q) : AW P n code env h Q :=
  fun c ρ S a w QQ s hQ => hv c ρ _ a w QQ (s.freezeIn hj hf hk hn hi) hQ
end
theorem HS.snocG {c : mZ} {ρ : Pl} {S : Nat → Prop} {H : Hp} {w : World} (s : HS c ρ S H w) : HS c ρ S (H ++ [.gone]) w := by
  have get : ∀ {k : Nat} {b : AB},(H ++ [AB.gone])[k]? = some b → b ≠ .gone → H[k]? = some b := fun {k b} hb hg => by
    by_cases hk : k < H.length
    · rwa [aF hk] at hb
    · rw [aE (by omega)] at hb
      by_cases e : k - H.length = 0
      · rw [e] at hb;simp at hb;exact absurd hb.symm hg
      · rw [cH (by simp;omega)] at hb;cases hb
  refine ⟨fun k hk => s.dom k (by simp at hk;omega),s.rng,fun k b hb => ?_,fun k b q hb hg hq => s.live k b q (get hb hg) hg hq,fun k k' b b' q q' hb hb' hg hg' hq hq' e => s.inj k k' b b' q q' (get hb hg) (get hb' hg') hg hg' hq hq' e,s.stab,s.ext,s.st0,s.st1,by rw [aD];have := s.mle;omega,s.keep,s.glob⟩
  by_cases hg : b = .gone
  · subst hg;trivial
  · exact s.blk k b (get hb hg)
theorem P8 {P : Program} {f : FuncId} {args : List AV} {res : AV} {hin hout : Hp} (h : aO P f args hin res hout) : aO P f args hin res (hout ++ [.gone]) := by
  refine ⟨h.1,fun ρ S w vs hs ha => (h.2 ρ S w vs hs ha).mono ?_⟩;rintro e w' ⟨y,ρ',S',rfl,h2,h3⟩;exact ⟨y,ρ',S',rfl,h2.snocG,h3⟩
end Go.Ab
namespace Go.Ab
open Go
set_option maxHeartbeats 1000000
theorem T6 {w : World} {n b off : Nat} {d : List Value} {os : Array Obj} {c : Array Value} {e : TypeId} (hc : w.heap[b]? = some (.cells c e (0,0))) (hb : b < w.heap.size) :
    (Sort.grow (Sort.putRow id (Sort.ahead w n) b off d.toArray) os).heap[b]? = some (.cells (Sort.putCells id off d.toArray c) e (0,0)) := by
  rw [Sort.heap_grow_old _ _ (by rw [Sort.size_putRow];exact hb)]
  unfold Sort.putRow Sort.mapBlock;show (w.heap.modify b _)[b]? = _;rw [lN,if_pos rfl,hc];rfl
theorem CU {w : World} {n b off : Nat} {d : List Value} {os : Array Obj} {c : Array Value} {e : TypeId} (hc : w.heap[b]? = some (.cells c e (0,0))) (hb : b < w.heap.size) :
    lC (fun x => x = b) w (Sort.grow (Sort.putRow id (Sort.ahead w n) b off d.toArray) os) := by
  have other : ∀ x,x < w.heap.size → x ≠ b → (Sort.grow (Sort.putRow id (Sort.ahead w n) b off d.toArray) os).heap[x]? = w.heap[x]? := fun x hx hne => by
    rw [Sort.heap_grow_old _ _ (by rw [Sort.size_putRow];exact hx)]
    unfold Sort.putRow Sort.mapBlock;show (w.heap.modify b _)[x]? = _;rw [lN,if_neg (Ne.symm hne)]
  refine ⟨rfl,rfl,rfl,by rw [Sort.size_grow,Sort.size_putRow];exact gG _ _,fun x hx hne => other x hx hne,fun x cc ee fz hcc => ?_⟩
  by_cases hx : x = b
  · subst hx;rw [hc] at hcc;cases hcc;exact ⟨_,_,T6 hc hb,by simp [Sort.putCells]⟩
  · exact ⟨cc,fz,by rw [other x (aH.1 hcc).1 hx];exact hcc,rfl⟩
theorem TP {c : mZ} {ρ : Pl} {S : Nat → Prop} {es es' : List (List AV)} {sz : Nat} {w w' : World} {b o n : Nat} {ys ys' Z : List Value} (s : HS c ρ S [.arr es sz] w) (hp : ρ 0 = some (b, o)) (hne : es ≠ [])
    (hys : F9 w b o ys) (hl : (ys' ++ Z).length = ys.length) (he : ∀ e,e ∈ es' → e.length = sz) (hr : ∀ S' w',gQ ρ ρ S S' w w' → RL S' w' es'.flatten ρ ys')
    (hw : w' = Sort.putRow id (Sort.ahead w n) b o (ys' ++ Z).toArray) : HS c ρ S [.arr es' sz] w' := by
  obtain ⟨_,h0,h3⟩ := s.blk 0 _ rfl;obtain ⟨c,ty,hc,hg⟩ := hys;have hb := (aH.1 hc).1;have hw2 : w' = Sort.grow (Sort.putRow id (Sort.ahead w n) b o (ys' ++ Z).toArray) #[] := by rw [hw,zS]
  have hh : w'.heap[b]? = some (.cells (Sort.putCells id o (ys' ++ Z).toArray c) ty (0,0)) := by rw [hw2];exact T6 hc hb
  obtain ⟨s',_⟩ := s.upd (k := 0) (b0 := .arr es sz) (nb := .arr es' sz) (w' := w') rfl (by simp) hp (by rw [hw2];exact CU hc hb) (fun l => by
    refine ⟨he,h0,.inr ⟨b,o,ys',rfl,⟨_,ty,hh,fun j y hj => ?_⟩,hr _ _ l⟩⟩
    obtain ⟨hjl,hz⟩ := aA.1 hj;rw [aD] at hl;have hold := hg j (ys[j]'(by omega)) (aB (by omega))
    unfold Sort.putCells;rw [BP,hold];show some (if o ≤ o + j ∧ o + j < o + (ys' ++ Z).toArray.size then _ else _) = _
    have hsz : (ys' ++ Z).toArray.size = ys'.length + Z.length := by simp
    rw [if_pos ⟨by omega,by omega⟩]
    congr 1;rw [show o + j - o = j by omega,getElem!_pos _ j (by omega)]
    show (ys' ++ Z).toArray[j]'_ = y
    rw [wP,List.getElem_append_left hjl];exact hz)
  exact s'
theorem LK {es : List (List AV)} {sz : Nat} (h : ∀ e,e ∈ es → e.length = sz) (m : Nat) : (es.drop m).flatten = es.flatten.drop (m * sz) := by
  induction es generalizing m with
  | nil => simp
  | cons a l ih =>
    have ha := h a bA;cases m with
    | zero => simp
    | succ m =>
      rw [List.drop_succ_cons,dZ,ih (fun e he => h e (aY _ he)),List.drop_append];rw [cT (l := a) (by rw [ha,eF];omega),ha,eF,EX,MB,List.nil_append]
theorem RZ {S : Nat → Prop} {w : World} {ρ : Pl} : ∀ {xs as_ : List AV} {ys bs : List Value}, RL S w xs ρ ys → RL S w as_ ρ bs → RL S w (xs ++ as_) ρ (ys ++ bs)
  | [],as_,ys,bs,h,h' => by simp only [RL] at h;subst h;exact h'
  | x :: xs,as_,ys,bs,h,h' => by
    simp only [RL] at h;obtain ⟨y,zs,rfl,h1,h2⟩ := h;exact ⟨y,zs ++ bs,rfl,h1,RZ h2 h'⟩
theorem JE {S : Nat → Prop} {w : World} {ρ : Pl} : ∀ {xs : List AV} {ys : List Value}, RL S w xs ρ ys → xs.all AV.one = true → ∀ u, u ∈ ys → u.oneCell' = true
  | [],ys,h,_,u,hu => by simp only [RL] at h;subst h;cases hu
  | x :: xs,ys,h,h1,u,hu => by
    simp only [RL] at h;obtain ⟨y,zs,rfl,h2,h3⟩ := h;simp only [I5,aP] at h1;rcases bX.1 hu with rfl | hu
    · exact Z0 h2 h1.1
    · exact JE h3 h1.2 u hu
theorem xT {P : Program} {f : FuncId} {sz : Nat} (hfn : ∃ fn, P.funcs[f]? = some fn ∧ (fn.name == "runtime.NumGoroutine") = false ∧ fn.body.isNone = false)
    (hs : ∀ (blk off cap len i j : Nat) (cs : List Value) (w : World),cs.length = len * sz → Sort.Holds id w blk off cs.toArray → (∀ u,u ∈ cs → u.oneCell' = true) → len ≤ cap → cap ≤ 9223372036854775807 → i ≤ j → j ≤ len →
      Calls P f #[.slice (some ⟨blk,off,none⟩) len cap,.int .i64 i,.int .i64 j] w fun e w' => e = .returned (.slice (some ⟨blk,off,none⟩) (len - (j - i)) cap) ∧ ∃ (q : Nat) (Z : List Value),Z.length = (j - i) * sz ∧ w' = Sort.putRow id (Sort.ahead w q) blk off (cs.take (i * sz) ++ cs.drop (j * sz) ++ Z).toArray)
    (es : List (List AV)) (hes : ∀ e,e ∈ es → e.length = sz) (h1 : es.flatten.all AV.one = true) (i j : Nat) (hij : i ≤ j) (hj : j ≤ es.length) (hne : es ≠ []) :
    aO P f [.sl 0 0 es.length sz,.i (i : Int),.i (j : Int)] [.arr es sz] (.sl 0 0 (es.length - (j - i)) sz) [.arr (es.take i ++ es.drop j) sz] := by
  refine ⟨hfn,fun ρ S w vs s hv => ?_⟩
  simp only [RL] at hv;obtain ⟨y,_,rfl,hy,y2,_,rfl,hy2,y3,_,rfl,hy3,rfl⟩ := hv;simp only [R] at hy hy2 hy3;subst hy2 hy3;obtain ⟨a,cap,rfl,hcap,hy⟩ := hy;have hl0 : 0 < es.length := dY.2 hne;rcases hy with ⟨h0,_⟩ | ⟨b,o,hp,ha,hcl,hrm⟩
  · omega
  · obtain ⟨_,hs0,hB⟩ := s.blk 0 _ rfl;rcases hB with hB | ⟨b',o',ys,h4,h5,h6⟩
    · exact absurd hB.1 hne
    · rw [hp] at h4;cases h4;rw [R7,Nat.add_zero] at ha;subst ha;have hmax : maxLen ≤ 9223372036854775807 := by decide
      have hyl : ys.length = es.length * sz := by rw [fI h6,fA hes]
      obtain ⟨cc,ct,hcc,hcg⟩ := h5;have hH : Sort.Holds id w b o ys.toArray := fun t ht => by
        have ht' : t < ys.length := by simpa using ht
        have h7 := hcg t ys[t] (aB ht');refine ⟨?_,?_⟩
        · show w.cell? ⟨b,o + t,none⟩ = some (ys.toArray[t]!);rw [getElem!_pos _ t ht];simp only [World.cell?,hcc];rw [wP];exact h7
        · simp [World.frozen?,hcc]
      refine (hs b o cap es.length i j ys w hyl hH (JE h6 h1) hcl (by omega) hij hj).mono fun e w' ⟨he,q,Z,hZ,hw⟩ => ?_
      subst he;have hil : i * sz ≤ j * sz := gN _ hij;have hjl : j * sz ≤ es.length * sz := gN _ hj;have hsub : (j - i) * sz = j * sz - i * sz := Nat.sub_mul _ _ _;have s' := TP (es' := es.take i ++ es.drop j) (ys := ys) (ys' := ys.take (i * sz) ++ ys.drop (j * sz)) (Z := Z) (n := q) s hp hne ⟨cc, ct, hcc, hcg⟩ (by simp only [aD, aU, dD, hZ]; omega)
        (fun e he => by rcases bQ.1 he with he | he;exact hes e (eG he);exact hes e (eV he))
        (fun S' w' l => by
          rw [fQ,mL hes,LK hes]
          exact RZ (oX (h6.later l) _) (uK (h6.later l) _)) hw
      have hsz0 := hs0;refine ⟨_,ρ,S,rfl,s',?_⟩;simp only [R];refine ⟨_,cap,rfl,hcap,.inr ⟨b,o,hp,by simp,by omega,?_⟩⟩
      rw [hw];have hb := (aH.1 hcc).1;have hw2 : Sort.putRow id (Sort.ahead w q) b o (ys.take (i * sz) ++ ys.drop (j * sz) ++ Z).toArray = Sort.grow (Sort.putRow id (Sort.ahead w q) b o (ys.take (i * sz) ++ ys.drop (j * sz) ++ Z).toArray) #[] := by rw [zS]
      rw [hw2];exact (CU hcc hb).room hrm
theorem L4 {P : Program} (w : World) (t e ty : TypeId) (z : Value) (ht : P.underlying t = some (.slice e)) (hv : ∀ w, (zeroValue e).run P w = .ok z w) (hz : z.cells.toList ≠ []) (h1 : ∀ u, u ∈ z.cells.toList → u.oneCell' = true) (b o n c : Nat) (hn : 0 < n)
    (hc : ∀ j,j < n * z.cells.toList.length → (w.cell? ⟨b,o + j,none⟩).isSome = true) (hf : ∀ j,j < n * z.cells.toList.length → w.frozen? ⟨b,o + j,none⟩ = false) :
    (Builtin.clear_ #[t] ty #[.slice (some ⟨b,o,none⟩) n c]).run P w = .ok (.tuple #[]) (w.setCells b o (Builtin.zeroCells z.cells n).toList) := by
  obtain ⟨hm,hl⟩ := oB (z := z.cells) rfl hz n;have hst := run_storeCells_cells (P := P) b o (Builtin.zeroCells z.cells n).toList 0 w (fun j hj => by simpa using hc j (by omega)) (fun j hj => by simpa using hf j (by omega)) (fun v hv' => h1 v (hm v hv'))
  simp only [Nat.add_zero] at hst;obtain ⟨m,rfl⟩ : ∃ m,n = m + 1 := ⟨n - 1,by omega⟩
  simp [Builtin.clear_,run_underlying ht,hv,hst]
end Go.Ab
namespace Go.Proofs.YtbialaoigijlgaaGreatDoor
open Go Go.Ab Go.Ld Go.Lib Go.Sort Go.RowKit Go.Shelf
theorem G6 (d : List Value) (i j : Nat) (Z : List Value) (hij : i ≤ j) (hj : j ≤ d.length) (hZ : Z.length = j - i) :
    lay (lay d.toArray i (d.drop j)) (i + (d.length - j)) Z = (d.take i ++ d.drop j ++ Z).toArray := by
  apply Array.ext_getElem?;intro t;have l1 : (d.take i).length = i := by simp;omega
  have l2 : (d.drop j).length = d.length - j := by simp
  rw [lay_get? _ _ _ _ (by rw [lay_size];simp;omega),lay_get? _ _ _ _ (by rw [l2];simp;omega),show (d.take i ++ d.drop j ++ Z).toArray[t]? = (d.take i ++ d.drop j ++ Z)[t]? from gE]
  simp only [hZ,l2];by_cases c1 : t < i
  · rw [if_neg (by omega),if_neg (by omega),aF (by simp;omega),aF (by omega),bN,if_pos c1,gE]
  · by_cases c2 : t < i + (d.length - j)
    · rw [if_neg (by omega),if_pos (by omega),aF (by simp;omega),aE (by omega),l1]
    · rw [aE (by simp;omega)]
      simp only [aD,l1,l2];by_cases c3 : t < d.length
      · rw [if_pos (by omega)]
      · rw [if_neg (by omega),if_neg (by omega),Array.getElem?_eq_none (by simp;omega),cH (by omega)]
set_option maxHeartbeats 4000000 in
set_option maxRecDepth 1000000 in
theorem VM (blk off cap len i j : Nat) (cs : List Value) (w : World) (hcl0 : cs.length = len * 2) (hH : Holds id w blk off cs.toArray) (h1 : ∀ u,u ∈ cs → u.oneCell' = true) (hcap : len ≤ cap) (hm : cap ≤ 9223372036854775807) (hij : i ≤ j) (hj : j ≤ len) :
    Calls Tryz.prog 124 #[.slice (some ⟨blk,off,none⟩) len cap,.int .i64 i,.int .i64 j] w fun e w' => e = .returned (.slice (some ⟨blk,off,none⟩) (len - (j - i)) cap) ∧ ∃ (q : Nat) (Z : List Value),Z.length = (j - i) * 2 ∧ w' = putRow id (Sort.ahead w q) blk off (cs.take (i * 2) ++ cs.drop (j * 2) ++ Z).toArray := by
  by_cases heq : i = j
  · subst heq;have h0 : Calls Tryz.prog 124 #[.slice (some ⟨blk,off,none⟩) len cap,.int .i64 i,.int .i64 i] w fun e w' => e = .returned (.slice (some ⟨blk,off,none⟩) len cap) ∧ w' = w := by
      clear hH h1
      go_enter Tryz.func124,Tryz.ntmps124
      go_wp2
      all_goals (go_ret;exact ⟨rfl,rfl⟩)
    refine h0.mono ?_;rintro e w' ⟨rfl,rfl⟩;refine ⟨by rw [eX,SB],0,[],by simp,?_⟩
    rw [List.append_nil,bG];exact (putRow_self id (Sort.ahead w' 0) blk off cs.toArray hH).symm
  · have hlt : i < j := by omega
    obtain ⟨inf,z,t1,t2,t3,t4,t5,t6,t7⟩ := T.tiOk 56 _ rfl;have t22 : Tryz.prog.underlying 71 = some (.slice 56) := T.elemOk _ _ rfl;have hzv : ∀ w,(zeroValue 56).run Tryz.prog w = .ok z w := fun w => by simp [zeroValue,typeInfo,t1,t4]
    have hz2 : z.cells.toList.length = 2 := by rw [t5];rfl
    have hz1 : ∀ u,u ∈ z.cells.toList → u.oneCell' = true := by rw [t5];exact bB.1 rfl
    obtain ⟨_,hZl⟩ := oB (z := z.cells) rfl (by intro h;rw [h] at hz2;cases hz2) (j - i)
    rw [hz2] at hZl;have hji : len - (i + (len - j)) = j - i := by omega
    obtain ⟨Z,hZe⟩ : ∃ Z,Z = (Builtin.zeroCells z.cells (j - i)).toList := ⟨_,rfl⟩;rw [← hZe] at hZl;obtain ⟨news,hnews⟩ : ∃ news,news = cs.drop (j * 2) := ⟨_,rfl⟩;have hlen : news.length = (len - j) * 2 := by rw [hnews,dD];omega
    have hget : ∀ t,t < (len - j) * 2 → news[t]? = some (cs.toArray[j * 2 + t]!) := by
      intro t ht;rw [hnews,eC,getElem!_pos cs.toArray (j * 2 + t) (by simp;omega),wP,aB]
    obtain ⟨A,hA,hsrc⟩ : ∃ A : Addr,(if cap = j then some (⟨blk,off,none⟩ : Addr) else some ⟨blk,off + j * 2,none⟩) = some A ∧ Hid (∀ t u,news[t]? = some u → w.drew.cell? (A.add t) = some u) := by
      by_cases h : cap = j
      · refine ⟨⟨blk,off,none⟩,by simp [h],fun t u hu => ?_⟩
        have h0 : news.length = 0 := by rw [hlen];omega
        rw [fH.1 h0] at hu;simp at hu
      · refine ⟨⟨blk,off + j * 2,none⟩,by simp [h],fun t u hu => ?_⟩
        have ht : t < (len - j) * 2 := by
          have := (aA.1 hu).1
          rwa [hlen] at this
        rw [hget t ht] at hu;rw [Addr.add_lit,show off + j * 2 + t = off + (j * 2 + t) by omega]
        exact (hH (j * 2 + t) (by simp;omega)).1.trans hu
    have s1 : Hid (news.length = (len - j) * 2) := hlen;have s2 : Hid (∀ u ∈ news,u.oneCell' = true) := by
      intro u hu;rw [hnews] at hu;exact h1 u (eV hu)
    have s3 : Hid (∀ t,t < news.length → (w.drew.cell? ⟨blk,off + i * 2 + t,none⟩).isSome = true ∧ w.drew.frozen? ⟨blk,off + i * 2 + t,none⟩ = false) := by
      intro t ht;rw [hlen] at ht;rw [dJ];exact ⟨by show (w.cell? _).isSome = true;rw [(hH (i * 2 + t) (by simp;omega)).1];rfl,(hH (i * 2 + t) (by simp;omega)).2⟩
    obtain ⟨W1,hW1⟩ : ∃ W1,W1 = w.drew.setCells blk (off + i * 2) news := ⟨_,rfl⟩;have hW1' : W1 = putRow id (Sort.ahead w 1) blk off (lay cs.toArray (i * 2) (cs.drop (j * 2))) := by
      have h := putRow_setCells id (Sort.ahead w 1) blk off (cs.drop (j * 2)) cs.toArray (i * 2) (by simp;omega)
      rw [H2,putRow_self id (Sort.ahead w 1) blk off cs.toArray (holds_ahead id w 1 blk off cs.toArray hH)] at h;rw [hW1,hnews];exact h
    have hH1 : Holds id W1 blk off (lay cs.toArray (i * 2) (cs.drop (j * 2))) := by rw [hW1'];exact holds_putRow id _ blk off cs.toArray _ (holds_ahead id w 1 blk off cs.toArray hH) (lay_size _ _ _)
    have hcl : ∀ ty,(Builtin.clear_ #[71] ty #[.slice (some ⟨blk,off + (i + (len - j)) * 2,none⟩) (len - (i + (len - j))) (cap - (i + (len - j)))]).run Tryz.prog W1 = .ok (.tuple #[]) (W1.setCells blk (off + (i + (len - j)) * 2) Z) :=
      fun ty => by
       rw [hZe,← hji];exact L4 W1 _ _ ty z t22 hzv (by intro h; rw [h] at hz2; cases hz2) hz1 blk _ _ _ (by omega)
        (fun t ht => by rw [hz2] at ht;rw [dJ,(hH1 _ (by rw [lay_size];simp;omega)).1];rfl) (fun t ht => by rw [hz2] at ht;rw [dJ];exact (hH1 _ (by rw [lay_size];simp;omega)).2)
    have X : Aside (W1 = putRow id (Sort.ahead w 1) blk off (lay cs.toArray (i * 2) (cs.drop (j * 2)))) := hW1';have hW : Hid (W1 = w.drew.setCells blk (off + i * 2) news) := hW1;have mixed := cN;have hic : i ≤ cap := by omega
    have hjc : j ≤ cap := by omega
    clear hW1 hW1' hH1 hH hget hnews hlen hji hZe
    go_enter Tryz.func124,Tryz.ntmps124
    go_wp2_with fail
    go_region_law_o (refine step_append_room rfl (.tmp 22) (.tmp 25) 71 rfl 56 inf 2 t22 t1 t2 blk off i cap (by simp [Act.eval,Act.put]) A (len - j) (cap - j) news (by simp [Act.eval,Act.put]) s1.out hsrc.out s2.out (by omega) s3.out ?_;rw [← hW.out])
    go_wp2
    go_ret
    refine ⟨by rw [show len - (j - i) = i + (len - j) by omega];rfl,1,Z,hZl,?_⟩
    rw [X.out,← H2 Z,show off + (i + (len - j)) * 2 = off + (i * 2 + (cs.length - j * 2)) by omega,putRow_setCells id _ blk off _ _ _ (by rw [lay_size,kL];omega),H2,
      G6 cs (i * 2) (j * 2) _ (by omega) (by omega) (by omega)]
theorem YW (l : List SP) (i j : Nat) (hij : i ≤ j) (hj : j ≤ l.length) (hne : l ≠ []) :
    aO Tryz.prog 124 [.sl 0 0 l.length 2,.i (i : Int),.i (j : Int)] [.arr (eO l) 2] (.sl 0 0 (l.length - (j - i)) 2) [.arr (eO (l.take i ++ l.drop j)) 2] := by
  have h := xT (sz := 2) ⟨_,Tryz.func124,by kernel_rfl,by kernel_rfl⟩ VM (eO l) (gX l) (T1 l) i j hij (by rw [bF];exact hj) (fun h => hne (kW.1 h))
  rw [bF,← jY,← List.map_drop,← dB] at h;exact h
set_option maxHeartbeats 4000000 in
set_option maxRecDepth 1000000 in
theorem VN (blk off cap len i j : Nat) (cs : List Value) (w : World) (hcl0 : cs.length = len * 2) (hH : Holds id w blk off cs.toArray) (h1 : ∀ u,u ∈ cs → u.oneCell' = true) (hcap : len ≤ cap) (hm : cap ≤ 9223372036854775807) (hij : i ≤ j) (hj : j ≤ len) :
    Calls Tryz.prog 74 #[.slice (some ⟨blk,off,none⟩) len cap,.int .i64 i,.int .i64 j] w fun e w' => e = .returned (.slice (some ⟨blk,off,none⟩) (len - (j - i)) cap) ∧ ∃ (q : Nat) (Z : List Value),Z.length = (j - i) * 2 ∧ w' = putRow id (Sort.ahead w q) blk off (cs.take (i * 2) ++ cs.drop (j * 2) ++ Z).toArray := by
  by_cases heq : i = j
  · subst heq;have h0 : Calls Tryz.prog 74 #[.slice (some ⟨blk,off,none⟩) len cap,.int .i64 i,.int .i64 i] w fun e w' => e = .returned (.slice (some ⟨blk,off,none⟩) len cap) ∧ w' = w := by
      clear hH h1
      go_enter Tryz.func74,Tryz.ntmps74
      go_wp2
      all_goals (go_ret;exact ⟨rfl,rfl⟩)
    refine h0.mono ?_;rintro e w' ⟨rfl,rfl⟩;refine ⟨by rw [eX,SB],0,[],by simp,?_⟩
    rw [List.append_nil,bG];exact (putRow_self id (Sort.ahead w' 0) blk off cs.toArray hH).symm
  · have hlt : i < j := by omega
    obtain ⟨inf,z,t1,t2,t3,t4,t5,t6,t7⟩ := T.tiOk 75 _ rfl;have t22 : Tryz.prog.underlying 68 = some (.slice 75) := T.elemOk _ _ rfl;have hzv : ∀ w,(zeroValue 75).run Tryz.prog w = .ok z w := fun w => by simp [zeroValue,typeInfo,t1,t4]
    have hz2 : z.cells.toList.length = 2 := by rw [t5];rfl
    have hz1 : ∀ u,u ∈ z.cells.toList → u.oneCell' = true := by rw [t5];exact bB.1 rfl
    obtain ⟨_,hZl⟩ := oB (z := z.cells) rfl (by intro h;rw [h] at hz2;cases hz2) (j - i)
    rw [hz2] at hZl;have hji : len - (i + (len - j)) = j - i := by omega
    obtain ⟨Z,hZe⟩ : ∃ Z,Z = (Builtin.zeroCells z.cells (j - i)).toList := ⟨_,rfl⟩;rw [← hZe] at hZl;obtain ⟨news,hnews⟩ : ∃ news,news = cs.drop (j * 2) := ⟨_,rfl⟩;have hlen : news.length = (len - j) * 2 := by rw [hnews,dD];omega
    have hget : ∀ t,t < (len - j) * 2 → news[t]? = some (cs.toArray[j * 2 + t]!) := by
      intro t ht;rw [hnews,eC,getElem!_pos cs.toArray (j * 2 + t) (by simp;omega),wP,aB]
    obtain ⟨A,hA,hsrc⟩ : ∃ A : Addr,(if cap = j then some (⟨blk,off,none⟩ : Addr) else some ⟨blk,off + j * 2,none⟩) = some A ∧ Hid (∀ t u,news[t]? = some u → w.drew.cell? (A.add t) = some u) := by
      by_cases h : cap = j
      · refine ⟨⟨blk,off,none⟩,by simp [h],fun t u hu => ?_⟩
        have h0 : news.length = 0 := by rw [hlen];omega
        rw [fH.1 h0] at hu;simp at hu
      · refine ⟨⟨blk,off + j * 2,none⟩,by simp [h],fun t u hu => ?_⟩
        have ht : t < (len - j) * 2 := by
          have := (aA.1 hu).1
          rwa [hlen] at this
        rw [hget t ht] at hu;rw [Addr.add_lit,show off + j * 2 + t = off + (j * 2 + t) by omega]
        exact (hH (j * 2 + t) (by simp;omega)).1.trans hu
    have s1 : Hid (news.length = (len - j) * 2) := hlen;have s2 : Hid (∀ u ∈ news,u.oneCell' = true) := by
      intro u hu;rw [hnews] at hu;exact h1 u (eV hu)
    have s3 : Hid (∀ t,t < news.length → (w.drew.cell? ⟨blk,off + i * 2 + t,none⟩).isSome = true ∧ w.drew.frozen? ⟨blk,off + i * 2 + t,none⟩ = false) := by
      intro t ht;rw [hlen] at ht;rw [dJ];exact ⟨by show (w.cell? _).isSome = true;rw [(hH (i * 2 + t) (by simp;omega)).1];rfl,(hH (i * 2 + t) (by simp;omega)).2⟩
    obtain ⟨W1,hW1⟩ : ∃ W1,W1 = w.drew.setCells blk (off + i * 2) news := ⟨_,rfl⟩;have hW1' : W1 = putRow id (Sort.ahead w 1) blk off (lay cs.toArray (i * 2) (cs.drop (j * 2))) := by
      have h := putRow_setCells id (Sort.ahead w 1) blk off (cs.drop (j * 2)) cs.toArray (i * 2) (by simp;omega)
      rw [H2,putRow_self id (Sort.ahead w 1) blk off cs.toArray (holds_ahead id w 1 blk off cs.toArray hH)] at h;rw [hW1,hnews];exact h
    have hH1 : Holds id W1 blk off (lay cs.toArray (i * 2) (cs.drop (j * 2))) := by rw [hW1'];exact holds_putRow id _ blk off cs.toArray _ (holds_ahead id w 1 blk off cs.toArray hH) (lay_size _ _ _)
    have hcl : ∀ ty,(Builtin.clear_ #[68] ty #[.slice (some ⟨blk,off + (i + (len - j)) * 2,none⟩) (len - (i + (len - j))) (cap - (i + (len - j)))]).run Tryz.prog W1 = .ok (.tuple #[]) (W1.setCells blk (off + (i + (len - j)) * 2) Z) :=
      fun ty => by
       rw [hZe,← hji];exact L4 W1 _ _ ty z t22 hzv (by intro h; rw [h] at hz2; cases hz2) hz1 blk _ _ _ (by omega)
        (fun t ht => by rw [hz2] at ht;rw [dJ,(hH1 _ (by rw [lay_size];simp;omega)).1];rfl) (fun t ht => by rw [hz2] at ht;rw [dJ];exact (hH1 _ (by rw [lay_size];simp;omega)).2)
    have X : Aside (W1 = putRow id (Sort.ahead w 1) blk off (lay cs.toArray (i * 2) (cs.drop (j * 2)))) := hW1';have hW : Hid (W1 = w.drew.setCells blk (off + i * 2) news) := hW1;have mixed := cN;have hic : i ≤ cap := by omega
    have hjc : j ≤ cap := by omega
    clear hW1 hW1' hH1 hH hget hnews hlen hji hZe
    go_enter Tryz.func74,Tryz.ntmps74
    go_wp2_with fail
    go_region_law_o (refine step_append_room rfl (.tmp 22) (.tmp 25) 68 rfl 75 inf 2 t22 t1 t2 blk off i cap (by simp [Act.eval,Act.put]) A (len - j) (cap - j) news (by simp [Act.eval,Act.put]) s1.out hsrc.out s2.out (by omega) s3.out ?_;rw [← hW.out])
    go_wp2
    go_ret
    refine ⟨by rw [show len - (j - i) = i + (len - j) by omega];rfl,1,Z,hZl,?_⟩
    rw [X.out,← H2 Z,show off + (i + (len - j)) * 2 = off + (i * 2 + (cs.length - j * 2)) by omega,putRow_setCells id _ blk off _ _ _ (by rw [lay_size,kL];omega),H2,
      G6 cs (i * 2) (j * 2) _ (by omega) (by omega) (by omega)]
theorem YX (l : List G) (i j : Nat) (hij : i ≤ j) (hj : j ≤ l.length) (hne : l ≠ []) :
    aO Tryz.prog 74 [.sl 0 0 l.length 2,.i (i : Int),.i (j : Int)] [.arr (iB l) 2] (.sl 0 0 (l.length - (j - i)) 2) [.arr (iB (l.take i ++ l.drop j)) 2] := by
  have h := xT (sz := 2) ⟨_,Tryz.func74,by kernel_rfl,by kernel_rfl⟩ VN (iB l) (mS l) (PO l) i j hij (by rw [bF];exact hj) (fun h => hne (kW.1 h))
  rw [bF,← jY,← List.map_drop,← dB] at h;exact h
end Go.Proofs.YtbialaoigijlgaaGreatDoor
namespace Go.Proofs.YtbialaoigijlgaaGreatDoor
open Go Go.Ab Go.Shelf Go.Proofs
shelf_lay Lays2.n23 Nm2 23 at Tryz as laysDelete
theorem QH (l : List Int) (i j : Nat) (hij : i ≤ j) (hj : j ≤ l.length) (hne : l ≠ []) :
    aO Tryz.prog 123 [.sl 0 0 l.length 1,.i (i : Int),.i (j : Int)] [.arr (ints l) 1] (.sl 0 0 (l.length - (j - i)) 1) [.arr (ints (l.take i ++ l.drop j)) 1] :=
  BE ⟨_,Tryz.func123,by kernel_rfl,by kernel_rfl⟩ (fun blk off cap i j zs w h1 h2 h3 h4 h5 => Any.slices_Delete_int laysDelete blk off cap i j zs w h1 h2 h3 h4 h5) l i j hij hj hne
end Go.Proofs.YtbialaoigijlgaaGreatDoor
namespace Go.Ld
open Go.Ab Go.Proofs.YtbialaoigijlgaaGreatDoor
abbrev fM (q : W → Bool) (l : List W) : List W := l.filter fun x => !q x
theorem tR {q : W → Bool} {l : List W} {k : Nat} (h : k < l.length) : fM q (l.take (k + 1)) = if q l[k] then fM q (l.take k) else fM q (l.take k) ++ [l[k]] := by
  unfold fM;rw [aR h,List.filter_append];cases e : q l[k] <;> simp [e]
theorem DG (q : W → Bool) (l : List W) (k : Nat) : (fM q (l.take k)).length ≤ k := bW (BN _ _) (by simp;omega)
theorem D5 {α : Type} (p : α → Bool) : ∀ (l : List α) (k : Nat), (qK p l k = -1 ∧ ∀ x, x ∈ l → p x = false) ∨ ∃ (j : Nat) (hj : j < l.length), qK p l k = ((k + j : Nat) : Int) ∧ p l[j] = true ∧ ∀ x, x ∈ l.take j → p x = false
  | [],k => .inl ⟨rfl,fun x hx => by cases hx⟩
  | y :: l,k => by
    unfold qK;cases hp : p y with
    | true => exact .inr ⟨0,by simp,by rw [if_pos rfl];rfl,by simpa using hp,fun x hx => by simp at hx⟩
    | false =>
      rw [if_neg (by simp)]
      rcases D5 p l (k + 1) with ⟨h1,h2⟩ | ⟨j,hj,h1,h2,h3⟩
      · refine .inl ⟨h1,fun x hx => ?_⟩
        rcases bX.1 hx with rfl | hx
        · exact hp
        · exact h2 x hx
      · refine .inr ⟨j + 1,by simp;omega,by rw [h1];omega,by simpa using h2,fun x hx => ?_⟩
        rw [mY] at hx;rcases bX.1 hx with rfl | hx
        · exact hp
        · exact h3 x hx
def C8 (m x : W) : W := if x.2.1 < m.2.1 then x else m
theorem DE : ∀ (l : List W) (f : W), (l.foldl C8 f).2.1 = l.foldl (fun m x => if x.2.1 < m then x.2.1 else m) f.2.1
  | [],_ => rfl
  | x :: l,f => by
    rw [W8,W8,DE l];congr 1;unfold C8;split <;> rfl
theorem LJ {l : List W} {f : W} {k : Nat} (h : k < l.length) : (l.take (k + 1)).foldl C8 f = C8 ((l.take k).foldl C8 f) l[k] := by
  rw [aR h,SI];rfl
end Go.Ld
namespace Go.Proofs.YtbialaoigijlgaaGreatDoor
open Go Go.Ab Go.Ld
attribute [local irreducible] VC AW bV aO
set_option maxHeartbeats 4000000
theorem ZW {F : FuncId} {caps : List AV} {q : W → Bool} (l : List W) (hl : l.length ≤ 1000000) (hi : AV.idfL caps = true) (hp : AV.plnL caps = true) (hF : ∀ x,x ∈ l → aO Tryz.prog F (.agg (wA x) :: caps) [] (.b (q x)) []) :
    aO Tryz.prog 91 [.sl 0 0 l.length 3,.clo (.func F) [] caps] [.arr (eY l) 3] (.sl 0 0 (fM q l).length 3) [.arr (eY (fM q l)) 3] := by
  have hll : (eY l).length = l.length := eD l;have hix := PB hl hi hF;have hvw : mT [.arr (eY l) 3] (.sl 0 0 l.length 3) (.rowE (eY l) 3) := rX rfl hll.symm (sG (fun _ => rfl) _);refine bK T Tryz.func91 rfl rfl rfl rfl ?_;rcases D5 q l 0 with ⟨h1,h2⟩ | ⟨j,hj,h1,h2,h3⟩
  · rw [h1] at hix;have hk : fM q l = l := xU.2 fun x hx => by rw [h2 x hx];rfl
    rw [hk]
    (repeat' (first|refine wS ?_|refine wR ?_|refine wT ?_|(refine rg 0 (aV ?_))|(refine rg 1 (dQ rfl (vV (by exact eN rfl rfl hix (.cons hvw (.cons (.clo .nil (fK _ hp)) .nil)) rfl rfl) ?_));refine aV ?_)|(refine rg 2 (mW rfl (vV (eW rfl rfl) ?_)))|(refine rg 3 (mW rfl (aV ?_)))|refine nZ ?_));all_goals first | (exfalso;omega) | exact ⟨.inl rfl,[0],_,rfl,rfl,rfl,⟨.inr (aG rfl rfl (bE _)),trivial⟩,by decide,kN⟩
  · rw [h1,Nat.zero_add] at hix;have hk0 : fM q (l.take (j + 1)) = l.take j := by
      rw [tR hj,if_pos h2];exact xU.2 fun x hx => by rw [h3 x hx];rfl
    have hkl : (fM q (l.take (j + 1))).length = j := by rw [hk0];simp;omega
    have hka : fM q (l.take (j + 1)) ++ l.drop (fM q (l.take (j + 1))).length = l := by rw [hkl,hk0,bG]
    have hkf : fM q l = fM q (l.take l.length) := by rw [dA]
    rw [hkf]
    (repeat' (first|refine wS ?_|refine wB ?_|refine wK ?_|refine wU ?_|(refine rg 0 (aV ?_))|(refine rg 1 (dQ rfl (vV (by exact eN rfl rfl hix (.cons hvw (.cons (.clo .nil (fK _ hp)) .nil)) rfl rfl) ?_));refine aV ?_)|(refine rg 2 (mW rfl (vV (eW rfl rfl) ?_)))|(refine iA 4 rfl rfl rfl (by omega) (by omega) ?_)|refine nZ ?_));all_goals try (exfalso;omega)
    refine cK (X := {m : Nat // m ≤ l.length}) (fun m => [(0,.sl 0 0 l.length 3),(1,.clo (.func F) [] caps),(5,.i (fM q (l.take m.1)).length),(6,.i m.1)]) (fun m => [.arr (eY (fM q (l.take m.1) ++ l.drop (fM q (l.take m.1)).length)) 3]) (fun m => l.length - m.1) ⟨j + 1,hj⟩ ⟨[0],rfl,⟨rfl,by rw [lE hi];rfl,by dsimp only;rw [hkl];rfl,rfl,trivial⟩,⟨.inr (aG rfl (by dsimp only;rw [hka]) (bE _)),trivial⟩,by decide,kN⟩ ?_
    rintro ⟨m,hm⟩;dsimp only;have hle := DG q l m;by_cases hlt : m < l.length
    · have hs := tR (q := q) hlt;have hget := HB (G := fM q (l.take m)) (l := l) (m := m) (i := 0 + (m : Int).toNat) hle hlt (by omega)
      have hg2 := HB (G := fM q (l.take m)) (l := l) (m := (fM q (l.take m)).length) (i := 0 + (((fM q (l.take m)).length : Nat) : Int).toNat) (aX _) (by omega) (by omega)
      rw [nD hlt] at hget;have hset := XK (G := fM q (l.take m)) (l := l) (x := l[m]) (j := (((fM q (l.take m)).length : Nat) : Int)) (by omega) rfl
      have hc := hF l[m] (aI hlt);have hal := KN (G := fM q (l.take m)) (l := l) (by omega)
      generalize l[m] = x at *;generalize l.getD (fM q (l.take m)).length w0 = y at *;generalize hG : fM q (l.take m) = G at *;generalize hA : eY (G ++ l.drop G.length) = A at *;cases e : q x
      · rw [e] at hc hs;rw [if_neg (by simp)] at hs
        (repeat' (first|refine wS ?_|refine wB ?_|refine wK ?_|refine wT ?_|(refine wC rfl ?_ ?_<;>(intro hb;(try simp only [nm] at hb);try (exfalso;omega)))|(refine rg 5 (dQ rfl (qW T rfl (vV (aJ rfl rfl) ?_))))|(refine rg 7 (dQ rfl (vV (by exact aL T rfl rfl rfl rfl rfl (by omega) (by omega)) ?_));refine vV (by exact aT T rfl rfl (bJ rfl hget) rfl) ?_;refine bT (bH T rfl) rfl (aQ T rfl rfl rfl rfl rfl rfl (by decide) rfl ?_))|(refine rg 8 (mW rfl (vV (aT T rfl rfl rfl rfl) (vV (by exact eQ rfl rfl hc rfl (by simp [AV.idfL,AV.idf,hi]) rfl) ?_)));refine vV (eL rfl) ?_)|(refine rg 9 (dQ rfl (vV (aT T rfl rfl rfl rfl) (vV (by exact aL T rfl rfl rfl rfl rfl (by omega) (by omega)) ?_)));refine aQ T rfl rfl rfl rfl rfl rfl (by decide) (lP rfl hg2 rfl) ?_)|(refine iA 10 rfl rfl rfl (by omega) (by omega) ?_)|(refine iA 6 rfl rfl rfl (by omega) (by omega) ?_)|refine nZ ?_));all_goals try (exfalso;omega)
        all_goals exact ⟨⟨m + 1,hlt⟩,by dsimp only;omega,[0],rfl,⟨rfl,by rw [lE hi];rfl,by rw [hs];simp only [aD];rfl,rfl,trivial⟩,⟨.inr (aG rfl (by rw [hs];exact hset) (bE _)),trivial⟩,by decide,kN⟩
      · rw [e] at hc hs;rw [if_pos rfl] at hs
        (repeat' (first|refine wS ?_|refine wB ?_|refine wK ?_|refine wU ?_|(refine wC rfl ?_ ?_<;>(intro hb;(try simp only [nm] at hb);try (exfalso;omega)))|(refine rg 5 (dQ rfl (qW T rfl (vV (aJ rfl rfl) ?_))))|(refine rg 7 (dQ rfl (vV (by exact aL T rfl rfl rfl rfl rfl (by omega) (by omega)) ?_));refine vV (by exact aT T rfl rfl (bJ rfl hget) rfl) ?_;refine bT (bH T rfl) rfl (aQ T rfl rfl rfl rfl rfl rfl (by decide) rfl ?_))|(refine rg 8 (mW rfl (vV (aT T rfl rfl rfl rfl) (vV (by exact eQ rfl rfl hc rfl (by simp [AV.idfL,AV.idf,hi]) rfl) ?_)));refine vV (eL rfl) ?_)|(refine iA 6 rfl rfl rfl (by omega) (by omega) ?_)|refine nZ ?_));all_goals try (exfalso;omega)
        all_goals exact ⟨⟨m + 1,hlt⟩,by dsimp only;omega,[0],rfl,⟨rfl,by rw [lE hi];rfl,by rw [hs];rfl,rfl,trivial⟩,⟨.inr (aG rfl (by rw [hs];exact hA.symm) (bE _)),trivial⟩,by decide,kN⟩
    · obtain rfl : m = l.length := by omega
      have hal := KN (G := fM q (l.take l.length)) (l := l) (by omega)
      have htk := MU (G := fM q (l.take l.length)) (l := l);generalize fM q (l.take l.length) = G at *
      (repeat' (first|refine wS ?_|refine wR ?_|refine wE ?_|(refine wC rfl ?_ ?_<;>(intro hb;(try simp only [nm] at hb);try (exfalso;omega)))|(refine rg 5 (dQ rfl (qW T rfl (vV (aJ rfl rfl) ?_))))|(refine rg 11 (dQ rfl (vV (by exact jL T rfl rfl rfl rfl rfl rfl (by omega) (by omega) (by omega)) ?_));refine B8 T rfl rfl rfl ⟨rfl,rfl,by decide⟩ rfl (by rw [hal];omega) ?_)|(refine rg 12 (dQ rfl (vV (by exact jL T rfl rfl rfl rfl rfl rfl (by omega) (by omega) (by omega)) ?_));refine aV ?_)|refine nZ ?_));all_goals try (exfalso;omega)
      all_goals exact ⟨.inl rfl,[0],_,rfl,(by show AV.sl 0 0 ((G.length : Int) - 0).toNat 3 = AV.sl 0 0 G.length 3;rw [show ((G.length : Int) - 0).toNat = G.length by omega]),rfl,⟨.inr (aG rfl htk (bE _)),trivial⟩,by decide,kN⟩
abbrev zB9 : AV := .clo (.func 119) [] []
theorem MI {f : W} {l : List W} {k : Nat} (h : k < l.length) : (eY (f :: l))[((k : Int) + 1).toNat]? = some (wA l[k]) := by
  rw [show ((k : Int) + 1).toNat = k + 1 by omega];simp [h]
theorem zB8 (f : W) (l : List W) (hl : l.length ≤ 1000000) : aO Tryz.prog 118 [.rowE (eY (f :: l)) 3,zB9] [] (S6 (l.foldl C8 f)) [] := by
  have hll : (eY (f :: l)).length = l.length + 1 := by simp
  have hg0 : (eY (f :: l))[(0 : Int).toNat]? = some (wA f) := rfl;refine bK T Tryz.func118 rfl rfl rfl rfl ?_
  (repeat' (first|refine wS ?_|refine wB ?_|refine wK ?_|refine wU ?_|(refine rg 0 (bT (bH T rfl) rfl ?_))|(refine rg 1 (mW rfl (qW T rfl (vV (aJ rfl rfl) ?_))))|(refine rg 3 (mW rfl (vV (ix T rfl (by omega) (jB _) hg0) (lW T rfl (bT (bH T rfl) rfl (aQ T rfl rfl rfl rfl rfl rfl (by decide) rfl ?_))))))|(refine rg 4 (aV ?_))|refine nZ ?_));all_goals try (exfalso;omega)
  refine cK (X := {k : Nat // k ≤ l.length}) (fun k => [(0,.rowE (eY (f :: l)) 3),(1,zB9),(4,.ptr 0 0),(5,.ptr 1 0),(6,.i ((k.1 : Int) + 1))]) (fun k => [.cells [.nils,.i 0,.nils],.cells (wA ((l.take k.1).foldl C8 f))]) (fun k => l.length - k.1) ⟨0,bP _⟩ ⟨[0,1],rfl,by (repeat (first | exact trivial | refine ⟨rfl,?_⟩)),⟨.inr rfl,.inr rfl,trivial⟩,by decide,jT _⟩ ?_
  rintro ⟨k,hk⟩;dsimp only;by_cases hlt : k < l.length
  · have hs := LJ (f := f) hlt;have hg := MI (f := f) hlt;have hc := OY l[k] ((l.take k).foldl C8 f);generalize l[k] = x at *;generalize (l.take k).foldl C8 f = m at *;by_cases h0 : x.2.1 < m.2.1
    · have hv : cI x.2.1 m.2.1 = -1 := by unfold cI;rw [if_pos h0]
      rw [hv] at hc;rw [C8,if_pos h0] at hs
      (repeat' (first|refine wS ?_|refine wB ?_|refine wK ?_|refine wT ?_|(refine wC rfl ?_ ?_<;>(intro hb;(try simp only [nm] at hb);try (exfalso;omega)))|(refine rg 5 (dQ rfl (qW T rfl (vV (aJ rfl rfl) ?_))))|(refine cJ (id := 7) 33 [[],[],[],[1,2],[1,2,3],[],rN 6,rN 7] (rM 20 8) [[],[20],[20,21],[20],[20],rM 20 5,[],[]] cN rfl (by decide +kernel) (dN rfl (dN rfl (dN rfl (dV rfl (ix T rfl (by omega) (jB _) hg) (dO T rfl (dO T rfl (dV rfl (kC (hc)) (dV rfl (aJ rfl rfl) (dE ?_))))))))))|(refine rg 8 (dQ rfl (vV (ix T rfl (by omega) (jB _) hg) (lW T rfl (aQ T rfl rfl rfl rfl rfl rfl (by decide) rfl ?_)))))|(refine iA 6 rfl rfl rfl (by omega) (by omega) ?_)|refine nZ ?_));all_goals try (exfalso;omega)
      all_goals exact ⟨⟨k + 1,hlt⟩,by dsimp only;omega,[0,1],rfl,by (repeat (first | exact trivial | refine ⟨rfl,?_⟩)),⟨.inr rfl,.inr (by dsimp only;rw [hs];rfl),trivial⟩,by decide,jT _⟩
    · have hv : 0 ≤ cI x.2.1 m.2.1 := by unfold cI;rw [if_neg h0];split <;> omega
      rw [C8,if_neg h0] at hs;generalize cI x.2.1 m.2.1 = v at *
      (repeat' (first|refine wS ?_|refine wB ?_|refine wK ?_|(refine wC rfl ?_ ?_<;>(intro hb;(try simp only [nm] at hb);try (exfalso;omega)))|(refine rg 5 (dQ rfl (qW T rfl (vV (aJ rfl rfl) ?_))))|(refine cJ (id := 7) 33 [[],[],[],[1,2],[1,2,3],[],rN 6,rN 7] (rM 20 8) [[],[20],[20,21],[20],[20],rM 20 5,[],[]] cN rfl (by decide +kernel) (dN rfl (dN rfl (dN rfl (dV rfl (ix T rfl (by omega) (jB _) hg) (dO T rfl (dO T rfl (dV rfl (kC (hc)) (dV rfl (aJ rfl rfl) (dE ?_))))))))))|(refine iA 6 rfl rfl rfl (by omega) (by omega) ?_)|refine nZ ?_));all_goals try (exfalso;omega)
      all_goals exact ⟨⟨k + 1,hlt⟩,by dsimp only;omega,[0,1],rfl,by (repeat (first | exact trivial | refine ⟨rfl,?_⟩)),⟨.inr rfl,.inr (by dsimp only;rw [hs];rfl),trivial⟩,by decide,jT _⟩
  · obtain rfl : k = l.length := by omega
    rw [dA];generalize l.foldl C8 f = m at *
    (repeat' (first|refine wS ?_|refine wR ?_|refine wE ?_|(refine wC rfl ?_ ?_<;>(intro hb;(try simp only [nm] at hb);try (exfalso;omega)))|(refine rg 5 (dQ rfl (qW T rfl (vV (aJ rfl rfl) ?_))))|(refine rg 9 (lW T rfl (aQ T rfl rfl rfl rfl rfl rfl (by decide) rfl ?_)))|refine nZ ?_));all_goals first | (exfalso;omega) | exact ⟨.inl rfl,[],_,rfl,rfl,rfl,trivial,by decide,jT _⟩
theorem zJ6 : AK Tryz.prog 73 1 = some (3,1) := by kernel_rfl
theorem IG (g : G) (hne : g.2 ≠ []) (hl : g.2.length ≤ 1000000) : aO Tryz.prog 90 [MH g] [] (.i (jN g)) [] := by
  obtain ⟨b,ws⟩ := g;cases ws with
  | nil => exact absurd rfl hne
  | cons f l =>
    have hc := zB8 f l (by simp at hl;omega)
    show aO _ _ _ _ (.i (l.foldl (fun m x => if x.2.1 < m then x.2.1 else m) f.2.1)) []
    rw [← DE];generalize l.foldl C8 f = m at *;refine bK T Tryz.func90 rfl rfl rfl rfl ?_
    (repeat' (first|refine wS ?_|refine wR ?_|(refine rg 0 (bT (cQ rfl rfl) rfl (aV ?_)))|(refine rg 1 (hO T rfl (vV (kC (hc)) (vV (by exact V3 T rfl zJ6 rfl rfl) ?_)));refine aV ?_)|refine nZ ?_));all_goals first | (exfalso;omega) | exact rQ
end Go.Proofs.YtbialaoigijlgaaGreatDoor
namespace Go.Ld
open Go.Ab Go.Proofs.YtbialaoigijlgaaGreatDoor
def wG (g : G) : Int := match gL g with
  | some k => (k : Int)
  | none => -1
theorem EH {g : G} (h : g.1.length < 2 ∨ g.2 = []) : wG g = -1 := by unfold wG gL;rw [if_pos h]
theorem QO {g : G} {k : Nat} (h : ¬ (g.1.length < 2 ∨ g.2 = [])) (hk : k < g.1.length) (h1 : ∀ j,j < k → tI g j = false) (h2 : tI g k = true) : wG g = k := by
  unfold wG gL;rw [if_neg h,List.find?_range_eq_some.2 ⟨h2,by simpa using hk,fun j hj => by simp [h1 j hj]⟩]
theorem LU {g : G} (h : ¬ (g.1.length < 2 ∨ g.2 = [])) (h1 : ∀ j,j < g.1.length → tI g j = false) : wG g = -1 := by
  unfold wG gL;rw [if_neg h,List.find?_range_eq_none.2 (fun j hj => by simp [h1 j hj])]
def V6 (f : W) (i : Nat) (w : W) : Bool := !decide (gP w i = gP f i ∧ gC w i = gC f i)
theorem FQ {bs : List Int} {f : W} {l : List W} {i : Nat} : tI (bs,f :: l) i = !(f :: l).any (V6 f i) := by
  show (f :: l).all (fun w => decide (gP w i = gP f i ∧ gC w i = gC f i)) = _;rw [List.not_any_eq_all_not];congr 1;funext w;simp [V6]
end Go.Ld
namespace Go.Proofs.YtbialaoigijlgaaGreatDoor
open Go Go.Ab Go.Ld
attribute [local irreducible] VC AW bV aO qB
set_option maxHeartbeats 4000000
theorem WO : qB Tryz.prog 56 2 := by unfold qB;kernel_rfl
theorem GW (w f : W) {i : Nat} (h1 : i < w.1.length) (h2 : i < w.2.2.length) (h3 : i < f.1.length) (h4 : i < f.2.2.length) (hs : A7 w) (hf : A7 f) :
    aO Tryz.prog 122 [S6 w,.pr [.i i] 0,.pr (wA f) 0] [] (.b (V6 f i w)) [] := by
  obtain ⟨p,m,c⟩ := w;obtain ⟨p',m',c'⟩ := f;dsimp only at h1 h2 h3 h4;unfold A7 at hs hf;dsimp only at hs hf;have hlp : (ints p).length = p.length := cW _;have hlp' : (ints p').length = p'.length := cW _;have hlc : (eO c).length = c.length := fO _;have hlc' : (eO c').length = c'.length := fO _;have q1 := lD (l := p) (j := (i : Int)) (i := i) 0 h1 rfl;have q2 := lD (l := p') (j := (i : Int)) (i := i) 0 h3 rfl;have q3 := oZ (l := c) (j := (i : Int)) (i := i) h2 rfl;have q4 := oZ (l := c') (j := (i : Int)) (i := i) h4 rfl;have hd : V6 (p',m',c') i (p,m,c) = !decide (p.getD i 0 = p'.getD i 0 ∧ c.getD i (0,0) = c'.getD i (0,0)) := rfl;rw [hd];generalize p.getD i 0 = x at *;generalize p'.getD i 0 = y at *;generalize hr : c.getD i (0,0) = r at *;generalize hr' : c'.getD i (0,0) = r' at *;obtain ⟨a,b⟩ := r;obtain ⟨a',b'⟩ := r';dsimp only at q3 q4;by_cases h : x = y
  · rw [show (!decide (x = y ∧ (a,b) = (a',b'))) = !decide (a = a' ∧ b = b') by simp [h]]
    refine bK T Tryz.func122 rfl rfl rfl rfl ?_
    (repeat' (first|refine wS ?_|refine wR ?_|(refine rg 0 (bT (cQ rfl rfl) rfl (aV ?_)))|(refine cJ (id := 1) 29 zN5 (rM 5 24) zN6 cN rfl (by decide +kernel) (dP T rfl (dO T rfl (dO T rfl (dV rfl (ix T rfl (by omega) (bZ p) q1) (dO T rfl (dP T rfl (dO T rfl (dO T rfl (dV rfl (ix T rfl (by omega) (bZ p') q2) ?_)))))))));refine dO T rfl (dV rfl (oW rfl rfl h) (dN rfl (tP T rfl (tO T rfl (tO T rfl (dT rfl (ix T rfl (by omega) (gX c) q3) (tO T rfl (tP T rfl (tL T ?_)))))))));refine tO T rfl (dT rfl (ix T rfl (by omega) (gX c') q4) (tO T rfl (dT rfl (UT WO rfl rfl) (dV rfl (jF rfl rfl) (dE ?_)))));refine aV ?_)|refine nZ ?_));all_goals first | (exfalso;omega) | exact rQ
  · rw [show (!decide (x = y ∧ (a,b) = (a',b'))) = true by simp [h]]
    refine bK T Tryz.func122 rfl rfl rfl rfl ?_
    (repeat' (first|refine wS ?_|refine wR ?_|(refine rg 0 (bT (cQ rfl rfl) rfl (aV ?_)))|(refine cJ (id := 1) 29 zN5 (rM 5 24) zN6 cN rfl (by decide +kernel) (dP T rfl (dO T rfl (dO T rfl (dV rfl (ix T rfl (by omega) (bZ p) q1) (dO T rfl (dP T rfl (dO T rfl (dO T rfl (dV rfl (ix T rfl (by omega) (bZ p') q2) ?_)))))))));refine dO T rfl (dV rfl (rD rfl rfl h) (dN rfl (tG rfl (tG rfl (tG rfl (tG rfl (tG rfl (tG rfl (dG ?_)))))))));refine tG rfl (tG rfl (tG rfl (tG rfl (dV rfl (jO rfl rfl) (dE ?_)))));refine aV ?_)|refine nZ ?_));all_goals first | (exfalso;omega) | exact rQ
structure ZO (g : G) : Prop where
  b : g.1.length ≤ 1000
  w : g.2.length ≤ 1000000
  p : ∀ w,w ∈ g.2 → w.1.length = g.1.length
  c : ∀ w,w ∈ g.2 → w.2.2.length = g.1.length
theorem ZO.sm {g : G} (h : ZO g) {w : W} (hw : w ∈ g.2) : A7 w := ⟨by have := h.p w hw;have := h.b;omega,by have := h.c w hw;have := h.b;omega⟩
theorem LS (g : G) (hs : ZO g) : aO Tryz.prog 93 [MH g] [] (.i (wG g)) [] := by
  have hsz := hs;obtain ⟨bs,ws⟩ := g;obtain ⟨hb,hw,hp,hc⟩ := hs;dsimp only at hb hw hp hc;have hlb : (ints bs).length = bs.length := cW _;have hlw : (eY ws).length = ws.length := eD _;by_cases h0 : bs.length < 2
  · rw [EH (.inl h0)];refine bK T Tryz.func93 rfl rfl rfl rfl ?_
    (repeat' (first|refine wS ?_|refine wR ?_|refine wT ?_|(refine rg 0 (bT (cQ rfl rfl) rfl (aV ?_)))|(refine rg 1 (hO T rfl (qW T rfl (vV (aJ rfl rfl) (mV ?_))));refine cC rfl rfl ?_ ?_<;>(intro hb;rw [hb];(try simp only [nm] at hb);try (exfalso;omega));(all_goals ((iterate 4 refine gF ?_);refine pV ?_)))|(refine rg 2 (aV ?_))|refine nZ ?_));all_goals first | (exfalso;omega) | exact rQ
  · cases ws with
    | nil =>
      rw [EH (.inr rfl)];refine bK T Tryz.func93 rfl rfl rfl rfl ?_
      (repeat' (first|refine wS ?_|refine wR ?_|refine wT ?_|(refine rg 0 (bT (cQ rfl rfl) rfl (aV ?_)))|(refine rg 1 (hO T rfl (qW T rfl (vV (aJ rfl rfl) (mV ?_))));refine cC rfl rfl ?_ ?_<;>(intro hb;rw [hb];(try simp only [nm] at hb);try (exfalso;omega));(all_goals (refine yP T rfl (yO T rfl (gT (qW T rfl (yV (eW rfl rfl) (pV ?_))))))))|(refine rg 2 (aV ?_))|refine nZ ?_));all_goals first | (exfalso;omega) | exact rQ
    | cons f l =>
      have hn : ¬ (bs.length < 2 ∨ f :: l = []) := by rintro (h | h);exact h0 h;cases h
      have hg0 : (eY (f :: l))[(0 : Int).toNat]? = some (wA f) := rfl;have hl1 : (eY (f :: l)).length = l.length + 1 := by simp
      refine bK T Tryz.func93 rfl rfl rfl rfl ?_
      (repeat' (first|refine wS ?_|refine wB ?_|refine wK ?_|refine wU ?_|(refine rg 0 (bT (cQ rfl rfl) rfl (aV ?_)))|(refine rg 1 (hO T rfl (qW T rfl (vV (aJ rfl rfl) (mV ?_))));refine cC rfl rfl ?_ ?_<;>(intro hb;rw [hb];(try simp only [nm] at hb);try (exfalso;omega));(all_goals (refine yP T rfl (yO T rfl (gT (qW T rfl (yV (eW rfl rfl) (pV ?_))))))))|(refine rg 3 (hO T rfl (qW T rfl (mV ?_))))|refine nZ ?_));all_goals try (exfalso;omega)
      all_goals refine cK (X := {k : Nat // k ≤ bs.length ∧ ∀ j,j < k → tI (bs,f :: l) j = false}) (fun k => [(1,.ptr 0 0),(17,.i (ints bs).length),(18,.i k.1)]) (fun _ => [.cells [.rowE (ints bs) 1,.rowE (eY (f :: l)) 3]]) (fun k => bs.length - k.1) ⟨0,bP _,fun j hj => absurd hj (dI _)⟩ (dS [0]) ?_
      all_goals rintro ⟨k,hk,hj⟩
      all_goals dsimp only
      all_goals by_cases hlt : k < bs.length
      · have hlf : k < f.1.length := by rw [hp f bA];exact hlt
        have hlf2 : k < f.2.2.length := by rw [hc f bA];exact hlt
        have hcc := YC (caps := [.pr [.i k] 0,.pr (wA f) 0]) (p := V6 f k) (l := f :: l) hw rfl (fun x hx => GW x f (by rw [hp x hx];exact hlt) (by rw [hc x hx];exact hlt) hlf hlf2 (hsz.sm hx) (hsz.sm bA))
        have hsa := FQ (bs := bs) (f := f) (l := l) (i := k);cases hany : (f :: l).any (V6 f k) with
        | false =>
          rw [hany] at hcc hsa;have hci := QO hn hlt hj hsa;rw [hci]
          (repeat' (first|refine wS ?_|refine wB ?_|refine wK ?_|refine wR ?_|refine wT ?_|(refine wC rfl ?_ ?_<;>(intro hb;(try simp only [nm] at hb);try (exfalso;omega)))|(refine rg 4 (vV (aJ rfl rfl) ?_))|(refine rg 5 (mW rfl (bT (bH T rfl) rfl (aQ T rfl rfl rfl rfl rfl rfl (by decide) rfl ?_))))|(refine rg 6 (hO T rfl (vV (ix T rfl (by omega) (jB _) hg0) (lW T rfl (bT (bH T rfl) rfl (aQ T rfl rfl rfl rfl rfl rfl (by decide) rfl ?_))))))|(refine rg 7 (hO T rfl (vV (by exact iX rfl rfl) ?_));refine vV (by exact eN rfl rfl hcc (.cons (.row _ _ _) (.cons (.clo .nil (.cons (.ptr rfl (.cons (.v _) .nil)) (.cons (.ptr rfl (.cons (.row _ _ _) (.cons (.v _) (.cons (.row _ _ _) .nil)))) .nil))) .nil)) rfl rfl) ?_;refine vV (eL rfl) ?_)|(refine rg 8 (lW T rfl (aV ?_)))|refine nZ ?_));all_goals first | (exfalso;omega) | exact rQ
        | true =>
          rw [hany] at hcc hsa
          (repeat' (first|refine wS ?_|refine wB ?_|refine wK ?_|refine wU ?_|(refine wC rfl ?_ ?_<;>(intro hb;(try simp only [nm] at hb);try (exfalso;omega)))|(refine rg 4 (vV (aJ rfl rfl) ?_))|(refine rg 5 (mW rfl (bT (bH T rfl) rfl (aQ T rfl rfl rfl rfl rfl rfl (by decide) rfl ?_))))|(refine rg 6 (hO T rfl (vV (ix T rfl (by omega) (jB _) hg0) (lW T rfl (bT (bH T rfl) rfl (aQ T rfl rfl rfl rfl rfl rfl (by decide) rfl ?_))))))|(refine rg 7 (hO T rfl (vV (by exact iX rfl rfl) ?_));refine vV (by exact eN rfl rfl hcc (.cons (.row _ _ _) (.cons (.clo .nil (.cons (.ptr rfl (.cons (.v _) .nil)) (.cons (.ptr rfl (.cons (.row _ _ _) (.cons (.v _) (.cons (.row _ _ _) .nil)))) .nil))) .nil)) rfl rfl) ?_;refine vV (eL rfl) ?_)|(refine rg 9 (vV (bS rfl rfl (by omega) (by omega)) (mV ?_)))|refine nZ ?_));all_goals first | (exfalso;omega) | skip
          all_goals exact ⟨⟨k + 1,by omega,fun j hjk => (gO j k).elim (hj j) (fun h => by obtain rfl : j = k := (by omega);exact hsa)⟩,by dsimp only;omega,dS [0]⟩
      · rw [LU hn (fun j hjl => hj j (by dsimp only at hjl;omega))]
        (repeat' (first|refine wS ?_|refine wR ?_|refine wE ?_|(refine wC rfl ?_ ?_<;>(intro hb;(try simp only [nm] at hb);try (exfalso;omega)))|(refine rg 4 (vV (aJ rfl rfl) ?_))|(refine rg 10 (aV ?_))|refine nZ ?_));all_goals first | (exfalso;omega) | exact rQ
end Go.Proofs.YtbialaoigijlgaaGreatDoor
namespace Go.Ld
open Go.Ab Go.Proofs.YtbialaoigijlgaaGreatDoor
theorem zY {α : Type} (l : List α) (k : Nat) : l.take k ++ l.drop (k + 1) = l.eraseIdx k := (List.eraseIdx_eq_take_drop_succ l k).symm
end Go.Ld
namespace Go.Proofs.YtbialaoigijlgaaGreatDoor
open Go Go.Ab Go.Ld
attribute [local irreducible] VC AW bV aO qB jR
set_option maxHeartbeats 4000000
theorem TD (g : G) {k : Nat} (hs : ZO g) (hk : k < g.1.length) (h2 : 2 ≤ g.1.length) (hne : g.2 ≠ []) (hsm : g.2.length ≤ 100000) :
    aO Tryz.prog 94 [MH g,.i k] [] (.tup [MH (mR g k),MH (jM g k)]) [] := by
  have hsz := hs;obtain ⟨bs,ws⟩ := g;obtain ⟨hb,hw,hp,hc⟩ := hs;dsimp only at hb hw hp hc hk h2 hsm;cases ws with
  | nil => exact absurd rfl hne
  | cons f l =>
  have hlb : (ints bs).length = bs.length := cW _;have hf1 := hp f bA;have hf2 := hc f bA;have hlp : (ints f.1).length = f.1.length := cW _;have hlc : (eO f.2.2).length = f.2.2.length := fO _;have hg0 : (eY (f :: l))[(0 : Int).toNat]? = some (wA f) := rfl;have hl1 : (eY (f :: l)).length = l.length + 1 := by simp
  have q1 := lD (l := bs) (j := (k : Int)) (i := k) 0 hk rfl;have q2 := lD (l := f.1) (j := (k : Int)) (i := k) 0 (by omega) rfl
  have q3 := oZ (l := f.2.2) (j := (k : Int)) (i := k) (by omega) rfl
  have cl := AQ bs (by omega)
  have dl := QH bs k (k + 1) (by omega) (by omega) (by intro h;rw [h] at hk;simp at hk)
  rw [zY,show bs.length - (k + 1 - k) = bs.length - 1 by omega,show ((k + 1 : Nat) : Int) = (k : Int) + 1 by omega] at dl
  have hel : (bs.eraseIdx k).length = bs.length - 1 := by rw [fL,if_pos hk]
  obtain ⟨L,hL⟩ : ∃ L,f :: l = L := ⟨_,rfl⟩;have hp' : ∀ w,w ∈ L → w.1.length = bs.length := by rw [← hL];exact hp
  have hc' : ∀ w,w ∈ L → w.2.2.length = bs.length := by rw [← hL];exact hc
  have hsm' : L.length ≤ 100000 := by rw [← hL];exact hsm
  have hsz' : ∀ w,w ∈ L → A7 w := by rw [← hL];exact fun w h => hsz.sm h
  obtain ⟨R,hR⟩ : ∃ R,R = L.map (ZV k) := ⟨_,rfl⟩;have hor : jM (bs,f :: l) k = (bs.eraseIdx k,iE R) := by rw [hR,← hL];rfl
  rw [hor]
  have ho := U0 R (by rw [hR,bF];exact hsm') (fun w hw' => by
    rw [hR] at hw';obtain ⟨v,hv,rfl⟩ := bM.1 hw';have h1 := hp' v hv;have h2 := hc' v hv;unfold A7 ZV;dsimp only;rw [fL,fL]
    constructor <;> split <;> omega)
  refine uH (res := .tup [.agg [.sl 0 0 1 1,.sl 3 0 1 3],.agg [.rowE (ints (bs.eraseIdx k)) 1,.rowE (eY (iE R)) 3]]) (hout := [.arr (ints [bs.getD k 0]) 1,.arr (ints [f.1.getD k 0]) 1,.arr (eO [f.2.2.getD k (0,0)]) 2,.arr [[.sl 1 0 1 1,.i 0,.sl 2 0 1 2]] 3]) ?_ (.tup (.cons (.agg (.cons (wQ rfl rfl) (.cons (.sl rfl (by decide) (.cons (wQ rfl rfl) (.cons (.v _) (.cons (xY rfl rfl) .nil)))) .nil))) (.cons (.agg (.cons (.row _ _ _) (.cons (.row _ _ _) .nil))) .nil)))
  generalize bs.getD k 0 = x1 at *;generalize f.1.getD k 0 = x2 at *;generalize hr : f.2.2.getD k (0,0) = r at *;obtain ⟨a1,a2⟩ := r;dsimp only at q3;refine bK T Tryz.func94 rfl rfl rfl rfl ?_
  (repeat' (first|refine wS ?_|(refine rg 0 (bT (cQ rfl rfl) rfl (bT (bH T rfl) rfl (bT (bH T rfl) rfl ?_))))|(refine rg 1 (hO T rfl (vV (ix T rfl (by omega) (jB _) hg0) (lW T rfl (bT (bH T rfl) rfl (aQ T rfl rfl rfl rfl rfl rfl (by decide) rfl ?_))))))|(refine cJ (id := 2) 78 [[],[0],[],[0,1,2],rN 4,rN 5,[],[6],[],[6,7,8],rM 6 4,rM 6 5,[],[12],[],[12,13,14],rM 12 4,rM 12 5,rM 6 12,rM 6 13,rN 20] (rM 13 21) [[],[],[13,14],[],[],[],rM 13 6,rM 13 6,rM 13 8,rM 13 6,rM 13 6,rM 13 6,rM 13 12,rM 13 12,rM 13 14,rM 13 12,rM 13 12,rM 13 12,rM 13 6,rM 13 6,[]] cN rfl (by decide +kernel) (dP T rfl (dO T rfl (dN rfl (dV rfl (ix T rfl (by omega) (bZ bs) q1) (dO T rfl (yH rfl rfl rfl (by exact bC T rfl rfl (by decide) (by decide) rfl rfl rfl) rfl ?_))))));refine dP T rfl (dO T rfl (dN rfl (dV rfl (ix T rfl (by omega) (bZ f.1) q2) (dO T rfl (yH rfl rfl rfl (by exact bC T rfl rfl (by decide) (by decide) rfl rfl rfl) rfl ?_)))));refine dP T rfl (dO T rfl (dN rfl (dV rfl (ix T rfl (by omega) (gX f.2.2) q3) (dO T rfl (yH rfl rfl rfl (by exact bC T rfl rfl (by decide) (by decide) rfl rfl rfl) rfl ?_)))));refine dV rfl (by exact fB T rfl rfl rfl rfl) ?_;refine yH rfl rfl rfl (by exact bC T rfl rfl (by decide) (by decide) rfl rfl rfl) rfl ?_;refine dV rfl (by exact fB T rfl rfl rfl rfl) ?_;refine dE ?_;refine aQ T rfl rfl rfl rfl rfl rfl (by decide) rfl ?_)|(refine rg 3 (hO T rfl (bT (by exact fZ rfl rfl cl (.inr ⟨rfl,rfl,by simp⟩)) rfl ?_));refine dQ rfl (vV (bS rfl rfl (by omega) (by omega)) (eJ [8] rfl rfl (dl) rfl rfl (by decide) ⟨.inr (aG rfl (cE _ (bO _)) (bO _)),trivial⟩ (by simp) rfl ?_));refine fW T rfl (aQ T rfl rfl rfl rfl rfl rfl (by decide) rfl ?_))|refine nZ ?_));refine eP [(1, .i k), (2, .ptr 0 0), (4, .ptr 1 0), (5, .ptr 2 0)] [.cells [.rowE (ints bs) 1, .rowE (eY (f :: l)) 3], .cells [.sl 3 0 1 1, .sl 6 0 1 3], .cells [.sl 7 0 (bs.length - 1) 1, .nils], .arr (ints [x1]) 1, .arr (ints [x2]) 1, .arr (eO [(a1, a2)]) 2, .arr [[.sl 4 0 1 1, .i 0, .sl 5 0 1 2]] 3, .arr (ints (bs.eraseIdx k)) 1]
    ⟨[0,1,2,4,5,6,7,8],rfl,(by repeat first|exact trivial|refine ⟨rfl,?_⟩),⟨.inr rfl,.inr rfl,.inr rfl,.inr rfl,.inr rfl,.inr rfl,.inr rfl,.inr (aG rfl (cE _ (bO _)) (bO _)),trivial⟩,by decide,jT _⟩ ?_
  refine mB 2 0 rfl rfl rfl (by rw [cW,hel]) (gD (bO _)) ?_
  refine uF 2 1 3 rfl rfl (by decide) ?_
  rw [hL]
  (repeat' (first|refine wB ?_|(refine rg 4 (hO T rfl (qW T rfl (mV ?_))))|refine nZ ?_));refine cK (X := {i : Nat // i ≤ L.length}) (fun i => [(1, .i k), (4, .ptr 0 0), (5, .ptr 1 0), (43, .rowE (eY L) 3), (44, .i (eY L).length), (45, .i i.1)]) (fun i => [.cells [.sl 2 0 1 1, .sl 5 0 1 3], .cells [.rowE (ints (bs.eraseIdx k)) 1, .sl 6 0 i.1 3], .arr (ints [x1]) 1, .arr (ints [x2]) 1, .arr (eO [(a1, a2)]) 2, .arr [[.sl 3 0 1 1, .i 0, .sl 4 0 1 2]] 3, .arr (eY (R.take i.1)) 3]) (fun i => L.length - i.1) ⟨0, bP _⟩
    ⟨[1,2,3,4,5,6,8],rfl,(by repeat first|exact trivial|refine ⟨rfl,?_⟩),⟨.inr rfl,.inr rfl,.inr rfl,.inr rfl,.inr rfl,.inr rfl,.inr rfl,trivial⟩,by decide,jT _⟩ ?_
  rintro ⟨i,hi⟩;dsimp only;have hLl : (eY L).length = L.length := eD _;have hRl : R.length = L.length := by rw [hR,bF]
  by_cases hlt : i < L.length
  · have hg := mH hlt;have hv1 := hp' L[i] (aI hlt);have hv2 := hc' L[i] (aI hlt);have hRs : R.take (i + 1) = R.take i ++ [ZV k L[i]] := by rw [aR (by omega)];simp [hR]
    have hwm := hsz' _ (aI hlt);generalize L[i] = v at *;have hcw := J7 v hwm;obtain ⟨p,m,c⟩ := v;dsimp only at hv1 hv2 hcw hRs;have e1 := P8 (QH p k (k + 1) (by omega) (by omega) (by intro h;rw [h] at hv1;simp at hv1;omega))
    have e2 := P8 (YW c k (k + 1) (by omega) (by omega) (by intro h;rw [h] at hv2;simp at hv2;omega))
    rw [zY,show p.length - (k + 1 - k) = p.length - 1 by omega,show ((k + 1 : Nat) : Int) = (k : Int) + 1 by omega] at e1
    rw [zY,show c.length - (k + 1 - k) = c.length - 1 by omega,show ((k + 1 : Nat) : Int) = (k : Int) + 1 by omega] at e2
    (repeat' (first|refine wS ?_|refine wB ?_|refine wK ?_|(refine wC rfl ?_ ?_<;>(intro hb;(try simp only [nm] at hb);try (exfalso;omega)))|(refine rg 5 (vV (aJ rfl rfl) ?_))|(refine rg 6 (vV (ix T rfl (by omega) (jB _) hg) (lW T rfl (bT (bH T rfl) rfl (aQ T rfl rfl rfl rfl rfl rfl (by decide) rfl ?_)))))|(refine rg 7 (lW T rfl (bT (by exact fZ rfl rfl hcw (.inr ⟨rfl,rfl,by simp⟩)) rfl ?_));refine aQ T rfl rfl rfl rfl rfl rfl (by decide) rfl ?_)|refine nZ ?_));all_goals try (exfalso;omega)
    refine eP [(1, .i k), (4, .ptr 0 0), (5, .ptr 1 0), (8, .ptr 7 0), (43, .rowE (eY L) 3), (44, .i (eY L).length), (45, .i i)] [.cells [.sl 2 0 1 1, .sl 5 0 1 3], .cells [.rowE (ints (bs.eraseIdx k)) 1, .sl 6 0 i 3], .arr (ints [x1]) 1, .arr (ints [x2]) 1, .arr (eO [(a1, a2)]) 2, .arr [[.sl 3 0 1 1, .i 0, .sl 4 0 1 2]] 3, .arr (eY (R.take i)) 3, .cells [.sl 8 0 p.length 1, .i m, .sl 9 0 c.length 2], .arr (ints p) 1, .arr (eO c) 2]
      ⟨[0,1,2,3,4,5,6,7,8,9],rfl,(by repeat first|exact trivial|refine ⟨rfl,?_⟩),⟨.inr rfl,.inr rfl,.inr rfl,.inr rfl,.inr rfl,.inr rfl,.inr (aG rfl rfl (bE _)),.inr rfl,.inr (aG rfl (cE _ (bO _)) (bO _)),.inr (aG rfl (cE _ (eZ _)) (eZ _)),trivial⟩,by decide,jT _⟩ ?_
    repeat' (first|(refine pY (id := 8) 78 [[],[0],[],[],[3],rN 5,[],[6],[],[],[9],rN 11,rN 8,rN 13] (rM 51 13) [[],[],[51,52],[51,52,53],[51,52,53],[],rM 51 6,rM 51 6,rM 51 8,rM 51 9,rM 51 9,[],rM 59 4,[]] [(5,8),(11,9),(13,7)] cN rfl (by decide +kernel) (eT rfl rfl rfl rfl (by exact bY T rfl rfl rfl) ?_);refine eT rfl rfl rfl rfl (by exact aT T rfl rfl rfl rfl) ?_;refine eT rfl rfl rfl rfl (by exact bU rfl) ?_;refine eT rfl rfl rfl rfl (by exact bU rfl) ?_;refine eT rfl rfl rfl rfl (by exact bS rfl rfl (by omega) (by omega)) ?_;refine vY rfl rfl rfl rfl (aN rfl) (by exact EO [8] rfl rfl (e1) (fun _=>rfl) rfl (by decide) (fun _=>⟨.inr (aG rfl rfl (bO _)),trivial⟩) (by simp) rfl (fun _ _=>rfl) rfl rfl) ?_;refine eT rfl rfl rfl rfl (by exact bY T rfl rfl rfl) ?_;refine eT rfl rfl rfl rfl (by exact aT T rfl rfl rfl rfl) ?_;refine eT rfl rfl rfl rfl (by exact bU rfl) ?_;refine eT rfl rfl rfl rfl (by exact bU rfl) ?_;refine eT rfl rfl rfl rfl (by exact bS rfl rfl (by omega) (by omega)) ?_;refine vY rfl rfl rfl rfl (aN rfl) (by exact EO [9] rfl rfl (e2) (fun _=>rfl) rfl (by decide) (fun _=>⟨.inr (aG rfl rfl (eZ _)),trivial⟩) (by simp) rfl (fun _ _=>rfl) rfl rfl) ?_;refine eT rfl rfl rfl rfl (by exact bY T rfl rfl rfl) ?_;refine AN rfl rfl rfl rfl (aN rfl) T rfl rfl rfl rfl rfl rfl (by decide) rfl ?_;refine xH rfl rfl rfl (by exact rfl) ?_;refine fW T rfl (aQ T rfl rfl rfl rfl rfl rfl (by decide) rfl ?_))|refine nZ ?_)
    show AW _ _ _ _ _ _;have l1 : (p.eraseIdx k).length = p.length - 1 := by rw [fL,if_pos (by omega)]
    have l2 : (c.eraseIdx k).length = c.length - 1 := by rw [fL,if_pos (by omega)]
    refine eP [(1, .i k), (4, .ptr 0 0), (5, .ptr 1 0), (8, .ptr 7 0), (43, .rowE (eY L) 3), (44, .i (eY L).length), (45, .i i)] [.cells [.sl 2 0 1 1, .sl 5 0 1 3], .cells [.rowE (ints (bs.eraseIdx k)) 1, .sl 6 0 i 3], .arr (ints [x1]) 1, .arr (ints [x2]) 1, .arr (eO [(a1, a2)]) 2, .arr [[.sl 3 0 1 1, .i 0, .sl 4 0 1 2]] 3, .arr (eY (R.take i)) 3, .cells [.sl 8 0 (p.length - 1) 1, .i m, .sl 9 0 (c.length - 1) 2], .arr (ints (p.eraseIdx k)) 1, .arr (eO (c.eraseIdx k)) 2]
      ⟨[0,1,2,3,4,5,6,7,8,9],rfl,(by repeat first|exact trivial|refine ⟨rfl,?_⟩),⟨.inr rfl,.inr rfl,.inr rfl,.inr rfl,.inr rfl,.inr rfl,.inr (aG rfl rfl (bE _)),.inr rfl,.inr (aG rfl (cE _ (bO _)) (bO _)),.inr (aG rfl (cE _ (eZ _)) (eZ _)),trivial⟩,by decide,jT _⟩ ?_
    refine mB 7 0 rfl rfl rfl (by rw [cW,l1]) (gD (bO _)) ?_
    refine mB 7 2 rfl rfl rfl (by rw [fO,l2]) (gD (eZ _)) ?_
    have hW : eY (R.take (i + 1)) = eY (R.take i) ++ [[.rowE (ints (p.eraseIdx k)) 1,.i m,.rowE (eO (c.eraseIdx k)) 2]] := by rw [hRs,eY,dB];rfl
    have hTl : (eY (R.take i)).length = i := by rw [eD,aU];omega
    generalize eY (R.take i) = Q at *
    (repeat' (first|(refine rg 9 (hO T rfl (lW T rfl (bT (by exact bC T rfl rfl (by decide) (by decide) rfl rfl rfl) rfl ?_)));refine gR T rfl rfl rfl rfl rfl rfl (by omega) (kX.whole rfl rfl) rfl (by simp;omega) (by simp;omega) rfl ?_;refine fW T rfl (aQ T rfl rfl rfl rfl rfl rfl (by decide) rfl ?_))|(refine rg 10 (vV (bS rfl rfl (by omega) (by omega)) (mV ?_)))|refine nZ ?_));all_goals try (exfalso;omega)
    exact ⟨⟨i + 1,hlt⟩,by dsimp only;omega,⟨[0,1,2,3,4,5,11],rfl,(by repeat first|exact trivial|refine ⟨rfl,?_⟩),⟨.inr rfl,.inr rfl,.inr rfl,.inr rfl,.inr rfl,.inr rfl,.inr (aG rfl (by dsimp only;rw [hW];exact lT hTl.symm) (bE _)),trivial⟩,by decide,jT _⟩⟩
  · obtain rfl : i = L.length := by omega
    rw [show R.take L.length = R by rw [← hRl,dA]]
    show AW _ _ _ _ _ _;refine mB 1 1 rfl rfl rfl (by rw [eD,hRl]) (gD (bE _)) ?_
    generalize iE R = R' at *
    (repeat' (first|refine wS ?_|refine wR ?_|refine wE ?_|(refine wC rfl ?_ ?_<;>(intro hb;(try simp only [nm] at hb);try (exfalso;omega)))|(refine rg 5 (vV (aJ rfl rfl) ?_))|(refine rg 11 (hO T rfl (vV (kC (ho)) (fW T rfl (aQ T rfl rfl rfl rfl rfl rfl (by decide) rfl ?_)))))|(refine mN (id := 12) 78 [[],[],[0]] [76,77] [[],[76],[77]] [(2,0)] cN rfl (by decide +kernel) (cM rfl rfl rfl rfl (by exact aT T rfl rfl rfl rfl) ?_);refine cM rfl rfl rfl rfl (by exact aT T rfl rfl rfl rfl) ?_;refine uA rfl rfl rfl rfl (aN rfl) T rfl rfl rfl rfl rfl rfl (by decide) rfl ?_;refine pT rfl rfl rfl (by exact rfl) ?_;refine aQ T rfl rfl rfl rfl rfl rfl (by decide) rfl ?_)|refine nZ ?_));all_goals first | (exfalso;omega) | exact ⟨.inl rfl,[2,3,4,5],_,rfl,rfl,rfl,⟨.inr rfl,.inr rfl,.inr rfl,.inr rfl,trivial⟩,by decide,jT _⟩
end Go.Proofs.YtbialaoigijlgaaGreatDoor
