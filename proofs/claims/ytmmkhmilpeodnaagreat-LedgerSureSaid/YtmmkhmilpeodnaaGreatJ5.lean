/-
  Texts of the logic and of the layer,in one module (part 5).
-/
import Derived.Test.YtmmkhmilpeodnaaGreatJ4
import Derived.Lib.SlicesDelete
import Derived.Deep.RegionLaw
import Derived.Sort.EncStr
import Derived.Shelf.RegionOpenPlain
import Derived.Deep.LoopGhost
import Derived.Lib.Walk
import Derived.Sort.WalkB12
import Derived.Shelf.Slices.Delete
import Derived.Ground.Names2Prog
set_option linter.unusedVariables false
set_option linter.unusedSimpArgs false
set_option linter.unnecessarySimpa false
namespace Go.Ld
open Go.Ab Go.Proofs.YtmmkhmilpeodnaaGreat
theorem VV {P U V R : List W} {a m b mid n lo hi s : Nat} (ha : a = P.length) (hm : m = a + U.length) (hb : b = m + V.length) (hmid : mid = (a + b) / 2) (hn : n = mid + m) (hU : Up U) (hV : Up V)
    (hc : mid < m ∧ lo = n - b ∧ hi = mid ∨ m ≤ mid ∧ lo = a ∧ hi = m) (hs1 : lo ≤ s) (hs2 : s ≤ hi)
    (h1 : ∀ x y,lo < s → (P ++ (U ++ (V ++ R)))[s - 1]? = some x → (P ++ (U ++ (V ++ R)))[n - s]? = some y → ¬ eE y x < 0)
    (h2 : ∀ x y,s < hi → (P ++ (U ++ (V ++ R)))[s]? = some x → (P ++ (U ++ (V ++ R)))[n - 1 - s]? = some y → eE y x < 0) :
    ∃ X1 X2 Y1 Y2,U = X1 ++ X2 ∧ V = Y1 ++ Y2 ∧ s = a + X1.length ∧ n = (m + Y1.length) + s ∧ mid = a + X1.length + Y1.length ∧ dR eE (U ++ V) = dR eE (X1 ++ Y1) ++ dR eE (X2 ++ Y2) := by
  have f1 : a ≤ s ∧ s ≤ m ∧ m + s ≤ n ∧ n ≤ b + s := by rcases hc with ⟨c1,c2,c3⟩ | ⟨c1,c2,c3⟩ <;> omega
  obtain ⟨f1,f2,f3,f4⟩ := f1;refine ⟨U.take (s - a),U.drop (s - a),V.take (n - s - m),V.drop (n - s - m),by simp,by simp,by rw [bD];omega,by rw [bD];omega,by rw [bD,bD];omega,?_⟩
  refine zJ4 hU hV (by omega) (by omega) (fun x y h0 hx hy => ?_) (fun x y h0 hx hy => ?_)
  · have i1 := (aB.1 hy).1;refine h1 x y (by rcases hc with ⟨c1,c2,c3⟩ | ⟨c1,c2,c3⟩ <;> omega) ?_ ?_
    · rw [TZ (k := s - a - 1) (by omega) (by omega)];exact hx
    · rw [TY (k := n - s - m) (by omega) (by omega)];exact hy
  · have i1 := (aB.1 hx).1;refine h2 x y (by rcases hc with ⟨c1,c2,c3⟩ | ⟨c1,c2,c3⟩ <;> omega) ?_ ?_
    · rw [TZ (k := s - a) (by omega) (by omega)];exact hx
    · rw [TY (k := n - s - m - 1) (by omega) (by omega)];exact hy
theorem zG8 {A B : List W} (h : Up (A ++ B)) : Up A := (eN.1 h).1
theorem zG7 {A B : List W} (h : Up (A ++ B)) : Up B := (eN.1 h).2.1
def bs (k : Nat) (l : List W) : List W := if h : l.length ≤ k ∨ k = 0 then dR eE l else dR eE (l.take k) ++ bs k (l.drop k)
  termination_by l.length
  decreasing_by simp only [dJ];omega
theorem K1 {k : Nat} {l : List W} (h : l.length ≤ k) : bs k l = dR eE l := by unfold bs;rw [dif_pos (.inl h)]
theorem zJ7 {k : Nat} {l : List W} (h : k < l.length) (h0 : 0 < k) : bs k l = dR eE (l.take k) ++ bs k (l.drop k) := by rw [bs,dif_neg (by omega)]
theorem T9 {k : Nat} {a b : List W} (h : a.length = k) (h0 : 0 < k) : bs k (a ++ b) = dR eE a ++ bs k b := by
  subst h;cases b with
  | nil => rw [List.append_nil,K1 (aY _),K1 (cK _)];simp [dR]
  | cons x b => rw [zJ7 (by simp) h0,tT,tU]
theorem zE8 (k : Nat) (l : List W) : (bs k l).length = l.length := by
  induction hn : l.length using Nat.strongRecOn generalizing l with
  | _ n ih =>
    unfold bs;split
    · rw [iD,hn]
    · rw [aF,iD,bD,ih (l.drop k).length (by rw [dJ];omega) _ rfl,dJ];omega
theorem EB (a b : List W) : dR eE (dR eE a ++ dR eE b) = dR eE (a ++ b) :=
  A6 ((dK _ _).trans ((dK _ _).append (dK _ _)).symm) (kJ iN _)
end Go.Ld
namespace Go.Proofs.YtmmkhmilpeodnaaGreat
open Go Go.Ab Go.Ld
attribute [local irreducible] VC AW bX aT I4
set_option maxHeartbeats 4000000
theorem ZL : ∀ (k : Nat) (P U V R : List W) {a m b N : Nat},b - a ≤ k → 0 < U.length → 0 < V.length → a = P.length → m = a + U.length → b = m + V.length → N = b + R.length → N ≤ 100000 → Up U → Up V → (∀ w,w ∈ U → E6 w) → (∀ w,w ∈ V → E6 w) →
    aT Tryz.prog 162 [.sl 0 0 N 3,.i a,.i m,.i b,pS] [.arr (fL (P ++ (U ++ (V ++ R)))) 3] (.tup []) [.arr (fL (P ++ (dR eE (U ++ V) ++ R))) 3] := by
  intro k
  induction k with
  | zero => intros;exfalso;omega
  | succ k ih =>
    intro P U V R a m b N hk hU0 hV0 ha hm hb hN hl hU hV hwU hwV;by_cases hu1 : U.length = 1
    · obtain ⟨u,rfl⟩ := W6.1 hu1;exact zA5 P u V R ha hm hb hN hl hV (hwU u (by simp)) hwV
    by_cases hv1 : V.length = 1
    · obtain ⟨v,rfl⟩ := W6.1 hv1;exact zA4 P U v R ha hm hb hN hl (by omega) hU (hwV v (by simp)) hwU
    have hP : ((a : Int) + b) / 2 ^ (1 : Int).toNat = (((a + b) / 2 : Nat) : Int) := by rw [show (2 : Int) ^ (1 : Int).toNat = 2 from rfl];omega
    have hw1 : IntKind.u64.wrap ((a : Int) + b) = (a : Int) + b := DL (by omega) (by omega)
    have hw2 : IntKind.i64.wrap (((a + b) / 2 : Nat) : Int) = (((a + b) / 2 : Nat) : Int) := IntWalk.i64_in _ (by omega)
    obtain ⟨mid,hmid⟩ : ∃ mid,mid = (a + b) / 2 := ⟨_,rfl⟩;rw [← hmid] at hP hw2;have hD1 : ∀ i,a ≤ i → i < m → (P ++ (U ++ (V ++ R)))[i]? = U[i - a]? := fun i h1 h2 => TZ (by omega) (by omega)
    have hD2 : ∀ i,m ≤ i → i < b → (P ++ (U ++ (V ++ R)))[i]? = V[i - m]? := fun i h1 h2 => TY (by omega) (by omega)
    have hcut : ∀ {lo hi s : Nat},_ := @VV P U V R a m b mid (mid + m);generalize hDe : P ++ (U ++ (V ++ R)) = D at *;refine bT T Tryz.func162 rfl rfl rfl rfl ?_;apply Go.Ab.cutT (T := ∀ lo hi : Nat,(mid < m ∧ lo = mid + m - b ∧ hi = mid ∨ m ≤ mid ∧ lo = a ∧ hi = m) → _)
    · intro rest;by_cases h : mid < m
      · obtain ⟨lo,hlo⟩ : ∃ lo : Nat,lo = mid + m - b := ⟨_,rfl⟩;obtain ⟨hi,hhi⟩ : ∃ hi : Nat,hi = mid := ⟨_,rfl⟩
        (repeat' (first|refine wS ?_|refine wB ?_|refine wK ?_|refine wU ?_|(refine wC rfl ?_ ?_<;>(intro hb;(try simp only [nm] at hb);try (exfalso;omega)))|(refine rg 0 (dS rfl (vV (cQ rfl rfl (by omega) (by omega)) (vV (gB rfl rfl (by omega)) ?_))))|(refine rg 12 (dS rfl (vV (cQ rfl rfl (by omega) (by omega)) (vV (gB rfl rfl (by omega)) ?_))))|(refine rg 24 (dS rfl (vV (bU rfl rfl (by omega) (by omega)) (vV (iK vI pM rfl hw1) (vV (by exact hP ▸ rU rfl rfl (by decide) (by decide)) ?_))));refine vV (iK pM vI rfl hw2) (aV ?_))|(refine rg 25 (dS rfl (vV (bU rfl rfl (by omega) (by omega)) (aV ?_))))|(refine rg 26 (rZ ?_))|(refine rg 27 (dS rfl (vV (fP rfl rfl) ?_)))|(refine rg 28 (dS rfl (vV (cQ rfl rfl (by omega) (by omega)) (aV ?_))))|(refine rg 29 (mW rfl (aV ?_)))|(refine rg 32 (mW rfl (vV (cQ rfl rfl (by omega) (by omega)) (aV ?_))))|refine nZ ?_));all_goals first | (exfalso;omega) | exact fA [(0,.sl 0 0 N 3),(1,.i a),(2,.i m),(3,.i b),(4,pS),(18,.i mid),(19,.i ((mid : Int) + m)),(20,.i lo),(21,.i hi),(22,.i ((mid : Int) + m - 1))] [.arr (fL D) 3] ⟨[0],rfl,⟨rfl,rfl,rfl,rfl,rfl,rfl,rfl,by rw [show (lo : Int) = (mid : Int) + m - b by omega];rfl,by rw [hhi];rfl,rfl,trivial⟩,⟨.inr (aE rfl rfl (bG _)),trivial⟩,by decide,kU⟩ (rest.get lo hi (by omega))
      · obtain ⟨lo,hlo⟩ : ∃ lo : Nat,lo = a := ⟨_,rfl⟩;obtain ⟨hi,hhi⟩ : ∃ hi : Nat,hi = m := ⟨_,rfl⟩
        (repeat' (first|refine wS ?_|refine wB ?_|refine wK ?_|refine wU ?_|(refine wC rfl ?_ ?_<;>(intro hb;(try simp only [nm] at hb);try (exfalso;omega)))|(refine rg 0 (dS rfl (vV (cQ rfl rfl (by omega) (by omega)) (vV (gB rfl rfl (by omega)) ?_))))|(refine rg 12 (dS rfl (vV (cQ rfl rfl (by omega) (by omega)) (vV (gB rfl rfl (by omega)) ?_))))|(refine rg 24 (dS rfl (vV (bU rfl rfl (by omega) (by omega)) (vV (iK vI pM rfl hw1) (vV (by exact hP ▸ rU rfl rfl (by decide) (by decide)) ?_))));refine vV (iK pM vI rfl hw2) (aV ?_))|(refine rg 25 (dS rfl (vV (bU rfl rfl (by omega) (by omega)) (aV ?_))))|(refine rg 26 (rZ ?_))|(refine rg 27 (dS rfl (vV (fP rfl rfl) ?_)))|(refine rg 30 (mW rfl (aV ?_)))|(refine rg 31 (mW rfl (aV ?_)))|(refine rg 32 (mW rfl (vV (cQ rfl rfl (by omega) (by omega)) (aV ?_))))|refine nZ ?_));all_goals first | (exfalso;omega) | exact fA [(0,.sl 0 0 N 3),(1,.i a),(2,.i m),(3,.i b),(4,pS),(18,.i mid),(19,.i ((mid : Int) + m)),(20,.i lo),(21,.i hi),(22,.i ((mid : Int) + m - 1))] [.arr (fL D) 3] ⟨[0],rfl,⟨rfl,rfl,rfl,rfl,rfl,rfl,rfl,by rw [hlo];rfl,by rw [hhi];rfl,rfl,trivial⟩,⟨.inr (aE rfl rfl (bG _)),trivial⟩,by decide,kU⟩ (rest.get lo hi (by omega))
    intro lo hi hc;have hcut := fun s => @hcut lo hi s ha hm hb hmid rfl hU hV hc
    refine dB (X := {q : Nat × Nat // lo ≤ q.1 ∧ q.1 ≤ q.2 ∧ q.2 ≤ hi ∧ (∀ x y, lo < q.1 → D[q.1 - 1]? = some x → D[mid + m - q.1]? = some y → ¬ eE y x < 0) ∧ (∀ x y, q.2 < hi → D[q.2]? = some x → D[mid + m - 1 - q.2]? = some y → eE y x < 0)})
      (fun q => [(0,.sl 0 0 N 3),(1,.i a),(2,.i m),(3,.i b),(4,pS),(18,.i mid),(19,.i ((mid : Int) + m)),(20,.i q.1.1),(21,.i q.1.2),(22,.i ((mid : Int) + m - 1))]) (fun _ => [.arr (fL D) 3]) (fun q => q.1.2 - q.1.1) ⟨(lo,hi),by dsimp only;exact ⟨by omega,by omega,by omega,fun x y h => by omega,fun x y h => by omega⟩⟩
      ⟨[0],rfl,by (repeat (first | exact trivial | refine ⟨rfl,?_⟩)),⟨.inr (aE rfl rfl (bG _)),trivial⟩,by decide,kU⟩ ?_
    rintro ⟨⟨i,j⟩,h1,h2,h3,h4,h5⟩;dsimp only at h1 h2 h3 h4 h5 ⊢;have hlo : a ≤ lo ∧ hi ≤ m ∧ m ≤ mid + m - hi ∧ mid + m - lo ≤ b ∧ lo ≤ mid + m := by omega
    by_cases hij : i < j
    · clear hP hw1 hw2;have hP : ((i : Int) + j) / 2 ^ (1 : Int).toNat = (((i + j) / 2 : Nat) : Int) := by rw [show (2 : Int) ^ (1 : Int).toNat = 2 from rfl];omega
      have hw1 : IntKind.u64.wrap ((i : Int) + j) = (i : Int) + j := DL (by omega) (by omega)
      have hw2 : IntKind.i64.wrap (((i + j) / 2 : Nat) : Int) = (((i + j) / 2 : Nat) : Int) := IntWalk.i64_in _ (by omega)
      have hh : i ≤ (i + j) / 2 ∧ (i + j) / 2 < j := by omega
      generalize hq : (i + j) / 2 = q at *;obtain ⟨x,hx⟩ : ∃ x,U[q - a]? = some x := ⟨_,aA (by omega)⟩
      obtain ⟨y,hy⟩ : ∃ y,V[mid + m - 1 - q - m]? = some y := ⟨_,aA (by omega)⟩
      have wx := hwU x (aL hx);have wy := hwV y (aL hy);rw [← hD1 q (by omega) (by omega)] at hx
      rw [← hD2 (mid + m - 1 - q) (by omega) (by omega)] at hy
      have q1 := oG (j := (mid : Int) + m - 1 - q) hy (by omega)
      have q2 := oG (j := (q : Int)) hx rfl;have hc' := uB y x wy wx;by_cases h0 : eE y x < 0
      · generalize hz : eE y x = z at *
        (repeat' (first|refine wS ?_|refine wB ?_|refine wK ?_|(refine wC rfl ?_ ?_<;>(intro hb;(try simp only [nm] at hb);try (exfalso;omega)))|(refine rg 33 (dS rfl (vV (aO rfl rfl) ?_)))|(refine rg 34 (dS rfl (vV (bU rfl rfl (by omega) (by omega)) (vV (iK vI pM rfl hw1) (vV (by exact hP ▸ rU rfl rfl (by decide) (by decide)) ?_))));refine vV (iK pM vI rfl hw2) (aV ?_))|(refine cM (id := 35) 220 zR5 (rM 158 14) zR6 dA rfl (by decide +kernel) (dN rfl (dN rfl (dN rfl (dN rfl (dV rfl (cQ rfl rfl (by omega) (by omega)) (dV rfl (by exact aM T rfl rfl rfl rfl rfl (by omega) (by omega)) ?_))))));refine dV rfl (by exact aX T rfl rfl (bJ rfl q1) rfl) ?_;refine dN rfl (dN rfl (dV rfl (by exact aM T rfl rfl rfl rfl rfl (by omega) (by omega)) ?_));refine dV rfl (by exact aX T rfl rfl (bJ rfl q2) rfl) ?_;refine dV rfl (kC (hc')) (dV rfl (aO rfl rfl) (dV rfl (eD rfl) (dE ?_))))|(refine rg 37 (mW rfl (aV ?_)))|refine nZ ?_));all_goals first | (exfalso;omega) | skip
        exact ⟨⟨(i,q),by dsimp only;exact ⟨by omega,by omega,by omega,h4,fun x' y' _ hx' hy' => by rw [hx] at hx';rw [hy] at hy';cases hx';cases hy';omega⟩⟩,by dsimp only;omega,⟨[0],rfl,by (repeat (first | exact trivial | refine ⟨rfl,?_⟩)),⟨.inr (aE rfl rfl (bG _)),trivial⟩,by decide,kU⟩⟩
      · generalize hz : eE y x = z at *
        (repeat' (first|refine wS ?_|refine wB ?_|refine wK ?_|(refine wC rfl ?_ ?_<;>(intro hb;(try simp only [nm] at hb);try (exfalso;omega)))|(refine rg 33 (dS rfl (vV (aO rfl rfl) ?_)))|(refine rg 34 (dS rfl (vV (bU rfl rfl (by omega) (by omega)) (vV (iK vI pM rfl hw1) (vV (by exact hP ▸ rU rfl rfl (by decide) (by decide)) ?_))));refine vV (iK pM vI rfl hw2) (aV ?_))|(refine cM (id := 35) 220 zR5 (rM 158 14) zR6 dA rfl (by decide +kernel) (dN rfl (dN rfl (dN rfl (dN rfl (dV rfl (cQ rfl rfl (by omega) (by omega)) (dV rfl (by exact aM T rfl rfl rfl rfl rfl (by omega) (by omega)) ?_))))));refine dV rfl (by exact aX T rfl rfl (bJ rfl q1) rfl) ?_;refine dN rfl (dN rfl (dV rfl (by exact aM T rfl rfl rfl rfl rfl (by omega) (by omega)) ?_));refine dV rfl (by exact aX T rfl rfl (bJ rfl q2) rfl) ?_;refine dV rfl (kC (hc')) (dV rfl (aO rfl rfl) (dV rfl (eD rfl) (dE ?_))))|(refine iA 36 rfl rfl rfl (by omega) (by omega) ?_)|refine nZ ?_));all_goals first | (exfalso;omega) | skip
        exact ⟨⟨(q + 1,j),by dsimp only;exact ⟨by omega,by omega,by omega,fun x' y' _ hx' hy' => by rw [show q + 1 - 1 = q by omega,hx] at hx';rw [show mid + m - (q + 1) = mid + m - 1 - q by omega,hy] at hy';cases hx';cases hy';omega,h5⟩⟩,by dsimp only;omega,⟨[0],rfl,by (repeat (first | exact trivial | refine ⟨rfl,?_⟩)),⟨.inr (aE rfl rfl (bG _)),trivial⟩,by decide,kU⟩⟩
    · obtain rfl : i = j := by omega
      obtain ⟨X1,X2,Y1,Y2,rfl,rfl,e1,e2,e3,hsrt⟩ := hcut i (by omega) (by omega) h4 h5
      clear hcut h4 h5 hD1 hD2 hP hw1 hw2;rw [hsrt];obtain ⟨e,he⟩ : ∃ e,e = m + Y1.length := ⟨_,rfl⟩;simp only [aF] at hm hb hU0 hV0 hu1 hv1;have uX1 := zG8 hU;have uX2 := zG7 hU;have uY1 := zG8 hV;have uY2 := zG7 hV;have w1 := ih P X1 Y1 (X2 ++ (Y2 ++ R)) (a := a) (m := i) (b := mid) (N := N);have w2 := ih (P ++ dR eE (X1 ++ Y1)) X2 Y2 R (a := mid) (m := e) (b := b) (N := N);have hsl : (dR eE (X1 ++ Y1)).length = X1.length + Y1.length := by rw [iD,aF]
      have w0 := PV (P ++ X1) X2 Y1 (Y2 ++ R) (a := i) (m := m) (b := e) (N := N);simp only [aF,hsl] at w0 w1 w2;have c0 : i < m → m < e → _ := fun h h' => w0 (by omega) (by omega) (by omega) (by omega) hl (by omega) (by omega)
      have c1 : a < i → i < mid → _ := fun h h' => w1 (by omega) (by omega) (by omega) ha (by omega) (by omega) (by omega) hl uX1 uY1 (fun w hw => hwU w (by simp [hw])) (fun w hw => hwV w (by simp [hw]))
      have c2 : mid < e → e < b → _ := fun h h' => w2 (by omega) (by omega) (by omega) (by omega) (by omega) (by omega) (by omega) hl uX2 uY2 (fun w hw => hwU w (by simp [hw])) (fun w hw => hwV w (by simp [hw]))
      have d0 : ¬ (i < m ∧ m < e) → D = P ++ (X1 ++ (Y1 ++ (X2 ++ (Y2 ++ R)))) := fun h => by
        rw [← hDe];by_cases h' : X2.length = 0
        · rw [bM h'];simp
        · rw [bM (show Y1.length = 0 by omega)];simp
      have d1 : ¬ (a < i ∧ i < mid) → P ++ (X1 ++ (Y1 ++ (X2 ++ (Y2 ++ R)))) = P ++ (dR eE (X1 ++ Y1) ++ (X2 ++ (Y2 ++ R))) := fun h => by
        by_cases h' : X1.length = 0
        · rw [bM h',List.nil_append,List.nil_append,L8 uY1]
        · rw [bM (show Y1.length = 0 by omega),List.nil_append,List.append_nil,L8 uX1]
      have d2 : ¬ (mid < e ∧ e < b) → P ++ (dR eE (X1 ++ Y1) ++ (X2 ++ (Y2 ++ R))) = P ++ (dR eE (X1 ++ Y1) ++ dR eE (X2 ++ Y2) ++ R) := fun h => by
        by_cases h' : X2.length = 0
        · rw [bM h',List.nil_append,List.nil_append,L8 uY2];simp
        · rw [bM (show Y2.length = 0 by omega),List.nil_append,List.append_nil,L8 uX2];simp
      have g0 : (P ++ X1) ++ (X2 ++ (Y1 ++ (Y2 ++ R))) = D := by rw [← hDe];simp
      have g1 : (P ++ X1) ++ (Y1 ++ (X2 ++ (Y2 ++ R))) = P ++ (X1 ++ (Y1 ++ (X2 ++ (Y2 ++ R)))) := by simp
      have g2 : (P ++ dR eE (X1 ++ Y1)) ++ (X2 ++ (Y2 ++ R)) = P ++ (dR eE (X1 ++ Y1) ++ (X2 ++ (Y2 ++ R))) := by simp
      have g3 : (P ++ dR eE (X1 ++ Y1)) ++ (dR eE (X2 ++ Y2) ++ R) = P ++ (dR eE (X1 ++ Y1) ++ dR eE (X2 ++ Y2) ++ R) := by simp
      rw [g0,g1] at c0;rw [g2,g3] at c2;clear w0 w1 w2 ih g0 g1 g2 g3 hDe hwU hwV;generalize P ++ (dR eE (X1 ++ Y1) ++ dR eE (X2 ++ Y2) ++ R) = A3 at *;generalize P ++ (dR eE (X1 ++ Y1) ++ (X2 ++ (Y2 ++ R))) = A2 at *;generalize P ++ (X1 ++ (Y1 ++ (X2 ++ (Y2 ++ R)))) = A1 at *;apply Go.Ab.cutT
      · intro rest;by_cases h : i < m ∧ m < e
        · have hc' := c0 h.1 h.2;rw [show (e : Int) = (mid : Int) + m - i by omega] at hc'
          (repeat' (first|refine wS ?_|refine wE ?_|(refine wC rfl ?_ ?_<;>(intro hb;(try simp only [nm] at hb);try (exfalso;omega)))|(refine rg 33 (dS rfl (vV (aO rfl rfl) ?_)))|(refine rg 38 (dS rfl (vV (cQ rfl rfl (by omega) (by omega)) (aV ?_))))|(refine rg 39 (dS rfl (vV (aO rfl rfl) (mV ?_)));refine cE rfl rfl ?_ ?_<;>(intro hb;rw [hb];(try simp only [nm] at hb);try (exfalso;omega));(all_goals (refine yN rfl (yN rfl (yV (aO rfl rfl) (pV ?_))))))|(refine rg 40 (dS rfl (dS rfl (mW rfl (fQ [0] rfl rfl (hc') rfl rfl (by decide) ⟨.inr (aE rfl rfl (bG _)),trivial⟩ (by simp) rfl ?_)))))|refine nZ ?_));all_goals first | (exfalso;omega) | exact fA [(0,.sl 0 0 N 3),(1,.i a),(3,.i b),(4,pS),(18,.i mid),(20,.i i),(24,.i e)] [.arr (fL A1) 3] ⟨[0],rfl,⟨rfl,rfl,rfl,rfl,rfl,rfl,by rw [show (e : Int) = (mid : Int) + m - i by omega];rfl,trivial⟩,⟨.inr (aE rfl (cC _ (bG _)) (bG _)),trivial⟩,by decide,kU⟩ rest.get
        · obtain rfl := d0 h
          (repeat' (first|refine wS ?_|refine wK ?_|refine wE ?_|refine wU ?_|(refine wC rfl ?_ ?_<;>(intro hb;(try simp only [nm] at hb);try (exfalso;omega)))|(refine rg 33 (dS rfl (vV (aO rfl rfl) ?_)))|(refine rg 38 (dS rfl (vV (cQ rfl rfl (by omega) (by omega)) (aV ?_))))|(refine rg 39 (dS rfl (vV (aO rfl rfl) (mV ?_)));refine cE rfl rfl ?_ ?_<;>(intro hb;rw [hb];(try simp only [nm] at hb);try (exfalso;omega));(all_goals first|(refine gT (mW rfl (gT (mW rfl (gT (vV (aO rfl rfl) ?_))))))|(iterate 3 refine gF ?_));(all_goals (refine pV ?_)))|refine nZ ?_));all_goals first | (exfalso;omega) | exact fA [(0,.sl 0 0 N 3),(1,.i a),(3,.i b),(4,pS),(18,.i mid),(20,.i i),(24,.i e)] [.arr (fL D) 3] ⟨[0],rfl,⟨rfl,rfl,rfl,rfl,rfl,rfl,by rw [show (e : Int) = (mid : Int) + m - i by omega];rfl,trivial⟩,⟨.inr (aE rfl rfl (bG _)),trivial⟩,by decide,kU⟩ rest.get
      clear c0 d0;apply Go.Ab.cutT
      · intro rest;by_cases h : a < i ∧ i < mid
        · have hc' := c1 h.1 h.2
          (repeat' (first|refine wS ?_|(refine wC rfl ?_ ?_<;>(intro hb;(try simp only [nm] at hb);try (exfalso;omega)))|(refine rg 41 (dS rfl (vV (aO rfl rfl) (mV ?_)));refine cE rfl rfl ?_ ?_<;>(intro hb;rw [hb];(try simp only [nm] at hb);try (exfalso;omega));(all_goals (refine yN rfl (yN rfl (yV (aO rfl rfl) (pV ?_))))))|(refine rg 42 (dS rfl (dS rfl (mW rfl (fQ [0] rfl rfl (hc') rfl rfl (by decide) ⟨.inr (aE rfl rfl (bG _)),trivial⟩ (by simp) rfl ?_)))))|refine nZ ?_));all_goals first | (exfalso;omega) | exact fA [(0,.sl 0 0 N 3),(1,.i a),(3,.i b),(4,pS),(18,.i mid),(24,.i e)] [.arr (fL A2) 3] ⟨[0],rfl,(by repeat first|exact trivial|refine ⟨rfl,?_⟩),⟨.inr (aE rfl (cC _ (bG _)) (bG _)),trivial⟩,by decide,kU⟩ rest.get
        · obtain rfl := d1 h
          (repeat' (first|refine wS ?_|refine wK ?_|refine wU ?_|(refine wC rfl ?_ ?_<;>(intro hb;(try simp only [nm] at hb);try (exfalso;omega)))|(refine rg 41 (dS rfl (vV (aO rfl rfl) (mV ?_)));refine cE rfl rfl ?_ ?_<;>(intro hb;rw [hb];(try simp only [nm] at hb);try (exfalso;omega));(all_goals first|(refine gT (mW rfl (gT (mW rfl (gT (vV (aO rfl rfl) ?_))))))|(iterate 3 refine gF ?_));(all_goals (refine pV ?_)))|refine nZ ?_));all_goals first | (exfalso;omega) | exact fA [(0,.sl 0 0 N 3),(1,.i a),(3,.i b),(4,pS),(18,.i mid),(24,.i e)] [.arr (fL A1) 3] ⟨[0],rfl,(by repeat first|exact trivial|refine ⟨rfl,?_⟩),⟨.inr (aE rfl rfl (bG _)),trivial⟩,by decide,kU⟩ rest.get
      clear c1 d1;by_cases h : mid < e ∧ e < b
      · have hc' := c2 h.1 h.2
        (repeat' (first|(refine wC rfl ?_ ?_<;>(intro hb;(try simp only [nm] at hb);try (exfalso;omega)))|(refine rg 43 (dS rfl (vV (aO rfl rfl) (mV ?_)));refine cE rfl rfl ?_ ?_<;>(intro hb;rw [hb];(try simp only [nm] at hb);try (exfalso;omega));(all_goals (refine yN rfl (yN rfl (yV (aO rfl rfl) (pV ?_))))))|(refine rg 44 (dS rfl (dS rfl (mW rfl (fQ [0] rfl rfl (hc') rfl rfl (by decide) ⟨.inr (aE rfl rfl (bG _)),trivial⟩ (by simp) rfl ?_)))))|refine nZ ?_));all_goals first | (exfalso;omega) | exact ⟨.inl rfl,[0],_,rfl,rfl,rfl,⟨.inr (aE rfl (cC _ (bG _)) (bG _)),trivial⟩,by decide,kU⟩ | exact ⟨.inr rfl,[0],_,rfl,rfl,rfl,⟨.inr (aE rfl (cC _ (bG _)) (bG _)),trivial⟩,by decide,kU⟩
      · obtain rfl := d2 h
        (repeat' (first|refine wK ?_|refine wU ?_|(refine wC rfl ?_ ?_<;>(intro hb;(try simp only [nm] at hb);try (exfalso;omega)))|(refine rg 43 (dS rfl (vV (aO rfl rfl) (mV ?_)));refine cE rfl rfl ?_ ?_<;>(intro hb;rw [hb];(try simp only [nm] at hb);try (exfalso;omega));(all_goals first|(refine gT (mW rfl (gT (mW rfl (gT (vV (aO rfl rfl) ?_))))))|(iterate 3 refine gF ?_));(all_goals (refine pV ?_)))|refine nZ ?_));all_goals first | (exfalso;omega) | exact ⟨.inl rfl,[0],_,rfl,rfl,rfl,⟨.inr (aE rfl rfl (bG _)),trivial⟩,by decide,kU⟩ | exact ⟨.inr rfl,[0],_,rfl,rfl,rfl,⟨.inr (aE rfl rfl (bG _)),trivial⟩,by decide,kU⟩
end Go.Proofs.YtmmkhmilpeodnaaGreat
namespace Go.Ld
open Go.Ab Go.Proofs.YtmmkhmilpeodnaaGreat
theorem JQ {Q r1 r2 : List W} {a b : Nat} (ha : a = Q.length) (hb : b = a + r1.length) : OI (Q ++ (r1 ++ r2)) a b = Q ++ (dR eE r1 ++ r2) := by
  subst ha hb;unfold OI;rw [tT,tU,show Q.length + r1.length - Q.length = r1.length by omega,tT,← HF,tU,tU]
theorem KM {Q r1 r2 : List W} {w : W} (h : w ∈ (Q ++ dR eE r1) ++ r2) : w ∈ Q ++ (r1 ++ r2) := by
  rw [bH] at h;rcases bB.1 h with h | h
  · exact bB.2 (.inl h)
  · rcases bB.1 h with h | h
    · exact bB.2 (.inr (bB.2 (.inl ((dK _ _).mem_iff.1 h))))
    · exact bB.2 (.inr (bB.2 (.inr h)))
end Go.Ld
namespace Go.Proofs.YtmmkhmilpeodnaaGreat
open Go Go.Ab Go.Ld
attribute [local irreducible] VC AW bX aT
set_option maxHeartbeats 4000000
theorem PI (l : List W) {N : Nat} (hN : N = l.length) (hl : N ≤ 100000) (hw : ∀ w,w ∈ l → E6 w) :
    aT Tryz.prog 132 [.sl 0 0 N 3,.i N,pS] [.arr (fL l) 3] (.tup []) [.arr (fL (dR eE l)) 3] := by
  refine bT T Tryz.func132 rfl rfl rfl rfl ?_;apply Go.Ab.cutT
  · intro rest
    (repeat' (first|refine wS ?_|refine wB ?_|(refine rg 0 (aV ?_))|(refine rg 1 (mW rfl (rZ ?_)))|refine nZ ?_));refine dB (X := {q : Nat × List W × List W // q.2.1.length = q.1 ∧ q.1 + q.2.2.length = N ∧ bs 20 l = q.2.1 ++ bs 20 q.2.2 ∧ ∀ w, w ∈ q.2.1 ++ q.2.2 → w ∈ l})
      (fun q => [(0,.sl 0 0 N 3),(1,.i N),(2,pS),(6,.i 20),(7,.i q.1.1),(8,.i ((q.1.1 : Int) + 20))]) (fun q => [.arr (fL (q.1.2.1 ++ q.1.2.2)) 3]) (fun q => q.1.2.2.length) ⟨(0,[],l),by simp;omega⟩
      ⟨[0],rfl,by (repeat (first | exact trivial | refine ⟨rfl,?_⟩)),⟨.inr (aE rfl rfl (bG _)),trivial⟩,by decide,kU⟩ ?_
    rintro ⟨⟨a,Q,r⟩,h1,h2,h3,h4⟩;dsimp only at h1 h2 h3 h4 ⊢;by_cases hlt : a + 20 ≤ N
    · obtain ⟨r1,r2,rfl,hr⟩ : ∃ r1 r2,r = r1 ++ r2 ∧ r1.length = 20 := ⟨r.take 20,r.drop 20,by simp,by simp;omega⟩
      rw [aF] at h2;have hc := FK (Q ++ (r1 ++ r2)) a (a + 20) (by omega) (by simp;omega) (by simp;omega) (fun w hw' => hw w (h4 w hw'))
      rw [JQ h1.symm (by omega),show (Q ++ (r1 ++ r2)).length = N by simp;omega,show ((a + 20 : Nat) : Int) = (a : Int) + 20 by omega] at hc
      rw [T9 hr (by omega)] at h3
      (repeat' (first|refine wS ?_|refine wB ?_|refine wK ?_|(refine wC rfl ?_ ?_<;>(intro hb;(try simp only [nm] at hb);try (exfalso;omega)))|(refine rg 2 (dS rfl (vV (iX rfl rfl) ?_)))|(refine rg 3 (dS rfl (dS rfl (fQ [0] rfl rfl (hc) rfl rfl (by decide) ⟨.inr (aE rfl rfl (bG _)),trivial⟩ (by simp) rfl ?_))))|(refine rg 4 (mW rfl (aV ?_)))|(refine rg 5 (dS rfl (vV (bU rfl rfl (by omega) (by omega)) (aV ?_))))|refine nZ ?_));all_goals first | (exfalso;omega) | skip
      exact ⟨⟨(a + 20,Q ++ dR eE r1,r2),by dsimp only;exact ⟨by rw [aF,iD];omega,by omega,by rw [h3];simp,fun w hw' => h4 w (KM hw')⟩⟩,by dsimp only;rw [aF];omega,⟨[0],rfl,by (repeat (first | exact trivial | refine ⟨rfl,?_⟩)),⟨.inr (aE rfl (by rw [cC _ (bG _),bH]) (bG _)),trivial⟩,by decide,kU⟩⟩
    · have hc := FK (Q ++ (r ++ [])) a N (by omega) (by simp;omega) (by simp;omega) (fun w hw' => hw w (h4 w (by simpa using hw')))
      rw [JQ h1.symm (by omega),List.append_nil,List.append_nil,show (Q ++ r).length = N by simp;omega,← K1 (k := 20) (by omega),← h3] at hc
      (repeat' (first|refine wS ?_|refine wB ?_|refine wE ?_|(refine wC rfl ?_ ?_<;>(intro hb;(try simp only [nm] at hb);try (exfalso;omega)))|(refine rg 2 (dS rfl (vV (iX rfl rfl) ?_)))|(refine rg 6 (dS rfl (dS rfl (fQ [0] rfl rfl (hc) rfl rfl (by decide) ⟨.inr (aE rfl rfl (bG _)),trivial⟩ (by simp) rfl ?_))))|refine nZ ?_));all_goals first | (exfalso;omega) | exact fA [(0,.sl 0 0 N 3),(1,.i N),(2,pS),(6,.i 20)] [.arr (fL (bs 20 l)) 3] ⟨[0],rfl,by (repeat (first | exact trivial | refine ⟨rfl,?_⟩)),⟨.inr (aE rfl (cC _ (bG _)) (bG _)),trivial⟩,by decide,kU⟩ rest.get
  refine dB (X := {k : Nat // 20 ≤ k ∧ k ≤ 200000}) (fun k => [(0, .sl 0 0 N 3), (1, .i N), (2, pS), (6, .i k.1)]) (fun k => [.arr (fL (bs k.1 l)) 3]) (fun k => N - k.1) ⟨20, by omega, by omega⟩
    ⟨[0],rfl,by (repeat (first | exact trivial | refine ⟨rfl,?_⟩)),⟨.inr (aE rfl rfl (bG _)),trivial⟩,by decide,kU⟩ ?_
  rintro ⟨k,hk,hk2⟩;dsimp only;by_cases hkN : k < N
  · (repeat' (first|refine wS ?_|refine wB ?_|refine wK ?_|(refine wC rfl (fun hb => ?_) (fun hb => ?_) <;> (((try simp only [nm] at hb);try (exfalso;omega))))|(refine rg 7 (dS rfl (vV (aO rfl rfl) ?_)))|(refine rg 8 (mW rfl (vV (xO rfl rfl (by omega) (by omega)) (rZ ?_))))|(refine nZ ?_)));all_goals try (exfalso;omega)
    refine dB (X := {q : Nat × List W × List W // q.2.1.length = q.1 ∧ q.1 + q.2.2.length = N ∧ bs (2 * k) l = q.2.1 ++ bs (2 * k) q.2.2 ∧ ∀ w, w ∈ q.2.1 ++ q.2.2 → w ∈ l})
      (fun q => [(0,.sl 0 0 N 3),(1,.i N),(2,pS),(6,.i k),(7,.i q.1.1),(8,.i ((q.1.1 : Int) + 2 * k))]) (fun q => [.arr (fL (q.1.2.1 ++ bs k q.1.2.2)) 3]) (fun q => q.1.2.2.length) ⟨(0,[],l),by simp;omega⟩
      ⟨[0],rfl,⟨rfl,rfl,rfl,rfl,rfl,by dsimp only;rw [show ((0 : Nat) : Int) + 2 * (k : Int) = 2 * k by omega];rfl,trivial⟩,⟨.inr (aE rfl rfl (bG _)),trivial⟩,by decide,kU⟩ ?_
    rintro ⟨⟨a,Q,r⟩,h1,h2,h3,h4⟩;dsimp only at h1 h2 h3 h4 ⊢;by_cases hlt : a + 2 * k ≤ N
    · obtain ⟨r1,r2,r3,rfl,hr1,hr2⟩ : ∃ r1 r2 r3,r = r1 ++ (r2 ++ r3) ∧ r1.length = k ∧ r2.length = k := ⟨r.take k,(r.drop k).take k,(r.drop k).drop k,by simp only [bK],by simp;omega,by simp;omega⟩
      simp only [aF] at h2;have hc := ZL (2 * k) Q (dR eE r1) (dR eE r2) (bs k r3) (a := a) (m := a + k) (b := a + 2 * k) (N := N) (by omega) (by rw [iD]; omega) (by rw [iD]; omega) h1.symm (by rw [iD]; omega) (by rw [iD]; omega) (by rw [zE8]; omega) hl (kJ iN _) (kJ iN _)
        (fun w hw' => hw w (h4 w (by have := (dK eE _).mem_iff.1 hw';simp [this]))) (fun w hw' => hw w (h4 w (by have := (dK eE _).mem_iff.1 hw';simp [this])))
      rw [EB,← T9 hr2 (by omega),← T9 hr1 (by omega),show ((a + 2 * k : Nat) : Int) = (a : Int) + 2 * k by omega,show ((a + k : Nat) : Int) = (a : Int) + k by omega] at hc
      rw [← bH r1,T9 (k := 2 * k) (by rw [aF];omega) (by omega)] at h3
      (repeat' (first|refine wS ?_|refine wB ?_|refine wK ?_|(refine wC rfl ?_ ?_<;>(intro hb;(try simp only [nm] at hb);try (exfalso;omega)))|(refine rg 9 (dS rfl (vV (iX rfl rfl) ?_)))|(refine rg 10 (dS rfl (dS rfl (vV (bU rfl rfl (by omega) (by omega)) (dS rfl (fQ [0] rfl rfl (hc) rfl rfl (by decide) ⟨.inr (aE rfl rfl (bG _)),trivial⟩ (by simp) rfl ?_))))))|(refine rg 11 (mW rfl (aV ?_)))|(refine rg 12 (dS rfl (vV (xO rfl rfl (by omega) (by omega)) (vV (bU rfl rfl (by omega) (by omega)) (aV ?_)))))|refine nZ ?_));all_goals first | (exfalso;omega) | skip
      exact ⟨⟨(a + 2 * k,Q ++ dR eE (r1 ++ r2),r3),by dsimp only;exact ⟨by rw [aF,iD,aF];omega,by omega,by rw [h3];simp,fun w hw' => h4 w (by have := KM hw';rwa [bH] at this)⟩⟩,by dsimp only;simp only [aF];omega,⟨[0],rfl,by (repeat (first | exact trivial | refine ⟨rfl,?_⟩)),⟨.inr (aE rfl (by rw [cC _ (bG _),bH]) (bG _)),trivial⟩,by decide,kU⟩⟩
    · by_cases hm : a + k < N
      · obtain ⟨r1,r2,rfl,hr1⟩ : ∃ r1 r2,r = r1 ++ r2 ∧ r1.length = k := ⟨r.take k,r.drop k,by simp,by simp;omega⟩
        simp only [aF] at h2;have hc := ZL (2 * k) Q (dR eE r1) (dR eE r2) [] (a := a) (m := a + k) (b := N) (N := N) (by omega) (by rw [iD]; omega) (by rw [iD]; omega) h1.symm (by rw [iD]; omega) (by rw [iD]; omega) (by simp) hl (kJ iN _) (kJ iN _)
          (fun w hw' => hw w (h4 w (by have := (dK eE _).mem_iff.1 hw';simp [this]))) (fun w hw' => hw w (h4 w (by have := (dK eE _).mem_iff.1 hw';simp [this])))
        rw [EB,List.append_nil,List.append_nil,← K1 (k := 2 * k) (l := r1 ++ r2) (by rw [aF];omega),← h3,← K1 (k := k) (l := r2) (by omega),← T9 hr1 (by omega),show ((a + k : Nat) : Int) = (a : Int) + k by omega] at hc
        (repeat' (first|refine wS ?_|refine wE ?_|(refine wC rfl ?_ ?_<;>(intro hb;(try simp only [nm] at hb);try (exfalso;omega)))|(refine rg 9 (dS rfl (vV (iX rfl rfl) ?_)))|(refine rg 13 (dS rfl (vV (bU rfl rfl (by omega) (by omega)) (aV ?_))))|(refine rg 14 (dS rfl (vV (aO rfl rfl) ?_)))|(refine rg 15 (dS rfl (dS rfl (mW rfl (fQ [0] rfl rfl (hc) rfl rfl (by decide) ⟨.inr (aE rfl rfl (bG _)),trivial⟩ (by simp) rfl ?_)))))|(refine rg 16 (mW rfl (vV (xO rfl rfl (by omega) (by omega)) (aV ?_))))|refine nZ ?_));all_goals first | (exfalso;omega) | skip
        exact ⟨⟨2 * k,by omega,by omega⟩,by dsimp only;omega,⟨[0],rfl,⟨rfl,rfl,rfl,by dsimp only;rw [show ((2 * k : Nat) : Int) = (k : Int) * 2 by omega];rfl,trivial⟩,⟨.inr (aE rfl (cC _ (bG _)) (bG _)),trivial⟩,by decide,kU⟩⟩
      · rw [K1 (k := 2 * k) (l := r) (by omega),← K1 (k := k) (l := r) (by omega)] at h3
        rw [← h3]
        (repeat' (first|refine wS ?_|refine wK ?_|refine wE ?_|(refine wC rfl ?_ ?_<;>(intro hb;(try simp only [nm] at hb);try (exfalso;omega)))|(refine rg 9 (dS rfl (vV (iX rfl rfl) ?_)))|(refine rg 13 (dS rfl (vV (bU rfl rfl (by omega) (by omega)) (aV ?_))))|(refine rg 14 (dS rfl (vV (aO rfl rfl) ?_)))|(refine rg 16 (mW rfl (vV (xO rfl rfl (by omega) (by omega)) (aV ?_))))|refine nZ ?_));all_goals first | (exfalso;omega) | skip
        exact ⟨⟨2 * k,by omega,by omega⟩,by dsimp only;omega,⟨[0],rfl,⟨rfl,rfl,rfl,by dsimp only;rw [show ((2 * k : Nat) : Int) = (k : Int) * 2 by omega];rfl,trivial⟩,⟨.inr (aE rfl rfl (bG _)),trivial⟩,by decide,kU⟩⟩
  · rw [K1 (k := k) (l := l) (by omega)]
    (repeat' (first|refine wS ?_|refine wE ?_|(refine wC rfl ?_ ?_<;>(intro hb;(try simp only [nm] at hb);try (exfalso;omega)))|(refine rg 7 (dS rfl (vV (aO rfl rfl) ?_)))|refine nZ ?_));all_goals first | (exfalso;omega) | exact ⟨.inl rfl,[0],_,rfl,rfl,rfl,⟨.inr (aE rfl rfl (bG _)),trivial⟩,by decide,kU⟩ | exact ⟨.inr rfl,[0],_,rfl,rfl,rfl,⟨.inr (aE rfl rfl (bG _)),trivial⟩,by decide,kU⟩
theorem WC (l : List W) {N : Nat} (hN : N = l.length) (hl : N ≤ 100000) (hw : ∀ w,w ∈ l → E6 w) :
    aT Tryz.prog 96 [.sl 0 0 N 3,pS] [.arr (fL l) 3] (.tup []) [.arr (fL (dR eE l)) 3] := by
  have hc := PI l hN hl hw;refine bT T Tryz.func96 rfl rfl rfl rfl ?_
  (repeat' (first|(refine rg 0 (dS rfl (qW T rfl (mW rfl (fQ [0] rfl rfl (hc) rfl rfl (by decide) ⟨.inr (aE rfl rfl (bG _)),trivial⟩ (by simp) rfl ?_)))))|refine nZ ?_));all_goals first | (exfalso;omega) | exact ⟨.inl rfl,[0],_,rfl,rfl,rfl,⟨.inr (aE rfl (cC _ (bG _)) (bG _)),trivial⟩,by decide,kU⟩ | exact ⟨.inr rfl,[0],_,rfl,rfl,rfl,⟨.inr (aE rfl (cC _ (bG _)) (bG _)),trivial⟩,by decide,kU⟩
end Go.Proofs.YtmmkhmilpeodnaaGreat
namespace Go.Ld
open Go.Ab Go.Proofs.YtmmkhmilpeodnaaGreat
abbrev w0 : W := ([],0,[])
def wP (l : List W) : Nat → List W
  | 0 => []
  | m + 1 => if 0 < m ∧ yS (l.getD m w0) (l.getD (m - 1) w0) = true then wP l m else wP l m ++ [l.getD m w0]
theorem IS {l : List W} {m : Nat} (h : 0 < m) (e : yS (l.getD m w0) (l.getD (m - 1) w0) = true) : wP l (m + 1) = wP l m := by
  rw [wP,if_pos ⟨h,e⟩]
theorem IR {l : List W} {m : Nat} (e : yS (l.getD m w0) (l.getD (m - 1) w0) = false) : wP l (m + 1) = wP l m ++ [l.getD m w0] := by
  rw [wP,if_neg (fun q => by rw [e] at q;cases q.2)]
theorem IQ (l : List W) : wP l 1 = [l.getD 0 w0] := by
  rw [wP,if_neg (fun q => Nat.lt_irrefl _ q.1)];rfl
theorem AL (y : W) : ∀ (A : List W) (p : W), jR yS p (A ++ [y]) = jR yS p A ++ (if yS y ((p :: A).getLastD w0) = true then [] else [y])
  | [],p => by
    show (if yS y p = true then [] else [y]) = _
    simp [jR]
  | x :: A,p => by
    rw [List.cons_append,jR,jR,AL y A x];have e : ((p :: x :: A).getLastD w0) = ((x :: A).getLastD w0) := by simp [List.getLastD]
    rw [e];split <;> simp
theorem TE (y : W) (A : List W) (h : A ≠ []) : wO yS (A ++ [y]) = wO yS A ++ (if yS y (A.getLastD w0) = true then [] else [y]) := by
  cases A with
  | nil => exact absurd rfl h
  | cons x A => rw [List.cons_append];show x :: jR yS x (A ++ [y]) = _;rw [AL];rfl
theorem nM {l : List W} {m : Nat} (h : m < l.length) : l.getD m w0 = l[m] := by rw [aC,aA h];rfl
theorem LC (l : List W) : ∀ m, m ≤ l.length → wP l m = wO yS (l.take m)
  | 0,_ => by rw [lY];rfl
  | m + 1,h => by
    have e : l.take (m + 1) = l.take m ++ [l.getD m w0] := by rw [nM (by omega),aQ (by omega)]
    rcases E1 m with rfl | h0
    · rw [IQ,e];rfl
    · have hne : l.take m ≠ [] := fun q => by have := congrArg List.length q;rw [bD,List.length_nil] at this;omega
      rw [e,TE _ _ hne,← LC l m (by omega)]
      have hl : (l.take m).getLastD w0 = l.getD (m - 1) w0 := by
        rw [List.getLastD_eq_getLast?,List.getLast?_eq_getElem?,bD,zF5 (by omega),List.getElem?_take_of_lt (by omega),aC]
      rw [hl];cases hq : yS (l.getD m w0) (l.getD (m - 1) w0) with
      | true => rw [IS h0 hq,if_pos rfl,List.append_nil]
      | false => rw [IR hq,if_neg (by simp)]
theorem zE5 (l : List W) : wP l l.length = wO yS l := by rw [LC l _ (aY _),dD]
theorem zO2 {l : List W} {m i : Nat} (hm : m < l.length) (hi : i = m) : (fL l)[i]? = some (wA (l.getD m w0)) := by
  subst hi;simp [hm]
theorem IZ {G l : List W} {m : Nat} {i : Nat} (hg : G.length ≤ m) (hm : m < l.length) (hi : i = m) : (fL (G ++ l.drop G.length))[i]? = some (wA (l.getD m w0)) := by
  subst hi;rw [bP,aD hg,eA,show G.length + (i - G.length) = i by omega,aA hm,nM hm];rfl
theorem zA6 {G l : List W} {x : W} {j : Int} (h : G.length < l.length) (hj : j = G.length) : (fL (G ++ l.drop G.length)).set (0 + j.toNat) (wA x) = fL ((G ++ [x]) ++ l.drop (G ++ [x]).length) := by
  rw [tW (i := G.length) hj,aS h,mT _ _ _ _ rfl];simp
theorem MY {G l : List W} (h : G.length ≤ l.length) : (fL (G ++ l.drop G.length)).length = l.length := by simp;omega
theorem OX {G : List W} {l : List W} : (fL (G ++ l.drop G.length)).take (0 + (G.length : Int).toNat) = fL G := by
  rw [Nat.zero_add,bQ,← kG,tT]
end Go.Ld
namespace Go.Proofs.YtmmkhmilpeodnaaGreat
open Go Go.Ab Go.Ld
attribute [local irreducible] VC AW bX aT
set_option maxHeartbeats 4000000
abbrev zM4 : AV := .clo (.func 102) [] []
theorem IN (l : List W) (hl : l.length ≤ 1000000) (hw : ∀ w,w ∈ l → E6 w) : aT Tryz.prog 101 [.sl 0 0 l.length 3,zM4] [.arr (fL l) 3] (.sl 0 0 (wO yS l).length 3) [.arr (fL (wO yS l)) 3] := by
  rw [← zE5];have hll : (fL l).length = l.length := eM l;refine bT T Tryz.func101 rfl rfl rfl rfl ?_;by_cases h2 : l.length < 2
  · have hk : wP l l.length = l := by
      match l,h2 with
      | [],_ => rfl
      | [a],_ => exact IQ _
      | _ :: _ :: _,h => exact absurd h (by simp)
    rw [hk]
    (repeat' (first|refine wS ?_|refine wR ?_|(refine wC rfl ?_ ?_<;>(intro hb;(try simp only [nm] at hb);try (exfalso;omega)))|(refine rg 0 (aV ?_))|(refine rg 1 (mW rfl (qW T rfl (vV (aO rfl rfl) ?_))))|(refine rg 2 (mW rfl (aV ?_)))|refine nZ ?_));all_goals first | (exfalso;omega) | exact ⟨.inl rfl,[0],_,rfl,rfl,rfl,⟨.inr (aE rfl rfl (bG _)),trivial⟩,by decide,kU⟩
  · (repeat' (first|refine wS ?_|refine wB ?_|refine wK ?_|(refine wC rfl (fun hb => ?_) (fun hb => ?_) <;> (((try simp only [nm] at hb);try (exfalso;omega))))|(refine rg 0 (aV ?_))|(refine rg 1 (mW rfl (qW T rfl (vV (aO rfl rfl) ?_))))|(refine rg 3 (aV ?_))|(refine nZ ?_)));all_goals try (exfalso;omega)
    refine dB (X := {k : Nat // 1 ≤ k ∧ k ≤ l.length ∧ wP l k = l.take k}) (fun k => [(0,.sl 0 0 l.length 3),(1,zM4),(5,.i k.1)]) (fun _ => [.arr (fL l) 3]) (fun k => l.length - k.1) ⟨1,by omega,by omega,by rw [IQ,nM (by omega),aQ (by omega)];rfl⟩ ⟨[0],rfl,by (repeat (first | exact trivial | refine ⟨rfl,?_⟩)),⟨.inr (aE rfl rfl (bG _)),trivial⟩,by decide,kU⟩ ?_
    rintro ⟨k,hk1,hk,hkc⟩;dsimp only;by_cases hlt : k < l.length
    · have e1 := zO2 (i := 0 + (k : Int).toNat) hlt (by omega)
      have e2 := zO2 (l := l) (m := k - 1) (i := 0 + ((k : Int) - 1).toNat) (by omega) (by omega)
      have hc := Q5 (l.getD k w0) (l.getD (k - 1) w0) (hw _ (by rw [nM hlt];exact aH _)) (hw _ (by rw [nM (by omega)];exact aH _))
      cases hd : yS (l.getD k w0) (l.getD (k - 1) w0) with
      | true =>
        have hc1 := IS (l := l) hk1 hd;rw [hkc] at hc1;rw [hd] at hc;clear hd;generalize l.getD k w0 = a at *;generalize l.getD (k - 1) w0 = b at *
        (repeat' (first|refine wS ?_|refine wB ?_|refine wK ?_|refine wT ?_|(refine wC rfl ?_ ?_<;>(intro hb;(try simp only [nm] at hb);try (exfalso;omega)))|(refine rg 4 (dS rfl (qW T rfl (vV (aO rfl rfl) ?_))))|(refine rD (id := 6) 10 66 zR7 zR8 (rM 18 10) zR9 dA rfl (by decide +kernel) (by decide +kernel) ?_;(dsimp only [List.take,List.drop]);refine dN rfl (dN rfl (dN rfl (dV rfl (by exact aM T rfl rfl rfl rfl rfl (by omega) (by omega)) ?_)));refine dV rfl (by exact aX T rfl rfl (bJ rfl e1) rfl) ?_;refine dN rfl (dN rfl (dV rfl (cQ rfl rfl (by omega) (by omega)) (dV rfl (by exact aM T rfl rfl rfl rfl rfl (by omega) (by omega)) ?_)));refine dV rfl (by exact aX T rfl rfl (bJ rfl e2) rfl) ?_;refine dE ?_;refine gR ?_;refine vV (kC (hc)) ?_)|(refine rg 7 (dS rfl (vV (by exact jX T rfl rfl rfl rfl rfl rfl (by omega) (by omega) (by omega)) ?_));refine aV ?_)|(refine rg 8 (aV ?_))|refine nZ ?_));all_goals try (exfalso;omega)
        have hl1 : (wP l (k + 1)).length = k := by rw [hc1];simp;omega
        refine dB (X := {j : Nat // 1 ≤ j ∧ k + j ≤ l.length ∧ (wP l (k + j)).length + 1 ≤ k + j}) (fun j => [(0,.sl 0 0 l.length 3),(1,zM4),(5,.i (wP l (k + j.1)).length),(6,.sl 0 (0 + (k : Int).toNat) ((l.length : Int) - (k : Int)).toNat 3),(7,.i j.1)]) (fun j => [.arr (fL (wP l (k + j.1) ++ l.drop (wP l (k + j.1)).length)) 3]) (fun j => l.length - (k + j.1)) ⟨1,by omega,by omega,by omega⟩ ⟨[0],rfl,⟨rfl,rfl,by dsimp only;rw [hl1];rfl,rfl,rfl,trivial⟩,⟨.inr (aE rfl (by dsimp only;rw [hl1,hc1,bK]) (bG _)),trivial⟩,by decide,kU⟩ ?_
        clear e1 e2 hl1 hc1 hc a b;rintro ⟨j,hj1,hj,hjc⟩;dsimp only;by_cases hjl : k + j < l.length
        · have e1 := IZ (G := wP l (k + j)) (l := l) (m := k + j) (i := 0 + (k : Int).toNat + (j : Int).toNat) (by omega) hjl (by omega)
          have e2 := IZ (G := wP l (k + j)) (l := l) (m := k + j - 1) (i := 0 + (k : Int).toNat + ((j : Int) - 1).toNat) (by omega) (by omega) (by omega)
          have e3 := IZ (G := wP l (k + j)) (l := l) (m := (wP l (k + j)).length) (i := 0 + (((wP l (k + j)).length : Nat) : Int).toNat) (aY _) (by omega) (by omega)
          have hset := zA6 (G := wP l (k + j)) (l := l) (x := l.getD (k + j) w0) (j := (((wP l (k + j)).length : Nat) : Int)) (by omega) rfl
          have hal := MY (G := wP l (k + j)) (l := l) (by omega)
          have hdup := IS (l := l) (m := k + j) (by omega)
          have hnew := IR (l := l) (m := k + j);have hc := Q5 (l.getD (k + j) w0) (l.getD (k + j - 1) w0) (hw _ (by rw [nM hjl];exact aH _)) (hw _ (by rw [nM (by omega)];exact aH _))
          have hnl : ∀ G : List W,(G ++ [l.getD (k + j) w0]).length = G.length + 1 := fun G => by simp
          rw [show k + j + 1 = k + (j + 1) by omega] at hdup hnew
          generalize l.getD (k + j) w0 = a at *;generalize l.getD (k + j - 1) w0 = b at *;generalize l.getD (wP l (k + j)).length w0 = y at *;generalize wP l (k + j) = G at *;cases hd : yS a b with
          | true =>
            have hdup := hdup hd;rw [hd] at hc;generalize hA : fL (G ++ l.drop G.length) = A at *
            (repeat' (first|refine wS ?_|refine wB ?_|refine wK ?_|refine wU ?_|(refine wC rfl ?_ ?_<;>(intro hb;(try simp only [nm] at hb);try (exfalso;omega)))|(refine rg 9 (dS rfl (qW T rfl (vV (aO rfl rfl) ?_))))|(refine cM (id := 11) 66 zS0 (rM 38 12) zS1 dA rfl (by decide +kernel) (dN rfl (dN rfl (dN rfl (dV rfl (by exact aM T rfl rfl rfl rfl rfl (by omega) (by omega)) ?_))));refine dV rfl (by exact aX T rfl rfl (bJ rfl e1) rfl) ?_;refine dN rfl (dN rfl (dV rfl (cQ rfl rfl (by omega) (by omega)) (dV rfl (by exact aM T rfl rfl rfl rfl rfl (by omega) (by omega)) ?_)));refine dV rfl (by exact aX T rfl rfl (bJ rfl e2) rfl) ?_;refine dV rfl (kC (hc)) (dV rfl (eD rfl) (dE ?_)))|(refine iA 10 rfl rfl rfl (by omega) (by omega) ?_)|refine nZ ?_));all_goals try (exfalso;omega)
            all_goals exact ⟨⟨j + 1,by omega,by omega,by rw [hdup];omega⟩,by dsimp only;omega,[0],rfl,⟨rfl,rfl,by dsimp only;rw [hdup];rfl,rfl,rfl,trivial⟩,⟨.inr (aE rfl (by dsimp only;rw [hdup];exact hA.symm) (bG _)),trivial⟩,by decide,kU⟩
          | false =>
            have hnew := hnew hd;have hgl := hnl G;rw [hd] at hc;generalize hA : fL (G ++ l.drop G.length) = A at *
            (repeat' (first|refine wS ?_|refine wB ?_|refine wK ?_|refine wT ?_|(refine wC rfl ?_ ?_<;>(intro hb;(try simp only [nm] at hb);try (exfalso;omega)))|(refine rg 9 (dS rfl (qW T rfl (vV (aO rfl rfl) ?_))))|(refine cM (id := 11) 66 zS0 (rM 38 12) zS1 dA rfl (by decide +kernel) (dN rfl (dN rfl (dN rfl (dV rfl (by exact aM T rfl rfl rfl rfl rfl (by omega) (by omega)) ?_))));refine dV rfl (by exact aX T rfl rfl (bJ rfl e1) rfl) ?_;refine dN rfl (dN rfl (dV rfl (cQ rfl rfl (by omega) (by omega)) (dV rfl (by exact aM T rfl rfl rfl rfl rfl (by omega) (by omega)) ?_)));refine dV rfl (by exact aX T rfl rfl (bJ rfl e2) rfl) ?_;refine dV rfl (kC (hc)) (dV rfl (eD rfl) (dE ?_)))|(refine rg 12 (dS rfl (dS rfl (vV (by exact aM T rfl rfl rfl rfl rfl (by omega) (by omega)) ?_)));refine vV (by exact aX T rfl rfl (bJ rfl e1) rfl) ?_;refine vV (by exact aM T rfl rfl rfl rfl rfl (by omega) (by omega)) ?_;refine aU T rfl rfl rfl rfl rfl rfl (by decide) (mA rfl e3 rfl) ?_)|(refine iA 13 rfl rfl rfl (by omega) (by omega) ?_)|(refine iA 10 rfl rfl rfl (by omega) (by omega) ?_)|refine nZ ?_));all_goals try (exfalso;omega)
            all_goals exact ⟨⟨j + 1,by omega,by omega,by rw [hnew];omega⟩,by dsimp only;omega,[0],rfl,⟨rfl,rfl,by dsimp only;rw [hnew,hgl];rfl,rfl,rfl,trivial⟩,⟨.inr (aE rfl (by dsimp only;rw [hnew];exact hset) (bG _)),trivial⟩,by decide,kU⟩
        · have hkj : k + j = l.length := by omega
          have hcm : wP l l.length = wP l (k + j) := by rw [hkj]
          have hal := MY (G := wP l (k + j)) (l := l) (by omega)
          have htk := OX (G := wP l (k + j)) (l := l);rw [hcm];generalize wP l (k + j) = G at *
          (repeat' (first|refine wS ?_|refine wR ?_|refine wE ?_|(refine wC rfl ?_ ?_<;>(intro hb;(try simp only [nm] at hb);try (exfalso;omega)))|(refine rg 9 (dS rfl (qW T rfl (vV (aO rfl rfl) ?_))))|(refine rg 14 (dS rfl (vV (by exact jX T rfl rfl rfl rfl rfl rfl (by omega) (by omega) (by omega)) ?_));refine E8 T rfl rfl rfl ⟨rfl,rfl,by decide⟩ rfl (by rw [hal];omega) ?_)|(refine rg 15 (dS rfl (vV (by exact jX T rfl rfl rfl rfl rfl rfl (by omega) (by omega) (by omega)) ?_));refine aV ?_)|refine nZ ?_));all_goals try (exfalso;omega)
          all_goals exact ⟨.inl rfl,[0],_,rfl,(by show AV.sl 0 0 ((G.length : Int) - 0).toNat 3 = AV.sl 0 0 G.length 3;rw [show ((G.length : Int) - 0).toNat = G.length by omega]),rfl,⟨.inr (aE rfl htk (bG _)),trivial⟩,by decide,kU⟩
      | false =>
        have hnew := IR (l := l) hd;rw [hkc,nM hlt,← aQ hlt] at hnew;rw [hd] at hc;clear hd;generalize l.getD k w0 = a at *;generalize l.getD (k - 1) w0 = b at *
        (repeat' (first|refine wS ?_|refine wB ?_|refine wK ?_|refine wU ?_|(refine wC rfl ?_ ?_<;>(intro hb;(try simp only [nm] at hb);try (exfalso;omega)))|(refine rg 4 (dS rfl (qW T rfl (vV (aO rfl rfl) ?_))))|(refine rD (id := 6) 10 66 zR7 zR8 (rM 18 10) zR9 dA rfl (by decide +kernel) (by decide +kernel) ?_;(dsimp only [List.take,List.drop]);refine dN rfl (dN rfl (dN rfl (dV rfl (by exact aM T rfl rfl rfl rfl rfl (by omega) (by omega)) ?_)));refine dV rfl (by exact aX T rfl rfl (bJ rfl e1) rfl) ?_;refine dN rfl (dN rfl (dV rfl (cQ rfl rfl (by omega) (by omega)) (dV rfl (by exact aM T rfl rfl rfl rfl rfl (by omega) (by omega)) ?_)));refine dV rfl (by exact aX T rfl rfl (bJ rfl e2) rfl) ?_;refine dE ?_;refine gR ?_;refine vV (kC (hc)) ?_)|(refine iA 5 rfl rfl rfl (by omega) (by omega) ?_)|refine nZ ?_));all_goals try (exfalso;omega)
        all_goals exact ⟨⟨k + 1,by omega,hlt,hnew⟩,by dsimp only;omega,[0],rfl,by (repeat (first | exact trivial | refine ⟨rfl,?_⟩)),⟨.inr (aE rfl rfl (bG _)),trivial⟩,by decide,kU⟩
    · obtain rfl : k = l.length := by omega
      have hcm : wP l l.length = l := by rw [hkc,dD]
      rw [hcm]
      (repeat' (first|refine wS ?_|refine wR ?_|refine wE ?_|(refine wC rfl ?_ ?_<;>(intro hb;(try simp only [nm] at hb);try (exfalso;omega)))|(refine rg 4 (dS rfl (qW T rfl (vV (aO rfl rfl) ?_))))|(refine rg 16 (mW rfl (aV ?_)))|refine nZ ?_));all_goals first | (exfalso;omega) | exact ⟨.inl rfl,[0],_,rfl,rfl,rfl,⟨.inr (aE rfl rfl (bG _)),trivial⟩,by decide,kU⟩
theorem GD (l : List W) (hl : l.length ≤ 1000000) : aT Tryz.prog 95 [.rowE (fL l) 3] [] (.sl 0 0 l.length 3) [.arr (fL l) 3] := by
  have hll : (fL l).length = l.length := eM l;refine bT T Tryz.func95 rfl rfl rfl rfl ?_
  repeat' (first|refine wS ?_|refine wK ?_|refine wT ?_|refine wU ?_|(refine rg 0 (aV ?_))|(refine rg 1 (mV ?_);refine qN T rfl rfl rfl rfl fun b hb=>?_;cases b)|refine nZ ?_)
  · (repeat' (first|refine wR ?_|(refine rg 3 (bV (by exact bE T rfl rfl (by decide) (by decide) rfl rfl rfl) rfl ?_);refine mW rfl (hO T rfl rfl rfl rfl rfl rfl (by decide) (.row (kP l)) (ZX l) (by simp;omega) (by simp;omega) rfl ?_);refine aV ?_)|(refine nZ ?_)));exact ⟨.inl rfl,[1],_,rfl,(by show AV.sl 1 0 (0 + (fL l).length) 3 = AV.sl 1 0 l.length 3;simp),rfl,⟨.inr (aE rfl rfl (bG _)),trivial⟩,by decide,Q7⟩
  · have hl0 : l = [] := fE.1 (Classical.byContradiction fun h => by have := hb (by omega);cases this)
    subst hl0
    (repeat' (first|refine wR ?_|(refine rg 2 (vV (fF rfl) (tY 2 3 rfl (by decide) ?_)))|refine nZ ?_));exact ⟨.inl rfl,[0],_,rfl,rfl,rfl,⟨.inr (aE rfl rfl (bG _)),trivial⟩,by decide,Q7⟩
theorem gX : ∀ {es : List (List AV)}, (∀ e, e ∈ es → AV.idfL e = true) → AV.idfL es.flatten = true
  | [],_ => rfl
  | e :: es,h => by
    have h1 := h e aR;have h2 := gX (es := es) fun q hq => h q (aN _ hq);rw [eC];generalize es.flatten = F at *;clear h
    induction e with
    | nil => exact h2
    | cons x e ih =>
      simp only [List.cons_append,AV.idfL,aJ] at h1 ⊢;exact ⟨h1.1,ih h1.2⟩
theorem Z1 (l : List W) (hl : l.length ≤ 100000) (hw : ∀ w,w ∈ l → E6 w) : aT Tryz.prog 49 [.rowE (fL l) 3] [] (.rowE (fL (fY l)) 3) [] := by
  refine nB (by simp : (fY l).length = (fL (fY l)).length) (gX (bG _)) ?_
  have h1 := GD l (by omega)
  have h2 := WC l rfl hl hw;have h3 := IN (dR eE l) (by rw [iD];omega) (fun w h => hw w ((dK _ _).mem_iff.1 h))
  rw [iD] at h3;show aT _ _ _ _ (.sl 0 0 (wO yS (dR eE l)).length 3) [.arr (fL (wO yS (dR eE l))) 3];generalize wO yS (dR eE l) = R at *;refine bT T Tryz.func49 rfl rfl rfl rfl ?_
  (repeat' (first|refine wS ?_|refine wR ?_|(refine rg 0 (aV ?_))|(refine rg 1 (mW rfl (bV (by exact fZ rfl rfl h1 (.inr ⟨rfl,rfl,by simp⟩)) rfl ?_));refine aV ?_)|(refine rg 2 (mW rfl (fQ [0] rfl rfl (h2) rfl rfl (by decide) ⟨.inr (aE rfl (cC _ (bG _)) (bG _)),trivial⟩ (by simp) rfl ?_)))|(refine rg 3 (mW rfl (fQ [0] rfl rfl (h3) rfl rfl (by decide) ⟨.inr (aE rfl (cC _ (bG _)) (bG _)),trivial⟩ (by simp) rfl ?_));refine aV ?_)|refine nZ ?_));all_goals exact ⟨.inl rfl,[0],_,rfl,rfl,rfl,⟨.inr (aE rfl (cC _ (bG _)) (bG _)),trivial⟩,by decide,fun i h => absurd h (dW _)⟩
end Go.Proofs.YtmmkhmilpeodnaaGreat
namespace Go.Ab
open Go
mutual
def AV.pln : AV → Bool
  | .v _ => true
  | .any => true
  | .row .. => true
  | .mrow .. => true
  | .pr .. => true
  | .agg cs => AV.plnL cs
  | _ => false
def AV.plnL : List AV → Bool
  | [] => true
  | x :: l => AV.pln x && AV.plnL l
end
mutual
theorem LV {h : Hp} : ∀ (x : AV), x.pln = true → nF h x x
  | .v x,_ => .v x
  | .any,_ => .any
  | .row cs l s,_ => .row cs l s
  | .mrow ks vs,_ => .mrow ks vs
  | .pr cs o,_ => .pr cs o
  | .agg cs,e => .agg (gD cs (by simpa [AV.pln] using e))
  | .ptr ..,e | .ep ..,e | .sl ..,e | .mp ..,e | .tup ..,e | .clo ..,e | .cond ..,e | .ifc ..,e => by simp [AV.pln] at e
theorem gD {h : Hp} : ∀ (xs : List AV), AV.plnL xs = true → kZ h xs xs
  | [],_ => .nil
  | x :: l,e => by
    simp only [AV.plnL,aJ] at e;exact .cons (LV x e.1) (gD l e.2)
end
theorem I5 : ∀ (a b : List AV), AV.plnL (a ++ b) = (AV.plnL a && AV.plnL b)
  | [],b => by simp [AV.plnL]
  | x :: a,b => by simp [AV.plnL,I5 a b,Bool.and_assoc]
theorem sW {α : Type} {g : α → List AV} (hg : ∀ a, AV.plnL (g a) = true) : ∀ l : List α, AV.plnL (l.map g).flatten = true
  | [] => rfl
  | a :: l => by rw [List.map_cons,eC,I5,hg a,sW hg l];rfl
theorem sS {h : Hp} {k n sz : Nat} {es : List (List AV)} (hk : h[k]? = some (.arr es sz)) (hn : n = es.length) (hp : AV.plnL es.flatten = true) : nF h (.sl k 0 n sz) (.rowE es sz) := by
  subst hn;refine nF.sl hk (by omega) ?_
  rw [nS,dD];exact gD _ hp
end Go.Ab
namespace Go.Ld
open Go.Ab Go.Proofs.YtmmkhmilpeodnaaGreat
theorem fX (l : List SP) : (eS l).length = l.length := bC _
theorem eR (l : List SP) : ∀ e,e ∈ eS l → AV.idfL e = true := by intro e he;obtain ⟨i,_,rfl⟩ := bI.1 he;rfl
theorem X8 (l : List SP) : (eS l).flatten.all AV.one = true := by
  induction l with
  | nil => rfl
  | cons x l ih => exact ih
theorem pN {l : List SP} {j : Int} {i : Nat} (h : i < l.length) (e : j = i) : (eS l)[j.toNat]? = some [AV.i (l.getD i (0,0)).1,AV.i (l.getD i (0,0)).2] := by
  subst e;rw [bQ,bP,aA h,aC,aA h];rfl
theorem A5 {l : List SP} {j : Int} {i : Nat} (h : i < l.length) (e : j = i) : (eS l)[0 + j.toNat]? = some [AV.i (l.getD i (0,0)).1,AV.i (l.getD i (0,0)).2] := by
  rw [Nat.zero_add];exact pN h e
theorem O3 {l : List SP} {j : Int} {i : Nat} {r : SP} (e : j = i) : (eS l).set (0 + j.toNat) [AV.i r.1,AV.i r.2] = eS (l.set i r) := by
  subst e;rw [Nat.zero_add,bQ];show _ = List.map (fun p : SP => [AV.i p.1,AV.i p.2]) (l.set i r);rw [zT]
end Go.Ld
namespace Go.Proofs.YtmmkhmilpeodnaaGreat
open Go Go.Ab Go.Ld
attribute [local irreducible] VC AW bX aT
set_option maxHeartbeats 4000000
theorem lB (l : List Nat) : ∀ i : Nat,i < 0 → l[i]? = some i := fun i h => absurd h (dW _)
theorem TF (l : List SP) (hl : l.length ≤ 1000000) : aT Tryz.prog 128 [.rowE (eS l) 2] [] (.sl 0 0 l.length 2) [.arr (eS l) 2] := by
  have hll : (eS l).length = l.length := fX l;refine bT T Tryz.func128 rfl rfl rfl rfl ?_
  repeat' (first|refine wS ?_|refine wK ?_|refine wT ?_|refine wU ?_|(refine rg 0 (aV ?_))|(refine rg 1 (mV ?_);refine qN T rfl rfl rfl rfl fun b hb=>?_;cases b)|refine nZ ?_)
  · (repeat' (first|refine wR ?_|(refine rg 3 (bV (by exact bE T rfl rfl (by decide) (by decide) rfl rfl rfl) rfl ?_);refine mW rfl (hO T rfl rfl rfl rfl rfl rfl (by decide) (.row (iO l)) (X8 l) (by simp;omega) (by simp;omega) rfl ?_);refine aV ?_)|(refine nZ ?_)));exact ⟨.inl rfl,[1],_,rfl,(by show AV.sl 1 0 (0 + (eS l).length) 2 = AV.sl 1 0 l.length 2;simp),rfl,⟨.inr (aE rfl rfl (eR _)),trivial⟩,by decide,lB _⟩
  · have hl0 : l = [] := fE.1 (Classical.byContradiction fun h => by have := hb (by omega);cases this)
    subst hl0
    (repeat' (first|refine wR ?_|(refine rg 2 (vV (fF rfl) (tY 2 2 rfl (by decide) ?_)))|refine nZ ?_));exact ⟨.inl rfl,[0],_,rfl,rfl,rfl,⟨.inr (aE rfl rfl (eR _)),trivial⟩,by decide,lB _⟩
theorem CN (w : W) (hw : E6 w) : aT Tryz.prog 91 [HI w] [] (.agg [.sl 0 0 w.1.length 1,.i w.2.1,.sl 1 0 w.2.2.length 2]) [.arr (ints w.1) 1,.arr (eS w.2.2) 2] := by
  obtain ⟨p,m,c⟩ := w;have h1 := CO p (by have := hw.1;dsimp only at this;omega)
  have h2 := TF c hw.2;dsimp only;refine bT T Tryz.func91 rfl rfl rfl rfl ?_
  (repeat' (first|refine wS ?_|refine wR ?_|(refine rg 0 (bV (cO rfl rfl) rfl (bV (bN T rfl) rfl ?_)))|(refine cM (id := 1) 12 [[],[0],[0,1],[],[3],[],[5],[0,1,2,5,6],rN 8] (rM 3 9) [[],[],[],[3,4,5],[3,4,5],rM 3 5,rM 3 5,[6,7],[]] dA rfl (by decide +kernel) (dP T rfl (dO T rfl (zM rfl rfl rfl (by exact fZ rfl rfl h1 (.inr ⟨rfl,rfl,by simp⟩)) rfl ?_)));refine dP T rfl (dO T rfl (dP T rfl (dO T rfl (zM rfl rfl rfl (by exact fZ rfl rfl h2 (.inr ⟨rfl,rfl,by simp⟩)) rfl ?_))));refine dV rfl (by exact eW T rfl rfl rfl rfl) ?_;refine dE ?_;refine aU T rfl rfl rfl rfl rfl rfl (by decide) rfl ?_)|refine nZ ?_));all_goals exact ⟨.inl rfl,[2,3],_,rfl,rfl,rfl,⟨.inr (aE rfl (cC _ (bS p)) (bS p)),.inr (aE rfl (cC _ (eR c)) (eR c)),trivial⟩,by decide,lB _⟩
theorem N7 {h : Hp} {k n : Nat} {l : List SP} (hk : h[k]? = some (.arr (eS l) 2)) (hn : n = l.length) : nF h (.sl k 0 n 2) (.rowE (eS l) 2) := sS hk (by rw [hn,fX]) (sW (fun _ => rfl) _)
theorem zD7 (w : W) {i k : Nat} (hw : E6 w) (hi : i < w.1.length) (hk : k < w.1.length) (hc : w.2.2.length = w.1.length) :
    aT Tryz.prog 48 [HI w,.i i,.i k] [] (.agg [.sl 0 0 w.1.length 1,.i w.2.1,.sl 1 0 w.2.2.length 2]) [.arr (ints (nP w i k).1) 1,.arr (eS (nP w i k).2.2) 2] := by
  have hcl := CN w hw;obtain ⟨p,m,c⟩ := w;have hw1 := hw.1;have hw2 := hw.2;dsimp only at hi hk hc hcl hw1 hw2;have p1 := B9 (l := p) (j := (i : Int)) (i := i) 0 hi rfl;have p2 := B9 (l := p) (j := (k : Int)) (i := k) 0 hk rfl;have ps := KP (l := p) (j := (i : Int)) (i := i) (x := p.getD k 0) rfl;have p3 := B9 (l := p.set i (p.getD k 0)) (j := (k : Int)) (i := k) 0 (by simpa using hk) rfl
  have pt := KP (l := p.set i (p.getD k 0)) (j := (k : Int)) (i := k) (x := p.getD i 0) rfl;have c1 := A5 (l := c) (j := (i : Int)) (i := i) (by omega) rfl
  have c2 := A5 (l := c) (j := (k : Int)) (i := k) (by omega) rfl
  have cs := O3 (l := c) (j := (i : Int)) (i := i) (r := c.getD k (0,0)) rfl;have c3 := A5 (l := c.set i (c.getD k (0,0))) (j := (k : Int)) (i := k) (by rw [gH];omega) rfl
  have ct := O3 (l := c.set i (c.getD k (0,0))) (j := (k : Int)) (i := k) (r := c.getD i (0,0)) rfl;show aT _ _ _ _ _ [.arr (ints ((p.set i (p.getD k 0)).set k (p.getD i 0))) 1,.arr (eS ((c.set i (c.getD k (0,0))).set k (c.getD i (0,0)))) 2];have hlp : (ints p).length = p.length := cT _;have hlc : (eS c).length = c.length := fX _;dsimp only;refine bT T Tryz.func48 rfl rfl rfl rfl ?_
  (repeat' (first|refine wS ?_|(refine rg 0 (bV (cO rfl rfl) rfl (bV (bN T rfl) rfl ?_)))|(refine rg 1 (lW T rfl (bV (by exact fZ rfl rfl hcl (.inr ⟨rfl,rfl,by simp⟩)) rfl ?_));refine aU T rfl rfl rfl rfl rfl rfl (by decide) rfl ?_)|refine nZ ?_));refine fA [(1,.i i),(2,.i k),(3,.ptr 0 0),(6,.ptr 1 0)] [.cells [.sl 2 0 p.length 1,.i m,.sl 3 0 c.length 2],.cells [.nils,.i 0,.nils],.arr (ints p) 1,.arr (eS c) 2] ⟨[0,1,2,3],rfl,(by repeat first|exact trivial|refine ⟨rfl,?_⟩),⟨.inr rfl,.inr rfl,.inr (aE rfl (cC _ (bS p)) (bS p)),.inr (aE rfl (cC _ (eR c)) (eR c)),trivial⟩,by decide,lB _⟩ ?_
  rw [← ps] at p3 pt;rw [← cs] at c3 ct;generalize p.getD k 0 = x at *;generalize p.getD i 0 = y at *;generalize c.getD k (0,0) = r at *;generalize c.getD i (0,0) = q at *
  (repeat' (first|refine wS ?_|refine wR ?_|(refine mX (id := 2) 46 zS2 (rM 9 17) [[],[],[9,10],[9,10,11],[9,10,11],rM 9 5,rM 9 6,rM 9 6,rM 9 8,rM 9 6,rM 9 6,rM 9 11,rM 9 11,rM 9 13,rM 9 11,rM 9 11,[12,13,14],[12,13,14]] [(17,2)] dA rfl (by decide +kernel) (cH rfl rfl rfl rfl (by exact bZ T rfl rfl rfl) ?_);refine cH rfl rfl rfl rfl (by exact aX T rfl rfl rfl rfl) ?_;refine cH rfl rfl rfl rfl (by exact bW rfl) ?_;refine cH rfl rfl rfl rfl (by exact bZ T rfl rfl rfl) ?_;refine cH rfl rfl rfl rfl (by exact aX T rfl rfl rfl rfl) ?_;refine cH rfl rfl rfl rfl (by exact bW rfl) ?_;refine cH rfl rfl rfl rfl (by exact bZ T rfl rfl rfl) ?_;refine cH rfl rfl rfl rfl (by exact aX T rfl rfl rfl rfl) ?_;refine cH rfl rfl rfl rfl (by exact bW rfl) ?_;refine cH rfl rfl rfl rfl (by exact aM T rfl rfl rfl rfl rfl (by omega) (by omega)) ?_;refine cH rfl rfl rfl rfl (by exact aX T rfl rfl (bJ rfl p2) rfl) ?_;refine cH rfl rfl rfl rfl (by exact bZ T rfl rfl rfl) ?_;refine cH rfl rfl rfl rfl (by exact aX T rfl rfl rfl rfl) ?_;refine cH rfl rfl rfl rfl (by exact bW rfl) ?_;refine cH rfl rfl rfl rfl (by exact aM T rfl rfl rfl rfl rfl (by omega) (by omega)) ?_;refine cH rfl rfl rfl rfl (by exact aX T rfl rfl (bJ rfl p1) rfl) ?_;refine cH rfl rfl rfl rfl (by exact aM T rfl rfl rfl rfl rfl (by omega) (by omega)) ?_;refine uM rfl rfl rfl rfl (aP rfl) T rfl rfl rfl rfl rfl rfl (by decide) (tZ rfl p1 rfl) ?_;refine qF rfl rfl rfl (by exact rfl) ?_;refine vV (by exact aM T rfl rfl rfl rfl rfl (by omega) (by omega)) ?_;refine aU T rfl rfl rfl rfl rfl rfl (by decide) (mA rfl p3 rfl) ?_)|(refine mX (id := 3) 46 zS2 (rM 27 17) [[],[],[27,28],[27,28,29],[27,28,29],rM 27 5,rM 27 6,rM 27 6,rM 27 8,rM 27 6,rM 27 6,rM 27 11,rM 27 11,rM 27 13,rM 27 11,rM 27 11,[30,31,32],[30,31,32]] [(17,3)] dA rfl (by decide +kernel) (cH rfl rfl rfl rfl (by exact bZ T rfl rfl rfl) ?_);refine cH rfl rfl rfl rfl (by exact aX T rfl rfl rfl rfl) ?_;refine cH rfl rfl rfl rfl (by exact bW rfl) ?_;refine cH rfl rfl rfl rfl (by exact bZ T rfl rfl rfl) ?_;refine cH rfl rfl rfl rfl (by exact aX T rfl rfl rfl rfl) ?_;refine cH rfl rfl rfl rfl (by exact bW rfl) ?_;refine cH rfl rfl rfl rfl (by exact bZ T rfl rfl rfl) ?_;refine cH rfl rfl rfl rfl (by exact aX T rfl rfl rfl rfl) ?_;refine cH rfl rfl rfl rfl (by exact bW rfl) ?_;refine cH rfl rfl rfl rfl (by exact aM T rfl rfl rfl rfl rfl (by omega) (by omega)) ?_;refine cH rfl rfl rfl rfl (by exact aX T rfl rfl (bJ rfl c2) rfl) ?_;refine cH rfl rfl rfl rfl (by exact bZ T rfl rfl rfl) ?_;refine cH rfl rfl rfl rfl (by exact aX T rfl rfl rfl rfl) ?_;refine cH rfl rfl rfl rfl (by exact bW rfl) ?_;refine cH rfl rfl rfl rfl (by exact aM T rfl rfl rfl rfl rfl (by omega) (by omega)) ?_;refine cH rfl rfl rfl rfl (by exact aX T rfl rfl (bJ rfl c1) rfl) ?_;refine cH rfl rfl rfl rfl (by exact aM T rfl rfl rfl rfl rfl (by omega) (by omega)) ?_;refine uM rfl rfl rfl rfl (aP rfl) T rfl rfl rfl rfl rfl rfl (by decide) (tZ rfl c1 rfl) ?_;refine qF rfl rfl rfl (by exact rfl) ?_;refine vV (by exact aM T rfl rfl rfl rfl rfl (by omega) (by omega)) ?_;refine aU T rfl rfl rfl rfl rfl rfl (by decide) (mA rfl c3 rfl) ?_)|(refine rg 4 (vV (aX T rfl rfl rfl rfl) (aU T rfl rfl rfl rfl rfl rfl (by decide) rfl ?_)))|refine nZ ?_));all_goals exact ⟨.inl rfl,[2,3],_,rfl,rfl,rfl,⟨.inr (aE rfl pt (bS _)),.inr (aE rfl ct (eR _)),trivial⟩,by decide,lB _⟩
theorem zD8 (w : W) {i k : Nat} (hw : E6 w) (hi : i < w.1.length) (hk : k < w.1.length) (hc : w.2.2.length = w.1.length) : aT Tryz.prog 48 [HI w,.i i,.i k] [] (HI (nP w i k)) [] :=
  zR (zD7 w hw hi hk hc) (.agg (.cons (E7 rfl (by simp [nP])) (.cons (.v _) (.cons (N7 rfl (by simp [nP])) .nil))))
theorem RP (a b : W) : aT Tryz.prog 138 [HI a,HI b] [] (.i (cI a.2.1 b.2.1)) [] := by
  have h := AK a.2.1 b.2.1;refine bT T Tryz.func138 rfl rfl rfl rfl ?_
  (repeat' (first|refine wS ?_|refine wR ?_|(refine rg 0 (bV (cO rfl rfl) rfl (bV (cO rfl rfl) rfl (aV ?_))))|(refine rg 1 (iP T rfl (iP T rfl (vV (kC (h)) (aV ?_)))))|refine nZ ?_));all_goals first | (exfalso;omega) | exact rQ
end Go.Proofs.YtmmkhmilpeodnaaGreat
namespace Go.Ld
open Go.Ab Go.Proofs.YtmmkhmilpeodnaaGreat
def qY {α : Type} (p : α → Bool) : List α → Nat → Int
  | [],_ => -1
  | x :: l,k => if p x = true then k else qY p l (k + 1)
theorem BT {α : Type} {p : α → Bool} {l : List α} {k : Nat} (h : k < l.length) : qY p (l.drop k) k = if p l[k] = true then (k : Int) else qY p (l.drop (k + 1)) (k + 1) := by
  rw [aS h];rfl
theorem R7 {α : Type} {p : α → Bool} {l : List α} {k : Nat} (h : l.length ≤ k) : qY p (l.drop k) k = -1 := by
  rw [cW h];rfl
theorem C1 {α : Type} (p : α → Bool) : ∀ (l : List α) (k : Nat), decide (qY p l k ≥ 0) = l.any p
  | [],k => by simp [qY]
  | x :: l,k => by
    unfold qY;split
    · rename_i h;simp [h]
    · rename_i h;rw [C1 p l (k + 1)];simp [h]
theorem AA {α : Type} (p : α → Bool) : ∀ (l : List α) (k : Nat), qY p l k = match l.findIdx? p with
    | some i => ((k + i : Nat) : Int)
    | none => -1
  | [],k => by simp [qY]
  | x :: l,k => by
    unfold qY;rw [List.findIdx?_cons];by_cases h : p x = true
    · rw [if_pos h,if_pos h];simp
    · rw [if_neg h,if_neg h,AA p l (k + 1)];cases l.findIdx? p with
      | none => rfl
      | some i => show ((k + 1 + i : Nat) : Int) = ((k + (i + 1) : Nat) : Int);omega
theorem oT (l : List G) : ∀ e,e ∈ iW l → e.length = 2 := by intro e he;obtain ⟨n,_,rfl⟩ := bI.1 he;rfl
theorem iV (l : List G) : (iW l).length = l.length := bC _
theorem SI (l : List G) : (iW l).flatten.all AV.one = true := by
  induction l with
  | nil => rfl
  | cons x l ih => exact ih
theorem dX (l : List G) : ∀ e,e ∈ iW l → AV.idfL e = true := by intro e he;obtain ⟨x,_,rfl⟩ := bI.1 he;rfl
end Go.Ld
namespace Go.Proofs.YtmmkhmilpeodnaaGreat
open Go Go.Ab Go.Ld
attribute [local irreducible] VC AW bX aT
set_option maxHeartbeats 4000000
abbrev OK (g : G) : AV := .agg (gA g)
theorem pZ {l : List W} {k : Nat} (h : k < l.length) : (fL l)[(k : Int).toNat]? = some (wA l[k]) := by simp [h]
theorem M8 {l : List G} {k : Nat} (h : k < l.length) : (iW l)[(k : Int).toNat]? = some (gA l[k]) := by simp [h]
theorem KO {l : List Int} {k : Nat} (h : k < l.length) : (ints l)[(k : Int).toNat]? = some [AV.i l[k]] := by simp [h]
theorem RU {l : List W} {F : FuncId} {caps : List AV} {p : W → Bool} (hl : l.length ≤ 1000000) (hi : AV.idfL caps = true) (hF : ∀ x,x ∈ l → aT Tryz.prog F (.agg (wA x) :: caps) [] (.b (p x)) []) :
    aT Tryz.prog 139 [.rowE (fL l) 3,.clo (.func F) [] caps] [] (.i (qY p l 0)) [] := by
  have hlen : (fL l).length = l.length := bC _;refine bT T Tryz.func139 rfl rfl rfl rfl ?_
  (repeat' (first|refine wS ?_|refine wB ?_|(refine rg 0 (aV ?_))|(refine rg 1 (mW rfl (qW T rfl (mV ?_))))|refine nZ ?_));refine dB (X := {k : Nat // k ≤ l.length ∧ qY p l 0 = qY p (l.drop k) k}) (fun k => [(0,.rowE (fL l) 3),(1,.clo (.func F) [] caps),(7,.i (fL l).length),(8,.i k.1)]) (fun _ => []) (fun k => l.length - k.1) ⟨0,by simp,rfl⟩ ⟨[],rfl,⟨rfl,by rw [lH hi];rfl,rfl,rfl,trivial⟩,trivial,cX,fun _ h => absurd h (dW _)⟩ ?_
  rintro ⟨k,hk,he⟩;dsimp only;by_cases hlt : k < l.length
  · have hc := hF l[k] (aH hlt);have hg := pZ (l := l) hlt;rw [BT hlt] at he;generalize l[k] = y at *;cases hp : p y with
    | true =>
      rw [hp] at hc;rw [hp,if_pos rfl] at he
      (repeat' (first|refine wS ?_|refine wB ?_|refine wK ?_|refine wR ?_|refine wT ?_|(refine wC rfl ?_ ?_<;>(intro hb;(try simp only [nm] at hb);try (exfalso;omega)))|(refine rg 2 (vV (aO rfl rfl) ?_))|(refine rg 3 (mW rfl (aV ?_)))|(refine rg 4 (dS rfl (mW rfl (vV (ix T rfl (by omega) (kP l) hg) (lW T rfl (vV (by exact eV rfl rfl hc rfl (by simp [AV.idfL,AV.idf,hi]) rfl) ?_))))))|(refine rg 5 (mW rfl (aV ?_)))|refine nZ ?_));all_goals first | (exfalso;omega) | exact cY (.inl rfl) rfl (by rw [he];rfl)
    | false =>
      rw [hp] at hc;rw [hp,if_neg (by simp)] at he
      (repeat' (first|refine wS ?_|refine wB ?_|refine wK ?_|refine wU ?_|(refine wC rfl ?_ ?_<;>(intro hb;(try simp only [nm] at hb);try (exfalso;omega)))|(refine rg 2 (vV (aO rfl rfl) ?_))|(refine rg 3 (mW rfl (aV ?_)))|(refine rg 4 (dS rfl (mW rfl (vV (ix T rfl (by omega) (kP l) hg) (lW T rfl (vV (by exact eV rfl rfl hc rfl (by simp [AV.idfL,AV.idf,hi]) rfl) ?_))))))|(refine rg 6 (vV (bU rfl rfl (by omega) (by omega)) (mV ?_)))|refine nZ ?_));all_goals first | (exfalso;omega) | exact ⟨⟨k + 1,hlt,he⟩,by dsimp only;omega,⟨[],rfl,⟨rfl,by rw [lH hi];rfl,rfl,rfl,trivial⟩,trivial,cX,fun _ h => absurd h (dW _)⟩⟩
  · rw [R7 (by omega)] at he
    (repeat' (first|refine wS ?_|refine wR ?_|refine wE ?_|(refine wC rfl ?_ ?_<;>(intro hb;(try simp only [nm] at hb);try (exfalso;omega)))|(refine rg 2 (vV (aO rfl rfl) ?_))|(refine rg 7 (aV ?_))|refine nZ ?_));all_goals first | (exfalso;omega) | exact cY (.inl rfl) rfl (by rw [he];rfl)
theorem zC3 {l : List W} {F : FuncId} {caps : List AV} {p : W → Bool} (hl : l.length ≤ 1000000) (hi : AV.idfL caps = true) (hF : ∀ x,x ∈ l → aT Tryz.prog F (.agg (wA x) :: caps) [] (.b (p x)) []) :
    aT Tryz.prog 140 [.rowE (fL l) 3,.clo (.func F) [] caps] [] (.b (l.any p)) [] := by
  have hc := RU hl hi hF;rw [← C1 p l 0];refine bT T Tryz.func140 rfl rfl rfl rfl ?_
  (repeat' (first|refine wS ?_|refine wR ?_|(refine rg 0 (aV ?_))|(refine rg 1 (dS rfl (vV (by exact eV rfl rfl hc rfl (by simp [AV.idfL,AV.idf,hi]) rfl) ?_));refine vV (jE rfl rfl) (aV ?_))|refine nZ ?_));all_goals first | (exfalso;omega) | exact rQ
theorem ZO {l : List G} {F : FuncId} {caps : List AV} {p : G → Bool} (hl : l.length ≤ 1000000) (hi : AV.idfL caps = true) (hF : ∀ x,x ∈ l → aT Tryz.prog F (.agg (gA x) :: caps) [] (.b (p x)) []) :
    aT Tryz.prog 89 [.rowE (iW l) 2,.clo (.func F) [] caps] [] (.i (qY p l 0)) [] := by
  have hlen : (iW l).length = l.length := bC _;refine bT T Tryz.func89 rfl rfl rfl rfl ?_
  (repeat' (first|refine wS ?_|refine wB ?_|(refine rg 0 (aV ?_))|(refine rg 1 (mW rfl (qW T rfl (mV ?_))))|refine nZ ?_));refine dB (X := {k : Nat // k ≤ l.length ∧ qY p l 0 = qY p (l.drop k) k}) (fun k => [(0,.rowE (iW l) 2),(1,.clo (.func F) [] caps),(7,.i (iW l).length),(8,.i k.1)]) (fun _ => []) (fun k => l.length - k.1) ⟨0,by simp,rfl⟩ ⟨[],rfl,⟨rfl,by rw [lH hi];rfl,rfl,rfl,trivial⟩,trivial,cX,fun _ h => absurd h (dW _)⟩ ?_
  rintro ⟨k,hk,he⟩;dsimp only;by_cases hlt : k < l.length
  · have hc := hF l[k] (aH hlt);have hg := M8 (l := l) hlt;rw [BT hlt] at he;generalize l[k] = y at *;cases hp : p y with
    | true =>
      rw [hp] at hc;rw [hp,if_pos rfl] at he
      (repeat' (first|refine wS ?_|refine wB ?_|refine wK ?_|refine wR ?_|refine wT ?_|(refine wC rfl ?_ ?_<;>(intro hb;(try simp only [nm] at hb);try (exfalso;omega)))|(refine rg 2 (vV (aO rfl rfl) ?_))|(refine rg 3 (mW rfl (aV ?_)))|(refine rg 4 (dS rfl (mW rfl (vV (ix T rfl (by omega) (oT l) hg) (lW T rfl (vV (by exact eV rfl rfl hc rfl (by simp [AV.idfL,AV.idf,hi]) rfl) ?_))))))|(refine rg 5 (mW rfl (aV ?_)))|refine nZ ?_));all_goals first | (exfalso;omega) | exact cY (.inl rfl) rfl (by rw [he];rfl)
    | false =>
      rw [hp] at hc;rw [hp,if_neg (by simp)] at he
      (repeat' (first|refine wS ?_|refine wB ?_|refine wK ?_|refine wU ?_|(refine wC rfl ?_ ?_<;>(intro hb;(try simp only [nm] at hb);try (exfalso;omega)))|(refine rg 2 (vV (aO rfl rfl) ?_))|(refine rg 3 (mW rfl (aV ?_)))|(refine rg 4 (dS rfl (mW rfl (vV (ix T rfl (by omega) (oT l) hg) (lW T rfl (vV (by exact eV rfl rfl hc rfl (by simp [AV.idfL,AV.idf,hi]) rfl) ?_))))))|(refine rg 6 (vV (bU rfl rfl (by omega) (by omega)) (mV ?_)))|refine nZ ?_));all_goals first | (exfalso;omega) | exact ⟨⟨k + 1,hlt,he⟩,by dsimp only;omega,⟨[],rfl,⟨rfl,by rw [lH hi];rfl,rfl,rfl,trivial⟩,trivial,cX,fun _ h => absurd h (dW _)⟩⟩
  · rw [R7 (by omega)] at he
    (repeat' (first|refine wS ?_|refine wR ?_|refine wE ?_|(refine wC rfl ?_ ?_<;>(intro hb;(try simp only [nm] at hb);try (exfalso;omega)))|(refine rg 2 (vV (aO rfl rfl) ?_))|(refine rg 7 (aV ?_))|refine nZ ?_));all_goals first | (exfalso;omega) | exact cY (.inl rfl) rfl (by rw [he];rfl)
theorem zC6 {l : List G} {F : FuncId} {caps : List AV} {p : G → Bool} (hl : l.length ≤ 1000000) (hi : AV.idfL caps = true) (hF : ∀ x,x ∈ l → aT Tryz.prog F (.agg (gA x) :: caps) [] (.b (p x)) []) :
    aT Tryz.prog 51 [.rowE (iW l) 2,.clo (.func F) [] caps] [] (.b (l.any p)) [] := by
  have hc := ZO hl hi hF;rw [← C1 p l 0];refine bT T Tryz.func51 rfl rfl rfl rfl ?_
  (repeat' (first|refine wS ?_|refine wR ?_|(refine rg 0 (aV ?_))|(refine rg 1 (dS rfl (vV (by exact eV rfl rfl hc rfl (by simp [AV.idfL,AV.idf,hi]) rfl) ?_));refine vV (jE rfl rfl) (aV ?_))|refine nZ ?_));all_goals first | (exfalso;omega) | exact rQ
theorem zI9 {l : List Int} {F : FuncId} {caps : List AV} {p : Int → Bool} (hl : l.length ≤ 1000000) (hi : AV.idfL caps = true) (hF : ∀ x,x ∈ l → aT Tryz.prog F (.i x :: caps) [] (.b (p x)) []) :
    aT Tryz.prog 117 [.rowE (ints l) 1,.clo (.func F) [] caps] [] (.i (qY p l 0)) [] := by
  have hlen : (ints l).length = l.length := bC _;refine bT T Tryz.func117 rfl rfl rfl rfl ?_
  (repeat' (first|refine wS ?_|refine wB ?_|(refine rg 0 (aV ?_))|(refine rg 1 (mW rfl (qW T rfl (mV ?_))))|refine nZ ?_));refine dB (X := {k : Nat // k ≤ l.length ∧ qY p l 0 = qY p (l.drop k) k}) (fun k => [(0,.rowE (ints l) 1),(1,.clo (.func F) [] caps),(7,.i (ints l).length),(8,.i k.1)]) (fun _ => []) (fun k => l.length - k.1) ⟨0,by simp,rfl⟩ ⟨[],rfl,⟨rfl,by rw [lH hi];rfl,rfl,rfl,trivial⟩,trivial,cX,fun _ h => absurd h (dW _)⟩ ?_
  rintro ⟨k,hk,he⟩;dsimp only;by_cases hlt : k < l.length
  · have hc := hF l[k] (aH hlt);have hg := KO (l := l) hlt;rw [BT hlt] at he;generalize l[k] = y at *;cases hp : p y with
    | true =>
      rw [hp] at hc;rw [hp,if_pos rfl] at he
      (repeat' (first|refine wS ?_|refine wB ?_|refine wK ?_|refine wR ?_|refine wT ?_|(refine wC rfl ?_ ?_<;>(intro hb;(try simp only [nm] at hb);try (exfalso;omega)))|(refine rg 2 (vV (aO rfl rfl) ?_))|(refine rg 3 (mW rfl (aV ?_)))|(refine rg 4 (dS rfl (mW rfl (vV (ix T rfl (by omega) (cN l) hg) (lW T rfl (vV (by exact eV rfl rfl hc rfl (by simp [AV.idfL,AV.idf,hi]) rfl) ?_))))))|(refine rg 5 (mW rfl (aV ?_)))|refine nZ ?_));all_goals first | (exfalso;omega) | exact cY (.inl rfl) rfl (by rw [he];rfl)
    | false =>
      rw [hp] at hc;rw [hp,if_neg (by simp)] at he
      (repeat' (first|refine wS ?_|refine wB ?_|refine wK ?_|refine wU ?_|(refine wC rfl ?_ ?_<;>(intro hb;(try simp only [nm] at hb);try (exfalso;omega)))|(refine rg 2 (vV (aO rfl rfl) ?_))|(refine rg 3 (mW rfl (aV ?_)))|(refine rg 4 (dS rfl (mW rfl (vV (ix T rfl (by omega) (cN l) hg) (lW T rfl (vV (by exact eV rfl rfl hc rfl (by simp [AV.idfL,AV.idf,hi]) rfl) ?_))))))|(refine rg 6 (vV (bU rfl rfl (by omega) (by omega)) (mV ?_)))|refine nZ ?_));all_goals first | (exfalso;omega) | exact ⟨⟨k + 1,hlt,he⟩,by dsimp only;omega,⟨[],rfl,⟨rfl,by rw [lH hi];rfl,rfl,rfl,trivial⟩,trivial,cX,fun _ h => absurd h (dW _)⟩⟩
  · rw [R7 (by omega)] at he
    (repeat' (first|refine wS ?_|refine wR ?_|refine wE ?_|(refine wC rfl ?_ ?_<;>(intro hb;(try simp only [nm] at hb);try (exfalso;omega)))|(refine rg 2 (vV (aO rfl rfl) ?_))|(refine rg 7 (aV ?_))|refine nZ ?_));all_goals first | (exfalso;omega) | exact cY (.inl rfl) rfl (by rw [he];rfl)
theorem SH {l : List Int} {F : FuncId} {caps : List AV} {p : Int → Bool} (hl : l.length ≤ 1000000) (hi : AV.idfL caps = true) (hF : ∀ x,x ∈ l → aT Tryz.prog F (.i x :: caps) [] (.b (p x)) []) :
    aT Tryz.prog 61 [.rowE (ints l) 1,.clo (.func F) [] caps] [] (.b (l.any p)) [] := by
  have hc := zI9 hl hi hF;rw [← C1 p l 0];refine bT T Tryz.func61 rfl rfl rfl rfl ?_
  (repeat' (first|refine wS ?_|refine wR ?_|(refine rg 0 (aV ?_))|(refine rg 1 (dS rfl (vV (by exact eV rfl rfl hc rfl (by simp [AV.idfL,AV.idf,hi]) rfl) ?_));refine vV (jE rfl rfl) (aV ?_))|refine nZ ?_));all_goals first | (exfalso;omega) | exact rQ
end Go.Proofs.YtmmkhmilpeodnaaGreat
namespace Go.Ab
open Go
def oM (L : List Nat) (pos k : Nat) : Nat := match L[k]? with
  | some j => j
  | none => pos
theorem HS.callP {c : nH} {ρ ρ' : Pl} {S S' : Nat → Prop} {H hin hout : Hp} {w w' : World} {L : List Nat} {pos : Nat} {b1 : AB} (s : HS c ρ S H w) (hL : L.length = hin.length) (hnd : L.Nodup) (hh : rI (th L H.length) H 0 hin) (hng : ∀ b, b ∈ hin → b ≠ .gone)
    (hlen : hout.length = hin.length) (hp0 : ρ pos = Option.none) (hp1 : H[pos]? = some .gone) (hpm : c.m ≤ pos)
    (hs : HS (mU w (fun k => ρ (th L H.length k)) S hin) ρ' S' (hout ++ [b1]) w') :
    ∃ ρ3 : Pl,HS c ρ3 S' ((vU H L (hout.map (AB.map (oM L pos)))).set pos (b1.map (oM L pos))) w' ∧ gY ρ ρ3 S S' w w' ∧ (∀ {x : AV} {y : Value},R S' w' x ρ' y → R S' w' (x.map (oM L pos)) ρ3 y) ∧ ∀ j,j ≠ pos → ρ3 j = ρ j := by
  have hin_at : ∀ {i : Nat} {b : AB},hin[i]? = some b → ∃ j,L[i]? = some j ∧ j < H.length ∧ H[j]? = some (b.map (th L H.length)) ∧ b.map (th L H.length) ≠ .gone := fun {i b} hb => by
    have hne := hng b (aL hb);have hlt : i < L.length := by rw [hL];exact (aB.1 hb).1
    have hj := aA hlt;have hth : th L H.length i = L[i] := by simp [th,hj]
    rcases hh.get i b hb with hg | hg
    · exact absurd hg hne
    · rw [Nat.zero_add,hth] at hg;exact ⟨L[i],hj,(aB.1 hg).1,hg,by cases b <;> simp [AB.map] at * ⟩
  have thL : ∀ {i j : Nat},L[i]? = some j → th L H.length i = j := fun hi => by simp [th,hi]
  have keep : ∀ {i j : Nat},i < hin.length → L[i]? = some j → ρ' i = ρ j := fun {i j} hi hj => by
    have := hs.keep i hi;simp only [mU] at this;rw [this,thL hj]
  have hM : ∀ b,(mU w (fun k => ρ (th L H.length k)) S hin).M b → w.heap.size ≤ b ∨ ∃ (i j : Nat) (o : Nat) (x : AB),hin[i]? = some x ∧ L[i]? = some j ∧ ρ j = some (b,o) := fun b hb => by
    rcases hb with hb | ⟨k,x,o,hb,_,hp⟩
    · exact .inl hb
    · obtain ⟨j,h3,_⟩ := hin_at hb;exact .inr ⟨k,j,o,x,hb,h3,by rw [← thL h3];exact hp⟩
  have hcM : ∀ b,(mU w (fun k => ρ (th L H.length k)) S hin).M b → c.M b := fun b hb => by
    rcases hM b hb with hb | ⟨i,j,o,x,h3,h4,h5⟩
    · exact c.new b (bY s.ext.size hb)
    · obtain ⟨j',h6,_,h7,h8⟩ := hin_at h3;rw [h4] at h6;cases h6;exact (s.live j _ _ h7 h8 h5).1
  have hlow : ∀ b,b < w.heap.size → (mU w (fun k => ρ (th L H.length k)) S hin).M b → ∃ (i j : Nat) (o : Nat) (x : AB),hin[i]? = some x ∧ L[i]? = some j ∧ ρ j = some (b,o) := fun b hlt hb => by
    rcases hM b hb with hb | hb
    · omega
    · exact hb
  have other : ∀ {k : Nat} {b : AB} {q : Nat × Nat},H[k]? = some b → b ≠ .gone → k ∉ L → ρ k = some q → ¬ (mU w (fun k => ρ (th L H.length k)) S hin).M q.1 := fun {k b q} hb hg hkL hq hm => by
    obtain ⟨i,j,o,x,h3,h4,h5⟩ := hlow q.1 (s.rng k q hq) hm;obtain ⟨j',h6,_,h7,h8⟩ := hin_at h3;rw [h4] at h6;cases h6;have := s.inj k j _ _ q _ hb h7 hg h8 hq h5 rfl;subst this;exact hkL (aL h4)
  have stM : ∀ b,S b → ¬ (mU w (fun k => ρ (th L H.length k)) S hin).M b := fun b hb hm => by
    obtain ⟨i,j,o,x,h3,h4,h5⟩ := hlow b (s.stab b hb) hm;obtain ⟨j',h6,_,h7,h8⟩ := hin_at h3;rw [h4] at h6;cases h6;exact (s.live j _ _ h7 h8 h5).2 hb
  have same : ∀ b,b < w.heap.size → ¬ (mU w (fun k => ρ (th L H.length k)) S hin).M b → w'.heap[b]? = w.heap[b]? := fun b hb hm => hs.ext.same b hb hm
  have hposL : pos ∉ L := fun hm => by
    obtain ⟨i,hi⟩ := DF.1 hm;have hlt : i < hin.length := by rw [← hL];exact (aB.1 hi).1
    obtain ⟨j,h3,_,h4,h5⟩ := hin_at (aA hlt);rw [hi] at h3;cases h3;rw [hp1] at h4;exact h5 (Option.some.inj h4).symm
  have hposH : pos < H.length := (aB.1 hp1).1
  let ρ3 : Pl := fun j => if j = pos then ρ' hin.length else ρ j
  have r3p : ρ3 pos = ρ' hin.length := if_pos rfl;have r3o : ∀ j,j ≠ pos → ρ3 j = ρ j := fun j hj => if_neg hj
  have l : gY ρ ρ3 S S' w w' := by
    refine ⟨fun k q hq => ?_,hs.st0,fun b hb => same b (s.stab b hb) (stM b hb),fun _ _ _ _ _ hr => hs.ext.room hr⟩
    rw [r3o k (fun e => by rw [e,hp0] at hq;cases hq)];exact hq
  have pl : ∀ k q,ρ' k = some q → ρ3 (oM L pos k) = some q := fun k q hq => by
    by_cases hk : k < hin.length
    · obtain ⟨j,h3,_,_⟩ := hin_at (aA hk);have hbk : oM L pos k = j := by simp [oM,h3]
      have hjp : j ≠ pos := fun e => hposL (e ▸ aL h3);rw [hbk,r3o j hjp,← keep hk h3];exact hq
    · by_cases hk2 : k = hin.length
      · have hbk : oM L pos k = pos := by unfold oM;rw [cJ (by omega)]
        rw [hbk,r3p,← hk2];exact hq
      · have := hs.dom k (by rw [aF,hlen,List.length_singleton];omega)
        rw [this] at hq;cases hq
  have shift : ∀ {x : AV} {y : Value},R S' w' x ρ' y → R S' w' (x.map (oM L pos)) ρ3 y := fun {x y} hx => I1 _ _ x y (mE (fun _ h => h) (fun _ _ => rfl) x ρ' _ y pl (fun _ _ _ _ _ h => h) hx);have shiftB : ∀ {b : AB} {pp},RB S' w' ρ' pp b → RB S' w' ρ3 pp (b.map (oM L pos)) := fun {b pp} hb => DD _ _ (RB.later (ρ := ρ') (S := S') ⟨pl,fun _ h => h,fun _ _ => rfl,fun _ _ _ _ _ h => h⟩ (fun _ _ _ => rfl) hb);have get : ∀ {k : Nat} {b : AB},((vU H L (hout.map (AB.map (oM L pos)))).set pos (b1.map (oM L pos)))[k]? = some b →
      (k ≠ pos ∧ k ∉ L ∧ H[k]? = some b) ∨ (∃ (i : Nat) (b' : AB),(hout ++ [b1])[i]? = some b' ∧ b = b'.map (oM L pos) ∧ oM L pos i = k ∧ ρ3 k = ρ' i) := fun {k b} hb => by
    rw [fU] at hb;by_cases hk : pos = k
    · rw [if_pos hk,if_pos (by rw [jW];exact hposH)] at hb
      cases hb;refine .inr ⟨hin.length,b1,by rw [← hlen];simp,rfl,?_,by rw [← hk];exact r3p⟩
      unfold oM;rw [cJ (by omega)]
      exact hk
    · rw [if_neg hk] at hb;by_cases hkL : k ∈ L
      · obtain ⟨i,hi⟩ := DF.1 hkL;have hiL : i < hin.length := by rw [← hL];exact (aB.1 hi).1
        have hb' := aA (l := hout) (i := i) (by omega)
        have hkl : k < H.length := by
          have := (aB.1 hb).1
          rwa [jW] at this
        rw [BH (b := (hout[i]'(by omega)).map (oM L pos)) hnd hi (by simp [hb']) hkl] at hb
        simp only [Option.some.injEq] at hb;exact .inr ⟨i,_,by rw [aG (by omega)];exact hb',hb.symm,by simp [oM,hi],by rw [r3o k (fun e => hk e.symm)];exact (keep hiL hi).symm⟩
      · rw [uA _ _ _ hkL] at hb;exact .inl ⟨fun e => hk e.symm,hkL,hb⟩
  have mapg : ∀ {θ : Nat → Nat} {b : AB},b.map θ ≠ .gone → b ≠ .gone := fun hb e => hb (by rw [e];rfl)
  refine ⟨ρ3,⟨fun k hk => ?_,fun k q hq => ?_,fun k b hb => ?_,fun k b q hb hg hq => ?_,fun k k' b b' q q' hb hb' hg hg' hq hq' e => ?_,hs.stab,s.ext.trans hs.ext (fun b hb hlt => hcM b hb),fun b hb => hs.st0 b (s.st0 b hb),fun b hb => ?_,?_,fun k hk => ?_,hs.glob⟩,l,shift,r3o⟩
  · rw [gH,jW] at hk;rw [r3o k (by omega)]
    exact s.dom k hk
  · by_cases hk : k = pos
    · rw [hk,r3p] at hq;exact hs.rng _ q hq
    · rw [r3o k hk] at hq;exact dU (s.rng k q hq) hs.ext.size
  · rcases get hb with ⟨h3,h4,h5⟩ | ⟨i,b',h3,rfl,h4,h5⟩
    · rw [r3o k h3];by_cases hg : b = .gone
      · subst hg;trivial
      · exact RB.later l (fun b1 o1 hp => same b1 (s.rng k _ hp) (other h5 hg h4 hp)) (s.blk k b h5)
    · rw [h5];exact shiftB (hs.blk i b' h3)
  · rcases get hb with ⟨h3,h4,h5⟩ | ⟨i,b',h3,rfl,h4,h5⟩
    · rw [r3o k h3] at hq;obtain ⟨h7,h8⟩ := s.live k b q h5 hg hq;refine ⟨h7,fun hs' => ?_⟩
      rcases hs.st1 _ hs' with h9 | h9
      · exact h8 h9
      · exact other h5 hg h4 hq h9
    · rw [h5] at hq;obtain ⟨h7,h8⟩ := hs.live i b' q h3 (mapg hg) hq;exact ⟨hcM _ h7,h8⟩
  · rcases get hb with ⟨h3,h4,h5⟩ | ⟨i,b1,h3,rfl,h4,h5⟩ <;> rcases get hb' with ⟨h3',h4',h5'⟩ | ⟨i',b1',h3',rfl,h4',h5'⟩
    · rw [r3o k h3] at hq;rw [r3o k' h3'] at hq';exact s.inj k k' b b' q q' h5 h5' hg hg' hq hq' e
    · rw [r3o k h3] at hq;rw [h5'] at hq';have hl := (hs.live i' b1' q' h3' (mapg hg') hq').1;rw [← e] at hl;exact absurd hl (other h5 hg h4 hq)
    · rw [r3o k' h3'] at hq';rw [h5] at hq;have hl := (hs.live i b1 q h3 (mapg hg) hq).1;rw [e] at hl;exact absurd hl (other h5' hg' h4' hq')
    · rw [h5] at hq;rw [h5'] at hq';have := hs.inj i i' b1 b1' q q' h3 h3' (mapg hg) (mapg hg') hq hq' e;subst this;rw [← h4,← h4']
  · rcases hs.st1 b hb with hb' | hb'
    · exact s.st1 b hb'
    · exact .inr (hcM b hb')
  · rw [gH,jW];exact s.mle
  · rw [r3o k (by omega)]
    exact s.keep k hk
theorem rI.up {θ : Nat → Nat} {h H : Hp} (hb : ∀ (j : Nat) b, h[j]? = some b → b ≠ .gone → H[j]? = some b) : ∀ {hin : Hp} {i : Nat}, (∀ b, b ∈ hin → b ≠ .gone) → rI θ h i hin → rI θ H i hin
  | [],_,_,_ => trivial
  | b :: r,i,hng,hs => by
    refine ⟨?_,rI.up hb (fun x hx => hng x (aN _ hx)) hs.2⟩;rcases hs.1 with h1 | h1
    · exact .inl h1
    · refine .inr (hb _ _ h1 ?_);have := hng b aR;cases b <;> simp [AB.map] at *
section
variable {P : Program} {env : dQ} {h : Hp} {d : Option Nat} {ty : TypeId} {pos : String} {af : Array Edge}
theorem GS (L : List Nat) {pp k : Nat} {nb b1 u1 : AB} {uu : AV} {dd : Nat} {x : Operand} {f : FuncId} {fs cs us xs : List AV} {args : List Operand} {ats : Array TypeId} {res : AV} {hin hout : Hp} (hx : evu env x = some (.clo (.func f) fs cs)) (ha : yR env args = some us)
    (hc : aT P f xs hin res (hout ++ [b1])) (hxs : ∀ N,fs ++ us ++ cs = AV.mapL (th L N) xs) (hL : L.length = hin.length) (hnd : L.Nodup) (hh : ∀ N,rI (th L N) h 0 hin) (hng : ∀ b,b ∈ hin → b ≠ .gone) (hlen : hout.length = hin.length)
    (hput : ∀ H : Hp,(∀ (j : Nat) b,h[j]? = some b → b ≠ .gone → H[j]? = some b) → vU H L (hout.map (AB.map (oM L pp))) = H.set k nb) (hu : res.map (oM L pp) = uu) (hb1 : b1.map (oM L pp) = u1) :
    kT P ⟨some dd,.call { callee := .value x,args := args.toArray,argTypes := ats },ty,pos,af,none⟩ env h pp k nb uu [u1] := by
  intro c ρ S a w H g p hbel hpp K' Q hK';obtain ⟨hr0,hH0,hm0⟩ : ρ pp = none ∧ H[pp]? = some .gone ∧ c.m ≤ pp := by
    rcases hpp with h0 | h0
    · cases h0
    · exact h0
  have hxv := p.evu hx;simp only [R] at hxv;obtain ⟨ys,zs,e1,h1,h2⟩ := hxv;have hall : RL S w (fs ++ us ++ cs) ρ (ys.toList ++ args.map a.eval ++ zs.toList) := iE (iE h1 (rW p ha)) h2;rw [hxs H.length] at hall;have hargs := oE (th L H.length) ρ _ _ hall;obtain ⟨hf,hc⟩ := hc;have hsub := rI.up hbel hng (hh H.length);have hs0 := g.hand hL hnd hsub;have hcall := hc _ S w _ hs0 hargs;unfold Oper.wp;have hrun : (execOp a.eval ⟨some dd,.call { callee := .value x,args := args.toArray,argTypes := ats },ty,pos,af,none⟩).run P w = .ok (.enter f (ys.toList ++ args.map a.eval ++ zs.toList).toArray) w := by
    have e2 : (ys ++ (args.toArray.map a.eval) ++ zs) = (ys.toList ++ args.map a.eval ++ zs.toList).toArray := by
      apply Array.ext';simp
    simp only [execOp,resolve,e1,Deferred.ofValue,Sem.run_bind,Sem.run_pure,Result.andThen_ok,invoke];rw [e2];exact vR hf
  rw [hrun];simp only [Oper.upon];refine hcall.mono ?_;rintro e w' ⟨y,ρ',S',rfl,hs,hy⟩;simp only;obtain ⟨ρ3,g1,g2,g3,g4⟩ := g.callP hL hnd hsub hng hlen hr0 hH0 hm0 hs;rw [hput H hbel,hb1] at g1;exact hK' _ ρ3 S' w' g1 g2 (hu ▸ g3 hy) (fun j hj => g4 j (hj (by simp)))
end
theorem oP.freezeP {n : Nat × Nat} {c : nH} {ρ : Pl} {S : Nat → Prop} {env : dQ} {h : Hp} {a : Act} {w : World} {t k off : Nat} {cs : List AV} (s : oP n c ρ S env h a w) (ht : look env t = some (.ptr k off)) (hk : h[k]? = some (.cells cs)) (hi : AV.idfL cs = true) :
    oP n c ρ (fun b => S b ∨ ∃ o,ρ k = some (b,o)) ((t,.pr cs off) :: env) (h.set k .gone) a w := by
  refine ⟨s.size,s.defers.st (fun _ h => .inl h),fun t' x hx => ?_,s.hs.freezeC hk (by simp),s.cm⟩
  rw [gM] at hx;split at hx
  · rename_i e;subst e;cases hx;exact FS hi (s.hs.blk k _ hk) (s.env t _ ht)
  · exact UP (fun _ h => .inl h) (s.env t' x hx)
theorem DA {S S' : Nat → Prop} {w : World} {ρ : Pl} {x x' : AV} (hS : ∀ b, S b → S' b) (hx : ∀ y, R S w x ρ y → R S' w x' ρ y) : ∀ {cs : List AV} {f : Nat}, cs[f]? = some x → ∀ {ys : List Value}, RL S w cs ρ ys → RL S' w (cs.set f x') ρ ys
  | [],f,hf,ys,h => by simp at hf
  | c :: cs,0,hf,ys,h => by
    simp only [dZ,Option.some.injEq] at hf;subst hf;simp only [RL,List.set_cons_zero] at h ⊢;obtain ⟨y,zs,e,h1,h2⟩ := h;exact ⟨y,zs,e,hx y h1,UT hS h2⟩
  | c :: cs,f + 1,hf,ys,h => by
    simp only [jI] at hf;simp only [RL,List.set_cons_succ] at h ⊢;obtain ⟨y,zs,e,h1,h2⟩ := h;exact ⟨y,zs,e,UP hS h1,DA hS hx hf h2⟩
theorem oP.freezeIn {n : Nat × Nat} {c : nH} {ρ : Pl} {S : Nat → Prop} {env : dQ} {h : Hp} {a : Act} {w : World} {j f k len sz : Nat} {cs : List AV} {es : List (List AV)} (s : oP n c ρ S env h a w) (hj : h[j]? = some (.cells cs)) (hf : cs[f]? = some (.sl k 0 len sz)) (hk : h[k]? = some (.arr es sz)) (hn : len = es.length) (hi : AV.idfL es.flatten = true) :
    oP n c ρ (fun b => S b ∨ ∃ o,ρ k = some (b,o)) env ((h.set k .gone).set j (.cells (cs.set f (.rowE es sz)))) a w := by
  have hne : j ≠ k := by rintro rfl;rw [hj] at hk;cases hk
  have h1 := s.hs.freeze hk;have hj' : (h.set k .gone)[j]? = some (.cells cs) := by rw [jH (Ne.symm hne)];exact hj
  refine ⟨s.size,s.defers.st (fun _ h => .inl h),fun t' x hx => UP (fun _ h => .inl h) (s.env t' x hx),h1.alter hj' (fun _ => ?_) (by simp),s.cm⟩
  have hb := s.hs.blk j _ hj;simp only [RB] at hb ⊢;obtain ⟨b,o,ys,e1,e2,e3⟩ := hb;refine ⟨b,o,ys,e1,e2,DA (fun _ h => .inl h) (fun y hy => ?_) hf e3⟩;rw [hn] at hy;exact C7 hi (s.hs.blk k _ hk) hy
section
variable {P : Program} {n : Nat × Nat} {ops : Array Oper} {env : dQ} {h : Hp} {K : dQ → Hp → Prop} {rest : List Oper} {Q : Exit → dQ → Hp → Prop} {code : Code}
theorem fN (t : Nat) {k off : Nat} {cs : List AV} (ht : look env t = some (.ptr k off)) (hk : h[k]? = some (.cells cs)) (hi : AV.idfL cs = true) (hv : AW P n code ((t,.pr cs off) :: env) (h.set k .gone) Q) : AW P n code env h Q :=
  fun c ρ S a w QQ s hQ => hv c ρ _ a w QQ (s.freezeP ht hk hi) hQ
theorem mL (j f : Nat) {k len sz : Nat} {cs : List AV} {es : List (List AV)} (hj : h[j]? = some (.cells cs)) (hf : cs[f]? = some (.sl k 0 len sz)) (hk : h[k]? = some (.arr es sz)) (hn : len = es.length) (hi : AV.idfL es.flatten = true) (hv : AW P n code env ((h.set k .gone).set j (.cells (cs.set f (.rowE es sz)))) Q) : AW P n code env h Q :=
  fun c ρ S a w QQ s hQ => hv c ρ _ a w QQ (s.freezeIn hj hf hk hn hi) hQ
end
theorem HS.snocG {c : nH} {ρ : Pl} {S : Nat → Prop} {H : Hp} {w : World} (s : HS c ρ S H w) : HS c ρ S (H ++ [.gone]) w := by
  have get : ∀ {k : Nat} {b : AB},(H ++ [AB.gone])[k]? = some b → b ≠ .gone → H[k]? = some b := fun {k b} hb hg => by
    by_cases hk : k < H.length
    · rwa [aG hk] at hb
    · rw [aD (by omega)] at hb
      by_cases e : k - H.length = 0
      · rw [e] at hb;simp at hb;exact absurd hb.symm hg
      · rw [cJ (by simp;omega)] at hb;cases hb
  refine ⟨fun k hk => s.dom k (by simp at hk;omega),s.rng,fun k b hb => ?_,fun k b q hb hg hq => s.live k b q (get hb hg) hg hq,fun k k' b b' q q' hb hb' hg hg' hq hq' e => s.inj k k' b b' q q' (get hb hg) (get hb' hg') hg hg' hq hq' e,s.stab,s.ext,s.st0,s.st1,by rw [aF];have := s.mle;omega,s.keep,s.glob⟩
  by_cases hg : b = .gone
  · subst hg;trivial
  · exact s.blk k b (get hb hg)
theorem U6 {P : Program} {f : FuncId} {args : List AV} {res : AV} {hin hout : Hp} (h : aT P f args hin res hout) : aT P f args hin res (hout ++ [.gone]) := by
  refine ⟨h.1,fun ρ S w vs hs ha => (h.2 ρ S w vs hs ha).mono ?_⟩;rintro e w' ⟨y,ρ',S',rfl,h2,h3⟩;exact ⟨y,ρ',S',rfl,h2.snocG,h3⟩
end Go.Ab
namespace Go.Ab
open Go
set_option maxHeartbeats 1000000
theorem Y6 {w : World} {n b off : Nat} {d : List Value} {os : Array Obj} {c : Array Value} {e : TypeId} (hc : w.heap[b]? = some (.cells c e (0,0))) (hb : b < w.heap.size) :
    (Sort.grow (Sort.putRow id (Sort.ahead w n) b off d.toArray) os).heap[b]? = some (.cells (Sort.putCells id off d.toArray c) e (0,0)) := by
  rw [Sort.heap_grow_old _ _ (by rw [Sort.size_putRow];exact hb)]
  unfold Sort.putRow Sort.mapBlock;show (w.heap.modify b _)[b]? = _;rw [vG,if_pos rfl,hc];rfl
theorem EQ {w : World} {n b off : Nat} {d : List Value} {os : Array Obj} {c : Array Value} {e : TypeId} (hc : w.heap[b]? = some (.cells c e (0,0))) (hb : b < w.heap.size) :
    mH (fun x => x = b) w (Sort.grow (Sort.putRow id (Sort.ahead w n) b off d.toArray) os) := by
  have other : ∀ x,x < w.heap.size → x ≠ b → (Sort.grow (Sort.putRow id (Sort.ahead w n) b off d.toArray) os).heap[x]? = w.heap[x]? := fun x hx hne => by
    rw [Sort.heap_grow_old _ _ (by rw [Sort.size_putRow];exact hx)]
    unfold Sort.putRow Sort.mapBlock;show (w.heap.modify b _)[x]? = _;rw [vG,if_neg (Ne.symm hne)]
  refine ⟨rfl,rfl,rfl,by rw [Sort.size_grow,Sort.size_putRow];exact iJ _ _,fun x hx hne => other x hx hne,fun x cc ee fz hcc => ?_⟩
  by_cases hx : x = b
  · subst hx;rw [hc] at hcc;cases hcc;exact ⟨_,_,Y6 hc hb,by simp [Sort.putCells]⟩
  · exact ⟨cc,fz,by rw [other x (aI.1 hcc).1 hx];exact hcc,rfl⟩
theorem WO {c : nH} {ρ : Pl} {S : Nat → Prop} {es es' : List (List AV)} {sz : Nat} {w w' : World} {b o n : Nat} {ys ys' Z : List Value} (s : HS c ρ S [.arr es sz] w) (hp : ρ 0 = some (b, o)) (hne : es ≠ [])
    (hys : J4 w b o ys) (hl : (ys' ++ Z).length = ys.length) (he : ∀ e,e ∈ es' → e.length = sz) (hr : ∀ S' w',gY ρ ρ S S' w w' → RL S' w' es'.flatten ρ ys')
    (hw : w' = Sort.putRow id (Sort.ahead w n) b o (ys' ++ Z).toArray) : HS c ρ S [.arr es' sz] w' := by
  obtain ⟨_,h0,h3⟩ := s.blk 0 _ rfl;obtain ⟨c,ty,hc,hg⟩ := hys;have hb := (aI.1 hc).1;have hw2 : w' = Sort.grow (Sort.putRow id (Sort.ahead w n) b o (ys' ++ Z).toArray) #[] := by rw [hw,C3]
  have hh : w'.heap[b]? = some (.cells (Sort.putCells id o (ys' ++ Z).toArray c) ty (0,0)) := by rw [hw2];exact Y6 hc hb
  obtain ⟨s',_⟩ := s.upd (k := 0) (b0 := .arr es sz) (nb := .arr es' sz) (w' := w') rfl (by simp) hp (by rw [hw2];exact EQ hc hb) (fun l => by
    refine ⟨he,h0,.inr ⟨b,o,ys',rfl,⟨_,ty,hh,fun j y hj => ?_⟩,hr _ _ l⟩⟩
    obtain ⟨hjl,hz⟩ := aB.1 hj;rw [aF] at hl;have hold := hg j (ys[j]'(by omega)) (aA (by omega))
    unfold Sort.putCells;rw [DI,hold];show some (if o ≤ o + j ∧ o + j < o + (ys' ++ Z).toArray.size then _ else _) = _
    have hsz : (ys' ++ Z).toArray.size = ys'.length + Z.length := by simp
    rw [if_pos ⟨by omega,by omega⟩]
    congr 1;rw [show o + j - o = j by omega,getElem!_pos _ j (by omega)]
    show (ys' ++ Z).toArray[j]'_ = y
    rw [xC,List.getElem_append_left hjl];exact hz)
  exact s'
theorem NQ {es : List (List AV)} {sz : Nat} (h : ∀ e,e ∈ es → e.length = sz) (m : Nat) : (es.drop m).flatten = es.flatten.drop (m * sz) := by
  induction es generalizing m with
  | nil => simp
  | cons a l ih =>
    have ha := h a aR;cases m with
    | zero => simp
    | succ m =>
      rw [List.drop_succ_cons,eC,ih (fun e he => h e (aN _ he)),List.drop_append];rw [cW (l := a) (by rw [ha,eB];omega),ha,eB,HD,OE,List.nil_append]
theorem UU {S : Nat → Prop} {w : World} {ρ : Pl} : ∀ {xs as_ : List AV} {ys bs : List Value}, RL S w xs ρ ys → RL S w as_ ρ bs → RL S w (xs ++ as_) ρ (ys ++ bs)
  | [],as_,ys,bs,h,h' => by simp only [RL] at h;subst h;exact h'
  | x :: xs,as_,ys,bs,h,h' => by
    simp only [RL] at h;obtain ⟨y,zs,rfl,h1,h2⟩ := h;exact ⟨y,zs ++ bs,rfl,h1,UU h2 h'⟩
theorem LN {S : Nat → Prop} {w : World} {ρ : Pl} : ∀ {xs : List AV} {ys : List Value}, RL S w xs ρ ys → xs.all AV.one = true → ∀ u, u ∈ ys → u.oneCell' = true
  | [],ys,h,_,u,hu => by simp only [RL] at h;subst h;cases hu
  | x :: xs,ys,h,h1,u,hu => by
    simp only [RL] at h;obtain ⟨y,zs,rfl,h2,h3⟩ := h;simp only [L4,aJ] at h1;rcases bL.1 hu with rfl | hu
    · exact BO h2 h1.1
    · exact LN h3 h1.2 u hu
theorem yT {P : Program} {f : FuncId} {sz : Nat} (hfn : ∃ fn, P.funcs[f]? = some fn ∧ (fn.name == "runtime.NumGoroutine") = false ∧ fn.body.isNone = false)
    (hs : ∀ (blk off cap len i j : Nat) (cs : List Value) (w : World),cs.length = len * sz → Sort.Holds id w blk off cs.toArray → (∀ u,u ∈ cs → u.oneCell' = true) → len ≤ cap → cap ≤ 9223372036854775807 → i ≤ j → j ≤ len →
      Calls P f #[.slice (some ⟨blk,off,none⟩) len cap,.int .i64 i,.int .i64 j] w fun e w' => e = .returned (.slice (some ⟨blk,off,none⟩) (len - (j - i)) cap) ∧ ∃ (q : Nat) (Z : List Value),Z.length = (j - i) * sz ∧ w' = Sort.putRow id (Sort.ahead w q) blk off (cs.take (i * sz) ++ cs.drop (j * sz) ++ Z).toArray)
    (es : List (List AV)) (hes : ∀ e,e ∈ es → e.length = sz) (h1 : es.flatten.all AV.one = true) (i j : Nat) (hij : i ≤ j) (hj : j ≤ es.length) (hne : es ≠ []) :
    aT P f [.sl 0 0 es.length sz,.i (i : Int),.i (j : Int)] [.arr es sz] (.sl 0 0 (es.length - (j - i)) sz) [.arr (es.take i ++ es.drop j) sz] := by
  refine ⟨hfn,fun ρ S w vs s hv => ?_⟩
  simp only [RL] at hv;obtain ⟨y,_,rfl,hy,y2,_,rfl,hy2,y3,_,rfl,hy3,rfl⟩ := hv;simp only [R] at hy hy2 hy3;subst hy2 hy3;obtain ⟨a,cap,rfl,hcap,hy⟩ := hy;have hl0 : 0 < es.length := eY.2 hne;rcases hy with ⟨h0,_⟩ | ⟨b,o,hp,ha,hcl,hrm⟩
  · omega
  · obtain ⟨_,hs0,hB⟩ := s.blk 0 _ rfl;rcases hB with hB | ⟨b',o',ys,h4,h5,h6⟩
    · exact absurd hB.1 hne
    · rw [hp] at h4;cases h4;rw [W3,Nat.add_zero] at ha;subst ha;have hmax : maxLen ≤ 9223372036854775807 := by decide
      have hyl : ys.length = es.length * sz := by rw [fG h6,eT hes]
      obtain ⟨cc,ct,hcc,hcg⟩ := h5;have hH : Sort.Holds id w b o ys.toArray := fun t ht => by
        have ht' : t < ys.length := by simpa using ht
        have h7 := hcg t ys[t] (aA ht');refine ⟨?_,?_⟩
        · show w.cell? ⟨b,o + t,none⟩ = some (ys.toArray[t]!);rw [getElem!_pos _ t ht];simp only [World.cell?,hcc];rw [xC];exact h7
        · simp [World.frozen?,hcc]
      refine (hs b o cap es.length i j ys w hyl hH (LN h6 h1) hcl (by omega) hij hj).mono fun e w' ⟨he,q,Z,hZ,hw⟩ => ?_
      subst he;have hil : i * sz ≤ j * sz := gO _ hij;have hjl : j * sz ≤ es.length * sz := gO _ hj;have hsub : (j - i) * sz = j * sz - i * sz := Nat.sub_mul _ _ _;have s' := WO (es' := es.take i ++ es.drop j) (ys := ys) (ys' := ys.take (i * sz) ++ ys.drop (j * sz)) (Z := Z) (n := q) s hp hne ⟨cc, ct, hcc, hcg⟩ (by simp only [aF, bD, dJ, hZ]; omega)
        (fun e he => by rcases bB.1 he with he | he;exact hes e (fB he);exact hes e (eO he))
        (fun S' w' l => by
          rw [gE,xQ hes,NQ hes]
          exact UU (pL (h6.later l) _) (uU (h6.later l) _)) hw
      have hsz0 := hs0;refine ⟨_,ρ,S,rfl,s',?_⟩;simp only [R];refine ⟨_,cap,rfl,hcap,.inr ⟨b,o,hp,by simp,by omega,?_⟩⟩
      rw [hw];have hb := (aI.1 hcc).1;have hw2 : Sort.putRow id (Sort.ahead w q) b o (ys.take (i * sz) ++ ys.drop (j * sz) ++ Z).toArray = Sort.grow (Sort.putRow id (Sort.ahead w q) b o (ys.take (i * sz) ++ ys.drop (j * sz) ++ Z).toArray) #[] := by rw [C3]
      rw [hw2];exact (EQ hcc hb).room hrm
theorem P2 {P : Program} (w : World) (t e ty : TypeId) (z : Value) (ht : P.underlying t = some (.slice e)) (hv : ∀ w, (zeroValue e).run P w = .ok z w) (hz : z.cells.toList ≠ []) (h1 : ∀ u, u ∈ z.cells.toList → u.oneCell' = true) (b o n c : Nat) (hn : 0 < n)
    (hc : ∀ j,j < n * z.cells.toList.length → (w.cell? ⟨b,o + j,none⟩).isSome = true) (hf : ∀ j,j < n * z.cells.toList.length → w.frozen? ⟨b,o + j,none⟩ = false) :
    (Builtin.clear_ #[t] ty #[.slice (some ⟨b,o,none⟩) n c]).run P w = .ok (.tuple #[]) (w.setCells b o (Builtin.zeroCells z.cells n).toList) := by
  obtain ⟨hm,hl⟩ := oR (z := z.cells) rfl hz n;have hst := run_storeCells_cells (P := P) b o (Builtin.zeroCells z.cells n).toList 0 w (fun j hj => by simpa using hc j (by omega)) (fun j hj => by simpa using hf j (by omega)) (fun v hv' => h1 v (hm v hv'))
  simp only [Nat.add_zero] at hst;obtain ⟨m,rfl⟩ : ∃ m,n = m + 1 := ⟨n - 1,by omega⟩
  simp [Builtin.clear_,run_underlying ht,hv,hst]
end Go.Ab
namespace Go.Proofs.YtmmkhmilpeodnaaGreat
open Go Go.Ab Go.Ld Go.Lib Go.Sort Go.RowKit Go.Shelf
theorem J8 (d : List Value) (i j : Nat) (Z : List Value) (hij : i ≤ j) (hj : j ≤ d.length) (hZ : Z.length = j - i) :
    lay (lay d.toArray i (d.drop j)) (i + (d.length - j)) Z = (d.take i ++ d.drop j ++ Z).toArray := by
  apply Array.ext_getElem?;intro t;have l1 : (d.take i).length = i := by simp;omega
  have l2 : (d.drop j).length = d.length - j := by simp
  rw [lay_get? _ _ _ _ (by rw [lay_size];simp;omega),lay_get? _ _ _ _ (by rw [l2];simp;omega),show (d.take i ++ d.drop j ++ Z).toArray[t]? = (d.take i ++ d.drop j ++ Z)[t]? from hC]
  simp only [hZ,l2];by_cases c1 : t < i
  · rw [if_neg (by omega),if_neg (by omega),aG (by simp;omega),aG (by omega),bR,if_pos c1,hC]
  · by_cases c2 : t < i + (d.length - j)
    · rw [if_neg (by omega),if_pos (by omega),aG (by simp;omega),aD (by omega),l1]
    · rw [aD (by simp;omega)]
      simp only [aF,l1,l2];by_cases c3 : t < d.length
      · rw [if_pos (by omega)]
      · rw [if_neg (by omega),if_neg (by omega),Array.getElem?_eq_none (by simp;omega),cJ (by omega)]
set_option maxHeartbeats 4000000 in
set_option maxRecDepth 1000000 in
theorem YO (blk off cap len i j : Nat) (cs : List Value) (w : World) (hcl0 : cs.length = len * 2) (hH : Holds id w blk off cs.toArray) (h1 : ∀ u,u ∈ cs → u.oneCell' = true) (hcap : len ≤ cap) (hm : cap ≤ 9223372036854775807) (hij : i ≤ j) (hj : j ≤ len) :
    Calls Tryz.prog 143 #[.slice (some ⟨blk,off,none⟩) len cap,.int .i64 i,.int .i64 j] w fun e w' => e = .returned (.slice (some ⟨blk,off,none⟩) (len - (j - i)) cap) ∧ ∃ (q : Nat) (Z : List Value),Z.length = (j - i) * 2 ∧ w' = putRow id (Sort.ahead w q) blk off (cs.take (i * 2) ++ cs.drop (j * 2) ++ Z).toArray := by
  by_cases heq : i = j
  · subst heq;have h0 : Calls Tryz.prog 143 #[.slice (some ⟨blk,off,none⟩) len cap,.int .i64 i,.int .i64 i] w fun e w' => e = .returned (.slice (some ⟨blk,off,none⟩) len cap) ∧ w' = w := by
      clear hH h1
      go_enter Tryz.func143,Tryz.ntmps143
      go_wp2
      all_goals (go_ret;exact ⟨rfl,rfl⟩)
    refine h0.mono ?_;rintro e w' ⟨rfl,rfl⟩;refine ⟨by rw [eQ,UW],0,[],by simp,?_⟩
    rw [List.append_nil,bK];exact (putRow_self id (Sort.ahead w' 0) blk off cs.toArray hH).symm
  · have hlt : i < j := by omega
    obtain ⟨inf,z,t1,t2,t3,t4,t5,t6,t7⟩ := T.tiOk 48 _ rfl;have t22 : Tryz.prog.underlying 82 = some (.slice 48) := T.elemOk _ _ rfl;have hzv : ∀ w,(zeroValue 48).run Tryz.prog w = .ok z w := fun w => by simp [zeroValue,typeInfo,t1,t4]
    have hz2 : z.cells.toList.length = 2 := by rw [t5];rfl
    have hz1 : ∀ u,u ∈ z.cells.toList → u.oneCell' = true := by rw [t5];exact bA.1 rfl
    obtain ⟨_,hZl⟩ := oR (z := z.cells) rfl (by intro h;rw [h] at hz2;cases hz2) (j - i)
    rw [hz2] at hZl;have hji : len - (i + (len - j)) = j - i := by omega
    obtain ⟨Z,hZe⟩ : ∃ Z,Z = (Builtin.zeroCells z.cells (j - i)).toList := ⟨_,rfl⟩;rw [← hZe] at hZl;obtain ⟨news,hnews⟩ : ∃ news,news = cs.drop (j * 2) := ⟨_,rfl⟩;have hlen : news.length = (len - j) * 2 := by rw [hnews,dJ];omega
    have hget : ∀ t,t < (len - j) * 2 → news[t]? = some (cs.toArray[j * 2 + t]!) := by
      intro t ht;rw [hnews,eA,getElem!_pos cs.toArray (j * 2 + t) (by simp;omega),xC,aA]
    obtain ⟨A,hA,hsrc⟩ : ∃ A : Addr,(if cap = j then some (⟨blk,off,none⟩ : Addr) else some ⟨blk,off + j * 2,none⟩) = some A ∧ Hid (∀ t u,news[t]? = some u → w.drew.cell? (A.add t) = some u) := by
      by_cases h : cap = j
      · refine ⟨⟨blk,off,none⟩,by simp [h],fun t u hu => ?_⟩
        have h0 : news.length = 0 := by rw [hlen];omega
        rw [fE.1 h0] at hu;simp at hu
      · refine ⟨⟨blk,off + j * 2,none⟩,by simp [h],fun t u hu => ?_⟩
        have ht : t < (len - j) * 2 := by
          have := (aB.1 hu).1
          rwa [hlen] at this
        rw [hget t ht] at hu;rw [Addr.add_lit,show off + j * 2 + t = off + (j * 2 + t) by omega]
        exact (hH (j * 2 + t) (by simp;omega)).1.trans hu
    have s1 : Hid (news.length = (len - j) * 2) := hlen;have s2 : Hid (∀ u ∈ news,u.oneCell' = true) := by
      intro u hu;rw [hnews] at hu;exact h1 u (eO hu)
    have s3 : Hid (∀ t,t < news.length → (w.drew.cell? ⟨blk,off + i * 2 + t,none⟩).isSome = true ∧ w.drew.frozen? ⟨blk,off + i * 2 + t,none⟩ = false) := by
      intro t ht;rw [hlen] at ht;rw [dI];exact ⟨by show (w.cell? _).isSome = true;rw [(hH (i * 2 + t) (by simp;omega)).1];rfl,(hH (i * 2 + t) (by simp;omega)).2⟩
    obtain ⟨W1,hW1⟩ : ∃ W1,W1 = w.drew.setCells blk (off + i * 2) news := ⟨_,rfl⟩;have hW1' : W1 = putRow id (Sort.ahead w 1) blk off (lay cs.toArray (i * 2) (cs.drop (j * 2))) := by
      have h := putRow_setCells id (Sort.ahead w 1) blk off (cs.drop (j * 2)) cs.toArray (i * 2) (by simp;omega)
      rw [K5,putRow_self id (Sort.ahead w 1) blk off cs.toArray (holds_ahead id w 1 blk off cs.toArray hH)] at h;rw [hW1,hnews];exact h
    have hH1 : Holds id W1 blk off (lay cs.toArray (i * 2) (cs.drop (j * 2))) := by rw [hW1'];exact holds_putRow id _ blk off cs.toArray _ (holds_ahead id w 1 blk off cs.toArray hH) (lay_size _ _ _)
    have hcl : ∀ ty,(Builtin.clear_ #[82] ty #[.slice (some ⟨blk,off + (i + (len - j)) * 2,none⟩) (len - (i + (len - j))) (cap - (i + (len - j)))]).run Tryz.prog W1 = .ok (.tuple #[]) (W1.setCells blk (off + (i + (len - j)) * 2) Z) :=
      fun ty => by
       rw [hZe,← hji];exact P2 W1 _ _ ty z t22 hzv (by intro h; rw [h] at hz2; cases hz2) hz1 blk _ _ _ (by omega)
        (fun t ht => by rw [hz2] at ht;rw [dI,(hH1 _ (by rw [lay_size];simp;omega)).1];rfl) (fun t ht => by rw [hz2] at ht;rw [dI];exact (hH1 _ (by rw [lay_size];simp;omega)).2)
    have X : Aside (W1 = putRow id (Sort.ahead w 1) blk off (lay cs.toArray (i * 2) (cs.drop (j * 2)))) := hW1';have hW : Hid (W1 = w.drew.setCells blk (off + i * 2) news) := hW1;have mixed := dA;have hic : i ≤ cap := by omega
    have hjc : j ≤ cap := by omega
    clear hW1 hW1' hH1 hH hget hnews hlen hji hZe
    go_enter Tryz.func143,Tryz.ntmps143
    go_wp2_with fail
    go_region_law_o (refine step_append_room rfl (.tmp 22) (.tmp 25) 82 rfl 48 inf 2 t22 t1 t2 blk off i cap (by simp [Act.eval,Act.put]) A (len - j) (cap - j) news (by simp [Act.eval,Act.put]) s1.out hsrc.out s2.out (by omega) s3.out ?_;rw [← hW.out])
    go_wp2
    go_ret
    refine ⟨by rw [show len - (j - i) = i + (len - j) by omega];rfl,1,Z,hZl,?_⟩
    rw [X.out,← K5 Z,show off + (i + (len - j)) * 2 = off + (i * 2 + (cs.length - j * 2)) by omega,putRow_setCells id _ blk off _ _ _ (by rw [lay_size,mQ];omega),K5,
      J8 cs (i * 2) (j * 2) _ (by omega) (by omega) (by omega)]
theorem zE3 (l : List SP) (i j : Nat) (hij : i ≤ j) (hj : j ≤ l.length) (hne : l ≠ []) :
    aT Tryz.prog 143 [.sl 0 0 l.length 2,.i (i : Int),.i (j : Int)] [.arr (eS l) 2] (.sl 0 0 (l.length - (j - i)) 2) [.arr (eS (l.take i ++ l.drop j)) 2] := by
  have h := yT (sz := 2) ⟨_,Tryz.func143,by kernel_rfl,by kernel_rfl⟩ YO (eS l) (iO l) (X8 l) i j hij (by rw [bC];exact hj) (fun h => hne (lA.1 h))
  rw [bC,← kG,← List.map_drop,← dH] at h;exact h
set_option maxHeartbeats 4000000 in
set_option maxRecDepth 1000000 in
theorem YP (blk off cap len i j : Nat) (cs : List Value) (w : World) (hcl0 : cs.length = len * 2) (hH : Holds id w blk off cs.toArray) (h1 : ∀ u,u ∈ cs → u.oneCell' = true) (hcap : len ≤ cap) (hm : cap ≤ 9223372036854775807) (hij : i ≤ j) (hj : j ≤ len) :
    Calls Tryz.prog 88 #[.slice (some ⟨blk,off,none⟩) len cap,.int .i64 i,.int .i64 j] w fun e w' => e = .returned (.slice (some ⟨blk,off,none⟩) (len - (j - i)) cap) ∧ ∃ (q : Nat) (Z : List Value),Z.length = (j - i) * 2 ∧ w' = putRow id (Sort.ahead w q) blk off (cs.take (i * 2) ++ cs.drop (j * 2) ++ Z).toArray := by
  by_cases heq : i = j
  · subst heq;have h0 : Calls Tryz.prog 88 #[.slice (some ⟨blk,off,none⟩) len cap,.int .i64 i,.int .i64 i] w fun e w' => e = .returned (.slice (some ⟨blk,off,none⟩) len cap) ∧ w' = w := by
      clear hH h1
      go_enter Tryz.func88,Tryz.ntmps88
      go_wp2
      all_goals (go_ret;exact ⟨rfl,rfl⟩)
    refine h0.mono ?_;rintro e w' ⟨rfl,rfl⟩;refine ⟨by rw [eQ,UW],0,[],by simp,?_⟩
    rw [List.append_nil,bK];exact (putRow_self id (Sort.ahead w' 0) blk off cs.toArray hH).symm
  · have hlt : i < j := by omega
    obtain ⟨inf,z,t1,t2,t3,t4,t5,t6,t7⟩ := T.tiOk 87 _ rfl;have t22 : Tryz.prog.underlying 79 = some (.slice 87) := T.elemOk _ _ rfl;have hzv : ∀ w,(zeroValue 87).run Tryz.prog w = .ok z w := fun w => by simp [zeroValue,typeInfo,t1,t4]
    have hz2 : z.cells.toList.length = 2 := by rw [t5];rfl
    have hz1 : ∀ u,u ∈ z.cells.toList → u.oneCell' = true := by rw [t5];exact bA.1 rfl
    obtain ⟨_,hZl⟩ := oR (z := z.cells) rfl (by intro h;rw [h] at hz2;cases hz2) (j - i)
    rw [hz2] at hZl;have hji : len - (i + (len - j)) = j - i := by omega
    obtain ⟨Z,hZe⟩ : ∃ Z,Z = (Builtin.zeroCells z.cells (j - i)).toList := ⟨_,rfl⟩;rw [← hZe] at hZl;obtain ⟨news,hnews⟩ : ∃ news,news = cs.drop (j * 2) := ⟨_,rfl⟩;have hlen : news.length = (len - j) * 2 := by rw [hnews,dJ];omega
    have hget : ∀ t,t < (len - j) * 2 → news[t]? = some (cs.toArray[j * 2 + t]!) := by
      intro t ht;rw [hnews,eA,getElem!_pos cs.toArray (j * 2 + t) (by simp;omega),xC,aA]
    obtain ⟨A,hA,hsrc⟩ : ∃ A : Addr,(if cap = j then some (⟨blk,off,none⟩ : Addr) else some ⟨blk,off + j * 2,none⟩) = some A ∧ Hid (∀ t u,news[t]? = some u → w.drew.cell? (A.add t) = some u) := by
      by_cases h : cap = j
      · refine ⟨⟨blk,off,none⟩,by simp [h],fun t u hu => ?_⟩
        have h0 : news.length = 0 := by rw [hlen];omega
        rw [fE.1 h0] at hu;simp at hu
      · refine ⟨⟨blk,off + j * 2,none⟩,by simp [h],fun t u hu => ?_⟩
        have ht : t < (len - j) * 2 := by
          have := (aB.1 hu).1
          rwa [hlen] at this
        rw [hget t ht] at hu;rw [Addr.add_lit,show off + j * 2 + t = off + (j * 2 + t) by omega]
        exact (hH (j * 2 + t) (by simp;omega)).1.trans hu
    have s1 : Hid (news.length = (len - j) * 2) := hlen;have s2 : Hid (∀ u ∈ news,u.oneCell' = true) := by
      intro u hu;rw [hnews] at hu;exact h1 u (eO hu)
    have s3 : Hid (∀ t,t < news.length → (w.drew.cell? ⟨blk,off + i * 2 + t,none⟩).isSome = true ∧ w.drew.frozen? ⟨blk,off + i * 2 + t,none⟩ = false) := by
      intro t ht;rw [hlen] at ht;rw [dI];exact ⟨by show (w.cell? _).isSome = true;rw [(hH (i * 2 + t) (by simp;omega)).1];rfl,(hH (i * 2 + t) (by simp;omega)).2⟩
    obtain ⟨W1,hW1⟩ : ∃ W1,W1 = w.drew.setCells blk (off + i * 2) news := ⟨_,rfl⟩;have hW1' : W1 = putRow id (Sort.ahead w 1) blk off (lay cs.toArray (i * 2) (cs.drop (j * 2))) := by
      have h := putRow_setCells id (Sort.ahead w 1) blk off (cs.drop (j * 2)) cs.toArray (i * 2) (by simp;omega)
      rw [K5,putRow_self id (Sort.ahead w 1) blk off cs.toArray (holds_ahead id w 1 blk off cs.toArray hH)] at h;rw [hW1,hnews];exact h
    have hH1 : Holds id W1 blk off (lay cs.toArray (i * 2) (cs.drop (j * 2))) := by rw [hW1'];exact holds_putRow id _ blk off cs.toArray _ (holds_ahead id w 1 blk off cs.toArray hH) (lay_size _ _ _)
    have hcl : ∀ ty,(Builtin.clear_ #[79] ty #[.slice (some ⟨blk,off + (i + (len - j)) * 2,none⟩) (len - (i + (len - j))) (cap - (i + (len - j)))]).run Tryz.prog W1 = .ok (.tuple #[]) (W1.setCells blk (off + (i + (len - j)) * 2) Z) :=
      fun ty => by
       rw [hZe,← hji];exact P2 W1 _ _ ty z t22 hzv (by intro h; rw [h] at hz2; cases hz2) hz1 blk _ _ _ (by omega)
        (fun t ht => by rw [hz2] at ht;rw [dI,(hH1 _ (by rw [lay_size];simp;omega)).1];rfl) (fun t ht => by rw [hz2] at ht;rw [dI];exact (hH1 _ (by rw [lay_size];simp;omega)).2)
    have X : Aside (W1 = putRow id (Sort.ahead w 1) blk off (lay cs.toArray (i * 2) (cs.drop (j * 2)))) := hW1';have hW : Hid (W1 = w.drew.setCells blk (off + i * 2) news) := hW1;have mixed := dA;have hic : i ≤ cap := by omega
    have hjc : j ≤ cap := by omega
    clear hW1 hW1' hH1 hH hget hnews hlen hji hZe
    go_enter Tryz.func88,Tryz.ntmps88
    go_wp2_with fail
    go_region_law_o (refine step_append_room rfl (.tmp 22) (.tmp 25) 79 rfl 87 inf 2 t22 t1 t2 blk off i cap (by simp [Act.eval,Act.put]) A (len - j) (cap - j) news (by simp [Act.eval,Act.put]) s1.out hsrc.out s2.out (by omega) s3.out ?_;rw [← hW.out])
    go_wp2
    go_ret
    refine ⟨by rw [show len - (j - i) = i + (len - j) by omega];rfl,1,Z,hZl,?_⟩
    rw [X.out,← K5 Z,show off + (i + (len - j)) * 2 = off + (i * 2 + (cs.length - j * 2)) by omega,putRow_setCells id _ blk off _ _ _ (by rw [lay_size,mQ];omega),K5,
      J8 cs (i * 2) (j * 2) _ (by omega) (by omega) (by omega)]
theorem zE4 (l : List G) (i j : Nat) (hij : i ≤ j) (hj : j ≤ l.length) (hne : l ≠ []) :
    aT Tryz.prog 88 [.sl 0 0 l.length 2,.i (i : Int),.i (j : Int)] [.arr (iW l) 2] (.sl 0 0 (l.length - (j - i)) 2) [.arr (iW (l.take i ++ l.drop j)) 2] := by
  have h := yT (sz := 2) ⟨_,Tryz.func88,by kernel_rfl,by kernel_rfl⟩ YP (iW l) (oT l) (SI l) i j hij (by rw [bC];exact hj) (fun h => hne (lA.1 h))
  rw [bC,← kG,← List.map_drop,← dH] at h;exact h
end Go.Proofs.YtmmkhmilpeodnaaGreat
namespace Go.Proofs.YtmmkhmilpeodnaaGreat
open Go Go.Ab Go.Shelf Go.Proofs
shelf_lay Lays2.n23 Nm2 23 at Tryz as laysDelete
theorem TB (l : List Int) (i j : Nat) (hij : i ≤ j) (hj : j ≤ l.length) (hne : l ≠ []) :
    aT Tryz.prog 142 [.sl 0 0 l.length 1,.i (i : Int),.i (j : Int)] [.arr (ints l) 1] (.sl 0 0 (l.length - (j - i)) 1) [.arr (ints (l.take i ++ l.drop j)) 1] :=
  CZ ⟨_,Tryz.func142,by kernel_rfl,by kernel_rfl⟩ (fun blk off cap i j zs w h1 h2 h3 h4 h5 => Any.slices_Delete_int laysDelete blk off cap i j zs w h1 h2 h3 h4 h5) l i j hij hj hne
end Go.Proofs.YtmmkhmilpeodnaaGreat
namespace Go.Ld
open Go.Ab Go.Proofs.YtmmkhmilpeodnaaGreat
abbrev fR (q : W → Bool) (l : List W) : List W := l.filter fun x => !q x
theorem uE {q : W → Bool} {l : List W} {k : Nat} (h : k < l.length) : fR q (l.take (k + 1)) = if q l[k] then fR q (l.take k) else fR q (l.take k) ++ [l[k]] := by
  unfold fR;rw [aQ h,List.filter_append];cases e : q l[k] <;> simp [e]
theorem FJ (q : W → Bool) (l : List W) (k : Nat) : (fR q (l.take k)).length ≤ k := bY (DG _ _) (by simp;omega)
theorem H0 {α : Type} (p : α → Bool) : ∀ (l : List α) (k : Nat), (qY p l k = -1 ∧ ∀ x, x ∈ l → p x = false) ∨ ∃ (j : Nat) (hj : j < l.length), qY p l k = ((k + j : Nat) : Int) ∧ p l[j] = true ∧ ∀ x, x ∈ l.take j → p x = false
  | [],k => .inl ⟨rfl,fun x hx => by cases hx⟩
  | y :: l,k => by
    unfold qY;cases hp : p y with
    | true => exact .inr ⟨0,by simp,by rw [if_pos rfl];rfl,by simpa using hp,fun x hx => by simp at hx⟩
    | false =>
      rw [if_neg (by simp)]
      rcases H0 p l (k + 1) with ⟨h1,h2⟩ | ⟨j,hj,h1,h2,h3⟩
      · refine .inl ⟨h1,fun x hx => ?_⟩
        rcases bL.1 hx with rfl | hx
        · exact hp
        · exact h2 x hx
      · refine .inr ⟨j + 1,by simp;omega,by rw [h1];omega,by simpa using h2,fun x hx => ?_⟩
        rw [nG] at hx;rcases bL.1 hx with rfl | hx
        · exact hp
        · exact h3 x hx
def G4 (m x : W) : W := if x.2.1 < m.2.1 then x else m
theorem FF : ∀ (l : List W) (f : W), (l.foldl G4 f).2.1 = l.foldl (fun m x => if x.2.1 < m then x.2.1 else m) f.2.1
  | [],_ => rfl
  | x :: l,f => by
    rw [yE,yE,FF l];congr 1;unfold G4;split <;> rfl
theorem NP {l : List W} {f : W} {k : Nat} (h : k < l.length) : (l.take (k + 1)).foldl G4 f = G4 ((l.take k).foldl G4 f) l[k] := by
  rw [aQ h,VE];rfl
end Go.Ld
namespace Go.Proofs.YtmmkhmilpeodnaaGreat
open Go Go.Ab Go.Ld
attribute [local irreducible] VC AW bX aT
set_option maxHeartbeats 4000000
theorem zG2 {F : FuncId} {caps : List AV} {q : W → Bool} (l : List W) (hl : l.length ≤ 1000000) (hi : AV.idfL caps = true) (hp : AV.plnL caps = true) (hF : ∀ x,x ∈ l → aT Tryz.prog F (.agg (wA x) :: caps) [] (.b (q x)) []) :
    aT Tryz.prog 104 [.sl 0 0 l.length 3,.clo (.func F) [] caps] [.arr (fL l) 3] (.sl 0 0 (fR q l).length 3) [.arr (fL (fR q l)) 3] := by
  have hll : (fL l).length = l.length := eM l;have hix := RU hl hi hF;have hvw : nF [.arr (fL l) 3] (.sl 0 0 l.length 3) (.rowE (fL l) 3) := sS rfl hll.symm (sW (fun _ => rfl) _);refine bT T Tryz.func104 rfl rfl rfl rfl ?_;rcases H0 q l 0 with ⟨h1,h2⟩ | ⟨j,hj,h1,h2,h3⟩
  · rw [h1] at hix;have hk : fR q l = l := yW.2 fun x hx => by rw [h2 x hx];rfl
    rw [hk]
    (repeat' (first|refine wS ?_|refine wR ?_|refine wT ?_|(refine rg 0 (aV ?_))|(refine rg 1 (dS rfl (vV (by exact eU rfl rfl hix (.cons hvw (.cons (.clo .nil (gD _ hp)) .nil)) rfl rfl) ?_));refine aV ?_)|(refine rg 2 (mW rfl (vV (eP rfl rfl) ?_)))|(refine rg 3 (mW rfl (aV ?_)))|refine nZ ?_));all_goals first | (exfalso;omega) | exact ⟨.inl rfl,[0],_,rfl,rfl,rfl,⟨.inr (aE rfl rfl (bG _)),trivial⟩,by decide,kU⟩
  · rw [h1,Nat.zero_add] at hix;have hk0 : fR q (l.take (j + 1)) = l.take j := by
      rw [uE hj,if_pos h2];exact yW.2 fun x hx => by rw [h3 x hx];rfl
    have hkl : (fR q (l.take (j + 1))).length = j := by rw [hk0];simp;omega
    have hka : fR q (l.take (j + 1)) ++ l.drop (fR q (l.take (j + 1))).length = l := by rw [hkl,hk0,bK]
    have hkf : fR q l = fR q (l.take l.length) := by rw [dD]
    rw [hkf]
    (repeat' (first|refine wS ?_|refine wB ?_|refine wK ?_|refine wU ?_|(refine rg 0 (aV ?_))|(refine rg 1 (dS rfl (vV (by exact eU rfl rfl hix (.cons hvw (.cons (.clo .nil (gD _ hp)) .nil)) rfl rfl) ?_));refine aV ?_)|(refine rg 2 (mW rfl (vV (eP rfl rfl) ?_)))|(refine iA 4 rfl rfl rfl (by omega) (by omega) ?_)|refine nZ ?_));all_goals try (exfalso;omega)
    refine dB (X := {m : Nat // m ≤ l.length}) (fun m => [(0,.sl 0 0 l.length 3),(1,.clo (.func F) [] caps),(5,.i (fR q (l.take m.1)).length),(6,.i m.1)]) (fun m => [.arr (fL (fR q (l.take m.1) ++ l.drop (fR q (l.take m.1)).length)) 3]) (fun m => l.length - m.1) ⟨j + 1,hj⟩ ⟨[0],rfl,⟨rfl,by rw [lH hi];rfl,by dsimp only;rw [hkl];rfl,rfl,trivial⟩,⟨.inr (aE rfl (by dsimp only;rw [hka]) (bG _)),trivial⟩,by decide,kU⟩ ?_
    rintro ⟨m,hm⟩;dsimp only;have hle := FJ q l m;by_cases hlt : m < l.length
    · have hs := uE (q := q) hlt;have hget := IZ (G := fR q (l.take m)) (l := l) (m := m) (i := 0 + (m : Int).toNat) hle hlt (by omega)
      have hg2 := IZ (G := fR q (l.take m)) (l := l) (m := (fR q (l.take m)).length) (i := 0 + (((fR q (l.take m)).length : Nat) : Int).toNat) (aY _) (by omega) (by omega)
      rw [nM hlt] at hget;have hset := zA6 (G := fR q (l.take m)) (l := l) (x := l[m]) (j := (((fR q (l.take m)).length : Nat) : Int)) (by omega) rfl
      have hc := hF l[m] (aH hlt);have hal := MY (G := fR q (l.take m)) (l := l) (by omega)
      generalize l[m] = x at *;generalize l.getD (fR q (l.take m)).length w0 = y at *;generalize hG : fR q (l.take m) = G at *;generalize hA : fL (G ++ l.drop G.length) = A at *;cases e : q x
      · rw [e] at hc hs;rw [if_neg (by simp)] at hs
        (repeat' (first|refine wS ?_|refine wB ?_|refine wK ?_|refine wT ?_|(refine wC rfl ?_ ?_<;>(intro hb;(try simp only [nm] at hb);try (exfalso;omega)))|(refine rg 5 (dS rfl (qW T rfl (vV (aO rfl rfl) ?_))))|(refine rg 7 (dS rfl (vV (by exact aM T rfl rfl rfl rfl rfl (by omega) (by omega)) ?_));refine vV (by exact aX T rfl rfl (bJ rfl hget) rfl) ?_;refine bV (bN T rfl) rfl (aU T rfl rfl rfl rfl rfl rfl (by decide) rfl ?_))|(refine rg 8 (mW rfl (vV (aX T rfl rfl rfl rfl) (vV (by exact eV rfl rfl hc rfl (by simp [AV.idfL,AV.idf,hi]) rfl) ?_)));refine vV (eD rfl) ?_)|(refine rg 9 (dS rfl (vV (aX T rfl rfl rfl rfl) (vV (by exact aM T rfl rfl rfl rfl rfl (by omega) (by omega)) ?_)));refine aU T rfl rfl rfl rfl rfl rfl (by decide) (mA rfl hg2 rfl) ?_)|(refine iA 10 rfl rfl rfl (by omega) (by omega) ?_)|(refine iA 6 rfl rfl rfl (by omega) (by omega) ?_)|refine nZ ?_));all_goals try (exfalso;omega)
        all_goals exact ⟨⟨m + 1,hlt⟩,by dsimp only;omega,[0],rfl,⟨rfl,by rw [lH hi];rfl,by rw [hs];simp only [aF];rfl,rfl,trivial⟩,⟨.inr (aE rfl (by rw [hs];exact hset) (bG _)),trivial⟩,by decide,kU⟩
      · rw [e] at hc hs;rw [if_pos rfl] at hs
        (repeat' (first|refine wS ?_|refine wB ?_|refine wK ?_|refine wU ?_|(refine wC rfl ?_ ?_<;>(intro hb;(try simp only [nm] at hb);try (exfalso;omega)))|(refine rg 5 (dS rfl (qW T rfl (vV (aO rfl rfl) ?_))))|(refine rg 7 (dS rfl (vV (by exact aM T rfl rfl rfl rfl rfl (by omega) (by omega)) ?_));refine vV (by exact aX T rfl rfl (bJ rfl hget) rfl) ?_;refine bV (bN T rfl) rfl (aU T rfl rfl rfl rfl rfl rfl (by decide) rfl ?_))|(refine rg 8 (mW rfl (vV (aX T rfl rfl rfl rfl) (vV (by exact eV rfl rfl hc rfl (by simp [AV.idfL,AV.idf,hi]) rfl) ?_)));refine vV (eD rfl) ?_)|(refine iA 6 rfl rfl rfl (by omega) (by omega) ?_)|refine nZ ?_));all_goals try (exfalso;omega)
        all_goals exact ⟨⟨m + 1,hlt⟩,by dsimp only;omega,[0],rfl,⟨rfl,by rw [lH hi];rfl,by rw [hs];rfl,rfl,trivial⟩,⟨.inr (aE rfl (by rw [hs];exact hA.symm) (bG _)),trivial⟩,by decide,kU⟩
    · obtain rfl : m = l.length := by omega
      have hal := MY (G := fR q (l.take l.length)) (l := l) (by omega)
      have htk := OX (G := fR q (l.take l.length)) (l := l);generalize fR q (l.take l.length) = G at *
      (repeat' (first|refine wS ?_|refine wR ?_|refine wE ?_|(refine wC rfl ?_ ?_<;>(intro hb;(try simp only [nm] at hb);try (exfalso;omega)))|(refine rg 5 (dS rfl (qW T rfl (vV (aO rfl rfl) ?_))))|(refine rg 11 (dS rfl (vV (by exact jX T rfl rfl rfl rfl rfl rfl (by omega) (by omega) (by omega)) ?_));refine E8 T rfl rfl rfl ⟨rfl,rfl,by decide⟩ rfl (by rw [hal];omega) ?_)|(refine rg 12 (dS rfl (vV (by exact jX T rfl rfl rfl rfl rfl rfl (by omega) (by omega) (by omega)) ?_));refine aV ?_)|refine nZ ?_));all_goals try (exfalso;omega)
      all_goals exact ⟨.inl rfl,[0],_,rfl,(by show AV.sl 0 0 ((G.length : Int) - 0).toNat 3 = AV.sl 0 0 G.length 3;rw [show ((G.length : Int) - 0).toNat = G.length by omega]),rfl,⟨.inr (aE rfl htk (bG _)),trivial⟩,by decide,kU⟩
abbrev zI5 : AV := .clo (.func 138) [] []
theorem OL {f : W} {l : List W} {k : Nat} (h : k < l.length) : (fL (f :: l))[((k : Int) + 1).toNat]? = some (wA l[k]) := by
  rw [show ((k : Int) + 1).toNat = k + 1 by omega];simp [h]
theorem zI4 (f : W) (l : List W) (hl : l.length ≤ 1000000) : aT Tryz.prog 137 [.rowE (fL (f :: l)) 3,zI5] [] (HI (l.foldl G4 f)) [] := by
  have hll : (fL (f :: l)).length = l.length + 1 := by simp
  have hg0 : (fL (f :: l))[(0 : Int).toNat]? = some (wA f) := rfl;refine bT T Tryz.func137 rfl rfl rfl rfl ?_
  (repeat' (first|refine wS ?_|refine wB ?_|refine wK ?_|refine wU ?_|(refine rg 0 (bV (bN T rfl) rfl ?_))|(refine rg 1 (mW rfl (qW T rfl (vV (aO rfl rfl) ?_))))|(refine rg 3 (mW rfl (vV (ix T rfl (by omega) (kP _) hg0) (lW T rfl (bV (bN T rfl) rfl (aU T rfl rfl rfl rfl rfl rfl (by decide) rfl ?_))))))|(refine rg 4 (aV ?_))|refine nZ ?_));all_goals try (exfalso;omega)
  refine dB (X := {k : Nat // k ≤ l.length}) (fun k => [(0,.rowE (fL (f :: l)) 3),(1,zI5),(4,.ptr 0 0),(5,.ptr 1 0),(6,.i ((k.1 : Int) + 1))]) (fun k => [.cells [.nils,.i 0,.nils],.cells (wA ((l.take k.1).foldl G4 f))]) (fun k => l.length - k.1) ⟨0,cK _⟩ ⟨[0,1],rfl,by (repeat (first | exact trivial | refine ⟨rfl,?_⟩)),⟨.inr rfl,.inr rfl,trivial⟩,by decide,lB _⟩ ?_
  rintro ⟨k,hk⟩;dsimp only;by_cases hlt : k < l.length
  · have hs := NP (f := f) hlt;have hg := OL (f := f) hlt;have hc := RP l[k] ((l.take k).foldl G4 f);generalize l[k] = x at *;generalize (l.take k).foldl G4 f = m at *;by_cases h0 : x.2.1 < m.2.1
    · have hv : cI x.2.1 m.2.1 = -1 := by unfold cI;rw [if_pos h0]
      rw [hv] at hc;rw [G4,if_pos h0] at hs
      (repeat' (first|refine wS ?_|refine wB ?_|refine wK ?_|refine wT ?_|(refine wC rfl ?_ ?_<;>(intro hb;(try simp only [nm] at hb);try (exfalso;omega)))|(refine rg 5 (dS rfl (qW T rfl (vV (aO rfl rfl) ?_))))|(refine cM (id := 7) 33 [[],[],[],[1,2],[1,2,3],[],rN 6,rN 7] (rM 20 8) [[],[20],[20,21],[20],[20],rM 20 5,[],[]] dA rfl (by decide +kernel) (dN rfl (dN rfl (dN rfl (dV rfl (ix T rfl (by omega) (kP _) hg) (dO T rfl (dO T rfl (dV rfl (kC (hc)) (dV rfl (aO rfl rfl) (dE ?_))))))))))|(refine rg 8 (dS rfl (vV (ix T rfl (by omega) (kP _) hg) (lW T rfl (aU T rfl rfl rfl rfl rfl rfl (by decide) rfl ?_)))))|(refine iA 6 rfl rfl rfl (by omega) (by omega) ?_)|refine nZ ?_));all_goals try (exfalso;omega)
      all_goals exact ⟨⟨k + 1,hlt⟩,by dsimp only;omega,[0,1],rfl,by (repeat (first | exact trivial | refine ⟨rfl,?_⟩)),⟨.inr rfl,.inr (by dsimp only;rw [hs];rfl),trivial⟩,by decide,lB _⟩
    · have hv : 0 ≤ cI x.2.1 m.2.1 := by unfold cI;rw [if_neg h0];split <;> omega
      rw [G4,if_neg h0] at hs;generalize cI x.2.1 m.2.1 = v at *
      (repeat' (first|refine wS ?_|refine wB ?_|refine wK ?_|(refine wC rfl ?_ ?_<;>(intro hb;(try simp only [nm] at hb);try (exfalso;omega)))|(refine rg 5 (dS rfl (qW T rfl (vV (aO rfl rfl) ?_))))|(refine cM (id := 7) 33 [[],[],[],[1,2],[1,2,3],[],rN 6,rN 7] (rM 20 8) [[],[20],[20,21],[20],[20],rM 20 5,[],[]] dA rfl (by decide +kernel) (dN rfl (dN rfl (dN rfl (dV rfl (ix T rfl (by omega) (kP _) hg) (dO T rfl (dO T rfl (dV rfl (kC (hc)) (dV rfl (aO rfl rfl) (dE ?_))))))))))|(refine iA 6 rfl rfl rfl (by omega) (by omega) ?_)|refine nZ ?_));all_goals try (exfalso;omega)
      all_goals exact ⟨⟨k + 1,hlt⟩,by dsimp only;omega,[0,1],rfl,by (repeat (first | exact trivial | refine ⟨rfl,?_⟩)),⟨.inr rfl,.inr (by dsimp only;rw [hs];rfl),trivial⟩,by decide,lB _⟩
  · obtain rfl : k = l.length := by omega
    rw [dD];generalize l.foldl G4 f = m at *
    (repeat' (first|refine wS ?_|refine wR ?_|refine wE ?_|(refine wC rfl ?_ ?_<;>(intro hb;(try simp only [nm] at hb);try (exfalso;omega)))|(refine rg 5 (dS rfl (qW T rfl (vV (aO rfl rfl) ?_))))|(refine rg 9 (lW T rfl (aU T rfl rfl rfl rfl rfl rfl (by decide) rfl ?_)))|refine nZ ?_));all_goals first | (exfalso;omega) | exact ⟨.inl rfl,[],_,rfl,rfl,rfl,trivial,by decide,lB _⟩
theorem zO4 : CF Tryz.prog 84 1 = some (3,1) := by kernel_rfl
theorem KN (g : G) (hne : g.2 ≠ []) (hl : g.2.length ≤ 1000000) : aT Tryz.prog 103 [OK g] [] (.i (iH g)) [] := by
  obtain ⟨b,ws⟩ := g;cases ws with
  | nil => exact absurd rfl hne
  | cons f l =>
    have hc := zI4 f l (by simp at hl;omega)
    show aT _ _ _ _ (.i (l.foldl (fun m x => if x.2.1 < m then x.2.1 else m) f.2.1)) []
    rw [← FF];generalize l.foldl G4 f = m at *;refine bT T Tryz.func103 rfl rfl rfl rfl ?_
    (repeat' (first|refine wS ?_|refine wR ?_|(refine rg 0 (bV (cO rfl rfl) rfl (aV ?_)))|(refine rg 1 (iP T rfl (vV (kC (hc)) (vV (by exact AD T rfl zO4 rfl rfl) ?_)));refine aV ?_)|refine nZ ?_));all_goals first | (exfalso;omega) | exact rQ
end Go.Proofs.YtmmkhmilpeodnaaGreat
namespace Go.Ld
open Go.Ab Go.Proofs.YtmmkhmilpeodnaaGreat
def wQ (g : G) : Int := match gS g with
  | some k => (k : Int)
  | none => -1
theorem GH {g : G} (h : g.1.length < 2 ∨ g.2 = []) : wQ g = -1 := by unfold wQ gS;rw [if_pos h]
theorem TK {g : G} {k : Nat} (h : ¬ (g.1.length < 2 ∨ g.2 = [])) (hk : k < g.1.length) (h1 : ∀ j,j < k → vP g j = false) (h2 : vP g k = true) : wQ g = k := by
  unfold wQ gS;rw [if_neg h,List.find?_range_eq_some.2 ⟨h2,by simpa using hk,fun j hj => by simp [h1 j hj]⟩]
theorem NY {g : G} (h : ¬ (g.1.length < 2 ∨ g.2 = [])) (h1 : ∀ j,j < g.1.length → vP g j = false) : wQ g = -1 := by
  unfold wQ gS;rw [if_neg h,List.find?_range_eq_none.2 (fun j hj => by simp [h1 j hj])]
def AI (f : W) (i : Nat) (w : W) : Bool := !decide (gP w i = gP f i ∧ gC w i = gC f i)
theorem HV {bs : List Int} {f : W} {l : List W} {i : Nat} : vP (bs,f :: l) i = !(f :: l).any (AI f i) := by
  show (f :: l).all (fun w => decide (gP w i = gP f i ∧ gC w i = gC f i)) = _;rw [List.not_any_eq_all_not];congr 1;funext w;simp [AI]
end Go.Ld
namespace Go.Proofs.YtmmkhmilpeodnaaGreat
open Go Go.Ab Go.Ld
attribute [local irreducible] VC AW bX aT qK
set_option maxHeartbeats 4000000
theorem ZM : qK Tryz.prog 48 2 := by unfold qK;kernel_rfl
theorem IV (w f : W) {i : Nat} (h1 : i < w.1.length) (h2 : i < w.2.2.length) (h3 : i < f.1.length) (h4 : i < f.2.2.length) (hs : E6 w) (hf : E6 f) :
    aT Tryz.prog 141 [HI w,.pr [.i i] 0,.pr (wA f) 0] [] (.b (AI f i w)) [] := by
  obtain ⟨p,m,c⟩ := w;obtain ⟨p',m',c'⟩ := f;dsimp only at h1 h2 h3 h4;unfold E6 at hs hf;dsimp only at hs hf;have hlp : (ints p).length = p.length := cT _;have hlp' : (ints p').length = p'.length := cT _;have hlc : (eS c).length = c.length := fX _;have hlc' : (eS c').length = c'.length := fX _;have q1 := lG (l := p) (j := (i : Int)) (i := i) 0 h1 rfl;have q2 := lG (l := p') (j := (i : Int)) (i := i) 0 h3 rfl;have q3 := pN (l := c) (j := (i : Int)) (i := i) h2 rfl;have q4 := pN (l := c') (j := (i : Int)) (i := i) h4 rfl;have hd : AI (p',m',c') i (p,m,c) = !decide (p.getD i 0 = p'.getD i 0 ∧ c.getD i (0,0) = c'.getD i (0,0)) := rfl;rw [hd];generalize p.getD i 0 = x at *;generalize p'.getD i 0 = y at *;generalize hr : c.getD i (0,0) = r at *;generalize hr' : c'.getD i (0,0) = r' at *;obtain ⟨a,b⟩ := r;obtain ⟨a',b'⟩ := r';dsimp only at q3 q4;by_cases h : x = y
  · rw [show (!decide (x = y ∧ (a,b) = (a',b'))) = !decide (a = a' ∧ b = b') by simp [h]]
    refine bT T Tryz.func141 rfl rfl rfl rfl ?_
    (repeat' (first|refine wS ?_|refine wR ?_|(refine rg 0 (bV (cO rfl rfl) rfl (aV ?_)))|(refine cM (id := 1) 29 zS3 (rM 5 24) zS4 dA rfl (by decide +kernel) (dP T rfl (dO T rfl (dO T rfl (dV rfl (ix T rfl (by omega) (cN p) q1) (dO T rfl (dP T rfl (dO T rfl (dO T rfl (dV rfl (ix T rfl (by omega) (cN p') q2) ?_)))))))));refine dO T rfl (dV rfl (nW rfl rfl h) (dN rfl (tP T rfl (tO T rfl (tO T rfl (dT rfl (ix T rfl (by omega) (iO c) q3) (tO T rfl (tP T rfl (tL T ?_)))))))));refine tO T rfl (dT rfl (ix T rfl (by omega) (iO c') q4) (tO T rfl (dT rfl (XR ZM rfl rfl) (dV rfl (iB rfl rfl) (dE ?_)))));refine aV ?_)|refine nZ ?_));all_goals first | (exfalso;omega) | exact rQ
  · rw [show (!decide (x = y ∧ (a,b) = (a',b'))) = true by simp [h]]
    refine bT T Tryz.func141 rfl rfl rfl rfl ?_
    (repeat' (first|refine wS ?_|refine wR ?_|(refine rg 0 (bV (cO rfl rfl) rfl (aV ?_)))|(refine cM (id := 1) 29 zS3 (rM 5 24) zS4 dA rfl (by decide +kernel) (dP T rfl (dO T rfl (dO T rfl (dV rfl (ix T rfl (by omega) (cN p) q1) (dO T rfl (dP T rfl (dO T rfl (dO T rfl (dV rfl (ix T rfl (by omega) (cN p') q2) ?_)))))))));refine dO T rfl (dV rfl (rV rfl rfl h) (dN rfl (tG rfl (tG rfl (tG rfl (tG rfl (tG rfl (tG rfl (dG ?_)))))))));refine tG rfl (tG rfl (tG rfl (tG rfl (dV rfl (jQ rfl rfl) (dE ?_)))));refine aV ?_)|refine nZ ?_));all_goals first | (exfalso;omega) | exact rQ
structure zF8 (g : G) : Prop where
  b : g.1.length ≤ 1000
  w : g.2.length ≤ 1000000
  p : ∀ w,w ∈ g.2 → w.1.length = g.1.length
  c : ∀ w,w ∈ g.2 → w.2.2.length = g.1.length
theorem zF8.sm {g : G} (h : zF8 g) {w : W} (hw : w ∈ g.2) : E6 w := ⟨by have := h.p w hw;have := h.b;omega,by have := h.c w hw;have := h.b;omega⟩
theorem NX (g : G) (hs : zF8 g) : aT Tryz.prog 106 [OK g] [] (.i (wQ g)) [] := by
  have hsz := hs;obtain ⟨bs,ws⟩ := g;obtain ⟨hb,hw,hp,hc⟩ := hs;dsimp only at hb hw hp hc;have hlb : (ints bs).length = bs.length := cT _;have hlw : (fL ws).length = ws.length := eM _;by_cases h0 : bs.length < 2
  · rw [GH (.inl h0)];refine bT T Tryz.func106 rfl rfl rfl rfl ?_
    (repeat' (first|refine wS ?_|refine wR ?_|refine wT ?_|(refine rg 0 (bV (cO rfl rfl) rfl (aV ?_)))|(refine rg 1 (iP T rfl (qW T rfl (vV (aO rfl rfl) (mV ?_))));refine cE rfl rfl ?_ ?_<;>(intro hb;rw [hb];(try simp only [nm] at hb);try (exfalso;omega));(all_goals ((iterate 4 refine gF ?_);refine pV ?_)))|(refine rg 2 (aV ?_))|refine nZ ?_));all_goals first | (exfalso;omega) | exact rQ
  · cases ws with
    | nil =>
      rw [GH (.inr rfl)];refine bT T Tryz.func106 rfl rfl rfl rfl ?_
      (repeat' (first|refine wS ?_|refine wR ?_|refine wT ?_|(refine rg 0 (bV (cO rfl rfl) rfl (aV ?_)))|(refine rg 1 (iP T rfl (qW T rfl (vV (aO rfl rfl) (mV ?_))));refine cE rfl rfl ?_ ?_<;>(intro hb;rw [hb];(try simp only [nm] at hb);try (exfalso;omega));(all_goals (refine yP T rfl (yO T rfl (gT (qW T rfl (yV (eP rfl rfl) (pV ?_))))))))|(refine rg 2 (aV ?_))|refine nZ ?_));all_goals first | (exfalso;omega) | exact rQ
    | cons f l =>
      have hn : ¬ (bs.length < 2 ∨ f :: l = []) := by rintro (h | h);exact h0 h;cases h
      have hg0 : (fL (f :: l))[(0 : Int).toNat]? = some (wA f) := rfl;have hl1 : (fL (f :: l)).length = l.length + 1 := by simp
      refine bT T Tryz.func106 rfl rfl rfl rfl ?_
      (repeat' (first|refine wS ?_|refine wB ?_|refine wK ?_|refine wU ?_|(refine rg 0 (bV (cO rfl rfl) rfl (aV ?_)))|(refine rg 1 (iP T rfl (qW T rfl (vV (aO rfl rfl) (mV ?_))));refine cE rfl rfl ?_ ?_<;>(intro hb;rw [hb];(try simp only [nm] at hb);try (exfalso;omega));(all_goals (refine yP T rfl (yO T rfl (gT (qW T rfl (yV (eP rfl rfl) (pV ?_))))))))|(refine rg 3 (iP T rfl (qW T rfl (mV ?_))))|refine nZ ?_));all_goals try (exfalso;omega)
      all_goals refine dB (X := {k : Nat // k ≤ bs.length ∧ ∀ j,j < k → vP (bs,f :: l) j = false}) (fun k => [(1,.ptr 0 0),(17,.i (ints bs).length),(18,.i k.1)]) (fun _ => [.cells [.rowE (ints bs) 1,.rowE (fL (f :: l)) 3]]) (fun k => bs.length - k.1) ⟨0,cK _,fun j hj => absurd hj (dW _)⟩ (eL [0]) ?_
      all_goals rintro ⟨k,hk,hj⟩
      all_goals dsimp only
      all_goals by_cases hlt : k < bs.length
      · have hlf : k < f.1.length := by rw [hp f aR];exact hlt
        have hlf2 : k < f.2.2.length := by rw [hc f aR];exact hlt
        have hcc := zC3 (caps := [.pr [.i k] 0,.pr (wA f) 0]) (p := AI f k) (l := f :: l) hw rfl (fun x hx => IV x f (by rw [hp x hx];exact hlt) (by rw [hc x hx];exact hlt) hlf hlf2 (hsz.sm hx) (hsz.sm aR))
        have hsa := HV (bs := bs) (f := f) (l := l) (i := k);cases hany : (f :: l).any (AI f k) with
        | false =>
          rw [hany] at hcc hsa;have hci := TK hn hlt hj hsa;rw [hci]
          (repeat' (first|refine wS ?_|refine wB ?_|refine wK ?_|refine wR ?_|refine wT ?_|(refine wC rfl ?_ ?_<;>(intro hb;(try simp only [nm] at hb);try (exfalso;omega)))|(refine rg 4 (vV (aO rfl rfl) ?_))|(refine rg 5 (mW rfl (bV (bN T rfl) rfl (aU T rfl rfl rfl rfl rfl rfl (by decide) rfl ?_))))|(refine rg 6 (iP T rfl (vV (ix T rfl (by omega) (kP _) hg0) (lW T rfl (bV (bN T rfl) rfl (aU T rfl rfl rfl rfl rfl rfl (by decide) rfl ?_))))))|(refine rg 7 (iP T rfl (vV (by exact jD rfl rfl) ?_));refine vV (by exact eU rfl rfl hcc (.cons (.row _ _ _) (.cons (.clo .nil (.cons (.ptr rfl (.cons (.v _) .nil)) (.cons (.ptr rfl (.cons (.row _ _ _) (.cons (.v _) (.cons (.row _ _ _) .nil)))) .nil))) .nil)) rfl rfl) ?_;refine vV (eD rfl) ?_)|(refine rg 8 (lW T rfl (aV ?_)))|refine nZ ?_));all_goals first | (exfalso;omega) | exact rQ
        | true =>
          rw [hany] at hcc hsa
          (repeat' (first|refine wS ?_|refine wB ?_|refine wK ?_|refine wU ?_|(refine wC rfl ?_ ?_<;>(intro hb;(try simp only [nm] at hb);try (exfalso;omega)))|(refine rg 4 (vV (aO rfl rfl) ?_))|(refine rg 5 (mW rfl (bV (bN T rfl) rfl (aU T rfl rfl rfl rfl rfl rfl (by decide) rfl ?_))))|(refine rg 6 (iP T rfl (vV (ix T rfl (by omega) (kP _) hg0) (lW T rfl (bV (bN T rfl) rfl (aU T rfl rfl rfl rfl rfl rfl (by decide) rfl ?_))))))|(refine rg 7 (iP T rfl (vV (by exact jD rfl rfl) ?_));refine vV (by exact eU rfl rfl hcc (.cons (.row _ _ _) (.cons (.clo .nil (.cons (.ptr rfl (.cons (.v _) .nil)) (.cons (.ptr rfl (.cons (.row _ _ _) (.cons (.v _) (.cons (.row _ _ _) .nil)))) .nil))) .nil)) rfl rfl) ?_;refine vV (eD rfl) ?_)|(refine rg 9 (vV (bU rfl rfl (by omega) (by omega)) (mV ?_)))|refine nZ ?_));all_goals first | (exfalso;omega) | skip
          all_goals exact ⟨⟨k + 1,by omega,fun j hjk => (gQ j k).elim (hj j) (fun h => by obtain rfl : j = k := (by omega);exact hsa)⟩,by dsimp only;omega,eL [0]⟩
      · rw [NY hn (fun j hjl => hj j (by dsimp only at hjl;omega))]
        (repeat' (first|refine wS ?_|refine wR ?_|refine wE ?_|(refine wC rfl ?_ ?_<;>(intro hb;(try simp only [nm] at hb);try (exfalso;omega)))|(refine rg 4 (vV (aO rfl rfl) ?_))|(refine rg 10 (aV ?_))|refine nZ ?_));all_goals first | (exfalso;omega) | exact rQ
end Go.Proofs.YtmmkhmilpeodnaaGreat
namespace Go.Ld
open Go.Ab Go.Proofs.YtmmkhmilpeodnaaGreat
theorem C9 {α : Type} (l : List α) (k : Nat) : l.take k ++ l.drop (k + 1) = l.eraseIdx k := (List.eraseIdx_eq_take_drop_succ l k).symm
end Go.Ld
namespace Go.Proofs.YtmmkhmilpeodnaaGreat
open Go Go.Ab Go.Ld
attribute [local irreducible] VC AW bX aT qK kT
set_option maxHeartbeats 4000000
theorem WB (g : G) {k : Nat} (hs : zF8 g) (hk : k < g.1.length) (h2 : 2 ≤ g.1.length) (hne : g.2 ≠ []) (hsm : g.2.length ≤ 100000) :
    aT Tryz.prog 107 [OK g,.i k] [] (.tup [OK (mG g k),OK (jK g k)]) [] := by
  have hsz := hs;obtain ⟨bs,ws⟩ := g;obtain ⟨hb,hw,hp,hc⟩ := hs;dsimp only at hb hw hp hc hk h2 hsm;cases ws with
  | nil => exact absurd rfl hne
  | cons f l =>
  have hlb : (ints bs).length = bs.length := cT _;have hf1 := hp f aR;have hf2 := hc f aR;have hlp : (ints f.1).length = f.1.length := cT _;have hlc : (eS f.2.2).length = f.2.2.length := fX _;have hg0 : (fL (f :: l))[(0 : Int).toNat]? = some (wA f) := rfl;have hl1 : (fL (f :: l)).length = l.length + 1 := by simp
  have q1 := lG (l := bs) (j := (k : Int)) (i := k) 0 hk rfl;have q2 := lG (l := f.1) (j := (k : Int)) (i := k) 0 (by omega) rfl
  have q3 := pN (l := f.2.2) (j := (k : Int)) (i := k) (by omega) rfl
  have cl := CO bs (by omega)
  have dl := TB bs k (k + 1) (by omega) (by omega) (by intro h;rw [h] at hk;simp at hk)
  rw [C9,show bs.length - (k + 1 - k) = bs.length - 1 by omega,show ((k + 1 : Nat) : Int) = (k : Int) + 1 by omega] at dl
  have hel : (bs.eraseIdx k).length = bs.length - 1 := by rw [fO,if_pos hk]
  obtain ⟨L,hL⟩ : ∃ L,f :: l = L := ⟨_,rfl⟩;have hp' : ∀ w,w ∈ L → w.1.length = bs.length := by rw [← hL];exact hp
  have hc' : ∀ w,w ∈ L → w.2.2.length = bs.length := by rw [← hL];exact hc
  have hsm' : L.length ≤ 100000 := by rw [← hL];exact hsm
  have hsz' : ∀ w,w ∈ L → E6 w := by rw [← hL];exact fun w h => hsz.sm h
  obtain ⟨R,hR⟩ : ∃ R,R = L.map (YM k) := ⟨_,rfl⟩;have hor : jK (bs,f :: l) k = (bs.eraseIdx k,fY R) := by rw [hR,← hL];rfl
  rw [hor]
  have ho := Z1 R (by rw [hR,bC];exact hsm') (fun w hw' => by
    rw [hR] at hw';obtain ⟨v,hv,rfl⟩ := bI.1 hw';have h1 := hp' v hv;have h2 := hc' v hv;unfold E6 YM;dsimp only;rw [fO,fO]
    constructor <;> split <;> omega)
  refine zR (res := .tup [.agg [.sl 0 0 1 1,.sl 3 0 1 3],.agg [.rowE (ints (bs.eraseIdx k)) 1,.rowE (fL (fY R)) 3]]) (hout := [.arr (ints [bs.getD k 0]) 1,.arr (ints [f.1.getD k 0]) 1,.arr (eS [f.2.2.getD k (0,0)]) 2,.arr [[.sl 1 0 1 1,.i 0,.sl 2 0 1 2]] 3]) ?_ (.tup (.cons (.agg (.cons (E7 rfl rfl) (.cons (.sl rfl (by decide) (.cons (E7 rfl rfl) (.cons (.v _) (.cons (N7 rfl rfl) .nil)))) .nil))) (.cons (.agg (.cons (.row _ _ _) (.cons (.row _ _ _) .nil))) .nil)))
  generalize bs.getD k 0 = x1 at *;generalize f.1.getD k 0 = x2 at *;generalize hr : f.2.2.getD k (0,0) = r at *;obtain ⟨a1,a2⟩ := r;dsimp only at q3;refine bT T Tryz.func107 rfl rfl rfl rfl ?_
  (repeat' (first|refine wS ?_|(refine rg 0 (bV (cO rfl rfl) rfl (bV (bN T rfl) rfl (bV (bN T rfl) rfl ?_))))|(refine rg 1 (iP T rfl (vV (ix T rfl (by omega) (kP _) hg0) (lW T rfl (bV (bN T rfl) rfl (aU T rfl rfl rfl rfl rfl rfl (by decide) rfl ?_))))))|(refine cM (id := 2) 78 [[],[0],[],[0,1,2],rN 4,rN 5,[],[6],[],[6,7,8],rM 6 4,rM 6 5,[],[12],[],[12,13,14],rM 12 4,rM 12 5,rM 6 12,rM 6 13,rN 20] (rM 13 21) [[],[],[13,14],[],[],[],rM 13 6,rM 13 6,rM 13 8,rM 13 6,rM 13 6,rM 13 6,rM 13 12,rM 13 12,rM 13 14,rM 13 12,rM 13 12,rM 13 12,rM 13 6,rM 13 6,[]] dA rfl (by decide +kernel) (dP T rfl (dO T rfl (dN rfl (dV rfl (ix T rfl (by omega) (cN bs) q1) (dO T rfl (zM rfl rfl rfl (by exact bE T rfl rfl (by decide) (by decide) rfl rfl rfl) rfl ?_))))));refine dP T rfl (dO T rfl (dN rfl (dV rfl (ix T rfl (by omega) (cN f.1) q2) (dO T rfl (zM rfl rfl rfl (by exact bE T rfl rfl (by decide) (by decide) rfl rfl rfl) rfl ?_)))));refine dP T rfl (dO T rfl (dN rfl (dV rfl (ix T rfl (by omega) (iO f.2.2) q3) (dO T rfl (zM rfl rfl rfl (by exact bE T rfl rfl (by decide) (by decide) rfl rfl rfl) rfl ?_)))));refine dV rfl (by exact eW T rfl rfl rfl rfl) ?_;refine zM rfl rfl rfl (by exact bE T rfl rfl (by decide) (by decide) rfl rfl rfl) rfl ?_;refine dV rfl (by exact eW T rfl rfl rfl rfl) ?_;refine dE ?_;refine aU T rfl rfl rfl rfl rfl rfl (by decide) rfl ?_)|(refine rg 3 (iP T rfl (bV (by exact fZ rfl rfl cl (.inr ⟨rfl,rfl,by simp⟩)) rfl ?_));refine dS rfl (vV (bU rfl rfl (by omega) (by omega)) (fQ [8] rfl rfl (dl) rfl rfl (by decide) ⟨.inr (aE rfl (cC _ (bS _)) (bS _)),trivial⟩ (by simp) rfl ?_));refine fW T rfl (aU T rfl rfl rfl rfl rfl rfl (by decide) rfl ?_))|refine nZ ?_));refine fA [(1, .i k), (2, .ptr 0 0), (4, .ptr 1 0), (5, .ptr 2 0)] [.cells [.rowE (ints bs) 1, .rowE (fL (f :: l)) 3], .cells [.sl 3 0 1 1, .sl 6 0 1 3], .cells [.sl 7 0 (bs.length - 1) 1, .nils], .arr (ints [x1]) 1, .arr (ints [x2]) 1, .arr (eS [(a1, a2)]) 2, .arr [[.sl 4 0 1 1, .i 0, .sl 5 0 1 2]] 3, .arr (ints (bs.eraseIdx k)) 1]
    ⟨[0,1,2,4,5,6,7,8],rfl,(by repeat first|exact trivial|refine ⟨rfl,?_⟩),⟨.inr rfl,.inr rfl,.inr rfl,.inr rfl,.inr rfl,.inr rfl,.inr rfl,.inr (aE rfl (cC _ (bS _)) (bS _)),trivial⟩,by decide,lB _⟩ ?_
  refine mL 2 0 rfl rfl rfl (by rw [cT,hel]) (gX (bS _)) ?_
  refine uR 2 1 3 rfl rfl (by decide) ?_
  rw [hL]
  (repeat' (first|refine wB ?_|(refine rg 4 (iP T rfl (qW T rfl (mV ?_))))|refine nZ ?_));refine dB (X := {i : Nat // i ≤ L.length}) (fun i => [(1, .i k), (4, .ptr 0 0), (5, .ptr 1 0), (43, .rowE (fL L) 3), (44, .i (fL L).length), (45, .i i.1)]) (fun i => [.cells [.sl 2 0 1 1, .sl 5 0 1 3], .cells [.rowE (ints (bs.eraseIdx k)) 1, .sl 6 0 i.1 3], .arr (ints [x1]) 1, .arr (ints [x2]) 1, .arr (eS [(a1, a2)]) 2, .arr [[.sl 3 0 1 1, .i 0, .sl 4 0 1 2]] 3, .arr (fL (R.take i.1)) 3]) (fun i => L.length - i.1) ⟨0, cK _⟩
    ⟨[1,2,3,4,5,6,8],rfl,(by repeat first|exact trivial|refine ⟨rfl,?_⟩),⟨.inr rfl,.inr rfl,.inr rfl,.inr rfl,.inr rfl,.inr rfl,.inr rfl,trivial⟩,by decide,lB _⟩ ?_
  rintro ⟨i,hi⟩;dsimp only;have hLl : (fL L).length = L.length := eM _;have hRl : R.length = L.length := by rw [hR,bC]
  by_cases hlt : i < L.length
  · have hg := pZ hlt;have hv1 := hp' L[i] (aH hlt);have hv2 := hc' L[i] (aH hlt);have hRs : R.take (i + 1) = R.take i ++ [YM k L[i]] := by rw [aQ (by omega)];simp [hR]
    have hwm := hsz' _ (aH hlt);generalize L[i] = v at *;have hcw := CN v hwm;obtain ⟨p,m,c⟩ := v;dsimp only at hv1 hv2 hcw hRs;have e1 := U6 (TB p k (k + 1) (by omega) (by omega) (by intro h;rw [h] at hv1;simp at hv1;omega))
    have e2 := U6 (zE3 c k (k + 1) (by omega) (by omega) (by intro h;rw [h] at hv2;simp at hv2;omega))
    rw [C9,show p.length - (k + 1 - k) = p.length - 1 by omega,show ((k + 1 : Nat) : Int) = (k : Int) + 1 by omega] at e1
    rw [C9,show c.length - (k + 1 - k) = c.length - 1 by omega,show ((k + 1 : Nat) : Int) = (k : Int) + 1 by omega] at e2
    (repeat' (first|refine wS ?_|refine wB ?_|refine wK ?_|(refine wC rfl ?_ ?_<;>(intro hb;(try simp only [nm] at hb);try (exfalso;omega)))|(refine rg 5 (vV (aO rfl rfl) ?_))|(refine rg 6 (vV (ix T rfl (by omega) (kP _) hg) (lW T rfl (bV (bN T rfl) rfl (aU T rfl rfl rfl rfl rfl rfl (by decide) rfl ?_)))))|(refine rg 7 (lW T rfl (bV (by exact fZ rfl rfl hcw (.inr ⟨rfl,rfl,by simp⟩)) rfl ?_));refine aU T rfl rfl rfl rfl rfl rfl (by decide) rfl ?_)|refine nZ ?_));all_goals try (exfalso;omega)
    refine fA [(1, .i k), (4, .ptr 0 0), (5, .ptr 1 0), (8, .ptr 7 0), (43, .rowE (fL L) 3), (44, .i (fL L).length), (45, .i i)] [.cells [.sl 2 0 1 1, .sl 5 0 1 3], .cells [.rowE (ints (bs.eraseIdx k)) 1, .sl 6 0 i 3], .arr (ints [x1]) 1, .arr (ints [x2]) 1, .arr (eS [(a1, a2)]) 2, .arr [[.sl 3 0 1 1, .i 0, .sl 4 0 1 2]] 3, .arr (fL (R.take i)) 3, .cells [.sl 8 0 p.length 1, .i m, .sl 9 0 c.length 2], .arr (ints p) 1, .arr (eS c) 2]
      ⟨[0,1,2,3,4,5,6,7,8,9],rfl,(by repeat first|exact trivial|refine ⟨rfl,?_⟩),⟨.inr rfl,.inr rfl,.inr rfl,.inr rfl,.inr rfl,.inr rfl,.inr (aE rfl rfl (bG _)),.inr rfl,.inr (aE rfl (cC _ (bS _)) (bS _)),.inr (aE rfl (cC _ (eR _)) (eR _)),trivial⟩,by decide,lB _⟩ ?_
    repeat' (first|(refine tK (id := 8) 78 [[],[0],[],[],[3],rN 5,[],[6],[],[],[9],rN 11,rN 8,rN 13] (rM 51 13) [[],[],[51,52],[51,52,53],[51,52,53],[],rM 51 6,rM 51 6,rM 51 8,rM 51 9,rM 51 9,[],rM 59 4,[]] [(5,8),(11,9),(13,7)] dA rfl (by decide +kernel) (fJ rfl rfl rfl rfl (by exact bZ T rfl rfl rfl) ?_);refine fJ rfl rfl rfl rfl (by exact aX T rfl rfl rfl rfl) ?_;refine fJ rfl rfl rfl rfl (by exact bW rfl) ?_;refine fJ rfl rfl rfl rfl (by exact bW rfl) ?_;refine fJ rfl rfl rfl rfl (by exact bU rfl rfl (by omega) (by omega)) ?_;refine wM rfl rfl rfl rfl (aP rfl) (by exact GS [8] rfl rfl (e1) (fun _=>rfl) rfl (by decide) (fun _=>⟨.inr (aE rfl rfl (bS _)),trivial⟩) (by simp) rfl (fun _ _=>rfl) rfl rfl) ?_;refine fJ rfl rfl rfl rfl (by exact bZ T rfl rfl rfl) ?_;refine fJ rfl rfl rfl rfl (by exact aX T rfl rfl rfl rfl) ?_;refine fJ rfl rfl rfl rfl (by exact bW rfl) ?_;refine fJ rfl rfl rfl rfl (by exact bW rfl) ?_;refine fJ rfl rfl rfl rfl (by exact bU rfl rfl (by omega) (by omega)) ?_;refine wM rfl rfl rfl rfl (aP rfl) (by exact GS [9] rfl rfl (e2) (fun _=>rfl) rfl (by decide) (fun _=>⟨.inr (aE rfl rfl (eR _)),trivial⟩) (by simp) rfl (fun _ _=>rfl) rfl rfl) ?_;refine fJ rfl rfl rfl rfl (by exact bZ T rfl rfl rfl) ?_;refine CJ rfl rfl rfl rfl (aP rfl) T rfl rfl rfl rfl rfl rfl (by decide) rfl ?_;refine D2 rfl rfl rfl (by exact rfl) ?_;refine fW T rfl (aU T rfl rfl rfl rfl rfl rfl (by decide) rfl ?_))|refine nZ ?_)
    show AW _ _ _ _ _ _;have l1 : (p.eraseIdx k).length = p.length - 1 := by rw [fO,if_pos (by omega)]
    have l2 : (c.eraseIdx k).length = c.length - 1 := by rw [fO,if_pos (by omega)]
    refine fA [(1, .i k), (4, .ptr 0 0), (5, .ptr 1 0), (8, .ptr 7 0), (43, .rowE (fL L) 3), (44, .i (fL L).length), (45, .i i)] [.cells [.sl 2 0 1 1, .sl 5 0 1 3], .cells [.rowE (ints (bs.eraseIdx k)) 1, .sl 6 0 i 3], .arr (ints [x1]) 1, .arr (ints [x2]) 1, .arr (eS [(a1, a2)]) 2, .arr [[.sl 3 0 1 1, .i 0, .sl 4 0 1 2]] 3, .arr (fL (R.take i)) 3, .cells [.sl 8 0 (p.length - 1) 1, .i m, .sl 9 0 (c.length - 1) 2], .arr (ints (p.eraseIdx k)) 1, .arr (eS (c.eraseIdx k)) 2]
      ⟨[0,1,2,3,4,5,6,7,8,9],rfl,(by repeat first|exact trivial|refine ⟨rfl,?_⟩),⟨.inr rfl,.inr rfl,.inr rfl,.inr rfl,.inr rfl,.inr rfl,.inr (aE rfl rfl (bG _)),.inr rfl,.inr (aE rfl (cC _ (bS _)) (bS _)),.inr (aE rfl (cC _ (eR _)) (eR _)),trivial⟩,by decide,lB _⟩ ?_
    refine mL 7 0 rfl rfl rfl (by rw [cT,l1]) (gX (bS _)) ?_
    refine mL 7 2 rfl rfl rfl (by rw [fX,l2]) (gX (eR _)) ?_
    have hW : fL (R.take (i + 1)) = fL (R.take i) ++ [[.rowE (ints (p.eraseIdx k)) 1,.i m,.rowE (eS (c.eraseIdx k)) 2]] := by rw [hRs,fL,dH];rfl
    have hTl : (fL (R.take i)).length = i := by rw [eM,bD];omega
    generalize fL (R.take i) = Q at *
    (repeat' (first|(refine rg 9 (iP T rfl (lW T rfl (bV (by exact bE T rfl rfl (by decide) (by decide) rfl rfl rfl) rfl ?_)));refine hO T rfl rfl rfl rfl rfl rfl (by omega) (lD.whole rfl rfl) rfl (by simp;omega) (by simp;omega) rfl ?_;refine fW T rfl (aU T rfl rfl rfl rfl rfl rfl (by decide) rfl ?_))|(refine rg 10 (vV (bU rfl rfl (by omega) (by omega)) (mV ?_)))|refine nZ ?_));all_goals try (exfalso;omega)
    exact ⟨⟨i + 1,hlt⟩,by dsimp only;omega,⟨[0,1,2,3,4,5,11],rfl,(by repeat first|exact trivial|refine ⟨rfl,?_⟩),⟨.inr rfl,.inr rfl,.inr rfl,.inr rfl,.inr rfl,.inr rfl,.inr (aE rfl (by dsimp only;rw [hW];exact mZ hTl.symm) (bG _)),trivial⟩,by decide,lB _⟩⟩
  · obtain rfl : i = L.length := by omega
    rw [show R.take L.length = R by rw [← hRl,dD]]
    show AW _ _ _ _ _ _;refine mL 1 1 rfl rfl rfl (by rw [eM,hRl]) (gX (bG _)) ?_
    generalize fY R = R' at *
    (repeat' (first|refine wS ?_|refine wR ?_|refine wE ?_|(refine wC rfl ?_ ?_<;>(intro hb;(try simp only [nm] at hb);try (exfalso;omega)))|(refine rg 5 (vV (aO rfl rfl) ?_))|(refine rg 11 (iP T rfl (vV (kC (ho)) (fW T rfl (aU T rfl rfl rfl rfl rfl rfl (by decide) rfl ?_)))))|(refine mX (id := 12) 78 [[],[],[0]] [76,77] [[],[76],[77]] [(2,0)] dA rfl (by decide +kernel) (cH rfl rfl rfl rfl (by exact aX T rfl rfl rfl rfl) ?_);refine cH rfl rfl rfl rfl (by exact aX T rfl rfl rfl rfl) ?_;refine uM rfl rfl rfl rfl (aP rfl) T rfl rfl rfl rfl rfl rfl (by decide) rfl ?_;refine qF rfl rfl rfl (by exact rfl) ?_;refine aU T rfl rfl rfl rfl rfl rfl (by decide) rfl ?_)|refine nZ ?_));all_goals first | (exfalso;omega) | exact ⟨.inl rfl,[2,3,4,5],_,rfl,rfl,rfl,⟨.inr rfl,.inr rfl,.inr rfl,.inr rfl,trivial⟩,by decide,lB _⟩
end Go.Proofs.YtmmkhmilpeodnaaGreat
namespace Go.Ld
open Go.Ab Go.Proofs.YtmmkhmilpeodnaaGreat
theorem wG {L : List G} {j : Int} {i : Nat} {x : G} (h : L[i]? = some x) (e : j = i) : (iW L)[0 + j.toNat]? = some (gA x) := by
  subst e;simp [h]
theorem C2 {L : List G} {j : Int} {i : Nat} {x : G} (e : j = i) : (iW L).set (0 + j.toNat) (gA x) = iW (L.set i x) := by
  subst e;simp [iW,zT]
abbrev GW (l : List G) : Prop := l.Pairwise (fun a b => cG a b ≤ 0)
def L5 (l : List G) : Prop := ∀ a b,a ∈ l → b ∈ l → cG a b = 0 → a = b
theorem zE6 {a : G} : cG a a = 0 := oV.rfl' _
theorem IW (a b : G) : cG a b = - cG b a := oV.neg _ _
theorem LD {a b d : G} (h1 : cG a b ≤ 0) (h2 : cG b d ≤ 0) : cG a d ≤ 0 := oV.le_tr (a := a.1.headD 0) (b := b.1.headD 0) (d := d.1.headD 0) h1 h2
theorem FM (w : G) : ∀ {l : List G}, GW l → GW (V8 cG w l)
  | [],_ => kS _ _
  | x :: l,hl => by
    have hl' := eK.1 hl;unfold V8;split
    · rename_i hw;refine eK.2 ⟨fun y hy => ?_,hl⟩
      rcases bL.1 hy with rfl | hy
      · exact hw
      · exact LD hw (hl'.1 y hy)
    · rename_i hw;refine eK.2 ⟨fun y hy => ?_,FM w hl'.2⟩
      rcases bL.1 ((xM cG w l).mem_iff.1 hy) with rfl | hy
      · have := IW x y;omega
      · exact hl'.1 y hy
theorem qH : ∀ l : List G, GW (dR cG l)
  | [] => .nil
  | x :: l => FM x (qH l)
theorem EC {l m : List G} (hd : L5 l) (hp : m.Perm l) (h : GW m) : dR cG l = m := by
  refine (List.Perm.eq_of_pairwise (le := fun a b => cG a b ≤ 0) (fun a b ha hb h1 h2 => hd a b (hp.mem_iff.1 ha) ((dK cG l).mem_iff.1 hb) (by have := IW a b;omega)) h (qH l) (hp.trans (dK cG l).symm)).symm
theorem L5.sub {l m : List G} (h : L5 l) (hs : ∀ x,x ∈ m → x ∈ l) : L5 m := fun a b ha hb e => h a b (hs a ha) (hs b hb) e
theorem L5.perm {l m : List G} (h : L5 l) (hp : m.Perm l) : L5 m := h.sub fun x hx => hp.mem_iff.1 hx
theorem IU {a b : G} (h : cG a b < 0) : cG a b ≤ 0 := by omega
theorem VM {S1 S2 : List G} {x : G} (h : GW (S1 ++ S2)) (h1 : ∀ y,y ∈ S1 → cG y x ≤ 0) (h2 : ∀ y,y ∈ S2 → cG x y ≤ 0) : GW (S1 ++ x :: S2) := by
  obtain ⟨a,b,c⟩ := eN.1 h;refine eN.2 ⟨a,eK.2 ⟨h2,b⟩,fun p hp q hq => ?_⟩
  rcases bL.1 hq with rfl | hq
  · exact h1 p hp
  · exact c p hp q hq
theorem OR {A : List G} {y : G} (h : GW (A ++ [y])) : ∀ z,z ∈ A ++ [y] → cG z y ≤ 0 := by
  intro z hz;obtain ⟨a,b,c⟩ := eN.1 h;rcases bB.1 hz with hz | hz
  · exact c z hz y (by simp)
  · rw [bO.1 hz,zE6];exact fC _
theorem zL8 {a b : G} (h : ¬ cG a b < 0) : cG b a ≤ 0 := by have := IW a b;omega
def K8 (l : List G) (a b : Nat) : List G := l.take a ++ (dR cG ((l.drop a).take (b - a)) ++ l.drop b)
theorem O6 {l : List G} : (dR cG l).length = l.length := (dK cG l).length_eq
theorem MA {l : List G} {a : Nat} (h : a ≤ l.length) : K8 l a a = l := by unfold K8;simp [dR]
theorem PK {l : List G} {a : Nat} (h : a < l.length) : K8 l a (a + 1) = l := by
  unfold K8;rw [show a + 1 - a = 1 by omega,aS h]
  simp only [nG,lY,dR,V8];rw [List.singleton_append,← aS h,bK]
structure HG (l : List G) (a i : Nat) (x : G) (q : List G × List G) : Prop where
  eq : q.1 ++ q.2 = dR cG ((l.drop a).take (i - a))
  gt : ∀ y,y ∈ q.2 → cG x y < 0
def oJ (l : List G) (a i : Nat) (x : G) (q : List G × List G) : List G := (l.take a ++ q.1) ++ x :: (q.2 ++ l.drop (i + 1))
theorem IG {l : List G} {a i : Nat} {x : G} (h1 : a < i) (h2 : i < l.length) (hx : l[i]? = some x) : HG l a i x (dR cG ((l.drop a).take (i - a)),[]) ∧ K8 l a i = oJ l a i x (dR cG ((l.drop a).take (i - a)),[]) := by
  refine ⟨⟨by simp,fun y hy => by cases hy⟩,?_⟩
  unfold K8 oJ;have : l.drop i = x :: l.drop (i + 1) := by
    rw [aA h2] at hx;rw [aS h2];cases hx;rfl
  simp [this]
theorem FL {l : List G} {a i : Nat} {x : G} {q : List G × List G} (h : HG l a i x q) (h1 : a < i) (h2 : i < l.length) : q.1.length + q.2.length = i - a := by
  have := congrArg List.length h.eq;simp only [aF,O6,bD,dJ] at this;omega
theorem NG {l : List G} {a i : Nat} {x : G} {q : List G × List G} (h : HG l a i x q) (h1 : a < i) (h2 : i < l.length) : (oJ l a i x q).length = l.length := by
  have := FL h h1 h2;unfold oJ;simp only [aF,List.length_cons,bD,dJ];omega
theorem KR {l : List G} (hdl : L5 l) {a i : Nat} {x : G} {q : List G × List G} (h : HG l a i x q) (h1 : a < i) (h2 : i < l.length) (hx : l[i]? = some x) (hs : ∀ y,y ∈ q.1 → cG y x ≤ 0) : oJ l a i x q = K8 l a (i + 1) := by
  unfold oJ K8;have e : (l.drop a).take (i + 1 - a) = (l.drop a).take (i - a) ++ [x] := by
    rw [show i + 1 - a = (i - a) + 1 by omega,UY]
    rw [eA,show a + (i - a) = i by omega,hx];rfl
  rw [e];have hp : (q.1 ++ x :: q.2).Perm ((l.drop a).take (i - a) ++ [x]) := by
    refine List.perm_middle.trans ?_;rw [h.eq];exact ((dK cG _).cons x).trans (E2 _ _).symm
  have hu : GW (q.1 ++ x :: q.2) := VM (by rw [h.eq];exact qH _) hs (fun y hy => IU (h.gt y hy))
  rw [EC (hdl.sub fun y hy => by rw [← e] at hy;exact eO (fB hy)) hp hu]
  simp
theorem RX {l : List G} {a i : Nat} {x y : G} {S : List G} {q : List G × List G} (h : HG l a i x q) (e : q.1 = S ++ [y]) (hc : ¬ cG x y < 0) : ∀ z,z ∈ q.1 → cG z x ≤ 0 := by
  have hu : GW (q.1 ++ q.2) := by rw [h.eq];exact qH _
  have hu1 : GW q.1 := (eN.1 hu).1;rw [e] at hu1;intro z hz;rw [e] at hz;exact LD (OR hu1 z hz) (zL8 hc)
theorem NF {l : List G} {a i : Nat} {x y : G} {S : List G} {q : List G × List G} (h : HG l a i x q) (e : q.1 = S ++ [y]) (hc : cG x y < 0) : HG l a i x (S,y :: q.2) := by
  refine ⟨?_,fun z hz => ?_⟩
  · rw [← h.eq,e];simp
  · rcases bL.1 hz with rfl | hz
    · exact hc
    · exact h.gt z hz
end Go.Ld
namespace Go.Proofs.YtmmkhmilpeodnaaGreat
open Go Go.Ab Go.Ld
attribute [local irreducible] VC AW bX aT
set_option maxHeartbeats 4000000
abbrev IP : AV := .clo (.func 109) [] []
def zF9 (g : G) : Prop := 0 < g.1.length ∧ g.1.length ≤ 1000000
theorem VS (a b : G) (ha : zF9 a) (hb : zF9 b) : aT Tryz.prog 109 [OK a,OK b] [] (.i (cG a b)) [] := by
  obtain ⟨p,ws⟩ := a;obtain ⟨q,vs⟩ := b;cases p with
  | nil => exact absurd ha.1 (by simp)
  | cons x p =>
    cases q with
    | nil => exact absurd hb.1 (by simp)
    | cons y q =>
      have hc := AK x y;have h1 : (ints (x :: p)).length = p.length + 1 := by simp
      have h2 : (ints (y :: q)).length = q.length + 1 := by simp
      have g1 : (ints (x :: p))[(0 : Int).toNat]? = some [AV.i x] := rfl;have g2 : (ints (y :: q))[(0 : Int).toNat]? = some [AV.i y] := rfl;refine bT T Tryz.func109 rfl rfl rfl rfl ?_
      (repeat' (first|refine wS ?_|refine wR ?_|(refine rg 0 (bV (cO rfl rfl) rfl (bV (cO rfl rfl) rfl (aV ?_))))|(refine cM (id := 1) 14 [[],[0],[0,1],[0,1,2],[],[4],[4,5],[4,5,6],rN 8] (rM 5 9) [[],[],[],[],rM 5 4,rM 5 4,rM 5 4,rM 5 4,[]] dA rfl (by decide +kernel) (dP T rfl (dO T rfl (dV rfl (ix T rfl (by omega) (cN _) g1) (dO T rfl (dP T rfl (dO T rfl (dV rfl (ix T rfl (by omega) (cN _) g2) (dO T rfl (dV rfl (kC (hc)) ?_)))))))));refine dE ?_;refine aV ?_)|refine nZ ?_));all_goals first | (exfalso;omega) | exact rQ
theorem ND (l : List G) (a b : Nat) (hab : a ≤ b) (hb : b ≤ l.length) (hdl : L5 l) (hl : l.length ≤ 100000) (hw : ∀ w,w ∈ l → zF9 w) :
    aT Tryz.prog 163 [.sl 0 0 l.length 2,.i a,.i b,IP] [.arr (iW l) 2] (.tup []) [.arr (iW (K8 l a b)) 2] := by
  rcases gQ a b with hlt | hge
  · refine bT T Tryz.func163 rfl rfl rfl rfl ?_
    (repeat' (first|refine wS ?_|refine wB ?_|(refine iA 0 rfl rfl rfl (by omega) (by omega) ?_)|refine nZ ?_));refine dB (X := {i : Nat // a + 1 ≤ i ∧ i ≤ b}) (fun i => [(0,.sl 0 0 l.length 2),(1,.i a),(2,.i b),(3,IP),(8,.i i.1)]) (fun i => [.arr (iW (K8 l a i.1)) 2]) (fun i => b - i.1) ⟨a + 1,by omega,by omega⟩ ⟨[0],rfl,by (repeat (first | exact trivial | refine ⟨rfl,?_⟩)),⟨.inr (aE rfl (by dsimp only;rw [PK (by omega)]) (dX _)),trivial⟩,by decide,kU⟩ ?_
    rintro ⟨i,h1,h2⟩;dsimp only;by_cases hi : i < b
    · (repeat' (first|refine wS ?_|refine wB ?_|refine wK ?_|(refine wC rfl (fun hb => ?_) (fun hb => ?_) <;> (((try simp only [nm] at hb);try (exfalso;omega))))|(refine rg 1 (dS rfl (vV (aO rfl rfl) ?_)))|(refine rg 3 (mW rfl (aV ?_)))|(refine nZ ?_)));all_goals try (exfalso;omega)
      have hil : i < l.length := by omega
      obtain ⟨x,hx⟩ : ∃ x,l[i]? = some x := ⟨_,aA hil⟩;obtain ⟨s1,s2⟩ := IG (a := a) (by omega) hil hx
      refine dB (X := {q : List G × List G // HG l a i x q}) (fun q => [(0,.sl 0 0 l.length 2),(1,.i a),(2,.i b),(3,IP),(8,.i i),(9,.i ((a + q.1.1.length : Nat) : Int))]) (fun q => [.arr (iW (oJ l a i x q.1)) 2]) (fun q => q.1.1.length) ⟨_,s1⟩ ⟨[0],rfl,⟨rfl,rfl,rfl,rfl,rfl,by dsimp only;rw [O6,bD,dJ,show a + min (i - a) (l.length - a) = i by omega];rfl,trivial⟩,⟨.inr (aE rfl (by dsimp only;rw [s2]) (dX _)),trivial⟩,by decide,kU⟩ ?_
      rintro ⟨⟨S1,S2⟩,hq⟩;dsimp only;have hln := FL hq (by omega) hil
      dsimp only at hln;have hwx : zF9 x := hw x (aL hx);have hal : (l.take a).length = a := by rw [bD];omega
      rcases List.eq_nil_or_concat S1 with rfl | ⟨S,y,rfl⟩
      · have ee := KR hdl hq (by omega) hil hx (fun y hy => by cases hy)
        have hJ : ((a + ([] : List G).length : Nat) : Int) = a := by simp
        generalize ((a + ([] : List G).length : Nat) : Int) = J at *;generalize oJ l a i x ([],S2) = L at *
        (repeat' (first|refine wS ?_|refine wE ?_|refine wU ?_|(refine cM (id := 4) 53 zQ7 (rM 18 17) zQ8 dA rfl (by decide +kernel) (dN rfl (dN rfl (dV rfl (CA rfl rfl (by omega)) (dN rfl (tG rfl (tG rfl (tG rfl (tG rfl (dG ?_)))))))));refine tG rfl (tG rfl (tG rfl (tG rfl (tG rfl (tG rfl (tG rfl (dV rfl (iB rfl rfl) (dE ?_)))))))))|(refine iA 2 rfl rfl rfl (by omega) (by omega) ?_)|refine nZ ?_));all_goals first | (exfalso;omega) | exact ⟨⟨i + 1,by omega,by omega⟩,by dsimp only;omega,⟨[0],rfl,by (repeat (first | exact trivial | refine ⟨rfl,?_⟩)),⟨.inr (aE rfl (by dsimp only;rw [ee]) (dX _)),trivial⟩,by decide,kU⟩⟩
      · rw [List.concat_eq_append] at *;have hy : y ∈ l := by
          have h3 : y ∈ dR cG ((l.drop a).take (i - a)) := by rw [← hq.eq];simp
          exact eO (fB ((dK _ _).mem_iff.1 h3))
        have hc := VS x y hwx (hw y hy);have hL : oJ l a i x (S ++ [y],S2) = (l.take a ++ S) ++ y :: x :: (S2 ++ l.drop (i + 1)) := by unfold oJ;simp
        have hJ : ((a + (S ++ [y]).length : Nat) : Int) = ((a + S.length + 1 : Nat) : Int) := by simp;omega
        have hAl : a + S.length = (l.take a ++ S).length := by rw [aF,hal]
        have hlen := NG hq (by omega) hil
        by_cases h0 : cG x y < 0
        · have ee := NF hq rfl h0;have q1 := wG (L := oJ l a i x (S ++ [y],S2)) (j := ((a + (S ++ [y]).length : Nat) : Int)) (i := a + S.length + 1) (x := x) (by rw [hL,show (l.take a ++ S) ++ y :: x :: (S2 ++ l.drop (i + 1)) = ((l.take a ++ S) ++ [y]) ++ x :: (S2 ++ l.drop (i + 1)) by simp];exact mM _ _ _ (by simp;omega)) hJ
          have q2 := wG (L := oJ l a i x (S ++ [y],S2)) (j := ((a + (S ++ [y]).length : Nat) : Int) - 1) (i := a + S.length) (x := y) (by rw [hL];exact mM _ _ _ hAl) (by omega)
          have t1 := C2 (L := oJ l a i x (S ++ [y],S2)) (j := ((a + (S ++ [y]).length : Nat) : Int)) (i := a + S.length + 1) (x := y) hJ;have e1 : (oJ l a i x (S ++ [y],S2)).set (a + S.length + 1) y = (l.take a ++ S) ++ y :: y :: (S2 ++ l.drop (i + 1)) := by
            rw [hL,show (l.take a ++ S) ++ y :: x :: (S2 ++ l.drop (i + 1)) = ((l.take a ++ S) ++ [y]) ++ x :: (S2 ++ l.drop (i + 1)) by simp,mT _ _ _ _ (by simp;omega)];simp
          rw [e1] at t1;have q3 := wG (L := (l.take a ++ S) ++ y :: y :: (S2 ++ l.drop (i + 1))) (j := ((a + (S ++ [y]).length : Nat) : Int) - 1) (i := a + S.length) (x := y) (mM _ _ _ hAl) (by omega)
          have t2 := C2 (L := (l.take a ++ S) ++ y :: y :: (S2 ++ l.drop (i + 1))) (j := ((a + (S ++ [y]).length : Nat) : Int) - 1) (i := a + S.length) (x := x) (by omega)
          rw [mT _ _ _ _ hAl,show (l.take a ++ S) ++ x :: y :: (S2 ++ l.drop (i + 1)) = oJ l a i x (S,y :: S2) by unfold oJ;simp,← t1] at t2
          rw [← t1] at q3;have hJ2 : ((a + (S ++ [y]).length : Nat) : Int) - 1 = ((a + S.length : Nat) : Int) := by omega
          have hJ3 : ((a + (S ++ [y]).length : Nat) : Int) < l.length := by omega
          have hJ4 : (a : Int) < ((a + (S ++ [y]).length : Nat) : Int) := by omega
          clear hJ hL;generalize ((a + (S ++ [y]).length : Nat) : Int) = J at *;generalize cG x y = z at *;generalize oJ l a i x (S ++ [y],S2) = L at *
          (repeat' (first|refine wS ?_|refine wB ?_|refine wK ?_|(refine wC rfl ?_ ?_<;>(intro hb;(try simp only [nm] at hb);try (exfalso;omega)))|(refine cM (id := 4) 53 zQ7 (rM 18 17) zQ8 dA rfl (by decide +kernel) (dN rfl (dN rfl (dV rfl (fP rfl rfl) (dM ?_))));refine pR rfl rfl rfl rfl ?_ ?_<;>(intro hb;rw [hb];(try simp only [nm] at hb);try (exfalso;omega))<;>(refine tM ?_);(all_goals (refine tN rfl (tN rfl (dT rfl (by exact aM T rfl rfl rfl rfl rfl (by omega) (by omega)) ?_));refine dT rfl (by exact aX T rfl rfl (bJ rfl q1) rfl) ?_;refine tN rfl (tN rfl (dT rfl (cQ rfl rfl (by omega) (by omega)) (dT rfl (by exact aM T rfl rfl rfl rfl rfl (by omega) (by omega)) ?_)));refine dT rfl (by exact aX T rfl rfl (bJ rfl q2) rfl) ?_;refine dT rfl (kC (hc)) (dT rfl (aO rfl rfl) (dV rfl (jQ rfl rfl) (dE ?_))))))|(refine mX (id := 6) 53 zQ9 (rM 37 15) zR0 [(15,0)] dA rfl (by decide +kernel) (cH rfl rfl rfl rfl (by exact bW rfl) ?_);refine cH rfl rfl rfl rfl (by exact bW rfl) ?_;refine cH rfl rfl rfl rfl (by exact bW rfl) ?_;refine cH rfl rfl rfl rfl (by exact bW rfl) ?_;refine cH rfl rfl rfl rfl (by exact cQ rfl rfl (by omega) (by omega)) ?_;refine cH rfl rfl rfl rfl (by exact bW rfl) ?_;refine cH rfl rfl rfl rfl (by exact bW rfl) ?_;refine cH rfl rfl rfl rfl (by exact cQ rfl rfl (by omega) (by omega)) ?_;refine cH rfl rfl rfl rfl (by exact aM T rfl rfl rfl rfl rfl (by omega) (by omega)) ?_;refine cH rfl rfl rfl rfl (by exact aX T rfl rfl (bJ rfl q2) rfl) ?_;refine cH rfl rfl rfl rfl (by exact bW rfl) ?_;refine cH rfl rfl rfl rfl (by exact bW rfl) ?_;refine cH rfl rfl rfl rfl (by exact aM T rfl rfl rfl rfl rfl (by omega) (by omega)) ?_;refine cH rfl rfl rfl rfl (by exact aX T rfl rfl (bJ rfl q1) rfl) ?_;refine cH rfl rfl rfl rfl (by exact aM T rfl rfl rfl rfl rfl (by omega) (by omega)) ?_;refine uM rfl rfl rfl rfl (aP rfl) T rfl rfl rfl rfl rfl rfl (by decide) (tZ rfl q1 rfl) ?_;refine qF rfl rfl rfl (by exact rfl) ?_;refine vV (by exact aM T rfl rfl rfl rfl rfl (by omega) (by omega)) ?_;refine aU T rfl rfl rfl rfl rfl rfl (by decide) (mA rfl q3 rfl) ?_)|(refine rg 5 (mW rfl (vV (cQ rfl rfl (by omega) (by omega)) (aV ?_))))|refine nZ ?_));all_goals first | (exfalso;omega) | exact ⟨⟨_,ee⟩,by dsimp only;simp,⟨[0],rfl,⟨rfl,rfl,rfl,rfl,rfl,by dsimp only;rw [← hJ2];try rfl,trivial⟩,⟨.inr (aE rfl (by dsimp only;rw [← t2];try rfl) (dX _)),trivial⟩,by decide,kU⟩⟩
        · have ee := KR hdl hq (by omega) hil hx (RX hq rfl h0)
          have q1 := wG (L := oJ l a i x (S ++ [y],S2)) (j := ((a + (S ++ [y]).length : Nat) : Int)) (i := a + S.length + 1) (x := x) (by rw [hL,show (l.take a ++ S) ++ y :: x :: (S2 ++ l.drop (i + 1)) = ((l.take a ++ S) ++ [y]) ++ x :: (S2 ++ l.drop (i + 1)) by simp];exact mM _ _ _ (by simp;omega)) hJ
          have q2 := wG (L := oJ l a i x (S ++ [y],S2)) (j := ((a + (S ++ [y]).length : Nat) : Int) - 1) (i := a + S.length) (x := y) (by rw [hL];exact mM _ _ _ hAl) (by omega)
          have hJ3 : ((a + (S ++ [y]).length : Nat) : Int) < l.length := by omega
          have hJ4 : (a : Int) < ((a + (S ++ [y]).length : Nat) : Int) := by omega
          clear hJ hL;generalize ((a + (S ++ [y]).length : Nat) : Int) = J at *;generalize cG x y = z at *;generalize oJ l a i x (S ++ [y],S2) = L at *
          (repeat' (first|refine wS ?_|refine wE ?_|(refine wC rfl ?_ ?_<;>(intro hb;(try simp only [nm] at hb);try (exfalso;omega)))|(refine cM (id := 4) 53 zQ7 (rM 18 17) zQ8 dA rfl (by decide +kernel) (dN rfl (dN rfl (dV rfl (fP rfl rfl) (dM ?_))));refine pR rfl rfl rfl rfl ?_ ?_<;>(intro hb;rw [hb];(try simp only [nm] at hb);try (exfalso;omega))<;>(refine tM ?_);(all_goals (refine tN rfl (tN rfl (dT rfl (by exact aM T rfl rfl rfl rfl rfl (by omega) (by omega)) ?_));refine dT rfl (by exact aX T rfl rfl (bJ rfl q1) rfl) ?_;refine tN rfl (tN rfl (dT rfl (cQ rfl rfl (by omega) (by omega)) (dT rfl (by exact aM T rfl rfl rfl rfl rfl (by omega) (by omega)) ?_)));refine dT rfl (by exact aX T rfl rfl (bJ rfl q2) rfl) ?_;refine dT rfl (kC (hc)) (dT rfl (aO rfl rfl) (dV rfl (jQ rfl rfl) (dE ?_))))))|(refine iA 2 rfl rfl rfl (by omega) (by omega) ?_)|refine nZ ?_));all_goals first | (exfalso;omega) | exact ⟨⟨i + 1,by omega,by omega⟩,by dsimp only;omega,⟨[0],rfl,by (repeat (first | exact trivial | refine ⟨rfl,?_⟩)),⟨.inr (aE rfl (by dsimp only;rw [ee]) (dX _)),trivial⟩,by decide,kU⟩⟩
    · obtain rfl : i = b := by omega
      (repeat' (first|refine wS ?_|refine wE ?_|(refine wC rfl ?_ ?_<;>(intro hb;(try simp only [nm] at hb);try (exfalso;omega)))|(refine rg 1 (dS rfl (vV (aO rfl rfl) ?_)))|refine nZ ?_));all_goals first | (exfalso;omega) | exact ⟨.inl rfl,[0],_,rfl,rfl,rfl,⟨.inr (aE rfl rfl (dX _)),trivial⟩,by decide,kU⟩ | exact ⟨.inr rfl,[0],_,rfl,rfl,rfl,⟨.inr (aE rfl rfl (dX _)),trivial⟩,by decide,kU⟩
  · obtain rfl : a = b := by omega
    rw [MA hb];refine bT T Tryz.func163 rfl rfl rfl rfl ?_
    (repeat' (first|refine wS ?_|refine wB ?_|(refine iA 0 rfl rfl rfl (by omega) (by omega) ?_)|refine nZ ?_));refine dB (X := Unit) (fun _ => [(0,.sl 0 0 l.length 2),(1,.i a),(2,.i a),(3,IP),(8,.i ((a : Int) + 1))]) (fun _ => [.arr (iW l) 2]) (fun _ => 0) () ⟨[0],rfl,by (repeat (first | exact trivial | refine ⟨rfl,?_⟩)),⟨.inr (aE rfl rfl (dX _)),trivial⟩,by decide,kU⟩ ?_
    intro _;dsimp only
    (repeat' (first|refine wS ?_|refine wE ?_|(refine wC rfl ?_ ?_<;>(intro hb;(try simp only [nm] at hb);try (exfalso;omega)))|(refine rg 1 (dS rfl (vV (aO rfl rfl) ?_)))|refine nZ ?_));all_goals first | (exfalso;omega) | exact ⟨.inl rfl,[0],_,rfl,rfl,rfl,⟨.inr (aE rfl rfl (dX _)),trivial⟩,by decide,kU⟩ | exact ⟨.inr rfl,[0],_,rfl,rfl,rfl,⟨.inr (aE rfl rfl (dX _)),trivial⟩,by decide,kU⟩
end Go.Proofs.YtmmkhmilpeodnaaGreat
namespace Go.Ld
open Go.Ab Go.Proofs.YtmmkhmilpeodnaaGreat
def XE (n : Nat) : Int := [0,1,2,2,3,3,3,3,4,4,4,4,4].getD n 0
end Go.Ld
namespace Go.Proofs.YtmmkhmilpeodnaaGreat
open Go Go.Ab Go.Ld
attribute [local irreducible] VC AW bX aT I4 ZE
set_option maxHeartbeats 4000000
theorem zL0 : I4 Tryz.prog 193 .u64 := by unfold I4;kernel_rfl
theorem zN4 : I4 Tryz.prog 5 .u8 := by unfold I4;kernel_rfl
theorem zL1 : ZE Tryz.prog 9 := by unfold ZE;kernel_rfl
theorem XF (n : Nat) (h : n ≤ 12) : aT Tryz.prog 157 [.v (.int .u64 n)] [] (.i (XE n)) [] := by
  rcases (by omega : n = 0 ∨ n = 1 ∨ n = 2 ∨ n = 3 ∨ n = 4 ∨ n = 5 ∨ n = 6 ∨ n = 7 ∨ n = 8 ∨ n = 9 ∨ n = 10 ∨ n = 11 ∨ n = 12) with rfl | rfl | rfl | rfl | rfl | rfl | rfl | rfl | rfl | rfl | rfl | rfl | rfl
  all_goals
    refine bT T Tryz.func157 rfl rfl rfl rfl ?_
    (repeat' (first|refine wS ?_|refine wK ?_|refine wR ?_|refine wU ?_|(refine rg 0 (aV ?_))|(refine rg 1 (mW rfl (vV (jE rfl rfl) ?_)))|(refine rg 4 (mW rfl (vV (jE rfl rfl) ?_)))|(refine rg 7 (mW rfl (vV (jE rfl rfl) ?_)))|(refine rg 10 (dS rfl (vV (iK zL0 zN4 rfl rfl) (vV (by exact NM zL1 rfl rfl (by decide) rfl) ?_)));refine vV (iK zN4 vI rfl rfl) (vV (SK rfl rfl) (aV ?_)))|refine nZ ?_));all_goals first | (exfalso;omega) | exact rQ
theorem zB9 (n : Nat) (h : n ≤ 12) : aT Tryz.prog 116 [.v (.int .u64 n)] [] (.i (XE n)) [] := by
  have hc := XF n h;refine bT T Tryz.func116 rfl rfl rfl rfl ?_
  (repeat' (first|refine wS ?_|refine wK ?_|refine wR ?_|refine wU ?_|(refine rg 0 (aV ?_))|(refine rg 2 (mW rfl (vV (kC (hc)) (aV ?_))))|refine nZ ?_));all_goals first | (exfalso;omega) | exact rQ
theorem zH7 (l : List G) (hdl : L5 l) (hl : l.length ≤ 12) (hw : ∀ g,g ∈ l → zF9 g) (lim : Int) : aT Tryz.prog 144 [.sl 0 0 l.length 2,.i 0,.i l.length,.i lim,IP] [.arr (iW l) 2] (.tup []) [.arr (iW (dR cG l)) 2] := by
  have hc := ND l 0 l.length (cK _) (aY _) hdl (by omega) hw
  rw [show K8 l 0 l.length = dR cG l by unfold K8;simp] at hc
  refine bT T Tryz.func144 rfl rfl rfl rfl ?_
  (repeat' (first|refine wS ?_|refine wB ?_|(refine rg 0 (aV ?_))|(refine rg 1 (aV ?_))|refine nZ ?_));refine dB (X := Unit) (fun _ => [(0,.sl 0 0 l.length 2),(1,.i 0),(2,.i l.length),(3,.i lim),(4,IP)]) (fun _ => [.arr (iW l) 2]) (fun _ => 0) () ⟨[0],rfl,by (repeat (first | exact trivial | refine ⟨rfl,?_⟩)),⟨.inr (aE rfl rfl (dX _)),trivial⟩,by decide,kU⟩ ?_
  intro _;dsimp only
  (repeat' (first|refine wS ?_|refine wB ?_|refine wR ?_|(refine wC rfl ?_ ?_<;>(intro hb;(try simp only [nm] at hb);try (exfalso;omega)))|(refine rg 2 (dS rfl (vV (cQ rfl rfl (by omega) (by omega)) (aV ?_))))|(refine rg 3 (mW rfl (vV (iX rfl rfl) ?_)))|(refine rg 4 (dS rfl (dS rfl (fQ [0] rfl rfl (hc) rfl rfl (by decide) ⟨.inr (aE rfl rfl (dX _)),trivial⟩ (by simp) rfl ?_))))|refine nZ ?_));all_goals first | (exfalso;omega) | exact ⟨.inl rfl,[0],_,rfl,rfl,rfl,⟨.inr (aE rfl (cC _ (dX _)) (dX _)),trivial⟩,by decide,kU⟩
theorem WD (l : List G) (hdl : L5 l) (hl : l.length ≤ 12) (hw : ∀ g,g ∈ l → zF9 g) : aT Tryz.prog 108 [.sl 0 0 l.length 2,IP] [.arr (iW l) 2] (.tup []) [.arr (iW (dR cG l)) 2] := by
  have h1 := zB9 l.length hl;have h2 := zH7 l hdl hl hw (XE l.length);have hw1 : IntKind.u64.wrap (l.length : Int) = (l.length : Int) := DL (by omega) (by omega)
  generalize XE l.length = q at *;refine bT T Tryz.func108 rfl rfl rfl rfl ?_
  (repeat' (first|refine wS ?_|(refine rg 0 (mW rfl (qW T rfl (aV ?_))))|(refine rg 1 (dS rfl (mW rfl (vV (iK vI pM rfl hw1) (vV (by exact eV rfl rfl h1 rfl rfl rfl) ?_))));refine mW rfl (fQ [0] rfl rfl (h2) rfl rfl (by decide) ⟨.inr (aE rfl rfl (dX _)),trivial⟩ (by simp) rfl ?_))|refine nZ ?_));all_goals first | (exfalso;omega) | exact ⟨.inl rfl,[0],_,rfl,rfl,rfl,⟨.inr (aE rfl (cC _ (dX _)) (dX _)),trivial⟩,by decide,kU⟩ | exact ⟨.inr rfl,[0],_,rfl,rfl,rfl,⟨.inr (aE rfl (cC _ (dX _)) (dX _)),trivial⟩,by decide,kU⟩
end Go.Proofs.YtmmkhmilpeodnaaGreat
namespace Go.Ld
open Go.Ab Go.Proofs.YtmmkhmilpeodnaaGreat
def sX (g : G) : List G := mF g.1.length g
theorem HZ {g : G} {k : Nat} (h : gS g = some k) : sX g = mG g k :: sX (jK g k) := by
  obtain ⟨h1,_,h3,_⟩ := jA h;have e : (jK g k).1.length = g.1.length - 1 := by show (g.1.eraseIdx k).length = _;rw [fO,if_pos h3]
  unfold sX;rw [e];obtain ⟨m,hm⟩ : ∃ m,g.1.length = m + 1 := ⟨g.1.length - 1,by omega⟩
  rw [hm,OE,mF,h]
theorem Q3 {g : G} (h : gS g = none) : sX g = [g] := by
  unfold sX;cases hl : g.1.length with
  | zero => rfl
  | succ m => rw [mF,h]
theorem GG (g : G) (k : Nat) : gS (mG g k) = none := by unfold gS;rw [if_pos (.inl (by show 1 < 2;omega))]
theorem MM (g : G) (k : Nat) : sX (mG g k) = [mG g k] := Q3 (GG g k)
structure mP (n : Nat) (o : List G) : Prop where
  ok : ∀ g,g ∈ o → vK n g
  nd : (o.flatMap (·.1)).Nodup
  ln : (o.flatMap (·.1)).length ≤ 12
  ws : ∀ g,g ∈ o → g.2.length ≤ 2000
theorem nN {o : List G} {g : G} {b : Int} (h : g ∈ o) (hb : b ∈ g.1) : b ∈ o.flatMap (·.1) := gJ.2 ⟨g,h,hb⟩
theorem M5 : ∀ {o : List G}, (o.flatMap (·.1)).Nodup → ∀ {a b : G} {x : Int}, a ∈ o → b ∈ o → x ∈ a.1 → x ∈ b.1 → a = b
  | [],_,a,b,x,ha,_,_,_ => by cases ha
  | g :: o,h,a,b,x,ha,hb,hxa,hxb => by
    rw [bF] at h;obtain ⟨h1,h2,h3⟩ := cF.1 h;rcases bL.1 ha with e1 | ha' <;> rcases bL.1 hb with e2 | hb'
    · rw [e1,e2]
    · exact absurd rfl (h3 x (e1 ▸ hxa) x (nN hb' hxb))
    · exact absurd rfl (h3 x (e2 ▸ hxb) x (nN ha' hxa))
    · exact M5 h2 ha' hb' hxa hxb
theorem mP.dist {n : Nat} {o : List G} (h : mP n o) : L5 o := by
  intro a b ha hb e;have e' : a.1.headD 0 = b.1.headD 0 := (oV.eq _ _).1 e;have hm : ∀ g : G,g.1 ≠ [] → g.1.headD 0 ∈ g.1 := fun g hg => by
    cases hq : g.1 with
    | nil => exact absurd hq hg
    | cons x l => simp
  exact M5 h.nd ha hb (hm a (h.ok a ha).ne) (e' ▸ hm b (h.ok b hb).ne)
theorem mP.len {n : Nat} {o : List G} (h : mP n o) : o.length ≤ (o.flatMap (·.1)).length := by
  have : ∀ o : List G,(∀ g,g ∈ o → g.1 ≠ []) → o.length ≤ (o.flatMap (·.1)).length := by
    intro o
    induction o with
    | nil => intro _;simp
    | cons g o ih =>
      intro hg;rw [bF,aF,List.length_cons];have := ih fun g h => hg g (aN _ h);have : 0 < g.1.length := eY.2 (hg g aR);omega
  exact this o fun g hg => (h.ok g hg).ne
theorem mP.hd {n : Nat} {o : List G} (h : mP n o) : ∀ g,g ∈ o → zF9 g := fun g hg => ⟨eY.2 (h.ok g hg).ne,by have := (h.ok g hg).ln;omega⟩
theorem mP.perm {n : Nat} {o p : List G} (h : mP n o) (hp : p.Perm o) : mP n p where
  ok g hg := h.ok g (hp.mem_iff.1 hg)
  nd := (hp.flatMap_right _).nodup_iff.2 h.nd
  ln := by rw [(hp.flatMap_right _).length_eq];exact h.ln
  ws g hg := h.ws g (hp.mem_iff.1 hg)
theorem vK.sz {n : Nat} {g : G} (h : vK n g) (hw : g.2.length ≤ 2000) : zF8 g := ⟨by have := h.ln;omega,by omega,fun w hw => (h.ws w hw).pl,fun w hw => (h.ws w hw).cl⟩
theorem pG {α : Type} {o : List α} {i : Nat} {x y : α} (h : o[i]? = some x) : ∃ A B,o = A ++ x :: B ∧ o.set i y = A ++ y :: B := by
  obtain ⟨hi,e⟩ := aB.1 h;refine ⟨o.take i,o.drop (i + 1),?_,?_⟩
  · rw [← e,← aS hi,bK]
  · rw [List.set_eq_take_append_cons_drop,if_pos hi]
def Z3 (o : List G) (i k : Nat) (g : G) : List G := dR cG (o.set i (jK g k) ++ [mG g k])
theorem FD {o : List G} {i k : Nat} {g : G} (h : o[i]? = some g) (hk : k < g.1.length) : ((o.set i (jK g k) ++ [mG g k]).flatMap (·.1)).Perm (o.flatMap (·.1)) := by
  obtain ⟨A,B,e1,e2⟩ := pG (y := jK g k) h;rw [e2,e1];simp only [fK,bF,ZH,List.append_nil,bH];refine List.Perm.append_left _ ?_;have h1 : (g.1.getD k 0 :: g.1.eraseIdx k).Perm g.1 := iZ g.1 k 0 hk;have h2 : ((jK g k).1 ++ (B.flatMap (·.1) ++ (mG g k).1)).Perm ((mG g k).1 ++ ((jK g k).1 ++ B.flatMap (·.1))) := by
    rw [← bH];exact vE
  refine h2.trans ?_;rw [← bH];exact List.Perm.append_right _ h1
theorem KJ {n : Nat} {o : List G} {i k : Nat} {g : G} (ok : mP n o) (h : o[i]? = some g) (hc : gS g = some k) : mP n (o.set i (jK g k) ++ [mG g k]) := by
  have hg := aL h;have hk := (jA hc).2.2.1;have hb := FD h hk;have hm : ∀ x,x ∈ o.set i (jK g k) ++ [mG g k] → x ∈ o ∨ x = jK g k ∨ x = mG g k := fun x hx => by
    rcases bB.1 hx with hx | hx
    · rcases fH hx with hx | hx
      · exact .inl hx
      · exact .inr (.inl hx)
    · exact .inr (.inr (bO.1 hx))
  refine ⟨fun x hx => ?_,hb.nodup_iff.2 ok.nd,by rw [hb.length_eq];exact ok.ln,fun x hx => ?_⟩
  · rcases hm x hx with hx | rfl | rfl
    · exact ok.ok x hx
    · exact (ok.ok g hg).rest hc
    · exact (ok.ok g hg).one hc
  · rcases hm x hx with hx | rfl | rfl
    · exact ok.ws x hx
    · have := vZ (g.2.map fun w => (w.1.eraseIdx k,w.2.1,w.2.2.eraseIdx k));rw [bC] at this;exact bY this (ok.ws g hg)
    · show 1 ≤ 2000;omega
theorem MS {o : List G} {i k : Nat} {g : G} (h : o[i]? = some g) (hc : gS g = some k) : ((o.set i (jK g k) ++ [mG g k]).flatMap sX).Perm (o.flatMap sX) := by
  obtain ⟨A,B,e1,e2⟩ := pG (y := jK g k) h;rw [e2,e1];simp only [fK,bF,ZH,List.append_nil,bH,HZ hc,MM];refine List.Perm.append_left _ ?_;rw [← bH];exact vE
def ZI (o : List G) : Nat := (o.map fun g => g.1.length - 1).sum
theorem OM {o p : List G} (h : p.Perm o) : ZI p = ZI o := (h.map _).sum_nat
theorem RH {o : List G} {i k : Nat} {g : G} (h : o[i]? = some g) (hc : gS g = some k) : ZI (o.set i (jK g k) ++ [mG g k]) + 1 = ZI o := by
  obtain ⟨A,B,e1,e2⟩ := pG (y := jK g k) h;obtain ⟨h1,_,h3,_⟩ := jA hc;have e : (jK g k).1.length = g.1.length - 1 := by show (g.1.eraseIdx k).length = _;rw [fO,if_pos h3]
  rw [e2,e1];unfold ZI;simp only [dH,List.map_cons,List.map_nil,zF6,zN1,List.sum_nil,e];have : (mG g k).1.length = 1 := rfl;omega
structure nX (n : Nat) (L o : List G) (i : Nat) : Prop where
  ok : mP n o
  up : GW o
  fl : (o.flatMap sX).Perm (L.flatMap sX)
  hi : i ≤ o.length
  no : ∀ (j : Nat) (g : G),j < i → o[j]? = some g → gS g = none
theorem nX.start {n : Nat} {L : List G} (ok : mP n L) (up : GW L) : nX n L L 0 := ⟨ok,up,.refl _,cK _,fun j g h => absurd h (dW _)⟩
theorem nX.keep {n : Nat} {L o : List G} {i : Nat} {g : G} (p : nX n L o i) (h : o[i]? = some g) (hc : gS g = none) : nX n L o (i + 1) where
  ok := p.ok
  up := p.up
  fl := p.fl
  hi := (aB.1 h).1
  no j x hj hx := by
    rcases gQ j i with h' | h'
    · exact p.no j x h' hx
    · obtain rfl : j = i := by omega
      rw [h] at hx;cases hx;exact hc
theorem nX.next {n : Nat} {L o : List G} {i k : Nat} {g : G} (p : nX n L o i) (h : o[i]? = some g) (hc : gS g = some k) : nX n L (Z3 o i k g) 0 where
  ok := (KJ p.ok h hc).perm (dK _ _)
  up := qH _
  fl := ((dK cG _).flatMap_right _).trans ((MS h hc).trans p.fl)
  hi := cK _
  no j g h := absurd h (dW _)
theorem nX.fin {n : Nat} {L o : List G} {i : Nat} (p : nX n L o i) (hi : o.length ≤ i) : uY L = o := by
  have e : o.flatMap sX = o := by
    have : ∀ g,g ∈ o → sX g = [g] := fun g hg => by
      obtain ⟨j,hj,e⟩ := pU.1 hg;exact Q3 (p.no j g (by omega) (by rw [aA hj,e]))
    clear p hi
    induction o with
    | nil => rfl
    | cons g o ih => rw [bF,this g aR,ih fun g h => this g (aN _ h)];rfl
  have hp := p.fl;rw [e] at hp;show dR cG (L.flatMap sX) = o;exact EC (p.ok.dist.perm hp.symm) hp p.up
theorem PF {l : List G} {k : Nat} (h : k < l.length) : mJ (l.take (k + 1)) = mJ (l.take k) + iH l[k] := by
  unfold mJ;rw [aQ h,dH,zF6];simp
theorem BB : ∀ {l : List G}, (∀ g, g ∈ l → 0 ≤ iH g ∧ iH g ≤ 4000000) → 0 ≤ mJ l ∧ mJ l ≤ 4000000 * l.length
  | [],_ => by simp [mJ]
  | g :: l,h => by
    have h1 := h g aR;have h2 := BB (l := l) fun g hg => h g (aN _ hg);have e : mJ (g :: l) = iH g + mJ l := by simp [mJ]
    rw [e,List.length_cons];omega
end Go.Ld
