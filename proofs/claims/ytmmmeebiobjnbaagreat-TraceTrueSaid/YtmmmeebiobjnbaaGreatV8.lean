/-
  Texts of the logic and of the layer,in one module (part 8).
-/
import Derived.Test.YtmmmeebiobjnbaaGreatV7
set_option linter.unusedVariables false
set_option linter.unusedSimpArgs false
set_option linter.unnecessarySimpa false
namespace Go.Proofs.YtmmmeebiobjnbaaGreat
open Go Go.Ab Go.Ld
attribute [local irreducible] VC AW cF aS
set_option maxHeartbeats 4000000
abbrev mA (q : Int → Bool) (l : List Int) : List Int := l.filter fun x => !q x
theorem AH {q : Int → Bool} {l : List Int} {k : Nat} (h : k < l.length) : mA q (l.take (k + 1)) = if q l[k] then mA q (l.take k) else mA q (l.take k) ++ [l[k]] := by
  unfold mA;rw [aU h,tW];cases e : q l[k] <;> simp [e]
theorem XT (q : Int → Bool) (l : List Int) (k : Nat) : (mA q (l.take k)).length ≤ k := bL (fQ _ _) (by simp;omega)
theorem yH9 {G l : List Int} {m : Nat} (hg : G.length ≤ m) (hm : m < l.length) : (ints (G ++ l.drop G.length))[0 + (m : Int).toNat]? = some [AV.i l[m]] := by
  rw [Nat.zero_add,bQ,bT,aE hg,dZ,show G.length + (m - G.length) = m by omega,aB hm];rfl
theorem yD6 {G l : List Int} {x : Int} (hg : G.length < l.length) : (ints (G ++ l.drop G.length)).set (0 + (G.length : Int).toNat) [AV.i x] = ints ((G ++ [x]) ++ l.drop (G ++ [x]).length) := by
  rw [Nat.zero_add,bQ,← pZ,iP _ _ (aX _),eB,aT hg,List.set_cons_zero];simp
theorem yB0 {G l : List Int} (hg : G.length ≤ l.length) : (ints (G ++ l.drop G.length)).length = l.length := by simp;omega
theorem zZ1 {G l : List Int} : (ints (G ++ l.drop G.length)).take (0 + (G.length : Int).toNat) = ints G := by
  rw [Nat.zero_add,bQ,← kK,pS (aX _),bR (aX _)]
theorem EI {F : FuncId} {caps : List AV} {q : Int → Bool} (l : List Int) (hl : l.length ≤ 1000000) (hi : AV.idfL caps = true) (hp : AV.plnL caps = true) (hF : ∀ x,x ∈ l → aS Tryz.prog F (.i x :: caps) [] (.b (q x)) []) :
    aS Tryz.prog 34 [.sl 0 0 l.length 1,.clo (.func F) [] caps] [.arr (ints l) 1] (.sl 0 0 (mA q l).length 1) [.arr (ints (mA q l)) 1] := by
  have hll : (ints l).length = l.length := by simp
  have hix := zP7 hl hi hF;refine bW T Tryz.func34 rfl rfl rfl rfl ?_;rcases B9 q l 0 with ⟨h1,h2⟩ | ⟨j,hj,h1,h2,h3⟩
  · rw [h1] at hix;have hk : mA q l = l := oL.2 fun x hx => by rw [h2 x hx];rfl
    rw [hk]
    (repeat' (first|refine wS ?_|refine wR ?_|refine wT ?_|(refine rg 0 (aV ?_))|(refine rg 1 (dH rfl (vV (by exact fB rfl rfl hix (.cons (vC rfl rfl) (.cons (.clo .nil (kV _ hp)) .nil)) rfl rfl) ?_));refine aV ?_)|(refine rg 2 (mW rfl (vV (dX rfl rfl) ?_)))|(refine rg 3 (mW rfl (aV ?_)))|refine nZ ?_));all_goals first | (exfalso;omega) | exact ⟨.inl rfl,[0],_,rfl,rfl,rfl,⟨.inr (aC rfl rfl (bB _)),trivial⟩,by decide,lJ⟩
  · rw [h1,Nat.zero_add] at hix;have hk0 : mA q (l.take (j + 1)) = l.take j := by
      rw [AH hj,if_pos h2];exact oL.2 fun x hx => by rw [h3 x hx];rfl
    have hkl : (mA q (l.take (j + 1))).length = j := by rw [hk0];simp;omega
    have hka : mA q (l.take (j + 1)) ++ l.drop (mA q (l.take (j + 1))).length = l := by rw [hkl,hk0,bP]
    have hkf : mA q l = mA q (l.take l.length) := by rw [dA]
    rw [hkf]
    (repeat' (first|refine wS ?_|refine wB ?_|refine wK ?_|refine wU ?_|(refine rg 0 (aV ?_))|(refine rg 1 (dH rfl (vV (by exact fB rfl rfl hix (.cons (vC rfl rfl) (.cons (.clo .nil (kV _ hp)) .nil)) rfl rfl) ?_));refine aV ?_)|(refine rg 2 (mW rfl (vV (dX rfl rfl) ?_)))|(refine iA 4 rfl rfl rfl (by omega) (by omega) ?_)|refine nZ ?_));all_goals try (exfalso;omega)
    refine dQ (X := {m : Nat // m ≤ l.length}) (fun m => [(0,.sl 0 0 l.length 1),(1,.clo (.func F) [] caps),(5,.i (mA q (l.take m.1)).length),(6,.i m.1)]) (fun m => [.arr (ints (mA q (l.take m.1) ++ l.drop (mA q (l.take m.1)).length)) 1]) (fun m => l.length - m.1) ⟨j + 1,hj⟩ ⟨[0],rfl,⟨rfl,by rw [lA hi];rfl,by dsimp only;rw [hkl];rfl,rfl,trivial⟩,⟨.inr (aC rfl (by dsimp only;rw [hka]) (bB _)),trivial⟩,by decide,lJ⟩ ?_
    rintro ⟨m,hm⟩;dsimp only;have hle := XT q l m;by_cases hlt : m < l.length
    · have hs := AH (q := q) hlt;have hget := yH9 hle hlt;have hg2 := yH9 (G := mA q (l.take m)) (l := l) (aX _) (by omega)
      have hset := yD6 (G := mA q (l.take m)) (l := l) (x := l[m]) (by omega)
      have hc := hF l[m] (aQ hlt);have hal := yB0 (G := mA q (l.take m)) (l := l) (by omega)
      generalize l[m] = x at *;generalize l[(mA q (l.take m)).length] = y at *;generalize hG : mA q (l.take m) = G at *;generalize hA : ints (G ++ l.drop G.length) = A at *;cases e : q x
      · rw [e] at hc hs;rw [if_neg (by simp)] at hs
        (repeat' (first|refine wS ?_|refine wB ?_|refine wK ?_|refine wT ?_|(refine wC rfl ?_ ?_<;>(intro hb;(try simp only [nm] at hb);try (exfalso;omega)))|(refine rg 5 (dH rfl (qW T rfl (vV (aM rfl rfl) ?_))))|(refine rg 7 (dH rfl (vV (by exact aK T rfl rfl rfl rfl rfl (by omega) (by omega)) ?_));refine vV (by exact aJ T rfl rfl (bM rfl hget) rfl) ?_;refine aV ?_)|(refine rg 8 (dH rfl (vV (by exact fE rfl rfl hc rfl (by simp [AV.idfL,AV.idf,hi]) rfl) ?_));refine vV (dI rfl) ?_)|(refine rg 9 (dH rfl (mW rfl (vV (by exact aK T rfl rfl rfl rfl rfl (by omega) (by omega)) ?_)));refine bA T rfl rfl rfl rfl rfl rfl (by decide) (lZ rfl hg2 rfl) ?_)|(refine iA 10 rfl rfl rfl (by omega) (by omega) ?_)|(refine iA 6 rfl rfl rfl (by omega) (by omega) ?_)|refine nZ ?_));all_goals try (exfalso;omega)
        all_goals exact ⟨⟨m + 1,hlt⟩,by dsimp only;omega,[0],rfl,⟨rfl,by rw [lA hi];rfl,by rw [hs];simp only [aF];rfl,rfl,trivial⟩,⟨.inr (aC rfl (by rw [hs];exact hset) (bB _)),trivial⟩,by decide,lJ⟩
      · rw [e] at hc hs;rw [if_pos rfl] at hs
        (repeat' (first|refine wS ?_|refine wB ?_|refine wK ?_|refine wU ?_|(refine wC rfl ?_ ?_<;>(intro hb;(try simp only [nm] at hb);try (exfalso;omega)))|(refine rg 5 (dH rfl (qW T rfl (vV (aM rfl rfl) ?_))))|(refine rg 7 (dH rfl (vV (by exact aK T rfl rfl rfl rfl rfl (by omega) (by omega)) ?_));refine vV (by exact aJ T rfl rfl (bM rfl hget) rfl) ?_;refine aV ?_)|(refine rg 8 (dH rfl (vV (by exact fE rfl rfl hc rfl (by simp [AV.idfL,AV.idf,hi]) rfl) ?_));refine vV (dI rfl) ?_)|(refine iA 6 rfl rfl rfl (by omega) (by omega) ?_)|refine nZ ?_));all_goals try (exfalso;omega)
        all_goals exact ⟨⟨m + 1,hlt⟩,by dsimp only;omega,[0],rfl,⟨rfl,by rw [lA hi];rfl,by rw [hs];rfl,rfl,trivial⟩,⟨.inr (aC rfl (by rw [hs];exact hA.symm) (bB _)),trivial⟩,by decide,lJ⟩
    · obtain rfl : m = l.length := by omega
      have hal := yB0 (G := mA q (l.take l.length)) (l := l) (by omega)
      have htk := zZ1 (G := mA q (l.take l.length)) (l := l);generalize mA q (l.take l.length) = G at *
      (repeat' (first|refine wS ?_|refine wR ?_|refine wE ?_|(refine wC rfl ?_ ?_<;>(intro hb;(try simp only [nm] at hb);try (exfalso;omega)))|(refine rg 5 (dH rfl (qW T rfl (vV (aM rfl rfl) ?_))))|(refine rg 11 (dH rfl (vV (by exact jM T rfl rfl rfl rfl rfl rfl (by omega) (by omega) (by omega)) ?_));refine IA T rfl rfl rfl rfl rfl (by rw [hal];omega) ?_)|(refine rg 12 (dH rfl (vV (by exact jM T rfl rfl rfl rfl rfl rfl (by omega) (by omega) (by omega)) ?_));refine aV ?_)|refine nZ ?_));all_goals try (exfalso;omega)
      all_goals exact ⟨.inl rfl,[0],_,rfl,(by show AV.sl 0 0 ((G.length : Int) - 0).toNat 1 = AV.sl 0 0 G.length 1;rw [show ((G.length : Int) - 0).toNat = G.length by omega]),rfl,⟨.inr (aC rfl htk (bB _)),trivial⟩,by decide,lJ⟩
end Go.Proofs.YtmmmeebiobjnbaaGreat
namespace Go.Ld
open Go.Ab Go.Proofs.YtmmmeebiobjnbaaGreat
theorem zQ9 {l u n : Int} (hu : 0 < u) : (l + u - 1) / u ≤ n ↔ l ≤ n * u := by
  have h : (l + u - 1) / u < n + 1 ↔ l + u - 1 < (n + 1) * u := Int.ediv_lt_iff_lt_mul hu;rw [Int.add_mul] at h;omega
theorem zQ8 {l u n : Int} (hu : 0 < u) : n < l / u + 1 ↔ n * u ≤ l := by
  have h : n ≤ l / u ↔ n * u ≤ l := Int.le_ediv_iff_mul_le hu;omega
theorem nJ {f t n : Int} : vT f t n = true ↔ f ≤ n ∧ n < t := by unfold vT;simp
theorem BB {f t v : Int} (h0 : 0 ≤ v) (h1 : v ≤ 20000) : ((K3 f t).2 = true ∧ vT (K3 f t).1.1 (K3 f t).1.2 v = true) ↔ f ≤ v ∧ v < t := by
  unfold K3;dsimp only;rw [nJ];rcases BA f t with ⟨a,b,d,e⟩ | ⟨a,b,d,e⟩
  · rw [a,b,d];constructor
    · rintro ⟨_,_⟩;omega
    · intro _;exact ⟨rfl,by omega⟩
  · rw [a];constructor
    · rintro ⟨h,_⟩;cases h
    · intro _;omega
theorem zD4 {t u w e v : Int} (hf : 0 ≤ t ∧ t ≤ 1099511627776 ∧ 0 ≤ u ∧ u ≤ 1099511627776 ∧ 0 ≤ w ∧ w ≤ 1099511627776 ∧ 0 ≤ e ∧ e ≤ 1099511627776) (h0 : 0 ≤ v) (h1 : v ≤ 20000) :
    ((VA t u w e).2 = true ∧ vT (VA t u w e).1.1 (VA t u w e).1.2 v = true) ↔ w - e ≤ t + v * u ∧ t + v * u ≤ w + e := by
  have b1 : 0 ≤ v * u := Int.mul_nonneg h0 hf.2.2.1;unfold VA;rw [if_pos (show EG t u w e = true by unfold EG;rw [decide_eq_true_eq];exact hf)]
  by_cases c1 : w + e - t < 0 ∨ u = 0 ∧ 0 < w - e - t
  · rw [if_pos c1];constructor
    · rintro ⟨h,_⟩;cases h
    · rintro ⟨a,b⟩;rcases c1 with c1 | ⟨rfl,c1⟩ <;> omega
  · rw [if_neg c1];by_cases c2 : u = 0
    · rw [if_pos c2];dsimp only;rw [nJ];subst c2;constructor
      · rintro ⟨_,_⟩;omega
      · rintro _;exact ⟨rfl,by omega⟩
    · rw [if_neg c2,BB h0 h1];have hu : 0 < u := by omega
      have g1 : zY6 t u w e ≤ v ↔ max (w - e - t) 0 ≤ v * u := zQ9 hu;have g2 : v < zY5 t u w e ↔ v * u ≤ w + e - t := zQ8 hu;omega
theorem RT {t u w e v : Int} {r : SP} (hf : 0 ≤ t ∧ t ≤ 1099511627776 ∧ 0 ≤ u ∧ u ≤ 1099511627776 ∧ 0 ≤ w ∧ w ≤ 1099511627776 ∧ 0 ≤ e ∧ e ≤ 1099511627776) (h0 : 0 ≤ v) (h1 : v ≤ 20000) :
    ((uP t u w e r).2 = true ∧ vT (uP t u w e r).1.1 (uP t u w e r).1.2 v = true) ↔ vT r.1 r.2 v = true ∧ w - e ≤ t + v * u ∧ t + v * u ≤ w + e := by
  have hw := zD4 hf h0 h1;unfold uP;generalize VA t u w e = q at *;dsimp only;by_cases hq : q.2 = true
  · rw [if_pos hq,BB h0 h1,← hw,nJ,nJ];constructor
    · intro h;exact ⟨by omega,hq,by omega⟩
    · rintro ⟨a,_,b⟩;omega
  · rw [if_neg hq,← hw];constructor
    · rintro ⟨a,_⟩;exact absurd a hq
    · rintro ⟨_,a,_⟩;exact absurd a hq
theorem RG {c : Cx} {s : Ev} {x : Int × SP} {v : Int} (hb : 0 ≤ (c.bs.getD x.1.toNat (0, 0, 0)).2.2 ∧ (c.bs.getD x.1.toNat (0, 0, 0)).2.2 ≤ 1073741824)
    (hu : 0 ≤ nI c.ks c.ls (c.bs.getD x.1.toNat (0,0,0)).1 ∧ nI c.ks c.ls (c.bs.getD x.1.toNat (0,0,0)).1 ≤ 1048576) (hs : lS c.m c.st c.er c.sl) (hn : s.k = 1 → 0 ≤ s.n ∧ s.n ≤ 1099511627776) (h0 : 0 ≤ v) (h1 : v ≤ 20000) (h2 : s.k ≠ 2) :
    ((wN c s x).2.2 = true ∧ vT (wN c s x).1.2.1 (wN c s x).1.2.2 v = true) ↔ vT x.2.1 x.2.2 v = true ∧ HC c.st c.er c.sl x.1 v ((c.bs.getD x.1.toNat (0,0,0)).2.2 + v * nI c.ks c.ls (c.bs.getD x.1.toNat (0,0,0)).1) s.k s.n s.ids = true := by
  unfold lS at hs;unfold wN HC;by_cases k0 : s.k = 0
  · rw [if_pos k0,if_pos k0];by_cases hm : x.1 ∈ s.ids
    · rw [if_pos hm,if_pos hm];dsimp only;exact And.comm
    · rw [if_neg hm,if_neg hm];dsimp only;rw [H1];exact And.comm
  rw [if_neg k0,if_neg k0];by_cases k1 : s.k = 1
  · rw [if_pos k1,if_pos k1];dsimp only;have hn := hn k1;rw [RT (by omega) h0 h1]
    unfold jA;simp
  rw [if_neg k1,if_neg k1,if_neg h2,if_neg h2];by_cases k3 : s.k = 3
  · rw [if_pos k3,if_pos k3];dsimp only;rw [nJ,nJ,nJ,decide_eq_true_eq];omega
  rw [if_neg k3,if_neg k3];by_cases k5 : s.k = 5
  · rw [if_pos k5,if_pos k5];dsimp only;rw [decide_eq_true_eq,decide_eq_true_eq];constructor
    · rintro ⟨a,b⟩;exact ⟨b,a.symm⟩
    · rintro ⟨a,b⟩;exact ⟨b.symm,a⟩
  · rw [if_neg k5,if_neg k5];exact And.comm
theorem LM {c : Cx} {s : Ev} {x : Int × SP} {v : Int} (hx : 0 ≤ x.2.1 ∧ x.2.1 < x.2.2 ∧ x.2.2 ≤ 20001) (hs : lS c.m c.st c.er c.sl) (hn : 0 ≤ s.n ∧ s.n ≤ 1099511627776) (h0 : 0 ≤ v) (h1 : v ≤ 20000) (h2 : s.k = 2) :
    ((wN c s x).2.2 = true ∧ vT (wN c s x).1.2.1 (wN c s x).1.2.2 v = true) ↔ ∃ u d : Int,vT x.2.1 x.2.2 u = true ∧ s.n - c.sl ≤ u ∧ 0 ≤ d ∧ d ≤ u ∧ s.n - c.sl ≤ d ∧ d ≤ s.n + c.sl ∧ v = u - d := by
  unfold lS at hs;unfold wN;rw [if_neg (by omega),if_neg (by omega),if_pos h2]
  dsimp only;unfold zE;rw [if_pos (by omega),BB h0 h1]
  simp only [nJ];constructor
  · intro h;by_cases hc : v + max (s.n - c.sl) 0 ≤ x.2.1
    · exact ⟨x.2.1,x.2.1 - v,by omega,by omega,by omega,by omega,by omega,by omega,by omega⟩
    · exact ⟨v + max (s.n - c.sl) 0,max (s.n - c.sl) 0,by omega,by omega,by omega,by omega,by omega,by omega,by omega⟩
  · rintro ⟨u,d,a1,a2,a3,a4,a5,a6,rfl⟩;omega
theorem LN {c : Cx} {s : Ev} {x : Int × SP} (h : (wN c s x).2.2 = true) : (wN c s x).2.1 = zD2 c.st x.1 s.k s.ids := by
  unfold wN zD2 at *;by_cases k0 : s.k = 0
  · rw [if_pos k0] at h ⊢;rw [if_pos k0];by_cases hm : x.1 ∈ s.ids
    · rw [if_pos hm] at h ⊢;simp only [if_pos hm];simp only [decide_eq_true_eq] at h;rw [if_neg (by omega)]
    · rw [if_neg hm] at h ⊢;simp only [if_neg hm];simp only [decide_eq_true_eq] at h;rw [if_neg (by omega)]
  · rw [if_neg k0,if_neg k0]
    repeat' split
    all_goals rfl
def rF (p : List Int) (s : Ev) (done : Int) : List Int := if s.k = 4 ∧ done = 1 then (p.set s.a.toNat (p.getD s.b.toNat 0)).set s.b.toNat (p.getD s.a.toNat 0) else p
def tU (p q : List Int) (s : Ev) (done : Int) : List Int := if s.k = 2 then q.set (p.getD s.a.toNat 0).toNat (q.getD (p.getD s.a.toNat 0).toNat 0 - done) else q
def HR (c : Cx) (p q : List Int) (s : Ev) : Bool :=
  HC c.st c.er c.sl (p.getD s.a.toNat 0) (q.getD (p.getD s.a.toNat 0).toNat 0) ((c.bs.getD (p.getD s.a.toNat 0).toNat (0,0,0)).2.2 + q.getD (p.getD s.a.toNat 0).toNat 0 * nI c.ks c.ls (c.bs.getD (p.getD s.a.toNat 0).toNat (0,0,0)).1) s.k s.n s.ids
def tI (c : Cx) (p q : List Int) (s : Ev) (done : Int) : Bool := GQ c.sl (q.getD (p.getD s.a.toNat 0).toNat 0) s.k s.n done
def pU (c : Cx) (p : List Int) (s : Ev) : Int := zD2 c.st (p.getD s.a.toNat 0) s.k s.ids
def wG (c : Cx) (p q : List Int) (f : As) : Prop := ∀ b : Int,0 ≤ b → b < c.bs.length → RP p q (f b) b
structure PQ (c : Cx) (p q : List Int) : Prop where
  pl : p.length = c.bs.length
  ql : q.length = c.bs.length
  pp : p.Perm (nats (List.range c.bs.length))
  q0 : ∀ x,x ∈ q → 0 ≤ x ∧ x ≤ 20000
theorem JL {p : List Int} {n : Nat} (hl : p.length = n) : Go.Pm.permB p = true ↔ p.Perm (nats (List.range n)) := by
  unfold Go.Pm.permB;rw [decide_eq_true_eq,hl];constructor
  · intro h;rw [← h];exact (Go.Pm.sorted_perm p).symm
  · intro h;refine List.Perm.eq_of_pairwise (le := fun a b => a ≤ b) (fun a b _ _ h1 h2 => Int.le_antisymm h1 h2) ?_ ?_ ((Go.Pm.sorted_perm p).trans h)
    · have := List.pairwise_mergeSort (le := fun x y : Int => decide (x ≤ y)) (fun a b d h1 h2 => decide_eq_true (H2 (of_decide_eq_true h1) (of_decide_eq_true h2))) (fun a b => by rw [D7,decide_eq_true_eq,decide_eq_true_eq];omega) p
      exact this.imp (fun h => of_decide_eq_true h)
    · exact (CF (n := n)).imp (fun h => h) |>.map _ (fun a b h => by omega)
theorem PQ.at {c : Cx} {p q : List Int} (h : PQ c p q) {b : Int} (h0 : 0 ≤ b) (h1 : b < c.bs.length) : 0 ≤ p.getD b.toNat 0 ∧ p.getD b.toNat 0 < c.bs.length := by
  have hl := h.pl;have hm : p.getD b.toNat 0 ∈ p := by rw [aD,aB (by omega)];exact aQ _
  exact vO.1 (h.pp.mem_iff.1 hm)
theorem PQ.inj {c : Cx} {p q : List Int} (h : PQ c p q) {a b : Int} (h0 : 0 ≤ a) (h1 : a < c.bs.length) (h2 : 0 ≤ b) (h3 : b < c.bs.length) (e : p.getD a.toNat 0 = p.getD b.toNat 0) : a = b := by
  have hl := h.pl;have nd : p.Nodup := h.pp.nodup_iff.2 (B3 _);rw [aD,aB (by omega),aD,aB (by omega)] at e
  have := (zO5 nd).1 e;omega
theorem PQ.ct {c : Cx} {p q : List Int} (h : PQ c p q) {x : Int} (h0 : 0 ≤ x) (h1 : x < c.bs.length) : 0 ≤ q.getD x.toNat 0 ∧ q.getD x.toNat 0 ≤ 20000 := by
  have hl := h.ql;refine h.q0 _ ?_;rw [aD,aB (by omega)];exact aQ _
theorem vZ {c : Cx} {p q : List Int} {s : Ev} {done : Int} (hk : s.k = 2) (h : tI c p q s done = true) : 0 ≤ done ∧ done ≤ q.getD (p.getD s.a.toNat 0).toNat 0 ∧ s.n - c.sl ≤ done ∧ done ≤ s.n + c.sl := by
  unfold tI GQ jA at h;rw [if_pos hk] at h;simp only [aL,decide_eq_true_eq] at h;omega
theorem K9 {p : List Int} {s : Ev} {done : Int} : (rF p s done).length = p.length := by unfold rF;split <;> simp
theorem zB5 {p q : List Int} {s : Ev} {done : Int} : (tU p q s done).length = q.length := by unfold tU;split <;> simp
theorem CU {l : List Int} {i j : Nat} (hi : i < l.length) (hj : j < l.length) (hne : i ≠ j) : ((l.set i (l.getD j 0)).set j (l.getD i 0)).Perm l := by
  have h : ((l.set i (l.getD j 0)).set j (l.getD i 0)).Perm l := List.perm_iff_count.2 fun x => by
    have e1 : l.getD i 0 = l[i] := by simp [List.getD,hi]
    have e2 : l.getD j 0 = l[j] := by simp [List.getD,hj]
    rw [e1,e2,List.count_set (by simpa using hj),List.count_set hi,List.getElem_set_ne hne]
    have c1 : l[i] ∈ l := aQ _;have c2 : l[j] ∈ l := aQ _;have p1 := List.count_pos_iff.2 c1;have p2 := List.count_pos_iff.2 c2;by_cases a1 : l[i] = x
    · by_cases a2 : l[j] = x
      · rw [a1] at p1;simp [a1,a2];omega
      · rw [a1] at p1;simp [a1,a2];omega
    · by_cases a2 : l[j] = x
      · simp [a1,a2]
      · simp [a1,a2]
  exact h
theorem PQ.aft {c : Cx} {p q : List Int} {s : Ev} {done : Int} (h : PQ c p q) (ha : 0 ≤ s.a ∧ s.a < c.bs.length) (hb : s.k = 4 → s.a < s.b ∧ s.b < c.bs.length) (hc : tI c p q s done = true) : PQ c (rF p s done) (tU p q s done) where
  pl := by rw [K9];exact h.pl
  ql := by rw [zB5];exact h.ql
  pp := by
    refine List.Perm.trans ?_ h.pp;have hl := h.pl;unfold rF;split
    · rename_i hk;have := hb hk.1;exact CU (by omega) (by omega) (by omega)
    · exact .refl _
  q0 := fun x hx => by
    unfold tU at hx;split at hx
    · rename_i hk;rcases fS hx with hx | rfl
      · exact h.q0 x hx
      · have := vZ hk hc;obtain ⟨i0,i1⟩ := h.at ha.1 ha.2;have := h.ct i0 i1;omega
    · exact h.q0 x hx
theorem zL {l : List Int} {i j : Nat} {x : Int} (hj : i < l.length) : (l.set i x).getD j 0 = if j = i then x else l.getD j 0 := fN hj
theorem iY.box {c : Cx} (h : iY c) {x : Int} (h0 : 0 ≤ x) (h1 : x < c.bs.length) : (0 ≤ (c.bs.getD x.toNat (0,0,0)).2.2 ∧ (c.bs.getD x.toNat (0,0,0)).2.2 ≤ 1073741824) ∧ (0 ≤ nI c.ks c.ls (c.bs.getD x.toNat (0,0,0)).1 ∧ nI c.ks c.ls (c.bs.getD x.toNat (0,0,0)).1 ≤ 1048576) := by
  have hx : x.toNat < c.bs.length := by omega
  have hb := h.f.b _ hx;have e : c.bs.getD x.toNat (0,0,0) = c.bs[x.toNat] := by rw [aD,aB hx];rfl
  rw [e];exact ⟨by omega,PG h.f hb.2.1⟩
theorem DC {c : Cx} {p q : List Int} {f : As} {s : Ev} {done : Int} (hc : iY c) (h : PQ c p q) (hf : wG c p q f) (hS : ∀ b : Int, 0 ≤ b → b < c.bs.length → MN (f b).2)
    (ha : 0 ≤ s.a ∧ s.a < c.bs.length) (hb : s.k = 4 → s.a < s.b ∧ s.b < c.bs.length) (hn : s.k = 1 ∨ s.k = 2 → 0 ≤ s.n ∧ s.n ≤ 1099511627776) (hag : HR c p q s = true) (hcan : tI c p q s done = true) :
    ∃ f',D2 c s f f' (pU c p s) ∧ wG c (rF p s done) (tU p q s done) f' := by
  have hpl := h.pl;have hql := h.ql;by_cases hsw : s.k = 4 ∧ done = 1
  · refine ⟨HQ f s.a s.b,.inr ⟨hsw.1,rfl,by unfold pU zD2;rw [if_neg (by omega)]⟩,fun b b0 b1 => ?_⟩
    have hb := hb hsw.1;have eq : tU p q s done = q := by unfold tU;rw [if_neg (by omega)]
    rw [eq];have ep : (rF p s done).getD b.toNat 0 = if b = s.a then p.getD s.b.toNat 0 else if b = s.b then p.getD s.a.toNat 0 else p.getD b.toNat 0 := by
      unfold rF;rw [if_pos hsw,zL (by simp;omega),zL (by omega)]
      by_cases e1 : b = s.a
      · rw [if_pos e1,if_neg (by omega),if_pos (by omega)]
      · rw [if_neg e1];by_cases e2 : b = s.b
        · rw [if_pos e2,if_pos (by omega)]
        · rw [if_neg e2,if_neg (by omega),if_neg (by omega)]
    have h1 := hf s.a ha.1 ha.2;have h2 := hf s.b (by omega) hb.2
    have h3 := hf b b0 b1;unfold RP HQ at *;rw [ep];by_cases e1 : b = s.a
    · rw [if_pos e1,if_pos e1];exact h2
    · rw [if_neg e1,if_neg e1];by_cases e2 : b = s.b
      · rw [if_pos e2,if_pos e2];exact h1
      · rw [if_neg e2,if_neg e2];exact h3
  · have ep : rF p s done = p := by unfold rF;rw [if_neg hsw]
    rw [ep];obtain ⟨i0,i1⟩ := h.at ha.1 ha.2;obtain ⟨q0,q1⟩ := h.ct i0 i1;obtain ⟨o1,o2⟩ := hf s.a ha.1 ha.2;obtain ⟨hbx,hu⟩ := hc.box i0 i1;have hsa := hS s.a ha.1 ha.2;have key : (wN c s (f s.a)).2.2 = true ∧ vT (wN c s (f s.a)).1.2.1 (wN c s (f s.a)).1.2.2 ((tU p q s done).getD (p.getD s.a.toNat 0).toNat 0) = true := by
      by_cases k2 : s.k = 2
      · have hr := vZ k2 hcan;have e : (tU p q s done).getD (p.getD s.a.toNat 0).toNat 0 = q.getD (p.getD s.a.toNat 0).toNat 0 - done := by
          unfold tU;rw [if_pos k2,zL (by omega),if_pos rfl]
        rw [e];refine (LM ⟨hsa.1,hsa.2.1,hsa.2.2⟩ hc.s (hn (.inr k2)) (by omega) (by omega) k2).2 ⟨_,done,o2,?_,by omega,by omega,by omega,by omega,rfl⟩
        unfold HR HC at hag;rw [if_neg (by omega),if_neg (by omega),if_pos k2,decide_eq_true_eq] at hag
        exact hag
      · have e : tU p q s done = q := by unfold tU;rw [if_neg k2]
        rw [e];have o1' : (f s.a).1 = p.getD s.a.toNat 0 := o1;refine (RG (by rw [o1'];exact hbx) (by rw [o1'];exact hu) hc.s (fun k => hn (.inl k)) q0 q1 k2).2 ⟨o2,?_⟩
        rw [o1'];exact hag
    refine ⟨upd f s.a (wN c s (f s.a)).1,.inl ⟨key.1,rfl,?_⟩,fun b b0 b1 => ?_⟩
    · rw [LN key.1,show (f s.a).1 = p.getD s.a.toNat 0 from o1];rfl
    · have h3 := hf b b0 b1;unfold RP upd at *;by_cases e1 : b = s.a
      · rw [if_pos e1,GV,e1];exact ⟨o1,key.2⟩
      · rw [if_neg e1];refine ⟨h3.1,?_⟩;have hne : (p.getD b.toNat 0).toNat ≠ (p.getD s.a.toNat 0).toNat := fun e => by
          obtain ⟨j0,j1⟩ := h.at b0 b1;exact e1 (h.inj b0 b1 ha.1 ha.2 (by omega))
        have e : (tU p q s done).getD (p.getD b.toNat 0).toNat 0 = q.getD (p.getD b.toNat 0).toNat 0 := by
          unfold tU;split
          · rw [zL (by omega),if_neg hne]
          · rfl
        rw [e];exact h3.2
theorem SK {c : Cx} {p' q' : List Int} {f f' : As} {s : Ev} {d : Int} (hc : iY c) (h : PQ c p' q') (hst : D2 c s f f' d) (hf : wG c p' q' f') (hS : ∀ b : Int, 0 ≤ b → b < c.bs.length → MN (f b).2)
    (ha : 0 ≤ s.a ∧ s.a < c.bs.length) (hb : s.k = 4 → s.a < s.b ∧ s.b < c.bs.length) (hn : s.k = 1 ∨ s.k = 2 → 0 ≤ s.n ∧ s.n ≤ 1099511627776) :
    ∃ p q done,PQ c p q ∧ wG c p q f ∧ HR c p q s = true ∧ tI c p q s done = true ∧ d = pU c p s ∧ p' = rF p s done ∧ q' = tU p q s done := by
  have hpl := h.pl;have hql := h.ql;rcases hst with ⟨hok,rfl,rfl⟩ | ⟨hk,rfl,rfl⟩
  · obtain ⟨i0,i1⟩ := h.at ha.1 ha.2;obtain ⟨q0,q1⟩ := h.ct i0 i1;obtain ⟨hbx,hu⟩ := hc.box i0 i1;obtain ⟨o1,o2⟩ := hf s.a ha.1 ha.2;have hsa := hS s.a ha.1 ha.2;unfold upd at o1 o2;rw [if_pos rfl] at o1 o2;rw [GV] at o1;have hm : (wN c s (f s.a)).2.1 = pU c p' s := by rw [LN hok,o1];rfl
    by_cases k2 : s.k = 2
    · obtain ⟨u,dn,a1,a2,a3,a4,a5,a6,a7⟩ := (LM ⟨hsa.1,hsa.2.1,hsa.2.2⟩ hc.s (hn (.inr k2)) q0 q1 k2).1 ⟨hok,o2⟩;have hu2 := nJ.1 a1;have hgx : (q'.set (p'.getD s.a.toNat 0).toNat u).getD (p'.getD s.a.toNat 0).toNat 0 = u := by rw [zL (by omega),if_pos rfl]
      refine ⟨p',q'.set (p'.getD s.a.toNat 0).toNat u,dn,⟨hpl,by simpa using hql,h.pp,fun x hx => ?_⟩,fun b b0 b1 => ?_,?_,?_,hm,?_,?_⟩
      · rcases fS hx with hx | rfl
        · exact h.q0 x hx
        · have := hsa.2.2;have := hsa.1;omega
      · have h3 := hf b b0 b1;unfold RP upd at *;by_cases e1 : b = s.a
        · subst e1;rw [hgx];exact ⟨o1,a1⟩
        · rw [if_neg e1] at h3;refine ⟨h3.1,?_⟩;rw [zL (by omega),if_neg]
          · exact h3.2
          · intro e;obtain ⟨j0,j1⟩ := h.at b0 b1;exact e1 (h.inj b0 b1 ha.1 ha.2 (by omega))
      · unfold HR HC;rw [if_neg (by omega),if_neg (by omega),if_pos k2,hgx,decide_eq_true_eq];exact a2
      · unfold tI GQ jA;rw [if_pos k2,hgx];simp only [aL,decide_eq_true_eq];omega
      · unfold rF;rw [if_neg (by omega)]
      · unfold tU;rw [if_pos k2,hgx,List.set_set,← a7];exact (IR _ (by omega)).symm
    · have hx := (RG (c := c) (s := s) (x := f s.a) (by rw [o1];exact hbx) (by rw [o1];exact hu) hc.s (fun k => hn (.inl k)) q0 q1 k2).1 ⟨hok,o2⟩
      refine ⟨p',q',0,h,fun b b0 b1 => ?_,?_,?_,hm,?_,?_⟩
      · have h3 := hf b b0 b1;unfold RP upd at *;by_cases e1 : b = s.a
        · subst e1;exact ⟨o1,hx.1⟩
        · rw [if_neg e1] at h3;exact h3
      · have := hx.2;rw [o1] at this;exact this
      · unfold tI GQ;rw [if_neg k2];split <;> rfl
      · unfold rF;rw [if_neg (by omega)]
      · unfold tU;rw [if_neg k2]
  · have hb := hb hk;have hag : ∀ p q,HR c p q s = true := fun p q => by unfold HR HC;rw [if_neg (by omega),if_neg (by omega),if_neg (by omega),if_neg (by omega),if_neg (by omega)]
    have hp1 : ((p'.set s.a.toNat (p'.getD s.b.toNat 0)).set s.b.toNat (p'.getD s.a.toNat 0)).Perm p' := CU (by omega) (by omega) (by omega)
    have g : ∀ b : Int,0 ≤ b → b < c.bs.length → ((p'.set s.a.toNat (p'.getD s.b.toNat 0)).set s.b.toNat (p'.getD s.a.toNat 0)).getD b.toNat 0 = if b = s.a then p'.getD s.b.toNat 0 else if b = s.b then p'.getD s.a.toNat 0 else p'.getD b.toNat 0 := fun b b0 b1 => by
      rw [zL (by simp;omega),zL (by omega)]
      by_cases e1 : b = s.a
      · rw [if_pos e1,if_neg (by omega),if_pos (by omega)]
      · rw [if_neg e1];by_cases e2 : b = s.b
        · rw [if_pos e2,if_pos (by omega)]
        · rw [if_neg e2,if_neg (by omega),if_neg (by omega)]
    refine ⟨(p'.set s.a.toNat (p'.getD s.b.toNat 0)).set s.b.toNat (p'.getD s.a.toNat 0),q',1,⟨by simpa using hpl,hql,hp1.trans h.pp,h.q0⟩,fun b b0 b1 => ?_,hag _ _,?_,?_,?_,?_⟩
    · have h1 := hf s.a ha.1 ha.2;have h2 := hf s.b (by omega) hb.2
      have h3 := hf b b0 b1;unfold RP HQ at *;rw [g b b0 b1];rw [if_pos rfl] at h1;rw [if_neg (by omega),if_pos rfl] at h2
      by_cases e1 : b = s.a
      · subst e1;rw [if_pos rfl];exact h2
      · rw [if_neg e1] at h3 ⊢;by_cases e2 : b = s.b
        · subst e2;rw [if_pos rfl];exact h1
        · rw [if_neg e2] at h3 ⊢;exact h3
    · unfold tI GQ;rw [if_neg (by omega),if_pos hk];rfl
    · unfold pU zD2;rw [if_neg (by omega)]
    · unfold rF;rw [if_pos ⟨hk,rfl⟩,g s.a ha.1 ha.2,g s.b (by omega) hb.2,if_pos rfl,if_neg (by omega),if_pos rfl]
      refine lB (by simp) fun i h1 h2 => ?_
      simp only [List.getElem_set];have ea : p'.getD s.a.toNat 0 = p'[s.a.toNat]'(by omega) := by simp [List.getD,show s.a.toNat < p'.length by omega]
      have eb : p'.getD s.b.toNat 0 = p'[s.b.toNat]'(by omega) := by simp [List.getD,show s.b.toNat < p'.length by omega]
      split
      · rename_i h;subst h;exact eb.symm ▸ rfl
      · split
        · rename_i h;subst h;exact ea.symm ▸ rfl
        · rfl
    · unfold tU;rw [if_neg (by omega)]
theorem KU {bs : List Int} {w : W} {f : As} (h : oF bs w f) {b : Int} (hb : b ∈ bs) : gP w (bs.idxOf b) = (f b).1 ∧ gC w (bs.idxOf b) = (f b).2 := by
  obtain ⟨hx,e⟩ := xF hb;have e1 := AN h hx;have e2 := AO h hx;rw [e] at e1 e2;exact ⟨e1,e2⟩
theorem FG {c : Cx} {M0 : Int} {gs : List G} (h : nR c M0 gs) {f : As} {M : Int} (hs : Sem gs f M) {b : Int} (h0 : 0 ≤ b) (h1 : b < c.bs.length) : MN (f b).2 ∧ 0 ≤ (f b).1 ∧ (f b).1 < c.bs.length := by
  obtain ⟨g,hg,hb⟩ := h.find ⟨h0,h1⟩;obtain ⟨w,hw,hf⟩ := vG hs hg;obtain ⟨e1,e2⟩ := KU hf hb;have hi := gW hb;obtain ⟨a,d,e⟩ := ((h.out.ok g hg).ws w hw).at hi;rw [e1] at a d;rw [e2] at e;exact ⟨e,a,d⟩
theorem QA {c : Cx} {f : As} {M : Int} : ∀ {l : List Nat}, Sem (l.map (T0 c)) f M ↔ 0 ≤ M ∧ ∀ i, i ∈ l → f (i : Int) = ((i : Int), ((c.bs.getD i (0, 0, 0)).2.1, (c.bs.getD i (0, 0, 0)).2.1 + 1))
  | [] => by simp [Sem]
  | i :: l => by
    have ih := fun M => QA (c := c) (f := f) (M := M) (l := l);simp only [List.map_cons,Sem,ih];constructor
    · rintro ⟨m,⟨w,hw,hf,hm⟩,h0,h1⟩;obtain rfl := bK.1 hw;obtain ⟨f1,f2⟩ := hf;have f1 : [(i : Int)] = [(f i).1] := f1;have f2 : [((c.bs.getD i (0,0,0)).2.1,(c.bs.getD i (0,0,0)).2.1 + 1)] = [(f i).2] := f2;have hm : (0 : Int) ≤ m := hm;refine ⟨by omega,fun k hk => ?_⟩
      rcases bS.1 hk with rfl | hk
      · exact Prod.ext (List.cons.inj f1).1.symm (List.cons.inj f2).1.symm
      · exact h1 k hk
    · rintro ⟨h0,h1⟩;have hi := h1 i aR;refine ⟨0,⟨_,bK.2 rfl,⟨?_,?_⟩,eM _⟩,by omega,fun k hk => h1 k (aI _ hk)⟩
      · show [(i : Int)] = [(f i).1];rw [hi]
      · show [_] = [(f i).2];rw [hi]
theorem zH7 {c : Cx} {f : As} {M : Int} : Sem (pT c) f M ↔ 0 ≤ M ∧ ∀ b : Int,0 ≤ b → b < c.bs.length → f b = (b,((c.bs.getD b.toNat (0,0,0)).2.1,(c.bs.getD b.toNat (0,0,0)).2.1 + 1)) := by
  rw [xB,QA];constructor
  · rintro ⟨h0,h⟩;refine ⟨h0,fun b b0 b1 => ?_⟩
    have := h b.toNat (eW.2 (by omega))
    rwa [show ((b.toNat : Nat) : Int) = b by omega] at this
  · rintro ⟨h0,h⟩;refine ⟨h0,fun i hi => ?_⟩
    have := h i (by omega) (by have := eW.1 hi;omega)
    rwa [bQ] at this
theorem ZA {n : Nat} : ∀ {gs : List G}, (gs.flatMap (·.1)).Nodup → (∀ g, g ∈ gs → A4 n g) → (∀ g, g ∈ gs → g.2 ≠ []) → ∃ f, Sem gs f (jS gs)
  | [],_,_,_ => ⟨fun _ => (0,(0,0)),by simp [Sem,jS]⟩
  | g :: gs,nd,ok,ne => by
    obtain ⟨f0,h0⟩ := ZA (gs := gs) (by rw [bJ] at nd;exact (cT.1 nd).2.1) (fun x hx => ok x (aI _ hx)) (fun x hx => ne x (aI _ hx))
    obtain ⟨w,hw,hm⟩ := sK (ne g aR);have og := ok g aR;refine ⟨fun b => if b ∈ g.1 then ES g w b else f0 b,gJ g,?_,?_⟩
    · refine (N3 (f := ES g w) (fun b hb => (if_pos hb).symm)).1 ⟨w,hw,K8 og (og.ws w hw),by omega⟩
    · refine (sJ (f := f0) (fun x hx b hb => ?_)).1 (h0.mono (by simp [jS];omega))
      rw [bJ] at nd;rw [if_neg (fun q => (cT.1 nd).2.2 b q b (oR hx hb) rfl)]
theorem zL7 {n : Nat} {gs : List G} (nd : (gs.flatMap (·.1)).Nodup) (ok : ∀ g,g ∈ gs → A4 n g) (ne : ∀ g,g ∈ gs → g.2 ≠ []) {g : G} (hg : g ∈ gs) {w : W} (hw : w ∈ g.2) : ∃ f,oF g.1 w f ∧ Sem gs f (w.2.1 + (jS gs - gJ g)) := by
  obtain ⟨A,B,rfl⟩ := US hg;have hp : (A ++ g :: B).Perm (g :: (A ++ B)) := iN;have nd' : ((g :: (A ++ B)).flatMap (·.1)).Nodup := (hp.flatMap_right _).nodup_iff.1 nd;have hs : jS (A ++ g :: B) = gJ g + jS (A ++ B) := by simp [jS];omega
  rw [bJ] at nd';obtain ⟨f0,h0⟩ := ZA (gs := A ++ B) (cT.1 nd').2.1 (fun x hx => ok x (hp.mem_iff.2 (aI _ hx))) (fun x hx => ne x (hp.mem_iff.2 (aI _ hx)));have og := ok g hg;have hF := K8 og (og.ws w hw);have hc : ∀ b,b ∈ g.1 → ES g w b = (fun b => if b ∈ g.1 then ES g w b else f0 b) b := fun b hb => (if_pos hb).symm
  refine ⟨fun b => if b ∈ g.1 then ES g w b else f0 b,?_,(oN hp).2 ⟨w.2.1,?_,?_⟩⟩
  · unfold oF at hF ⊢;rw [← jL (f := fun b => (ES g w b).1) (fun b hb => by rw [hc b hb]),← jL (f := fun b => (ES g w b).2) (fun b hb => by rw [hc b hb])]
    exact hF
  · exact (N3 hc).1 ⟨w,hw,hF,eM _⟩
  · refine (sJ (f := f0) (fun x hx b hb => ?_)).1 (h0.mono (by omega))
    rw [if_neg (fun q => (cT.1 nd').2.2 b q b (oR hx hb) rfl)]
theorem E3 {α β : Type} (f g : α → List β) : ∀ l : List α, (∀ x, x ∈ l → (f x).Perm (g x)) → (l.flatMap f).Perm (l.flatMap g)
  | [],_ => .refl _
  | x :: l,h => by
    rw [bJ,bJ];exact (h x aR).append (E3 f g l (fun y hy => h y (aI _ hy)))
theorem KB {α β γ : Type} (f : β → γ) (g : α → List β) : ∀ l : List α, (l.flatMap g).map f = l.flatMap fun x => (g x).map f
  | [] => rfl
  | x :: l => by rw [bJ,bJ,bY,KB f g l]
theorem zF4 {c : Cx} {M0 : Int} {gs : List G} (h : nR c M0 gs) {f : As} {M : Int} (hs : Sem gs f M) : ((nats (List.range c.bs.length)).map fun b => (f b).1).Perm (nats (List.range c.bs.length)) := by
  refine ((h.cov.symm.map _).trans ?_).trans h.idn;rw [KB];refine E3 _ _ _ fun g hg => ?_
  obtain ⟨w,hw,hf⟩ := vG hs hg;rw [← hf.1];exact (h.out.ok g hg).same w (iL g) hw (jF (h.ne g hg))
theorem FT {n : Nat} {α : Type} (F : Int → α) (d : α) {b : Int} (h0 : 0 ≤ b) (h1 : b < n) : ((nats (List.range n)).map F).getD b.toNat d = F b := by
  rw [aD,aB (by simp;omega)]
  simp only [oW,List.getElem_range,mS];rw [show ((b.toNat : Nat) : Int) = b by omega]
theorem JH {c : Cx} {M0 : Int} {gs : List G} (h : nR c M0 gs) {f : As} {M : Int} (hs : Sem gs f M) : ∃ p q,PQ c p q ∧ wG c p q f := by
  have hi := zF4 h hs;have hnl : (nats (List.range c.bs.length)).length = c.bs.length := by simp
  generalize hp : ((nats (List.range c.bs.length)).map fun b => (f b).1) = p at *;have hpl : p.length = c.bs.length := by rw [hi.length_eq,hnl]
  have nd : p.Nodup := hi.nodup_iff.2 (B3 _);have hpg : ∀ b : Int,0 ≤ b → b < c.bs.length → p.getD b.toNat 0 = (f b).1 := fun b h0 h1 => by rw [← hp];exact FT _ _ h0 h1
  refine ⟨p,(nats (List.range c.bs.length)).map fun x => if x ∈ p then (f (p.idxOf x)).2.1 else 0,⟨hpl,by simp,hi,fun y hy => ?_⟩,fun b h0 h1 => ⟨(hpg b h0 h1).symm,?_⟩⟩
  · obtain ⟨x,hx,rfl⟩ := bC.1 hy;have hxm := hi.mem_iff.2 hx;rw [if_pos hxm];have hlt := gW hxm;have := (FG h hs (b := (p.idxOf x : Nat)) (by omega) (by omega)).1
    unfold MN at this;omega
  · have hr := FG h hs h0 h1;rw [hpg b h0 h1,FT _ _ hr.2.1 hr.2.2];have hb : b.toNat < p.length := by omega
    have e : (f b).1 = p[b.toNat] := by rw [← hpg b h0 h1,aD,aB hb];rfl
    rw [if_pos (by rw [e];exact aQ _),e,nd.idxOf_getElem,show ((b.toNat : Nat) : Int) = b by omega,nJ]
    have := hr.1;unfold MN at this;omega
def rI (c : Cx) (gs : List G) : Prop := ∀ g,g ∈ gs → ∀ w,w ∈ g.2 → w.2.1 + (jS gs - gJ g) ≤ c.m
theorem KG {g g' : G} (h : g.2 ≠ []) (h1 : ∀ w,w ∈ g'.2 → ∃ v,v ∈ g.2 ∧ v.2.1 ≤ w.2.1) (h2 : ∀ w,w ∈ g.2 → ∃ v,v ∈ g'.2 ∧ v.2.1 ≤ w.2.1) : gJ g' = gJ g := by
  obtain ⟨w,hw,e⟩ := sK h;obtain ⟨v,hv,hvw⟩ := h2 w hw;have hne : g'.2 ≠ [] := fun q => by rw [q] at hv;cases hv
  obtain ⟨w',hw',e'⟩ := sK hne;obtain ⟨v',hv',hvw'⟩ := h1 w' hw';have a := tA hv;have b := tA hv';omega
theorem NG {c : Cx} {N : List G} (hne : ∀ g,g ∈ paid c N → g.2 ≠ []) : jS (paid c N) = jS N ∧ ∀ g,g ∈ N → gJ (g.1,g.2.filter fun w => decide (w.2.1 + (jS N - gJ g) ≤ c.m)) = gJ g := by
  have key : ∀ g,g ∈ N → gJ (g.1,g.2.filter fun w => decide (w.2.1 + (jS N - gJ g) ≤ c.m)) = gJ g := fun g hg => by
    have hn := hne _ (bC.2 ⟨g,hg,rfl⟩);obtain ⟨w,hw⟩ := List.exists_mem_of_ne_nil _ hn;obtain ⟨hwg,hwm⟩ := eJ.1 hw;simp only [decide_eq_true_eq] at hwm;have hgn : g.2 ≠ [] := fun q => by rw [q] at hwg;cases hwg
    have := tA hwg;refine KG hgn (fun v hv => ⟨v,(eJ.1 hv).1,eM _⟩) fun v hv => ?_
    obtain ⟨u,hu,eu⟩ := sK hgn;exact ⟨u,eJ.2 ⟨hu,by simp only [decide_eq_true_eq];omega⟩,by have := tA hv;omega⟩
  refine ⟨?_,key⟩;unfold jS;congr 1;unfold paid;rw [CG];exact jL fun g hg => key g hg
theorem SV {c : Cx} {N : List G} (hne : ∀ g,g ∈ paid c N → g.2 ≠ []) : rI c (paid c N) := by
  obtain ⟨e,k⟩ := NG hne;intro g hg w hw;rw [e];obtain ⟨x,hx,rfl⟩ := bC.1 hg;rw [k x hx];have := (eJ.1 hw).2;simp only [decide_eq_true_eq] at this;exact this
theorem DX (g : G) (k : Nat) : gJ (nD g k) = 0 := rfl
theorem NP {g : G} {k : Nat} (h : g.2 ≠ []) : gJ (jP g k) = gJ g := by
  refine KG h (fun w hw => ?_) fun w hw => ?_
  · obtain ⟨v,hv,rfl⟩ := bC.1 (pO hw);exact ⟨v,hv,eM _⟩
  · obtain ⟨v,hv,_,_,h3⟩ := wZ (bC.2 ⟨w,hw,rfl⟩ : (w.1.eraseIdx k,w.2.1,w.2.2.eraseIdx k) ∈ g.2.map fun w => (w.1.eraseIdx k,w.2.1,w.2.2.eraseIdx k));exact ⟨v,hv,h3⟩
theorem rZ (l : List G) (g : G) : jS (g :: l) = gJ g + jS l := by simp [jS]
theorem Z6 : ∀ (m : Nat) {g : G}, g.2 ≠ [] → jS (lN m g) = gJ g ∧ ∀ x, x ∈ lN m g → ∀ w, w ∈ x.2 → ∃ v, v ∈ g.2 ∧ w.2.1 - gJ x ≤ v.2.1 - gJ g
  | 0,g,h => ⟨by simp [lN,jS],fun x hx w hw => by obtain rfl := bK.1 hx;exact ⟨w,hw,eM _⟩⟩
  | m + 1,g,h => by
    unfold lN;split
    · exact ⟨by simp [jS],fun x hx w hw => by obtain rfl := bK.1 hx;exact ⟨w,hw,eM _⟩⟩
    · rename_i k hk;obtain ⟨i1,i2⟩ := Z6 m (PR (k := k) h);have hl := NP (k := k) h;refine ⟨by rw [rZ,i1,DX,hl];omega,fun x hx w hw => ?_⟩
      rcases bS.1 hx with rfl | hx
      · obtain rfl := bK.1 hw;obtain ⟨u,hu,e⟩ := sK h;exact ⟨u,hu,by rw [DX];show (0 : Int) - 0 ≤ _;omega⟩
      · obtain ⟨v,hv,h3⟩ := i2 x hx w hw;obtain ⟨v',hv',rfl⟩ := bC.1 (pO hv);refine ⟨v',hv',?_⟩;rw [hl] at h3;exact h3
theorem SA {a b : List G} (h : a.Perm b) : jS a = jS b := by
  induction h with
  | nil => rfl
  | cons x _ ih => rw [rZ,rZ,ih]
  | swap x y l => rw [rZ,rZ,rZ,rZ];omega
  | trans _ _ h1 h2 => rw [h1,h2]
theorem II {F : G → List G} : ∀ {l : List G}, (∀ g, g ∈ l → jS (F g) = gJ g) → jS (l.flatMap F) = jS l
  | [],_ => rfl
  | g :: l,h => by
    have a := II (l := l) fun x hx => h x (aI _ hx);have b := h g aR;rw [bJ,rZ,← b,← a];simp [jS]
theorem NF {c : Cx} {P : List G} (hp : rI c P) (hne : ∀ g,g ∈ P → g.2 ≠ []) : rI c (qR P) := by
  have hs : jS (qR P) = jS P := by
    unfold qR;rw [SA (dK cG _)];exact II fun g hg => (Z6 _ (hne g hg)).1
  intro x hx w hw;rw [hs];unfold qR at hx;obtain ⟨g,hg,hxg⟩ := gG.1 ((dK cG _).mem_iff.1 hx);obtain ⟨v,hv,h3⟩ := (Z6 _ (hne g hg)).2 x hxg w hw;have := hp g hg v hv;omega
theorem RY {c : Cx} {N : List G} (h : (uQ c N).any (fun g => g.2.isEmpty) = false) : rI c (uQ c N) := by
  have hne : ∀ g,g ∈ paid c N → g.2 ≠ [] := fun g hg q => by
    have : g ∈ uQ c N := by
      unfold uQ qR;refine (dK cG _).mem_iff.2 (gG.2 ⟨g,hg,?_⟩);rw [JM q];exact bK.2 rfl
    rw [List.any_eq_false] at h;have := h g this;rw [List.isEmpty_iff.2 q] at this;exact this rfl
  unfold uQ;exact NF (SV hne) hne
theorem CZ {c : Cx} {l all : List G} {s : Ev} (hl : rI c l) : rI c (sW c l all s).2 := by
  unfold sW;dsimp only;split
  · exact hl
  · split
    · exact hl
    · split
      · exact hl
      · rename_i h;exact RY (Bool.eq_false_iff.2 h)
theorem WG {c : Cx} {l : List G} {s : Ev} (hl : rI c l) : rI c (fK c l s).2 := by
  unfold fK;split
  · split
    · split
      · exact hl
      · exact CZ hl
    · exact CZ hl
  · exact hl
theorem XM {c : Cx} (hm : 0 ≤ c.m) : rI c (pT c) := by
  have h0 : ∀ l : List Nat,jS (l.map (T0 c)) = 0 := fun l => by
    induction l with
    | nil => rfl
    | cons i l ih => rw [List.map_cons,rZ,ih];rfl
  intro g hg w hw;rw [xB,h0];rw [xB] at hg;obtain ⟨i,_,rfl⟩ := bC.1 hg;obtain rfl := bK.1 hw;show (0 : Int) + (0 - 0) ≤ c.m;omega
theorem SU {c : Cx} {gs : List G} (h : oY c gs) (hp : rI c gs) {g : G} (hg : g ∈ gs) {w : W} (hw : w ∈ g.2) : ∃ f,oF g.1 w f ∧ Sem gs f c.m := by
  obtain ⟨f,h1,h2⟩ := zL7 h.mid.out.nd h.mid.out.ok h.mid.ne hg hw;exact ⟨f,h1,h2.mono (hp g hg w hw)⟩
theorem M7 {c : Cx} {gs : List G} (h : oY c gs) (hp : rI c gs) (hn : 0 < c.bs.length) : ∃ f,Sem gs f c.m := by
  obtain ⟨g,hg,_⟩ := h.mid.find (b := 0) ⟨by omega,by omega⟩
  obtain ⟨w,hw⟩ := List.exists_mem_of_ne_nil _ (h.mid.ne g hg);obtain ⟨f,_,h2⟩ := SU h hp hg hw;exact ⟨f,h2⟩
def gQ : List G → Nat
  | [] => 1
  | g :: l => g.2.length * gQ l
theorem B1 : ∀ a b : List G, gQ (a ++ b) = gQ a * gQ b
  | [],b => by simp [gQ]
  | g :: a,b => by simp only [List.cons_append,gQ,B1 a b,tQ]
theorem pE {a b : List G} (h : a.Perm b) : gQ a = gQ b := by
  induction h with
  | nil => rfl
  | cons x _ ih => simp only [gQ,ih]
  | swap x y l => simp only [gQ];rw [Nat.mul_left_comm]
  | trans _ _ h1 h2 => rw [h1,h2]
theorem M8 : ∀ {l : List G}, (∀ g, g ∈ l → g.2 ≠ []) → 0 < gQ l
  | [],_ => MD
  | g :: l,h => Nat.mul_pos (fH.2 (h g aR)) (M8 fun x hx => h x (aI _ hx))
theorem Y9 {F : G → List G} : ∀ {l : List G}, (∀ g, g ∈ l → gQ (F g) ≤ g.2.length) → gQ (l.flatMap F) ≤ gQ l
  | [],_ => aX _
  | g :: l,h => by
    rw [bJ,B1];exact ME (h g aR) (Y9 fun x hx => h x (aI _ hx))
theorem DF {F : G → G} : ∀ {l : List G}, (∀ g, g ∈ l → (F g).2.length ≤ g.2.length) → gQ (l.map F) ≤ gQ l
  | [],_ => aX _
  | g :: l,h => ME (h g aR) (DF fun x hx => h x (aI _ hx))
theorem WM (g : G) (k : Nat) : (jP g k).2.length ≤ g.2.length := by
  show (gL _).length ≤ _;refine bL (rP _) ?_;rw [aY];exact aX _
theorem DG : ∀ (m : Nat) {g : G}, gQ (lN m g) ≤ g.2.length
  | 0,g => by simp [lN,gQ]
  | m + 1,g => by
    unfold lN;split
    · simp [gQ]
    · rename_i k _;show 1 * gQ (lN m (jP g k)) ≤ _;rw [R7];exact bL (DG m) (WM g k)
theorem RX (c : Cx) (N : List G) : gQ (uQ c N) ≤ gQ N := by
  unfold uQ qR;rw [pE (dK cG _)];refine bL (Y9 fun g _ => DG _) (DF fun g _ => ?_);exact fQ _ _
def VR (s : Ev) : Nat := if s.k = 4 then 2 else 1
theorem QU {α β : Type} (F : α → List β) (n : Nat) : ∀ l : List α, (∀ x, x ∈ l → (F x).length ≤ n) → (l.flatMap F).length ≤ l.length * n
  | [],_ => by simp
  | x :: l,h => by
    have a := QU F n l fun y hy => h y (aI _ hy);have b := h x aR;rw [bJ,aF,List.length_cons,eG];omega
theorem JW (c : Cx) (s : Ev) (g : G) : (gL (mG c s g)).length ≤ g.2.length * VR s := by
  refine bL (rP _) ?_;unfold mG;refine QU _ _ _ fun w _ => ?_
  unfold VR;rw [aF];split <;> split <;> simp
theorem WB {all : List G} {i : Nat} {g y : G} {k : Nat} (h : all[i]? = some g) (hy : y.2.length ≤ g.2.length * k) : gQ (all.set i y) ≤ gQ all * k := by
  obtain ⟨A,B,e1,e2⟩ := pL (y := y) h;rw [e2,e1,B1,B1];simp only [gQ];have := fM (gQ B) hy;have := Nat.mul_le_mul_left (gQ A) this;rw [show gQ A * (g.2.length * gQ B) * k = gQ A * (g.2.length * k * gQ B) by rw [tQ,tQ,yI6 (gQ B) k,tQ]]
  exact this
theorem CY {c : Cx} {M0 : Int} {l all : List G} {s : Ev} (h : yJ c M0 all s) (hl : gQ l ≤ gQ all * VR s) : gQ (sW c l all s).2 ≤ gQ all * VR s := by
  obtain ⟨i,g,hi,hg,hgm,hat,ha,hb⟩ := h.at;unfold sW;dsimp only;rw [hat,hi,bQ];split
  · exact hl
  · split
    · exact hl
    · split
      · exact hl
      · exact bL (RX c _) (WB hg (JW c s g))
theorem DZ {gs all : List G} {a b : Int} {c : Cx} {M : Int} (h : nR c M gs) (ha : 0 ≤ a ∧ a < c.bs.length) (hb : 0 ≤ b ∧ b < c.bs.length) (e : join gs a b = some all) : gQ all = gQ gs := by
  obtain ⟨i,x,hi,hix,hax⟩ := iR (h.find ha);obtain ⟨k,y,hk,hky,hby⟩ := iR (h.find hb);unfold join at e;dsimp only at e;rw [hi,hk] at e;split at e
  · cases e;rfl
  · rename_i hik;have gi : lY gs ((i : Int)).toNat = x := by unfold lY;rw [aD];show (gs[i]?).getD _ = x;rw [hix];rfl
    have gk : lY gs ((k : Int)).toNat = y := by unfold lY;rw [aD];show (gs[k]?).getD _ = y;rw [hky];rfl
    rw [gi,gk] at e;split at e
    · cases e
    · cases e;have hj := EA x y;generalize mK x y = J at *;rcases iW (show i ≠ k by omega) with hlt | hlt
      · obtain ⟨P,Q,R,e1,e2⟩ := mE J hlt hix hky;rw [show (min (i : Int) (k : Int)).toNat = i by omega,show (max (i : Int) (k : Int)).toNat = k by omega,e2,e1,pE zF,pE iN]
        simp only [gQ,hj,tQ]
      · obtain ⟨P,Q,R,e1,e2⟩ := mE J hlt hky hix;rw [show (min (i : Int) (k : Int)).toNat = k by omega,show (max (i : Int) (k : Int)).toNat = i by omega,e2,e1,pE zF,pE iN]
        simp only [gQ,hj,tQ,Nat.mul_left_comm]
theorem WF {c : Cx} {gs : List G} {s : Ev} (h : oY c gs) (hm0 : 0 ≤ c.m) (hm1 : c.m ≤ 1048576) : gQ (fK c gs s).2 ≤ gQ gs * VR s := by
  have hn := h.mid.n12;have hself : gQ gs ≤ gQ gs * VR s := by unfold VR;split <;> omega
  unfold fK;by_cases hr : iC c.bs.length s = true
  · rw [if_pos hr];obtain ⟨r1,r2,_⟩ := mJ hr (by omega)
    by_cases hk : s.k = 4
    · rw [if_pos hk];cases hj : join gs s.a s.b with
      | none => exact hself
      | some all =>
        dsimp only;have hb := r2 hk;have he := DZ h.mid r1 ⟨by omega,by omega⟩ hj
        have := CY (l := gs) (sU h (by omega) hm0 hm1 hr hk hj) (by rw [he];exact hself)
        rwa [he] at this
    · rw [if_neg hk];exact CY (vH h (by omega) hm0 hr hk) hself
  · rw [if_neg hr];exact hself
theorem zR2 {l : List G} (ne : ∀ g,g ∈ l → g.2 ≠ []) {i k : Nat} {x y : G} (hik : i ≠ k) (hi : l[i]? = some x) (hk : l[k]? = some y) : x.2.length * y.2.length ≤ gQ l ∧ x.1.length + y.1.length ≤ (l.flatMap (·.1)).length := by
  have key : ∀ {i k : Nat} {x y : G},i < k → l[i]? = some x → l[k]? = some y → x.2.length * y.2.length ≤ gQ l ∧ x.1.length + y.1.length ≤ (l.flatMap (·.1)).length := fun {i k x y} hlt hi hk => by
    obtain ⟨P,Q,R,e1,-⟩ := mE x hlt hi hk;have hp : l.Perm (x :: y :: (P ++ (Q ++ R))) := by rw [e1];exact zF
    have h0 := M8 (l := P ++ (Q ++ R)) fun g hg => ne g (hp.mem_iff.2 (aI _ (aI _ hg)));rw [pE hp,(hp.flatMap_right _).length_eq];constructor
    · simp only [gQ];rw [← tQ];exact BS _ h0
    · simp only [bJ,aF];omega
  rcases iW hik with hlt | hlt
  · exact key hlt hi hk
  · have := key hlt hk hi;rw [yI6];omega
theorem zT1 {l : List G} (ne : ∀ g,g ∈ l → g.2 ≠ []) {g : G} (hg : g ∈ l) : g.2.length ≤ gQ l := by
  obtain ⟨A,B,rfl⟩ := US hg;have h0 := M8 (l := A ++ B) fun x hx => ne x ((iN (a := g)).mem_iff.2 (aI _ hx));rw [pE iN];exact BS _ h0
theorem CX {c : Cx} {M0 : Int} {l all : List G} {s : Ev} (h : yJ c M0 all s) (ne : ∀ g,g ∈ all → g.2 ≠ []) (hr : 2 * gQ all ≤ 1000) : (sW c l all s).1 ≠ 6 := by
  obtain ⟨i,g,hi,hg,hgm,hat,ha,hb⟩ := h.at;unfold sW;dsimp only;rw [hat,hi,bQ];have h1 := JW c s g;have h2 := zT1 ne hgm;have h3 : g.2.length * VR s ≤ 2 * g.2.length := by unfold VR;split <;> omega
  split
  · simp
  · split
    · omega
    · split <;> simp
theorem WE {c : Cx} {gs : List G} {s : Ev} (h : oY c gs) (hm0 : 0 ≤ c.m) (hm1 : c.m ≤ 1048576) (hn6 : c.bs.length ≤ 6) (hr : 2 * gQ gs ≤ 1000) : (fK c gs s).1 ≠ 6 := by
  have hn := h.mid.n12;unfold fK;by_cases hri : iC c.bs.length s = true
  · rw [if_pos hri];obtain ⟨r1,r2,_⟩ := mJ hri (by omega)
    by_cases hk : s.k = 4
    · rw [if_pos hk];have hb := r2 hk;cases hj : join gs s.a s.b with
      | none =>
        exfalso;obtain ⟨i,x,hi,hix,hax⟩ := iR (h.mid.find r1);obtain ⟨k,y,hk,hky,hby⟩ := iR (h.mid.find (b := s.b) ⟨by omega,by omega⟩)
        unfold join at hj;dsimp only at hj;rw [hi,hk] at hj;split at hj
        · cases hj
        · rename_i hik;have gi : lY gs ((i : Int)).toNat = x := by unfold lY;rw [aD];show (gs[i]?).getD _ = x;rw [hix];rfl
          have gk : lY gs ((k : Int)).toNat = y := by unfold lY;rw [aD];show (gs[k]?).getD _ = y;rw [hky];rfl
          rw [gi,gk] at hj;obtain ⟨t1,t2⟩ := zR2 h.mid.ne (show i ≠ k by omega) hix hky
          have hc := h.mid.cov.length_eq;simp only [aY,List.length_range] at hc;split at hj
          · rename_i hbad;rcases hbad with hbad | hbad <;> omega
          · cases hj
      | some all =>
        dsimp only;have he := DZ h.mid r1 ⟨by omega,by omega⟩ hj
        have so := sU h (by omega) hm0 hm1 hri hk hj
        exact CX so so.mid.ne (by omega)
    · rw [if_neg hk];have so := vH h (by omega) hm0 hri hk
      exact CX so so.mid.ne hr
  · rw [if_neg hri];simp
theorem XL (c : Cx) : gQ (pT c) = 1 := by
  rw [xB];generalize List.range c.bs.length = l
  induction l with
  | nil => rfl
  | cons i l ih => rw [List.map_cons];simp only [gQ,ih];rfl
theorem IY (c : Cx) (gs : List G) (s : Ev) : (fK c gs s).1 = 0 ∨ (fK c gs s).1 = 1 ∧ iC c.bs.length s = false ∨ (fK c gs s).1 = 6 ∨ (fK c gs s).1 = 26 := by
  have h2 : ∀ all,(sW c gs all s).1 = 0 ∨ (sW c gs all s).1 = 6 ∨ (sW c gs all s).1 = 26 := fun all => by
    unfold sW;dsimp only;split
    · simp
    · split
      · simp
      · split <;> simp
  unfold fK;split
  · split
    · split
      · simp
      · rename_i all _;have := h2 all;omega
    · have := h2 gs;omega
  · rename_i h;exact .inr (.inl ⟨rfl,Bool.eq_false_iff.2 h⟩)
abbrev TR := List Int × List BX × Int
def lQ (bs : List BX) : List Int := bs.map (·.2.1)
theorem ZF (bs : List BX) : (lQ bs).length = bs.length := aY _
theorem C5 (bs : List BX) (i : Nat) : (lQ bs).getD i 0 = (bs.getD i (0,0,0)).2.1 := by
  unfold lQ;rw [aD,aD,bT];cases bs[i]? <;> rfl
structure qO (c : Cx) (ps : List Int) (bs : List BX) : Prop where
  t : uM c.ks c.ls ps bs
  len : ps.length = c.bs.length
  same : ∀ i,(bs.getD i (0,0,0)).1 = (c.bs.getD i (0,0,0)).1 ∧ (bs.getD i (0,0,0)).2.2 = (c.bs.getD i (0,0,0)).2.2
theorem qO.pq {c : Cx} {ps : List Int} {bs : List BX} (h : qO c ps bs) : PQ c ps (lQ bs) where
  pl := h.len
  ql := by rw [ZF,← h.t.len,h.len]
  pp := by
    refine (Z4 (nats (List.range c.bs.length)) ps (B3 _) (fun x hx => ?_) (by simp [h.len])).symm
    obtain ⟨h0,h1⟩ := vO.1 hx;have := h.t.p x.toNat (by rw [h.len];omega)
    rwa [show ((x.toNat : Nat) : Int) = x by omega] at this
  q0 := fun x hx => by
    obtain ⟨b,hb,rfl⟩ := bC.1 hx;obtain ⟨i,hi,rfl⟩ := List.getElem_of_mem hb;have := h.t.b i hi;omega
theorem qO.fit {c : Cx} {ps : List Int} {bs : List BX} (hc : iY c) (h : qO c ps bs) : zD0 c.ks c.ls ps bs where
  n1 := by have := hc.f.n1;simp at this;rw [h.len];omega
  n8 := by have := hc.f.n8;simp at this;rw [h.len];omega
  len := h.t.len
  k10 := hc.f.k10
  l10 := hc.f.l10
  k := hc.f.k
  l := hc.f.l
  p := fun i hi => by
    have := h.pq.pp.mem_iff.1 (aQ hi);rw [h.len];exact vO.1 this
  b := h.t.b
def xU (ps : List Int) (bs : List BX) (s : Ev) (done : Int) : List BX :=
  if s.k = 2 then bs.set (ps.getD s.a.toNat 0).toNat ((bs.getD (ps.getD s.a.toNat 0).toNat (0,0,0)).1,(bs.getD (ps.getD s.a.toNat 0).toNat (0,0,0)).2.1 - done,(bs.getD (ps.getD s.a.toNat 0).toNat (0,0,0)).2.2) else bs
theorem wF (ps : List Int) (bs : List BX) (s : Ev) (done : Int) : lQ (xU ps bs s done) = tU ps (lQ bs) s done := by
  unfold xU tU;split
  · rw [C5];unfold lQ;rw [pZ]
  · rfl
theorem LX (ps : List Int) (bs : List BX) (s : Ev) (done : Int) : (xU ps bs s done).length = bs.length := by
  unfold xU;split <;> simp
theorem qO.aft {c : Cx} {ps : List Int} {bs : List BX} {s : Ev} {done : Int} (h : qO c ps bs) (ha : 0 ≤ s.a ∧ s.a < c.bs.length) (hb : s.k = 4 → s.a < s.b ∧ s.b < c.bs.length) (hc : tI c ps (lQ bs) s done = true) : qO c (rF ps s done) (xU ps bs s done) where
  len := by rw [K9];exact h.len
  same := fun i => by
    unfold xU;split
    · by_cases e : i = (ps.getD s.a.toNat 0).toNat
      · by_cases hl : (ps.getD s.a.toNat 0).toNat < bs.length
        · rw [fN hl,if_pos e,e];exact h.same _
        · rw [List.set_eq_of_length_le (by omega)];exact h.same i
      · by_cases hl : (ps.getD s.a.toNat 0).toNat < bs.length
        · rw [fN hl,if_neg e];exact h.same _
        · rw [List.set_eq_of_length_le (by omega)];exact h.same i
    · exact h.same i
  t := by
    have hp := (h.pq.aft ha hb hc).pp;refine ⟨by rw [K9,LX];exact h.t.len,fun i hi => ?_,h.t.k,h.t.l,fun i hi => ?_⟩
    · rw [K9,h.len] at hi;exact hp.mem_iff.2 (vO.2 ⟨by omega,by omega⟩)
    · rw [LX] at hi;have h0 := h.t.b i hi;by_cases hk : s.k = 2
      · have hr := vZ hk hc;rw [C5] at hr;have e : xU ps bs s done = bs.set (ps.getD s.a.toNat 0).toNat ((bs.getD (ps.getD s.a.toNat 0).toNat (0,0,0)).1,(bs.getD (ps.getD s.a.toNat 0).toNat (0,0,0)).2.1 - done,(bs.getD (ps.getD s.a.toNat 0).toNat (0,0,0)).2.2) := if_pos hk;simp only [e];rw [List.getElem_set];split
        · rename_i hx;rw [hx] at hr ⊢;have eb : bs.getD i (0,0,0) = bs[i] := by rw [aD,aB hi];rfl
          rw [eb] at hr ⊢;dsimp only;refine ⟨h0.1,h0.2.1,by omega,by omega,fun q => ?_,h0.2.2.2.2.2⟩
          have := h0.2.2.2.2.1 q;omega
        · exact h0
      · have e : xU ps bs s done = bs := if_neg hk;simp only [e];exact h0
def H6 : List TR → TR → List TR
  | [],x => [x]
  | t :: l,x => if t.1 = x.1 ∧ t.2.1 = x.2.1 then (if x.2.2 < t.2.2 then x :: l else t :: l) else t :: H6 l x
theorem CL : ∀ {l : List TR} {x t : TR}, t ∈ H6 l x → t ∈ l ∨ t = x
  | [],x,t,h => .inr (bK.1 h)
  | y :: l,x,t,h => by
    unfold H6 at h;split at h
    · split at h
      · rcases bS.1 h with rfl | h
        · exact .inr rfl
        · exact .inl (aI _ h)
      · exact .inl h
    · rcases bS.1 h with rfl | h
      · exact .inl aR
      · rcases CL h with h | h
        · exact .inl (aI _ h)
        · exact .inr h
def RQ (l : List TR) (p : List Int) (bs : List BX) (M : Int) : Prop := ∃ t,t ∈ l ∧ t.1 = p ∧ t.2.1 = bs ∧ t.2.2 ≤ M
theorem CM : ∀ {l : List TR} {x : TR} {p : List Int} {bs : List BX} {M : Int}, RQ (H6 l x) p bs M ↔ RQ l p bs M ∨ (x.1 = p ∧ x.2.1 = bs ∧ x.2.2 ≤ M)
  | [],x,p,bs,M => by simp [H6,RQ]
  | y :: l,x,p,bs,M => by
    have hc : ∀ (z : TR) (l : List TR),RQ (z :: l) p bs M ↔ (z.1 = p ∧ z.2.1 = bs ∧ z.2.2 ≤ M) ∨ RQ l p bs M := fun z l => by unfold RQ;simp
    unfold H6;split
    · rename_i he;split
      · rename_i hlt;rw [hc,hc];constructor
        · rintro (h | h)
          · exact .inr h
          · exact .inl (.inr h)
        · rintro ((⟨a,b,d⟩ | h) | h)
          · exact .inl ⟨he.1.symm.trans a,he.2.symm.trans b,by omega⟩
          · exact .inr h
          · exact .inl h
      · rename_i hlt;rw [hc];constructor
        · exact .inl
        · rintro (h | ⟨a,b,d⟩)
          · exact h
          · exact .inl ⟨he.1.trans a,he.2.trans b,by omega⟩
    · rw [hc,hc,CM];constructor
      · rintro (h | h | h)
        · exact .inl (.inl h)
        · exact .inl (.inr h)
        · exact .inr h
      · rintro ((h | h) | h)
        · exact .inl h
        · exact .inr (.inl h)
        · exact .inr (.inr h)
theorem EE : ∀ {L l : List TR} {t : TR}, t ∈ L.foldl H6 l → t ∈ l ∨ t ∈ L
  | [],l,t,h => .inl h
  | x :: L,l,t,h => by
    rcases EE (L := L) h with h | h
    · rcases CL h with h | h
      · exact .inl h
      · exact .inr (by rw [h];exact aR)
    · exact .inr (aI _ h)
theorem EF : ∀ {L l : List TR} {p : List Int} {bs : List BX} {M : Int}, RQ (L.foldl H6 l) p bs M ↔ RQ l p bs M ∨ RQ L p bs M
  | [],l,p,bs,M => by simp [RQ]
  | x :: L,l,p,bs,M => by
    rw [D5,EF,CM];have hc : RQ (x :: L) p bs M ↔ (x.1 = p ∧ x.2.1 = bs ∧ x.2.2 ≤ M) ∨ RQ L p bs M := by unfold RQ;simp
    rw [hc,or_assoc]
def zO0 (c : Cx) (s : Ev) (t : TR) (done : Int) : TR := (rF t.1 s done,xU t.1 t.2.1 s done,t.2.2 + pU c t.1 s)
def EC (c : Cx) (s : Ev) (t : TR) : Bool := HR c t.1 (lQ t.2.1) s && decide (t.2.2 + pU c t.1 s ≤ c.m)
def YQ (c : Cx) (s : Ev) (t : TR) (k : Nat) : List TR := if EC c s t then ((List.range k).filter fun d => tI c t.1 (lQ t.2.1) s (d : Nat)).map fun d => zO0 c s t (d : Nat) else []
def P3 (c : Cx) (s : Ev) (all : List TR) : List TR := (all.flatMap fun t => YQ c s t 4).foldl H6 []
structure PA (c : Cx) (gs : List G) (all : List TR) : Prop where
  ok : ∀ t,t ∈ all → qO c t.1 t.2.1 ∧ 0 ≤ t.2.2 ∧ t.2.2 ≤ c.m ∧ ∀ x,x ∈ lQ t.2.1 → x ≤ 3
  iff : ∀ p q,PQ c p q → ∀ M,M ≤ c.m → ((∃ f,wG c p q f ∧ Sem gs f M) ↔ ∃ t,t ∈ all ∧ t.1 = p ∧ lQ t.2.1 = q ∧ t.2.2 ≤ M)
theorem LV (st id k : Int) (ids : List Int) : 0 ≤ zD2 st id k ids ∧ zD2 st id k ids ≤ 1 := by
  unfold zD2;repeat' split
  all_goals omega
theorem NW {c : Cx} {gs : List G} (h : oY c gs) {f : As} {M : Int} (hs : Sem gs f M) : ∀ b : Int,0 ≤ b → b < c.bs.length → MN (f b).2 := fun b h0 h1 => (FG h.mid hs h0 h1).1
theorem I4 {c : Cx} {gs : List G} (h : oY c gs) {s : Ev} (hr : iC c.bs.length s = true) : (0 ≤ s.a ∧ s.a < c.bs.length) ∧ (s.k = 4 → s.a < s.b ∧ s.b < c.bs.length) ∧ (s.k = 1 ∨ s.k = 2 ∨ s.k = 3 → 0 ≤ s.n ∧ s.n ≤ 1099511627776) := by
  have hn := h.mid.n12;obtain ⟨r1,r2,r3⟩ := mJ hr (by omega)
  refine ⟨r1,fun k => ?_,fun k => ?_⟩
  · have := r2 k;omega
  · unfold iC at hr;rw [aL] at hr;have hr := hr.2;rw [if_neg (by omega),if_pos k,decide_eq_true_eq] at hr
    exact hr
theorem M2 {c : Cx} {gs : List G} {p q : List Int} {f : As} {s : Ev} {M done : Int} (hc : iY c) (h : oY c gs) (hr : iC c.bs.length s = true) (hp : PQ c p q) (hf : wG c p q f) (hs : Sem gs f M)
    (hag : HR c p q s = true) (hcan : tI c p q s done = true) (hM : M + pU c p s ≤ c.m) :
    (fK c gs s).1 ≠ 26 ∧ ((fK c gs s).1 = 0 → ∃ f',wG c (rF p s done) (tU p q s done) f' ∧ Sem (fK c gs s).2 f' (M + pU c p s)) := by
  obtain ⟨r1,r2,r3⟩ := I4 h hr;obtain ⟨m0,m1,_⟩ := hc.s;obtain ⟨f',st,ok⟩ := DC hc hp hf (NW h hs) r1 r2 (fun k => r3 (by omega)) hag hcan
  have hse := tZ h m0 m1 hr (f' := f') hM;have hex : ∃ f d,D2 c s f f' d ∧ Sem gs f (M + pU c p s - d) := ⟨f,_,st,hs.mono (by omega)⟩
  exact ⟨fun q => hse.2 q hex,fun q => ⟨f',ok,(hse.1 q).2 hex⟩⟩
theorem ED {c : Cx} {s : Ev} {t x : TR} {k : Nat} : x ∈ YQ c s t k ↔ EC c s t = true ∧ ∃ d : Nat,d < k ∧ tI c t.1 (lQ t.2.1) s d = true ∧ x = zO0 c s t d := by
  unfold YQ;split
  · rename_i h;rw [bC];constructor
    · rintro ⟨d,hd,rfl⟩;obtain ⟨h1,h2⟩ := eJ.1 hd;exact ⟨h,d,eW.1 h1,h2,rfl⟩
    · rintro ⟨_,d,h1,h2,rfl⟩;exact ⟨d,eJ.2 ⟨eW.2 h1,h2⟩,rfl⟩
  · rename_i h;constructor
    · intro q;cases q
    · rintro ⟨q,_⟩;exact absurd q h
theorem P2 {c : Cx} {s : Ev} {all : List TR} {x : TR} (h : x ∈ P3 c s all) : ∃ t,t ∈ all ∧ EC c s t = true ∧ ∃ d : Nat,d < 4 ∧ tI c t.1 (lQ t.2.1) s d = true ∧ x = zO0 c s t d := by
  rcases EE h with h | h
  · cases h
  · obtain ⟨t,ht,hx⟩ := gG.1 h;exact ⟨t,ht,ED.1 hx⟩
theorem J4 {c : Cx} {s : Ev} {t : TR} : EC c s t = true ↔ HR c t.1 (lQ t.2.1) s = true ∧ t.2.2 + pU c t.1 s ≤ c.m := by
  unfold EC;rw [aL,decide_eq_true_eq]
theorem PA.step {c : Cx} {gs : List G} {all : List TR} {s : Ev} (hc : iY c) (h : oY c gs) (hr : iC c.bs.length s = true) (e : PA c gs all) :
    ((fK c gs s).1 = 0 → PA c (fK c gs s).2 (P3 c s all)) ∧ ((fK c gs s).1 = 26 → P3 c s all = []) := by
  obtain ⟨r1,r2,r3⟩ := I4 h hr;obtain ⟨m0,m1,_⟩ := hc.s;have key : ∀ t,t ∈ all → EC c s t = true → ∀ d : Nat,tI c t.1 (lQ t.2.1) s d = true → ∃ f,wG c t.1 (lQ t.2.1) f ∧ Sem gs f t.2.2 := fun t ht hg d hd => by
    obtain ⟨a,b,b',_⟩ := e.ok t ht;exact (e.iff t.1 (lQ t.2.1) a.pq t.2.2 b').2 ⟨t,ht,rfl,rfl,eM _⟩
  constructor
  · intro h0;refine ⟨fun x hx => ?_,fun p q hpq M hM => ⟨?_,?_⟩⟩
    · obtain ⟨t,ht,hg,d,hd,hcan,rfl⟩ := P2 hx;obtain ⟨a,b,b',b3⟩ := e.ok t ht;obtain ⟨g1,g2⟩ := J4.1 hg;have := (LV c.st (t.1.getD s.a.toNat 0) s.k s.ids).1;refine ⟨a.aft r1 r2 hcan,?_,g2,fun y hy => ?_⟩
      · show 0 ≤ t.2.2 + pU c t.1 s;unfold pU;omega
      · change y ∈ lQ (xU t.1 t.2.1 s d) at hy;rw [wF] at hy;unfold tU at hy;split at hy
        · rename_i hk;have hrg := vZ hk hcan;rcases fS hy with hy | rfl
          · exact b3 y hy
          · obtain ⟨i0,i1⟩ := a.pq.at r1.1 r1.2;have : (lQ t.2.1).getD (t.1.getD s.a.toNat 0).toNat 0 ∈ lQ t.2.1 := by
              have := a.pq.ql;rw [aD,aB (by omega)];exact aQ _
            have := b3 _ this;omega
        · exact b3 y hy
    · rintro ⟨f',hf',hs'⟩;obtain ⟨f,d,st,hs⟩ := ((tZ h m0 m1 hr (f' := f') hM).1 h0).1 hs';obtain ⟨p0,q0,done,hpq0,hf0,hag,hcan,rfl,e1,e2⟩ := SK hc hpq st hf' (NW h hs) r1 r2 (fun k => r3 (by omega))
      have hm := (LV c.st (p0.getD s.a.toNat 0) s.k s.ids).1;obtain ⟨t,ht,rfl,rfl,htm⟩ := (e.iff p0 q0 hpq0 (M - pU c p0 s) (by unfold pU;omega)).1 ⟨f,hf0,hs⟩
      obtain ⟨a,b,b',b3⟩ := e.ok t ht;have hd : 0 ≤ done ∧ done < 4 := by
        by_cases hk : s.k = 2
        · have hrg := vZ hk hcan;obtain ⟨i0,i1⟩ := a.pq.at r1.1 r1.2;have : (lQ t.2.1).getD (t.1.getD s.a.toNat 0).toNat 0 ∈ lQ t.2.1 := by
            have := a.pq.ql;rw [aD,aB (by omega)];exact aQ _
          have := b3 _ this;omega
        · unfold tI GQ at hcan;rw [if_neg hk] at hcan;split at hcan
          · rw [D7,decide_eq_true_eq,decide_eq_true_eq] at hcan;omega
          · rw [decide_eq_true_eq] at hcan;omega
      have hdn : ((done.toNat : Nat) : Int) = done := by omega
      have hx : RQ (P3 c s all) (rF t.1 s done) (xU t.1 t.2.1 s done) M := by
        refine EF.2 (.inr ⟨zO0 c s t (done.toNat : Nat),gG.2 ⟨t,ht,ED.2 ⟨J4.2 ⟨hag,by omega⟩,done.toNat,by omega,by rw [hdn];exact hcan,rfl⟩⟩,?_,?_,?_⟩)
        · rw [hdn];rfl
        · rw [hdn];rfl
        · show t.2.2 + pU c t.1 s ≤ M;omega
      obtain ⟨x,hx1,hx2,hx3,hx4⟩ := hx;exact ⟨x,hx1,hx2.trans e1.symm,by rw [hx3,wF];exact e2.symm,hx4⟩
    · rintro ⟨x,hx,rfl,rfl,hxm⟩;obtain ⟨t,ht,hg,d,hd,hcan,rfl⟩ := P2 hx;obtain ⟨f,hf,hs⟩ := key t ht hg d hcan;obtain ⟨a,b,b',b3⟩ := e.ok t ht;obtain ⟨g1,g2⟩ := J4.1 hg;obtain ⟨f',ok,hs'⟩ := (M2 hc h hr a.pq hf hs g1 hcan g2).2 h0;refine ⟨f',?_,hs'.mono hxm⟩;show wG c (rF t.1 s d) (lQ (xU t.1 t.2.1 s d)) f';rw [wF];exact ok
  · intro h26;cases hn : P3 c s all with
    | nil => rfl
    | cons x l =>
      exfalso;have hx : x ∈ P3 c s all := by rw [hn];exact aR
      obtain ⟨t,ht,hg,d,hd,hcan,rfl⟩ := P2 hx;obtain ⟨f,hf,hs⟩ := key t ht hg d hcan;obtain ⟨a,b,b',b3⟩ := e.ok t ht;obtain ⟨g1,g2⟩ := J4.1 hg;exact (M2 hc h hr a.pq hf hs g1 hcan g2).1 h26
theorem PA.some {c : Cx} {gs : List G} {all : List TR} (hc : iY c) (h : oY c gs) (hp : rI c gs) (e : PA c gs all) : all ≠ [] := by
  have hn := hc.f.n1;simp at hn;obtain ⟨f,hs⟩ := M7 h hp (by omega)
  obtain ⟨p,q,hpq,hf⟩ := JH h.mid hs;obtain ⟨t,ht,_⟩ := (e.iff p q hpq c.m (eM _)).1 ⟨f,hf,hs⟩;exact fun q => by rw [q] at ht;cases ht
def zA7 (all : List TR) (p q : List Int) : Bool := all.any fun t => decide (t.1 = p) && decide (lQ t.2.1 = q)
theorem PA.among {c : Cx} {gs : List G} {all : List TR} {p q : List Int} (h : oY c gs) (e : PA c gs all) (hp : PQ c p q) : zX2 c gs p q = zA7 all p q := by
  rw [EY,HD h];unfold zA7;rw [lD];have hi := e.iff p q hp c.m (eM _);constructor
  · rintro ⟨_,_,_,f,hf,hs⟩;obtain ⟨t,ht,e1,e2,_⟩ := hi.1 ⟨f,hf,hs⟩;exact ⟨t,ht,by rw [e1,e2];simp⟩
  · rintro ⟨t,ht,hx⟩;rw [aL,decide_eq_true_eq,decide_eq_true_eq] at hx;obtain ⟨f,hf,hs⟩ := hi.2 ⟨t,ht,hx.1,hx.2,(e.ok t ht).2.2.1⟩;exact ⟨hp.pl,by rw [hp.ql,hp.pl],(JL hp.pl).2 hp.pp,f,hf,hs⟩
theorem JZ {c : Cx} (hc : iY c) : qO c (nats (List.range c.bs.length)) c.bs := ⟨ID hc,by simp,fun i => ⟨rfl,rfl⟩⟩
theorem zH8 {n : Nat} {b : Int} (h0 : 0 ≤ b) (h1 : b < n) : (nats (List.range n)).getD b.toNat 0 = b := by
  have := FT (n := n) (fun x => x) 0 h0 h1
  rwa [List.map_id'] at this
theorem QB {c : Cx} : ∃ f,wG c (nats (List.range c.bs.length)) (lQ c.bs) f ∧ Sem (pT c) f 0 := by
  refine ⟨fun b => (b,((c.bs.getD b.toNat (0,0,0)).2.1,(c.bs.getD b.toNat (0,0,0)).2.1 + 1)),fun b h0 h1 => ?_,zH7.2 ⟨eM _,fun b h0 h1 => rfl⟩⟩
  unfold RP;rw [zH8 h0 h1,C5];exact ⟨rfl,nJ.2 ⟨eM _,by dsimp only;omega⟩⟩
end Go.Ld
namespace Go.Proofs.YtmmmeebiobjnbaaGreat
open Go Go.Ab Go.Ld
attribute [local irreducible] VC AW cF aS iZ
set_option maxHeartbeats 4000000
theorem GC {l : List Int} {i : Nat} (h : i < l.length) : l[i]? = some (l.getD i 0) := by
  rw [aD,aB h];rfl
theorem U9 {l : List BX} {i : Nat} (h : i < l.length) : l[i]? = some ((l.getD i (0,0,0)).1,(l.getD i (0,0,0)).2.1,(l.getD i (0,0,0)).2.2) := by
  rw [aD,aB h];rfl
theorem zB3 {c : Cx} {ps : List Int} {bs : List BX} (s : Ev) (h : qO c ps bs) :
    HC c.st c.er c.sl (ps.getD s.a.toNat 0) (bs.getD (ps.getD s.a.toNat 0).toNat (0,0,0)).2.1 ((bs.getD (ps.getD s.a.toNat 0).toNat (0,0,0)).2.2 + (bs.getD (ps.getD s.a.toNat 0).toNat (0,0,0)).2.1 * nI c.ks c.ls (bs.getD (ps.getD s.a.toNat 0).toNat (0,0,0)).1) s.k s.n s.ids = HR c ps (lQ bs) s := by
  unfold HR;have hs := h.same (ps.getD s.a.toNat 0).toNat;rw [C5,← hs.1,← hs.2]
theorem UM {c : Cx} (hc : iY c) {ps : List Int} {bs : List BX} (h : qO c ps bs) {s : Ev} (ha : 0 ≤ s.a ∧ s.a < c.bs.length) (hn : 0 ≤ s.n ∧ s.n ≤ 1099511627776) (hids : s.ids.length ≤ 9223372036854775807) :
    aS Tryz.prog 19 [iE c.m c.st c.er c.sl,.rowE (gN c.ks) 2,.rowE (iS c.ls) 3,.rowE (ints ps) 1,.rowE (dR bs) 3,zV8 s] [] (.tup [.i (pU c ps s),.b (HR c ps (lQ bs) s)]) [] := by
  have hf := h.fit hc;have hpl := h.len;have hbl := h.t.len;obtain ⟨i0,i1⟩ := h.pq.at ha.1 ha.2;have h1 := GC (l := ps) (i := s.a.toNat) (by omega)
  have h2 := U9 (l := bs) (i := (ps.getD s.a.toNat 0).toNat) (by omega)
  have := LU (k := s.k) (b := s.b) (n := s.n) (ids := s.ids) hf hc.s ha.1 hn hids h1 h2;rw [zB3 s h] at this;exact this
theorem zB4 {c : Cx} (hc : iY c) {ps : List Int} {bs : List BX} (h : qO c ps bs) {s : Ev} (ha : 0 ≤ s.a ∧ s.a < c.bs.length) (hb : s.k = 4 → s.a < s.b ∧ s.b < c.bs.length) (hn : 0 ≤ s.n ∧ s.n ≤ 1099511627776) (hids : s.ids.length ≤ 9223372036854775807) (done : Int) :
    ((HR c ps (lQ bs) s && tI c ps (lQ bs) s done) = true ∧ aS Tryz.prog 20 [iE c.m c.st c.er c.sl,.rowE (gN c.ks) 2,.rowE (iS c.ls) 3,.rowE (ints ps) 1,.rowE (dR bs) 3,zV8 s,.i done] [] (.tup [.rowE (ints (rF ps s done)) 1,.rowE (dR (xU ps bs s done)) 3,.b true]) []) ∨
    ((HR c ps (lQ bs) s && tI c ps (lQ bs) s done) = false ∧ aS Tryz.prog 20 [iE c.m c.st c.er c.sl,.rowE (gN c.ks) 2,.rowE (iS c.ls) 3,.rowE (ints ps) 1,.rowE (dR bs) 3,zV8 s,.i done] [] (.tup [.nils,.nils,.b false]) []) := by
  have hf := h.fit hc;have hpl := h.len;have hbl := h.t.len;have hs' := hc.s;unfold lS at hs';obtain ⟨i0,i1⟩ := h.pq.at ha.1 ha.2;have h1 := GC (l := ps) (i := s.a.toNat) (by omega)
  have h2 := U9 (l := bs) (i := (ps.getD s.a.toNat 0).toNat) (by omega)
  have hag := LU (k := s.k) (b := s.b) (n := s.n) (ids := s.ids) hf hc.s ha.1 hn hids h1 h2;rw [zB3 s h] at hag;have hcan := yC0 c.m c.st c.er c.sl (bs.getD (ps.getD s.a.toNat 0).toNat (0,0,0)).1 (bs.getD (ps.getD s.a.toNat 0).toNat (0,0,0)).2.1 (bs.getD (ps.getD s.a.toNat 0).toNat (0,0,0)).2.2 s.k s.a s.b s.n s.ids done hn (by omega)
  have hcT : GQ c.sl (bs.getD (ps.getD s.a.toNat 0).toNat (0,0,0)).2.1 s.k s.n done = tI c ps (lQ bs) s done := by unfold tI;rw [C5]
  rw [hcT] at hcan;cases e1 : HR c ps (lQ bs) s
  · rw [e1] at hag;exact .inr ⟨rfl,LW hf ha.1 h1 h2 i0 (.inl rfl) hag hcan⟩
  · rw [e1] at hag;cases e2 : tI c ps (lQ bs) s done
    · rw [e2] at hcan;exact .inr ⟨rfl,LW hf ha.1 h1 h2 i0 (.inr ⟨rfl,rfl⟩) hag hcan⟩
    · have hrg := fun hk => vZ (c := c) (p := ps) (q := lQ bs) (s := s) (done := done) hk e2;rw [e2] at hcan;refine .inl ⟨rfl,?_⟩;by_cases hk2 : s.k = 2
      · have hrg := hrg hk2;rw [C5] at hrg;have := OQ hf ha.1 h1 h2 i0 hk2 ⟨hrg.1,hrg.2.1⟩ hag hcan;have ep : rF ps s done = ps := by unfold rF;rw [if_neg (by omega)]
        have eb : xU ps bs s done = bs.set (ps.getD s.a.toNat 0).toNat ((bs.getD (ps.getD s.a.toNat 0).toNat (0,0,0)).1,(bs.getD (ps.getD s.a.toNat 0).toNat (0,0,0)).2.1 - done,(bs.getD (ps.getD s.a.toNat 0).toNat (0,0,0)).2.2) := if_pos hk2;rw [ep,eb];exact G7 (by simp) (by simp) (F4 _) (G2 _) rfl this
      · have eb : xU ps bs s done = bs := if_neg hk2;rw [eb];by_cases hk4 : s.k = 4 ∧ done = 1
        · have hb := hb hk4.1;have h3 := GC (l := ps) (i := s.b.toNat) (by omega)
          have := OO hf ha.1 h1 h2 i0 hk4.1 hk4.2 (by omega) (by omega) h3 hag hcan
          have ep : rF ps s done = (ps.set s.a.toNat (ps.getD s.b.toNat 0)).set s.b.toNat (ps.getD s.a.toNat 0) := if_pos hk4;rw [ep];exact G7 (by simp) (by simp) (F4 _) (G2 _) rfl this
        · have := OP hf ha.1 h1 h2 i0 hk2 hk4 hag hcan;have ep : rF ps s done = ps := if_neg hk4;rw [ep];exact G7 (by simp) (by simp) (F4 _) (G2 _) rfl this
end Go.Proofs.YtmmmeebiobjnbaaGreat
namespace Go.Ld
open Go.Ab Go.Proofs.YtmmmeebiobjnbaaGreat
structure BO (c : Cx) (gs : List G) (ps : List Int) (bs : List BX) (M : Int) : Prop where
  gk : oY c gs
  re : qO c ps bs
  m0 : 0 ≤ M
  m1 : M ≤ c.m
  f : ∃ f,wG c ps (lQ bs) f ∧ Sem gs f M
theorem BO.new {c : Cx} (hc : iY c) (hn : c.bs.length ≤ 12) : BO c (pT c) (nats (List.range c.bs.length)) c.bs 0 :=
  ⟨XN hc hn hc.s.1,JZ hc,eM _,hc.s.1,QB⟩
theorem BO.step {c : Cx} {gs : List G} {ps : List Int} {bs : List BX} {M done : Int} {s : Ev} (hc : iY c) (h : BO c gs ps bs M) (hr : iC c.bs.length s = true) (hag : HR c ps (lQ bs) s = true) (hcan : tI c ps (lQ bs) s done = true) (hM : M + pU c ps s ≤ c.m) :
    (fK c gs s).1 = 6 ∨ (fK c gs s).1 = 0 ∧ BO c (fK c gs s).2 (rF ps s done) (xU ps bs s done) (M + pU c ps s) ∧ zX2 c (fK c gs s).2 (rF ps s done) (lQ (xU ps bs s done)) = true := by
  obtain ⟨r1,r2,r3⟩ := I4 h.gk hr;obtain ⟨m0,m1,_⟩ := hc.s;obtain ⟨f,hf,hs⟩ := h.f;obtain ⟨t1,t2⟩ := M2 hc h.gk hr h.re.pq hf hs hag hcan hM;have hmis := (LV c.st (ps.getD s.a.toNat 0) s.k s.ids).1;have hm0 := h.m0;have hre := h.re.aft r1 r2 hcan;rcases IY c gs s with h0 | ⟨_,h0⟩ | h0 | h0
  · refine .inr ⟨h0,?_⟩;obtain ⟨f',ok,hs'⟩ := t2 h0;rw [← wF] at ok;have hg := FI (s := s) h.gk m0 m1;refine ⟨⟨hg,hre,by unfold pU;omega,hM,f',ok,hs'⟩,?_⟩
    exact (HD hg).2 ⟨hre.pq.pl,by rw [hre.pq.ql,hre.pq.pl],(JL hre.pq.pl).2 hre.pq.pp,f',ok,hs'.mono hM⟩
  · rw [h0] at hr;cases hr
  · exact .inl h0
  · exact absurd h0 t1
end Go.Ld
namespace Go.Proofs.YtmmmeebiobjnbaaGreat
open Go Go.Ab Go.Ld
attribute [local irreducible] VC AW cF aS iZ
set_option maxHeartbeats 4000000
end Go.Proofs.YtmmmeebiobjnbaaGreat
namespace Go.Ld
open Go.Ab Go.Proofs.YtmmmeebiobjnbaaGreat
def BR (c : Cx) : List Ev → As → As → Int → Prop
  | [],f,f',d => f' = f ∧ d = 0
  | s :: L,f,f',d => ∃ f1 d1 d2,D2 c s f f1 d1 ∧ BR c L f1 f' d2 ∧ d = d1 + d2
def OW (c : Cx) : List G → List Ev → List G → Prop
  | gs,[],gs' => gs' = gs
  | gs,s :: L,gs' => (fK c gs s).1 = 0 ∧ OW c (fK c gs s).2 L gs'
def uE (c : Cx) : List G → List Ev → Bool
  | _,[] => true
  | gs,s :: L => !decide ((fK c gs s).1 = 26) && uE c (fK c gs s).2 L
theorem yC4 {c : Cx} {s : Ev} {x : Int × SP} : 0 ≤ (wN c s x).2.1 ∧ (wN c s x).2.1 ≤ 1 := by
  unfold wN;dsimp only
  repeat' split
  all_goals (dsimp only;omega)
theorem zS0 {c : Cx} {s : Ev} {f f' : As} {d : Int} (h : D2 c s f f' d) : 0 ≤ d := by
  rcases h with ⟨_,_,rfl⟩ | ⟨_,_,rfl⟩
  · exact yC4.1
  · exact eM _
theorem M9 {c : Cx} : ∀ {L : List Ev} {f f' : As} {d : Int}, BR c L f f' d → 0 ≤ d
  | [],_,_,_,⟨_,h⟩ => by omega
  | s :: L,_,_,_,⟨f1,d1,d2,h1,h2,h3⟩ => by
    have := zS0 h1;have := M9 h2;omega
theorem DI {c : Cx} {s : Ev} : ∀ {L : List Ev} {f f' f'' : As} {d e : Int}, BR c L f f' d → D2 c s f' f'' e → BR c (L ++ [s]) f f'' (d + e)
  | [],f,f',f'',d,e,⟨h1,h2⟩,h => by
    subst h1;subst h2;exact ⟨f'',e,0,h,⟨rfl,rfl⟩,by omega⟩
  | x :: L,f,f',f'',d,e,⟨f1,d1,d2,h1,h2,h3⟩,h => ⟨f1,d1,d2 + e,h1,DI h2 h,by omega⟩
theorem DA {c : Cx} {s : Ev} : ∀ {L : List Ev} {gs gs' : List G}, OW c gs L gs' → (fK c gs' s).1 = 0 → OW c gs (L ++ [s]) (fK c gs' s).2
  | [],gs,gs',h,h0 => by
    have e : gs' = gs := h;subst e;exact ⟨h0,rfl⟩
  | x :: L,gs,gs',⟨h1,h2⟩,h0 => ⟨h1,DA h2 h0⟩
theorem DO {c : Cx} {s : Ev} : ∀ {L : List Ev} {gs : List G}, uE c gs (L ++ [s]) = true → uE c gs L = true
  | [],_,_ => rfl
  | x :: L,gs,h => by
    rw [List.cons_append] at h;unfold uE at h ⊢;rw [aL] at h ⊢;exact ⟨h.1,DO h.2⟩
structure MH (c : Cx) (gs : List G) (m : Nat) : Prop where
  gk : oY c gs
  pd : rI c gs
  pr : gQ gs ≤ 2 ^ m
theorem zS5 {m : Nat} (h : m ≤ 5) : 2 ^ m ≤ 32 := Nat.pow_le_pow_right (by decide) h
theorem zZ4 (s : Ev) (m : Nat) : 2 ^ m * VR s = 2 ^ (m + if s.k = 4 then 1 else 0) := by
  unfold VR;split <;> simp [Nat.pow_succ]
theorem MH.see {c : Cx} {gs : List G} {m : Nat} (hc : iY c) (h : MH c gs m) (s : Ev) : MH c (fK c gs s).2 (m + if s.k = 4 then 1 else 0) := by
  have hm0 := hc.s.1;have hm1 := hc.s.2.1;refine ⟨FI h.gk hm0 hm1,WG h.pd,?_⟩;rw [← zZ4];exact bL (WF h.gk hm0 hm1) (fM _ h.pr)
theorem MH.new {c : Cx} (hc : iY c) : MH c (pT c) 0 := by
  have hn := hc.f.n8;simp at hn;exact ⟨XN hc (by omega) hc.s.1,XM hc.s.1,by rw [XL];exact aX _⟩
theorem MH.room {c : Cx} {gs : List G} {m : Nat} (hc : iY c) (hn : c.bs.length ≤ 6) (h : MH c gs m) (hm : m ≤ 5) (s : Ev) : (fK c gs s).1 ≠ 6 := by
  have := zS5 hm;have := h.pr;exact WE h.gk hc.s.1 hc.s.2.1 hn (by omega)
theorem MH.code {c : Cx} {gs : List G} {m : Nat} (hc : iY c) (hn : c.bs.length ≤ 6) (h : MH c gs m) (hm : m ≤ 5) {s : Ev} (hr : iC c.bs.length s = true) : (fK c gs s).1 = 0 ∨ (fK c gs s).1 = 26 := by
  have h6 := h.room hc hn hm s;rcases IY c gs s with h1 | ⟨_,h1⟩ | h1 | h1
  · exact .inl h1
  · rw [hr] at h1;cases h1
  · exact absurd h1 h6
  · exact .inr h1
theorem X5 (s : Ev) (L : List Ev) : yY (s :: L) = (if s.k = 4 then 1 else 0) + yY L := by
  unfold yY;rw [List.countP_cons];by_cases h : s.k = 4 <;> simp [h,pY]
theorem FC (a b : List Ev) : yY (a ++ b) = yY a + yY b := UR
theorem JB {c : Cx} (hc : iY c) : ∀ {L : List Ev} {gs gs' : List G} {m : Nat},MH c gs m → (∀ s,s ∈ L → iC c.bs.length s = true) → OW c gs L gs' → ∀ {f' : As} {M : Int},M ≤ c.m →
    (Sem gs' f' M ↔ ∃ f d,BR c L f f' d ∧ Sem gs f (M - d))
  | [],gs,gs',m,h,hr,e,f',M,hM => by
    have e : gs' = gs := e;subst e;constructor
    · intro q;exact ⟨f',0,⟨rfl,rfl⟩,by rw [H1];exact q⟩
    · rintro ⟨f,d,⟨rfl,rfl⟩,q⟩;rw [H1] at q;exact q
  | s :: L,gs,gs',m,h,hr,⟨e0,e1⟩,f',M,hM => by
    have hs := hr s aR;rw [JB hc (h.see hc s) (fun x hx => hr x (aI _ hx)) e1 hM];constructor
    · rintro ⟨f1,d2,p,q⟩;have := M9 p;obtain ⟨f,d1,st,q1⟩ := ((tZ h.gk hc.s.1 hc.s.2.1 hs (f' := f1) (M := M - d2) (by omega)).1 e0).1 q
      exact ⟨f,d1 + d2,⟨f1,d1,d2,st,p,rfl⟩,by rw [show M - (d1 + d2) = M - d2 - d1 by omega];exact q1⟩
    · rintro ⟨f,d,⟨f1,d1,d2,st,p,rfl⟩,q⟩;have := M9 p;refine ⟨f1,d2,p,((tZ h.gk hc.s.1 hc.s.2.1 hs (f' := f1) (M := M - d2) (by omega)).1 e0).2 ⟨f,d1,st,?_⟩⟩
      rw [show M - d2 - d1 = M - (d1 + d2) by omega];exact q
theorem DP {c : Cx} (hc : iY c) (hn : c.bs.length ≤ 6) : ∀ {L : List Ev} {gs : List G} {m : Nat},MH c gs m → m + yY L ≤ 5 → (∀ s,s ∈ L → iC c.bs.length s = true) →
    (uE c gs L = true ↔ ∃ f f' d,BR c L f f' d ∧ Sem gs f (c.m - d))
  | [],gs,m,h,hm,hr => by
    have h1 := hc.f.n1;simp at h1;obtain ⟨f,hf⟩ := M7 h.gk h.pd (by omega)
    exact ⟨fun _ => ⟨f,f,0,⟨rfl,rfl⟩,by rw [H1];exact hf⟩,fun _ => rfl⟩
  | s :: L,gs,m,h,hm,hr => by
    have hs := hr s aR;rw [X5] at hm;have ih := DP hc hn (h.see hc s) (by omega) fun x hx => hr x (aI _ hx)
    unfold uE;rw [aL];rcases h.code hc hn (by omega) hs with h0 | h0
    · rw [ih];constructor
      · rintro ⟨_,f1,f',d2,p,q⟩;have := M9 p;obtain ⟨f,d1,st,q1⟩ := ((tZ h.gk hc.s.1 hc.s.2.1 hs (f' := f1) (M := c.m - d2) (by omega)).1 h0).1 q
        exact ⟨f,f',d1 + d2,⟨f1,d1,d2,st,p,rfl⟩,by rw [show c.m - (d1 + d2) = c.m - d2 - d1 by omega];exact q1⟩
      · rintro ⟨f,f',d,⟨f1,d1,d2,st,p,rfl⟩,q⟩;have := M9 p;refine ⟨by rw [h0];rfl,f1,f',d2,p,((tZ h.gk hc.s.1 hc.s.2.1 hs (f' := f1) (M := c.m - d2) (by omega)).1 h0).2 ⟨f,d1,st,?_⟩⟩
        rw [show c.m - d2 - d1 = c.m - (d1 + d2) by omega];exact q
    · constructor
      · rintro ⟨q,_⟩;rw [h0] at q;cases q
      · rintro ⟨f,f',d,⟨f1,d1,d2,st,p,rfl⟩,q⟩;exfalso;have := M9 p;refine (tZ h.gk hc.s.1 hc.s.2.1 hs (f' := f1) (M := c.m) (eM _)).2 h0 ⟨f,d1,st,q.mono ?_⟩;omega
structure Sl where
  t : Int
  o : Int
  b : Int
  n : Int
structure Sd where
  s : Sl
  gs : List G
  n : Nat
structure Tr where
  gs : List G
  seen : List Ev
  sales : List Sd
  ord : List Bool
def oE (b i : Int) : Ev := ⟨5,b,0,i,[]⟩
def zS2 (c : Cx) (t : Tr) (s : Ev) : Int × Tr :=
  if (fK c t.gs s).1 = 0 then (0,⟨(fK c t.gs s).2,t.seen ++ [s],t.sales,t.ord ++ [false]⟩) else ((fK c t.gs s).1,t)
def AG (t : Tr) : Int := (t.sales.getLast?.map fun x => x.s.t).getD 0
def pM (c : Cx) (t : Tr) (x : Sl) : Int :=
  if x.b < 0 ∨ (c.bs.length : Int) ≤ x.b then 4
  else if x.n < 1 ∨ 20000 < x.n ∨ x.o < 0 ∨ x.t < 0 ∨ 20000 < x.t then 1
  else if 0 < t.sales.length ∧ x.t < AG t then 3
  else if 500 ≤ t.sales.length then 6
  else 0
def E1 (c : Cx) (seen : List Ev) (x : Sd) (i : Int) : Bool := uE c x.gs (oE x.s.b i :: seen.drop x.n)
def D0 (x : Sd) : List Int := match T1 x.gs x.s.b with
  | some (g,i) => uC g i
  | none => []
def kR (c : Cx) (seen : List Ev) (x : Sd) : List Int := (D0 x).filter (E1 c seen x)
structure yF8 (c : Cx) (t : Tr) (x : Sd) : Prop where
  b : 0 ≤ x.s.b ∧ x.s.b < c.bs.length
  n : x.n ≤ t.seen.length
  lk : MH c x.gs (yY (t.seen.take x.n))
  ru : OW c x.gs (t.seen.drop x.n) t.gs
structure kS (c : Cx) (t : Tr) : Prop where
  lk : MH c t.gs (yY t.seen)
  rt : ∀ s,s ∈ t.seen → iC c.bs.length s = true
  sd : ∀ x,x ∈ t.sales → yF8 c t x
theorem kS.new {c : Cx} (hc : iY c) : kS c ⟨pT c,[],[],[]⟩ := ⟨MH.new hc,fun s hs => absurd hs kB,fun x hx => absurd hx kB⟩
theorem SH {c : Cx} {gs : List G} {s : Ev} (h : (fK c gs s).1 = 0) : iC c.bs.length s = true := by
  unfold fK at h;split at h
  · assumption
  · cases h
theorem kS.see {c : Cx} {t : Tr} {s : Ev} (hc : iY c) (h : kS c t) (h0 : (fK c t.gs s).1 = 0) : kS c ⟨(fK c t.gs s).2,t.seen ++ [s],t.sales,t.ord ++ [false]⟩ := by
  refine ⟨?_,fun x hx => ?_,fun x hx => ?_⟩
  · have := h.lk.see hc s;show MH c _ (yY (t.seen ++ [s]));rw [FC,show yY [s] = if s.k = 4 then 1 else 0 by rw [X5];rfl]
    exact this
  · rcases bH.1 hx with hx | hx
    · exact h.rt x hx
    · rw [bK.1 hx];exact SH h0
  · obtain ⟨b,n,lk,ru⟩ := h.sd x hx;refine ⟨b,by show x.n ≤ (t.seen ++ [s]).length;rw [aF];omega,?_,?_⟩
    · show MH c x.gs (yY ((t.seen ++ [s]).take x.n));rw [pS n];exact lk
    · show OW c x.gs ((t.seen ++ [s]).drop x.n) _;rw [A0 n];exact DA ru h0
theorem kS.sell {c : Cx} {t : Tr} (h : kS c t) (x : Sl) (hb : 0 ≤ x.b ∧ x.b < c.bs.length) : kS c ⟨t.gs,t.seen,t.sales ++ [⟨x,t.gs,t.seen.length⟩],t.ord ++ [true]⟩ := by
  refine ⟨h.lk,h.rt,fun y hy => ?_⟩
  rcases bH.1 hy with hy | hy
  · obtain ⟨b,n,lk,ru⟩ := h.sd y hy;exact ⟨b,n,lk,ru⟩
  · rw [bK.1 hy];refine ⟨hb,aX _,?_,?_⟩
    · show MH c t.gs (yY (t.seen.take t.seen.length));rw [dA];exact h.lk
    · show OW c t.gs (t.seen.drop t.seen.length) t.gs;rw [List.drop_length];rfl
theorem VP (L : List Ev) (n : Nat) : yY (L.take n) + yY (L.drop n) = yY L := by rw [← FC,bP]
theorem NN {c : Cx} {f : As} {b : Int} : D2 c (oE b (f b).1) f f 0 := by
  refine .inl ⟨?_,?_,?_⟩
  · unfold wN oE;simp
  · unfold wN oE upd;funext x;simp only;by_cases e : x = b
    · subst e;simp
    · rw [if_neg e]
  · unfold wN oE;simp
theorem zI2 {c : Cx} {f f' : As} {b i d : Int} (h : D2 c (oE b i) f f' d) : (f b).1 = i ∧ f' = f ∧ d = 0 := by
  rcases h with ⟨h1,h2,h3⟩ | ⟨h1,_⟩
  · have e : wN c (oE b i) (f b) = (f b,0,decide ((f b).1 = i)) := by unfold wN oE;simp
    change (wN c (oE b i) (f b)).2.2 = true at h1;change f' = upd f b (wN c (oE b i) (f b)).1 at h2;change d = (wN c (oE b i) (f b)).2.1 at h3;rw [e] at h1 h2 h3;refine ⟨of_decide_eq_true h1,?_,h3⟩;rw [h2];funext x;unfold upd;dsimp only;by_cases q : x = b
    · rw [if_pos q,q]
    · rw [if_neg q]
  · cases h1
theorem KE {n : Nat} {b i : Int} (hb : 0 ≤ b ∧ b < n) (hi : 0 ≤ i ∧ i < n) : iC n (oE b i) = true := by
  unfold iC oE;dsimp only;rw [if_neg (by decide),if_neg (by decide),if_neg (by decide),if_pos rfl,decide_eq_true ⟨hb.1,by omega⟩,decide_eq_true (.inr rfl),decide_eq_true (.inr rfl),decide_eq_true ⟨hi.1,by omega⟩];rfl
theorem kS.poss {c : Cx} {t : Tr} {x : Sd} {i : Int} (hc : iY c) (hn : c.bs.length ≤ 6) (h : kS c t) (h5 : yY t.seen ≤ 5) (hx : x ∈ t.sales) (hi : 0 ≤ i ∧ i < c.bs.length) :
    E1 c t.seen x i = true ↔ ∃ f f' d,(f x.s.b).1 = i ∧ BR c (t.seen.drop x.n) f f' d ∧ Sem x.gs f (c.m - d) := by
  obtain ⟨b,n,lk,ru⟩ := h.sd x hx;have hd := VP t.seen x.n;unfold E1;have e0 : yY (oE x.s.b i :: t.seen.drop x.n) = yY (t.seen.drop x.n) := by
    rw [X5,if_neg (show ¬ (oE x.s.b i).k = 4 from fun q => by cases q),Nat.zero_add]
  rw [DP hc hn lk (by rw [e0];omega) (fun s hs => by
    rcases bS.1 hs with rfl | hs
    · exact KE b hi
    · exact h.rt s (dY hs))]
  constructor
  · rintro ⟨f,f',d,⟨f1,d1,d2,st,p,rfl⟩,q⟩;obtain ⟨e1,rfl,rfl⟩ := zI2 st;exact ⟨_,f',d2,e1,p,by rw [Int.zero_add] at q;exact q⟩
  · rintro ⟨f,f',d,rfl,p,q⟩;exact ⟨f,f',0 + d,⟨f,0,d,NN,p,rfl⟩,by rw [Int.zero_add];exact q⟩
theorem PS {c : Cx} {t : Tr} {x : Sd} (h : kS c t) (hx : x ∈ t.sales) : (∀ i,i ∈ D0 x → 0 ≤ i ∧ i < c.bs.length) ∧ ∀ f M,Sem x.gs f M → (f x.s.b).1 ∈ D0 x := by
  obtain ⟨b,n,lk,ru⟩ := h.sd x hx;obtain ⟨g,hg,hgm,hbg⟩ := AL (lk.gk.mid.find b);have e : D0 x = uC g (g.1.idxOf x.s.b) := by unfold D0;rw [hg]
  have hi := gW hbg;rw [e];refine ⟨WQ lk.gk hgm hi,fun f M hs => ?_⟩
  obtain ⟨w,hw,hf⟩ := vG hs hgm;exact Z1.2 ⟨w,hw,(KU hf hbg).1⟩
theorem kS.ids {c : Cx} {t : Tr} {x : Sd} {i : Int} (hc : iY c) (hn : c.bs.length ≤ 6) (h : kS c t) (h5 : yY t.seen ≤ 5) (hx : x ∈ t.sales) :
    i ∈ kR c t.seen x ↔ ∃ f f' d,(f x.s.b).1 = i ∧ BR c (t.seen.drop x.n) f f' d ∧ Sem x.gs f (c.m - d) := by
  obtain ⟨r1,r2⟩ := PS h hx;unfold kR;rw [eJ];constructor
  · rintro ⟨a,b⟩;exact (h.poss hc hn h5 hx (r1 i a)).1 b
  · rintro ⟨f,f',d,rfl,p,q⟩;have := r2 f _ q;exact ⟨this,(h.poss hc hn h5 hx (r1 _ this)).2 ⟨f,f',d,rfl,p,q⟩⟩
theorem kS.some {c : Cx} {t : Tr} {x : Sd} (hc : iY c) (hn : c.bs.length ≤ 6) (h : kS c t) (h5 : yY t.seen ≤ 5) (hx : x ∈ t.sales) : kR c t.seen x ≠ [] := by
  have h1 := hc.f.n1;simp at h1;obtain ⟨f',hf⟩ := M7 h.lk.gk h.lk.pd (by omega)
  obtain ⟨b,n,lk,ru⟩ := h.sd x hx;obtain ⟨f,d,p,q⟩ := (JB hc lk (fun s hs => h.rt s (dY hs)) ru (eM c.m)).1 hf;exact List.ne_nil_of_mem ((h.ids hc hn h5 hx).2 ⟨f,f',d,rfl,p,q⟩)
theorem YF {c : Cx} {x : Sd} {seen : List Ev} {s : Ev} (hn : x.n ≤ seen.length) : ∀ i,i ∈ kR c (seen ++ [s]) x → i ∈ kR c seen x := fun i hi => by
  unfold kR at hi ⊢;obtain ⟨a,b⟩ := eJ.1 hi;refine eJ.2 ⟨a,?_⟩;unfold E1 at b ⊢;rw [A0 hn,← List.cons_append] at b;exact DO b
end Go.Ld
namespace Go.Ld
open Go.Ab Go.Proofs.YtmmmeebiobjnbaaGreat Go.Pm
def rT (c : Cx) (i : Int) : Int := (c.bs.getD i.toNat (0,0,0)).1
def nO (c : Cx) (l : List Int) : List Int := yH (iU (l.map (rT c)))
def qS (l : List Int) : List Int := l.filter fun a => !decide (a < 0)
def xZ (l : List Int) : Int × Bool := if l.length = 1 ∧ 0 ≤ l.getD 0 0 then (l.getD 0 0,true) else (0,false)
theorem zB0 {c : Cx} {l : List Int} {a : Int} : a ∈ nO c l ↔ ∃ i,i ∈ l ∧ rT c i = a := by
  unfold nO yH;rw [BC _ _ _ (aX _),dA,(sorted_perm _).mem_iff,bC]
theorem zB1 (c : Cx) (l : List Int) : (nO c l).length ≤ l.length := by
  unfold nO yH;refine bL (oU _ _) ?_;rw [(sorted_perm _).length_eq,aY];exact aX _
theorem VS {l : List Int} : (xZ l).2 = true ↔ ∃ a,0 ≤ a ∧ l = [a] := by
  unfold xZ;constructor
  · intro h;split at h
    · rename_i q;obtain ⟨a,rfl⟩ := CH.1 q.1;exact ⟨a,q.2,rfl⟩
    · cases h
  · rintro ⟨a,h0,rfl⟩;rw [if_pos ⟨rfl,h0⟩]
theorem XQ {l : List Int} {a : Int} : a ∈ qS l ↔ a ∈ l ∧ 0 ≤ a := by
  unfold qS;rw [eJ];simp
structure G8 (c : Cx) (t : Tr) (p : List Int) (bs : List BX) (M : Int) (real : List Int) : Prop where
  tr : kS c t
  re : qO c p bs
  m0 : 0 ≤ M
  m1 : M ≤ c.m
  f : ∃ f,wG c p (lQ bs) f ∧ Sem t.gs f M ∧ ∀ (k : Nat) x r,t.sales[k]? = some x → real[k]? = some r → ∃ g d,BR c (t.seen.drop x.n) g f d ∧ Sem x.gs g (M - d) ∧ (g x.s.b).1 = r
  len : real.length = t.sales.length
  rg : ∀ r,r ∈ real → 0 ≤ r ∧ r < c.bs.length
theorem G8.new {c : Cx} (hc : iY c) : G8 c ⟨pT c,[],[],[]⟩ (nats (List.range c.bs.length)) c.bs 0 [] := by
  obtain ⟨f,h1,h2⟩ := QB (c := c);exact ⟨kS.new hc,JZ hc,eM _,hc.s.1,⟨f,h1,h2,fun k x r hx => by cases hx⟩,rfl,fun r hr => absurd hr kB⟩
theorem G8.see {c : Cx} {t : Tr} {p : List Int} {bs : List BX} {M done : Int} {real : List Int} {s : Ev} (hc : iY c) (hn : c.bs.length ≤ 6) (h : G8 c t p bs M real) (h5 : yY t.seen ≤ 5) (hr : iC c.bs.length s = true)
    (hag : HR c p (lQ bs) s = true) (hcan : tI c p (lQ bs) s done = true) (hM : M + pU c p s ≤ c.m) :
    (fK c t.gs s).1 = 0 ∧ G8 c ⟨(fK c t.gs s).2,t.seen ++ [s],t.sales,t.ord ++ [false]⟩ (rF p s done) (xU p bs s done) (M + pU c p s) real := by
  obtain ⟨r1,r2,r3⟩ := I4 h.tr.lk.gk hr;obtain ⟨m0,m1,_⟩ := hc.s;obtain ⟨f,hf,hs,hp⟩ := h.f;have hmis := (LV c.st (p.getD s.a.toNat 0) s.k s.ids).1;have hm0 := h.m0;obtain ⟨f',st,ok⟩ := DC hc h.re.pq hf (NW h.tr.lk.gk hs) r1 r2 (fun k => r3 (by omega)) hag hcan
  have hsem := tZ h.tr.lk.gk m0 m1 hr (f' := f') hM;have hex : ∃ f d,D2 c s f f' d ∧ Sem t.gs f (M + pU c p s - d) := ⟨f,_,st,hs.mono (by omega)⟩
  have h0 : (fK c t.gs s).1 = 0 := (h.tr.lk.code hc hn h5 hr).resolve_right fun q => hsem.2 q hex
  refine ⟨h0,h.tr.see hc h0,h.re.aft r1 r2 hcan,by unfold pU;omega,hM,⟨f',by rw [wF];exact ok,(hsem.1 h0).2 hex,fun k x r hx hk => ?_⟩,h.len,h.rg⟩
  obtain ⟨g,d,q1,q2,q3⟩ := hp k x r hx hk;refine ⟨g,d + pU c p s,?_,by rw [show M + pU c p s - (d + pU c p s) = M - d by omega];exact q2,q3⟩
  show BR c ((t.seen ++ [s]).drop x.n) g f' _;rw [A0 (h.tr.sd x (aN hx)).n];exact DI q1 st
theorem G8.sell {c : Cx} {t : Tr} {p : List Int} {bs : List BX} {M : Int} {real : List Int} (h : G8 c t p bs M real) (x : Sl) (hb : 0 ≤ x.b ∧ x.b < c.bs.length) :
    G8 c ⟨t.gs,t.seen,t.sales ++ [⟨x,t.gs,t.seen.length⟩],t.ord ++ [true]⟩ p bs M (real ++ [p.getD x.b.toNat 0]) := by
  obtain ⟨f,hf,hs,hp⟩ := h.f;refine ⟨h.tr.sell x hb,h.re,h.m0,h.m1,⟨f,hf,hs,fun k y r hy hr => ?_⟩,by simp [h.len],fun r hr => ?_⟩
  · have hl := h.len;by_cases e : k < t.sales.length
    · rw [aH e] at hy;rw [aH (by omega)] at hr
      exact hp k y r hy hr
    · have hk : k = t.sales.length := by
        have := (aA.1 hy).1;rw [aF,List.length_singleton] at this;omega
      subst hk;rw [aE (aX _),eB] at hy;rw [← hl,aE (aX _),eB] at hr;cases hy;cases hr;refine ⟨f,0,?_,by rw [H1];exact hs,(hf x.b hb.1 hb.2).1⟩
      show BR c (t.seen.drop t.seen.length) f f 0;rw [List.drop_length];exact ⟨rfl,rfl⟩
  · rcases bH.1 hr with hr | hr
    · exact h.rg r hr
    · rw [bK.1 hr];exact h.re.pq.at hb.1 hb.2
theorem G8.has {c : Cx} {t : Tr} {p : List Int} {bs : List BX} {M : Int} {real : List Int} {k : Nat} {x : Sd} {r : Int} (hc : iY c) (hn : c.bs.length ≤ 6) (h : G8 c t p bs M real) (h5 : yY t.seen ≤ 5) (hx : t.sales[k]? = some x) (hr : real[k]? = some r) :
    r ∈ kR c t.seen x := by
  obtain ⟨f,hf,hs,hp⟩ := h.f;obtain ⟨g,d,q1,q2,q3⟩ := hp k x r hx hr;have := h.m1;exact (h.tr.ids hc hn h5 (aN hx)).2 ⟨g,f,d,q3,q1,q2.mono (by omega)⟩
theorem G8.fin {c : Cx} {l : List Int} {r : Int} (hr : r ∈ l) : (0 ≤ rT c r → rT c r ∈ qS (nO c l)) ∧ ((xZ (nO c l)).2 = true → (xZ (nO c l)).1 = rT c r) := by
  have hm : rT c r ∈ nO c l := zB0.2 ⟨r,hr,rfl⟩;refine ⟨fun h => XQ.2 ⟨hm,h⟩,fun h => ?_⟩
  obtain ⟨a,h0,e⟩ := VS.1 h;rw [e] at hm ⊢;rw [bK.1 hm];unfold xZ;rw [if_pos ⟨rfl,h0⟩];rfl
end Go.Ld
namespace Go.Ld
open Go.Ab Go.Proofs.YtmmmeebiobjnbaaGreat
abbrev yW (l : List Bool) : List (List AV) := l.map fun b => [AV.b b]
abbrev zP3 (x : Sl) : List AV := [.i x.t,.i x.o,.i x.b,.i x.n]
abbrev zP5 (c : Cx) (x : Sd) : List AV := [.i x.s.t,.i x.s.o,.i x.s.b,.i x.s.n,.pr (jT c x.gs) 0,.i (x.n : Int)]
abbrev sX (c : Cx) (l : List Sd) : List (List AV) := l.map (zP5 c)
abbrev HP (c : Cx) (t : Tr) : List AV := [.rowE (iS c.ls) 3,.rowE (dR c.bs) 3,.pr (jT c t.gs) 0,.rowE (oH t.seen) 5,.rowE (sX c t.sales) 6,.rowE (yW t.ord) 1]
abbrev yG7 (c : Cx) (n m q : Nat) : List AV := [.rowE (iS c.ls) 3,.rowE (dR c.bs) 3,.ptr 1 0,.sl 2 0 n 5,.sl 3 0 m 6,.sl 4 0 q 1]
abbrev UU (c : Cx) (t : Tr) : Hp := [.cells (yG7 c t.seen.length t.sales.length t.ord.length),.cells (jT c t.gs),.arr (oH t.seen) 5,.arr (sX c t.sales) 6,.arr (yW t.ord) 1]
abbrev H8 (c : Cx) (t : Tr) : Hp := [.cells [.rowE (iS c.ls) 3,.rowE (dR c.bs) 3,.ptr 1 0,.sl 5 0 t.seen.length 5,.sl 3 0 t.sales.length 6,.sl 6 0 t.ord.length 1],.cells (jT c t.gs),.gone,.arr (sX c t.sales) 6,.gone,.arr (oH t.seen) 5,.arr (yW t.ord) 1]
abbrev M3 (c : Cx) (t : Tr) : Hp := [.cells [.rowE (iS c.ls) 3,.rowE (dR c.bs) 3,.ptr 1 0,.sl 2 0 t.seen.length 5,.sl 5 0 t.sales.length 6,.sl 6 0 t.ord.length 1],.cells (jT c t.gs),.arr (oH t.seen) 5,.gone,.gone,.arr (sX c t.sales) 6,.arr (yW t.ord) 1]
theorem gB (l : List Bool) : ∀ e,e ∈ yW l → AV.idfL e = true := by intro e he;obtain ⟨i,_,rfl⟩ := bC.1 he;rfl
theorem fU (c : Cx) (l : List Sd) : ∀ e,e ∈ sX c l → AV.idfL e = true := by intro e he;obtain ⟨i,_,rfl⟩ := bC.1 he;rfl
theorem fO (l : List Ev) : ∀ e,e ∈ oH l → AV.idfL e = true := by intro e he;obtain ⟨i,_,rfl⟩ := bC.1 he;rfl
theorem FJ (c : Cx) (l : List Sd) : ∀ e,e ∈ sX c l → e.length = 6 := by intro e he;obtain ⟨n,_,rfl⟩ := bC.1 he;rfl
theorem wW (c : Cx) (l : List Sd) : (sX c l).length = l.length := aY _
theorem rD (l : List Ev) : (oH l).length = l.length := aY _
theorem G3 (l : List Bool) : (yW l).length = l.length := aY _
theorem JA {c : Cx} {l : List Sd} {j : Int} {k : Nat} {x : Sd} (h : l[k]? = some x) (e : j = k) : (sX c l)[j.toNat]? = some (zP5 c x) := by
  subst e;rw [bQ,bT,h];rfl
theorem MY {c : Cx} {l : List Sd} {j : Int} {k : Nat} {x : Sd} (h : l[k]? = some x) (e : j = k) : (sX c l)[0 + j.toNat]? = some (zP5 c x) := by rw [Nat.zero_add];exact JA h e
end Go.Ld
namespace Go.Proofs.YtmmmeebiobjnbaaGreat
open Go Go.Ab Go.Ld
attribute [local irreducible] VC AW cF aS iZ
set_option maxHeartbeats 4000000
theorem VK (c : Cx) (hc : iY c) :
    aS Tryz.prog 10 [iE c.m c.st c.er c.sl,.rowE (gN c.ks) 2,.rowE (iS c.ls) 3,.rowE (dR c.bs) 3] [] (.tup [.ptr 0 0,.i 0]) [.cells [.rowE (iS c.ls) 3,.rowE (dR c.bs) 3,.ptr 1 0,.nils,.nils,.nils],.cells (jT c (pT c))] := by
  have hn := zT5 c hc;have hn8 := hc.f.n8;have hl10 := hc.f.l10;simp at hn8;have c2 := LH c.ls (by omega)
  have c3 := LJ c.bs (by omega)
  refine bW T Tryz.func10 rfl rfl rfl rfl ?_
  (repeat' (first|refine wS ?_|(refine rg 0 (cD (cQ rfl rfl) rfl (rK ?_)))|refine nZ ?_));refine gY 4 (cs := [.i c.m,.i c.st,.i c.er,.i c.sl]) rfl rfl rfl ?_
  (repeat' (first|refine wS ?_|refine wK ?_|refine wR ?_|refine wU ?_|(refine rg 1 (lW T rfl (dH rfl (mW rfl (cD (by exact fL rfl rfl hn (.inr ⟨rfl,rfl,by simp⟩)) rfl ?_))));refine mW rfl (xW rfl (xW rfl (rK ?_))))|(refine rg 2 (mW rfl (vV (fZ rfl rfl) ?_)))|(refine rg 4 (mW rfl (vV (kC (c2)) (mW rfl (vV (kC (c3)) (mW rfl (vV (by exact eS T rfl rfl rfl rfl) ?_))))));refine cD (cQ rfl rfl) rfl (rK ?_))|refine nZ ?_));all_goals try (exfalso;omega)
  all_goals exact ⟨.inl rfl,[2,1],_,rfl,rfl,rfl,⟨.inr rfl,.inr rfl,trivial⟩,by decide,kQ _⟩
theorem zT8 (a b : Nat) : ∀ i : Nat,i < 5 → ([0,1,2,3,4,a,b] : List Nat)[i]? = some i := by intro i hi;match i,hi with | 0,_ => rfl | 1,_ => rfl | 2,_ => rfl | 3,_ => rfl | 4,_ => rfl
theorem yA9 : ∀ i : Nat,i < 5 → ([0,1,2,3,4] : List Nat)[i]? = some i := by decide
theorem PJ (c : Cx) (t : Tr) (s : Ev) (hc : iY c) (h : kS c t) (hids : s.ids.length ≤ 1000000) (hn : t.seen.length ≤ 100000) (hm : t.ord.length ≤ 100000) (h0 : (fK c t.gs s).1 = 0) :
    aS Tryz.prog 21 [.ptr 0 0,zV8 s] (UU c t) (.i 0) (H8 c ⟨(fK c t.gs s).2,t.seen ++ [s],t.sales,t.ord ++ [false]⟩) := by
  have hse := zP4 c t.gs s hc h.lk.gk (by omega)
  have hcl := kH (len := s.ids.length) (cW _).symm (fX (bB _)) (GP s.ids (by omega))
  obtain ⟨gs,seen,sales,ord⟩ := t;dsimp only at *;generalize fK c gs s = R at *;obtain ⟨code,gs'⟩ := R;dsimp only at *;have hel := rD seen;have hol := G3 ord;subst h0;have e1 : oH (seen ++ [s]) = oH seen ++ [wM s] := by rw [oH,bY];rfl
  have e2 : yW (ord ++ [false]) = yW ord ++ [[.b false]] := by rw [yW,bY];rfl
  have i1 := fO (seen ++ [s]);have i2 := gB (ord ++ [false]);have i3 := fU c sales;have l1 : (seen ++ [s]).length = seen.length + 1 := by simp
  have l2 : (ord ++ [false]).length = ord.length + 1 := by simp
  unfold H8;dsimp only;rw [l1,l2];refine bW T Tryz.func21 rfl rfl rfl rfl ?_
  (repeat' (first|refine wS ?_|refine wK ?_|refine wU ?_|(refine rg 0 (cD (cQ rfl rfl) rfl (aV ?_)))|(refine mH (id := 1) 38 [[],[0],[0,1],[0,1,2],[],rN 5] (rM 6 6) [[],[],[],[],rM 6 4,[]] [(5,1)] cO rfl (by decide +kernel) (cE rfl rfl rfl rfl (by exact bN rfl) ?_);refine cE rfl rfl rfl rfl (by exact cJ rfl rfl) ?_;refine cE rfl rfl rfl rfl (by exact bF T rfl rfl rfl) ?_;refine cE rfl rfl rfl rfl (by exact aJ T rfl rfl rfl rfl) ?_;refine cE rfl rfl rfl rfl (by exact aJ T rfl rfl rfl rfl) ?_;refine mQ rfl rfl rfl rfl (aG rfl) (by exact rW [1] rfl rfl (rG hse) (fun _=>rfl) rfl (by decide) (fun _=>⟨.inr rfl,trivial⟩) (by simp) rfl (fun _ _=>rfl) rfl rfl) ?_;refine qK rfl rfl rfl (by exact rfl) ?_;refine aV ?_)|(refine rg 2 (mW rfl (vV (fZ rfl rfl) ?_)))|(refine rg 4 (iB T rfl (vV (kC (hcl)) (fW T rfl (bA T rfl rfl rfl rfl rfl rfl (by decide) rfl ?_)))))|refine nZ ?_));all_goals try (exfalso;omega)
  refine gY 3 (cs := wM s) rfl rfl rfl ?_
  (repeat' (first|refine wS ?_|refine wR ?_|(refine mH (id := 5) 38 [[],[],[],[2],[2,3],[2,3,4],[],[6],rM 2 6,[],[9],[9,10],[9,10,11],[],rM 2 12,[0,2,3,4,5,6,7,8,9,10,11,12,13,14],[0,2,3,4,5,6,7,8,9,10,11,12,13,14,15],[0,2,3,4,5,6,7,8,9,10,11,12,13,14,15,16],rN 18,rN 19,rN 20] (rM 19 19) [[],[19],[19,20],[19,20],[19,20],[19,20],rM 19 6,rM 19 6,[19,20],rM 19 9,rM 19 9,rM 19 9,rM 19 9,rM 19 13,[19,20],[20],[20],[20],[],[],[]] [(8,2),(14,4),(17,0),(20,0)] cO rfl (by decide +kernel) (cE rfl rfl rfl rfl (by exact bN rfl) ?_);refine cE rfl rfl rfl rfl (by exact bN rfl) ?_;refine cE rfl rfl rfl rfl (by exact bN rfl) ?_;refine cE rfl rfl rfl rfl (by exact cJ rfl rfl) ?_;refine cE rfl rfl rfl rfl (by exact bF T rfl rfl rfl) ?_;refine cE rfl rfl rfl rfl (by exact aJ T rfl rfl rfl rfl) ?_;refine cE rfl rfl rfl rfl (by exact aJ T rfl rfl rfl rfl) ?_;refine uJ rfl rfl rfl rfl (by exact bD T rfl rfl (by decide) (by decide) rfl rfl rfl) rfl ?_;refine mQ rfl rfl rfl rfl (aG rfl) (by exact lL T rfl rfl rfl rfl rfl rfl (by omega) (jJ.whole rfl rfl) rfl (by simp;omega) (by simp;omega)) ?_;refine cE rfl rfl rfl rfl (by exact bN rfl) ?_;refine cE rfl rfl rfl rfl (by exact cJ rfl rfl) ?_;refine cE rfl rfl rfl rfl (by exact bF T rfl rfl rfl) ?_;refine cE rfl rfl rfl rfl (by exact aJ T rfl rfl rfl rfl) ?_;refine uJ rfl rfl rfl rfl (by exact bD T rfl rfl (by decide) (by decide) rfl rfl rfl) rfl ?_;refine mQ rfl rfl rfl rfl (aG rfl) (by exact lL T rfl rfl rfl rfl rfl rfl (by omega) (jJ.whole rfl rfl) rfl (by simp;omega) (by simp;omega)) ?_;refine cE rfl rfl rfl rfl (by exact cJ rfl rfl) ?_;refine cE rfl rfl rfl rfl (by exact bF T rfl rfl rfl) ?_;refine uW rfl rfl rfl rfl (aG rfl) T rfl rfl rfl rfl rfl rfl (by decide) rfl ?_;refine cE rfl rfl rfl rfl (by exact cJ rfl rfl) ?_;refine cE rfl rfl rfl rfl (by exact bF T rfl rfl rfl) ?_;refine uW rfl rfl rfl rfl (aG rfl) T rfl rfl rfl rfl rfl rfl (by decide) rfl ?_;refine qK rfl rfl rfl (by exact rfl) ?_)|(refine rg 6 (aV ?_))|refine nZ ?_));all_goals try (exfalso;omega)
  all_goals exact ⟨.inl rfl,[0,1,2,3,4,8,10],_,rfl,rfl,rfl,⟨.inr rfl,.inr rfl,.inl rfl,.inr (aC rfl rfl i3),.inl rfl,.inr (aC rfl (by rw [e1];exact jN hel.symm) i1),.inr (aC rfl (by rw [e2];exact jN hol.symm) i2),trivial⟩,by decide,zT8 _ _⟩
end Go.Proofs.YtmmmeebiobjnbaaGreat
namespace Go.Ab
open Go
theorem pB.freezeElP {n : Nat × Nat} {c : oI} {ρ : Pl} {S : Nat → Prop} {env : eA} {h : Hp} {a : Act} {w : World} {j f k off sz : Nat} {es es' : List (List AV)} {cs : List AV} (s : pB n c ρ S env h a w) (hj : h[j]? = some (.arr es sz)) (hne : j ≠ k) (h0 : es ≠ []) (hf : es.flatten[f]? = some (.ptr k off)) (hk : h[k]? = some (.cells cs)) (hi : AV.idfL cs = true)
    (hl : ∀ e,e ∈ es' → e.length = sz) (he : es'.flatten = es.flatten.set f (.pr cs off)) :
    pB n c ρ (fun b => S b ∨ ∃ o,ρ k = some (b,o)) env ((h.set k .gone).set j (.arr es' sz)) a w := by
  have h1 := s.hs.freezeC hk (by simp)
  have hj' : (h.set k .gone)[j]? = some (.arr es sz) := by rw [iG (Ne.symm hne)];exact hj
  refine ⟨s.size,s.defers.st (fun _ h => .inl h),fun t' x hx => HG (fun _ h => .inl h) (s.env t' x hx),h1.alter hj' (fun _ => ?_) (by simp),s.cm⟩
  have hb := s.hs.blk j _ hj;simp only [RB] at hb ⊢;obtain ⟨b1,b2,b3⟩ := hb;refine ⟨hl,b2,?_⟩;rcases b3 with ⟨e,_⟩ | ⟨b,o,ys,e1,e2,e3⟩
  · exact absurd e h0
  · refine .inr ⟨b,o,ys,e1,e2,?_⟩;rw [he];exact W2 (fun _ h => .inl h) (fun y hy => AP hi (s.hs.blk k _ hk) hy) hf e3
section
variable {P : Program} {n : Nat × Nat} {env : eA} {h : Hp} {Q : Exit → eA → Hp → Prop} {code : Code}
theorem EQ (j f : Nat) {k off sz : Nat} {es : List (List AV)} (es' : List (List AV)) {cs : List AV} (hj : h[j]? = some (.arr es sz)) (hne : j ≠ k) (h0 : es ≠ []) (hf : es.flatten[f]? = some (.ptr k off)) (hk : h[k]? = some (.cells cs)) (hi : AV.idfL cs = true)
    (hl : ∀ e,e ∈ es' → e.length = sz) (he : es'.flatten = es.flatten.set f (.pr cs off)) (hv : AW P n code env ((h.set k .gone).set j (.arr es' sz)) Q) : AW P n code env h Q :=
  fun c ρ S a w QQ s hQ => hv c ρ _ a w QQ (s.freezeElP hj hne h0 hf hk hi hl he) hQ
end
end Go.Ab
namespace Go.Ld
open Go.Ab Go.Proofs.YtmmmeebiobjnbaaGreat
def yB (t : Tr) (x : Sl) : Tr := ⟨t.gs,t.seen,t.sales ++ [⟨x,t.gs,t.seen.length⟩],t.ord ++ [true]⟩
theorem yA8 (a b d : Nat) : ∀ i : Nat,i < 5 → ([0,1,2,3,4,a,b,d] : List Nat)[i]? = some i := by intro i hi;match i,hi with | 0,_ => rfl | 1,_ => rfl | 2,_ => rfl | 3,_ => rfl | 4,_ => rfl
theorem Y0 (c : Cx) (t : Tr) (x : Sl) :
    (pM c t x = 4 ∧ (x.b < 0 ∨ (c.bs.length : Int) ≤ x.b)) ∨ (¬ (x.b < 0 ∨ (c.bs.length : Int) ≤ x.b) ∧
    ((pM c t x = 1 ∧ (x.n < 1 ∨ 20000 < x.n ∨ x.o < 0 ∨ x.t < 0 ∨ 20000 < x.t)) ∨ (¬ (x.n < 1 ∨ 20000 < x.n ∨ x.o < 0 ∨ x.t < 0 ∨ 20000 < x.t) ∧
    ((pM c t x = 3 ∧ 0 < t.sales.length ∧ x.t < AG t) ∨ (¬ (0 < t.sales.length ∧ x.t < AG t) ∧
    ((pM c t x = 6 ∧ 500 ≤ t.sales.length) ∨ (pM c t x = 0 ∧ t.sales.length < 500))))))) := by
  unfold pM;by_cases c1 : x.b < 0 ∨ (c.bs.length : Int) ≤ x.b
  · exact .inl ⟨if_pos c1,c1⟩
  · rw [if_neg c1];refine .inr ⟨c1,?_⟩;by_cases c2 : x.n < 1 ∨ 20000 < x.n ∨ x.o < 0 ∨ x.t < 0 ∨ 20000 < x.t
    · exact .inl ⟨if_pos c2,c2⟩
    · rw [if_neg c2];refine .inr ⟨c2,?_⟩;by_cases c3 : 0 < t.sales.length ∧ x.t < AG t
      · exact .inl ⟨if_pos c3,c3⟩
      · rw [if_neg c3];refine .inr ⟨c3,?_⟩;by_cases c4 : 500 ≤ t.sales.length
        · exact .inl ⟨if_pos c4,c4⟩
        · exact .inr ⟨if_neg c4,by omega⟩
theorem zI6 {t : Tr} (h0 : 0 < t.sales.length) : ∃ y,t.sales[t.sales.length - 1]? = some y ∧ AG t = y.s.t := by
  refine ⟨t.sales[t.sales.length - 1],aB (by omega),?_⟩
  unfold AG;rw [List.getLast?_eq_getElem?,aB (by omega)];rfl
theorem QW {A : List (List AV)} {a b c d x e : AV} : (A ++ [[a,b,c,d,x,e]]).flatten[A.flatten.length + 4]? = some x := by
  rw [fI,aE (by omega),show A.flatten.length + 4 - A.flatten.length = 4 by omega];rfl
theorem QV {A : List (List AV)} {a b c d x y e : AV} : (A ++ [[a,b,c,d,y,e]]).flatten = (A ++ [[a,b,c,d,x,e]]).flatten.set (A.flatten.length + 4) y := by
  rw [fI,fI,iP _ _ (by omega),show A.flatten.length + 4 - A.flatten.length = 4 by omega];rfl
end Go.Ld
namespace Go.Proofs.YtmmmeebiobjnbaaGreat
open Go Go.Ab Go.Ld
attribute [local irreducible] VC AW cF aS iZ
set_option maxHeartbeats 4000000
theorem zM8 (c : Cx) (gs : List G) (hl : gs.length ≤ 1000) : aS Tryz.prog 39 [.pr (jT c gs) 0] [] (.ptr 0 0) [.cells (jT c gs)] := by
  have hc := kH (jK gs).symm (fX (eH gs)) (K4 gs (by omega))
  refine bW T Tryz.func39 rfl rfl rfl rfl ?_
  (repeat' (first|refine wS ?_|refine wR ?_|(refine rg 0 (aV ?_))|(refine rg 1 (mW rfl (nV ?_));refine lW T rfl (cD (cK T rfl) rfl (bA T rfl rfl rfl rfl rfl rfl (by decide) rfl ?_)))|(refine rg 2 (mW rfl (nV ?_));refine iB T rfl (vV (kC (hc)) (fW T rfl (bA T rfl rfl rfl rfl rfl rfl (by decide) rfl ?_))))|(refine rg 3 (aV ?_))|refine nZ ?_));all_goals exact ⟨.inl rfl,[0],_,rfl,rfl,rfl,⟨.inr rfl,trivial⟩,by decide,kQ _⟩
theorem zM7 (c : Cx) (gs : List G) (hl : gs.length ≤ 1000) : aS Tryz.prog 39 [.ptr 0 0] [.cells (jT c gs)] (.ptr 1 0) ([.cells (jT c gs)] ++ [.cells (jT c gs)]) := by
  have hc := kH (jK gs).symm (fX (eH gs)) (K4 gs (by omega))
  refine bW T Tryz.func39 rfl rfl rfl rfl ?_
  (repeat' (first|refine wS ?_|refine wR ?_|(refine rg 0 (aV ?_))|(refine rg 1 (mW rfl (nV ?_));refine lW T rfl (cD (cK T rfl) rfl (bA T rfl rfl rfl rfl rfl rfl (by decide) rfl ?_)))|(refine rg 2 (mW rfl (nV ?_));refine iB T rfl (vV (kC (hc)) (fW T rfl (bA T rfl rfl rfl rfl rfl rfl (by decide) rfl ?_))))|(refine rg 3 (aV ?_))|refine nZ ?_));all_goals exact ⟨.inl rfl,[0,1],_,rfl,rfl,rfl,⟨.inr rfl,.inr rfl,trivial⟩,by decide,H3 _⟩
theorem PI (c : Cx) (t : Tr) (x : Sl) (h : kS c t) (hb : c.bs.length ≤ 1000) (hn : t.seen.length ≤ 100000) (hq : t.ord.length ≤ 100000) (hm : t.sales.length ≤ 100000) :
    aS Tryz.prog 17 [.ptr 0 0,.agg (zP3 x)] (UU c t) (.i (pM c t x)) (if pM c t x = 0 then M3 c (yB t x) else UU c t) := by
  have hgl : t.gs.length ≤ 12 := bL h.lk.gk.mid.out.len h.lk.gk.mid.out.ln;have hcs := Y0 c t x;have hlast := zI6 (t := t);unfold yB;generalize pM c t x = code at *;generalize AG t = lt at *;obtain ⟨gs,seen,sales,ord⟩ := t;obtain ⟨xt,xo,xb,xn⟩ := x;dsimp only at *;have hel := rD seen;have hol := G3 ord;have hsl := wW c sales;have hbl : (dR c.bs).length = c.bs.length := aY _;have e1 : sX c (sales ++ [⟨⟨xt,xo,xb,xn⟩,gs,seen.length⟩]) = sX c sales ++ [[.i xt,.i xo,.i xb,.i xn,.pr (jT c gs) 0,.i (seen.length : Int)]] := by rw [sX,bY];rfl
  have e2 : yW (ord ++ [true]) = yW ord ++ [[.b true]] := by rw [yW,bY];rfl
  have l1 : (sales ++ [(⟨⟨xt,xo,xb,xn⟩,gs,seen.length⟩ : Sd)]).length = sales.length + 1 := by simp
  have l2 : (ord ++ [true]).length = ord.length + 1 := by simp
  have i2 := gB (ord ++ [true]);have hcp := zM7 c gs (by omega)
  rcases hcs with ⟨he,c1⟩ | ⟨c1,⟨he,c2⟩ | ⟨c2,⟨he,c3,c4⟩ | ⟨c3,⟨he,c4⟩ | ⟨he,c4⟩⟩⟩⟩
  · rw [he,if_neg (by decide)]
    refine bW T Tryz.func17 rfl rfl rfl rfl ?_
    (repeat' (first|refine wS ?_|refine wB ?_|(refine rg 0 (cD (cQ rfl rfl) rfl (aV ?_)))|(refine rg 1 (mW rfl (nV ?_));refine iB T rfl (qW T rfl (aV ?_)))|refine nZ ?_));refine gY 3 (cs := zP3 ⟨xt,xo,xb,xn⟩) rfl rfl rfl ?_
    (repeat' (first|refine wS ?_|refine wR ?_|refine wT ?_|(refine wC rfl ?_ ?_<;>(intro hb;(try simp only [nm] at hb);try (exfalso;omega)))|(refine cH (id := 2) 100 yN4 [12,13,14,15,16,17,18,19,20,21,22,23,24,11] yN5 cO rfl (by decide +kernel) (dP T rfl (dO T rfl (dV rfl (aM rfl rfl) (dM ?_))));(refine kX rfl rfl rfl rfl ?_ ?_<;>(intro hb;rw [hb];(try simp only [nm] at hb);try (exfalso;omega))<;>first|(refine tF T ?_)|(refine dG ?_));(all_goals first|(refine tL T ?_)|(refine dG ?_));(all_goals first|(refine tM ?_)|(refine dG ?_));(all_goals first|(refine dT rfl (by exact cJ rfl rfl) ?_)|(refine dG ?_));(all_goals first|(refine tF T ?_)|(refine dG ?_));(all_goals first|(refine tL T ?_)|(refine dG ?_));(all_goals first|(refine dT rfl (lK T rfl rfl) ?_)|(refine dG ?_));(all_goals first|(refine dT rfl (gO rfl rfl) ?_)|(refine dG ?_));(all_goals (refine dV rfl (by first|exact iT rfl rfl|exact fD rfl rfl) ?_;refine dV rfl (dJ rfl) (dE ?_))))|(refine rg 3 (aV ?_))|refine nZ ?_));all_goals try (exfalso;omega)
    all_goals exact ⟨.inl rfl,[0,1,2,3,4],_,rfl,rfl,rfl,⟨.inr rfl,.inr rfl,.inr (aC rfl rfl (fO _)),.inr (aC rfl rfl (fU _ _)),.inr (aC rfl rfl (gB _)),trivial⟩,by decide,yA9⟩
  · rw [he,if_neg (by decide)]
    refine bW T Tryz.func17 rfl rfl rfl rfl ?_
    (repeat' (first|refine wS ?_|refine wB ?_|(refine rg 0 (cD (cQ rfl rfl) rfl (aV ?_)))|(refine rg 1 (mW rfl (nV ?_));refine iB T rfl (qW T rfl (aV ?_)))|refine nZ ?_));refine gY 3 (cs := zP3 ⟨xt,xo,xb,xn⟩) rfl rfl rfl ?_
    (repeat' (first|refine wS ?_|refine wR ?_|refine wT ?_|(refine wC rfl ?_ ?_<;>(intro hb;(try simp only [nm] at hb);try (exfalso;omega)))|(refine cH (id := 2) 100 yN4 [12,13,14,15,16,17,18,19,20,21,22,23,24,11] yN5 cO rfl (by decide +kernel) (dP T rfl (dO T rfl (dV rfl (aM rfl rfl) (dM ?_))));refine kX rfl rfl rfl rfl ?_ ?_<;>(intro hb;rw [hb];(try simp only [nm] at hb);try (exfalso;omega))<;>(refine tF T ?_);(all_goals (refine tO T rfl (tN rfl (dT rfl (by exact cJ rfl rfl) ?_));refine tP T rfl (tO T rfl (dT rfl (lK T rfl rfl) (dT rfl (gO rfl rfl) (dV rfl (fD rfl rfl) (dV rfl (dJ rfl) (dE ?_)))))))))|(refine rg 4 (iB T rfl (vV (aM rfl rfl) (mV ?_)));refine bO rfl rfl ?_ ?_<;>(intro hb;rw [hb];(try simp only [nm] at hb);try (exfalso;omega));(all_goals first|(refine gT (fW T rfl (gT (lW T rfl (gT (vV (eU rfl rfl) ?_))))))|(iterate 3 refine gF ?_));(all_goals (refine pW rfl (mV ?_)));(all_goals first|(refine gK ?_)|(refine bO rfl rfl ?_ ?_<;>(intro hb;rw [hb];(try simp only [nm] at hb);try (exfalso;omega))));(all_goals first|(refine gT (fW T rfl (gT (lW T rfl (gT (vV (aM rfl rfl) ?_))))))|(iterate 3 refine gF ?_));(all_goals (refine pW rfl (mV ?_)));(all_goals first|(refine gK ?_)|(refine bO rfl rfl ?_ ?_<;>(intro hb;rw [hb];(try simp only [nm] at hb);try (exfalso;omega))));(all_goals first|(refine gT (fW T rfl (gT (lW T rfl (gT (vV (aM rfl rfl) ?_))))))|(iterate 3 refine gF ?_));(all_goals (refine pW rfl (mV ?_)));(all_goals first|(refine gK ?_)|(refine bO rfl rfl ?_ ?_<;>(intro hb;rw [hb];(try simp only [nm] at hb);try (exfalso;omega))));(all_goals first|(refine gT (fW T rfl (gT (lW T rfl (gT (vV (eU rfl rfl) ?_))))))|(iterate 3 refine gF ?_));(all_goals (refine pW rfl (aV ?_))))|(refine rg 5 (aV ?_))|refine nZ ?_));all_goals try (exfalso;omega)
    all_goals exact ⟨.inl rfl,[0,1,2,3,4],_,rfl,rfl,rfl,⟨.inr rfl,.inr rfl,.inr (aC rfl rfl (fO _)),.inr (aC rfl rfl (fU _ _)),.inr (aC rfl rfl (gB _)),trivial⟩,by decide,yA9⟩
  · obtain ⟨y,hy,rfl⟩ := hlast c3;have qy := MY (c := c) (j := (sales.length : Int) - 1) hy (by omega)
    rw [he,if_neg (by decide)]
    refine bW T Tryz.func17 rfl rfl rfl rfl ?_
    (repeat' (first|refine wS ?_|refine wB ?_|(refine rg 0 (cD (cQ rfl rfl) rfl (aV ?_)))|(refine rg 1 (mW rfl (nV ?_));refine iB T rfl (qW T rfl (aV ?_)))|refine nZ ?_));refine gY 3 (cs := zP3 ⟨xt,xo,xb,xn⟩) rfl rfl rfl ?_
    (repeat' (first|refine wS ?_|refine wR ?_|(refine wC rfl ?_ ?_<;>(intro hb;(try simp only [nm] at hb);try (exfalso;omega)))|(refine cH (id := 2) 100 yN4 [12,13,14,15,16,17,18,19,20,21,22,23,24,11] yN5 cO rfl (by decide +kernel) (dP T rfl (dO T rfl (dV rfl (aM rfl rfl) (dM ?_))));refine kX rfl rfl rfl rfl ?_ ?_<;>(intro hb;rw [hb];(try simp only [nm] at hb);try (exfalso;omega))<;>(refine tF T ?_);(all_goals (refine tO T rfl (tN rfl (dT rfl (by exact cJ rfl rfl) ?_));refine tP T rfl (tO T rfl (dT rfl (lK T rfl rfl) (dT rfl (gO rfl rfl) (dV rfl (fD rfl rfl) (dV rfl (dJ rfl) (dE ?_)))))))))|(refine rg 4 (fW T rfl (vV (aJ T rfl rfl rfl rfl) (vV (aM rfl rfl) (mV ?_))));refine bO rfl rfl ?_ ?_<;>(intro hb;rw [hb];(try simp only [nm] at hb);try (exfalso;omega));(all_goals (refine yP T rfl (yV (aJ T rfl rfl rfl rfl) (yV (eU rfl rfl) (pW rfl (mV ?_))));refine bO rfl rfl ?_ ?_<;>(intro hb;rw [hb];(try simp only [nm] at hb);try (exfalso;omega))));(all_goals (refine yP T rfl (yV (aJ T rfl rfl rfl rfl) (yV (aM rfl rfl) (pW rfl (mV ?_))));refine bO rfl rfl ?_ ?_<;>(intro hb;rw [hb];(try simp only [nm] at hb);try (exfalso;omega))));(all_goals (refine yP T rfl (yV (aJ T rfl rfl rfl rfl) (yV (aM rfl rfl) (pW rfl (mV ?_))));refine bO rfl rfl ?_ ?_<;>(intro hb;rw [hb];(try simp only [nm] at hb);try (exfalso;omega))));(all_goals (refine yP T rfl (yV (aJ T rfl rfl rfl rfl) (yV (eU rfl rfl) (pW rfl (aV ?_)))))))|(refine cH (id := 6) 100 yN6 [50,51,52,53,54,55,56,57,58,59,60,61,62,63,64,65,66,49] yN7 cO rfl (by decide +kernel) (dN rfl (dV rfl (eU rfl rfl) (dM ?_)));refine kX rfl rfl rfl rfl ?_ ?_<;>(intro hb;rw [hb];(try simp only [nm] at hb);try (exfalso;omega))<;>(refine tF T ?_);(all_goals (refine tO T rfl (tN rfl (dT rfl (by exact cJ rfl rfl) ?_));refine tP T rfl (tO T rfl (tN rfl (dT rfl (cP rfl rfl (by omega) (by omega)) (dT rfl (by exact aK T rfl rfl rfl rfl rfl (by omega) (by omega)) ?_))));refine tP T rfl (tP T rfl (dT rfl (by exact aJ T rfl rfl (bM rfl qy) rfl) ?_));refine dT rfl (aM rfl rfl) (dV rfl (iT rfl rfl) (dV rfl (dJ rfl) (dE ?_))))))|(refine rg 7 (aV ?_))|refine nZ ?_));all_goals try (exfalso;omega)
    all_goals exact ⟨.inl rfl,[0,1,2,3,4],_,rfl,rfl,rfl,⟨.inr rfl,.inr rfl,.inr (aC rfl rfl (fO _)),.inr (aC rfl rfl (fU _ _)),.inr (aC rfl rfl (gB _)),trivial⟩,by decide,yA9⟩
  · by_cases hs0 : 0 < sales.length
    · obtain ⟨y,hy,rfl⟩ := hlast hs0;have qy := MY (c := c) (j := (sales.length : Int) - 1) hy (by omega)
      have c5 : ¬ xt < y.s.t := fun q => c3 ⟨hs0,q⟩
      rw [he,if_neg (by decide)]
      refine bW T Tryz.func17 rfl rfl rfl rfl ?_
      (repeat' (first|refine wS ?_|refine wB ?_|(refine rg 0 (cD (cQ rfl rfl) rfl (aV ?_)))|(refine rg 1 (mW rfl (nV ?_));refine iB T rfl (qW T rfl (aV ?_)))|refine nZ ?_));refine gY 3 (cs := zP3 ⟨xt,xo,xb,xn⟩) rfl rfl rfl ?_
      (repeat' (first|refine wS ?_|refine wR ?_|(refine wC rfl ?_ ?_<;>(intro hb;(try simp only [nm] at hb);try (exfalso;omega)))|(refine cH (id := 2) 100 yN4 [12,13,14,15,16,17,18,19,20,21,22,23,24,11] yN5 cO rfl (by decide +kernel) (dP T rfl (dO T rfl (dV rfl (aM rfl rfl) (dM ?_))));refine kX rfl rfl rfl rfl ?_ ?_<;>(intro hb;rw [hb];(try simp only [nm] at hb);try (exfalso;omega))<;>(refine tF T ?_);(all_goals (refine tO T rfl (tN rfl (dT rfl (by exact cJ rfl rfl) ?_));refine tP T rfl (tO T rfl (dT rfl (lK T rfl rfl) (dT rfl (gO rfl rfl) (dV rfl (fD rfl rfl) (dV rfl (dJ rfl) (dE ?_)))))))))|(refine rg 4 (fW T rfl (vV (aJ T rfl rfl rfl rfl) (vV (aM rfl rfl) (mV ?_))));refine bO rfl rfl ?_ ?_<;>(intro hb;rw [hb];(try simp only [nm] at hb);try (exfalso;omega));(all_goals (refine yP T rfl (yV (aJ T rfl rfl rfl rfl) (yV (eU rfl rfl) (pW rfl (mV ?_))));refine bO rfl rfl ?_ ?_<;>(intro hb;rw [hb];(try simp only [nm] at hb);try (exfalso;omega))));(all_goals (refine yP T rfl (yV (aJ T rfl rfl rfl rfl) (yV (aM rfl rfl) (pW rfl (mV ?_))));refine bO rfl rfl ?_ ?_<;>(intro hb;rw [hb];(try simp only [nm] at hb);try (exfalso;omega))));(all_goals (refine yP T rfl (yV (aJ T rfl rfl rfl rfl) (yV (aM rfl rfl) (pW rfl (mV ?_))));refine bO rfl rfl ?_ ?_<;>(intro hb;rw [hb];(try simp only [nm] at hb);try (exfalso;omega))));(all_goals (refine yP T rfl (yV (aJ T rfl rfl rfl rfl) (yV (eU rfl rfl) (pW rfl (aV ?_)))))))|(refine cH (id := 6) 100 yN6 [50,51,52,53,54,55,56,57,58,59,60,61,62,63,64,65,66,49] yN7 cO rfl (by decide +kernel) (dN rfl (dV rfl (eU rfl rfl) (dM ?_)));refine kX rfl rfl rfl rfl ?_ ?_<;>(intro hb;rw [hb];(try simp only [nm] at hb);try (exfalso;omega))<;>(refine tF T ?_);(all_goals (refine tO T rfl (tN rfl (dT rfl (by exact cJ rfl rfl) ?_));refine tP T rfl (tO T rfl (tN rfl (dT rfl (cP rfl rfl (by omega) (by omega)) (dT rfl (by exact aK T rfl rfl rfl rfl rfl (by omega) (by omega)) ?_))));refine tP T rfl (tP T rfl (dT rfl (by exact aJ T rfl rfl (bM rfl qy) rfl) ?_));refine dT rfl (aM rfl rfl) (dV rfl (iT rfl rfl) (dV rfl (dJ rfl) (dE ?_))))))|(refine rg 8 (mW rfl (vV (gO rfl rfl) (aV ?_))))|(refine rg 9 (aV ?_))|refine nZ ?_));all_goals try (exfalso;omega)
      all_goals exact ⟨.inl rfl,[0,1,2,3,4],_,rfl,rfl,rfl,⟨.inr rfl,.inr rfl,.inr (aC rfl rfl (fO _)),.inr (aC rfl rfl (fU _ _)),.inr (aC rfl rfl (gB _)),trivial⟩,by decide,yA9⟩
    · rw [he,if_neg (by decide)]
      refine bW T Tryz.func17 rfl rfl rfl rfl ?_
      (repeat' (first|refine wS ?_|refine wB ?_|(refine rg 0 (cD (cQ rfl rfl) rfl (aV ?_)))|(refine rg 1 (mW rfl (nV ?_));refine iB T rfl (qW T rfl (aV ?_)))|refine nZ ?_));refine gY 3 (cs := zP3 ⟨xt,xo,xb,xn⟩) rfl rfl rfl ?_
      repeat' ((((refine cH (id := 2) 100 [[],[0],[0,1],[0,1,2],[0,1,2,3],[0,1,2,3,4],[0,1,2,3],[0,1,2,3,6],[0,1,2,3,6,7],[0,1,2,3,6,7,8],[0,1,2,3,6,7,8,9],[0,1,2,3,4,5,6,7,8,9,10],[0,1,2,3,4,5,6,7,8,9,10,11],[0,1,2,3,4,5,6,7,8,9,10,11,12]] [12,13,14,15,16,17,18,19,20,21,22,23,24,11] [[],[],[],[],[],[],[16,17],[16,17],[16,17],[16,17],[16,17],[],[],[]] cO rfl (by decide +kernel) ?_));(all_goals (refine dV rfl (by exact bF T rfl rfl rfl) ?_));(all_goals (refine dV rfl (by exact aJ T rfl rfl rfl rfl) ?_));(all_goals (refine dV rfl (by exact aM rfl rfl) ?_));(all_goals (refine dV rfl (by exact bN rfl) ?_));(all_goals (refine kX rfl rfl rfl rfl ?_ ?_<;>(intro hb;rw [hb];(try simp only [nm] at hb);try (exfalso;omega))<;>fail));(all_goals fail);(all_goals fail);(all_goals fail);(all_goals fail);(all_goals fail);(all_goals fail);(all_goals fail);(all_goals fail);(all_goals fail);(all_goals (refine AZ rfl rfl (by (fail)) ?_))))
      all_goals try (exfalso;omega)
      all_goals exact ⟨.inl rfl,[0,1,2,3,4],_,rfl,rfl,rfl,⟨.inr rfl,.inr rfl,.inr (aC rfl rfl (fO _)),.inr (aC rfl rfl (fU _ _)),.inr (aC rfl rfl (gB _)),trivial⟩,by decide,yA9⟩
  · by_cases hs0 : 0 < sales.length
    · obtain ⟨y,hy,rfl⟩ := hlast hs0;have qy := MY (c := c) (j := (sales.length : Int) - 1) hy (by omega)
      have c5 : ¬ xt < y.s.t := fun q => c3 ⟨hs0,q⟩
      rw [he,if_pos rfl];unfold M3;dsimp only;rw [l1,l2];refine bW T Tryz.func17 rfl rfl rfl rfl ?_
      (repeat' (first|refine wS ?_|refine wB ?_|(refine rg 0 (cD (cQ rfl rfl) rfl (aV ?_)))|(refine rg 1 (mW rfl (nV ?_));refine iB T rfl (qW T rfl (aV ?_)))|refine nZ ?_));refine gY 3 (cs := zP3 ⟨xt,xo,xb,xn⟩) rfl rfl rfl ?_
      (repeat' (first|refine wS ?_|refine wK ?_|(refine wC rfl ?_ ?_<;>(intro hb;(try simp only [nm] at hb);try (exfalso;omega)))|(refine cH (id := 2) 100 yN4 [12,13,14,15,16,17,18,19,20,21,22,23,24,11] yN5 cO rfl (by decide +kernel) (dP T rfl (dO T rfl (dV rfl (aM rfl rfl) (dM ?_))));refine kX rfl rfl rfl rfl ?_ ?_<;>(intro hb;rw [hb];(try simp only [nm] at hb);try (exfalso;omega))<;>(refine tF T ?_);(all_goals (refine tO T rfl (tN rfl (dT rfl (by exact cJ rfl rfl) ?_));refine tP T rfl (tO T rfl (dT rfl (lK T rfl rfl) (dT rfl (gO rfl rfl) (dV rfl (fD rfl rfl) (dV rfl (dJ rfl) (dE ?_)))))))))|(refine rg 4 (fW T rfl (vV (aJ T rfl rfl rfl rfl) (vV (aM rfl rfl) (mV ?_))));refine bO rfl rfl ?_ ?_<;>(intro hb;rw [hb];(try simp only [nm] at hb);try (exfalso;omega));(all_goals (refine yP T rfl (yV (aJ T rfl rfl rfl rfl) (yV (eU rfl rfl) (pW rfl (mV ?_))));refine bO rfl rfl ?_ ?_<;>(intro hb;rw [hb];(try simp only [nm] at hb);try (exfalso;omega))));(all_goals (refine yP T rfl (yV (aJ T rfl rfl rfl rfl) (yV (aM rfl rfl) (pW rfl (mV ?_))));refine bO rfl rfl ?_ ?_<;>(intro hb;rw [hb];(try simp only [nm] at hb);try (exfalso;omega))));(all_goals (refine yP T rfl (yV (aJ T rfl rfl rfl rfl) (yV (aM rfl rfl) (pW rfl (mV ?_))));refine bO rfl rfl ?_ ?_<;>(intro hb;rw [hb];(try simp only [nm] at hb);try (exfalso;omega))));(all_goals (refine yP T rfl (yV (aJ T rfl rfl rfl rfl) (yV (eU rfl rfl) (pW rfl (aV ?_)))))))|(refine cH (id := 6) 100 yN6 [50,51,52,53,54,55,56,57,58,59,60,61,62,63,64,65,66,49] yN7 cO rfl (by decide +kernel) (dN rfl (dV rfl (eU rfl rfl) (dM ?_)));refine kX rfl rfl rfl rfl ?_ ?_<;>(intro hb;rw [hb];(try simp only [nm] at hb);try (exfalso;omega))<;>(refine tF T ?_);(all_goals (refine tO T rfl (tN rfl (dT rfl (by exact cJ rfl rfl) ?_));refine tP T rfl (tO T rfl (tN rfl (dT rfl (cP rfl rfl (by omega) (by omega)) (dT rfl (by exact aK T rfl rfl rfl rfl rfl (by omega) (by omega)) ?_))));refine tP T rfl (tP T rfl (dT rfl (by exact aJ T rfl rfl (bM rfl qy) rfl) ?_));refine dT rfl (aM rfl rfl) (dV rfl (iT rfl rfl) (dV rfl (dJ rfl) (dE ?_))))))|(refine rg 8 (mW rfl (vV (gO rfl rfl) (aV ?_))))|(refine mH (id := 10) 100 yN8 (rM 70 30) yN9 [(11,1),(19,3),(25,4),(28,0),(31,0)] cO rfl (by decide +kernel) (cE rfl rfl rfl rfl (by exact bN rfl) ?_);refine cE rfl rfl rfl rfl (by exact bN rfl) ?_;refine cE rfl rfl rfl rfl (by exact bN rfl) ?_;refine cE rfl rfl rfl rfl (by exact cJ rfl rfl) ?_;refine cE rfl rfl rfl rfl (by exact bF T rfl rfl rfl) ?_;refine cE rfl rfl rfl rfl (by exact aJ T rfl rfl rfl rfl) ?_;refine cE rfl rfl rfl rfl (by exact aJ T rfl rfl rfl rfl) ?_;refine cE rfl rfl rfl rfl (by exact bN rfl) ?_;refine cE rfl rfl rfl rfl (by exact cJ rfl rfl) ?_;refine cE rfl rfl rfl rfl (by exact bF T rfl rfl rfl) ?_;refine cE rfl rfl rfl rfl (by exact aJ T rfl rfl rfl rfl) ?_;refine mQ rfl rfl rfl rfl (aG rfl) (by exact rW [1] rfl rfl hcp (fun _=>rfl) rfl (by decide) (fun _=>⟨.inr rfl,trivial⟩) (by simp) rfl (fun _ _=>rfl) rfl rfl) ?_;refine cE rfl rfl rfl rfl (by exact bN rfl) ?_;refine cE rfl rfl rfl rfl (by exact cJ rfl rfl) ?_;refine cE rfl rfl rfl rfl (by exact bF T rfl rfl rfl) ?_;refine cE rfl rfl rfl rfl (by exact aJ T rfl rfl rfl rfl) ?_;refine cE rfl rfl rfl rfl (by exact O5 T rfl rfl) ?_;refine cE rfl rfl rfl rfl (by exact eS T rfl rfl rfl rfl) ?_;refine uJ rfl rfl rfl rfl (by exact bD T rfl rfl (by decide) (by decide) rfl rfl rfl) rfl ?_;refine mQ rfl rfl rfl rfl (aG rfl) (by exact lL T rfl rfl rfl rfl rfl rfl (by omega) (jJ.whole rfl rfl) rfl (by simp;omega) (by simp;omega)) ?_;refine cE rfl rfl rfl rfl (by exact bN rfl) ?_;refine cE rfl rfl rfl rfl (by exact cJ rfl rfl) ?_;refine cE rfl rfl rfl rfl (by exact bF T rfl rfl rfl) ?_;refine cE rfl rfl rfl rfl (by exact aJ T rfl rfl rfl rfl) ?_;refine uJ rfl rfl rfl rfl (by exact bD T rfl rfl (by decide) (by decide) rfl rfl rfl) rfl ?_;refine mQ rfl rfl rfl rfl (aG rfl) (by exact lL T rfl rfl rfl rfl rfl rfl (by omega) (jJ.whole rfl rfl) rfl (by simp;omega) (by simp;omega)) ?_;refine cE rfl rfl rfl rfl (by exact cJ rfl rfl) ?_;refine cE rfl rfl rfl rfl (by exact bF T rfl rfl rfl) ?_;refine uW rfl rfl rfl rfl (aG rfl) T rfl rfl rfl rfl rfl rfl (by decide) rfl ?_;refine cE rfl rfl rfl rfl (by exact cJ rfl rfl) ?_;refine cE rfl rfl rfl rfl (by exact bF T rfl rfl rfl) ?_;refine uW rfl rfl rfl rfl (aG rfl) T rfl rfl rfl rfl rfl rfl (by decide) rfl ?_;refine qK rfl rfl rfl (by exact rfl) ?_)|refine nZ ?_));all_goals try (exfalso;omega)
      refine fC [] [.cells [.rowE (iS c.ls) 3,.rowE (dR c.bs) 3,.ptr 1 0,.sl 2 0 seen.length 5,.sl 5 0 (sales.length + 1) 6,.sl 6 0 (ord.length + 1) 1],.cells (jT c gs),.arr (oH seen) 5,.gone,.gone,.arr (sX c sales ++ [[.i xt,.i xo,.i xb,.i xn,.ptr 7 0,.i (seen.length : Int)]]) 6,.arr (yW (ord ++ [true])) 1,.cells (jT c gs)] ⟨[0,1,2,3,4,8,10,6],rfl,trivial,⟨.inr rfl,.inr rfl,.inr (aC rfl rfl (fO _)),.inl rfl,.inl rfl,.inr (NZ rfl (by rw [jR];exact bR (by omega)) rfl (fU _ _)),.inr (aC rfl (by rw [e2];exact jN hol.symm) i2),.inr rfl,trivial⟩,by decide,yA8 _ _ _⟩ ?_
      refine EQ 5 ((sX c sales).flatten.length + 4) (sX c (sales ++ [⟨⟨xt,xo,xb,xn⟩,gs,seen.length⟩])) rfl (by decide) (by simp) QW rfl rfl (FJ _ _) (by rw [e1];exact QV) ?_
      (repeat' (first|refine wR ?_|(refine rg 11 (aV ?_))|refine nZ ?_));all_goals try (exfalso;omega)
      all_goals exact ⟨.inl rfl,[0,1,2,3,4,5,6],_,rfl,rfl,rfl,⟨.inr rfl,.inr rfl,.inr (aC rfl rfl (fO _)),.inl rfl,.inl rfl,.inr (aC rfl rfl (fU _ _)),.inr (aC rfl rfl (gB _)),trivial⟩,by decide,zT8 _ _⟩
    · rw [he,if_pos rfl];unfold M3;dsimp only;rw [l1,l2];refine bW T Tryz.func17 rfl rfl rfl rfl ?_
      (repeat' (first|refine wS ?_|refine wB ?_|(refine rg 0 (cD (cQ rfl rfl) rfl (aV ?_)))|(refine rg 1 (mW rfl (nV ?_));refine iB T rfl (qW T rfl (aV ?_)))|refine nZ ?_));refine gY 3 (cs := zP3 ⟨xt,xo,xb,xn⟩) rfl rfl rfl ?_
      (repeat' (first|refine wS ?_|refine wK ?_|refine wU ?_|(refine wC rfl ?_ ?_<;>(intro hb;(try simp only [nm] at hb);try (exfalso;omega)))|(refine cH (id := 2) 100 yN4 [12,13,14,15,16,17,18,19,20,21,22,23,24,11] yN5 cO rfl (by decide +kernel) (dP T rfl (dO T rfl (dV rfl (aM rfl rfl) (dM ?_))));refine kX rfl rfl rfl rfl ?_ ?_<;>(intro hb;rw [hb];(try simp only [nm] at hb);try (exfalso;omega))<;>(refine tF T ?_);(all_goals (refine tO T rfl (tN rfl (dT rfl (by exact cJ rfl rfl) ?_));refine tP T rfl (tO T rfl (dT rfl (lK T rfl rfl) (dT rfl (gO rfl rfl) (dV rfl (fD rfl rfl) (dV rfl (dJ rfl) (dE ?_)))))))))|(refine rg 4 (iB T rfl (vV (aM rfl rfl) (mV ?_)));refine bO rfl rfl ?_ ?_<;>(intro hb;rw [hb];(try simp only [nm] at hb);try (exfalso;omega));(all_goals (refine yP T rfl (yO T rfl (yV (eU rfl rfl) (pW rfl (mV ?_))));refine bO rfl rfl ?_ ?_<;>(intro hb;rw [hb];(try simp only [nm] at hb);try (exfalso;omega))));(all_goals (refine yP T rfl (yO T rfl (yV (aM rfl rfl) (pW rfl (mV ?_))));refine bO rfl rfl ?_ ?_<;>(intro hb;rw [hb];(try simp only [nm] at hb);try (exfalso;omega))));(all_goals (refine yP T rfl (yO T rfl (yV (aM rfl rfl) (pW rfl (mV ?_))));refine bO rfl rfl ?_ ?_<;>(intro hb;rw [hb];(try simp only [nm] at hb);try (exfalso;omega))));(all_goals (refine yP T rfl (yO T rfl (yV (eU rfl rfl) (pW rfl (aV ?_)))))))|(refine cH (id := 6) 100 yN6 [50,51,52,53,54,55,56,57,58,59,60,61,62,63,64,65,66,49] yN7 cO rfl (by decide +kernel) (dN rfl (dV rfl (eU rfl rfl) (dM ?_)));refine kX rfl rfl rfl rfl ?_ ?_<;>(intro hb;rw [hb];(try simp only [nm] at hb);try (exfalso;omega))<;>(refine dG ?_);(all_goals (refine tG rfl (tG rfl (tG rfl (tG rfl (tG rfl (tG rfl (tG rfl (tG rfl (tG rfl (dG ?_)))))))));refine tG rfl (tG rfl (dV rfl (fD rfl rfl) (dV rfl (dJ rfl) (dE ?_)))))))|(refine rg 8 (mW rfl (vV (gO rfl rfl) (aV ?_))))|(refine mH (id := 10) 100 yN8 (rM 70 30) yN9 [(11,1),(19,3),(25,4),(28,0),(31,0)] cO rfl (by decide +kernel) (cE rfl rfl rfl rfl (by exact bN rfl) ?_);refine cE rfl rfl rfl rfl (by exact bN rfl) ?_;refine cE rfl rfl rfl rfl (by exact bN rfl) ?_;refine cE rfl rfl rfl rfl (by exact cJ rfl rfl) ?_;refine cE rfl rfl rfl rfl (by exact bF T rfl rfl rfl) ?_;refine cE rfl rfl rfl rfl (by exact aJ T rfl rfl rfl rfl) ?_;refine cE rfl rfl rfl rfl (by exact aJ T rfl rfl rfl rfl) ?_;refine cE rfl rfl rfl rfl (by exact bN rfl) ?_;refine cE rfl rfl rfl rfl (by exact cJ rfl rfl) ?_;refine cE rfl rfl rfl rfl (by exact bF T rfl rfl rfl) ?_;refine cE rfl rfl rfl rfl (by exact aJ T rfl rfl rfl rfl) ?_;refine mQ rfl rfl rfl rfl (aG rfl) (by exact rW [1] rfl rfl hcp (fun _=>rfl) rfl (by decide) (fun _=>⟨.inr rfl,trivial⟩) (by simp) rfl (fun _ _=>rfl) rfl rfl) ?_;refine cE rfl rfl rfl rfl (by exact bN rfl) ?_;refine cE rfl rfl rfl rfl (by exact cJ rfl rfl) ?_;refine cE rfl rfl rfl rfl (by exact bF T rfl rfl rfl) ?_;refine cE rfl rfl rfl rfl (by exact aJ T rfl rfl rfl rfl) ?_;refine cE rfl rfl rfl rfl (by exact O5 T rfl rfl) ?_;refine cE rfl rfl rfl rfl (by exact eS T rfl rfl rfl rfl) ?_;refine uJ rfl rfl rfl rfl (by exact bD T rfl rfl (by decide) (by decide) rfl rfl rfl) rfl ?_;refine mQ rfl rfl rfl rfl (aG rfl) (by exact lL T rfl rfl rfl rfl rfl rfl (by omega) (jJ.whole rfl rfl) rfl (by simp;omega) (by simp;omega)) ?_;refine cE rfl rfl rfl rfl (by exact bN rfl) ?_;refine cE rfl rfl rfl rfl (by exact cJ rfl rfl) ?_;refine cE rfl rfl rfl rfl (by exact bF T rfl rfl rfl) ?_;refine cE rfl rfl rfl rfl (by exact aJ T rfl rfl rfl rfl) ?_;refine uJ rfl rfl rfl rfl (by exact bD T rfl rfl (by decide) (by decide) rfl rfl rfl) rfl ?_;refine mQ rfl rfl rfl rfl (aG rfl) (by exact lL T rfl rfl rfl rfl rfl rfl (by omega) (jJ.whole rfl rfl) rfl (by simp;omega) (by simp;omega)) ?_;refine cE rfl rfl rfl rfl (by exact cJ rfl rfl) ?_;refine cE rfl rfl rfl rfl (by exact bF T rfl rfl rfl) ?_;refine uW rfl rfl rfl rfl (aG rfl) T rfl rfl rfl rfl rfl rfl (by decide) rfl ?_;refine cE rfl rfl rfl rfl (by exact cJ rfl rfl) ?_;refine cE rfl rfl rfl rfl (by exact bF T rfl rfl rfl) ?_;refine uW rfl rfl rfl rfl (aG rfl) T rfl rfl rfl rfl rfl rfl (by decide) rfl ?_;refine qK rfl rfl rfl (by exact rfl) ?_)|refine nZ ?_));all_goals try (exfalso;omega)
      refine fC [] [.cells [.rowE (iS c.ls) 3,.rowE (dR c.bs) 3,.ptr 1 0,.sl 2 0 seen.length 5,.sl 5 0 (sales.length + 1) 6,.sl 6 0 (ord.length + 1) 1],.cells (jT c gs),.arr (oH seen) 5,.gone,.gone,.arr (sX c sales ++ [[.i xt,.i xo,.i xb,.i xn,.ptr 7 0,.i (seen.length : Int)]]) 6,.arr (yW (ord ++ [true])) 1,.cells (jT c gs)] ⟨[0,1,2,3,4,8,10,6],rfl,trivial,⟨.inr rfl,.inr rfl,.inr (aC rfl rfl (fO _)),.inl rfl,.inl rfl,.inr (NZ rfl (by rw [jR];exact bR (by omega)) rfl (fU _ _)),.inr (aC rfl (by rw [e2];exact jN hol.symm) i2),.inr rfl,trivial⟩,by decide,yA8 _ _ _⟩ ?_
      refine EQ 5 ((sX c sales).flatten.length + 4) (sX c (sales ++ [⟨⟨xt,xo,xb,xn⟩,gs,seen.length⟩])) rfl (by decide) (by simp) QW rfl rfl (FJ _ _) (by rw [e1];exact QV) ?_
      (repeat' (first|refine wR ?_|(refine rg 11 (aV ?_))|refine nZ ?_));all_goals try (exfalso;omega)
      all_goals exact ⟨.inl rfl,[0,1,2,3,4,5,6],_,rfl,rfl,rfl,⟨.inr rfl,.inr rfl,.inr (aC rfl rfl (fO _)),.inl rfl,.inl rfl,.inr (aC rfl rfl (fU _ _)),.inr (aC rfl rfl (gB _)),trivial⟩,by decide,zT8 _ _⟩
end Go.Proofs.YtmmmeebiobjnbaaGreat
namespace Go.Ld
theorem NL (c : Cx) (gs : List G) (s : Ev) (L : List Ev) : uE c gs (s :: L) = (!decide ((fK c gs s).1 = 26) && uE c (fK c gs s).2 L) := rfl
def FK (c : Cx) : List G → List Ev → List G
  | gs,[] => gs
  | gs,s :: L => if (fK c gs s).1 = 26 then (fK c gs s).2 else FK c (fK c gs s).2 L
def FX (c : Cx) : List G → List Ev → Nat → Int
  | _,[],_ => -1
  | gs,s :: L,k => if (fK c gs s).1 = 26 then (k : Int) else FX c (fK c gs s).2 L (k + 1)
theorem DB (c : Cx) (gs : List G) (s : Ev) (L : List Ev) : FK c gs (s :: L) = if (fK c gs s).1 = 26 then (fK c gs s).2 else FK c (fK c gs s).2 L := rfl
theorem O3 (c : Cx) (gs : List G) (s : Ev) (L : List Ev) (k : Nat) : FX c gs (s :: L) k = if (fK c gs s).1 = 26 then (k : Int) else FX c (fK c gs s).2 L (k + 1) := rfl
theorem QK {c : Cx} : ∀ {L : List Ev} {gs : List G} {k : Nat}, decide (0 ≤ FX c gs L k) = !uE c gs L
  | [],gs,k => by simp [FX,uE]
  | s :: L,gs,k => by
    rw [O3,NL];by_cases h : (fK c gs s).1 = 26
    · rw [if_pos h,decide_eq_true h];simp
    · rw [if_neg h,decide_eq_false h,QK];simp
end Go.Ld
namespace Go.Proofs.YtmmmeebiobjnbaaGreat
open Go Go.Ab Go.Ld
attribute [local irreducible] VC AW cF aS iZ yK
set_option maxHeartbeats 4000000
abbrev CD (c : Cx) (gs : List G) : Hp := [.cells [.ptr 1 0],.cells (jT c gs)]
theorem TE : ∀ i : Nat,i < 2 → ([0,1] : List Nat)[i]? = some i := by decide
theorem KY (c : Cx) (gs : List G) (s : Ev) (hc : iY c) (h : oY c gs) (hids : s.ids.length ≤ 9223372036854775807) :
    aS Tryz.prog 56 [zV8 s,.ptr 0 0] (CD c gs) (.b (decide ((fK c gs s).1 = 26))) (CD c (fK c gs s).2) := by
  have hse := zP4 c gs s hc h hids;generalize fK c gs s = R at *;obtain ⟨code,gs'⟩ := R;dsimp only at *;refine bW T Tryz.func56 rfl rfl rfl rfl ?_
  (repeat' (first|refine wS ?_|(refine rg 0 (cD (cQ rfl rfl) rfl (aV ?_)))|refine nZ ?_));refine gY 2 (cs := wM s) rfl rfl rfl ?_
  (repeat' (first|refine wR ?_|(refine rg 1 (lW T rfl (lW T rfl (eP [1] rfl rfl (hse) rfl rfl (by decide) ⟨.inr rfl,trivial⟩ (by simp) rfl ?_)));refine vV (dX rfl rfl) (aV ?_))|refine nZ ?_));all_goals try (exfalso;omega)
  all_goals exact ⟨.inl rfl,[0,1],_,rfl,rfl,rfl,⟨.inr rfl,.inr rfl,trivial⟩,by decide,TE⟩
theorem UC (c : Cx) (gs : List G) (b i : Int) (hc : iY c) (h : oY c gs) :
    aS Tryz.prog 56 [.agg [.i 5,.i b,.i 0,.i i,.nils],.ptr 0 0] (CD c gs) (.b (decide ((fK c gs (oE b i)).1 = 26))) (CD c (fK c gs (oE b i)).2) :=
  ET (KY c gs (oE b i) hc h (cM _)) fun S w ρ ys => lU (fun _ h => LZ h) fun _ h => h
theorem zJ1 (c : Cx) (gs : List G) (L : List Ev) (hc : iY c) (h : oY c gs) (hl : L.length ≤ 100000) (hids : ∀ s,s ∈ L → s.ids.length ≤ 9223372036854775807) :
    aS Tryz.prog 80 [.rowE (oH L) 5,.clo (.func 56) [] [.ptr 0 0]] (CD c gs) (.i (FX c gs L 0)) (CD c (FK c gs L)) := by
  have hel := rD L;have hm0 := hc.s.1;have hm1 := hc.s.2.1;refine bW T Tryz.func80 rfl rfl rfl rfl ?_
  (repeat' (first|refine wS ?_|refine wB ?_|(refine rg 0 (aV ?_))|(refine rg 1 (mW rfl (qW T rfl (mV ?_))))|refine nZ ?_));refine dQ (X := {x : Nat × List G // x.1 ≤ L.length ∧ oY c x.2 ∧ FK c gs L = FK c x.2 (L.drop x.1) ∧ FX c gs L 0 = FX c x.2 (L.drop x.1) x.1}) (fun x => [(0,.rowE (oH L) 5),(1,.clo (.func 56) [] [.ptr 0 0]),(7,.i (oH L).length),(8,.i x.1.1)]) (fun x => CD c x.1.2) (fun x => L.length - x.1.1) ⟨(0,gs),cM _,h,rfl,rfl⟩ ⟨[0,1],rfl,(by repeat first|exact trivial|refine ⟨rfl,?_⟩),⟨.inr rfl,.inr rfl,trivial⟩,by decide,TE⟩ ?_
  rintro ⟨⟨k,g⟩,hk,hg,hok,hix⟩;dsimp only at hk hg hok hix ⊢;rw [hok,hix];by_cases hlt : k < L.length
  · have hgt := KZ hlt;have hfc := KY c g L[k] hc hg (hids _ (aQ hlt));have hg2 := FI (s := L[k]) hg hm0 hm1;rw [aT hlt,DB] at hok;rw [aT hlt,O3] at hix;rw [aT hlt,DB,O3];generalize L[k] = s at *;generalize fK c g s = R at *;obtain ⟨code,g'⟩ := R;dsimp only at *;by_cases h26 : code = 26
    · rw [decide_eq_true h26] at hfc;rw [if_pos h26,if_pos h26]
      (repeat' (first|refine wS ?_|refine wB ?_|refine wK ?_|refine wR ?_|refine wT ?_|(refine wC rfl ?_ ?_<;>(intro hb;(try simp only [nm] at hb);try (exfalso;omega)))|(refine rg 2 (vV (aM rfl rfl) ?_))|(refine rg 3 (mW rfl (aV ?_)))|(refine rg 4 (dH rfl (mW rfl (vV (ix T rfl (by omega) (uI _) hgt) (lW T rfl (eP [0,1] rfl rfl (hfc) rfl rfl (by decide) ⟨.inr rfl,.inr rfl,trivial⟩ (by simp) rfl ?_))))))|(refine rg 5 (mW rfl (aV ?_)))|refine nZ ?_));all_goals try (exfalso;omega)
      all_goals exact ⟨.inl rfl,[0,1],_,rfl,rfl,rfl,⟨.inr rfl,.inr rfl,trivial⟩,by decide,TE⟩
    · rw [decide_eq_false h26] at hfc;rw [if_neg h26] at hok hix;rw [if_neg h26,if_neg h26];rw [← hok,← hix]
      (repeat' (first|refine wS ?_|refine wB ?_|refine wK ?_|refine wU ?_|(refine wC rfl ?_ ?_<;>(intro hb;(try simp only [nm] at hb);try (exfalso;omega)))|(refine rg 2 (vV (aM rfl rfl) ?_))|(refine rg 3 (mW rfl (aV ?_)))|(refine rg 4 (dH rfl (mW rfl (vV (ix T rfl (by omega) (uI _) hgt) (lW T rfl (eP [0,1] rfl rfl (hfc) rfl rfl (by decide) ⟨.inr rfl,.inr rfl,trivial⟩ (by simp) rfl ?_))))))|(refine rg 6 (vV (cC rfl rfl (by omega) (by omega)) (mV ?_)))|refine nZ ?_));all_goals try (exfalso;omega)
      all_goals exact ⟨⟨(k + 1,g'),hlt,hg2,hok,hix⟩,by dsimp only;omega,⟨[0,1],rfl,(by repeat first|exact trivial|refine ⟨rfl,?_⟩),⟨.inr rfl,.inr rfl,trivial⟩,by decide,TE⟩⟩
  · have e : L.drop k = [] := cY (by omega)
    rw [e]
    (repeat' (first|refine wS ?_|refine wR ?_|refine wE ?_|(refine wC rfl ?_ ?_<;>(intro hb;(try simp only [nm] at hb);try (exfalso;omega)))|(refine rg 2 (vV (aM rfl rfl) ?_))|(refine rg 7 (aV ?_))|refine nZ ?_));all_goals try (exfalso;omega)
    all_goals exact ⟨.inl rfl,[0,1],_,rfl,rfl,rfl,⟨.inr rfl,.inr rfl,trivial⟩,by decide,TE⟩
theorem YM (c : Cx) (gs : List G) (L : List Ev) (hc : iY c) (h : oY c gs) (hl : L.length ≤ 100000) (hids : ∀ s,s ∈ L → s.ids.length ≤ 9223372036854775807) :
    aS Tryz.prog 57 [.rowE (oH L) 5,.clo (.func 56) [] [.ptr 0 0]] (CD c gs) (.b (!uE c gs L)) (CD c (FK c gs L)) := by
  have hix := zJ1 c gs L hc h hl hids;have hok := QK (c := c) (L := L) (gs := gs) (k := 0);generalize FX c gs L 0 = n at *;generalize FK c gs L = g' at *;rw [← hok];refine bW T Tryz.func57 rfl rfl rfl rfl ?_
  (repeat' (first|refine wS ?_|refine wR ?_|(refine rg 0 (aV ?_))|(refine rg 1 (dH rfl (eP [0,1] rfl rfl (hix) rfl rfl (by decide) ⟨.inr rfl,.inr rfl,trivial⟩ (by simp) rfl ?_));refine vV (gO rfl rfl) (aV ?_))|refine nZ ?_));all_goals exact ⟨.inl rfl,[0,1],_,rfl,rfl,rfl,⟨.inr rfl,.inr rfl,trivial⟩,by decide,TE⟩
theorem YI {c : Cx} {g' : List G} {pp : Nat} {h : Hp} (h2 : h[2]? = some (.cells [.ptr 1 0])) : ∀ H : Hp,(∀ (j : Nat) b,h[j]? = some b → b ≠ .gone → H[j]? = some b) → yT H [2,1] ((CD c g').map (AB.map (oV [2,1] pp))) = H.set 1 (.cells (jT c g')) := fun H hb => by
  have h1 := hb 2 _ h2 (by simp)
  obtain ⟨h3,h4⟩ := aA.1 h1;show (H.set 2 (.cells [.ptr 1 0])).set 1 (.cells (jT c g')) = _;rw [← h4,List.set_getElem_self]
theorem WR (c : Cx) (t : Tr) (x : Sd) (i : Int) (hc : iY c) (h : kS c t) (hx : x ∈ t.sales) (hl : t.seen.length ≤ 100000) (hids : ∀ s,s ∈ t.seen → s.ids.length ≤ 9223372036854775807) :
    aS Tryz.prog 37 [.pr (HP c t) 0,.agg (zP5 c x),.i i] [] (.b (E1 c t.seen x i)) [] := by
  obtain ⟨sb,sn,lk,ru⟩ := h.sd x hx;have hm0 := hc.s.1;have hm1 := hc.s.2.1;have hgl : x.gs.length ≤ 12 := bL lk.gk.mid.out.len lk.gk.mid.out.ln;obtain ⟨gs,seen,sales,ord⟩ := t;obtain ⟨⟨xt,xo,xb,xn⟩,xg,xm⟩ := x;dsimp only at *;have hel := rD seen;have hcp := zM8 c xg (by omega)
  have hfc := UC c xg xb i hc lk.gk;have hg2 := FI (s := oE xb i) lk.gk hm0 hm1;have e0 : E1 c seen ⟨⟨xt,xo,xb,xn⟩,xg,xm⟩ i = (!decide ((fK c xg (oE xb i)).1 = 26) && uE c (fK c xg (oE xb i)).2 (seen.drop xm)) := rfl;rw [e0];clear e0;generalize fK c xg (oE xb i) = R at *;obtain ⟨code,g'⟩ := R;dsimp only at *;have hhas := YM c g' (seen.drop xm) hc hg2 (by rw [dD];omega) (fun s hs => hids s (dY hs))
  refine bW T Tryz.func37 rfl rfl rfl rfl ?_
  (repeat' (first|refine wS ?_|(refine rg 0 (cD (cQ rfl rfl) rfl (aV ?_)))|refine nZ ?_));refine gY 4 (cs := zP5 c ⟨⟨xt,xo,xb,xn⟩,xg,xm⟩) rfl rfl rfl ?_
  (repeat' (first|refine wS ?_|(refine rg 1 (iB T rfl (cD (by exact fL rfl rfl hcp (.inr ⟨rfl,rfl,by simp⟩)) rfl ?_));refine cD (cK T rfl) rfl (bA T rfl rfl rfl rfl rfl rfl (by decide) rfl ?_))|(refine rg 2 (vV (by exact kU rfl rfl) ?_);refine aV ?_)|refine nZ ?_));by_cases h26 : code = 26
  · rw [decide_eq_true h26] at hfc ⊢
    (repeat' (first|refine wR ?_|(refine mH (id := 3) 33 yO0 (rM 13 20) yO1 [(6,1)] cO rfl (by decide +kernel) (cE rfl rfl rfl rfl (by exact bN rfl) ?_);refine cE rfl rfl rfl rfl (by exact bF T rfl rfl rfl) ?_;refine cE rfl rfl rfl rfl (by exact bF T rfl rfl rfl) ?_;refine cE rfl rfl rfl rfl (by exact aJ T rfl rfl rfl rfl) ?_;refine cE rfl rfl rfl rfl (by exact bN rfl) ?_;refine cE rfl rfl rfl rfl (by exact eS T rfl rfl rfl rfl) ?_;refine mQ rfl rfl rfl rfl (aG rfl) (by exact rW [2,1] rfl rfl (rG hfc) (fun _=>rfl) rfl (by decide) (fun _=>⟨.inr rfl,.inr rfl,trivial⟩) (by simp) rfl (YI rfl) rfl rfl) ?_;refine cE rfl rfl rfl rfl (by exact dI rfl) ?_;refine cE rfl rfl rfl rfl (by exact bN rfl) ?_;refine uX rfl rfl rfl rfl rfl rfl ?_;refine uX rfl rfl rfl rfl rfl rfl ?_;refine uX rfl rfl rfl rfl rfl rfl ?_;refine uX rfl rfl rfl rfl rfl rfl ?_;refine uX rfl rfl rfl rfl rfl rfl ?_;refine uX rfl rfl rfl rfl rfl rfl ?_;refine uX rfl rfl rfl rfl rfl rfl ?_;refine uX rfl rfl rfl rfl rfl rfl ?_;refine uX rfl rfl rfl rfl rfl rfl ?_;refine uX rfl rfl rfl rfl rfl rfl ?_;refine cE rfl rfl rfl rfl (by exact fD rfl rfl) ?_;refine qK rfl rfl rfl (by exact rfl) ?_;refine aV ?_)|refine nZ ?_));all_goals first | (exfalso;omega) | exact rQ
  · rw [decide_eq_false h26] at hfc ⊢;have hd : oH (seen.drop xm) = (oH seen).drop xm := by unfold oH;rw [yG1]
    rw [hd] at hhas;generalize uE c g' (seen.drop xm) = ok at *;generalize FK c g' (seen.drop xm) = g2 at *
    (repeat' (first|refine wR ?_|(refine mH (id := 3) 33 yO0 (rM 13 20) yO1 [(6,1),(17,1)] cO rfl (by decide +kernel) (cE rfl rfl rfl rfl (by exact bN rfl) ?_);refine cE rfl rfl rfl rfl (by exact bF T rfl rfl rfl) ?_;refine cE rfl rfl rfl rfl (by exact bF T rfl rfl rfl) ?_;refine cE rfl rfl rfl rfl (by exact aJ T rfl rfl rfl rfl) ?_;refine cE rfl rfl rfl rfl (by exact bN rfl) ?_;refine cE rfl rfl rfl rfl (by exact eS T rfl rfl rfl rfl) ?_;refine mQ rfl rfl rfl rfl (aG rfl) (by exact rW [2,1] rfl rfl (rG hfc) (fun _=>rfl) rfl (by decide) (fun _=>⟨.inr rfl,.inr rfl,trivial⟩) (by simp) rfl (YI rfl) rfl rfl) ?_;refine cE rfl rfl rfl rfl (by exact dI rfl) ?_;refine cE rfl rfl rfl rfl (by exact bN rfl) ?_;refine xN rfl rfl rfl rfl rfl rfl (by exact bN rfl) ?_;refine xN rfl rfl rfl rfl rfl rfl (by exact cJ rfl rfl) ?_;refine xN rfl rfl rfl rfl rfl rfl (by exact bF T rfl rfl rfl) ?_;refine xN rfl rfl rfl rfl rfl rfl (by exact aJ T rfl rfl rfl rfl) ?_;refine xN rfl rfl rfl rfl rfl rfl (by exact bF T rfl rfl rfl) ?_;refine xN rfl rfl rfl rfl rfl rfl (by exact aJ T rfl rfl rfl rfl) ?_;refine xN rfl rfl rfl rfl rfl rfl (by exact CB T rfl rfl rfl rfl rfl (by dsimp only;omega) (uI _)) ?_;refine xN rfl rfl rfl rfl rfl rfl (by exact bN rfl) ?_;refine zM0 rfl rfl rfl rfl (aG rfl) rfl rfl (by exact rW [2,1] rfl rfl (rG hhas) (fun _=>rfl) rfl (by decide) (fun _=>⟨.inr rfl,.inr rfl,trivial⟩) (by simp) rfl (YI rfl) rfl rfl) ?_;refine xN rfl rfl rfl rfl rfl rfl (by exact dI rfl) ?_;refine cE rfl rfl rfl rfl (by exact iT rfl rfl) ?_;refine qK rfl rfl rfl (by exact rfl) ?_;refine aV ?_)|refine nZ ?_));all_goals try (exfalso;omega)
    all_goals refine dC (.inl rfl) rfl (nB ?_)
    all_goals simp
theorem zU2 (c : Cx) (t : Tr) (x : Sd) (i : Int) (hc : iY c) (h : kS c t) (hx : x ∈ t.sales) (hl : t.seen.length ≤ 100000) (hids : ∀ s,s ∈ t.seen → s.ids.length ≤ 9223372036854775807) :
    aS Tryz.prog 36 [.i i,.pr [.pr (HP c t) 0] 0,.pr (zP5 c x) 0] [] (.b (!E1 c t.seen x i)) [] := by
  have hp := WR c t x i hc h hx hl hids;generalize E1 c t.seen x i = v at *;refine bW T Tryz.func36 rfl rfl rfl rfl ?_
  (repeat' (first|refine wS ?_|refine wR ?_|(refine rg 0 (aV ?_))|(refine rg 1 (lW T rfl (lW T rfl (mW rfl (vV (kC (hp)) (vV (dI rfl) (aV ?_)))))))|refine nZ ?_));all_goals first | (exfalso;omega) | exact rQ
theorem zF5 (c : Cx) (l : List Sd) : AV.plnL (sX c l).flatten = true := qD (fun _ => rfl) l
theorem RA (l : List Ev) : AV.plnL (oH l).flatten = true := qD (fun _ => rfl) l
theorem zN6 (l : List Bool) : AV.plnL (yW l).flatten = true := qD (fun _ => rfl) l
theorem QM (c : Cx) (t : Tr) (k : Nat) {x : Sd} (hc : iY c) (h : kS c t) (hk : t.sales[k]? = some x) (hl : t.seen.length ≤ 100000) (hids : ∀ s,s ∈ t.seen → s.ids.length ≤ 9223372036854775807) :
    aS Tryz.prog 13 [.pr (HP c t) 0,.i (k : Int)] [] (.sl 0 0 (kR c t.seen x).length 1) [.arr (ints (kR c t.seen x)) 1] := by
  have hx := aN hk;have hkl : k < t.sales.length := (aA.1 hk).1;obtain ⟨sb,sn,lk,ru⟩ := h.sd x hx;obtain ⟨g,hg,hgm,hbg⟩ := AL (lk.gk.mid.find sb);have hp := zS6 c x.gs x.s.b lk.gk hg;have hpl := I6 (g := g) (i := g.1.idxOf x.s.b);have hwl := lk.gk.mid.wl g hgm;have e : D0 x = uC g (g.1.idxOf x.s.b) := by unfold D0;rw [hg]
  rw [← e] at hp hpl;have hb := fun i (_ : i ∈ D0 x) => zU2 c t x i hc h hx hl hids;have hd := EI (F := 36) (caps := [.pr [.pr (HP c t) 0] 0,.pr (zP5 c x) 0]) (q := fun i => !E1 c t.seen x i) (D0 x) (by omega) rfl rfl hb
  have ek : mA (fun i => !E1 c t.seen x i) (D0 x) = kR c t.seen x := by unfold kR mA;simp
  rw [ek] at hd;have qk := JA (c := c) (j := (k : Int)) hk rfl;have hsl := wW c t.sales;generalize kR c t.seen x = R at *;generalize D0 x = Q at *;clear hb ek;have hql : (ints Q).length = Q.length := cW _;refine bW T Tryz.func13 rfl rfl rfl rfl ?_
  (repeat' (first|refine wS ?_|(refine rg 0 (cD (cQ rfl rfl) rfl (aV ?_)))|refine nZ ?_));refine gY 2 (cs := [.pr (HP c t) 0]) rfl rfl rfl ?_
  (repeat' (first|refine wS ?_|refine wK ?_|(refine wC rfl ?_ ?_<;>(intro hb;(try simp only [nm] at hb);try (exfalso;omega)))|(refine rg 1 (mW rfl (vV (aM rfl rfl) (mW rfl (yN rfl (yO T rfl (gT (nV ?_)))))));refine yP T rfl (yO T rfl (gT (qW T rfl (yV (gO rfl rfl) (pV ?_))))))|(refine rg 3 (lW T rfl (nV ?_));refine iB T rfl (mW rfl (vV (ix T rfl (by omega) (FJ _ _) qk) (lW T rfl (cD (cK T rfl) rfl (bA T rfl rfl rfl rfl rfl rfl (by decide) rfl ?_))))))|refine nZ ?_));all_goals try (exfalso;omega)
  refine gY 5 (cs := zP5 c x) rfl rfl rfl ?_
  (repeat' (first|refine wR ?_|(refine rg 4 (iB T rfl (fW T rfl (iB T rfl (cD (by exact fL rfl rfl hp (.inr ⟨rfl,rfl,by simp⟩)) rfl ?_))));refine vV (by exact kU rfl rfl) ?_;refine eP [2] rfl rfl hd rfl rfl (by decide) ⟨.inr (aC rfl (bE _ (bB _)) (bB _)),trivial⟩ (by simp) rfl ?_;refine aV ?_)|refine nZ ?_));all_goals try (exfalso;omega)
  all_goals exact ⟨.inl rfl,[2],_,rfl,rfl,rfl,⟨.inr (aC rfl (bE _ (bB _)) (bB _)),trivial⟩,by decide,kQ _⟩
theorem zJ5 (c : Cx) (t : Tr) (k : Nat) {x : Sd} (hc : iY c) (h : kS c t) (hk : t.sales[k]? = some x) (hl : t.seen.length ≤ 100000) (hids : ∀ s,s ∈ t.seen → s.ids.length ≤ 9223372036854775807) :
    aS Tryz.prog 13 [.pr (HP c t) 0,.i (k : Int)] [] (.rowE (ints (kR c t.seen x)) 1) [] :=
  kH (cW _).symm (fX (bB _)) (QM c t k hc h hk hl hids)
theorem zA9 (c : Cx) (t : Tr) (k : Nat) {x : Sd} (hc : iY c) (h : kS c t) (hk : t.sales[k]? = some x) (hl : t.seen.length ≤ 100000) (hids : ∀ s,s ∈ t.seen → s.ids.length ≤ 9223372036854775807) :
    aS Tryz.prog 33 [.pr (HP c t) 0,.i (k : Int)] [] (.sl 0 0 (nO c (kR c t.seen x)).length 1) [.arr (ints (nO c (kR c t.seen x))) 1] := by
  have hx := aN hk;have hi := zJ5 c t k hc h hk hl hids;obtain ⟨sb,sn,lk,ru⟩ := h.sd x hx;obtain ⟨g,hg,hgm,hbg⟩ := AL (lk.gk.mid.find sb);have hwl := lk.gk.mid.wl g hgm;have hrg : ∀ i,i ∈ kR c t.seen x → 0 ≤ i ∧ i < c.bs.length := fun i hi => (PS h hx).1 i (eJ.1 hi).1;have hrl : (kR c t.seen x).length ≤ 1000 := by
    refine bL (fQ _ _) ?_;unfold D0;rw [hg];exact bL (I6 (g := g) (i := g.1.idxOf x.s.b)) hwl
  clear hg hgm hbg hwl;generalize kR c t.seen x = l at *;have hbl : (dR c.bs).length = c.bs.length := aY _;have hll : (ints l).length = l.length := cW _;have hs1 := MW (l.map (rT c)) (by rw [aY];omega)
  have hs2 := EJ (iU (l.map (rT c))) (by rw [(Go.Pm.sorted_perm _).length_eq,aY];omega)
  have e0 : yH (iU (l.map (rT c))) = nO c l := rfl;rw [e0] at hs2;have hsl : (iU (l.map (rT c))).length = l.length := by rw [(Go.Pm.sorted_perm _).length_eq,aY]
  rw [hsl] at hs2;rw [aY] at hs1;refine bW T Tryz.func33 rfl rfl rfl rfl ?_
  (repeat' (first|refine wS ?_|(refine rg 0 (aV ?_))|refine nZ ?_));all_goals try (exfalso;omega)
  (repeat' (first|refine wS ?_|(refine rg 1 (vV (dJ rfl) (qC 5 1 rfl (by decide) ?_)))|refine nZ ?_));all_goals try (exfalso;omega)
  (repeat' (first|refine wB ?_|(refine rg 2 (dH rfl (vV (kC (hi)) (qW T rfl (mV ?_)))))|refine nZ ?_));all_goals try (exfalso;omega)
  refine dQ (X := {k : Nat // k ≤ l.length}) (fun k => [(0,.pr (HP c t) 0),(5,.sl 0 0 k.1 1),(10,.rowE (ints l) 1),(11,.i (ints l).length),(12,.i k.1)]) (fun k => [.arr (ints ((l.take k.1).map (rT c))) 1]) (fun k => l.length - k.1) ⟨0,cM _⟩ ⟨[0],rfl,(by repeat first|exact trivial|refine ⟨rfl,?_⟩),⟨.inr rfl,trivial⟩,by decide,kQ _⟩ ?_
  rintro ⟨j,hj⟩;dsimp only;by_cases hlt : j < l.length
  · have q := lO (l := l) (k := j) hlt;obtain ⟨i0,i1⟩ := hrg _ (aQ hlt);have e1 : ints ((l.take (j + 1)).map (rT c)) = ints ((l.take j).map (rT c)) ++ [[.i (rT c l[j])]] := by rw [aU hlt,bY,ints,bY];rfl
    have hal : (ints ((l.take j).map (rT c))).length = j := by rw [cW,aY,bG];omega
    have ii := bB ((l.take (j + 1)).map (rT c));generalize l[j] = v at *;have hbx := U9 (l := c.bs) (i := v.toNat) (by omega)
    have qb : (dR c.bs)[v.toNat]? = some [.i (rT c v),.i (c.bs.getD v.toNat (0,0,0)).2.1,.i (c.bs.getD v.toNat (0,0,0)).2.2] := by rw [bT,hbx];rfl
    generalize rT c v = lv at *;generalize ints ((l.take j).map (rT c)) = A at *
    (repeat' (first|refine wS ?_|refine wB ?_|refine wK ?_|(refine wC rfl ?_ ?_<;>(intro hb;(try simp only [nm] at hb);try (exfalso;omega)))|(refine rg 3 (vV (aM rfl rfl) ?_))|(refine rg 4 (vV (ix T rfl (by omega) (dU _) q) (lW T rfl (aV ?_))))|(refine rg 5 (dH rfl (nV ?_));refine iB T rfl (mW rfl (vV (ix T rfl (by omega) (kG _) qb) (iB T rfl (cD (by exact bD T rfl rfl (by decide) (by decide) rfl rfl rfl) rfl ?_))));refine fY T rfl rfl rfl rfl rfl rfl (by omega) (jJ.whole rfl rfl) rfl (by simp;omega) (by simp;omega) rfl ?_;refine aV ?_)|(refine rg 6 (vV (cC rfl rfl (by omega) (by omega)) (mV ?_)))|refine nZ ?_));all_goals try (exfalso;omega)
    all_goals exact ⟨⟨j + 1,hlt⟩,by dsimp only;omega,⟨[2],rfl,(by repeat first|exact trivial|refine ⟨rfl,?_⟩),⟨.inr (aC rfl (by dsimp only;rw [e1];exact jN hal.symm) ii),trivial⟩,by decide,kQ _⟩⟩
  · obtain rfl : j = l.length := by omega
    rw [dA]
    (repeat' (first|refine wS ?_|refine wR ?_|refine wE ?_|(refine wC rfl ?_ ?_<;>(intro hb;(try simp only [nm] at hb);try (exfalso;omega)))|(refine rg 3 (vV (aM rfl rfl) ?_))|(refine rg 7 (mW rfl (eP [0] rfl rfl (hs1) rfl rfl (by decide) ⟨.inr (by exact aC rfl rfl (bB _)),trivial⟩ (by simp) rfl ?_)))|(refine rg 8 (mW rfl (eP [0] rfl rfl (hs2) rfl rfl (by decide) ⟨.inr (by exact aC rfl (bE _ (bB _)) (bB _)),trivial⟩ (by simp) rfl ?_));refine aV ?_)|refine nZ ?_));all_goals try (exfalso;omega)
    exact ⟨.inl rfl,[0],_,rfl,rfl,rfl,⟨.inr (by first|exact aC rfl rfl (bB _)|exact aC rfl (bE _ (bB _)) (bB _)),trivial⟩,by decide,kQ _⟩
theorem zI1 (a : Int) : aS Tryz.prog 38 [.i a] [] (.b (decide (a < 0))) [] := by
  refine bW T Tryz.func38 rfl rfl rfl rfl ?_
  (repeat' (first|refine wS ?_|refine wR ?_|(refine rg 0 (aV ?_))|(refine rg 1 (mW rfl (vV (aM rfl rfl) (aV ?_))))|refine nZ ?_));all_goals first | (exfalso;omega) | exact rQ
section
variable {c : Cx} {t : Tr} {k : Nat} {x : Sd}
theorem BL (h : kS c t) (hk : t.sales[k]? = some x) : (nO c (kR c t.seen x)).length ≤ 1000 := by
  have hx := aN hk;obtain ⟨sb,sn,lk,ru⟩ := h.sd x hx;obtain ⟨g,hg,hgm,hbg⟩ := AL (lk.gk.mid.find sb);have hwl := lk.gk.mid.wl g hgm;refine bL (zB1 _ _) (bL (fQ _ _) ?_);unfold D0;rw [hg];exact bL (I6 (g := g) (i := g.1.idxOf x.s.b)) hwl
theorem KC (hc : iY c) (h : kS c t) (hk : t.sales[k]? = some x) (hl : t.seen.length ≤ 100000) (hids : ∀ s,s ∈ t.seen → s.ids.length ≤ 9223372036854775807) :
    aS Tryz.prog 14 [.pr (HP c t) 0,.i (k : Int)] [] (.sl 0 0 (qS (nO c (kR c t.seen x))).length 1) [.arr (ints (qS (nO c (kR c t.seen x)))) 1] := by
  have ha := zA9 c t k hc h hk hl hids;have hal := BL h hk;generalize nO c (kR c t.seen x) = A at *;have hd := EI (F := 38) (caps := []) (q := fun a => decide (a < 0)) A (by omega) rfl rfl (fun a _ => zI1 a)
  have ek : mA (fun a => decide (a < 0)) A = qS A := rfl;rw [ek] at hd;generalize qS A = B at *;clear ek;refine bW T Tryz.func14 rfl rfl rfl rfl ?_
  (repeat' (first|refine wS ?_|refine wR ?_|(refine rg 0 (aV ?_))|(refine rg 1 (dH rfl (cD (by exact fL rfl rfl ha (.inr ⟨rfl,rfl,by simp⟩)) rfl ?_));refine eP [0] rfl rfl hd rfl rfl (by decide) ⟨.inr (aC rfl (bE _ (bB _)) (bB _)),trivial⟩ (by simp) rfl ?_;refine aV ?_)|refine nZ ?_));all_goals try (exfalso;omega)
  all_goals exact ⟨.inl rfl,[0],_,rfl,rfl,rfl,⟨.inr (aC rfl (bE _ (bB _)) (bB _)),trivial⟩,by decide,kQ _⟩
theorem XR (hc : iY c) (h : kS c t) (hk : t.sales[k]? = some x) (hl : t.seen.length ≤ 100000) (hids : ∀ s,s ∈ t.seen → s.ids.length ≤ 9223372036854775807) :
    aS Tryz.prog 14 [.pr (HP c t) 0,.i (k : Int)] [] (.rowE (ints (qS (nO c (kR c t.seen x)))) 1) [] :=
  kH (cW _).symm (fX (bB _)) (KC hc h hk hl hids)
theorem zX1 (hc : iY c) (h : kS c t) (hk : t.sales[k]? = some x) (hl : t.seen.length ≤ 100000) (hids : ∀ s,s ∈ t.seen → s.ids.length ≤ 9223372036854775807) :
    aS Tryz.prog 33 [.pr (HP c t) 0,.i (k : Int)] [] (.rowE (ints (nO c (kR c t.seen x))) 1) [] :=
  kH (cW _).symm (fX (bB _)) (zA9 c t k hc h hk hl hids)
theorem IH (hc : iY c) (h : kS c t) (hk : t.sales[k]? = some x) (hl : t.seen.length ≤ 100000) (hids : ∀ s,s ∈ t.seen → s.ids.length ≤ 9223372036854775807) :
    aS Tryz.prog 12 [.pr (HP c t) 0,.i (k : Int)] [] (.tup [.i (xZ (nO c (kR c t.seen x))).1,.b (xZ (nO c (kR c t.seen x))).2]) [] := by
  have ha := zX1 hc h hk hl hids;have hal := BL h hk;generalize nO c (kR c t.seen x) = A at *;have hll : (ints A).length = A.length := cW _;unfold xZ;by_cases h1 : A.length = 1
  · have q : (ints A)[(0 : Int).toNat]? = some [AV.i (A.getD 0 0)] := qG (l := A) (j := 0) (i := 0) 0 (by omega) rfl
    generalize A.getD 0 0 = a at *;by_cases h2 : 0 ≤ a
    · rw [if_pos ⟨h1,h2⟩];refine bW T Tryz.func12 rfl rfl rfl rfl ?_
      (repeat' (first|refine wS ?_|refine wR ?_|(refine wC rfl ?_ ?_<;>(intro hb;(try simp only [nm] at hb);try (exfalso;omega)))|(refine rg 0 (rK ?_))|(refine rg 1 (dH rfl (vV (kC (ha)) (aV ?_))))|(refine rg 2 (mW rfl (qW T rfl (vV (kZ rfl rfl (by omega)) (mW rfl (yN rfl (yV (ix T rfl (by omega) (dU _) q) (yO T rfl (yV (gO rfl rfl) (pV ?_))))))))))|(refine rg 3 (mW rfl (vV (ix T rfl (by omega) (dU _) q) (lW T rfl (rK ?_)))))|refine nZ ?_));all_goals first | (exfalso;omega) | exact rQ
    · rw [if_neg (fun q => h2 q.2)];refine bW T Tryz.func12 rfl rfl rfl rfl ?_
      (repeat' (first|refine wS ?_|refine wK ?_|refine wR ?_|(refine wC rfl ?_ ?_<;>(intro hb;(try simp only [nm] at hb);try (exfalso;omega)))|(refine rg 0 (rK ?_))|(refine rg 1 (dH rfl (vV (kC (ha)) (aV ?_))))|(refine rg 2 (mW rfl (qW T rfl (vV (kZ rfl rfl (by omega)) (mW rfl (yN rfl (yV (ix T rfl (by omega) (dU _) q) (yO T rfl (yV (gO rfl rfl) (pV ?_))))))))))|(refine rg 4 (rK ?_))|refine nZ ?_));all_goals first | (exfalso;omega) | exact rQ
  · rw [if_neg (fun q => h1 q.1)];refine bW T Tryz.func12 rfl rfl rfl rfl ?_
    (repeat' (first|refine wS ?_|refine wK ?_|refine wR ?_|refine wU ?_|(refine rg 0 (rK ?_))|(refine rg 1 (dH rfl (vV (kC (ha)) (aV ?_))))|(refine rg 2 (mW rfl (qW T rfl (vV (gX rfl rfl (by omega)) (mV ?_))));(iterate 4 refine gF ?_);refine pV ?_)|(refine rg 4 (rK ?_))|refine nZ ?_));all_goals first | (exfalso;omega) | exact rQ
end
end Go.Proofs.YtmmmeebiobjnbaaGreat
namespace Go.Ld
open Go.Ab Go.Proofs.YtmmmeebiobjnbaaGreat
def qT (c : Cx) (t : Tr) (k : Nat) : List Int := match t.sales[k]? with
  | some x => qS (nO c (kR c t.seen x))
  | none => []
def S8 (c : Cx) (t : Tr) (lot : Int) : List Int := nats ((List.range t.sales.length).filter fun k => decide (lot ∈ qT c t k))
structure En where
  sold : Bool
  s : Ev
  x : Sl
abbrev yF1 (e : En) : List AV := [.b e.sold,.i e.s.k,.i e.s.a,.i e.s.b,.i e.s.n,.rowE (Go.Ab.ints e.s.ids) 1,.i e.x.t,.i e.x.o,.i e.x.b,.i e.x.n]
abbrev O8 (l : List En) : List (List AV) := l.map yF1
theorem pA (l : List En) : ∀ e,e ∈ O8 l → e.length = 10 := by intro e he;obtain ⟨n,_,rfl⟩ := bC.1 he;rfl
theorem F8 (l : List En) : (O8 l).length = l.length := aY _
theorem LC {l : List En} {k : Nat} (h : k < l.length) : (O8 l)[(k : Int).toNat]? = some (yF1 l[k]) := by
  rw [bQ,bT,aB h];rfl
def pX (l : List En) : List Ev := (l.filter fun e => !e.sold).map (·.s)
def IQ (l : List En) : Nat := l.countP (·.sold)
def KX (l : List En) (n m : Nat) : Bool := decide (l.length ≤ n + m) && decide (IQ (l.take (n + m + 1)) ≤ m) && GJ (pX (l.take (n + m + 1))) n
theorem C3 (l : List En) (e : En) : pX (l ++ [e]) = pX l ++ if e.sold then [] else [e.s] := by
  unfold pX;rw [tW,bY];cases h : e.sold <;> simp [h]
theorem A8 (l : List En) (e : En) : IQ (l ++ [e]) = IQ l + if e.sold then 1 else 0 := by
  unfold IQ;rw [UR];cases h : e.sold <;> simp [h]
theorem LB (l : List En) : (pX l).length ≤ l.length := by
  unfold pX;rw [aY];exact fQ _ _
theorem IP (l : List En) : IQ l ≤ l.length := List.countP_le_length
end Go.Ld
namespace Go.Proofs.YtmmmeebiobjnbaaGreat
open Go Go.Ab Go.Ld
attribute [local irreducible] VC AW cF aS iZ yK
set_option maxHeartbeats 4000000
theorem JG (c : Cx) (t : Tr) (lot : Int) (hc : iY c) (h : kS c t) (hl : t.seen.length ≤ 100000) (hs : t.sales.length ≤ 100000) (hids : ∀ s,s ∈ t.seen → s.ids.length ≤ 9223372036854775807) :
    aS Tryz.prog 22 [.pr (HP c t) 0,.i lot] [] (.sl 0 0 (S8 c t lot).length 1) [.arr (ints (S8 c t lot)) 1] := by
  have hsl := wW c t.sales;have hrl : ∀ k,(nats ((List.range k).filter fun k => decide (lot ∈ qT c t k))).length ≤ k := fun k => by
    rw [aY];exact bL (fQ _ _) (by simp)
  refine bW T Tryz.func22 rfl rfl rfl rfl ?_
  (repeat' (first|refine wS ?_|(refine rg 0 (aV ?_))|refine nZ ?_));all_goals try (exfalso;omega)
  (repeat' (first|refine wS ?_|(refine rg 1 (vV (dJ rfl) (qC 5 1 rfl (by decide) ?_)))|refine nZ ?_));all_goals try (exfalso;omega)
  (repeat' (first|refine wB ?_|(refine rg 2 (mW rfl (nV ?_));refine iB T rfl (qW T rfl (mV ?_)))|refine nZ ?_));all_goals try (exfalso;omega)
  refine dQ (X := {k : Nat // k ≤ t.sales.length}) (fun k => [(0,.pr (HP c t) 0),(1,.i lot),(5,.sl 0 0 (nats ((List.range k.1).filter fun k => decide (lot ∈ qT c t k))).length 1),(11,.i (sX c t.sales).length),(12,.i k.1)]) (fun k => [.arr (ints (nats ((List.range k.1).filter fun k => decide (lot ∈ qT c t k)))) 1]) (fun k => t.sales.length - k.1) ⟨0,cM _⟩ ⟨[0],rfl,(by repeat first|exact trivial|refine ⟨rfl,?_⟩),⟨.inr rfl,trivial⟩,by decide,kQ _⟩ ?_
  rintro ⟨k,hk⟩;dsimp only;by_cases hlt : k < t.sales.length
  · have hx : t.sales[k]? = some t.sales[k] := aB hlt;have hlo := XR hc h hx hl hids;have hlen : (qS (nO c (kR c t.seen t.sales[k]))).length ≤ 1000 := bL (fQ _ _) (BL h hx);have ek : qT c t k = qS (nO c (kR c t.seen t.sales[k])) := by unfold qT;rw [hx]
    rw [← ek] at hlo hlen;have hcn := xP (qT c t k) lot (by omega)
    have e0 : (nats ((List.range (k + 1)).filter fun k => decide (lot ∈ qT c t k))) = nats ((List.range k).filter fun k => decide (lot ∈ qT c t k)) ++ if lot ∈ qT c t k then [(k : Int)] else [] := by
      rw [D4,tW,nats,bY];by_cases q : lot ∈ qT c t k <;> simp [q]
    have hrk := hrl k;clear ek;generalize qT c t k = Q at *;by_cases q : lot ∈ Q
    · rw [if_pos q] at e0;rw [decide_eq_true q] at hcn;have hii := bB (nats ((List.range (k + 1)).filter fun k => decide (lot ∈ qT c t k)));generalize hB : nats ((List.range k).filter fun k => decide (lot ∈ qT c t k)) = B at *;have e1 : ints (nats ((List.range (k + 1)).filter fun k => decide (lot ∈ qT c t k))) = ints B ++ [[.i (k : Int)]] := by rw [e0,ints,bY];rfl
      have e2 : (nats ((List.range (k + 1)).filter fun k => decide (lot ∈ qT c t k))).length = B.length + 1 := by rw [e0];simp
      have hBl : (ints B).length = B.length := cW _
      (repeat' (first|refine wS ?_|refine wB ?_|refine wK ?_|refine wT ?_|(refine wC rfl ?_ ?_<;>(intro hb;(try simp only [nm] at hb);try (exfalso;omega)))|(refine rg 3 (vV (aM rfl rfl) ?_))|(refine rg 4 (mW rfl (aV ?_)))|(refine rg 5 (dH rfl (vV (kC (hlo)) (mW rfl (vV (kC (hcn)) ?_)))))|(refine rg 6 (dH rfl (cD (by exact bD T rfl rfl (by decide) (by decide) rfl rfl rfl) rfl ?_));refine fY T rfl rfl rfl rfl rfl rfl (by omega) (jJ.whole rfl rfl) rfl (by simp;omega) (by simp;omega) rfl ?_;refine aV ?_)|(refine rg 7 (vV (cC rfl rfl (by omega) (by omega)) (mV ?_)))|refine nZ ?_));all_goals try (exfalso;omega)
      all_goals exact ⟨⟨k + 1,hlt⟩,by dsimp only;omega,⟨[2],rfl,(by dsimp only;rw [e2];(repeat (first | exact trivial | refine ⟨rfl,?_⟩))),⟨.inr (aC rfl (by dsimp only;rw [e1];exact jN hBl.symm) hii),trivial⟩,by decide,kQ _⟩⟩
    · rw [if_neg q,List.append_nil] at e0;rw [decide_eq_false q] at hcn
      (repeat' (first|refine wS ?_|refine wB ?_|refine wK ?_|refine wU ?_|(refine wC rfl ?_ ?_<;>(intro hb;(try simp only [nm] at hb);try (exfalso;omega)))|(refine rg 3 (vV (aM rfl rfl) ?_))|(refine rg 4 (mW rfl (aV ?_)))|(refine rg 5 (dH rfl (vV (kC (hlo)) (mW rfl (vV (kC (hcn)) ?_)))))|(refine rg 7 (vV (cC rfl rfl (by omega) (by omega)) (mV ?_)))|refine nZ ?_));all_goals try (exfalso;omega)
      all_goals exact ⟨⟨k + 1,hlt⟩,by dsimp only;omega,⟨[0],rfl,(by dsimp only;rw [e0];(repeat (first | exact trivial | refine ⟨rfl,?_⟩))),⟨.inr (aC rfl (by dsimp only;rw [e0]) (bB _)),trivial⟩,by decide,kQ _⟩⟩
  · obtain rfl : k = t.sales.length := by omega
    (repeat' (first|refine wS ?_|refine wR ?_|refine wE ?_|(refine wC rfl ?_ ?_<;>(intro hb;(try simp only [nm] at hb);try (exfalso;omega)))|(refine rg 3 (vV (aM rfl rfl) ?_))|(refine rg 8 (mW rfl (aV ?_)))|refine nZ ?_));all_goals try (exfalso;omega)
    exact ⟨.inl rfl,[0],_,rfl,rfl,rfl,⟨.inr (aC rfl rfl (bB _)),trivial⟩,by decide,kQ _⟩
theorem yB4 (n : Nat) (hn : n ≤ 17592186043904) : aS Tryz.prog 7 [.i (n : Int)] [] (.sl 0 0 n 1) [.arr (ints (nats (List.range n))) 1] := by
  refine bW T Tryz.func7 rfl rfl rfl rfl ?_
  (repeat' (first|refine wS ?_|(refine rg 0 (aV ?_))|refine nZ ?_));all_goals try (exfalso;omega)
  (repeat' (first|refine wS ?_|(refine rg 1 (vV (dJ rfl) (qC 3 1 rfl (by decide) ?_)))|refine nZ ?_));all_goals try (exfalso;omega)
  (repeat' (first|refine wB ?_|(refine rg 2 (aV ?_))|refine nZ ?_));all_goals try (exfalso;omega)
  refine dQ (X := {k : Nat // k ≤ n}) (fun k => [(0,.i (n : Int)),(3,.sl 0 0 k.1 1),(4,.i k.1)]) (fun k => [.arr (ints (nats (List.range k.1))) 1]) (fun k => n - k.1) ⟨0,cM _⟩ ⟨[0],rfl,(by repeat first|exact trivial|refine ⟨rfl,?_⟩),⟨.inr rfl,trivial⟩,by decide,kQ _⟩ ?_
  rintro ⟨k,hk⟩;dsimp only;have hl : (ints (nats (List.range k))).length = k := by simp
  by_cases hlt : k < n
  · have e1 : ints (nats (List.range (k + 1))) = ints (nats (List.range k)) ++ [[.i (k : Int)]] := by rw [D4,nats,bY,ints,bY];rfl
    have hii := bB (nats (List.range (k + 1)));generalize ints (nats (List.range k)) = B at *
    (repeat' (first|refine wS ?_|refine wB ?_|refine wK ?_|(refine wC rfl ?_ ?_<;>(intro hb;(try simp only [nm] at hb);try (exfalso;omega)))|(refine rg 3 (dH rfl (vV (aM rfl rfl) ?_)))|(refine rg 5 (dH rfl (cD (by exact bD T rfl rfl (by decide) (by decide) rfl rfl rfl) rfl ?_));refine fY T rfl rfl rfl rfl rfl rfl (by omega) (jJ.whole rfl rfl) rfl (by simp;omega) (by simp;omega) rfl ?_;refine aV ?_)|(refine iA 4 rfl rfl rfl (by omega) (by omega) ?_)|refine nZ ?_));all_goals try (exfalso;omega)
    all_goals exact ⟨⟨k + 1,hlt⟩,by dsimp only;omega,⟨[2],rfl,(by repeat first|exact trivial|refine ⟨rfl,?_⟩),⟨.inr (aC rfl (by dsimp only;rw [e1];exact jN hl.symm) hii),trivial⟩,by decide,kQ _⟩⟩
  · obtain rfl : k = n := by omega
    (repeat' (first|refine wS ?_|refine wR ?_|refine wE ?_|(refine wC rfl ?_ ?_<;>(intro hb;(try simp only [nm] at hb);try (exfalso;omega)))|(refine rg 3 (dH rfl (vV (aM rfl rfl) ?_)))|(refine rg 6 (mW rfl (aV ?_)))|refine nZ ?_));all_goals try (exfalso;omega)
    exact ⟨.inl rfl,[0],_,rfl,rfl,rfl,⟨.inr (aC rfl rfl (bB _)),trivial⟩,by decide,kQ _⟩
theorem YY (l : List En) (n m : Nat) (hn : n ≤ 1000) (hm : m ≤ 1000) (hids : ∀ e,e ∈ l → e.s.ids.length ≤ 9223372036854775807) :
    aS Tryz.prog 8 [.rowE (O8 l) 10,.i (n : Int),.i (m : Int)] [] (.b (KX l n m)) [] := by
  have hll := F8 l;refine bW T Tryz.func8 rfl rfl rfl rfl ?_
  (repeat' (first|refine wS ?_|(refine rg 0 (aV ?_))|refine nZ ?_));all_goals try (exfalso;omega)
  (repeat' (first|refine wS ?_|(refine rg 1 (vV (dJ rfl) (qC 7 5 rfl (by decide) ?_)))|refine nZ ?_));all_goals try (exfalso;omega)
  (repeat' (first|refine wS ?_|refine wB ?_|(refine rg 2 (aV ?_))|(refine rg 3 (aV ?_))|refine nZ ?_));all_goals try (exfalso;omega)
  refine dQ (X := {k : Nat // k ≤ l.length ∧ k ≤ n + m + 1}) (fun k => [(0,.rowE (O8 l) 10),(1,.i (n : Int)),(2,.i (m : Int)),(7,.sl 0 0 (pX (l.take k.1)).length 5),(8,.i (IQ (l.take k.1) : Nat)),(9,.i k.1)]) (fun k => [.arr (oH (pX (l.take k.1))) 5]) (fun k => l.length - k.1) ⟨0,cM _,cM _⟩ ⟨[0],rfl,(by repeat first|exact trivial|refine ⟨rfl,?_⟩),⟨.inr rfl,trivial⟩,by decide,kQ _⟩ ?_
  rintro ⟨k,hk,hk2⟩;dsimp only;have h1 := LB (l.take k);have h2 := IP (l.take k);rw [bG] at h1 h2;have h3 := rD (pX (l.take k));by_cases hlt : k < l.length ∧ k ≤ n + m
  · have hg := LC hlt.1;have e1 := C3 (l.take k) (l[k]'hlt.1);have e2 := A8 (l.take k) (l[k]'hlt.1);rw [← aU hlt.1] at e1 e2;generalize (l[k]'hlt.1) = e at *;obtain ⟨es,⟨ek,ea,eb,en,eids⟩,⟨xt,xo,xb,xn⟩⟩ := e;dsimp only at *;cases es with
    | true =>
      rw [if_pos rfl] at e2;rw [if_pos rfl,List.append_nil] at e1
      (repeat' (first|refine wS ?_|refine wB ?_|refine wK ?_|refine wT ?_|(refine wC rfl ?_ ?_<;>(intro hb;(try simp only [nm] at hb);try (exfalso;omega)))|(refine rg 4 (dH rfl (qW T rfl (vV (aM rfl rfl) (mV ?_))));refine bO rfl rfl ?_ ?_<;>(intro hb;rw [hb];(try simp only [nm] at hb);try (exfalso;omega));(all_goals (refine yN rfl (yN rfl (yN rfl (yV (cC rfl rfl (by omega) (by omega)) (yV (iF rfl rfl) (pV ?_))))))))|(refine rg 6 (dH rfl (vV (ix T rfl (by omega) (pA _) hg) (GG T ?_))))|(refine iA 7 rfl rfl rfl (by omega) (by omega) ?_)|(refine iA 5 rfl rfl rfl (by omega) (by omega) ?_)|refine nZ ?_));all_goals try (exfalso;omega)
      all_goals exact ⟨⟨k + 1,hlt.1,by omega⟩,by dsimp only;omega,⟨[0],rfl,(by dsimp only;rw [e1,e2];(repeat (first | exact trivial | refine ⟨rfl,?_⟩))),⟨.inr (aC rfl (by dsimp only;rw [e1]) (fO _)),trivial⟩,by decide,kQ _⟩⟩
    | false =>
      rw [if_neg (by decide),Nat.add_zero] at e2
      rw [if_neg (by decide)] at e1
      have i1 := fO (pX (l.take (k + 1)));have e3 : oH (pX (l.take (k + 1))) = oH (pX (l.take k)) ++ [[.i ek,.i ea,.i eb,.i en,.rowE (Go.Ab.ints eids) 1]] := by rw [e1,oH,bY];rfl
      have e4 : (pX (l.take (k + 1))).length = (pX (l.take k)).length + 1 := by rw [e1];simp
      generalize pX (l.take k) = B at *
      (repeat' (first|refine wS ?_|refine wB ?_|refine wK ?_|refine wU ?_|(refine wC rfl ?_ ?_<;>(intro hb;(try simp only [nm] at hb);try (exfalso;omega)))|(refine rg 4 (dH rfl (qW T rfl (vV (aM rfl rfl) (mV ?_))));refine bO rfl rfl ?_ ?_<;>(intro hb;rw [hb];(try simp only [nm] at hb);try (exfalso;omega));(all_goals (refine yN rfl (yN rfl (yN rfl (yV (cC rfl rfl (by omega) (by omega)) (yV (iF rfl rfl) (pV ?_))))))))|(refine rg 6 (dH rfl (vV (ix T rfl (by omega) (pA _) hg) (GG T ?_))))|(refine rg 8 (dH rfl (mW rfl (vV (ix T rfl (by omega) (pA _) hg) (iB T rfl (cD (by exact bD T rfl rfl (by decide) (by decide) rfl rfl rfl) rfl ?_)))));refine fY T rfl rfl rfl rfl rfl rfl (by omega) (jJ.whole rfl rfl) rfl (by simp;omega) (by simp;omega) rfl ?_;refine aV ?_)|(refine iA 5 rfl rfl rfl (by omega) (by omega) ?_)|refine nZ ?_));all_goals try (exfalso;omega)
      all_goals exact ⟨⟨k + 1,hlt.1,by omega⟩,by dsimp only;omega,⟨[2],rfl,(by dsimp only;rw [e4,e2];(repeat (first | exact trivial | refine ⟨rfl,?_⟩))),⟨.inr (aC rfl (by dsimp only;rw [e3];exact jN h3.symm) i1),trivial⟩,by decide,kQ _⟩⟩
  · have ek : l.take (n + m + 1) = l.take k := by
      by_cases q : k < l.length
      · rw [show k = n + m + 1 by omega]
      · rw [bR (by omega),bR (by omega)]
    have hfe := zV4 (pX (l.take k)) n hn (fun s hs => by
      obtain ⟨e,he,rfl⟩ := bC.1 hs
      exact hids e (eK (eJ.1 he).1))
    unfold KX;rw [ek];generalize GJ (pX (l.take k)) n = fe at *;have hvw : nP [AB.arr (oH (pX (l.take k))) 5] (.sl 0 0 (pX (l.take k)).length 5) (.rowE (oH (pX (l.take k))) 5) := nW rfl h3.symm (RA _);by_cases q1 : l.length ≤ n + m
    · by_cases q2 : IQ (l.take k) ≤ m
      · rw [decide_eq_true q1,decide_eq_true q2]
        (repeat' (first|refine wS ?_|refine wR ?_|refine wE ?_|refine wU ?_|(refine rg 4 (dH rfl (qW T rfl (vV (aM rfl rfl) (mV ?_))));refine bO rfl rfl ?_ ?_<;>(intro hb;rw [hb];(try simp only [nm] at hb);try (exfalso;omega));(all_goals ((iterate 5 refine gF ?_);refine pV ?_)))|(refine rg 9 (mW rfl (qW T rfl (dH rfl (vV (cC rfl rfl (by omega) (by omega)) (vV (iF rfl rfl) (mV ?_))))));refine bO rfl rfl ?_ ?_<;>(intro hb;rw [hb];(try simp only [nm] at hb);try (exfalso;omega));(all_goals (refine yN rfl (yN rfl (yV (iF rfl rfl) (pW rfl (mV ?_))));refine bO rfl rfl ?_ ?_<;>(intro hb;rw [hb];(try simp only [nm] at hb);try (exfalso;omega))));(all_goals (refine yN rfl (yN rfl (yV (by exact fB rfl rfl hfe (.cons hvw (.cons (.v _) .nil)) rfl rfl) ?_));refine pW rfl (aV ?_))))|refine nZ ?_));all_goals first | (exfalso;omega) | exact rQ
      · rw [decide_eq_true q1,decide_eq_false q2]
        (repeat' (first|refine wS ?_|refine wR ?_|refine wE ?_|refine wU ?_|(refine rg 4 (dH rfl (qW T rfl (vV (aM rfl rfl) (mV ?_))));refine bO rfl rfl ?_ ?_<;>(intro hb;rw [hb];(try simp only [nm] at hb);try (exfalso;omega));(all_goals ((iterate 5 refine gF ?_);refine pV ?_)))|(refine rg 9 (mW rfl (qW T rfl (dH rfl (vV (cC rfl rfl (by omega) (by omega)) (vV (iF rfl rfl) (mV ?_))))));refine bO rfl rfl ?_ ?_<;>(intro hb;rw [hb];(try simp only [nm] at hb);try (exfalso;omega));(all_goals (refine yN rfl (yN rfl (yV (iF rfl rfl) (pW rfl (mV ?_))));refine bO rfl rfl ?_ ?_<;>(intro hb;rw [hb];(try simp only [nm] at hb);try (exfalso;omega))));(all_goals ((iterate 3 refine gF ?_);refine pW rfl (aV ?_))))|refine nZ ?_));all_goals first | (exfalso;omega) | exact rQ
    · rw [decide_eq_false q1]
      (repeat' (first|refine wS ?_|refine wR ?_|refine wE ?_|refine wU ?_|(refine wC rfl ?_ ?_<;>(intro hb;(try simp only [nm] at hb);try (exfalso;omega)))|(refine rg 4 (dH rfl (qW T rfl (vV (aM rfl rfl) (mV ?_))));refine bO rfl rfl ?_ ?_<;>(intro hb;rw [hb];(try simp only [nm] at hb);try (exfalso;omega));(all_goals first|(refine gT (mW rfl (gT (mW rfl (gT (mW rfl (gT (vV (cC rfl rfl (by omega) (by omega)) (gT (vV (iF rfl rfl) ?_))))))))))|(iterate 5 refine gF ?_));(all_goals (refine pV ?_)))|(refine rg 9 (mW rfl (qW T rfl (dH rfl (vV (cC rfl rfl (by omega) (by omega)) (vV (iF rfl rfl) (mV ?_))))));refine bO rfl rfl ?_ ?_<;>(intro hb;rw [hb];(try simp only [nm] at hb);try (exfalso;omega));(all_goals ((iterate 3 refine gF ?_);refine pW rfl (mV ?_);(iterate 3 refine gF ?_);refine pW rfl (aV ?_))))|refine nZ ?_));all_goals first | (exfalso;omega) | exact rQ
end Go.Proofs.YtmmmeebiobjnbaaGreat
namespace Go.Ld
open Go.Ab Go.Proofs.YtmmmeebiobjnbaaGreat
def HE (c : Cx) (t : Tr) (e : En) : Int × Tr := if e.sold then (if pM c t e.x = 0 then (0,yB t e.x) else (pM c t e.x,t)) else zS2 c t e.s
def zO1 (c : Cx) (t : Tr) (e : En) : Hp := if e.sold then (if pM c t e.x = 0 then M3 c (yB t e.x) else UU c t) else if (fK c t.gs e.s).1 = 0 then H8 c (zS2 c t e.s).2 else UU c t
theorem UN (c : Cx) (t : Tr) (e : En) :
    ((HE c t e).2 = t ∧ zO1 c t e = UU c t) ∨
    (∃ s,e.sold = false ∧ s = e.s ∧ (fK c t.gs s).1 = 0 ∧ (HE c t e).1 = 0 ∧ (HE c t e).2 = ⟨(fK c t.gs s).2,t.seen ++ [s],t.sales,t.ord ++ [false]⟩ ∧ zO1 c t e = H8 c (HE c t e).2) ∨
    (e.sold = true ∧ pM c t e.x = 0 ∧ (HE c t e).1 = 0 ∧ (HE c t e).2 = yB t e.x ∧ zO1 c t e = M3 c (HE c t e).2) := by
  unfold HE zO1;by_cases h : e.sold = true
  · rw [if_pos h,if_pos h];by_cases q : pM c t e.x = 0
    · rw [if_pos q,if_pos q];exact .inr (.inr ⟨h,q,rfl,rfl,rfl⟩)
    · rw [if_neg q,if_neg q];exact .inl ⟨rfl,rfl⟩
  · rw [if_neg h,if_neg h];unfold zS2;by_cases q : (fK c t.gs e.s).1 = 0
    · rw [if_pos q,if_pos q];exact .inr (.inl ⟨_,by simpa using h,rfl,q,rfl,rfl,rfl⟩)
    · rw [if_neg q,if_neg q];exact .inl ⟨rfl,rfl⟩
theorem CW {c : Cx} {t : Tr} {x : Sl} (h : pM c t x = 0) : 0 ≤ x.b ∧ x.b < c.bs.length := by
  rcases Y0 c t x with ⟨q,_⟩ | ⟨q,_⟩
  · omega
  · omega
structure D1 (c : Cx) (l : List En) (k : Nat) (t : Tr) : Prop where
  tr : kS c t
  sub : t.seen.Sublist (pX (l.take k))
  sl : t.sales.length ≤ IQ (l.take k)
  od : t.ord.length ≤ k
theorem D1.new {c : Cx} (hc : iY c) (l : List En) : D1 c l 0 ⟨pT c,[],[],[]⟩ := ⟨kS.new hc,List.nil_sublist _,cM _,cM _⟩
theorem sH {l : List En} {k : Nat} (h : k < l.length) : l.take (k + 1) = l.take k ++ [l[k]] := aU h
theorem D1.skip {c : Cx} {l : List En} {k : Nat} {t : Tr} (h : D1 c l k t) (hk : k < l.length) : D1 c l (k + 1) t := by
  refine ⟨h.tr,?_,?_,zC3 h.od⟩
  · rw [sH hk,C3];exact h.sub.trans (List.sublist_append_left _ _)
  · rw [sH hk,A8];have := h.sl;omega
theorem D1.see {c : Cx} {l : List En} {k : Nat} {t : Tr} (hc : iY c) (h : D1 c l k t) (hk : k < l.length) (hs : l[k].sold = false) (h0 : (fK c t.gs l[k].s).1 = 0) : D1 c l (k + 1) ⟨(fK c t.gs l[k].s).2,t.seen ++ [l[k].s],t.sales,t.ord ++ [false]⟩ := by
  refine ⟨h.tr.see hc h0,?_,?_,by simp;exact h.od⟩
  · rw [sH hk,C3,if_neg (by rw [hs];decide)]
    exact h.sub.append (List.Sublist.refl _)
  · rw [sH hk,A8];have := h.sl;dsimp only;omega
theorem D1.sell {c : Cx} {l : List En} {k : Nat} {t : Tr} (h : D1 c l k t) (hk : k < l.length) (hs : l[k].sold = true) (h0 : pM c t l[k].x = 0) : D1 c l (k + 1) (yB t l[k].x) := by
  refine ⟨h.tr.sell _ (CW h0),?_,?_,by unfold yB;simp;exact h.od⟩
  · rw [sH hk,C3];exact h.sub.trans (List.sublist_append_left _ _)
  · rw [sH hk,A8,if_pos hs];have := h.sl;unfold yB;simp;omega
theorem D1.add {c : Cx} {l : List En} {k : Nat} {t : Tr} (hc : iY c) (h : D1 c l k t) (hk : k < l.length) : D1 c l (k + 1) (HE c t l[k]).2 := by
  rcases UN c t l[k] with ⟨e,_⟩ | ⟨s,e1,rfl,e2,_,e,_⟩ | ⟨e1,e2,_,e,_⟩
  · rw [e];exact h.skip hk
  · rw [e];exact h.see hc hk e1 e2
  · rw [e];exact h.sell hk e1 e2
theorem D1.swap {c : Cx} {l : List En} {k : Nat} {t : Tr} (h : D1 c l k t) (h5 : yY (pX l) ≤ 5) : yY t.seen ≤ 5 := by
  refine bL (List.Sublist.countP_le h.sub) (bL ?_ h5);have e : pX l = pX (l.take k) ++ pX (l.drop k) := by
    unfold pX;rw [← bY,← tW,bP]
  rw [e,FC];exact iM _ _
theorem D1.mem {c : Cx} {l : List En} {k : Nat} {t : Tr} (h : D1 c l k t) : ∀ s,s ∈ t.seen → ∃ e,e ∈ l ∧ e.s = s := fun s hs => by
  obtain ⟨e,he,rfl⟩ := bC.1 (h.sub.mem hs);exact ⟨e,eK (eJ.1 he).1,rfl⟩
theorem D1.len {c : Cx} {l : List En} {k : Nat} {t : Tr} (h : D1 c l k t) : t.seen.length ≤ k ∧ t.sales.length ≤ k := by
  have h1 := h.sub.length_le;have h2 := LB (l.take k);have h3 := IP (l.take k);have h4 := h.sl;rw [bG] at h2 h3;omega
theorem YZ {l : List En} {n m : Nat} (h : KX l n m = true) : l.length ≤ n + m ∧ yY (pX l) ≤ 5 ∧ ∀ s,s ∈ pX l → s.ids.length ≤ 12 := by
  unfold KX at h;simp only [aL,decide_eq_true_eq] at h;obtain ⟨⟨h1,h2⟩,h3⟩ := h;rw [bR (by omega)] at h3
  unfold GJ at h3;simp only [aL,decide_eq_true_eq,bI] at h3;obtain ⟨⟨h4,h5⟩,h6⟩ := h3;rw [bR (by omega)] at h4 h6
  exact ⟨h1,h6,h4⟩
theorem D1.ids {c : Cx} {l : List En} {k : Nat} {t : Tr} (h : D1 c l k t) (hx : ∀ s,s ∈ pX l → s.ids.length ≤ 12) : ∀ s,s ∈ t.seen → s.ids.length ≤ 9223372036854775807 := fun s hs => by
  obtain ⟨e,he,rfl⟩ := bC.1 (h.sub.mem hs);obtain ⟨h1,h2⟩ := eJ.1 he;have := hx e.s (bC.2 ⟨e,eJ.2 ⟨eK h1,h2⟩,rfl⟩);omega
def hO (t t' : Tr) : Prop := (t'.seen = t.seen ∨ ∃ s,t'.seen = t.seen ++ [s]) ∧ ∃ r,t'.sales = t.sales ++ r
theorem hO.get {t t' : Tr} (h : hO t t') {k : Nat} {x : Sd} (hk : t.sales[k]? = some x) : t'.sales[k]? = some x := by
  obtain ⟨_,r,e⟩ := h;rw [e,aH (aA.1 hk).1];exact hk
theorem hO.ids {c : Cx} {t t' : Tr} (h : hO t t') {x : Sd} (hn : x.n ≤ t.seen.length) : ∀ i,i ∈ kR c t'.seen x → i ∈ kR c t.seen x := by
  rcases h.1 with e | ⟨s,e⟩
  · rw [e];exact fun _ h => h
  · rw [e];exact YF hn
end Go.Ld
namespace Go.Proofs.YtmmmeebiobjnbaaGreat
open Go Go.Ab Go.Ld
attribute [local irreducible] VC AW cF aS iZ yK
set_option maxHeartbeats 4000000
theorem mD {h : Hp} {c : Cx} {t : Tr} {a b d e f n m q : Nat} (h0 : h[a]? = some (.cells [.rowE (iS c.ls) 3, .rowE (dR c.bs) 3, .ptr b 0, .sl d 0 n 5, .sl e 0 m 6, .sl f 0 q 1])) (h1 : h[b]? = some (.cells (jT c t.gs))) (h2 : h[d]? = some (.arr (oH t.seen) 5)) (h3 : h[e]? = some (.arr (sX c t.sales) 6)) (h4 : h[f]? = some (.arr (yW t.ord) 1))
    (e1 : n = t.seen.length) (e2 : m = t.sales.length) (e3 : q = t.ord.length) : nP h (.ptr a 0) (.pr (HP c t) 0) :=
  .ptr h0 (.cons (.row _ _ _) (.cons (.row _ _ _) (.cons (.ptr h1 (kV _ rfl)) (.cons (nW h2 (by rw [e1,rD]) (RA _)) (.cons (nW h3 (by rw [e2,wW]) (zF5 _ _)) (.cons (nW h4 (by rw [e3,G3]) (zN6 _)) .nil))))))
end Go.Proofs.YtmmmeebiobjnbaaGreat
