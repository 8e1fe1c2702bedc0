/-
  Texts of the logic and of the layer,in one module (part 9).
-/
import Derived.Test.YtmmmeebiobjnbaaGreatR8
set_option linter.unusedVariables false
set_option linter.unusedSimpArgs false
set_option linter.unnecessarySimpa false
namespace Go.Ld
open Go.Ab Go.Proofs.YtmmmeebiobjnbaaGreat
abbrev RU (c : Cx) (t : Tr) (l : Hp) : Hp := .cells (yI1 c t.seen.length t.sales.length t.ord.length) :: .cells (jP c t.gs) :: .arr (oG t.seen) 5 :: .arr (rT c t.sales) 6 :: .arr (oU t.ord) 1 :: l
abbrev yE0 (c : Cx) (t : Tr) : Hp := [.cells [.rowE (kU c.ls) 3,.rowE (fP c.bs) 3,.ptr 6 0,.sl 7 0 t.seen.length 5,.sl 8 0 t.sales.length 6,.sl 9 0 t.ord.length 1],.cells (jP c t.gs),.arr (oG t.seen) 5,.arr (rT c t.sales) 6,.arr (oU t.ord) 1]
end Go.Ld
namespace Go.Proofs.YtmmmeebiobjnbaaGreat
open Go Go.Ab Go.Ld
attribute [local irreducible] VC AW cE aU iV yD
set_option maxHeartbeats 4000000
theorem U4 {c : Cx} {t : Tr} {x : Sd} {l a : List Int} (hc : iU c) (h : kH c t) (hk : t.sales[0]? = some x) (hl : t.seen.length ≤ 10) (hids : ∀ s,s ∈ t.seen → s.ids = []) (e1 : hC c t.seen x = l) (e2 : jK c l = a) :
    aU Tryz.prog 12 [.pr (FK c t) 0,.i 0] [] (.tup [.i (oL a).1,.b (oL a).2]) [] := by
  have h1 := Y0 (k := 0) hc h hk (by omega) (fun s hs => by rw [hids s hs];exact bY _)
  rw [e1,e2] at h1;exact h1
theorem GG {c : Cx} {t : Tr} {x : Sd} {l a : List Int} (hc : iU c) (h : kH c t) (hk : t.sales[0]? = some x) (hl : t.seen.length ≤ 10) (hids : ∀ s,s ∈ t.seen → s.ids = []) (e1 : hC c t.seen x = l) (e2 : jK c l = a) :
    aU Tryz.prog 14 [.pr (FK c t) 0,.i 0] [] (.sl 0 0 (lR a).length 1) [.arr (ints (lR a)) 1] := by
  have h1 := I5 (k := 0) hc h hk (by omega) (fun s hs => by rw [hids s hs];exact bY _)
  rw [e1,e2] at h1;exact h1
theorem NE {c : Cx} {t : Tr} {x : Sd} {l a : List Int} (lot : Int) (hc : iU c) (h : kH c t) (hk : t.sales = [x]) (hl : t.seen.length ≤ 10) (hids : ∀ s,s ∈ t.seen → s.ids = []) (e1 : hC c t.seen x = l) (e2 : jK c l = a) :
    aU Tryz.prog 22 [.pr (FK c t) 0,.i lot] [] (.sl 0 0 (if lot ∈ lR a then [0] else [] : List Int).length 1) [.arr (ints (if lot ∈ lR a then [0] else [])) 1] := by
  have h1 := WT c t lot hc h (by omega) (by rw [hk];exact (by decide : 1 ≤ 100000)) (fun s hs => by rw [hids s hs];exact bY _)
  rw [zH4 hk,e1,e2] at h1;exact h1
theorem zU7 : ∀ s,s ∈ u2.seen → s.ids = [] := by intro s hs;simp only [u2,bU,jZ,or_false] at hs;subst hs;rfl
theorem zU6 : ∀ s,s ∈ zE9.seen → s.ids = [] := by intro s hs;simp only [zE9,bU,jZ,or_false] at hs;rcases hs with rfl | rfl <;> rfl
theorem zU5 : ∀ s,s ∈ zE8.seen → s.ids = [] := by intro s hs;simp only [zE8,bU,jZ,or_false] at hs;rcases hs with rfl | rfl | rfl <;> rfl
theorem DC : aU Tryz.prog 6 [] [] (.b true) [] := by
  have hgv := TY;have s1 := T9 d0 u2 5 1 0 1 qJ k2 (by decide) (by decide) yH9
  change aU _ _ _ _ _ (D7 d0 zE9) at s1;have s2 := T9 d0 u2 4 0 1 0 qJ k2 (by decide) (by decide) yH8
  change aU _ _ _ _ _ (D7 d0 zQ6) at s2;have s3 := T9 d0 zQ6 5 0 0 0 qJ yI7 (by decide) (by decide) yH7
  change aU _ _ _ _ _ (D7 d0 zE8) at s3;have q1 := U4 qJ k2 (x := CF) rfl (by decide) zU7 yG1 zZ5
  have q2 := GG qJ k2 (x := CF) rfl (by decide) zU7 yG1 zZ5
  have q3 := NE 1 qJ k2 (x := CF) rfl (by decide) zU7 yG1 zZ5
  have q4 := U4 qJ yF8 (x := CF) rfl (by decide) zU6 yG0 yH0
  have q5 := GG qJ yF8 (x := CF) rfl (by decide) zU6 yG0 yH0
  have q6 := NE 1 qJ yF8 (x := CF) rfl (by decide) zU6 yG0 yH0
  have q7 := U4 qJ yF7 (x := CF) rfl (by decide) zU5 yF9 zZ5
  have q8 := GG qJ yF7 (x := CF) rfl (by decide) zU5 yF9 zZ5
  have q9 := NE 1 qJ yF7 (x := CF) rfl (by decide) zU5 yF9 zZ5
  change aU _ _ _ _ (.tup [.i 0,.b false]) _ at q1 q7;change aU _ _ _ _ (.tup [.i 0,.b true]) _ at q4;change aU _ _ _ _ (.sl 0 0 2 1) [.arr [[.i 0],[.i 1]] 1] at q2 q8;change aU _ _ _ _ (.sl 0 0 1 1) [.arr [[.i 0]] 1] at q5 q3 q9;change aU _ _ _ _ (.sl 0 0 0 1) [.arr [] 1] at q6;have i1 := eY u2.seen;have i2 := fM d0 u2.sales;have i3 := eI u2.ord;have j1 := eY zE9.seen;have j2 := fM d0 zE9.sales;have j3 := eI zE9.ord;have l1 := eY zQ6.seen;have l2 := fM d0 zQ6.sales;have l3 := eI zQ6.ord;have m1 := eY zE8.seen;have m2 := fM d0 zE8.sales;have m3 := eI zE8.ord;generalize u2 = U2 at *;generalize zE9 = U3 at *;generalize zQ6 = V3 at *;generalize zE8 = V4 at *;generalize d0 = D at *;have t1 := WM [0,1] [0,1] (by decide)
  rw [show decide (([0,1] : List Int) = [0,1]) = true from rfl] at t1
  have t2 := WM [0] [0] (by decide)
  rw [show decide (([0] : List Int) = [0]) = true from rfl] at t2
  refine bX T Tryz.func6 rfl rfl rfl rfl ?_
  (repeat' (first|refine wS ?_|(refine rg 0 (aV ?_))|(refine rg 1 (cH (by exact fQ rfl rfl hgv (.inr ⟨rfl,rfl,by simp⟩)) rfl ?_);refine aV ?_)|refine nZ ?_));refine eU [(1,.ptr 0 0)] (HW D U2) ⟨[0,1,2,3,4],rfl,(by repeat first|exact trivial|refine ⟨rfl,?_⟩),⟨.inr rfl,.inr rfl,.inr (aC rfl (bE _ i1) i1),.inr (aC rfl (bE _ i2) i2),.inr (aC rfl (bE _ i3) i3),trivial⟩,by decide,kI _⟩ ?_
  (repeat' (first|refine wS ?_|(refine rg 2 (cH (by exact fQ rfl rfl hgv (.inr ⟨rfl,rfl,by simp⟩)) rfl ?_);refine aV ?_)|refine nZ ?_));refine eU [(1,.ptr 0 0),(2,.ptr 5 0)] (RU D U2 (yE0 D U2)) ⟨[0,1,2,3,4,5,6,7,8,9],rfl,(by repeat first|exact trivial|refine ⟨rfl,?_⟩),⟨.inr rfl,.inr rfl,.inr (aC rfl rfl i1),.inr (aC rfl rfl i2),.inr (aC rfl rfl i3),.inr rfl,.inr rfl,.inr (aC rfl (bE _ i1) i1),.inr (aC rfl (bE _ i2) i2),.inr (aC rfl (bE _ i3) i3),trivial⟩,by decide,kI _⟩ ?_
  (repeat' (first|refine wS ?_|refine wK ?_|refine wU ?_|(refine rg 3 (mW rfl (vV (by exact xF PS rfl rfl rfl) ?_));refine mW rfl (yN rfl (yV (by exact xF PS rfl rfl rfl) ?_));refine pV ?_)|refine nZ ?_));all_goals try (exfalso;omega)
  (repeat' (first|refine wS ?_|(refine rg 5 (mW rfl (vV (by exact eW rfl rfl q1 (.cons (kR rfl rfl rfl rfl rfl rfl rfl rfl) (.cons (.v _) .nil)) rfl rfl) ?_));refine mW rfl (xW rfl (xW rfl (uV ?_))))|refine nZ ?_));all_goals try (exfalso;omega)
  (repeat' (first|refine wS ?_|(refine rg 6 (mW rfl (cH (by exact fQ rfl rfl q2 (.inl ⟨.cons (kR rfl rfl rfl rfl rfl rfl rfl rfl) (.cons (.v _) .nil),rfl⟩)) rfl ?_));refine mJ 26 rfl rfl rfl rfl ?_;refine cH (by exact bD T rfl rfl (by decide) (by decide) rfl rfl rfl) rfl ?_;refine mJ 27 rfl rfl rfl rfl ?_;refine vV (kC (t1)) (mW rfl (yN rfl (gT (cH (by exact fQ rfl rfl q3 (.inl ⟨.cons (kR rfl rfl rfl rfl rfl rfl rfl rfl) (.cons (.v _) .nil),rfl⟩)) rfl ?_))));refine mJ 31 rfl rfl rfl rfl ?_;refine gT (cH (by exact bD T rfl rfl (by decide) (by decide) rfl rfl rfl) rfl ?_);refine mJ 32 rfl rfl rfl rfl ?_;refine yV (kC (t2)) (pW rfl (mW rfl (yN rfl (yV (eM rfl) (pW rfl (aV ?_)))))))|refine nZ ?_));all_goals try (exfalso;omega)
  refine eU [(1,.ptr 0 0),(2,.ptr 5 0),(5,.b true)] (RU D U2 (yE0 D U2)) ⟨[0,1,2,3,4,5,6,7,8,9],rfl,(by repeat first|exact trivial|refine ⟨rfl,?_⟩),⟨.inr rfl,.inr rfl,.inr (aC rfl rfl i1),.inr (aC rfl rfl i2),.inr (aC rfl rfl i3),.inr rfl,.inr rfl,.inr (aC rfl rfl i1),.inr (aC rfl rfl i2),.inr (aC rfl rfl i3),trivial⟩,by decide,kI _⟩ ?_
  (repeat' (first|refine wS ?_|(refine rg 7 (mW rfl (vV (by exact eR T rfl rfl rfl rfl) ?_));refine eA [0,1,2,3,4] rfl rfl (s1) rfl rfl (by decide) ⟨.inr rfl,.inr rfl,.inr (aC rfl rfl i1),.inr (aC rfl rfl i2),.inr (aC rfl rfl i3),trivial⟩ (by simp) rfl ?_;refine aV ?_)|refine nZ ?_));all_goals try (exfalso;omega)
  refine eU [(1,.ptr 0 0),(2,.ptr 5 0),(5,.b true),(6,.i 0)] (RU D U3 (yE0 D U2)) ⟨[0,1,10,3,11,5,6,7,8,9],rfl,(by repeat first|exact trivial|refine ⟨rfl,?_⟩),⟨.inr rfl,.inr rfl,.inr (aC rfl (bE _ j1) j1),.inr (aC rfl (bE _ j2) j2),.inr (aC rfl (bE _ j3) j3),.inr rfl,.inr rfl,.inr (aC rfl rfl i1),.inr (aC rfl rfl i2),.inr (aC rfl rfl i3),trivial⟩,by decide,kI _⟩ ?_
  (repeat' (first|refine wS ?_|(refine rg 8 (mW rfl (vV (by exact eW rfl rfl q4 (.cons (kR rfl rfl rfl rfl rfl rfl rfl rfl) (.cons (.v _) .nil)) rfl rfl) ?_));refine mW rfl (xW rfl (xW rfl (uV ?_))))|refine nZ ?_));all_goals try (exfalso;omega)
  (repeat' (first|refine wS ?_|(refine rg 9 (mW rfl (vV (eX rfl rfl) (mW rfl (yN rfl (gT (cH (by exact fQ rfl rfl q5 (.inl ⟨.cons (kR rfl rfl rfl rfl rfl rfl rfl rfl) (.cons (.v _) .nil),rfl⟩)) rfl ?_))))));refine mJ 51 rfl rfl rfl rfl ?_;refine gT (cH (by exact bD T rfl rfl (by decide) (by decide) rfl rfl rfl) rfl ?_);refine mJ 52 rfl rfl rfl rfl ?_;refine yV (kC (t2)) (pW rfl (mW rfl (yN rfl (gT (cH (by exact fQ rfl rfl q6 (.inl ⟨.cons (kR rfl rfl rfl rfl rfl rfl rfl rfl) (.cons (.v _) .nil),rfl⟩)) rfl ?_)))));refine mJ 57 rfl rfl rfl rfl ?_;refine gT (qW T rfl (yV (eX rfl rfl) (pW rfl (mW rfl (yN rfl (pW rfl (mW rfl (yN rfl (yV (eX rfl rfl) ?_)))))))));refine pW rfl (aV ?_))|refine nZ ?_));all_goals try (exfalso;omega)
  refine eU [(1,.ptr 0 0),(2,.ptr 5 0),(5,.b true),(9,.b true)] (RU D U3 (yE0 D U2)) ⟨[0,1,2,3,4,5,6,7,8,9],rfl,(by repeat first|exact trivial|refine ⟨rfl,?_⟩),⟨.inr rfl,.inr rfl,.inr (aC rfl rfl j1),.inr (aC rfl rfl j2),.inr (aC rfl rfl j3),.inr rfl,.inr rfl,.inr (aC rfl rfl i1),.inr (aC rfl rfl i2),.inr (aC rfl rfl i3),trivial⟩,by decide,kI _⟩ ?_
  (repeat' (first|refine wS ?_|(refine rg 10 (mW rfl (vV (by exact eR T rfl rfl rfl rfl) ?_));refine eA [5,6,7,8,9] rfl rfl (s2) rfl rfl (by decide) ⟨.inr rfl,.inr rfl,.inr (aC rfl rfl i1),.inr (aC rfl rfl i2),.inr (aC rfl rfl i3),trivial⟩ (by simp) rfl ?_;refine aV ?_)|refine nZ ?_));all_goals try (exfalso;omega)
  refine eU [(2,.ptr 0 0),(5,.b true),(9,.b true),(10,.i 0)] (HW D V3) ⟨[5,6,10,8,11],rfl,(by repeat first|exact trivial|refine ⟨rfl,?_⟩),⟨.inr rfl,.inr rfl,.inr (aC rfl (bE _ l1) l1),.inr (aC rfl (bE _ l2) l2),.inr (aC rfl (bE _ l3) l3),trivial⟩,by decide,kI _⟩ ?_
  (repeat' (first|refine wS ?_|(refine rg 11 (mW rfl (vV (by exact eR T rfl rfl rfl rfl) ?_));refine eA [0,1,2,3,4] rfl rfl (s3) rfl rfl (by decide) ⟨.inr rfl,.inr rfl,.inr (aC rfl rfl l1),.inr (aC rfl rfl l2),.inr (aC rfl rfl l3),trivial⟩ (by simp) rfl ?_;refine aV ?_)|refine nZ ?_));all_goals try (exfalso;omega)
  refine eU [(2,.ptr 0 0),(5,.b true),(9,.b true),(10,.i 0),(11,.i 0)] (HW D V4) ⟨[0,1,5,3,6],rfl,(by repeat first|exact trivial|refine ⟨rfl,?_⟩),⟨.inr rfl,.inr rfl,.inr (aC rfl (bE _ m1) m1),.inr (aC rfl (bE _ m2) m2),.inr (aC rfl (bE _ m3) m3),trivial⟩,by decide,kI _⟩ ?_
  (repeat' (first|refine wS ?_|(refine rg 12 (mW rfl (vV (by exact eW rfl rfl q7 (.cons (kR rfl rfl rfl rfl rfl rfl rfl rfl) (.cons (.v _) .nil)) rfl rfl) ?_));refine mW rfl (xW rfl (xW rfl (aV ?_))))|refine nZ ?_));all_goals try (exfalso;omega)
  (repeat' (first|refine wR ?_|(refine rg 13 (dK rfl (yN rfl (pW rfl (mW rfl (yN rfl (yV (eX rfl rfl) (pW rfl (mW rfl (yM ?_)))))))));refine yV (eX rfl rfl) (pW rfl (mW rfl (yN rfl (gT (cH (by exact fQ rfl rfl q8 (.inl ⟨.cons (kR rfl rfl rfl rfl rfl rfl rfl rfl) (.cons (.v _) .nil),rfl⟩)) rfl ?_)))));refine mJ 93 rfl rfl rfl rfl ?_;refine gT (cH (by exact bD T rfl rfl (by decide) (by decide) rfl rfl rfl) rfl ?_);refine mJ 94 rfl rfl rfl rfl ?_;refine yV (kC (t1)) (pW rfl (mW rfl (yN rfl (gT (cH (by exact fQ rfl rfl q9 (.inl ⟨.cons (kR rfl rfl rfl rfl rfl rfl rfl rfl) (.cons (.v _) .nil),rfl⟩)) rfl ?_)))));refine mJ 99 rfl rfl rfl rfl ?_;refine gT (cH (by exact bD T rfl rfl (by decide) (by decide) rfl rfl rfl) rfl ?_);refine mJ 100 rfl rfl rfl rfl ?_;refine yV (kC (t2)) (pW rfl (mW rfl (yN rfl (yV (eM rfl) (pW rfl (aV ?_)))))))|refine nZ ?_));all_goals try (exfalso;omega)
  all_goals exact rQ
end Go.Proofs.YtmmmeebiobjnbaaGreat
namespace Go.Ld
open Go.Ab Go.Proofs.YtmmmeebiobjnbaaGreat
abbrev qC (l : List (List Int)) : List (List AV) := l.map fun r => [AV.rowE (Go.Ab.ints r) 1]
theorem iX (l : List (List Int)) : ∀ e,e ∈ qC l → AV.idfL e = true := by intro e he;obtain ⟨n,_,rfl⟩ := bB.1 he;rfl
theorem wV (l : List (List Int)) : (qC l).length = l.length := aY _
def yH (c : Cx) (t : Tr) (j : Nat) : List (List Int) := (t.sales.take j).map fun x => hC c t.seen x
def yQ (c : Cx) (t : Tr) (j : Nat) : List (List Int) := (t.sales.take j).map fun x => lR (jK c (hC c t.seen x))
def yJ (c : Cx) (t : Tr) (j : Nat) : List Bool := (t.sales.take j).map fun x => (oL (jK c (hC c t.seen x))).2
theorem FV (n : Nat) (l : List Sl) : ((AV.sl 0 0 n 4).rf && [AB.arr (Y6 l) 4].all AB.rf) = true := by
  rw [yW];have : AB.rf (.arr (Y6 l) 4) = true := bH.2 fun e he => by obtain ⟨i,_,rfl⟩ := bB.1 he;rfl
  rw [this];rfl
theorem ID {c : Cx} {t : Tr} {j : Nat} (h : j ≤ t.sales.length) : (yH c t j).length = j := by unfold yH;rw [aY,bC];omega
theorem KG {c : Cx} {t : Tr} {j : Nat} (h : j ≤ t.sales.length) : (yQ c t j).length = j := by unfold yQ;rw [aY,bC];omega
theorem IN {c : Cx} {t : Tr} {j : Nat} (h : j ≤ t.sales.length) : (yJ c t j).length = j := by unfold yJ;rw [aY,bC];omega
theorem RQ {c : Cx} {t : Tr} {j : Nat} (h : j < t.sales.length) : yH c t (j + 1) = yH c t j ++ [hC c t.seen t.sales[j]] := by unfold yH;rw [aP h,bO];rfl
theorem TH {c : Cx} {t : Tr} {j : Nat} (h : j < t.sales.length) : yQ c t (j + 1) = yQ c t j ++ [lR (jK c (hC c t.seen t.sales[j]))] := by unfold yQ;rw [aP h,bO];rfl
theorem RZ {c : Cx} {t : Tr} {j : Nat} (h : j < t.sales.length) : yJ c t (j + 1) = yJ c t j ++ [(oL (jK c (hC c t.seen t.sales[j]))).2] := by unfold yJ;rw [aP h,bO];rfl
theorem zE3 {c : Cx} {t : Tr} {j : Nat} (h : j < t.sales.length) : (yH c t t.sales.length)[j]? = some (hC c t.seen t.sales[j]) := by unfold yH;rw [cM,bL,aA h];rfl
theorem zJ6 {c : Cx} {t : Tr} {j : Nat} (h : j < t.sales.length) : (yQ c t t.sales.length)[j]? = some (lR (jK c (hC c t.seen t.sales[j]))) := by unfold yQ;rw [cM,bL,aA h];rfl
theorem zF8 {c : Cx} {t : Tr} {j : Nat} (h : j < t.sales.length) : (yJ c t t.sales.length)[j]? = some (oL (jK c (hC c t.seen t.sales[j]))).2 := by unfold yJ;rw [cM,bL,aA h];rfl
theorem WN {l : List (List Int)} {k : Nat} {r : List Int} (h : l[k]? = some r) : (qC l)[0 + (k : Int).toNat]? = some [.rowE (Go.Ab.ints r) 1] := by
  rw [Nat.zero_add,bM,bL,h];rfl
theorem zX9 {l : List Bool} {k : Nat} {r : Bool} (h : l[k]? = some r) : (oU l)[0 + (k : Int).toNat]? = some [.b r] := by
  rw [Nat.zero_add,bM,bL,h];rfl
theorem L3.nids {c : Cx} {l : List En} {k : Nat} {t : Tr} {x : Sd} (h : L3 c l k t) (hn : c.bs.length ≤ 6) (hx : x ∈ t.sales) : (hC c t.seen x).length ≤ 1000 := by
  obtain ⟨sb,sn,lk,ru⟩ := h.tr.sd x hx;obtain ⟨g,hg,hgm,hbg⟩ := AT (lk.gk.mid.find sb);have hwl := lk.gk.mid.wl g hgm;refine bK (fG _ _) ?_;unfold C9;rw [hg];exact bK (I2 (g := g) (i := g.1.idxOf x.s.b)) hwl
end Go.Ld
namespace Go.Proofs.YtmmmeebiobjnbaaGreat
open Go Go.Ab Go.Ld
attribute [local irreducible] VC AW cE aU iV yD
set_option maxHeartbeats 4000000
theorem zR2 (n : Nat) (hn : n ≤ 17592186043904) : aU Tryz.prog 7 [.i (n : Int)] [] (.rowE (ints (nats (List.range n))) 1) [] :=
  kE (by simp) (gE (bN _)) (yC6 n hn)
theorem yD8 {c : Cx} {l : List En} {k : Nat} {t : Tr} (hc : iU c) (hT : L3 c l k t) (hlt : k < l.length) (hb : c.bs.length ≤ 1000) (hl : l.length ≤ 1000) (hid2 : ∀ s,s ∈ pU l → s.ids.length ≤ 12) :
    ∃ (t' : Tr) (code : Int) (AH : Hp),L3 c l (k + 1) t' ∧ Ld.Later t t' ∧ aU Tryz.prog 15 [.ptr 0 0,.agg (zR5 l[k])] (HW c t) (.i code) AH ∧ ((t' = t ∧ AH = HW c t) ∨ AH = D7 c t' ∨ AH = F2 c t') := by
  obtain ⟨hsl,hll⟩ := hT.len;have hod := hT.od;refine ⟨(L0 c t l[k]).2,(L0 c t l[k]).1,_,hT.add hc hlt,TL c t l[k],yD9 c t l[k] hc hT.tr hb (fun hq => ?_) (by omega) (by omega) (by omega),?_⟩
  · have := hid2 l[k].s (bB.2 ⟨l[k],eF.2 ⟨aM hlt,by rw [hq];rfl⟩,rfl⟩)
    omega
  · rcases P4 c t l[k] with ⟨e1,e2⟩ | ⟨_,_,_,_,_,_,e2⟩ | ⟨_,_,_,_,e2⟩
    · exact .inl ⟨e1,e2⟩
    · exact .inr (.inl e2)
    · exact .inr (.inr e2)
theorem XX (ks : List KD) (ls : List LT) (ps : List Int) (bs : List BX) (m st er sl : Int) (l : List En) (hb : bs.length ≤ 17592186043904) (hids : ∀ e, e ∈ l → e.s.ids.length ≤ 9223372036854775807)
    (hf : LC l 12 4 = false ∨ aU Tryz.prog 9 [wP ks ls (nats (List.range bs.length)) bs,qA m st er sl,.i 6] [] (.b false) []) :
    aU Tryz.prog 3 [wP ks ls ps bs,qA m st er sl,.rowE (vS l) 10] [] (.b true) [] := by
  have hbl : (fP bs).length = bs.length := aY _;have hi := zR2 bs.length hb;rw [← hbl] at hi;rw [hbl] at hi;have hsm := DC;have hel := F8 l;have hfe := ZI l 12 4 (by omega) (by omega) hids
  generalize LC l 12 4 = v at *;generalize nats (List.range bs.length) = I at *;rw [← hbl] at hi;cases v
  all_goals
    first | (have hf := hf.resolve_left (by decide)) | skip
    refine bX T Tryz.func3 rfl rfl rfl rfl ?_
    (repeat' (first|refine wS ?_|(refine rg 0 (cH (cY rfl rfl) rfl (cH (cY rfl rfl) rfl (aV ?_))))|(refine rg 1 (vV (kC (hsm)) (aV ?_)))|(refine rg 2 (iP T rfl (qW T rfl (vV (kC (hi)) (fW T rfl (bA T rfl rfl rfl rfl rfl rfl (by decide) rfl ?_))))))|refine nZ ?_));refine gL 3 (cs := [.rowE (jN ks) 2,.rowE (kU ls) 3,.rowE (ints I) 1,.rowE (fP bs) 3]) rfl rfl rfl ?_
    refine gL 4 (cs := [.i m,.i st,.i er,.i sl]) rfl rfl rfl ?_
    (repeat' (first|refine wS ?_|refine wR ?_|refine wT ?_|(refine rg 3 (mW rfl (vV (kC (hfe)) (vV (eM rfl) (mV ?_))));(all_goals first|(refine gT (lW T rfl (gT (lW T rfl (gT (vV (kC (hf)) (gT (vV (eM rfl) ?_))))))))|(iterate 4 refine gF ?_));(all_goals (refine pV ?_)))|(refine rg 4 (mW rfl (aV ?_)))|refine nZ ?_));all_goals try (exfalso;omega)
    all_goals exact rQ
end Go.Proofs.YtmmmeebiobjnbaaGreat
namespace Go.Ab
open Go
section
variable {P : Program} {env : dW} {h : Hp} {d : Option Nat} {ty : TypeId} {pos : String} {af : Array Edge} {g : Option (Nat × Bool)}
theorem J5 {x : Operand} {f : FuncId} {fs cs us xs : List AV} {args : List Operand} {ats : Array TypeId} {es : List (List AV)} {len sz : Nat} (hx : evu env x = some (.clo (.func f) fs cs)) (ha : yU env args = some us)
    (hc : aU P f xs [] (.sl 0 0 len sz) [.arr es sz]) (hv : mC h (fs ++ us ++ cs) xs) (hn : len = es.length) (hr : AB.rf (.arr es sz) = true) (hi : AV.idfL es.flatten = true) :
    cE P ⟨d,.call { callee := .value x,args := args.toArray,argTypes := ats },ty,pos,af,g⟩ env h 0 (fun _ => .rowE es sz) (fun _ => []) := by
  intro ρ S a w p q hq K Q hk;have hxv := p.evu hx;simp only [R] at hxv;obtain ⟨ys,zs,e1,h1,h2⟩ := hxv;have hall : RL S w (fs ++ us ++ cs) ρ (ys.toList ++ args.map a.eval ++ zs.toList) := iE (iE h1 (sA p ha)) h2;obtain ⟨hf,hc⟩ := hc;have hargs := lH p.blk hv hall;have hS1w : ∀ b,(S b ∨ kL h ρ b) → b < w.heap.size := fun b hb => by
    rcases hb with hb | ⟨k,x,o,_,_,hb⟩
    · exact p.stab b hb
    · exact p.rng k _ hb
  have hs0 : HS (mY w (fun _ => none) (fun b => S b ∨ kL h ρ b) []) (fun _ => none) (fun b => S b ∨ kL h ρ b) [] w := ⟨fun _ _ => rfl,(fun _ _ h => by cases h),(fun k b hb => by simp at hb),(fun k b p hb => by simp at hb),(fun k _ b _ _ _ hb => by simp at hb),hS1w,nC.refl _ _,fun _ h => h,fun _ h => .inl h,aX _,(fun _ h => by simp [mY] at h),p.glob.st fun _ h => .inl h⟩
  have hcall := hc (fun _ => none) (fun b => S b ∨ kL h ρ b) w _ hs0 hargs;unfold Oper.wp;have hrun : (execOp a.eval ⟨d,.call { callee := .value x,args := args.toArray,argTypes := ats },ty,pos,af,g⟩).run P w = .ok (.enter f (ys.toList ++ args.map a.eval ++ zs.toList).toArray) w := by
    have e2 : (ys ++ (args.toArray.map a.eval) ++ zs) = (ys.toList ++ args.map a.eval ++ zs.toList).toArray := by
      apply Array.ext';simp
    simp only [execOp,resolve,e1,Deferred.ofValue,Sem.run_bind,Sem.run_pure,Result.andThen_ok,invoke];rw [e2];exact vE hf
  rw [hrun];simp only [Oper.upon];refine hcall.mono ?_;rintro e w' ⟨y,ρ',S',rfl,hs,hy⟩;simp only;have hM : ∀ b,(mY w (fun _ => none) (fun b => S b ∨ kL h ρ b) []).M b → w.heap.size ≤ b := fun b hb => by
    rcases hb with hb | ⟨k,x,o,hb,_⟩
    · exact hb
    · simp at hb
  have hext : nC (fun _ => False) w w' := hs.ext.mono fun b hb hm => by have := hM b hm;simp [mY] at hb;omega
  have hb0 : RB S w' ρ' (ρ' 0) (.arr es sz) := zS0 hr (hs.blk 0 _ rfl);have hy0 : R S w' (.sl 0 0 es.length sz) ρ' y := by
    rw [← hn];exact UT ρ' _ _ rfl hy
  have hz := FD ρ' ρ _ _ rfl (B9 hi hb0 hy0);refine hk y ρ (fun b => S b ∨ ∃ o,ρ' 0 = some (b,o)) w' ⟨hext,rfl,fun _ _ => rfl,fun _ h => .inl h,fun b hb => ?_,fun k r h1 h2 => by omega,fun k k' r r' h1 h2 => by omega,?_,fun j b hb => by simp at hb⟩
  · rcases hb with hb | ⟨o,ho⟩
    · exact .inl hb
    · exact .inr ⟨hM _ (hs.live 0 _ _ rfl (by simp) ho).1,hs.rng 0 _ ho⟩
  · exact hz
end
end Go.Ab
namespace Go.Proofs.YtmmmeebiobjnbaaGreat
open Go Go.Ab Go.Ld
attribute [local irreducible] VC AW cE aU iV yD
set_option maxHeartbeats 8000000
theorem zJ1 (c : Cx) (hc : iU c) (hn6 : c.bs.length ≤ 6) (ps : List Int) (l : List En)
    (hf : aU Tryz.prog 9 [wP c.ks c.ls (nats (List.range c.bs.length)) c.bs,qA c.m c.st c.er c.sl,.i 6] [] (.b true) [])
    (hids : ∀ e,e ∈ l → e.s.ids.length ≤ 9223372036854775807) (hfew : LC l 12 4 = true) :
    aU Tryz.prog 3 [wP c.ks c.ls ps c.bs,qA c.m c.st c.er c.sl,.rowE (vS l) 10] [] (.b true) [] := by
  have hbl : (fP c.bs).length = c.bs.length := aY _;have hi := zR2 c.bs.length (by omega)
  rw [← hbl] at hi;rw [hbl] at hi;have hsm := DC;have hel := F8 l;have hfe := ZI l 12 4 (by omega) (by omega) hids
  rw [hfew] at hfe;obtain ⟨hl16,h5,hid2⟩ := ZJ hfew;have hn := VM c hc;have hg0 := L3.new hc l;generalize nats (List.range c.bs.length) = I at *;rw [← hbl] at hi;refine bX T Tryz.func3 rfl rfl rfl rfl ?_
  (repeat' (first|refine wS ?_|(refine rg 0 (cH (cY rfl rfl) rfl (cH (cY rfl rfl) rfl (aV ?_))))|(refine rg 1 (vV (kC (hsm)) (aV ?_)))|(refine rg 2 (iP T rfl (qW T rfl (vV (kC (hi)) (fW T rfl (bA T rfl rfl rfl rfl rfl rfl (by decide) rfl ?_))))))|refine nZ ?_));refine gL 3 (cs := [.rowE (jN c.ks) 2,.rowE (kU c.ls) 3,.rowE (ints I) 1,.rowE (fP c.bs) 3]) rfl rfl rfl ?_
  refine gL 4 (cs := [.i c.m,.i c.st,.i c.er,.i c.sl]) rfl rfl rfl ?_
  (repeat' (first|refine wS ?_|refine wK ?_|refine wU ?_|(refine rg 3 (mW rfl (vV (kC (hfe)) (vV (eM rfl) (mW rfl (yO T rfl (yO T rfl (yV (kC (hf)) (yV (eM rfl) (pV ?_))))))))))|refine nZ ?_));all_goals try (exfalso;omega)
  (repeat' (first|refine wS ?_|(refine rg 5 (lW T rfl (iP T rfl (iP T rfl (iP T rfl (cH (by exact fQ rfl rfl hn (.inr ⟨rfl,rfl,by simp⟩)) rfl ?_)))));refine mW rfl (xW rfl (xW rfl (uV ?_))))|refine nZ ?_));all_goals try (exfalso;omega)
  refine nX 2 3 5 rfl rfl (by decide) ?_
  refine nX 2 4 6 rfl rfl (by decide) ?_
  refine nX 2 5 1 rfl rfl (by decide) ?_
  refine eU [(2,.rowE (vS l) 10),(7,.b true),(8,.ptr 0 0),(9,.i 0)] (HW c ⟨pT c,[],[],[]⟩) ⟨[2,3,4,5,6],rfl,(by repeat first|exact trivial|refine ⟨rfl,?_⟩),⟨.inr rfl,.inr rfl,.inr rfl,.inr rfl,.inr rfl,trivial⟩,by decide,kI _⟩ ?_
  (repeat' (first|refine wS ?_|refine wB ?_|refine wK ?_|refine wU ?_|(refine rg 6 (mW rfl (vV (fY rfl rfl) (mW rfl (yN rfl (yV (by exact xF PS rfl rfl rfl) ?_)))));refine pV ?_)|(refine rg 8 (aV ?_))|refine nZ ?_));all_goals try (exfalso;omega)
  refine dC (X := {x : Nat × Tr // x.1 ≤ l.length ∧ L3 c l x.1 x.2}) (fun x => [(2,.rowE (vS l) 10),(7,.b true),(8,.ptr 0 0),(10,.i (x.1.1 : Int))]) (fun x => HW c x.1.2) (fun x => l.length - x.1.1) ⟨(0,⟨pT c,[],[],[]⟩),bY _,hg0⟩ ⟨[0,1,2,3,4],rfl,(by repeat first|exact trivial|refine ⟨rfl,?_⟩),⟨.inr rfl,.inr rfl,.inr rfl,.inr rfl,.inr rfl,trivial⟩,by decide,kI _⟩ ?_
  rintro ⟨⟨k,t⟩,hk,hT⟩;dsimp only at hk hT ⊢;by_cases hlt : k < l.length
  · have hg := LH hlt;have hidk := hT.ids hid2;obtain ⟨hsl,hll⟩ := hT.len;have hod := hT.od;have hsw := hT.swap h5;have hsal := VI c t (by omega)
    have hadd := yD8 hc hT hlt (by omega) (by omega) hid2
    generalize l[k] = e at *
    (repeat' (first|refine wS ?_|refine wB ?_|refine wK ?_|(refine wC rfl ?_ ?_<;>(intro hb;(try simp only [nm] at hb);try (exfalso;omega)))|(refine rg 9 (dK rfl (qW T rfl (vV (aJ rfl rfl) ?_))))|refine nZ ?_));all_goals try (exfalso;omega)
    repeat' (first|refine wS ?_|(refine rg 11 (vV (dJ rfl) (nG 11 1 rfl (by decide) ?_)))|refine nZ ?_)
    repeat' (first|refine wS ?_|(refine rg 12 (vV (dJ rfl) (nG 12 1 rfl (by decide) ?_)))|refine nZ ?_)
    repeat' (first|refine wS ?_|(refine rg 13 (vV (dJ rfl) (nG 13 1 rfl (by decide) ?_)))|refine nZ ?_)
    (repeat' (first|refine wB ?_|(refine rg 14 (aV ?_))|refine nZ ?_));refine dC (X := {j : Nat // j ≤ t.sales.length}) (fun j => [(2,.rowE (vS l) 10),(7,.b true),(8,.ptr 0 0),(10,.i (k : Int)),(11,.sl 5 0 j.1 1),(12,.sl 6 0 j.1 1),(13,.sl 7 0 j.1 1),(14,.i (j.1 : Int))]) (fun j => RU c t [.arr (qC (yH c t j.1)) 1,.arr (qC (yQ c t j.1)) 1,.arr (oU (yJ c t j.1)) 1]) (fun j => t.sales.length - j.1) ⟨0,bY _⟩ ⟨[0,1,2,3,4,5,6,7],rfl,(by repeat first|exact trivial|refine ⟨rfl,?_⟩),⟨.inr rfl,.inr rfl,.inr (aC rfl rfl (eY _)),.inr (aC rfl rfl (fM _ _)),.inr (aC rfl rfl (eI _)),.inr rfl,.inr rfl,.inr rfl,trivial⟩,by decide,kI _⟩ ?_
    rintro ⟨j,hj⟩;dsimp only;have l1 := ID (c := c) hj;have l2 := KG (c := c) hj;have l3 := IN (c := c) hj;by_cases hjl : j < t.sales.length
    · have hx : t.sales[j]? = some t.sales[j] := aA hjl;have q1 := Y0 hc hT.tr hx (by omega) hidk
      have q2 := GK c t j hc hT.tr hx (by omega) hidk
      have q3 := I5 hc hT.tr hx (by omega) hidk
      have n1 := hT.nids hn6 (aM hjl);have w1 := RQ (c := c) hjl;have w2 := TH (c := c) hjl;have w3 := RZ (c := c) hjl;generalize t.sales[j] = x at *;have f1 := dA (hC c t.seen x);have f2 := dA (lR (jK c (hC c t.seen x)));have x1 : qC (yH c t (j + 1)) = qC (yH c t j) ++ [[.rowE (ints (hC c t.seen x)) 1]] := by rw [w1,qC,bO];rfl
      have x2 : qC (yQ c t (j + 1)) = qC (yQ c t j) ++ [[.rowE (ints (lR (jK c (hC c t.seen x)))) 1]] := by rw [w2,qC,bO];rfl
      have x3 : oU (yJ c t (j + 1)) = oU (yJ c t j) ++ [[.b (oL (jK c (hC c t.seen x))).2]] := by rw [w3,oU,bO];rfl
      have y1 := iX (yH c t (j + 1));have y2 := iX (yQ c t (j + 1));have y3 := eI (yJ c t (j + 1));rw [x1] at y1;rw [x2] at y2;rw [x3] at y3;have r1 := wV (yH c t j);have r2 := wV (yQ c t j);have r3 := tE (yJ c t j);generalize (oL (jK c (hC c t.seen x))).2 = sb at *;generalize (oL (jK c (hC c t.seen x))).1 = si at *;generalize lR (jK c (hC c t.seen x)) = L2 at *;generalize hC c t.seen x = L1 at *;generalize qC (yH c t j) = A1 at *;generalize qC (yQ c t j) = A2 at *;generalize oU (yJ c t j) = A3 at *
      (repeat' (first|refine wS ?_|refine wB ?_|refine wK ?_|(refine wC rfl ?_ ?_<;>(intro hb;(try simp only [nm] at hb);try (exfalso;omega)))|(refine rg 15 (dK rfl (cH (by exact fQ rfl rfl hsal (.inl ⟨.cons (kR rfl rfl rfl rfl rfl rfl rfl rfl) .nil,FV _ _⟩)) rfl ?_));refine qW T rfl (vV (aJ rfl rfl) ?_))|(refine rg 17 (dK rfl (vV (by exact eW rfl rfl q1 (.cons (kR rfl rfl rfl rfl rfl rfl rfl rfl) (.cons (.v _) .nil)) rfl rfl) ?_));refine mW rfl (xW rfl (xW rfl (uV ?_))))|(refine rg 18 (dK rfl (mW rfl (vV (by exact J5 rfl rfl q2 (.cons (kR rfl rfl rfl rfl rfl rfl rfl rfl) (.cons (.v _) .nil)) f1.symm (I1 _) (gE (bN _))) ?_)));refine cH (by exact bD T rfl rfl (by decide) (by decide) rfl rfl rfl) rfl ?_;refine fR T rfl rfl rfl rfl rfl rfl (by omega) (iY.whole rfl rfl) rfl (by simp;omega) (by simp;omega) rfl ?_;refine aV ?_)|(refine rg 19 (dK rfl (mW rfl (vV (by exact J5 rfl rfl q3 (.cons (kR rfl rfl rfl rfl rfl rfl rfl rfl) (.cons (.v _) .nil)) f2.symm (I1 _) (gE (bN _))) ?_)));refine cH (by exact bD T rfl rfl (by decide) (by decide) rfl rfl rfl) rfl ?_;refine fR T rfl rfl rfl rfl rfl rfl (by omega) (iY.whole rfl rfl) rfl (by simp;omega) (by simp;omega) rfl ?_;refine aV ?_)|(refine rg 20 (dK rfl (cH (by exact bD T rfl rfl (by decide) (by decide) rfl rfl rfl) rfl ?_));refine fR T rfl rfl rfl rfl rfl rfl (by omega) (iY.whole rfl rfl) rfl (by simp;omega) (by simp;omega) rfl ?_;refine aV ?_)|(refine iA 16 rfl rfl rfl (by omega) (by omega) ?_)|refine nZ ?_));all_goals try (exfalso;omega)
      all_goals exact ⟨⟨j + 1,hjl⟩,by dsimp only;omega,⟨[0,1,2,3,4,10,12,14],rfl,(by repeat first|exact trivial|refine ⟨rfl,?_⟩),⟨.inr rfl,.inr rfl,.inr (aC rfl rfl (eY _)),.inr (aC rfl rfl (fM _ _)),.inr (aC rfl rfl (eI _)),.inr (aC rfl (by dsimp only;rw [x1];exact iO (by omega)) (by dsimp only;rw [x1];exact y1)),.inr (aC rfl (by dsimp only;rw [x2];exact iO (by omega)) (by dsimp only;rw [x2];exact y2)),.inr (aC rfl (by dsimp only;rw [x3];exact iO (by omega)) (by dsimp only;rw [x3];exact y3)),trivial⟩,by decide,kI _⟩⟩
    obtain rfl : j = t.sales.length := by omega
    clear hg0 hf hi hfe hn hsm;apply Go.Ab.cutT (T := ∀ t' : Tr,L3 c l (k + 1) t' → Ld.Later t t' → _)
    · intro rest;have hk9 := hadd;obtain ⟨t',code,AH,hT2,hlat,hadd,hA⟩ := hk9;rcases hA with ⟨e1,e2⟩ | e2 | e2
      all_goals subst e2
      rotate_left 1
      · (repeat' (first|refine wS ?_|refine wB ?_|refine wE ?_|(refine wC rfl (fun hb => ?_) (fun hb => ?_) <;> (((try simp only [nm] at hb);try (exfalso;omega))))|(refine rg 15 (dK rfl (cH (by exact fQ rfl rfl hsal (.inl ⟨.cons (kR rfl rfl rfl rfl rfl rfl rfl rfl) .nil,FV _ _⟩)) rfl ?_));refine qW T rfl (vV (aJ rfl rfl) ?_))|(refine rg 21 (dK rfl (mW rfl (vV (ix T rfl (by omega) (C4 _) hg) (lW T rfl (eA [0,1,2,3,4] rfl rfl (hadd) rfl rfl (by decide) ⟨.inr rfl,.inr rfl,.inr (aC rfl rfl (eY _)),.inr (aC rfl rfl (fM _ _)),.inr (aC rfl rfl (eI _)),trivial⟩ (by simp) rfl ?_))))))|(refine rg 22 (aV ?_))|(refine nZ ?_)));all_goals try (exfalso;omega)
        all_goals exact eU [(2,.rowE (vS l) 10),(7,.b true),(8,.ptr 0 0),(10,.i (k : Int)),(11,.sl 5 0 t.sales.length 1),(12,.sl 6 0 t.sales.length 1),(13,.sl 7 0 t.sales.length 1),(17,.i 0)] (RU c t' [.arr (qC (yH c t t.sales.length)) 1,.arr (qC (yQ c t t.sales.length)) 1,.arr (oU (yJ c t t.sales.length)) 1]) ⟨[0,1,9,3,10,5,6,7],rfl,(by repeat first|exact trivial|refine ⟨rfl,?_⟩),⟨.inr rfl,.inr rfl,.inr (aC rfl (bE _ (eY _)) (eY _)),.inr (aC rfl (bE _ (fM _ _)) (fM _ _)),.inr (aC rfl (bE _ (eI _)) (eI _)),.inr (aC rfl rfl (iX _)),.inr (aC rfl rfl (iX _)),.inr (aC rfl rfl (eI _)),trivial⟩,by decide,kI _⟩ (rest.get t' hT2 hlat)
      · (repeat' (first|refine wS ?_|refine wB ?_|refine wE ?_|(refine wC rfl (fun hb => ?_) (fun hb => ?_) <;> (((try simp only [nm] at hb);try (exfalso;omega))))|(refine rg 15 (dK rfl (cH (by exact fQ rfl rfl hsal (.inl ⟨.cons (kR rfl rfl rfl rfl rfl rfl rfl rfl) .nil,FV _ _⟩)) rfl ?_));refine qW T rfl (vV (aJ rfl rfl) ?_))|(refine rg 21 (dK rfl (mW rfl (vV (ix T rfl (by omega) (C4 _) hg) (lW T rfl (eA [0,1,2,3,4] rfl rfl (hadd) rfl rfl (by decide) ⟨.inr rfl,.inr rfl,.inr (aC rfl rfl (eY _)),.inr (aC rfl rfl (fM _ _)),.inr (aC rfl rfl (eI _)),trivial⟩ (by simp) rfl ?_))))))|(refine rg 22 (aV ?_))|(refine nZ ?_)));all_goals try (exfalso;omega)
        all_goals exact eU [(2,.rowE (vS l) 10),(7,.b true),(8,.ptr 0 0),(10,.i (k : Int)),(11,.sl 5 0 t.sales.length 1),(12,.sl 6 0 t.sales.length 1),(13,.sl 7 0 t.sales.length 1),(17,.i 0)] (RU c t' [.arr (qC (yH c t t.sales.length)) 1,.arr (qC (yQ c t t.sales.length)) 1,.arr (oU (yJ c t t.sales.length)) 1]) ⟨[0,1,2,9,10,5,6,7],rfl,(by repeat first|exact trivial|refine ⟨rfl,?_⟩),⟨.inr rfl,.inr rfl,.inr (aC rfl (bE _ (eY _)) (eY _)),.inr (aC rfl (bE _ (fM _ _)) (fM _ _)),.inr (aC rfl (bE _ (eI _)) (eI _)),.inr (aC rfl rfl (iX _)),.inr (aC rfl rfl (iX _)),.inr (aC rfl rfl (eI _)),trivial⟩,by decide,kI _⟩ (rest.get t' hT2 hlat)
      · subst t'
        (repeat' (first|refine wS ?_|refine wB ?_|refine wE ?_|(refine wC rfl ?_ ?_<;>(intro hb;(try simp only [nm] at hb);try (exfalso;omega)))|(refine rg 15 (dK rfl (cH (by exact fQ rfl rfl hsal (.inl ⟨.cons (kR rfl rfl rfl rfl rfl rfl rfl rfl) .nil,FV _ _⟩)) rfl ?_));refine qW T rfl (vV (aJ rfl rfl) ?_))|(refine rg 21 (dK rfl (mW rfl (vV (ix T rfl (by omega) (C4 _) hg) (lW T rfl (eA [0,1,2,3,4] rfl rfl (hadd) rfl rfl (by decide) ⟨.inr rfl,.inr rfl,.inr (aC rfl rfl (eY _)),.inr (aC rfl rfl (fM _ _)),.inr (aC rfl rfl (eI _)),trivial⟩ (by simp) rfl ?_))))))|(refine rg 22 (aV ?_))|refine nZ ?_));all_goals try (exfalso;omega)
        all_goals exact eU [(2,.rowE (vS l) 10),(7,.b true),(8,.ptr 0 0),(10,.i (k : Int)),(11,.sl 5 0 t.sales.length 1),(12,.sl 6 0 t.sales.length 1),(13,.sl 7 0 t.sales.length 1),(17,.i 0)] (RU c _ [.arr (qC (yH c t t.sales.length)) 1,.arr (qC (yQ c t t.sales.length)) 1,.arr (oU (yJ c t t.sales.length)) 1]) ⟨[0,1,2,3,4,5,6,7],rfl,(by repeat first|exact trivial|refine ⟨rfl,?_⟩),⟨.inr rfl,.inr rfl,.inr (aC rfl (bE _ (eY _)) (eY _)),.inr (aC rfl (bE _ (fM _ _)) (fM _ _)),.inr (aC rfl (bE _ (eI _)) (eI _)),.inr (aC rfl rfl (iX _)),.inr (aC rfl rfl (iX _)),.inr (aC rfl rfl (eI _)),trivial⟩,by decide,kI _⟩ (rest.get _ hT2 hlat)
    intro t' hT' hL;refine dC (X := {j : Nat // j ≤ t.sales.length}) (fun j => [(2,.rowE (vS l) 10),(7,.b true),(8,.ptr 0 0),(10,.i (k : Int)),(11,.sl 5 0 t.sales.length 1),(12,.sl 6 0 t.sales.length 1),(13,.sl 7 0 t.sales.length 1),(17,.i (j.1 : Int))]) (fun j => RU c t' [.arr (qC (yH c t t.sales.length)) 1,.arr (qC (yQ c t t.sales.length)) 1,.arr (oU (yJ c t t.sales.length)) 1]) (fun j => t.sales.length - j.1) ⟨0,bY _⟩ ⟨[0,1,2,3,4,5,6,7],rfl,(by repeat first|exact trivial|refine ⟨rfl,?_⟩),⟨.inr rfl,.inr rfl,.inr (aC rfl rfl (eY _)),.inr (aC rfl rfl (fM _ _)),.inr (aC rfl rfl (eI _)),.inr (aC rfl rfl (iX _)),.inr (aC rfl rfl (iX _)),.inr (aC rfl rfl (eI _)),trivial⟩,by decide,kI _⟩ ?_
    clear l1 l2 l3 hj;rintro ⟨j,hj⟩;dsimp only;by_cases hjl : j < t.sales.length
    · have hx : t.sales[j]? = some t.sales[j] := aA hjl;have hx' := hL.get hx;have hidk' := hT'.ids hid2;obtain ⟨hsl',hll'⟩ := hT'.len;have q1 := Y0 hc hT'.tr hx' (by omega) hidk'
      have q2 := GK c t' j hc hT'.tr hx' (by omega) hidk'
      have q3 := I5 hc hT'.tr hx' (by omega) hidk'
      have n1 := hT'.nids hn6 (aL hx');have n0 := hT.nids hn6 (aM hjl);have n2 := bK (fG (fun a => !decide (a < 0)) _) (zS hT'.tr hx');have n3 := bK (fG (fun a => !decide (a < 0)) _) (zS hT.tr hx);have ne := hT'.tr.some hc hn6 (hT'.swap h5) (aL hx');have less := hL.ids (c := c) (hT.tr.sd _ (aM hjl)).n;have les2 := TG (c := c) less;have les3 := RY (c := c) less ne;have w1 := zE3 (c := c) hjl;have w2 := zJ6 (c := c) hjl;have w3 := zF8 (c := c) hjl;have g1 := ID (c := c) (aX t.sales.length);have g2 := KG (c := c) (aX t.sales.length);have g3 := IN (c := c) (aX t.sales.length);generalize t.sales[j] = x at *;change (lR (jK c (hC c t'.seen x))).length ≤ 1000 at n2;change (lR (jK c (hC c t.seen x))).length ≤ 1000 at n3;generalize yH c t t.sales.length = W1 at *;generalize yQ c t t.sales.length = W2 at *;generalize yJ c t t.sales.length = W3 at *;have i1 := WN w1;have i2 := WN w2;have i3 := zX9 w3;have c1 := wV W1;have c2 := wV W2;have c3 := tE W3;clear w1 w2 w3;generalize (oL (jK c (hC c t.seen x))).2 = so at *;generalize (oL (jK c (hC c t'.seen x))).2 = sb at *;generalize (oL (jK c (hC c t'.seen x))).1 = si at *;generalize lR (jK c (hC c t'.seen x)) = L2 at *;generalize lR (jK c (hC c t.seen x)) = O2 at *;generalize hC c t'.seen x = L1 at *;generalize hC c t.seen x = O1 at *;have f1 : (ints L1).length = L1.length := dA L1;have f2 : (ints L2).length = L2.length := dA L2;have hL0 : L1.length ≠ 0 := fun q => ne (fA.1 q)
      (repeat' (first|refine wS ?_|refine wB ?_|refine wK ?_|(refine wC rfl ?_ ?_<;>(intro hb;(try simp only [nm] at hb);try (exfalso;omega)))|(refine rg 23 (dK rfl (qW T rfl (vV (aJ rfl rfl) ?_))))|(refine rg 25 (dK rfl (vV (by exact J5 rfl rfl q2 (.cons (kR rfl rfl rfl rfl rfl rfl rfl rfl) (.cons (.v _) .nil)) f1.symm (I1 _) (gE (bN _))) ?_));refine aV ?_)|(refine rg 26 (dK rfl (vV (by exact J5 rfl rfl q3 (.cons (kR rfl rfl rfl rfl rfl rfl rfl rfl) (.cons (.v _) .nil)) f2.symm (I1 _) (gE (bN _))) ?_));refine aV ?_)|(refine rg 27 (dK rfl (vV (by exact eW rfl rfl q1 (.cons (kR rfl rfl rfl rfl rfl rfl rfl rfl) (.cons (.v _) .nil)) rfl rfl) ?_));refine mW rfl (xW rfl (xW rfl (uV ?_))))|refine nZ ?_));all_goals try (exfalso;omega)
      apply Go.Ab.cutT
      · intro rest;cases so with
        | false =>
          (repeat' (first|refine wS ?_|refine wB ?_|refine wK ?_|refine wU ?_|(refine rg 28 (mW rfl (qW T rfl (vV (gR rfl rfl (by omega)) (mW rfl (yN rfl (yN rfl (yV (by exact aO T rfl rfl rfl rfl rfl (by omega) (by omega)) ?_)))))));refine yV (by exact aN T rfl rfl (bP rfl i3) rfl) ?_;refine yM ?_;(iterate 2 refine gF ?_);refine gT (pW rfl (pV ?_)))|(refine rg 30 (aV ?_))|refine nZ ?_));all_goals try (exfalso;omega)
          all_goals exact eU [(2,.rowE (vS l) 10),(7,.b true),(8,.ptr 0 0),(10,.i (k : Int)),(11,.sl 5 0 t.sales.length 1),(12,.sl 6 0 t.sales.length 1),(13,.sl 7 0 t.sales.length 1),(17,.i (j : Int)),(18,.rowE (ints L1) 1),(19,.rowE (ints L2) 1),(22,.i 0)] (RU c t' [.arr (qC W1) 1,.arr (qC W2) 1,.arr (oU W3) 1]) ⟨[0,1,2,3,4,5,6,7],rfl,(by repeat first|exact trivial|refine ⟨rfl,?_⟩),⟨.inr rfl,.inr rfl,.inr (aC rfl rfl (eY _)),.inr (aC rfl rfl (fM _ _)),.inr (aC rfl rfl (eI _)),.inr (aC rfl rfl (iX _)),.inr (aC rfl rfl (iX _)),.inr (aC rfl rfl (eI _)),trivial⟩,by decide,kI _⟩ rest.get
        | true =>
          obtain rfl := les3 rfl
          (repeat' (first|refine wS ?_|refine wB ?_|refine wK ?_|refine wU ?_|(refine rg 28 (mW rfl (qW T rfl (vV (gR rfl rfl (by omega)) (mW rfl (yN rfl (yN rfl (yV (by exact aO T rfl rfl rfl rfl rfl (by omega) (by omega)) ?_)))))));refine yV (by exact aN T rfl rfl (bP rfl i3) rfl) ?_;refine yN rfl (yN rfl (yV (eM rfl) (gT (pW rfl (pV ?_))))))|(refine rg 30 (aV ?_))|refine nZ ?_));all_goals try (exfalso;omega)
          all_goals exact eU [(2,.rowE (vS l) 10),(7,.b true),(8,.ptr 0 0),(10,.i (k : Int)),(11,.sl 5 0 t.sales.length 1),(12,.sl 6 0 t.sales.length 1),(13,.sl 7 0 t.sales.length 1),(17,.i (j : Int)),(18,.rowE (ints L1) 1),(19,.rowE (ints L2) 1),(22,.i 0)] (RU c t' [.arr (qC W1) 1,.arr (qC W2) 1,.arr (oU W3) 1]) ⟨[0,1,2,3,4,5,6,7],rfl,(by repeat first|exact trivial|refine ⟨rfl,?_⟩),⟨.inr rfl,.inr rfl,.inr (aC rfl rfl (eY _)),.inr (aC rfl rfl (fM _ _)),.inr (aC rfl rfl (eI _)),.inr (aC rfl rfl (iX _)),.inr (aC rfl rfl (iX _)),.inr (aC rfl rfl (eI _)),trivial⟩,by decide,kI _⟩ rest.get
      refine dC (X := {n : Nat // n ≤ L1.length}) (fun n => [(2,.rowE (vS l) 10),(7,.b true),(8,.ptr 0 0),(10,.i (k : Int)),(11,.sl 5 0 t.sales.length 1),(12,.sl 6 0 t.sales.length 1),(13,.sl 7 0 t.sales.length 1),(17,.i (j : Int)),(18,.rowE (ints L1) 1),(19,.rowE (ints L2) 1),(22,.i (n.1 : Int))]) (fun _ => RU c t' [.arr (qC W1) 1,.arr (qC W2) 1,.arr (oU W3) 1]) (fun n => L1.length - n.1) ⟨0,bY _⟩ ⟨[0,1,2,3,4,5,6,7],rfl,(by repeat first|exact trivial|refine ⟨rfl,?_⟩),⟨.inr rfl,.inr rfl,.inr (aC rfl rfl (eY _)),.inr (aC rfl rfl (fM _ _)),.inr (aC rfl rfl (eI _)),.inr (aC rfl rfl (iX _)),.inr (aC rfl rfl (iX _)),.inr (aC rfl rfl (eI _)),trivial⟩,by decide,kI _⟩ ?_
      rintro ⟨n,hn⟩;dsimp only;by_cases hnl : n < L1.length
      · have v1 := kX (l := L1) (k := n) hnl;have hh := YV O1 L1[n] (by omega)
        rw [decide_eq_true (less _ (aM hnl))] at hh;generalize L1[n] = v at *
        (repeat' (first|refine wS ?_|refine wB ?_|refine wK ?_|refine wU ?_|(refine wC rfl ?_ ?_<;>(intro hb;(try simp only [nm] at hb);try (exfalso;omega)))|(refine rg 31 (dK rfl (qW T rfl (vV (aJ rfl rfl) ?_))))|(refine cO (id := 33) 162 yP5 (rM 135 10) [[],[135],[],[],rM 135 4,rM 135 5,rM 135 4,rM 135 4,[],[]] cW rfl (by decide +kernel) (dN rfl (dN rfl (dV rfl (by exact aO T rfl rfl rfl rfl rfl (by omega) (by omega)) ?_)));refine dV rfl (by exact aN T rfl rfl (bP rfl i1) rfl) ?_;refine dN rfl (dN rfl (dV rfl (ix T rfl (by omega) (eB L1) v1) (dO T rfl (dV rfl (kC (hh)) (dV rfl (eM rfl) (dE ?_)))))))|(refine iA 32 rfl rfl rfl (by omega) (by omega) ?_)|refine nZ ?_));all_goals try (exfalso;omega)
        all_goals exact ⟨⟨n + 1,hnl⟩,by dsimp only;omega,⟨[0,1,2,3,4,5,6,7],rfl,(by repeat first|exact trivial|refine ⟨rfl,?_⟩),⟨.inr rfl,.inr rfl,.inr (aC rfl rfl (eY _)),.inr (aC rfl rfl (fM _ _)),.inr (aC rfl rfl (eI _)),.inr (aC rfl rfl (iX _)),.inr (aC rfl rfl (iX _)),.inr (aC rfl rfl (eI _)),trivial⟩,by decide,kI _⟩⟩
      obtain rfl : n = L1.length := by omega
      (repeat' (first|refine wS ?_|refine wB ?_|refine wE ?_|(refine wC rfl ?_ ?_<;>(intro hb;(try simp only [nm] at hb);try (exfalso;omega)))|(refine rg 31 (dK rfl (qW T rfl (vV (aJ rfl rfl) ?_))))|(refine rg 35 (aV ?_))|refine nZ ?_));all_goals try (exfalso;omega)
      refine dC (X := {n : Nat // n ≤ L2.length}) (fun n => [(2,.rowE (vS l) 10),(7,.b true),(8,.ptr 0 0),(10,.i (k : Int)),(11,.sl 5 0 t.sales.length 1),(12,.sl 6 0 t.sales.length 1),(13,.sl 7 0 t.sales.length 1),(17,.i (j : Int)),(18,.rowE (ints L1) 1),(19,.rowE (ints L2) 1),(23,.i (n.1 : Int))]) (fun _ => RU c t' [.arr (qC W1) 1,.arr (qC W2) 1,.arr (oU W3) 1]) (fun n => L2.length - n.1) ⟨0,bY _⟩ ⟨[0,1,2,3,4,5,6,7],rfl,(by repeat first|exact trivial|refine ⟨rfl,?_⟩),⟨.inr rfl,.inr rfl,.inr (aC rfl rfl (eY _)),.inr (aC rfl rfl (fM _ _)),.inr (aC rfl rfl (eI _)),.inr (aC rfl rfl (iX _)),.inr (aC rfl rfl (iX _)),.inr (aC rfl rfl (eI _)),trivial⟩,by decide,kI _⟩ ?_
      clear hn hnl;rintro ⟨n,hn⟩;dsimp only;by_cases hnl : n < L2.length
      · have v1 := kX (l := L2) (k := n) hnl;have hh := YV O2 L2[n] (by omega)
        rw [decide_eq_true (les2 _ (aM hnl))] at hh;generalize L2[n] = v at *
        (repeat' (first|refine wS ?_|refine wB ?_|refine wK ?_|refine wU ?_|(refine wC rfl ?_ ?_<;>(intro hb;(try simp only [nm] at hb);try (exfalso;omega)))|(refine rg 36 (dK rfl (qW T rfl (vV (aJ rfl rfl) ?_))))|(refine cO (id := 38) 162 yP5 (rM 151 10) [[],[151],[],[],rM 151 4,rM 151 5,rM 151 4,rM 151 4,[],[]] cW rfl (by decide +kernel) (dN rfl (dN rfl (dV rfl (by exact aO T rfl rfl rfl rfl rfl (by omega) (by omega)) ?_)));refine dV rfl (by exact aN T rfl rfl (bP rfl i2) rfl) ?_;refine dN rfl (dN rfl (dV rfl (ix T rfl (by omega) (eB L2) v1) (dO T rfl (dV rfl (kC (hh)) (dV rfl (eM rfl) (dE ?_)))))))|(refine iA 37 rfl rfl rfl (by omega) (by omega) ?_)|refine nZ ?_));all_goals try (exfalso;omega)
        all_goals exact ⟨⟨n + 1,hnl⟩,by dsimp only;omega,⟨[0,1,2,3,4,5,6,7],rfl,(by repeat first|exact trivial|refine ⟨rfl,?_⟩),⟨.inr rfl,.inr rfl,.inr (aC rfl rfl (eY _)),.inr (aC rfl rfl (fM _ _)),.inr (aC rfl rfl (eI _)),.inr (aC rfl rfl (iX _)),.inr (aC rfl rfl (iX _)),.inr (aC rfl rfl (eI _)),trivial⟩,by decide,kI _⟩⟩
      (repeat' (first|refine wS ?_|refine wE ?_|(refine wC rfl ?_ ?_<;>(intro hb;(try simp only [nm] at hb);try (exfalso;omega)))|(refine rg 36 (dK rfl (qW T rfl (vV (aJ rfl rfl) ?_))))|(refine iA 24 rfl rfl rfl (by omega) (by omega) ?_)|refine nZ ?_));all_goals try (exfalso;omega)
      all_goals exact ⟨⟨j + 1,hjl⟩,by dsimp only;omega,⟨[0,1,2,3,4,5,6,7],rfl,(by repeat first|exact trivial|refine ⟨rfl,?_⟩),⟨.inr rfl,.inr rfl,.inr (aC rfl rfl (eY _)),.inr (aC rfl rfl (fM _ _)),.inr (aC rfl rfl (eI _)),.inr (aC rfl rfl (iX _)),.inr (aC rfl rfl (iX _)),.inr (aC rfl rfl (eI _)),trivial⟩,by decide,kI _⟩⟩
    (repeat' (first|refine wS ?_|refine wE ?_|(refine wC rfl ?_ ?_<;>(intro hb;(try simp only [nm] at hb);try (exfalso;omega)))|(refine rg 23 (dK rfl (qW T rfl (vV (aJ rfl rfl) ?_))))|(refine iA 10 rfl rfl rfl (by omega) (by omega) ?_)|refine nZ ?_));all_goals try (exfalso;omega)
    all_goals exact ⟨⟨(k + 1,t'),hlt,hT'⟩,by dsimp only;omega,⟨[0,1,2,3,4],rfl,(by repeat first|exact trivial|refine ⟨rfl,?_⟩),⟨.inr rfl,.inr rfl,.inr (aC rfl rfl (eY _)),.inr (aC rfl rfl (fM _ _)),.inr (aC rfl rfl (eI _)),trivial⟩,by decide,kI _⟩⟩
  · (repeat' (first|refine wS ?_|refine wR ?_|refine wE ?_|(refine wC rfl (fun hb => ?_) (fun hb => ?_) <;> (((try simp only [nm] at hb);try (exfalso;omega))))|(refine rg 9 (dK rfl (qW T rfl (vV (aJ rfl rfl) ?_))))|(refine rg 40 (mW rfl (aV ?_)))|(refine nZ ?_)));all_goals try (exfalso;omega)
    all_goals exact rQ
end Go.Proofs.YtmmmeebiobjnbaaGreat
namespace Go.Proofs.YtmmmeebiobjnbaaGreat
open Go Go.Ab Go.Ld
attribute [local irreducible] VC AW cE aU iV
set_option maxHeartbeats 4000000
end Go.Proofs.YtmmmeebiobjnbaaGreat
namespace Go.Ab
open Go
def Y7 (P : Program) (t : TypeId) (i o : Nat) (e : TypeId) : Bool := match P.underlying t with
  | some (.struct fs) => (match fs[i]? with
    | some f => f.offset == o && P.cellsOf f.type == 1 && (match P.underlying f.type with
      | some (.slice e') => e' == e
      | _ => false)
    | none => false)
  | _ => false
theorem HN {S : Nat → Prop} {w : World} {ρ : Pl} {x : AV} : ∀ {k : Nat} {us : List AV} {ys : List Value}, RL S w us ρ ys → us[k]? = some x → ∃ y, ys[k]? = some y ∧ R S w x ρ y
  | _,[],_,_,h => by simp at h
  | 0,u :: us,ys,hr,h => by
    simp only [RL] at hr;obtain ⟨y,zs,h1,h2,h3⟩ := hr;obtain rfl : u = x := by simpa using h
    first
      | (subst h1;exact ⟨y,rfl,h2⟩)
      | (subst h2;exact ⟨y,rfl,h1⟩)
      | (subst h3;exact ⟨y,rfl,h1⟩)
  | k + 1,u :: us,ys,hr,h => by
    simp only [RL] at hr;obtain ⟨y,zs,h1,h2,h3⟩ := hr;have h' : us[k]? = some x := by simpa using h
    first
      | (subst h1;exact HN (k := k) h3 h')
      | (subst h3;exact HN (k := k) h2 h')
theorem NQ {P : Program} {H : Type} {enc : TypeId × Value → H} {ts : List TypeId} {ds : List (DataW H)} {j : Nat} {t e : TypeId} {d : DataW H} {W : World} {v : Value} {p : List MemPlace} {S : Nat → Prop} {ρ : Pl} {us : List AV} {cs : List AV} {len sz i o : Nat}
    (hw : (DataW.weightsEach P ts ds).all (· ≤ reachBytes) = true) (hts : ts[j]? = some t) (hds : ds[j]? = some d) (hf : Y7 P t i o e = true) (hv : DataW.Trod enc P W 0 (fun _ => true) true t v d p) (hr : R S W (.agg us) ρ v) (hu : us[o]? = some (.row cs len sz)) : len * P.bytesOf e ≤ 140737488351232 := by
  simp only [R] at hr;obtain ⟨ys,rfl,hl⟩ := hr;obtain ⟨y,hy,hry⟩ := HN hl hu;simp only [R] at hry;obtain ⟨a,cap,rfl,_⟩ := hry;unfold Y7 at hf;split at hf
  · rename_i fs ht;split at hf
    · rename_i f hfi;simp only [aK,beq_iff_eq] at hf;obtain ⟨⟨h1,h2⟩,h3⟩ := hf;split at h3
      · rename_i e' hs;have h3 : e' = e := by simpa using h3
        subst h3;obtain ⟨fuel,hft⟩ := hv;have hc : (Value.agg ys).cells.toList = ys.toList := rfl;rw [hc] at hft;obtain ⟨xs,n,rfl,hx,_,hxl,hx2⟩ := DataW.trod_struct ht hft;have hx3 := hx2 i f hfi
        rw [h1,h2,show (ys.toList.drop o).take 1 = [.slice a len cap] by
          rw [List.take_one,List.head?_drop,hy];rfl] at hx3
        have hil : i < xs.length := by rw [hxl];exact (aQ.1 hfi).1
        rw [aA hil] at hx3;simp only [Prod.mk.injEq] at hx;rcases DataW.trod_slice hs hx3 with ⟨q1,_⟩ | ⟨a',len',cap',elems,rest,n',_,q2,q3,_,_,_,q4,_⟩
        · simp only [List.cons.injEq,Value.slice.injEq] at q1;rw [q1.1.2.1];simp
        · simp only [List.cons.injEq,Value.slice.injEq] at q2;rw [q2.1.2.1];have hmem : (elems.length + rest.length) * P.bytesOf e' ∈ d.weights P t := by
            rw [hx.1];unfold DataW.weights;rw [ht];refine DataW.weights_mem_each (j := i) (t := f.type) (d := xs[i].1) ?_ ?_ _ ?_
            · rw [bL,jL,hfi];rfl
            · rw [bL,aA hil];rfl
            · rw [q3];simp only [DataW.weights,hs,aY];exact aS
          have h5 := bH.1 hw _ (DataW.weights_mem_each hts hds _ hmem);have hrb : reachBytes = 140737488351232 := by decide
          simp only [decide_eq_true_eq,hrb,eE] at h5;rw [← q4];omega
      · cases h3
    · cases hf
  · cases hf
end Go.Ab
namespace Go.Proofs.YtmmmeebiobjnbaaGreat
open Go Go.Ab Go.Ld
attribute [local irreducible] VC AW cE aU
def T1 (n : Int) : Prop := (Lit.int .i64 n).wf = true
theorem qE : gW Tryz.prog 3 T1 (fun n => [AV.i n]) := gW.int Tryz.underlying3 (by kernel_rfl)
theorem XO : gW Tryz.prog 4 (fun _ => True) (fun b => [AV.b b]) := gW.bool Tryz.underlying4 (by kernel_rfl)
theorem XL : gW Tryz.prog 9 (fun s => s.size ≤ maxLen) (fun s => [.v (.string s)]) := gW.string Tryz.underlying9 (by kernel_rfl)
theorem XN : gW Tryz.prog 24 (fun l : List Int => l.length ≤ maxLen ∧ ∀ a,a ∈ l → T1 a) (fun l => [.rowE (ints l) 1]) :=
  gW.slice Tryz.underlying24 (by kernel_rfl) (by kernel_rfl) (by decide) qE
theorem zU3 : gW Tryz.prog 96 (fun p : KD => p.1.size ≤ maxLen ∧ T1 p.2) (fun p => [AV.v (.string p.1),AV.i p.2]) :=
  gW.struct (fs := [(9, 0), (3, 1)]) (by kernel_rfl) (by kernel_rfl)
    (fun e W fuel css hl hx => by
      obtain ⟨a,h1,h2,h3⟩ := gH.cons XL (gH.cons qE gH.nil) e W fuel css hl hx
      exact ⟨(a.1,a.2.1),⟨h1.1,h1.2.1⟩,by simpa using h2,by simpa using h3⟩)
    (fun _ => by kernel_rfl)
theorem yB5 : gW Tryz.prog 79 (fun p : LT => T1 p.1 ∧ T1 p.2.1) (fun p => [AV.i p.1,AV.i p.2.1,AV.b p.2.2]) :=
  gW.struct (fs := [(3, 0), (3, 1), (4, 2)]) (by kernel_rfl) (by kernel_rfl)
    (fun e W fuel css hl hx => by
      obtain ⟨a,h1,h2,h3⟩ := gH.cons qE (gH.cons qE (gH.cons XO gH.nil)) e W fuel css hl hx
      exact ⟨(a.1,a.2.1,a.2.2.1),⟨h1.1,h1.2.1⟩,by simpa using h2,by simpa using h3⟩)
    (fun _ => by kernel_rfl)
theorem yB6 : gW Tryz.prog 61 (fun p : BX => T1 p.1 ∧ T1 p.2.1 ∧ T1 p.2.2) (fun p => [AV.i p.1,AV.i p.2.1,AV.i p.2.2]) :=
  gW.struct (fs := [(3, 0), (3, 1), (3, 2)]) (by kernel_rfl) (by kernel_rfl)
    (fun e W fuel css hl hx => by
      obtain ⟨a,h1,h2,h3⟩ := gH.cons qE (gH.cons qE (gH.cons qE gH.nil)) e W fuel css hl hx
      exact ⟨(a.1,a.2.1,a.2.2.1),⟨h1.1,h1.2.1,h1.2.2.1⟩,by simpa using h2,by simpa using h3⟩)
    (fun _ => by kernel_rfl)
theorem zI6 : gW Tryz.prog 22 (fun l : List KD => l.length ≤ maxLen ∧ ∀ a,a ∈ l → a.1.size ≤ maxLen ∧ T1 a.2) (fun l => [.rowE (jN l) 2]) :=
  gW.slice Tryz.underlying22 (by kernel_rfl) (by kernel_rfl) (by decide) zU3
theorem zU2 : gW Tryz.prog 23 (fun l : List LT => l.length ≤ maxLen ∧ ∀ a,a ∈ l → T1 a.1 ∧ T1 a.2.1) (fun l => [.rowE (kU l) 3]) :=
  gW.slice Tryz.underlying23 (by kernel_rfl) (by kernel_rfl) (by decide) yB5
theorem zI8 : gW Tryz.prog 25 (fun l : List BX => l.length ≤ maxLen ∧ ∀ a,a ∈ l → T1 a.1 ∧ T1 a.2.1 ∧ T1 a.2.2) (fun l => [.rowE (fP l) 3]) :=
  gW.slice Tryz.underlying25 (by kernel_rfl) (by kernel_rfl) (by decide) yB6
theorem zI4 : gW Tryz.prog 27 (fun _ : List KD × List LT × List Int × List BX => True) (fun x => [.rowE (jN x.1) 2,.rowE (kU x.2.1) 3,.rowE (ints x.2.2.1) 1,.rowE (fP x.2.2.2) 3]) :=
  gW.struct (fs := [(22, 0), (23, 1), (24, 2), (25, 3)]) (by kernel_rfl) (by kernel_rfl)
    (fun e W fuel css hl hx => by
      obtain ⟨a,h1,h2,h3⟩ := gH.cons zI6 (gH.cons zU2 (gH.cons XN (gH.cons zI8 gH.nil))) e W fuel css hl hx
      exact ⟨(a.1,a.2.1,a.2.2.1,a.2.2.2.1),trivial,by simpa using h2,by simpa using h3⟩)
    (fun _ => by kernel_rfl)
theorem XM : gW Tryz.prog 29 (fun p : Int × Int × Int × Int => T1 p.1 ∧ T1 p.2.1 ∧ T1 p.2.2.1 ∧ T1 p.2.2.2) (fun p => [AV.i p.1,AV.i p.2.1,AV.i p.2.2.1,AV.i p.2.2.2]) :=
  gW.struct (fs := [(3, 0), (3, 1), (3, 2), (3, 3)]) (by kernel_rfl) (by kernel_rfl)
    (fun e W fuel css hl hx => by
      obtain ⟨a,h1,h2,h3⟩ := gH.cons qE (gH.cons qE (gH.cons qE (gH.cons qE gH.nil))) e W fuel css hl hx
      exact ⟨(a.1,a.2.1,a.2.2.1,a.2.2.2.1),⟨h1.1,h1.2.1,h1.2.2.1,h1.2.2.2.1⟩,by simpa using h2,by simpa using h3⟩)
    (fun _ => by kernel_rfl)
theorem zI5 : gW Tryz.prog 47 (fun p : Int × Int × Int × Int × List Int => p.2.2.2.2.length ≤ maxLen) (fun p => [AV.i p.1,AV.i p.2.1,AV.i p.2.2.1,AV.i p.2.2.2.1,.rowE (ints p.2.2.2.2) 1]) :=
  gW.struct (fs := [(3, 0), (3, 1), (3, 2), (3, 3), (24, 4)]) (by kernel_rfl) (by kernel_rfl)
    (fun e W fuel css hl hx => by
      obtain ⟨a,h1,h2,h3⟩ := gH.cons qE (gH.cons qE (gH.cons qE (gH.cons qE (gH.cons XN gH.nil)))) e W fuel css hl hx
      exact ⟨(a.1,a.2.1,a.2.2.1,a.2.2.2.1,a.2.2.2.2.1),h1.2.2.2.2.1.1,by simpa using h2,by simpa using h3⟩)
    (fun _ => by kernel_rfl)
abbrev yJ9 (x : List KD × List LT × List Int × List BX) (c : Int × Int × Int × Int) : Cx := ⟨c.1,c.2.1,c.2.2.1,c.2.2.2,x.1,x.2.1,x.2.2.2⟩
end Go.Proofs.YtmmmeebiobjnbaaGreat
namespace Go.Proofs.YtmmmeebiobjnbaaGreat
open Go Go.Ab Go.Ld
attribute [local irreducible] VC AW cE aU iV yD
abbrev zZ7 := Bool × (Int × Int × Int × Int × List Int) × (Int × Int × Int × Int)
theorem zU1 : gW Tryz.prog 49 (fun _ : Int × Int × Int × Int => True) (fun p => [AV.i p.1,AV.i p.2.1,AV.i p.2.2.1,AV.i p.2.2.2]) :=
  gW.struct (fs := [(3, 0), (3, 1), (3, 2), (3, 3)]) (by kernel_rfl) (by kernel_rfl)
    (fun e W fuel css hl hx => by
      obtain ⟨a,h1,h2,h3⟩ := gH.cons qE (gH.cons qE (gH.cons qE (gH.cons qE gH.nil))) e W fuel css hl hx
      exact ⟨(a.1,a.2.1,a.2.2.1,a.2.2.2.1),trivial,by simpa using h2,by simpa using h3⟩)
    (fun _ => by kernel_rfl)
theorem zI7 : gW Tryz.prog 51 (fun p : zZ7 => p.2.1.2.2.2.2.length ≤ maxLen) (fun p => [AV.b p.1,AV.i p.2.1.1,AV.i p.2.1.2.1,AV.i p.2.1.2.2.1,AV.i p.2.1.2.2.2.1,.rowE (ints p.2.1.2.2.2.2) 1,AV.i p.2.2.1,AV.i p.2.2.2.1,AV.i p.2.2.2.2.1,AV.i p.2.2.2.2.2]) :=
  gW.struct (fs := [(4, 0), (47, 1), (49, 6)]) (by kernel_rfl) (by kernel_rfl)
    (fun e W fuel css hl hx => by
      obtain ⟨a,h1,h2,h3⟩ := gH.cons XO (gH.cons zI5 (gH.cons zU1 gH.nil)) e W fuel css hl hx
      exact ⟨(a.1,a.2.1,a.2.2.1),h1.2.1,by simpa using h2,by simpa using h3⟩)
    (fun _ => by kernel_rfl)
theorem SX : gW Tryz.prog 30 (fun l : List zZ7 => l.length ≤ maxLen ∧ ∀ p,p ∈ l → p.2.1.2.2.2.2.length ≤ maxLen) (fun l => [.rowE (l.map fun p => [AV.b p.1,AV.i p.2.1.1,AV.i p.2.1.2.1,AV.i p.2.1.2.2.1,AV.i p.2.1.2.2.2.1,.rowE (ints p.2.1.2.2.2.2) 1,AV.i p.2.2.1,AV.i p.2.2.2.1,AV.i p.2.2.2.2.1,AV.i p.2.2.2.2.2]) 10]) :=
  gW.slice Tryz.underlying30 (by kernel_rfl) (by kernel_rfl) (by decide) zI7
abbrev yG4 (p : zZ7) : En := ⟨p.1,⟨p.2.1.1,p.2.1.2.1,p.2.1.2.2.1,p.2.1.2.2.2.1,p.2.1.2.2.2.2⟩,⟨p.2.2.1,p.2.2.2.1,p.2.2.2.2.1,p.2.2.2.2.2⟩⟩
theorem zX0 (l : List zZ7) : (l.map fun p => [AV.b p.1,AV.i p.2.1.1,AV.i p.2.1.2.1,AV.i p.2.1.2.2.1,AV.i p.2.1.2.2.2.1,.rowE (ints p.2.1.2.2.2.2) 1,AV.i p.2.2.1,AV.i p.2.2.2.1,AV.i p.2.2.2.2.1,AV.i p.2.2.2.2.2]) = vS (l.map yG4) := by
  unfold vS;rw [CP];rfl
theorem zN6 {l : List zZ7} (h : ∀ p,p ∈ l → p.2.1.2.2.2.2.length ≤ maxLen) : ∀ e,e ∈ l.map yG4 → e.s.ids.length ≤ 9223372036854775807 := by
  intro s hs;obtain ⟨p,hp,rfl⟩ := bB.1 hs;exact bK (h p hp) (by decide)
theorem zJ2 (x : List KD × List LT × List Int × List BX) (_ : True) (hx : x.2.2.2.length * 24 ≤ 140737488351232) (c : Int × Int × Int × Int) (_ : T1 c.1 ∧ T1 c.2.1 ∧ T1 c.2.2.1 ∧ T1 c.2.2.2) (l : List zZ7) (hl : l.length ≤ maxLen ∧ ∀ p,p ∈ l → p.2.1.2.2.2.2.length ≤ maxLen) :
    aU Tryz.prog 3 [wP x.1 x.2.1 x.2.2.1 x.2.2.2,qA c.1 c.2.1 c.2.2.1 c.2.2.2,.rowE (l.map fun p => [AV.b p.1,AV.i p.2.1.1,AV.i p.2.1.2.1,AV.i p.2.1.2.2.1,AV.i p.2.1.2.2.2.1,.rowE (ints p.2.1.2.2.2.2) 1,AV.i p.2.2.1,AV.i p.2.2.2.1,AV.i p.2.2.2.2.1,AV.i p.2.2.2.2.2]) 10] [] (.b true) [] := by
  rw [zX0];have hids := zN6 hl.2;generalize l.map yG4 = l at *;rcases zN0 6 (by omega) x.1 x.2.1 (Go.Ab.nats (List.range x.2.2.2.length)) x.2.2.2 c.1 c.2.1 c.2.2.1 c.2.2.2 with hf | ⟨hf,f,hs,t,h6⟩
  · exact XX _ _ _ _ _ _ _ _ l (by omega) hids (.inr hf)
  · cases h : LC l 12 4 with
    | false => exact XX _ _ _ _ _ _ _ _ l (by omega) hids (.inl h)
    | true => exact zJ1 (yJ9 x c) ⟨f,hs⟩ (by simpa using h6) _ l hf hids h
end Go.Proofs.YtmmmeebiobjnbaaGreat
