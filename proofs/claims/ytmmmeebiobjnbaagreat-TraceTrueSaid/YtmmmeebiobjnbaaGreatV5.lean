/-
  Texts of the logic and of the layer,in one module (part 5).
-/
import Derived.Test.YtmmmeebiobjnbaaGreatV4
set_option linter.unusedVariables false
set_option linter.unusedSimpArgs false
set_option linter.unnecessarySimpa false
namespace Go.Ab
open Go
section
variable {P : Program}
theorem G7 {f : FuncId} {args : List AV} {e1 e2 : List (List AV)} {l1 l2 s1 s2 : Nat} {u : AV} (hn1 : l1 = e1.length) (hn2 : l2 = e2.length) (hi1 : AV.idfL e1.flatten = true) (hi2 : AV.idfL e2.flatten = true) (hu : u.idf = true)
    (h : aS P f args [] (.tup [.sl 0 0 l1 s1,.sl 1 0 l2 s2,u]) [.arr e1 s1,.arr e2 s2]) : aS P f args [] (.tup [.rowE e1 s1,.rowE e2 s2,u]) [] := by
  refine ⟨h.1,fun ρ S w vs hs ha => (h.2 ρ S w vs hs ha).mono ?_⟩;rintro e w' ⟨y,ρ',S',rfl,h2,h3⟩;rw [hn1,hn2] at h3;have f1 := h2.freeze (k := 0) rfl;have f2 := f1.freeze (k := 1) rfl;refine ⟨y,_,_,rfl,f2.none rfl,?_⟩;simp only [R] at h3 ⊢;obtain ⟨ys,rfl,h7⟩ := h3;refine ⟨ys,rfl,?_⟩;simp only [RL] at h7 ⊢;obtain ⟨z1,q1,h5,g1,z2,q2,rfl,g2,z3,q3,rfl,g3,rfl⟩ := h7;refine ⟨z1,_,h5,?_,z2,_,rfl,?_,z3,_,rfl,?_,rfl⟩
  · exact HG (fun _ h => .inl h) (L0 ρ' _ _ _ rfl (uH hi1 (h2.blk 0 _ rfl) g1))
  · exact L0 ρ' _ _ _ rfl (uH hi2 (f1.blk 1 _ rfl) (HG (fun _ h => .inl h) g2))
  · exact HG (fun _ h => .inl (.inl h)) (L0 ρ' _ _ _ hu g3)
end
end Go.Ab
namespace Go.Proofs.YtmmmeebiobjnbaaGreat
open Go Go.Ab
attribute [local irreducible] VC AW cF aS
set_option maxHeartbeats 4000000
theorem lA {θ : Nat → Nat} {f : Fn} {caps : List AV} (hi : AV.idfL caps = true) : (AV.clo f [] caps).map θ = .clo f [] caps := by
  show AV.clo f (AV.mapL θ []) (AV.mapL θ caps) = _;rw [rS θ caps hi];rfl
theorem YD {w : List KD} {F : FuncId} {caps : List AV} (hl : w.length ≤ 1000) (hi : AV.idfL caps = true) (hF : ∀ x,x ∈ w → aS Tryz.prog F (.agg [AV.v (.string x.1),AV.i x.2] :: caps) [] (.b false) []) :
    aS Tryz.prog 108 [.rowE (gN w) 2,.clo (.func F) [] caps] [] (.i (-1)) [] := by
  have hlen : (gN w).length = w.length := by simp
  refine bW T Tryz.func108 rfl rfl rfl rfl ?_
  (repeat' (first|refine wS ?_|refine wB ?_|(refine rg 0 (aV ?_))|(refine rg 1 (mW rfl (qW T rfl (mV ?_))))|refine nZ ?_));refine dQ (X := {k : Nat // k ≤ w.length}) (fun k => [(0,.rowE (gN w) 2),(1,.clo (.func F) [] caps),(7,.i (gN w).length),(8,.i k.1)]) (fun _ => []) (fun k => w.length - k.1) ⟨0,by simp⟩ ⟨[],rfl,⟨rfl,by rw [lA hi];rfl,rfl,rfl,trivial⟩,trivial,eQ,fun _ h => absurd h (eI _)⟩ ?_
  rintro ⟨k,hk⟩;dsimp only;by_cases hlt : k < w.length
  · have hc := hF w[k] (aQ hlt);have hg := B4 (l := w) hlt;generalize w[k] = y at *
    (repeat' (first|refine wS ?_|refine wB ?_|refine wK ?_|refine wU ?_|(refine wC rfl ?_ ?_<;>(intro hb;(try simp only [nm] at hb);try (exfalso;omega)))|(refine rg 2 (vV (aM rfl rfl) ?_))|(refine rg 3 (mW rfl (aV ?_)))|(refine rg 4 (dH rfl (mW rfl (vV (ix T rfl (by omega) (vQ w) hg) (lW T rfl (vV (by exact fE rfl rfl hc rfl (by simp [AV.idfL,AV.idf,hi]) rfl) ?_))))))|(refine rg 6 (vV (cC rfl rfl (by omega) (by omega)) (mV ?_)))|refine nZ ?_));all_goals first | (exfalso;omega) | exact ⟨⟨k + 1,hlt⟩,by dsimp only;omega,⟨[],rfl,⟨rfl,by rw [lA hi];rfl,rfl,rfl,trivial⟩,trivial,eQ,fun _ h => absurd h (eI _)⟩⟩
  · (repeat' (first|refine wS ?_|refine wR ?_|refine wE ?_|(refine wC rfl (fun hb => ?_) (fun hb => ?_) <;> (((try simp only [nm] at hb);try (exfalso;omega))))|(refine rg 2 (vV (aM rfl rfl) ?_))|(refine rg 7 (aV ?_))|(refine nZ ?_)));all_goals first | (exfalso;omega) | exact rQ
theorem zU5 {w : List KD} {F : FuncId} {caps : List AV} (hl : w.length ≤ 1000) (hi : AV.idfL caps = true) (hF : ∀ x,x ∈ w → aS Tryz.prog F (.agg [AV.v (.string x.1),AV.i x.2] :: caps) [] (.b false) []) :
    aS Tryz.prog 72 [.rowE (gN w) 2,.clo (.func F) [] caps] [] (.b false) [] := by
  have hc := YD hl hi hF;refine bW T Tryz.func72 rfl rfl rfl rfl ?_
  (repeat' (first|refine wS ?_|refine wR ?_|(refine rg 0 (aV ?_))|(refine rg 1 (dH rfl (vV (by exact fE rfl rfl hc rfl (by simp [AV.idfL,AV.idf,hi]) rfl) ?_));refine vV (gO rfl rfl) (aV ?_))|refine nZ ?_));all_goals first | (exfalso;omega) | exact rQ
theorem YC {w : List LT} {F : FuncId} {caps : List AV} (hl : w.length ≤ 1000) (hi : AV.idfL caps = true) (hF : ∀ x,x ∈ w → aS Tryz.prog F (.agg [AV.i x.1,AV.i x.2.1,AV.b x.2.2] :: caps) [] (.b false) []) :
    aS Tryz.prog 109 [.rowE (iS w) 3,.clo (.func F) [] caps] [] (.i (-1)) [] := by
  have hlen : (iS w).length = w.length := by simp
  refine bW T Tryz.func109 rfl rfl rfl rfl ?_
  (repeat' (first|refine wS ?_|refine wB ?_|(refine rg 0 (aV ?_))|(refine rg 1 (mW rfl (qW T rfl (mV ?_))))|refine nZ ?_));refine dQ (X := {k : Nat // k ≤ w.length}) (fun k => [(0,.rowE (iS w) 3),(1,.clo (.func F) [] caps),(7,.i (iS w).length),(8,.i k.1)]) (fun _ => []) (fun k => w.length - k.1) ⟨0,by simp⟩ ⟨[],rfl,⟨rfl,by rw [lA hi];rfl,rfl,rfl,trivial⟩,trivial,eQ,fun _ h => absurd h (eI _)⟩ ?_
  rintro ⟨k,hk⟩;dsimp only;by_cases hlt : k < w.length
  · have hc := hF w[k] (aQ hlt);have hg := I8 (l := w) hlt;generalize w[k] = y at *
    (repeat' (first|refine wS ?_|refine wB ?_|refine wK ?_|refine wU ?_|(refine wC rfl ?_ ?_<;>(intro hb;(try simp only [nm] at hb);try (exfalso;omega)))|(refine rg 2 (vV (aM rfl rfl) ?_))|(refine rg 3 (mW rfl (aV ?_)))|(refine rg 4 (dH rfl (mW rfl (vV (ix T rfl (by omega) (zH w) hg) (lW T rfl (vV (by exact fE rfl rfl hc rfl (by simp [AV.idfL,AV.idf,hi]) rfl) ?_))))))|(refine rg 6 (vV (cC rfl rfl (by omega) (by omega)) (mV ?_)))|refine nZ ?_));all_goals first | (exfalso;omega) | exact ⟨⟨k + 1,hlt⟩,by dsimp only;omega,⟨[],rfl,⟨rfl,by rw [lA hi];rfl,rfl,rfl,trivial⟩,trivial,eQ,fun _ h => absurd h (eI _)⟩⟩
  · (repeat' (first|refine wS ?_|refine wR ?_|refine wE ?_|(refine wC rfl (fun hb => ?_) (fun hb => ?_) <;> (((try simp only [nm] at hb);try (exfalso;omega))))|(refine rg 2 (vV (aM rfl rfl) ?_))|(refine rg 7 (aV ?_))|(refine nZ ?_)));all_goals first | (exfalso;omega) | exact rQ
theorem zU4 {w : List LT} {F : FuncId} {caps : List AV} (hl : w.length ≤ 1000) (hi : AV.idfL caps = true) (hF : ∀ x,x ∈ w → aS Tryz.prog F (.agg [AV.i x.1,AV.i x.2.1,AV.b x.2.2] :: caps) [] (.b false) []) :
    aS Tryz.prog 74 [.rowE (iS w) 3,.clo (.func F) [] caps] [] (.b false) [] := by
  have hc := YC hl hi hF;refine bW T Tryz.func74 rfl rfl rfl rfl ?_
  (repeat' (first|refine wS ?_|refine wR ?_|(refine rg 0 (aV ?_))|(refine rg 1 (dH rfl (vV (by exact fE rfl rfl hc rfl (by simp [AV.idfL,AV.idf,hi]) rfl) ?_));refine vV (gO rfl rfl) (aV ?_))|refine nZ ?_));all_goals first | (exfalso;omega) | exact rQ
theorem YE {w : List BX} {F : FuncId} {caps : List AV} (hl : w.length ≤ 1000) (hi : AV.idfL caps = true) (hF : ∀ x,x ∈ w → aS Tryz.prog F (.agg [AV.i x.1,AV.i x.2.1,AV.i x.2.2] :: caps) [] (.b false) []) :
    aS Tryz.prog 110 [.rowE (dR w) 3,.clo (.func F) [] caps] [] (.i (-1)) [] := by
  have hlen : (dR w).length = w.length := by simp
  refine bW T Tryz.func110 rfl rfl rfl rfl ?_
  (repeat' (first|refine wS ?_|refine wB ?_|(refine rg 0 (aV ?_))|(refine rg 1 (mW rfl (qW T rfl (mV ?_))))|refine nZ ?_));refine dQ (X := {k : Nat // k ≤ w.length}) (fun k => [(0,.rowE (dR w) 3),(1,.clo (.func F) [] caps),(7,.i (dR w).length),(8,.i k.1)]) (fun _ => []) (fun k => w.length - k.1) ⟨0,by simp⟩ ⟨[],rfl,⟨rfl,by rw [lA hi];rfl,rfl,rfl,trivial⟩,trivial,eQ,fun _ h => absurd h (eI _)⟩ ?_
  rintro ⟨k,hk⟩;dsimp only;by_cases hlt : k < w.length
  · have hc := hF w[k] (aQ hlt);have hg := EN (l := w) hlt;generalize w[k] = y at *
    (repeat' (first|refine wS ?_|refine wB ?_|refine wK ?_|refine wU ?_|(refine wC rfl ?_ ?_<;>(intro hb;(try simp only [nm] at hb);try (exfalso;omega)))|(refine rg 2 (vV (aM rfl rfl) ?_))|(refine rg 3 (mW rfl (aV ?_)))|(refine rg 4 (dH rfl (mW rfl (vV (ix T rfl (by omega) (kG w) hg) (lW T rfl (vV (by exact fE rfl rfl hc rfl (by simp [AV.idfL,AV.idf,hi]) rfl) ?_))))))|(refine rg 6 (vV (cC rfl rfl (by omega) (by omega)) (mV ?_)))|refine nZ ?_));all_goals first | (exfalso;omega) | exact ⟨⟨k + 1,hlt⟩,by dsimp only;omega,⟨[],rfl,⟨rfl,by rw [lA hi];rfl,rfl,rfl,trivial⟩,trivial,eQ,fun _ h => absurd h (eI _)⟩⟩
  · (repeat' (first|refine wS ?_|refine wR ?_|refine wE ?_|(refine wC rfl (fun hb => ?_) (fun hb => ?_) <;> (((try simp only [nm] at hb);try (exfalso;omega))))|(refine rg 2 (vV (aM rfl rfl) ?_))|(refine rg 7 (aV ?_))|(refine nZ ?_)));all_goals first | (exfalso;omega) | exact rQ
theorem zU8 {w : List BX} {F : FuncId} {caps : List AV} (hl : w.length ≤ 1000) (hi : AV.idfL caps = true) (hF : ∀ x,x ∈ w → aS Tryz.prog F (.agg [AV.i x.1,AV.i x.2.1,AV.i x.2.2] :: caps) [] (.b false) []) :
    aS Tryz.prog 76 [.rowE (dR w) 3,.clo (.func F) [] caps] [] (.b false) [] := by
  have hc := YE hl hi hF;refine bW T Tryz.func76 rfl rfl rfl rfl ?_
  (repeat' (first|refine wS ?_|refine wR ?_|(refine rg 0 (aV ?_))|(refine rg 1 (dH rfl (vV (by exact fE rfl rfl hc rfl (by simp [AV.idfL,AV.idf,hi]) rfl) ?_));refine vV (gO rfl rfl) (aV ?_))|refine nZ ?_));all_goals first | (exfalso;omega) | exact rQ
theorem VI (x : KD) (h : 0 ≤ x.2 ∧ x.2 ≤ 1048576) : aS Tryz.prog 73 [.agg [AV.v (.string x.1),AV.i x.2]] [] (.b false) [] := by
  have hw := yZ (n := x.2) (f := 0) (t := 1048576) h;refine bW T Tryz.func73 rfl rfl rfl rfl ?_
  (repeat' (first|refine wS ?_|refine wR ?_|(refine rg 0 (cD (cQ rfl rfl) rfl (aV ?_)))|(refine rg 1 (iB T rfl (vV (kC (hw)) (vV (dI rfl) (aV ?_)))))|refine nZ ?_));all_goals first | (exfalso;omega) | exact rQ
theorem VH (ks : List KD) (x : LT) (h : 0 ≤ x.1 ∧ x.1 < ks.length) (hk : ks.length ≤ 1000) : aS Tryz.prog 75 [.agg [AV.i x.1,AV.i x.2.1,AV.b x.2.2],.pr [.rowE (gN ks) 2] 0] [] (.b false) [] := by
  have e1 : (gN ks).length = ks.length := by simp
  have hw := yZ (n := x.1) (f := 0) (t := ((gN ks).length : Int) - 1) (by omega)
  refine bW T Tryz.func75 rfl rfl rfl rfl ?_
  (repeat' (first|refine wS ?_|refine wR ?_|(refine rg 0 (cD (cQ rfl rfl) rfl (aV ?_)))|(refine rg 1 (iB T rfl (lW T rfl (qW T rfl (vV (cP rfl rfl (by omega) (by omega)) (vV (kC (hw)) (vV (dI rfl) (aV ?_))))))))|refine nZ ?_));all_goals first | (exfalso;omega) | exact rQ
theorem VJ (ls : List LT) (x : BX) (h : -1 ≤ x.1 ∧ x.1 < ls.length ∧ 0 ≤ x.2.1 ∧ x.2.1 ≤ 20000 ∧ (x.1 = -1 → x.2.1 = 0) ∧ 0 ≤ x.2.2 ∧ x.2.2 ≤ 1073741824) (hk : ls.length ≤ 1000) : aS Tryz.prog 77 [.agg [AV.i x.1,AV.i x.2.1,AV.i x.2.2],.pr [.rowE (iS ls) 3] 0] [] (.b false) [] := by
  have e1 : (iS ls).length = ls.length := by simp
  obtain ⟨lot,ct,ta⟩ := x;dsimp only at h ⊢;have h1 := yZ (n := lot) (f := -1) (t := ((iS ls).length : Int) - 1) (by omega)
  have h2 := yZ (n := ct) (f := 0) (t := 20000) (by omega)
  have h3 := yZ (n := ta) (f := 0) (t := 1073741824) (by omega)
  refine bW T Tryz.func77 rfl rfl rfl rfl ?_
  (repeat' (first|refine wS ?_|refine wR ?_|(refine rg 0 (cD (cQ rfl rfl) rfl (aV ?_)))|(refine rg 1 (iB T rfl (lW T rfl (qW T rfl (vV (cP rfl rfl (by omega) (by omega)) (vV (kC (h1)) (vV (dI rfl) (mW rfl (yP T rfl (yL T ?_)))))))));refine yV (kC (h2)) (yV (dI rfl) (pW rfl (mW rfl (yP T rfl (yO T rfl (yV (aM rfl rfl) (yM ?_)))))));refine bO rfl rfl ?_ ?_<;>(intro hb;rw [hb];(try simp only [nm] at hb);try (exfalso;omega));(all_goals first|(refine gT (fW T rfl (gT (lW T rfl (gT (vV (eU rfl rfl) ?_))))))|(iterate 3 refine gF ?_));(all_goals (refine gT (pW rfl (pW rfl (mV ?_)))));(all_goals first|(refine gK ?_)|(refine bO rfl rfl ?_ ?_<;>(intro hb;rw [hb];(try simp only [nm] at hb);try (exfalso;omega))));(all_goals (refine yP T rfl (yO T rfl (yV (kC (h3)) (yV (dI rfl) (pW rfl (aV ?_))))))))|refine nZ ?_));all_goals first | (exfalso;omega) | exact rQ
theorem Z4 : ∀ (l m : List Int), l.Nodup → (∀ x, x ∈ l → x ∈ m) → m.length ≤ l.length → l.Perm m
  | [],m,_,_,hl => by
    have : m = [] := fP.1 (by simpa using hl)
    subst this;exact List.Perm.refl _
  | x :: l,m,hn,hs,hl => by
    have hx := hs x (by simp)
    have h2 := List.perm_cons_erase hx
    have h3 := Z4 l (m.erase x) (fG.1 hn).2 (fun y hy => by
      have hyx : y ≠ x := fun e => (fG.1 hn).1 (e ▸ hy);exact (lX hyx).2 (hs y (aI _ hy))) (by
        rw [lE hx];simp only [List.length_cons] at hl
        omega)
    exact (List.Perm.cons x h3).trans h2.symm
theorem FE {n : Nat} {ps : List Int} (hl : ps.length = n) (h : ∀ i : Nat,i < n → (i : Int) ∈ ps) : iU ps = Go.Ab.nats (List.range n) := by
  have hnd : (Go.Ab.nats (List.range n)).Nodup := List.Pairwise.map _ (fun a b hab e => hab (by omega)) zO3
  have hsub : ∀ x,x ∈ Go.Ab.nats (List.range n) → x ∈ ps := fun x hx => by
    obtain ⟨i,hi,rfl⟩ := bC.1 hx;exact h i (eW.1 hi)
  have hp : (Go.Ab.nats (List.range n)).Perm ps := Z4 (Go.Ab.nats (List.range n)) ps hnd hsub (by simp [hl])
  exact Go.Pm.sorted_eq hp.symm (Go.Pm.range_le n)
theorem SL (n : Nat) : GZ (Go.Ab.nats (List.range n)) n = true := by
  refine BJ fun i hi => ?_
  have hi' : i < n := by simpa using hi
  have e : ∀ k,k < n → (Go.Ab.nats (List.range n)).getD k 0 = (k : Int) := fun k hk => by
    rw [aD];simp [hk]
  unfold S9;rw [e i hi'];refine ⟨by omega,by omega,fun h0 => ?_⟩
  rw [e (i - 1) (by omega)];omega
theorem FF {ks : List KD} {ls : List LT} {ps : List Int} {bs : List BX} (t : uM ks ls ps bs) (h1 : ks.length ≤ 1000) (h2 : ls.length ≤ 1000) (h3 : ps.length ≤ 1000) :
    aS Tryz.prog 49 [.rowE (gN ks) 2,.rowE (iS ls) 3,.rowE (ints ps) 1,.rowE (dR bs) 3] [] (.b true) [] := by
  have e3 : (ints ps).length = ps.length := by simp
  have e4 : (dR bs).length = bs.length := by simp
  have hlen := t.len;have v1 := W7 ps;have v2 := IL ps (by omega)
  rw [FE (n := ps.length) rfl t.p] at v2;have v3 := ER (Go.Ab.nats (List.range ps.length)) ps.length (by simp;omega) (by omega)
  rw [SL] at v3;rw [show (ps.length : Int) = ((dR bs).length : Int) by omega] at v3
  have c1 := zU5 (w := ks) (F := 73) (caps := []) h1 rfl (fun x hx => by
    obtain ⟨i,hi,rfl⟩ := nT.1 hx
    exact VI _ (t.k i hi))
  have c2 := zU4 (w := ls) (F := 75) (caps := [.pr [.rowE (gN ks) 2] 0]) h2 rfl (fun x hx => by
    obtain ⟨i,hi,rfl⟩ := nT.1 hx
    exact VH ks _ (t.l i hi) h1)
  have c3 := zU8 (w := bs) (F := 77) (caps := [.pr [.rowE (iS ls) 3] 0]) (by omega) rfl (fun x hx => by
    obtain ⟨i,hi,rfl⟩ := nT.1 hx
    exact VJ ls _ (t.b i hi) h2)
  generalize Go.Ab.nats (List.range ps.length) = sr at *;refine bW T Tryz.func49 rfl rfl rfl rfl ?_
  (repeat' (first|refine wS ?_|refine wK ?_|refine wU ?_|(refine rg 0 (cD (cQ rfl rfl) rfl (cD (cQ rfl rfl) rfl (aV ?_))))|(refine rg 1 (mW rfl (vV (kC (v1)) (vV (by exact fE rfl rfl v2 rfl rfl rfl) ?_)));refine aV ?_)|(refine rg 2 (mW rfl (qW T rfl (mW rfl (qW T rfl (vV (C1 rfl rfl (by omega)) (mW rfl (yN rfl (yN rfl (gT ?_)))))))));refine qW T rfl (yV (kC (v3)) (yV (dI rfl) (pV ?_))))|refine nZ ?_));all_goals try (exfalso;omega)
  (repeat' (first|refine wS ?_|refine wR ?_|(refine rg 4 (lW T rfl (vV (by exact fE rfl rfl c1 rfl rfl rfl) ?_));refine aV ?_)|(refine rg 5 (dH rfl (yO T rfl (yV (by exact kU rfl rfl) ?_)));refine yV (by exact fB rfl rfl c2 (.cons (.row _ _ _) (.cons (.clo .nil (.cons (.ptr rfl (.cons (.row _ _ _) .nil)) .nil)) .nil)) rfl rfl) ?_;refine pW rfl (aV ?_))|(refine rg 6 (mW rfl (vV (dI rfl) (mW rfl (yN rfl (yV (by exact kU rfl rfl) ?_)))));refine yV (by exact fB rfl rfl c3 (.cons (.row _ _ _) (.cons (.clo .nil (.cons (.ptr rfl (.cons (.row _ _ _) .nil)) .nil)) .nil)) rfl rfl) ?_;refine yV (dI rfl) (pW rfl (aV ?_)))|refine nZ ?_));all_goals first | (exfalso;omega) | exact rQ
end Go.Proofs.YtmmmeebiobjnbaaGreat
namespace Go.Ab
open Go
section
variable {P : Program} {env : eA} {h : Hp} {d : Option Nat} {ty : TypeId} {pos : String} {af : Array Edge} {g : Option (Nat × Bool)}
end
end Go.Ab
namespace Go.Proofs.YtmmmeebiobjnbaaGreat
open Go Go.Ab
attribute [local irreducible] VC AW cF aS
set_option maxHeartbeats 4000000
theorem F4 (l : List Int) : AV.idfL (ints l).flatten = true := by
  induction l with
  | nil => rfl
  | cons x l ih => exact ih
theorem G2 (l : List BX) : AV.idfL (dR l).flatten = true := by
  induction l with
  | nil => rfl
  | cons x l ih => exact ih
end Go.Proofs.YtmmmeebiobjnbaaGreat
namespace Go.Proofs.YtmmmeebiobjnbaaGreat
open Go Go.Ab
section
variable {P : Program} {env : eA} {h : Hp} {d : Option Nat} {ty : TypeId} {pos : String} {af : Array Edge} {g : Option (Nat × Bool)}
theorem QP {t t2 : TypeId} {x y : Operand} {a b : Int} (hx : evu env x = some (.i a)) (hy : evu env y = some (.i b)) (e : b < a) : cF P ⟨d,.binOp .gtr t x y t2,ty,pos,af,g⟩ env h 0 (fun _ => .b true) (fun _ => []) := by
  have := eU (P := P) (d := d) (ty := ty) (pos := pos) (af := af) (g := g) (h := h) (t := t) (t2 := t2) hx hy;simpa [show decide (a > b) = true from decide_eq_true (by omega)] using this
theorem V5 {t t2 : TypeId} {x y : Operand} {a b : Int} (hx : evu env x = some (.i a)) (hy : evu env y = some (.i b)) (e : a ≤ b) : cF P ⟨d,.binOp .gtr t x y t2,ty,pos,af,g⟩ env h 0 (fun _ => .b false) (fun _ => []) := by
  have := eU (P := P) (d := d) (ty := ty) (pos := pos) (af := af) (g := g) (h := h) (t := t) (t2 := t2) hx hy;simpa [show decide (a > b) = false from decide_eq_false (by omega)] using this
theorem zK3 {t t2 : TypeId} {x y : Operand} {a b : Int} (hx : evu env x = some (.i a)) (hy : evu env y = some (.i b)) (e : a < b) : cF P ⟨d,.binOp .lss t x y t2,ty,pos,af,g⟩ env h 0 (fun _ => .b true) (fun _ => []) := by
  have := aM (P := P) (d := d) (ty := ty) (pos := pos) (af := af) (g := g) (h := h) (t := t) (t2 := t2) hx hy;simpa [show decide (a < b) = true from decide_eq_true (by omega)] using this
theorem zK4 {t t2 : TypeId} {x y : Operand} {a b : Int} (hx : evu env x = some (.i a)) (hy : evu env y = some (.i b)) (e : b ≤ a) : cF P ⟨d,.binOp .lss t x y t2,ty,pos,af,g⟩ env h 0 (fun _ => .b false) (fun _ => []) := by
  have := aM (P := P) (d := d) (ty := ty) (pos := pos) (af := af) (g := g) (h := h) (t := t) (t2 := t2) hx hy;simpa [show decide (a < b) = false from decide_eq_false (by omega)] using this
theorem QS {t t2 : TypeId} {x y : Operand} {a b : Int} (hx : evu env x = some (.i a)) (hy : evu env y = some (.i b)) (e : b ≤ a) : cF P ⟨d,.binOp .geq t x y t2,ty,pos,af,g⟩ env h 0 (fun _ => .b true) (fun _ => []) := by
  have := gO (P := P) (d := d) (ty := ty) (pos := pos) (af := af) (g := g) (h := h) (t := t) (t2 := t2) hx hy;simpa [show decide (a ≥ b) = true from decide_eq_true (by omega)] using this
theorem QT {t t2 : TypeId} {x y : Operand} {a b : Int} (hx : evu env x = some (.i a)) (hy : evu env y = some (.i b)) (e : a < b) : cF P ⟨d,.binOp .geq t x y t2,ty,pos,af,g⟩ env h 0 (fun _ => .b false) (fun _ => []) := by
  have := gO (P := P) (d := d) (ty := ty) (pos := pos) (af := af) (g := g) (h := h) (t := t) (t2 := t2) hx hy;simpa [show decide (a ≥ b) = false from decide_eq_false (by omega)] using this
end
end Go.Proofs.YtmmmeebiobjnbaaGreat
namespace Go.Proofs.YtmmmeebiobjnbaaGreat
open Go Go.Ab Go.Ld
attribute [local irreducible] VC AW cF aS
set_option maxHeartbeats 4000000
theorem DS (x : Int) : aS Tryz.prog 132 [.i x] [] (.b false) [] := by
  refine bW T Tryz.func132 rfl rfl rfl rfl ?_
  (repeat' (first|refine wS ?_|refine wR ?_|(refine rg 0 (aV ?_))|(refine rg 1 (dH rfl (vV (fZ rfl rfl) (aV ?_))))|refine nZ ?_));all_goals first | (exfalso;omega) | exact dC (.inl rfl) rfl (nB (by simp))
theorem EL (x y : Int) : aS Tryz.prog 96 [.i x,.i y] [] (.i (cI x y)) [] := by
  by_cases h1 : x < y
  · rw [show cI x y = -1 by unfold cI;rw [if_pos h1]]
    refine bW T Tryz.func96 rfl rfl rfl rfl ?_
    (repeat' (first|refine wS ?_|refine wK ?_|refine wR ?_|refine wU ?_|(refine wC rfl ?_ ?_<;>(intro hb;(try simp only [nm] at hb);try (exfalso;omega)))|(refine rg 0 (aV ?_))|(refine rg 1 (mW rfl (vV (kC (DS x)) (aV ?_))))|(refine rg 2 (mW rfl (vV (kC (DS y)) (aV ?_))))|(refine rg 3 (mV ?_))|(refine rg 7 (mV ?_))|(refine rg 9 (dH rfl (vV (aM rfl rfl) ?_)))|(refine rg 10 (aV ?_))|refine nZ ?_));all_goals first | (exfalso;omega) | exact rQ
  · by_cases h2 : y < x
    · rw [show cI x y = 1 by unfold cI;rw [if_neg h1,if_pos h2]]
      refine bW T Tryz.func96 rfl rfl rfl rfl ?_
      (repeat' (first|refine wS ?_|refine wK ?_|refine wR ?_|refine wU ?_|(refine wC rfl ?_ ?_<;>(intro hb;(try simp only [nm] at hb);try (exfalso;omega)))|(refine rg 0 (aV ?_))|(refine rg 1 (mW rfl (vV (kC (DS x)) (aV ?_))))|(refine rg 2 (mW rfl (vV (kC (DS y)) (aV ?_))))|(refine rg 3 (mV ?_))|(refine rg 7 (mV ?_))|(refine rg 9 (dH rfl (vV (aM rfl rfl) ?_)))|(refine rg 11 (dH rfl (vV (eU rfl rfl) ?_)))|(refine rg 12 (aV ?_))|refine nZ ?_));all_goals first | (exfalso;omega) | exact rQ
    · rw [show cI x y = 0 by unfold cI;rw [if_neg h1,if_neg h2]]
      refine bW T Tryz.func96 rfl rfl rfl rfl ?_
      (repeat' (first|refine wS ?_|refine wK ?_|refine wR ?_|refine wU ?_|(refine wC rfl ?_ ?_<;>(intro hb;(try simp only [nm] at hb);try (exfalso;omega)))|(refine rg 0 (aV ?_))|(refine rg 1 (mW rfl (vV (kC (DS x)) (aV ?_))))|(refine rg 2 (mW rfl (vV (kC (DS y)) (aV ?_))))|(refine rg 3 (mV ?_))|(refine rg 7 (mV ?_))|(refine rg 9 (dH rfl (vV (aM rfl rfl) ?_)))|(refine rg 11 (dH rfl (vV (eU rfl rfl) ?_)))|(refine rg 13 (aV ?_))|refine nZ ?_));all_goals first | (exfalso;omega) | exact rQ
theorem yA1 (x y : Int) : aS Tryz.prog 94 [.rowE (ints [x,y]) 1] [] (.i (P9 x y)) [] := by
  have hlen : (ints [x,y]).length = 2 := rfl;refine bW T Tryz.func94 rfl rfl rfl rfl ?_
  (repeat' (first|refine wS ?_|refine wB ?_|(refine rg 0 (aV ?_))|(refine rg 1 (aV ?_))|(refine rg 2 (mW rfl (qW T rfl (mV ?_))))|refine nZ ?_));refine dQ (X := {k : Nat // k ≤ 2 ∧ (1 ≤ k → x = 0) ∧ (2 ≤ k → y = 0)}) (fun k => [(0,.rowE (ints [x,y]) 1),(3,.i 0),(6,.rowE (ints [x,y]) 1),(7,.i (ints [x,y]).length),(8,.i k.1)]) (fun _ => []) (fun k => 2 - k.1) ⟨0,by omega,by omega,by omega⟩ (gM []) ?_
  rintro ⟨k,hk,h1,h2⟩;dsimp only;by_cases hlt : k < 2
  · have hg : ∃ z,(ints [x,y])[k]? = some [AV.i z] ∧ (k = 0 → z = x) ∧ (k = 1 → z = y) := by
      rcases (by omega : k = 0 ∨ k = 1) with rfl | rfl
      · exact ⟨x,rfl,fun _ => rfl,by omega⟩
      · exact ⟨y,rfl,by omega,fun _ => rfl⟩
    obtain ⟨z,hg,hz1,hz2⟩ := hg;by_cases h0 : z = 0
    · (repeat' (first|refine wS ?_|refine wB ?_|refine wK ?_|(refine wC rfl (fun hb => ?_) (fun hb => ?_) <;> (((try simp only [nm] at hb);try (exfalso;omega))))|(refine rg 3 (vV (aM rfl rfl) ?_))|(refine rg 4 (vV (ix T rfl (by omega) (dU [x,y]) hg) (lW T rfl (aV ?_))))|(refine rg 5 (dH rfl (vV (fZ rfl rfl) ?_)))|(refine rg 7 (vV (cC rfl rfl (by omega) (by omega)) (mV ?_)))|(refine nZ ?_)));all_goals first | (exfalso;omega) | exact ⟨⟨k + 1,by omega,by omega,by omega⟩,by dsimp only;omega,gM []⟩
    · (repeat' (first|refine wS ?_|refine wB ?_|refine wK ?_|refine wR ?_|(refine wC rfl (fun hb => ?_) (fun hb => ?_) <;> (((try simp only [nm] at hb);try (exfalso;omega))))|(refine rg 3 (vV (aM rfl rfl) ?_))|(refine rg 4 (vV (ix T rfl (by omega) (dU [x,y]) hg) (lW T rfl (aV ?_))))|(refine rg 5 (dH rfl (vV (fZ rfl rfl) ?_)))|(refine rg 6 (mW rfl (aV ?_)))|(refine nZ ?_)));all_goals first | (exfalso;omega) | exact dC (.inl rfl) rfl (by rw [show P9 x y = z by unfold P9;split <;> omega];rfl)
  · (repeat' (first|refine wS ?_|refine wR ?_|refine wE ?_|(refine wC rfl (fun hb => ?_) (fun hb => ?_) <;> (((try simp only [nm] at hb);try (exfalso;omega))))|(refine rg 3 (vV (aM rfl rfl) ?_))|(refine rg 8 (mW rfl (aV ?_)))|(refine nZ ?_)));all_goals first | (exfalso;omega) | exact dC (.inl rfl) rfl (by rw [show P9 x y = 0 by unfold P9;split <;> omega];rfl)
theorem yC1 {a b : List Int} {k : Nat} (h1 : k < a.length) (h2 : k < b.length) : cL (a.drop k) (b.drop k) = P9 (cI a[k] b[k]) (cL (a.drop (k + 1)) (b.drop (k + 1))) := by
  rw [aT h1,aT h2];rfl
theorem zN2 {a b : List Int} {k : Nat} (h1 : k < a.length) (h2 : k = b.length) : cL (a.drop k) (b.drop k) = 1 := by
  rw [aT h1,cY (l := b) (by omega)];rfl
theorem zN1 {a b : List Int} {k : Nat} (h1 : k = a.length) (h2 : k < b.length) : cL (a.drop k) (b.drop k) = -1 := by
  rw [cY (l := a) (by omega),aT h2];rfl
theorem zN0 {a b : List Int} {k : Nat} (h1 : k = a.length) (h2 : k = b.length) : cL (a.drop k) (b.drop k) = 0 := by
  rw [cY (l := a) (by omega),cY (l := b) (by omega)];rfl
theorem XC (b : Int) : P9 0 b = b := rfl
theorem NI {a b : Int} (h : ¬ a = 0) : P9 a b = a := by unfold P9;rw [if_neg h]
theorem UF (a b : List Int) (ha : a.length ≤ 9223372036854775807) (hb : b.length ≤ 9223372036854775807) : aS Tryz.prog 129 [.rowE (ints a) 1,.rowE (ints b) 1] [] (.i (cL a b)) [] := by
  have hla : (ints a).length = a.length := by simp
  have hlb : (ints b).length = b.length := by simp
  refine bW T Tryz.func129 rfl rfl rfl rfl ?_
  (repeat' (first|refine wS ?_|refine wB ?_|(refine rg 0 (aV ?_))|(refine rg 1 (mW rfl (qW T rfl (mV ?_))))|refine nZ ?_));refine dQ (X := {k : Nat // k ≤ a.length ∧ k ≤ b.length ∧ cL a b = cL (a.drop k) (b.drop k)}) (fun k => [(0,.rowE (ints a) 1),(1,.rowE (ints b) 1),(9,.rowE (ints a) 1),(10,.i (ints a).length),(11,.i k.1)]) (fun _ => []) (fun k => a.length - k.1) ⟨0,by omega,by omega,rfl⟩ (gM []) ?_
  rintro ⟨k,hk,hkb,he⟩;dsimp only;by_cases h1 : k < a.length
  · have g1 := lO h1;by_cases h2 : k < b.length
    · have g2 := lO h2;have e1 := yC1 h1 h2;have hc := EL a[k] b[k];generalize a[k] = x at *;generalize b[k] = y at *;by_cases h0 : cI x y = 0
      · rw [h0] at hc e1;rw [XC] at e1
        (repeat' (first|refine wS ?_|refine wB ?_|refine wK ?_|refine wU ?_|(refine wC rfl ?_ ?_<;>(intro hb;(try simp only [nm] at hb);try (exfalso;omega)))|(refine rg 2 (vV (aM rfl rfl) ?_))|(refine rg 3 (mW rfl (vV (ix T rfl (by omega) (dU a) g1) (lW T rfl (rK ?_)))))|(refine rg 4 (dH rfl (qW T rfl (vV (gO rfl rfl) ?_))))|(refine rg 6 (dH rfl (vV (ix T rfl (by omega) (dU b) g2) (lW T rfl (aV ?_)))))|(refine rg 7 (dH rfl (vV (kC (hc)) (aV ?_))))|(refine rg 8 (mW rfl (vV (fZ rfl rfl) ?_)))|(refine rg 10 (vV (cC rfl rfl (by omega) (by omega)) (mV ?_)))|refine nZ ?_));all_goals first | (exfalso;omega) | exact ⟨⟨k + 1,by omega,by omega,he.trans e1⟩,by dsimp only;omega,gM []⟩
      · rw [NI h0] at e1;generalize cI x y = q at *
        (repeat' (first|refine wS ?_|refine wB ?_|refine wK ?_|refine wR ?_|(refine wC rfl ?_ ?_<;>(intro hb;(try simp only [nm] at hb);try (exfalso;omega)))|(refine rg 2 (vV (aM rfl rfl) ?_))|(refine rg 3 (mW rfl (vV (ix T rfl (by omega) (dU a) g1) (lW T rfl (rK ?_)))))|(refine rg 4 (dH rfl (qW T rfl (vV (gO rfl rfl) ?_))))|(refine rg 6 (dH rfl (vV (ix T rfl (by omega) (dU b) g2) (lW T rfl (aV ?_)))))|(refine rg 7 (dH rfl (vV (kC (hc)) (aV ?_))))|(refine rg 8 (mW rfl (vV (fZ rfl rfl) ?_)))|(refine rg 9 (mW rfl (aV ?_)))|refine nZ ?_));all_goals first | (exfalso;omega) | exact dC (.inl rfl) rfl (by rw [he,e1];rfl)
    · have e1 := zN2 h1 (show k = b.length by omega)
      (repeat' (first|refine wS ?_|refine wB ?_|refine wK ?_|refine wR ?_|(refine wC rfl ?_ ?_<;>(intro hb;(try simp only [nm] at hb);try (exfalso;omega)))|(refine rg 2 (vV (aM rfl rfl) ?_))|(refine rg 3 (mW rfl (vV (ix T rfl (by omega) (dU a) g1) (lW T rfl (rK ?_)))))|(refine rg 4 (dH rfl (qW T rfl (vV (gO rfl rfl) ?_))))|(refine rg 5 (aV ?_))|refine nZ ?_));all_goals first | (exfalso;omega) | exact dC (.inl rfl) rfl (by rw [he,e1];rfl)
  · by_cases h2 : k < b.length
    · have e1 := zN1 (show k = a.length by omega) h2
      (repeat' (first|refine wS ?_|refine wR ?_|refine wE ?_|(refine wC rfl ?_ ?_<;>(intro hb;(try simp only [nm] at hb);try (exfalso;omega)))|(refine rg 2 (vV (aM rfl rfl) ?_))|(refine rg 11 (mW rfl (qW T rfl (mW rfl (qW T rfl (vV (aM rfl rfl) ?_))))))|(refine rg 12 (aV ?_))|refine nZ ?_));all_goals first | (exfalso;omega) | exact dC (.inl rfl) rfl (by rw [he,e1];rfl)
    · have e1 := zN0 (show k = a.length by omega) (show k = b.length by omega)
      (repeat' (first|refine wS ?_|refine wK ?_|refine wR ?_|refine wE ?_|(refine wC rfl ?_ ?_<;>(intro hb;(try simp only [nm] at hb);try (exfalso;omega)))|(refine rg 2 (vV (aM rfl rfl) ?_))|(refine rg 11 (mW rfl (qW T rfl (mW rfl (qW T rfl (vV (aM rfl rfl) ?_))))))|(refine rg 13 (aV ?_))|refine nZ ?_));all_goals first | (exfalso;omega) | exact dC (.inl rfl) rfl (by rw [he,e1];rfl)
theorem lG (l : List SP) : ∀ e,e ∈ fJ l → e.length = 2 := by intro e he;obtain ⟨n,_,rfl⟩ := bC.1 he;rfl
theorem CS {l : List SP} {k : Nat} (h : k < l.length) : (fJ l)[k]? = some [AV.i l[k].1,AV.i l[k].2] := by simp [h]
theorem XB (x y : SP) : aS Tryz.prog 131 [mX x.1 x.2,mX y.1 y.2] [] (.i (cS x y)) [] := by
  have h1 := EL x.1 y.1;have h2 := EL x.2 y.2;have h3 := yA1 (cI x.1 y.1) (cI x.2 y.2);refine bW T Tryz.func131 rfl rfl rfl rfl ?_
  (repeat' (first|refine wS ?_|refine wR ?_|(refine rg 0 (cD (cQ rfl rfl) rfl (cD (cQ rfl rfl) rfl (aV ?_))))|(refine cH (id := 1) 17 [[],[0],[],[2],rN 4,[],[5],[],[7],rN 9,rN 10,rN 11] (rM 5 12) [[],[],[5,6],[5,6],[],rM 5 5,rM 5 5,rM 5 7,rM 5 7,[],[],[]] cO rfl (by decide +kernel) (dP T rfl (dO T rfl (dP T rfl (dO T rfl (dV rfl (kC (h1)) (dP T rfl (dO T rfl (dP T rfl (dL T ?_)))))))));refine dV rfl (kC (h2)) (F9 rfl rfl rfl (by exact bD T rfl rfl (by decide) (by decide) rfl rfl rfl) rfl ?_);refine dV rfl (by exact fB rfl rfl (h3) (by ((repeat (first|exact .nil|exact .v _|refine .cons ?_ ?_|refine .sl rfl (by simp) ?_));done)) rfl rfl) ?_;(all_goals (refine dE ?_;refine aV ?_)))|refine nZ ?_));all_goals first | (exfalso;omega) | exact rQ
theorem yC2 {a b : List SP} {k : Nat} (h1 : k < a.length) (h2 : k < b.length) : cB (a.drop k) (b.drop k) = P9 (cS a[k] b[k]) (cB (a.drop (k + 1)) (b.drop (k + 1))) := by
  rw [aT h1,aT h2];rfl
theorem zN5 {a b : List SP} {k : Nat} (h1 : k < a.length) (h2 : k = b.length) : cB (a.drop k) (b.drop k) = 1 := by
  rw [aT h1,cY (l := b) (by omega)];rfl
theorem zN4 {a b : List SP} {k : Nat} (h1 : k = a.length) (h2 : k < b.length) : cB (a.drop k) (b.drop k) = -1 := by
  rw [cY (l := a) (by omega),aT h2];rfl
theorem zN3 {a b : List SP} {k : Nat} (h1 : k = a.length) (h2 : k = b.length) : cB (a.drop k) (b.drop k) = 0 := by
  rw [cY (l := a) (by omega),cY (l := b) (by omega)];rfl
abbrev yA4 : AV := .clo (.func 131) [] []
theorem OA (a b : List SP) (ha : a.length ≤ 9223372036854775807) (hb : b.length ≤ 9223372036854775807) : aS Tryz.prog 130 [.rowE (fJ a) 2,.rowE (fJ b) 2,yA4] [] (.i (cB a b)) [] := by
  have hla : (fJ a).length = a.length := by simp
  have hlb : (fJ b).length = b.length := by simp
  refine bW T Tryz.func130 rfl rfl rfl rfl ?_
  (repeat' (first|refine wS ?_|refine wB ?_|(refine rg 0 (aV ?_))|(refine rg 1 (mW rfl (qW T rfl (mV ?_))))|refine nZ ?_));refine dQ (X := {k : Nat // k ≤ a.length ∧ k ≤ b.length ∧ cB a b = cB (a.drop k) (b.drop k)}) (fun k => [(0,.rowE (fJ a) 2),(1,.rowE (fJ b) 2),(2,yA4),(11,.rowE (fJ a) 2),(12,.i (fJ a).length),(13,.i k.1)]) (fun _ => []) (fun k => a.length - k.1) ⟨0,by omega,by omega,rfl⟩ (gM []) ?_
  rintro ⟨k,hk,hkb,he⟩;dsimp only;by_cases h1 : k < a.length
  · have g1 := CS h1;by_cases h2 : k < b.length
    · have g2 := CS h2;have e1 := yC2 h1 h2;have hc := XB a[k] b[k];generalize a[k] = x at *;generalize b[k] = y at *;by_cases h0 : cS x y = 0
      · rw [h0] at hc e1;rw [XC] at e1
        (repeat' (first|refine wS ?_|refine wB ?_|refine wK ?_|refine wU ?_|(refine wC rfl ?_ ?_<;>(intro hb;(try simp only [nm] at hb);try (exfalso;omega)))|(refine rg 2 (vV (aM rfl rfl) ?_))|(refine rg 3 (mW rfl (vV (ix T rfl (by omega) (lG a) g1) (lW T rfl (cD (cK T rfl) rfl (aW rfl (bA T rfl rfl rfl rfl rfl rfl (by decide) rfl ?_)))))))|(refine rg 4 (dH rfl (qW T rfl (vV (gO rfl rfl) ?_))))|(refine rg 6 (dH rfl (vV (ix T rfl (by omega) (lG b) g2) (lW T rfl (cD (cK T rfl) rfl (bA T rfl rfl rfl rfl rfl rfl (by decide) rfl ?_))))))|(refine rg 7 (mW rfl (lW T rfl (lW T rfl (vV (kC (hc)) (aV ?_))))))|(refine rg 8 (mW rfl (vV (fZ rfl rfl) ?_)))|(refine rg 10 (vV (cC rfl rfl (by omega) (by omega)) (mV ?_)))|refine nZ ?_));all_goals first | (exfalso;omega) | exact ⟨⟨k + 1,by omega,by omega,he.trans e1⟩,by dsimp only;omega,gM []⟩
      · rw [NI h0] at e1;generalize cS x y = q at *
        (repeat' (first|refine wS ?_|refine wB ?_|refine wK ?_|refine wR ?_|(refine wC rfl ?_ ?_<;>(intro hb;(try simp only [nm] at hb);try (exfalso;omega)))|(refine rg 2 (vV (aM rfl rfl) ?_))|(refine rg 3 (mW rfl (vV (ix T rfl (by omega) (lG a) g1) (lW T rfl (cD (cK T rfl) rfl (aW rfl (bA T rfl rfl rfl rfl rfl rfl (by decide) rfl ?_)))))))|(refine rg 4 (dH rfl (qW T rfl (vV (gO rfl rfl) ?_))))|(refine rg 6 (dH rfl (vV (ix T rfl (by omega) (lG b) g2) (lW T rfl (cD (cK T rfl) rfl (bA T rfl rfl rfl rfl rfl rfl (by decide) rfl ?_))))))|(refine rg 7 (mW rfl (lW T rfl (lW T rfl (vV (kC (hc)) (aV ?_))))))|(refine rg 8 (mW rfl (vV (fZ rfl rfl) ?_)))|(refine rg 9 (mW rfl (aV ?_)))|refine nZ ?_));all_goals first | (exfalso;omega) | exact dC (.inl rfl) rfl (by rw [he,e1];rfl)
    · have e1 := zN5 h1 (show k = b.length by omega)
      (repeat' (first|refine wS ?_|refine wB ?_|refine wK ?_|refine wR ?_|(refine wC rfl ?_ ?_<;>(intro hb;(try simp only [nm] at hb);try (exfalso;omega)))|(refine rg 2 (vV (aM rfl rfl) ?_))|(refine rg 3 (mW rfl (vV (ix T rfl (by omega) (lG a) g1) (lW T rfl (cD (cK T rfl) rfl (aW rfl (bA T rfl rfl rfl rfl rfl rfl (by decide) rfl ?_)))))))|(refine rg 4 (dH rfl (qW T rfl (vV (gO rfl rfl) ?_))))|(refine rg 5 (aV ?_))|refine nZ ?_));all_goals first | (exfalso;omega) | exact dC (.inl rfl) rfl (by rw [he,e1];rfl)
  · by_cases h2 : k < b.length
    · have e1 := zN4 (show k = a.length by omega) h2
      (repeat' (first|refine wS ?_|refine wR ?_|refine wE ?_|(refine wC rfl ?_ ?_<;>(intro hb;(try simp only [nm] at hb);try (exfalso;omega)))|(refine rg 2 (vV (aM rfl rfl) ?_))|(refine rg 11 (mW rfl (qW T rfl (mW rfl (qW T rfl (vV (aM rfl rfl) ?_))))))|(refine rg 12 (aV ?_))|refine nZ ?_));all_goals first | (exfalso;omega) | exact dC (.inl rfl) rfl (by rw [he,e1];rfl)
    · have e1 := zN3 (show k = a.length by omega) (show k = b.length by omega)
      (repeat' (first|refine wS ?_|refine wK ?_|refine wR ?_|refine wE ?_|(refine wC rfl ?_ ?_<;>(intro hb;(try simp only [nm] at hb);try (exfalso;omega)))|(refine rg 2 (vV (aM rfl rfl) ?_))|(refine rg 11 (mW rfl (qW T rfl (mW rfl (qW T rfl (vV (aM rfl rfl) ?_))))))|(refine rg 13 (aV ?_))|refine nZ ?_));all_goals first | (exfalso;omega) | exact dC (.inl rfl) rfl (by rw [he,e1];rfl)
abbrev MK (w : W) : AV := .agg (wA w)
def L9 (w : W) : Prop := w.1.length ≤ 1000000 ∧ w.2.2.length ≤ 1000000
theorem PX (a b : W) (ha : L9 a) (hb : L9 b) : aS Tryz.prog 95 [MK a,MK b] [] (.i (oP a b)) [] := by
  obtain ⟨p,m,c⟩ := a;obtain ⟨p',m',c'⟩ := b;unfold L9 at ha hb;dsimp only at ha hb;have h1 := UF p p' (by omega) (by omega)
  have h2 := OA c c' (by omega) (by omega)
  have e : oP (p,m,c) (p',m',c') = P9 (cL p p') (cB c c') := rfl;rw [e];generalize cL p p' = x at *;generalize cB c c' = y at *;by_cases h0 : x = 0
  · subst h0;rw [XC];refine bW T Tryz.func95 rfl rfl rfl rfl ?_
    (repeat' (first|refine wS ?_|refine wK ?_|refine wR ?_|refine wU ?_|(refine rg 0 (cD (cQ rfl rfl) rfl (cD (cQ rfl rfl) rfl (aV ?_))))|(refine rg 1 (iB T rfl (iB T rfl (vV (kC (h1)) (aV ?_)))))|(refine rg 2 (mW rfl (vV (fZ rfl rfl) ?_)))|(refine rg 4 (iB T rfl (iB T rfl (vV (kC (h2)) (aV ?_)))))|refine nZ ?_));all_goals first | (exfalso;omega) | exact rQ
  · rw [NI h0];refine bW T Tryz.func95 rfl rfl rfl rfl ?_
    (repeat' (first|refine wS ?_|refine wR ?_|(refine wC rfl ?_ ?_<;>(intro hb;(try simp only [nm] at hb);try (exfalso;omega)))|(refine rg 0 (cD (cQ rfl rfl) rfl (cD (cQ rfl rfl) rfl (aV ?_))))|(refine rg 1 (iB T rfl (iB T rfl (vV (kC (h1)) (aV ?_)))))|(refine rg 2 (mW rfl (vV (fZ rfl rfl) ?_)))|(refine rg 3 (mW rfl (aV ?_)))|refine nZ ?_));all_goals first | (exfalso;omega) | exact rQ
theorem xA (a b : W) (ha : L9 a) (hb : L9 b) : aS Tryz.prog 93 [MK a,MK b] [] (.i (eN a b)) [] := by
  have h1 := PX a b ha hb;have h2 := EL a.2.1 b.2.1;have h3 := yA1 (oP a b) (cI a.2.1 b.2.1);refine bW T Tryz.func93 rfl rfl rfl rfl ?_
  (repeat' (first|refine wS ?_|refine wR ?_|(refine rg 0 (cD (cQ rfl rfl) rfl (cD (cQ rfl rfl) rfl (aV ?_))))|(refine cH (id := 1) 15 [[],[],[0,1],[],[3],[],[5],rN 7,rN 8,rN 9] (rM 5 10) [[],[5],[],[5,6,7],[5,6,7],rM 5 5,rM 5 5,[],[],[]] cO rfl (by decide +kernel) (dO T rfl (dO T rfl (dV rfl (kC (h1)) (dP T rfl (dO T rfl (dP T rfl (dO T rfl (dV rfl (kC (h2)) (F9 rfl rfl rfl (by exact bD T rfl rfl (by decide) (by decide) rfl rfl rfl) rfl ?_)))))))));refine dV rfl (by exact fB rfl rfl (h3) (by ((repeat (first|exact .nil|exact .v _|refine .cons ?_ ?_|refine .sl rfl (by simp) ?_));done)) rfl rfl) ?_;(all_goals (refine dE ?_;refine aV ?_)))|refine nZ ?_));all_goals first | (exfalso;omega) | exact rQ
theorem Z9 (a b : W) (ha : L9 a) (hb : L9 b) : aS Tryz.prog 98 [MK a,MK b] [] (.b (E4 a b)) [] := by
  have h1 := PX a b ha hb;refine bW T Tryz.func98 rfl rfl rfl rfl ?_
  (repeat' (first|refine wS ?_|refine wR ?_|(refine rg 0 (cD (cQ rfl rfl) rfl (cD (cQ rfl rfl) rfl (aV ?_))))|(refine rg 1 (lW T rfl (lW T rfl (vV (kC (h1)) (vV (dX rfl rfl) (aV ?_))))))|refine nZ ?_));all_goals first | (exfalso;omega) | exact rQ
end Go.Proofs.YtmmmeebiobjnbaaGreat
namespace Go.Ld
open Go.Ab Go.Proofs.YtmmmeebiobjnbaaGreat
theorem pD (l : List W) : ∀ e,e ∈ gE l → e.length = 3 := by intro e he;obtain ⟨n,_,rfl⟩ := bC.1 he;rfl
theorem fF (l : List W) : (gE l).length = l.length := aY _
theorem pK {L : List W} {j : Int} {i : Nat} {x : W} (h : L[i]? = some x) (e : j = i) : (gE L)[0 + j.toNat]? = some (wA x) := by
  subst e;simp [h]
theorem wO {L : List W} {j : Int} {i : Nat} {x : W} (e : j = i) : (gE L).set (0 + j.toNat) (wA x) = gE (L.set i x) := by
  subst e;simp [gE,pZ]
theorem nL {α : Type} (A B : List α) (x : α) {n : Nat} (h : n = A.length) : (A ++ x :: B)[n]? = some x := by subst h;simp
theorem nX {α : Type} (A B : List α) (x y : α) {n : Nat} (h : n = A.length) : (A ++ x :: B).set n y = A ++ y :: B := by subst h;simp
abbrev Up (l : List W) : Prop := l.Pairwise (fun a b => eN a b ≤ 0)
theorem T7 {l : List W} (h : Up l) : eC eN l = l := (F3 jH (.refl _) h).symm
theorem I1 {l m : List W} (hp : m.Perm l) (h : Up m) : eC eN l = m := (F3 jH hp h).symm
theorem C6 {a b : W} (h : eN a b < 0) : eN a b ≤ 0 := by omega
theorem MR {S1 S2 : List W} {x : W} (h : Up (S1 ++ S2)) (h1 : ∀ y,y ∈ S1 → eN y x ≤ 0) (h2 : ∀ y,y ∈ S2 → eN x y ≤ 0) : Up (S1 ++ x :: S2) := by
  obtain ⟨a,b,c⟩ := eX.1 h;refine eX.2 ⟨a,eV.2 ⟨h2,b⟩,fun p hp q hq => ?_⟩
  rcases bS.1 hq with rfl | hq
  · exact h1 p hp
  · exact c p hp q hq
theorem zR1 {A B : List W} (h1 : Up A) (h2 : Up B) (h3 : ∀ a b,a ∈ A → b ∈ B → eN a b ≤ 0) : Up (A ++ B) := eX.2 ⟨h1,h2,fun a ha b hb => h3 a b ha hb⟩
theorem PE {A : List W} {y : W} (h : Up (A ++ [y])) : ∀ z,z ∈ A ++ [y] → eN z y ≤ 0 := by
  intro z hz;obtain ⟨a,b,c⟩ := eX.1 h;rcases bH.1 hz with hz | hz
  · exact c z hz y (by simp)
  · rw [bK.1 hz,jH.rfl'];exact eM _
theorem zD7 {B : List W} {y : W} (h : Up (y :: B)) : ∀ z,z ∈ y :: B → eN y z ≤ 0 := by
  intro z hz;rcases bS.1 hz with rfl | hz
  · rw [jH.rfl'];exact eM _
  · exact (eV.1 h).1 z hz
theorem yC7 {a b : W} (h : ¬ eN a b < 0) : eN b a ≤ 0 := by have := jH.neg a b;omega
def UV (l : List W) (a b : Nat) : List W := l.take a ++ (eC eN ((l.drop a).take (b - a)) ++ l.drop b)
theorem iV {l : List W} : (eC eN l).length = l.length := (dK eN l).length_eq
theorem VX {l : List W} {a : Nat} (h : a ≤ l.length) : UV l a a = l := by unfold UV;simp [eC]
theorem zE8 {l : List W} {a : Nat} (h : a < l.length) : UV l a (a + 1) = l := by
  unfold UV;rw [show a + 1 - a = 1 by omega,aT h]
  simp only [oK,iX,eC,CA];rw [List.singleton_append,← aT h,bP]
structure zQ6 (l : List W) (a i : Nat) (x : W) (q : List W × List W) : Prop where
  eq : q.1 ++ q.2 = eC eN ((l.drop a).take (i - a))
  gt : ∀ y,y ∈ q.2 → eN x y < 0
def vS (l : List W) (a i : Nat) (x : W) (q : List W × List W) : List W := (l.take a ++ q.1) ++ x :: (q.2 ++ l.drop (i + 1))
theorem TM {l : List W} {a i : Nat} {x : W} (h1 : a < i) (h2 : i < l.length) (hx : l[i]? = some x) : zQ6 l a i x (eC eN ((l.drop a).take (i - a)),[]) ∧ UV l a i = vS l a i x (eC eN ((l.drop a).take (i - a)),[]) := by
  refine ⟨⟨by simp,fun y hy => by cases hy⟩,?_⟩
  unfold UV vS;have : l.drop i = x :: l.drop (i + 1) := by
    rw [aB h2] at hx;rw [aT h2];cases hx;rfl
  simp [this]
theorem QI {l : List W} {a i : Nat} {x : W} {q : List W × List W} (h : zQ6 l a i x q) (h1 : a < i) (h2 : i < l.length) : q.1.length + q.2.length = i - a := by
  have := congrArg List.length h.eq;simp only [aF,iV,bG,dD] at this;omega
theorem YB {l : List W} {a i : Nat} {x : W} {q : List W × List W} (h : zQ6 l a i x q) (h1 : a < i) (h2 : i < l.length) : (vS l a i x q).length = l.length := by
  have := QI h h1 h2;unfold vS;simp only [aF,List.length_cons,bG,dD];omega
theorem XY {l : List W} {a i : Nat} {x : W} {q : List W × List W} (h : zQ6 l a i x q) (h1 : a < i) (h2 : i < l.length) (hx : l[i]? = some x) (hs : ∀ y,y ∈ q.1 → eN y x ≤ 0) : vS l a i x q = UV l a (i + 1) := by
  unfold vS UV;have e : (l.drop a).take (i + 1 - a) = (l.drop a).take (i - a) ++ [x] := by
    rw [show i + 1 - a = (i - a) + 1 by omega,zC4]
    rw [dZ,show a + (i - a) = i by omega,hx];rfl
  rw [e];have hp : (q.1 ++ x :: q.2).Perm ((l.drop a).take (i - a) ++ [x]) := by
    refine List.perm_middle.trans ?_;rw [h.eq];exact ((dK eN _).cons x).trans (L5 _ _).symm
  have hu : Up (q.1 ++ x :: q.2) := MR (by rw [h.eq];exact lM jH _) hs (fun y hy => C6 (h.gt y hy))
  rw [I1 hp hu];simp
theorem zJ4 {l : List W} {a i : Nat} {x y : W} {S : List W} {q : List W × List W} (h : zQ6 l a i x q) (e : q.1 = S ++ [y]) (hc : ¬ eN x y < 0) : ∀ z,z ∈ q.1 → eN z x ≤ 0 := by
  have hu : Up (q.1 ++ q.2) := by rw [h.eq];exact lM jH _
  have hu1 : Up q.1 := (eX.1 hu).1;rw [e] at hu1;intro z hz;rw [e] at hz;exact jH.le_tr (PE hu1 z hz) (yC7 hc)
theorem XZ {l : List W} {a i : Nat} {x y : W} {S : List W} {q : List W × List W} (h : zQ6 l a i x q) (e : q.1 = S ++ [y]) (hc : eN x y < 0) : zQ6 l a i x (S,y :: q.2) := by
  refine ⟨?_,fun z hz => ?_⟩
  · rw [← h.eq,e];simp
  · rcases bS.1 hz with rfl | hz
    · exact hc
    · exact h.gt z hz
end Go.Ld
namespace Go.Proofs.YtmmmeebiobjnbaaGreat
open Go Go.Ab Go.Ld
attribute [local irreducible] VC AW cF aS
set_option maxHeartbeats 4000000
theorem zQ7 (l : List W) : (gE l).flatten.all AV.one = true := by
  induction l with
  | nil => rfl
  | cons x l ih => simp only [List.map_cons,eL,List.all_append,ih];rfl
theorem bU (l : List W) : ∀ e,e ∈ gE l → AV.idfL e = true := by
  intro e he;obtain ⟨x,_,rfl⟩ := bC.1 he;rfl
theorem lJ : ∀ i : Nat,i < 1 → ([0] : List Nat)[i]? = some i := by decide
abbrev rU : AV := .clo (.func 93) [] []
theorem KI (l : List W) (a b : Nat) (hab : a ≤ b) (hb : b ≤ l.length) (hl : l.length ≤ 100000) (hw : ∀ w,w ∈ l → L9 w) :
    aS Tryz.prog 147 [.sl 0 0 l.length 3,.i a,.i b,rU] [.arr (gE l) 3] (.tup []) [.arr (gE (UV l a b)) 3] := by
  rcases jC a b with hlt | hge
  · refine bW T Tryz.func147 rfl rfl rfl rfl ?_
    (repeat' (first|refine wS ?_|refine wB ?_|(refine iA 0 rfl rfl rfl (by omega) (by omega) ?_)|refine nZ ?_));refine dQ (X := {i : Nat // a + 1 ≤ i ∧ i ≤ b}) (fun i => [(0,.sl 0 0 l.length 3),(1,.i a),(2,.i b),(3,rU),(8,.i i.1)]) (fun i => [.arr (gE (UV l a i.1)) 3]) (fun i => b - i.1) ⟨a + 1,by omega,by omega⟩ ⟨[0],rfl,by (repeat (first | exact trivial | refine ⟨rfl,?_⟩)),⟨.inr (aC rfl (by dsimp only;rw [zE8 (by omega)]) (bU _)),trivial⟩,by decide,lJ⟩ ?_
    rintro ⟨i,h1,h2⟩;dsimp only;by_cases hi : i < b
    · (repeat' (first|refine wS ?_|refine wB ?_|refine wK ?_|(refine wC rfl (fun hb => ?_) (fun hb => ?_) <;> (((try simp only [nm] at hb);try (exfalso;omega))))|(refine rg 1 (dH rfl (vV (aM rfl rfl) ?_)))|(refine rg 3 (mW rfl (aV ?_)))|(refine nZ ?_)));all_goals try (exfalso;omega)
      have hil : i < l.length := by omega
      obtain ⟨x,hx⟩ : ∃ x,l[i]? = some x := ⟨_,aB hil⟩;obtain ⟨s1,s2⟩ := TM (a := a) (by omega) hil hx
      refine dQ (X := {q : List W × List W // zQ6 l a i x q}) (fun q => [(0,.sl 0 0 l.length 3),(1,.i a),(2,.i b),(3,rU),(8,.i i),(9,.i ((a + q.1.1.length : Nat) : Int))]) (fun q => [.arr (gE (vS l a i x q.1)) 3]) (fun q => q.1.1.length) ⟨_,s1⟩ ⟨[0],rfl,⟨rfl,rfl,rfl,rfl,rfl,by dsimp only;rw [iV,bG,dD,show a + min (i - a) (l.length - a) = i by omega];rfl,trivial⟩,⟨.inr (aC rfl (by dsimp only;rw [s2]) (bU _)),trivial⟩,by decide,lJ⟩ ?_
      rintro ⟨⟨S1,S2⟩,hq⟩;dsimp only;have hln := QI hq (by omega) hil
      dsimp only at hln;have hwx : L9 x := hw x (aN hx);have hal : (l.take a).length = a := by rw [bG];omega
      rcases List.eq_nil_or_concat S1 with rfl | ⟨S,y,rfl⟩
      · have ee := XY hq (by omega) hil hx (fun y hy => by cases hy)
        have hJ : ((a + ([] : List W).length : Nat) : Int) = a := by simp
        generalize ((a + ([] : List W).length : Nat) : Int) = J at *;generalize vS l a i x ([],S2) = L at *
        (repeat' (first|refine wS ?_|refine wE ?_|refine wU ?_|(refine cH (id := 4) 53 yK2 (rM 18 17) yK3 cO rfl (by decide +kernel) (dN rfl (dN rfl (dV rfl (V5 rfl rfl (by omega)) (dN rfl (tG rfl (tG rfl (tG rfl (tG rfl (dG ?_)))))))));refine tG rfl (tG rfl (tG rfl (tG rfl (tG rfl (tG rfl (tG rfl (dV rfl (fD rfl rfl) (dE ?_)))))))))|(refine iA 2 rfl rfl rfl (by omega) (by omega) ?_)|refine nZ ?_));all_goals first | (exfalso;omega) | exact ⟨⟨i + 1,by omega,by omega⟩,by dsimp only;omega,⟨[0],rfl,by (repeat (first | exact trivial | refine ⟨rfl,?_⟩)),⟨.inr (aC rfl (by dsimp only;rw [ee]) (bU _)),trivial⟩,by decide,lJ⟩⟩
      · rw [List.concat_eq_append] at *;have hy : y ∈ l := by
          have h3 : y ∈ eC eN ((l.drop a).take (i - a)) := by rw [← hq.eq];simp
          exact dY (eK ((dK _ _).mem_iff.1 h3))
        have hc := xA x y hwx (hw y hy);have hL : vS l a i x (S ++ [y],S2) = (l.take a ++ S) ++ y :: x :: (S2 ++ l.drop (i + 1)) := by unfold vS;simp
        have hJ : ((a + (S ++ [y]).length : Nat) : Int) = ((a + S.length + 1 : Nat) : Int) := by simp;omega
        have hAl : a + S.length = (l.take a ++ S).length := by rw [aF,hal]
        have hlen := YB hq (by omega) hil
        by_cases h0 : eN x y < 0
        · have ee := XZ hq rfl h0;have q1 := pK (L := vS l a i x (S ++ [y],S2)) (j := ((a + (S ++ [y]).length : Nat) : Int)) (i := a + S.length + 1) (x := x) (by rw [hL,show (l.take a ++ S) ++ y :: x :: (S2 ++ l.drop (i + 1)) = ((l.take a ++ S) ++ [y]) ++ x :: (S2 ++ l.drop (i + 1)) by simp];exact nL _ _ _ (by simp;omega)) hJ
          have q2 := pK (L := vS l a i x (S ++ [y],S2)) (j := ((a + (S ++ [y]).length : Nat) : Int) - 1) (i := a + S.length) (x := y) (by rw [hL];exact nL _ _ _ hAl) (by omega)
          have t1 := wO (L := vS l a i x (S ++ [y],S2)) (j := ((a + (S ++ [y]).length : Nat) : Int)) (i := a + S.length + 1) (x := y) hJ;have e1 : (vS l a i x (S ++ [y],S2)).set (a + S.length + 1) y = (l.take a ++ S) ++ y :: y :: (S2 ++ l.drop (i + 1)) := by
            rw [hL,show (l.take a ++ S) ++ y :: x :: (S2 ++ l.drop (i + 1)) = ((l.take a ++ S) ++ [y]) ++ x :: (S2 ++ l.drop (i + 1)) by simp,nX _ _ _ _ (by simp;omega)];simp
          rw [e1] at t1;have q3 := pK (L := (l.take a ++ S) ++ y :: y :: (S2 ++ l.drop (i + 1))) (j := ((a + (S ++ [y]).length : Nat) : Int) - 1) (i := a + S.length) (x := y) (nL _ _ _ hAl) (by omega)
          have t2 := wO (L := (l.take a ++ S) ++ y :: y :: (S2 ++ l.drop (i + 1))) (j := ((a + (S ++ [y]).length : Nat) : Int) - 1) (i := a + S.length) (x := x) (by omega)
          rw [nX _ _ _ _ hAl,show (l.take a ++ S) ++ x :: y :: (S2 ++ l.drop (i + 1)) = vS l a i x (S,y :: S2) by unfold vS;simp,← t1] at t2
          rw [← t1] at q3;have hJ2 : ((a + (S ++ [y]).length : Nat) : Int) - 1 = ((a + S.length : Nat) : Int) := by omega
          have hJ3 : ((a + (S ++ [y]).length : Nat) : Int) < l.length := by omega
          have hJ4 : (a : Int) < ((a + (S ++ [y]).length : Nat) : Int) := by omega
          clear hJ hL;generalize ((a + (S ++ [y]).length : Nat) : Int) = J at *;generalize eN x y = z at *;generalize vS l a i x (S ++ [y],S2) = L at *
          (repeat' (first|refine wS ?_|refine wB ?_|refine wK ?_|(refine wC rfl ?_ ?_<;>(intro hb;(try simp only [nm] at hb);try (exfalso;omega)))|(refine cH (id := 4) 53 yK2 (rM 18 17) yK3 cO rfl (by decide +kernel) (dN rfl (dN rfl (dV rfl (eU rfl rfl) (dM ?_))));refine kX rfl rfl rfl rfl ?_ ?_<;>(intro hb;rw [hb];(try simp only [nm] at hb);try (exfalso;omega))<;>(refine tM ?_);(all_goals (refine tN rfl (tN rfl (dT rfl (by exact aK T rfl rfl rfl rfl rfl (by omega) (by omega)) ?_));refine dT rfl (by exact aJ T rfl rfl (bM rfl q1) rfl) ?_;refine tN rfl (tN rfl (dT rfl (cP rfl rfl (by omega) (by omega)) (dT rfl (by exact aK T rfl rfl rfl rfl rfl (by omega) (by omega)) ?_)));refine dT rfl (by exact aJ T rfl rfl (bM rfl q2) rfl) ?_;refine dT rfl (kC (hc)) (dT rfl (aM rfl rfl) (dV rfl (iT rfl rfl) (dE ?_))))))|(refine nC (id := 6) 53 yK4 (rM 37 15) yK5 [(15,0)] cO rfl (by decide +kernel) (cN rfl rfl rfl rfl (by exact bN rfl) ?_);refine cN rfl rfl rfl rfl (by exact bN rfl) ?_;refine cN rfl rfl rfl rfl (by exact bN rfl) ?_;refine cN rfl rfl rfl rfl (by exact bN rfl) ?_;refine cN rfl rfl rfl rfl (by exact cP rfl rfl (by omega) (by omega)) ?_;refine cN rfl rfl rfl rfl (by exact bN rfl) ?_;refine cN rfl rfl rfl rfl (by exact bN rfl) ?_;refine cN rfl rfl rfl rfl (by exact cP rfl rfl (by omega) (by omega)) ?_;refine cN rfl rfl rfl rfl (by exact aK T rfl rfl rfl rfl rfl (by omega) (by omega)) ?_;refine cN rfl rfl rfl rfl (by exact aJ T rfl rfl (bM rfl q2) rfl) ?_;refine cN rfl rfl rfl rfl (by exact bN rfl) ?_;refine cN rfl rfl rfl rfl (by exact bN rfl) ?_;refine cN rfl rfl rfl rfl (by exact aK T rfl rfl rfl rfl rfl (by omega) (by omega)) ?_;refine cN rfl rfl rfl rfl (by exact aJ T rfl rfl (bM rfl q1) rfl) ?_;refine cN rfl rfl rfl rfl (by exact aK T rfl rfl rfl rfl rfl (by omega) (by omega)) ?_;refine uV rfl rfl rfl rfl (aG rfl) T rfl rfl rfl rfl rfl rfl (by decide) (tY rfl q1 rfl) ?_;refine rJ rfl rfl rfl (by exact rfl) ?_;refine vV (by exact aK T rfl rfl rfl rfl rfl (by omega) (by omega)) ?_;refine bA T rfl rfl rfl rfl rfl rfl (by decide) (lZ rfl q3 rfl) ?_)|(refine rg 5 (mW rfl (vV (cP rfl rfl (by omega) (by omega)) (aV ?_))))|refine nZ ?_));all_goals first | (exfalso;omega) | exact ⟨⟨_,ee⟩,by dsimp only;simp,⟨[0],rfl,⟨rfl,rfl,rfl,rfl,rfl,by dsimp only;rw [← hJ2];try rfl,trivial⟩,⟨.inr (aC rfl (by dsimp only;rw [← t2];try rfl) (bU _)),trivial⟩,by decide,lJ⟩⟩
        · have ee := XY hq (by omega) hil hx (zJ4 hq rfl h0)
          have q1 := pK (L := vS l a i x (S ++ [y],S2)) (j := ((a + (S ++ [y]).length : Nat) : Int)) (i := a + S.length + 1) (x := x) (by rw [hL,show (l.take a ++ S) ++ y :: x :: (S2 ++ l.drop (i + 1)) = ((l.take a ++ S) ++ [y]) ++ x :: (S2 ++ l.drop (i + 1)) by simp];exact nL _ _ _ (by simp;omega)) hJ
          have q2 := pK (L := vS l a i x (S ++ [y],S2)) (j := ((a + (S ++ [y]).length : Nat) : Int) - 1) (i := a + S.length) (x := y) (by rw [hL];exact nL _ _ _ hAl) (by omega)
          have hJ3 : ((a + (S ++ [y]).length : Nat) : Int) < l.length := by omega
          have hJ4 : (a : Int) < ((a + (S ++ [y]).length : Nat) : Int) := by omega
          clear hJ hL;generalize ((a + (S ++ [y]).length : Nat) : Int) = J at *;generalize eN x y = z at *;generalize vS l a i x (S ++ [y],S2) = L at *
          (repeat' (first|refine wS ?_|refine wE ?_|(refine wC rfl ?_ ?_<;>(intro hb;(try simp only [nm] at hb);try (exfalso;omega)))|(refine cH (id := 4) 53 yK2 (rM 18 17) yK3 cO rfl (by decide +kernel) (dN rfl (dN rfl (dV rfl (eU rfl rfl) (dM ?_))));refine kX rfl rfl rfl rfl ?_ ?_<;>(intro hb;rw [hb];(try simp only [nm] at hb);try (exfalso;omega))<;>(refine tM ?_);(all_goals (refine tN rfl (tN rfl (dT rfl (by exact aK T rfl rfl rfl rfl rfl (by omega) (by omega)) ?_));refine dT rfl (by exact aJ T rfl rfl (bM rfl q1) rfl) ?_;refine tN rfl (tN rfl (dT rfl (cP rfl rfl (by omega) (by omega)) (dT rfl (by exact aK T rfl rfl rfl rfl rfl (by omega) (by omega)) ?_)));refine dT rfl (by exact aJ T rfl rfl (bM rfl q2) rfl) ?_;refine dT rfl (kC (hc)) (dT rfl (aM rfl rfl) (dV rfl (iT rfl rfl) (dE ?_))))))|(refine iA 2 rfl rfl rfl (by omega) (by omega) ?_)|refine nZ ?_));all_goals first | (exfalso;omega) | exact ⟨⟨i + 1,by omega,by omega⟩,by dsimp only;omega,⟨[0],rfl,by (repeat (first | exact trivial | refine ⟨rfl,?_⟩)),⟨.inr (aC rfl (by dsimp only;rw [ee]) (bU _)),trivial⟩,by decide,lJ⟩⟩
    · obtain rfl : i = b := by omega
      (repeat' (first|refine wS ?_|refine wE ?_|(refine wC rfl ?_ ?_<;>(intro hb;(try simp only [nm] at hb);try (exfalso;omega)))|(refine rg 1 (dH rfl (vV (aM rfl rfl) ?_)))|refine nZ ?_));all_goals first | (exfalso;omega) | exact ⟨.inl rfl,[0],_,rfl,rfl,rfl,⟨.inr (aC rfl rfl (bU _)),trivial⟩,by decide,lJ⟩ | exact ⟨.inr rfl,[0],_,rfl,rfl,rfl,⟨.inr (aC rfl rfl (bU _)),trivial⟩,by decide,lJ⟩
  · obtain rfl : a = b := by omega
    rw [VX hb];refine bW T Tryz.func147 rfl rfl rfl rfl ?_
    (repeat' (first|refine wS ?_|refine wB ?_|(refine iA 0 rfl rfl rfl (by omega) (by omega) ?_)|refine nZ ?_));refine dQ (X := Unit) (fun _ => [(0,.sl 0 0 l.length 3),(1,.i a),(2,.i a),(3,rU),(8,.i ((a : Int) + 1))]) (fun _ => [.arr (gE l) 3]) (fun _ => 0) () ⟨[0],rfl,by (repeat (first | exact trivial | refine ⟨rfl,?_⟩)),⟨.inr (aC rfl rfl (bU _)),trivial⟩,by decide,lJ⟩ ?_
    intro _;dsimp only
    (repeat' (first|refine wS ?_|refine wE ?_|(refine wC rfl ?_ ?_<;>(intro hb;(try simp only [nm] at hb);try (exfalso;omega)))|(refine rg 1 (dH rfl (vV (aM rfl rfl) ?_)))|refine nZ ?_));all_goals first | (exfalso;omega) | exact ⟨.inl rfl,[0],_,rfl,rfl,rfl,⟨.inr (aC rfl rfl (bU _)),trivial⟩,by decide,lJ⟩ | exact ⟨.inr rfl,[0],_,rfl,rfl,rfl,⟨.inr (aC rfl rfl (bU _)),trivial⟩,by decide,lJ⟩
end Go.Proofs.YtmmmeebiobjnbaaGreat
namespace Go.Ld
open Go.Ab Go.Proofs.YtmmmeebiobjnbaaGreat
def IG (P X Q Y R : List W) (k : Nat) : List W := P ++ ((Y.take k ++ X.drop k) ++ (Q ++ ((X.take k ++ Y.drop k) ++ R)))
theorem zZ3 (P X Q Y R : List W) : IG P X Q Y R 0 = P ++ (X ++ (Q ++ (Y ++ R))) := by simp [IG]
theorem zZ2 {P X Q Y R : List W} {n : Nat} (h1 : X.length = n) (h2 : Y.length = n) : IG P X Q Y R n = P ++ (Y ++ (Q ++ (X ++ R))) := by
  unfold IG;rw [bR (by omega),bR (by omega),cY (by omega),cY (by omega)];simp
theorem yD5 {X1 X2 : List W} {x : W} {k : Nat} (h : X1.length = k) : (X1 ++ x :: X2).take k = X1 ∧ (X1 ++ x :: X2).drop k = x :: X2 ∧ (X1 ++ x :: X2).take (k + 1) = X1 ++ [x] ∧ (X1 ++ x :: X2).drop (k + 1) = X2 := by
  subst h;refine ⟨wH,wI,?_,?_⟩
  · rw [show X1 ++ x :: X2 = (X1 ++ [x]) ++ X2 by simp,show X1.length + 1 = (X1 ++ [x]).length by simp,wH]
  · rw [show X1 ++ x :: X2 = (X1 ++ [x]) ++ X2 by simp,show X1.length + 1 = (X1 ++ [x]).length by simp,wI]
theorem MV {X : List W} {k : Nat} (h : k < X.length) : ∃ X1 x X2,X = X1 ++ x :: X2 ∧ X1.length = k := ⟨X.take k,X[k],X.drop (k + 1),by simp,by simp;omega⟩
theorem VQ {P X Q Y R : List W} {n k : Nat} (h1 : X.length = n) (h2 : Y.length = n) (hk : k < n) : ∃ x y,x ∈ X ∧ y ∈ Y ∧ (IG P X Q Y R k)[P.length + k]? = some x ∧ (IG P X Q Y R k)[P.length + n + Q.length + k]? = some y ∧
    ((IG P X Q Y R k).set (P.length + k) y)[P.length + n + Q.length + k]? = some y ∧ ((IG P X Q Y R k).set (P.length + k) y).set (P.length + n + Q.length + k) x = IG P X Q Y R (k + 1) := by
  obtain ⟨X1,x,X2,rfl,hx⟩ := MV (show k < X.length by omega)
  obtain ⟨Y1,y,Y2,rfl,hy⟩ := MV (show k < Y.length by omega)
  obtain ⟨a1,a2,a3,a4⟩ := yD5 (x := x) (X2 := X2) hx;obtain ⟨b1,b2,b3,b4⟩ := yD5 (x := y) (X2 := Y2) hy;simp only [aF,List.length_cons] at h1 h2;have e : IG P (X1 ++ x :: X2) Q (Y1 ++ y :: Y2) R k = (P ++ Y1) ++ x :: (X2 ++ (Q ++ (X1 ++ y :: (Y2 ++ R)))) := by
    unfold IG;rw [a1,a2,b1,b2];simp
  have e1 : (IG P (X1 ++ x :: X2) Q (Y1 ++ y :: Y2) R k).set (P.length + k) y = ((P ++ Y1) ++ y :: (X2 ++ (Q ++ X1))) ++ y :: (Y2 ++ R) := by
    rw [e,nX _ _ _ _ (by simp;omega)];simp
  have l1 : P.length + n + Q.length + k = ((P ++ Y1) ++ y :: (X2 ++ (Q ++ X1))).length := by
    simp only [aF,List.length_cons];omega
  refine ⟨x,y,by simp,by simp,?_,?_,?_,?_⟩
  · rw [e];exact nL _ _ _ (by simp;omega)
  · rw [e,show (P ++ Y1) ++ x :: (X2 ++ (Q ++ (X1 ++ y :: (Y2 ++ R)))) = ((P ++ Y1) ++ x :: (X2 ++ (Q ++ X1))) ++ y :: (Y2 ++ R) by simp]
    exact nL _ _ _ (by simp only [aF,List.length_cons];omega)
  · rw [e1];exact nL _ _ _ l1
  · rw [e1,nX _ _ _ _ l1];unfold IG;rw [a3,a4,b3,b4];simp
end Go.Ld
namespace Go.Proofs.YtmmmeebiobjnbaaGreat
open Go Go.Ab Go.Ld
attribute [local irreducible] VC AW cF aS
set_option maxHeartbeats 4000000
theorem FB (P X Q Y R : List W) {n a b N : Nat} (h1 : X.length = n) (h2 : Y.length = n) (ha : a = P.length) (hb : b = P.length + n + Q.length) (hN : N = P.length + (n + (Q.length + (n + R.length)))) (hl : N ≤ 100000) :
    aS Tryz.prog 162 [.sl 0 0 N 3,.i a,.i b,.i n,rU] [.arr (gE (P ++ (X ++ (Q ++ (Y ++ R))))) 3] (.tup []) [.arr (gE (P ++ (Y ++ (Q ++ (X ++ R))))) 3] := by
  refine bW T Tryz.func162 rfl rfl rfl rfl ?_
  (repeat' (first|refine wS ?_|refine wB ?_|(refine rg 0 (aV ?_))|refine nZ ?_));refine dQ (X := {k : Nat // k ≤ n}) (fun k => [(0,.sl 0 0 N 3),(1,.i a),(2,.i b),(3,.i n),(4,rU),(10,.i k.1)]) (fun k => [.arr (gE (IG P X Q Y R k.1)) 3]) (fun k => n - k.1) ⟨0,by omega⟩ ⟨[0],rfl,by (repeat (first | exact trivial | refine ⟨rfl,?_⟩)),⟨.inr (aC rfl (by dsimp only;rw [zZ3]) (bU _)),trivial⟩,by decide,lJ⟩ ?_
  rintro ⟨k,hk⟩;dsimp only;by_cases hlt : k < n
  · obtain ⟨x,y,_,_,p1,p2,p3,p4⟩ := VQ (P := P) (Q := Q) (R := R) h1 h2 hlt;have q1 := pK (j := (a : Int) + (k : Int)) p1 (by omega)
    have q2 := pK (j := (b : Int) + (k : Int)) p2 (by omega)
    have t1 := wO (L := IG P X Q Y R k) (j := (a : Int) + (k : Int)) (i := P.length + k) (x := y) (by omega)
    have q3 := pK (j := (b : Int) + (k : Int)) p3 (by omega)
    have t2 := wO (L := (IG P X Q Y R k).set (P.length + k) y) (j := (b : Int) + (k : Int)) (i := P.length + n + Q.length + k) (x := x) (by omega)
    rw [← t1] at q3 t2;rw [p4] at t2;clear p1 p2 p3 p4 t1;generalize IG P X Q Y R k = L at *
    (repeat' (first|refine wS ?_|refine wB ?_|refine wK ?_|(refine wC rfl ?_ ?_<;>(intro hb;(try simp only [nm] at hb);try (exfalso;omega)))|(refine rg 1 (dH rfl (vV (aM rfl rfl) ?_)))|(refine nC (id := 3) 38 [[],[],[],[1,2],[],[],[],[5,6],[],[],[],[9,10],rM 8 4,rM 8 5,[],[],[],[15,16],rM 14 4,rM 14 5,[0,1,2,3,8,9,10,11,12,13,14,15,16,17,18,19],[0,1,2,3,8,9,10,11,12,13,14,15,16,17,18,19,20]] (rM 16 21) [[],[16],[16,17],[16],rM 16 4,rM 16 5,rM 16 6,rM 16 5,rM 16 8,rM 16 9,rM 16 10,rM 16 9,rM 16 8,rM 16 8,rM 16 14,rM 16 15,rM 16 16,rM 16 15,rM 16 14,rM 16 14,rM 20 4,rM 20 4] [(21,0)] cO rfl (by decide +kernel) (cN rfl rfl rfl rfl (by exact bN rfl) ?_);refine cN rfl rfl rfl rfl (by exact bN rfl) ?_;refine cN rfl rfl rfl rfl (by exact bN rfl) ?_;refine cN rfl rfl rfl rfl (by exact cC rfl rfl (by omega) (by omega)) ?_;refine cN rfl rfl rfl rfl (by exact bN rfl) ?_;refine cN rfl rfl rfl rfl (by exact bN rfl) ?_;refine cN rfl rfl rfl rfl (by exact bN rfl) ?_;refine cN rfl rfl rfl rfl (by exact cC rfl rfl (by omega) (by omega)) ?_;refine cN rfl rfl rfl rfl (by exact bN rfl) ?_;refine cN rfl rfl rfl rfl (by exact bN rfl) ?_;refine cN rfl rfl rfl rfl (by exact bN rfl) ?_;refine cN rfl rfl rfl rfl (by exact cC rfl rfl (by omega) (by omega)) ?_;refine cN rfl rfl rfl rfl (by exact aK T rfl rfl rfl rfl rfl (by omega) (by omega)) ?_;refine cN rfl rfl rfl rfl (by exact aJ T rfl rfl (bM rfl q2) rfl) ?_;refine cN rfl rfl rfl rfl (by exact bN rfl) ?_;refine cN rfl rfl rfl rfl (by exact bN rfl) ?_;refine cN rfl rfl rfl rfl (by exact bN rfl) ?_;refine cN rfl rfl rfl rfl (by exact cC rfl rfl (by omega) (by omega)) ?_;refine cN rfl rfl rfl rfl (by exact aK T rfl rfl rfl rfl rfl (by omega) (by omega)) ?_;refine cN rfl rfl rfl rfl (by exact aJ T rfl rfl (bM rfl q1) rfl) ?_;refine cN rfl rfl rfl rfl (by exact aK T rfl rfl rfl rfl rfl (by omega) (by omega)) ?_;refine uV rfl rfl rfl rfl (aG rfl) T rfl rfl rfl rfl rfl rfl (by decide) (tY rfl q1 rfl) ?_;refine rJ rfl rfl rfl (by exact rfl) ?_;refine vV (by exact aK T rfl rfl rfl rfl rfl (by omega) (by omega)) ?_;refine bA T rfl rfl rfl rfl rfl rfl (by decide) (lZ rfl q3 rfl) ?_)|(refine iA 2 rfl rfl rfl (by omega) (by omega) ?_)|refine nZ ?_));all_goals first | (exfalso;omega) | exact ⟨⟨k + 1,by omega⟩,by dsimp only;omega,⟨[0],rfl,by (repeat (first | exact trivial | refine ⟨rfl,?_⟩)),⟨.inr (aC rfl (by dsimp only;rw [← t2];try rfl) (bU _)),trivial⟩,by decide,lJ⟩⟩
  · obtain rfl : k = n := by omega
    have e := zZ2 (P := P) (Q := Q) (R := R) h1 h2
    (repeat' (first|refine wS ?_|refine wE ?_|(refine wC rfl ?_ ?_<;>(intro hb;(try simp only [nm] at hb);try (exfalso;omega)))|(refine rg 1 (dH rfl (vV (aM rfl rfl) ?_)))|refine nZ ?_));all_goals first | (exfalso;omega) | exact ⟨.inl rfl,[0],_,rfl,rfl,rfl,⟨.inr (aC rfl (by rw [e]) (bU _)),trivial⟩,by decide,lJ⟩ | exact ⟨.inr rfl,[0],_,rfl,rfl,rfl,⟨.inr (aC rfl (by rw [e]) (bU _)),trivial⟩,by decide,lJ⟩
theorem WJ (P X Y R : List W) {a m b N : Nat} (ha : a = P.length) (hm : m = P.length + X.length) (hb : b = P.length + X.length + Y.length) (hN : N = b + R.length) (hl : N ≤ 100000) (hX : 0 < X.length) (hY : 0 < Y.length) :
    aS Tryz.prog 158 [.sl 0 0 N 3,.i a,.i m,.i b,rU] [.arr (gE (P ++ (X ++ (Y ++ R)))) 3] (.tup []) [.arr (gE (P ++ (Y ++ (X ++ R)))) 3] := by
  refine bW T Tryz.func158 rfl rfl rfl rfl ?_
  (repeat' (first|refine wS ?_|refine wB ?_|(refine rg 0 (dH rfl (vV (cP rfl rfl (by omega) (by omega)) (aV ?_))))|(refine rg 1 (dH rfl (vV (cP rfl rfl (by omega) (by omega)) (aV ?_))))|refine nZ ?_));refine dQ (X := {q : List W × List W × List W × List W // q.1 ++ (q.2.2.1 ++ (q.2.1 ++ q.2.2.2)) = P ++ (Y ++ (X ++ R)) ∧ q.1.length + q.2.1.length = m ∧ m + q.2.2.1.length + q.2.2.2.length = N ∧ 0 < q.2.1.length ∧ 0 < q.2.2.1.length})
    (fun q => [(0,.sl 0 0 N 3),(1,.i a),(2,.i m),(3,.i b),(4,rU),(10,.i q.1.2.1.length),(11,.i q.1.2.2.1.length)]) (fun q => [.arr (gE (q.1.1 ++ (q.1.2.1 ++ (q.1.2.2.1 ++ q.1.2.2.2)))) 3]) (fun q => q.1.2.1.length + q.1.2.2.1.length) ⟨(P,X,Y,R),by dsimp only;exact ⟨rfl,by omega,by omega,hX,hY⟩⟩
    ⟨[0],rfl,⟨rfl,rfl,rfl,rfl,rfl,by dsimp only;rw [show (X.length : Int) = (m : Int) - (a : Int) by omega];rfl,by dsimp only;rw [show (Y.length : Int) = (b : Int) - (m : Int) by omega];rfl,trivial⟩,⟨.inr (aC rfl rfl (bU _)),trivial⟩,by decide,lJ⟩ ?_
  rintro ⟨⟨P1,X1,Y1,R1⟩,h1,h2,h3,h4,h5⟩;dsimp only at h1 h2 h3 h4 h5 ⊢;have hsb : ((P1.length : Nat) : Int) = (m : Int) - (X1.length : Int) := by omega
  by_cases hij : X1.length = Y1.length
  · have hc := FB P1 X1 [] Y1 R1 (n := X1.length) (a := P1.length) (b := m) (N := N) rfl hij.symm rfl (by simp;omega) (by simp;omega) hl
    rw [List.nil_append,List.nil_append,hsb,h1] at hc
    (repeat' (first|refine wS ?_|refine wE ?_|refine wU ?_|(refine rg 2 (dH rfl (vV (C1 rfl rfl (by omega)) ?_)))|(refine rg 8 (dH rfl (mW rfl (vV (cP rfl rfl (by omega) (by omega)) (dH rfl (mW rfl (eP [0] rfl rfl (hc) rfl rfl (by decide) ⟨.inr (aC rfl rfl (bU _)),trivial⟩ (by simp) rfl ?_)))))))|refine nZ ?_));all_goals first | (exfalso;omega) | exact ⟨.inl rfl,[0],_,rfl,rfl,rfl,⟨.inr (aC rfl (bE _ (bU _)) (bU _)),trivial⟩,by decide,lJ⟩ | exact ⟨.inr rfl,[0],_,rfl,rfl,rfl,⟨.inr (aC rfl (bE _ (bU _)) (bU _)),trivial⟩,by decide,lJ⟩
  · by_cases hgt : Y1.length < X1.length
    · -- a part of the left side goes to the end
      obtain ⟨A,B,rfl,hA⟩ : ∃ A B,X1 = A ++ B ∧ A.length = Y1.length := ⟨X1.take Y1.length,X1.drop Y1.length,by simp,by simp;omega⟩
      rw [aF] at *;have hc := FB P1 A B Y1 R1 (n := Y1.length) (a := P1.length) (b := m) (N := N) hA rfl rfl (by omega) (by omega) hl
      rw [hsb] at hc;rw [bV]
      (repeat' (first|refine wS ?_|refine wB ?_|refine wK ?_|refine wT ?_|(refine rg 2 (dH rfl (vV (V0 rfl rfl (by omega)) ?_)))|(refine rg 3 (dH rfl (vV (QP rfl rfl (by omega)) ?_)))|(refine rg 4 (dH rfl (mW rfl (vV (cP rfl rfl (by omega) (by omega)) (dH rfl (mW rfl (eP [0] rfl rfl (hc) rfl rfl (by decide) ⟨.inr (aC rfl rfl (bU _)),trivial⟩ (by simp) rfl ?_)))))))|(refine rg 5 (dH rfl (vV (cP rfl rfl (by omega) (by omega)) (aV ?_))))|refine nZ ?_));all_goals first | (exfalso;omega) | skip
      refine ⟨⟨(P1 ++ Y1,B,A,R1),by dsimp only;refine ⟨by rw [← h1];simp,?_,?_,?_,?_⟩ <;> (try simp only [aF]) <;> omega⟩,by dsimp only;omega,⟨[0],rfl,⟨rfl,rfl,rfl,rfl,rfl,by dsimp only;rw [show (B.length : Int) = ((A.length + B.length : Nat) : Int) - (Y1.length : Int) by omega];rfl,by dsimp only;rw [hA];rfl,trivial⟩,⟨.inr (aC rfl (by rw [bE _ (bU _)];simp) (bU _)),trivial⟩,by decide,lJ⟩⟩
    · -- a part of the right side goes to the front
      obtain ⟨A,B,rfl,hA⟩ : ∃ A B,Y1 = A ++ B ∧ B.length = X1.length := ⟨Y1.take (Y1.length - X1.length),Y1.drop (Y1.length - X1.length),by simp,by simp;omega⟩
      rw [aF] at *;have hc := FB P1 X1 A B R1 (n := X1.length) (a := P1.length) (b := m + A.length) (N := N) rfl hA rfl (by omega) (by omega) hl
      rw [hsb,show ((m + A.length : Nat) : Int) = (m : Int) + ((A.length + B.length : Nat) : Int) - (X1.length : Int) by omega] at hc
      rw [bV]
      (repeat' (first|refine wS ?_|refine wB ?_|refine wK ?_|refine wT ?_|refine wU ?_|(refine rg 2 (dH rfl (vV (V0 rfl rfl (by omega)) ?_)))|(refine rg 3 (dH rfl (vV (V5 rfl rfl (by omega)) ?_)))|(refine rg 6 (dH rfl (mW rfl (vV (cP rfl rfl (by omega) (by omega)) (dH rfl (vV (cC rfl rfl (by omega) (by omega)) (mW rfl (vV (cP rfl rfl (by omega) (by omega)) (dH rfl (eP [0] rfl rfl (hc) rfl rfl (by decide) ⟨.inr (aC rfl rfl (bU _)),trivial⟩ (by simp) rfl ?_))))))))))|(refine rg 7 (dH rfl (vV (cP rfl rfl (by omega) (by omega)) (aV ?_))))|refine nZ ?_));all_goals first | (exfalso;omega) | skip
      refine ⟨⟨(P1,B,A,X1 ++ R1),by dsimp only;refine ⟨by rw [← h1];simp,?_,?_,?_,?_⟩ <;> (try simp only [aF]) <;> omega⟩,by dsimp only;omega,⟨[0],rfl,⟨rfl,rfl,rfl,rfl,rfl,by dsimp only;rw [hA];rfl,by dsimp only;rw [show (A.length : Int) = ((A.length + B.length : Nat) : Int) - (X1.length : Int) by omega];rfl,trivial⟩,⟨.inr (aC rfl (by rw [bE _ (bU _)]) (bU _)),trivial⟩,by decide,lJ⟩⟩
end Go.Proofs.YtmmmeebiobjnbaaGreat
namespace Go.Ld
open Go.Ab Go.Proofs.YtmmmeebiobjnbaaGreat
theorem RZ {V : List W} {i : Nat} {z : W} (h0 : 0 < i) (h : V[i - 1]? = some z) : V.take i = V.take (i - 1) ++ [z] := by
  conv => lhs;rw [show i = (i - 1) + 1 by omega]
  rw [zC4,h];rfl
theorem zM1 {V : List W} {i : Nat} {z : W} (h : V[i]? = some z) : V.drop i = z :: V.drop (i + 1) := by
  obtain ⟨hi,e⟩ := aA.1 h;rw [aT hi,e]
theorem PD {V : List W} {i : Nat} (hu : Up V) {x y z : W} (h0 : 0 < i) (h : V[i - 1]? = some z) (hy : y ∈ V.take i) (hz : eN z x ≤ 0) : eN y x ≤ 0 := by
  have h1 : Up (V.take i) := hu.sublist (List.take_sublist _ _);rw [RZ h0 h] at h1 hy;exact jH.le_tr (PE h1 y hy) hz
theorem PF {V : List W} {i : Nat} (hu : Up V) {x y z : W} (h : V[i]? = some z) (hy : y ∈ V.drop i) (hz : eN x z ≤ 0) : eN x y ≤ 0 := by
  have h1 : Up (V.drop i) := hu.sublist (List.drop_sublist _ _);rw [zM1 h] at h1 hy;exact jH.le_tr hz (zD7 h1 y hy)
theorem sD {V : List W} {i : Nat} {y : W} (h : y ∈ V.take i) (hi : i ≤ V.length) : 0 < i ∧ ∃ z,V[i - 1]? = some z := by
  have : 0 < i := by
    rcases L4 i with rfl | h0
    · simp at h
    · exact h0
  exact ⟨this,_,aB (by omega)⟩
theorem uF {V : List W} {i : Nat} {y : W} (h : y ∈ V.drop i) : ∃ z,V[i]? = some z := by
  have : i < V.length := by
    rcases jC i V.length with h0 | h0
    · exact h0
    · rw [cY h0] at h;cases h
  exact ⟨_,aB this⟩
theorem zT7 {u : W} {V : List W} {i : Nat} (hi : i ≤ V.length) (hu : Up V) (h1 : ∀ z,0 < i → V[i - 1]? = some z → eN z u < 0) (h2 : ∀ z,V[i]? = some z → ¬ eN z u < 0) : eC eN ([u] ++ V) = V.take i ++ u :: V.drop i := by
  refine I1 ?_ (MR (by rw [bP];exact hu) (fun y hy => ?_) (fun y hy => ?_))
  · refine List.perm_middle.trans ?_;rw [bP];exact .refl _
  · obtain ⟨h0,z,hz⟩ := sD hy hi;exact PD hu h0 hz hy (C6 (h1 z h0 hz))
  · obtain ⟨z,hz⟩ := uF hy;exact PF hu hz hy (yC7 (h2 z hz))
theorem zT6 {v : W} {U : List W} {i : Nat} (hi : i ≤ U.length) (hu : Up U) (h1 : ∀ z,0 < i → U[i - 1]? = some z → ¬ eN v z < 0) (h2 : ∀ z,U[i]? = some z → eN v z < 0) : eC eN (U ++ [v]) = U.take i ++ v :: U.drop i := by
  refine I1 ?_ (MR (by rw [bP];exact hu) (fun y hy => ?_) (fun y hy => ?_))
  · refine List.perm_middle.trans ?_;rw [bP];exact (L5 _ _).symm
  · obtain ⟨h0,z,hz⟩ := sD hy hi;exact PD hu h0 hz hy (yC7 (h1 z h0 hz))
  · obtain ⟨z,hz⟩ := uF hy;exact PF hu hz hy (C6 (h2 z hz))
theorem yB9 {U V : List W} {i e : Nat} (hU : Up U) (hV : Up V) (hi : i ≤ U.length) (he : e ≤ V.length) (h1 : ∀ x y,0 < i → U[i - 1]? = some x → V[e]? = some y → ¬ eN y x < 0) (h2 : ∀ x y,0 < e → U[i]? = some x → V[e - 1]? = some y → eN y x < 0) :
    eC eN (U ++ V) = eC eN (U.take i ++ V.take e) ++ eC eN (U.drop i ++ V.drop e) := by
  have hU1 : Up (U.take i ++ U.drop i) := by rw [bP];exact hU
  have hV1 : Up (V.take e ++ V.drop e) := by rw [bP];exact hV
  have cU := (eX.1 hU1).2.2;have cV := (eX.1 hV1).2.2;refine I1 ?_ (zR1 (lM jH _) (lM jH _) fun x y hx hy => ?_)
  · refine ((dK _ _).append (dK _ _)).trans ?_;have e1 : (U.take i ++ V.take e ++ (U.drop i ++ V.drop e)).Perm (U.take i ++ U.drop i ++ (V.take e ++ V.drop e)) := by
      rw [bV,bV];refine List.Perm.append_left _ ?_;rw [← bV,← bV];exact List.perm_append_comm.append_right _
    rw [bP,bP] at e1;exact e1
  · have hx := (dK _ _).mem_iff.1 hx;have hy := (dK _ _).mem_iff.1 hy;rcases bH.1 hx with hx | hx <;> rcases bH.1 hy with hy | hy
    · exact cU x hx y hy
    · obtain ⟨h0,z,hz⟩ := sD hx hi;obtain ⟨q,hq⟩ := uF hy;exact PF hV hq hy (PD hU h0 hz hx (yC7 (h1 z q h0 hz hq)))
    · obtain ⟨h0,z,hz⟩ := sD hx he;obtain ⟨q,hq⟩ := uF hy;exact PF hU hq hy (PD hV h0 hz hx (C6 (h2 q z h0 hq hz)))
    · exact cV x hx y hy
def L8 (P V : List W) (u : W) (R : List W) (k : Nat) : List W := (P ++ V.take k) ++ u :: (V.drop k ++ R)
theorem IC {P V : List W} {u : W} {R : List W} {k : Nat} (h : k < V.length) : ∃ y,(L8 P V u R k)[P.length + k]? = some u ∧ (L8 P V u R k)[P.length + k + 1]? = some y ∧
    ((L8 P V u R k).set (P.length + k) y)[P.length + k + 1]? = some y ∧ ((L8 P V u R k).set (P.length + k) y).set (P.length + k + 1) u = L8 P V u R (k + 1) ∧
    (L8 P V u R (k + 1))[P.length + k + 1]? = some u ∧ (L8 P V u R (k + 1))[P.length + k]? = some y ∧ ((L8 P V u R (k + 1)).set (P.length + k + 1) y)[P.length + k]? = some y ∧ ((L8 P V u R (k + 1)).set (P.length + k + 1) y).set (P.length + k) u = L8 P V u R k := by
  obtain ⟨V1,y,V2,rfl,hk⟩ := MV h;obtain ⟨a1,a2,a3,a4⟩ := yD5 (x := y) (X2 := V2) hk;have e : L8 P (V1 ++ y :: V2) u R k = (P ++ V1) ++ u :: y :: (V2 ++ R) := by unfold L8;rw [a1,a2];simp
  have e' : L8 P (V1 ++ y :: V2) u R (k + 1) = (P ++ V1) ++ y :: u :: (V2 ++ R) := by unfold L8;rw [a3,a4];simp
  have l0 : P.length + k = (P ++ V1).length := by simp;omega
  have s1 : ∀ (p q : W),((P ++ V1) ++ p :: q :: (V2 ++ R))[P.length + k + 1]? = some q := fun p q => by
    rw [show (P ++ V1) ++ p :: q :: (V2 ++ R) = ((P ++ V1) ++ [p]) ++ q :: (V2 ++ R) by simp];exact nL _ _ _ (by simp;omega)
  have s2 : ∀ (p q z : W),((P ++ V1) ++ p :: q :: (V2 ++ R)).set (P.length + k + 1) z = (P ++ V1) ++ p :: z :: (V2 ++ R) := fun p q z => by
    rw [show (P ++ V1) ++ p :: q :: (V2 ++ R) = ((P ++ V1) ++ [p]) ++ q :: (V2 ++ R) by simp,nX _ _ _ _ (by simp;omega)];simp
  rw [e,e'];refine ⟨y,nL _ _ _ l0,s1 _ _,?_,?_,s1 _ _,nL _ _ _ l0,?_,?_⟩
  · rw [nX _ _ _ _ l0];exact s1 _ _
  · rw [nX _ _ _ _ l0,s2]
  · rw [s2];exact nL _ _ _ l0
  · rw [s2,nX _ _ _ _ l0]
theorem ZY {P U V R : List W} {i k : Nat} (h : i = P.length + U.length + k) (hk : k < V.length) : (P ++ (U ++ (V ++ R)))[i]? = V[k]? := by
  subst h;rw [aE (by omega),aE (by omega),aH (by omega)]
  congr 1;omega
theorem ZZ {P U V R : List W} {i k : Nat} (h : i = P.length + k) (hk : k < U.length) : (P ++ (U ++ (V ++ R)))[i]? = U[k]? := by
  subst h;rw [aE (by omega),aH (by omega)]
  congr 1;omega
end Go.Ld
namespace Go.Proofs.YtmmmeebiobjnbaaGreat
open Go Go.Ab Go.Ld
attribute [local irreducible] VC AW cF aS
set_option maxHeartbeats 4000000
theorem yU : P6 Tryz.prog 3 .i64 := by unfold P6;kernel_rfl
theorem rL : P6 Tryz.prog 139 .u64 := by unfold P6;kernel_rfl
attribute [local irreducible] P6
theorem zR7 (P : List W) (u : W) (V R : List W) {a m b N : Nat} (ha : a = P.length) (hm : m = a + 1) (hb : b = m + V.length) (hN : N = b + R.length) (hl : N ≤ 100000) (hV : Up V) (hu : L9 u) (hw : ∀ w,w ∈ V → L9 w) :
    aS Tryz.prog 148 [.sl 0 0 N 3,.i a,.i m,.i b,rU] [.arr (gE (P ++ ([u] ++ (V ++ R)))) 3] (.tup []) [.arr (gE (P ++ (eC eN ([u] ++ V) ++ R))) 3] := by
  refine bW T Tryz.func148 rfl rfl rfl rfl ?_
  (repeat' (first|refine wS ?_|refine wB ?_|refine wT ?_|(refine rg 0 (dH rfl (vV (cP rfl rfl (by omega) (by omega)) (vV (kZ rfl rfl (by omega)) ?_))))|(refine rg 1 (mW rfl (aV ?_)))|(refine rg 2 (mW rfl (aV ?_)))|refine nZ ?_));refine dQ (X := {q : Nat × Nat // m ≤ q.1 ∧ q.1 ≤ q.2 ∧ q.2 ≤ b ∧ (∀ z, 0 < q.1 - m → V[q.1 - m - 1]? = some z → eN z u < 0) ∧ (∀ z, V[q.2 - m]? = some z → ¬ eN z u < 0)})
    (fun q => [(0,.sl 0 0 N 3),(1,.i a),(4,rU),(10,.i q.1.1),(11,.i q.1.2)]) (fun _ => [.arr (gE (P ++ ([u] ++ (V ++ R)))) 3]) (fun q => q.1.2 - q.1.1) ⟨(m,b),by dsimp only;exact ⟨by omega,by omega,by omega,fun z h => by omega,fun z h => by rw [cX (by omega)] at h;cases h⟩⟩
    ⟨[0],rfl,by (repeat (first | exact trivial | refine ⟨rfl,?_⟩)),⟨.inr (aC rfl rfl (bU _)),trivial⟩,by decide,lJ⟩ ?_
  rintro ⟨⟨i,j⟩,h1,h2,h3,h4,h5⟩;dsimp only at h1 h2 h3 h4 h5 ⊢;by_cases hij : i < j
  · have hP : ((i : Int) + j) / 2 ^ (1 : Int).toNat = (((i + j) / 2 : Nat) : Int) := by rw [show (2 : Int) ^ (1 : Int).toNat = 2 from rfl];omega
    have hw1 : IntKind.u64.wrap ((i : Int) + j) = (i : Int) + j := HV (by omega) (by omega)
    have hw2 : IntKind.i64.wrap (((i + j) / 2 : Nat) : Int) = (((i + j) / 2 : Nat) : Int) := IntWalk.i64_in _ (by omega)
    have hh : i ≤ (i + j) / 2 ∧ (i + j) / 2 < j := by omega
    generalize hq : (i + j) / 2 = q at *;obtain ⟨z,hz⟩ : ∃ z,V[q - m]? = some z := ⟨_,aB (by omega)⟩
    have q1 := pK (L := P ++ ([u] ++ (V ++ R))) (j := (q : Int)) (i := q) (x := z) (by rw [ZY (k := q - m) (by simp;omega) (by omega)];exact hz) rfl
    have q2 := pK (L := P ++ ([u] ++ (V ++ R))) (j := (a : Int)) (i := a) (x := u) (by rw [ZZ (k := 0) (by omega) (by simp)];rfl) rfl
    have hc := xA z u (hw z (aN hz)) hu;by_cases h0 : eN z u < 0
    · generalize hx : eN z u = x at *
      (repeat' (first|refine wS ?_|refine wB ?_|refine wK ?_|(refine wC rfl ?_ ?_<;>(intro hb;(try simp only [nm] at hb);try (exfalso;omega)))|(refine rg 3 (dH rfl (vV (aM rfl rfl) ?_)))|(refine rg 4 (dH rfl (vV (cC rfl rfl (by omega) (by omega)) (vV (jE yU rL rfl hw1) (vV (by exact hP ▸ uG rfl rfl (by decide) (by decide)) ?_))));refine vV (jE rL yU rfl hw2) (aV ?_))|(refine cH (id := 5) 220 yK6 (rM 40 11) yK7 cO rfl (by decide +kernel) (dN rfl (dN rfl (dN rfl (dV rfl (by exact aK T rfl rfl rfl rfl rfl (by omega) (by omega)) ?_))));refine dV rfl (by exact aJ T rfl rfl (bM rfl q1) rfl) ?_;refine dN rfl (dN rfl (dV rfl (by exact aK T rfl rfl rfl rfl rfl (by omega) (by omega)) ?_));refine dV rfl (by exact aJ T rfl rfl (bM rfl q2) rfl) ?_;refine dV rfl (kC (hc)) (dV rfl (aM rfl rfl) (dE ?_)))|(refine iA 6 rfl rfl rfl (by omega) (by omega) ?_)|refine nZ ?_));all_goals first | (exfalso;omega) | skip
      exact ⟨⟨(q + 1,j),by dsimp only;exact ⟨by omega,by omega,by omega,fun z' _ hz' => by rw [show q + 1 - m - 1 = q - m by omega,hz] at hz';cases hz';omega,h5⟩⟩,by dsimp only;omega,⟨[0],rfl,by (repeat (first | exact trivial | refine ⟨rfl,?_⟩)),⟨.inr (aC rfl rfl (bU _)),trivial⟩,by decide,lJ⟩⟩
    · generalize hx : eN z u = x at *
      (repeat' (first|refine wS ?_|refine wB ?_|refine wK ?_|(refine wC rfl ?_ ?_<;>(intro hb;(try simp only [nm] at hb);try (exfalso;omega)))|(refine rg 3 (dH rfl (vV (aM rfl rfl) ?_)))|(refine rg 4 (dH rfl (vV (cC rfl rfl (by omega) (by omega)) (vV (jE yU rL rfl hw1) (vV (by exact hP ▸ uG rfl rfl (by decide) (by decide)) ?_))));refine vV (jE rL yU rfl hw2) (aV ?_))|(refine cH (id := 5) 220 yK6 (rM 40 11) yK7 cO rfl (by decide +kernel) (dN rfl (dN rfl (dN rfl (dV rfl (by exact aK T rfl rfl rfl rfl rfl (by omega) (by omega)) ?_))));refine dV rfl (by exact aJ T rfl rfl (bM rfl q1) rfl) ?_;refine dN rfl (dN rfl (dV rfl (by exact aK T rfl rfl rfl rfl rfl (by omega) (by omega)) ?_));refine dV rfl (by exact aJ T rfl rfl (bM rfl q2) rfl) ?_;refine dV rfl (kC (hc)) (dV rfl (aM rfl rfl) (dE ?_)))|(refine rg 7 (mW rfl (aV ?_)))|refine nZ ?_));all_goals first | (exfalso;omega) | skip
      exact ⟨⟨(i,q),by dsimp only;exact ⟨by omega,by omega,by omega,h4,fun z' hz' => by rw [hz] at hz';cases hz';omega⟩⟩,by dsimp only;omega,⟨[0],rfl,by (repeat (first | exact trivial | refine ⟨rfl,?_⟩)),⟨.inr (aC rfl rfl (bU _)),trivial⟩,by decide,lJ⟩⟩
  · obtain rfl : i = j := by omega
    have hmg := zT7 (u := u) (i := i - m) (by omega) hV h4 h5
    (repeat' (first|refine wS ?_|refine wB ?_|refine wE ?_|(refine wC rfl ?_ ?_<;>(intro hb;(try simp only [nm] at hb);try (exfalso;omega)))|(refine rg 3 (dH rfl (vV (aM rfl rfl) ?_)))|(refine rg 8 (mW rfl (aV ?_)))|refine nZ ?_));all_goals first | (exfalso;omega) | skip
    refine dQ (X := {t : Nat // t ≤ i - m}) (fun t => [(0,.sl 0 0 N 3),(10,.i i),(13,.i ((a + t.1 : Nat) : Int))]) (fun t => [.arr (gE (L8 P V u R t.1)) 3]) (fun t => i - m - t.1) ⟨0,by omega⟩ ⟨[0],rfl,⟨rfl,rfl,by dsimp only;rfl,trivial⟩,⟨.inr (aC rfl (by dsimp only;unfold L8;simp) (bU _)),trivial⟩,by decide,lJ⟩ ?_
    rintro ⟨t,ht⟩;dsimp only;by_cases hlt : t < i - m
    · obtain ⟨y,p1,p2,p3,p4,_⟩ := IC (P := P) (u := u) (R := R) (show t < V.length by omega)
      have q1 := pK (j := ((a + t : Nat) : Int)) p1 (by omega)
      have q2 := pK (j := ((a + t : Nat) : Int) + 1) p2 (by omega)
      have t1 := wO (L := L8 P V u R t) (j := ((a + t : Nat) : Int)) (i := P.length + t) (x := y) (by omega)
      have q3 := pK (j := ((a + t : Nat) : Int) + 1) p3 (by omega)
      have t2 := wO (L := (L8 P V u R t).set (P.length + t) y) (j := ((a + t : Nat) : Int) + 1) (i := P.length + t + 1) (x := u) (by omega)
      rw [← t1] at q3 t2;rw [p4] at t2;have hJ : ((a + t : Nat) : Int) + 1 = ((a + (t + 1) : Nat) : Int) := by omega
      have hJ1 : ((a + t : Nat) : Int) < (i : Int) - 1 := by omega
      have hJ2 : 0 ≤ ((a + t : Nat) : Int) := by omega
      clear p1 p2 p3 p4 t1;generalize ((a + t : Nat) : Int) = J at *;generalize L8 P V u R t = L at *
      (repeat' (first|refine wS ?_|refine wB ?_|refine wK ?_|(refine wC rfl ?_ ?_<;>(intro hb;(try simp only [nm] at hb);try (exfalso;omega)))|(refine rg 9 (dH rfl (vV (cP rfl rfl (by omega) (by omega)) (vV (aM rfl rfl) ?_))))|(refine nC (id := 11) 220 yK4 (rM 61 15) [[],[61],[61,62],[61,62,63],[61,62,63],rM 61 5,rM 61 6,rM 61 6,rM 61 5,rM 61 5,rM 61 10,rM 61 11,rM 61 10,rM 61 10,[63,64,65],[63,64,65]] [(15,0)] cO rfl (by decide +kernel) (cN rfl rfl rfl rfl (by exact bN rfl) ?_);refine cN rfl rfl rfl rfl (by exact bN rfl) ?_;refine cN rfl rfl rfl rfl (by exact bN rfl) ?_;refine cN rfl rfl rfl rfl (by exact bN rfl) ?_;refine cN rfl rfl rfl rfl (by exact cC rfl rfl (by omega) (by omega)) ?_;refine cN rfl rfl rfl rfl (by exact bN rfl) ?_;refine cN rfl rfl rfl rfl (by exact bN rfl) ?_;refine cN rfl rfl rfl rfl (by exact cC rfl rfl (by omega) (by omega)) ?_;refine cN rfl rfl rfl rfl (by exact aK T rfl rfl rfl rfl rfl (by omega) (by omega)) ?_;refine cN rfl rfl rfl rfl (by exact aJ T rfl rfl (bM rfl q2) rfl) ?_;refine cN rfl rfl rfl rfl (by exact bN rfl) ?_;refine cN rfl rfl rfl rfl (by exact bN rfl) ?_;refine cN rfl rfl rfl rfl (by exact aK T rfl rfl rfl rfl rfl (by omega) (by omega)) ?_;refine cN rfl rfl rfl rfl (by exact aJ T rfl rfl (bM rfl q1) rfl) ?_;refine cN rfl rfl rfl rfl (by exact aK T rfl rfl rfl rfl rfl (by omega) (by omega)) ?_;refine uV rfl rfl rfl rfl (aG rfl) T rfl rfl rfl rfl rfl rfl (by decide) (tY rfl q1 rfl) ?_;refine rJ rfl rfl rfl (by exact rfl) ?_;refine vV (by exact aK T rfl rfl rfl rfl rfl (by omega) (by omega)) ?_;refine bA T rfl rfl rfl rfl rfl rfl (by decide) (lZ rfl q3 rfl) ?_)|(refine iA 10 rfl rfl rfl (by omega) (by omega) ?_)|refine nZ ?_));all_goals first | (exfalso;omega) | skip
      exact ⟨⟨t + 1,by omega⟩,by dsimp only;omega,⟨[0],rfl,⟨rfl,rfl,by dsimp only;rw [← hJ];try rfl,trivial⟩,⟨.inr (aC rfl (by dsimp only;rw [← t2];try rfl) (bU _)),trivial⟩,by decide,lJ⟩⟩
    · obtain rfl : t = i - m := by omega
      have ee : L8 P V u R (i - m) = P ++ (eC eN ([u] ++ V) ++ R) := by rw [hmg];unfold L8;simp
      have hJ1 : ¬ ((a + (i - m) : Nat) : Int) < (i : Int) - 1 := by omega
      generalize ((a + (i - m) : Nat) : Int) = J at *
      (repeat' (first|refine wS ?_|refine wR ?_|refine wE ?_|(refine wC rfl ?_ ?_<;>(intro hb;(try simp only [nm] at hb);try (exfalso;omega)))|(refine rg 9 (dH rfl (vV (cP rfl rfl (by omega) (by omega)) (vV (aM rfl rfl) ?_))))|refine nZ ?_));all_goals first | (exfalso;omega) | exact ⟨.inl rfl,[0],_,rfl,rfl,rfl,⟨.inr (aC rfl (by rw [ee]) (bU _)),trivial⟩,by decide,lJ⟩ | exact ⟨.inr rfl,[0],_,rfl,rfl,rfl,⟨.inr (aC rfl (by rw [ee]) (bU _)),trivial⟩,by decide,lJ⟩
theorem zR6 (P U : List W) (v : W) (R : List W) {a m b N : Nat} (ha : a = P.length) (hm : m = a + U.length) (hb : b = m + 1) (hN : N = b + R.length) (hl : N ≤ 100000) (hU2 : 2 ≤ U.length) (hU : Up U) (hv : L9 v) (hw : ∀ w,w ∈ U → L9 w) :
    aS Tryz.prog 148 [.sl 0 0 N 3,.i a,.i m,.i b,rU] [.arr (gE (P ++ (U ++ ([v] ++ R)))) 3] (.tup []) [.arr (gE (P ++ (eC eN (U ++ [v]) ++ R))) 3] := by
  refine bW T Tryz.func148 rfl rfl rfl rfl ?_
  (repeat' (first|refine wS ?_|refine wB ?_|refine wK ?_|refine wT ?_|refine wU ?_|(refine rg 0 (dH rfl (vV (cP rfl rfl (by omega) (by omega)) (vV (gX rfl rfl (by omega)) ?_))))|(refine rg 12 (dH rfl (vV (cP rfl rfl (by omega) (by omega)) (vV (kZ rfl rfl (by omega)) ?_))))|(refine rg 13 (mW rfl (aV ?_)))|(refine rg 14 (mW rfl (aV ?_)))|refine nZ ?_));refine dQ (X := {q : Nat × Nat // a ≤ q.1 ∧ q.1 ≤ q.2 ∧ q.2 ≤ m ∧ (∀ z, 0 < q.1 - a → U[q.1 - a - 1]? = some z → ¬ eN v z < 0) ∧ (∀ z, U[q.2 - a]? = some z → eN v z < 0)})
    (fun q => [(0,.sl 0 0 N 3),(2,.i m),(4,rU),(14,.i q.1.1),(15,.i q.1.2)]) (fun _ => [.arr (gE (P ++ (U ++ ([v] ++ R)))) 3]) (fun q => q.1.2 - q.1.1) ⟨(a,m),by dsimp only;exact ⟨by omega,by omega,by omega,fun z h => by omega,fun z h => by rw [cX (by omega)] at h;cases h⟩⟩
    ⟨[0],rfl,by (repeat (first | exact trivial | refine ⟨rfl,?_⟩)),⟨.inr (aC rfl rfl (bU _)),trivial⟩,by decide,lJ⟩ ?_
  rintro ⟨⟨i,j⟩,h1,h2,h3,h4,h5⟩;dsimp only at h1 h2 h3 h4 h5 ⊢;by_cases hij : i < j
  · have hP : ((i : Int) + j) / 2 ^ (1 : Int).toNat = (((i + j) / 2 : Nat) : Int) := by rw [show (2 : Int) ^ (1 : Int).toNat = 2 from rfl];omega
    have hw1 : IntKind.u64.wrap ((i : Int) + j) = (i : Int) + j := HV (by omega) (by omega)
    have hw2 : IntKind.i64.wrap (((i + j) / 2 : Nat) : Int) = (((i + j) / 2 : Nat) : Int) := IntWalk.i64_in _ (by omega)
    have hh : i ≤ (i + j) / 2 ∧ (i + j) / 2 < j := by omega
    generalize hq : (i + j) / 2 = q at *;obtain ⟨z,hz⟩ : ∃ z,U[q - a]? = some z := ⟨_,aB (by omega)⟩
    have q1 := pK (L := P ++ (U ++ ([v] ++ R))) (j := (m : Int)) (i := m) (x := v) (by rw [ZY (k := 0) (by omega) (by simp)];rfl) rfl
    have q2 := pK (L := P ++ (U ++ ([v] ++ R))) (j := (q : Int)) (i := q) (x := z) (by rw [ZZ (k := q - a) (by omega) (by omega)];exact hz) rfl
    have hc := xA v z hv (hw z (aN hz));by_cases h0 : eN v z < 0
    · generalize hx : eN v z = x at *
      (repeat' (first|refine wS ?_|refine wB ?_|refine wK ?_|(refine wC rfl ?_ ?_<;>(intro hb;(try simp only [nm] at hb);try (exfalso;omega)))|(refine rg 15 (dH rfl (vV (aM rfl rfl) ?_)))|(refine rg 16 (dH rfl (vV (cC rfl rfl (by omega) (by omega)) (vV (jE yU rL rfl hw1) (vV (by exact hP ▸ uG rfl rfl (by decide) (by decide)) ?_))));refine vV (jE rL yU rfl hw2) (aV ?_))|(refine cH (id := 17) 220 yK8 (rM 92 12) yK9 cO rfl (by decide +kernel) (dN rfl (dN rfl (dN rfl (dV rfl (by exact aK T rfl rfl rfl rfl rfl (by omega) (by omega)) ?_))));refine dV rfl (by exact aJ T rfl rfl (bM rfl q1) rfl) ?_;refine dN rfl (dN rfl (dV rfl (by exact aK T rfl rfl rfl rfl rfl (by omega) (by omega)) ?_));refine dV rfl (by exact aJ T rfl rfl (bM rfl q2) rfl) ?_;refine dV rfl (kC (hc)) (dV rfl (aM rfl rfl) (dV rfl (dI rfl) (dE ?_))))|(refine rg 19 (mW rfl (aV ?_)))|refine nZ ?_));all_goals first | (exfalso;omega) | skip
      exact ⟨⟨(i,q),by dsimp only;exact ⟨by omega,by omega,by omega,h4,fun z' hz' => by rw [hz] at hz';cases hz';omega⟩⟩,by dsimp only;omega,⟨[0],rfl,by (repeat (first | exact trivial | refine ⟨rfl,?_⟩)),⟨.inr (aC rfl rfl (bU _)),trivial⟩,by decide,lJ⟩⟩
    · generalize hx : eN v z = x at *
      (repeat' (first|refine wS ?_|refine wB ?_|refine wK ?_|(refine wC rfl ?_ ?_<;>(intro hb;(try simp only [nm] at hb);try (exfalso;omega)))|(refine rg 15 (dH rfl (vV (aM rfl rfl) ?_)))|(refine rg 16 (dH rfl (vV (cC rfl rfl (by omega) (by omega)) (vV (jE yU rL rfl hw1) (vV (by exact hP ▸ uG rfl rfl (by decide) (by decide)) ?_))));refine vV (jE rL yU rfl hw2) (aV ?_))|(refine cH (id := 17) 220 yK8 (rM 92 12) yK9 cO rfl (by decide +kernel) (dN rfl (dN rfl (dN rfl (dV rfl (by exact aK T rfl rfl rfl rfl rfl (by omega) (by omega)) ?_))));refine dV rfl (by exact aJ T rfl rfl (bM rfl q1) rfl) ?_;refine dN rfl (dN rfl (dV rfl (by exact aK T rfl rfl rfl rfl rfl (by omega) (by omega)) ?_));refine dV rfl (by exact aJ T rfl rfl (bM rfl q2) rfl) ?_;refine dV rfl (kC (hc)) (dV rfl (aM rfl rfl) (dV rfl (dI rfl) (dE ?_))))|(refine iA 18 rfl rfl rfl (by omega) (by omega) ?_)|refine nZ ?_));all_goals first | (exfalso;omega) | skip
      exact ⟨⟨(q + 1,j),by dsimp only;exact ⟨by omega,by omega,by omega,fun z' _ hz' => by rw [show q + 1 - a - 1 = q - a by omega,hz] at hz';cases hz';omega,h5⟩⟩,by dsimp only;omega,⟨[0],rfl,by (repeat (first | exact trivial | refine ⟨rfl,?_⟩)),⟨.inr (aC rfl rfl (bU _)),trivial⟩,by decide,lJ⟩⟩
  · obtain rfl : i = j := by omega
    have hmg := zT6 (v := v) (i := i - a) (by omega) hU h4 h5
    (repeat' (first|refine wS ?_|refine wB ?_|refine wE ?_|(refine wC rfl ?_ ?_<;>(intro hb;(try simp only [nm] at hb);try (exfalso;omega)))|(refine rg 15 (dH rfl (vV (aM rfl rfl) ?_)))|(refine rg 20 (mW rfl (aV ?_)))|refine nZ ?_));all_goals first | (exfalso;omega) | skip
    refine dQ (X := {t : Nat // i - a ≤ t ∧ t ≤ U.length}) (fun t => [(0,.sl 0 0 N 3),(14,.i i),(17,.i ((a + t.1 : Nat) : Int))]) (fun t => [.arr (gE (L8 P U v R t.1)) 3]) (fun t => t.1) ⟨U.length,by omega⟩ ⟨[0],rfl,⟨rfl,rfl,by dsimp only;rw [← hm];rfl,trivial⟩,⟨.inr (aC rfl (by dsimp only;unfold L8;simp) (bU _)),trivial⟩,by decide,lJ⟩ ?_
    rintro ⟨t,ht,ht2⟩;dsimp only;by_cases hlt : i - a < t
    · obtain ⟨t,rfl⟩ : ∃ t',t = t' + 1 := ⟨t - 1,by omega⟩
      obtain ⟨y,_,_,_,_,p1,p2,p3,p4⟩ := IC (P := P) (u := v) (R := R) (show t < U.length by omega)
      have q1 := pK (j := ((a + (t + 1) : Nat) : Int)) p1 (by omega)
      have q2 := pK (j := ((a + (t + 1) : Nat) : Int) - 1) p2 (by omega)
      have t1 := wO (L := L8 P U v R (t + 1)) (j := ((a + (t + 1) : Nat) : Int)) (i := P.length + t + 1) (x := y) (by omega)
      have q3 := pK (j := ((a + (t + 1) : Nat) : Int) - 1) p3 (by omega)
      have t2 := wO (L := (L8 P U v R (t + 1)).set (P.length + t + 1) y) (j := ((a + (t + 1) : Nat) : Int) - 1) (i := P.length + t) (x := v) (by omega)
      rw [← t1] at q3 t2;rw [p4] at t2;have hJ : ((a + (t + 1) : Nat) : Int) - 1 = ((a + t : Nat) : Int) := by omega
      have hJ1 : ((a + (t + 1) : Nat) : Int) > (i : Int) := by omega
      have hJ2 : 1 ≤ ((a + (t + 1) : Nat) : Int) := by omega
      have hJ3 : ((a + (t + 1) : Nat) : Int) < N := by omega
      clear p1 p2 p3 p4 t1;generalize ((a + (t + 1) : Nat) : Int) = J at *;generalize L8 P U v R (t + 1) = L at *
      (repeat' (first|refine wS ?_|refine wB ?_|refine wK ?_|(refine wC rfl ?_ ?_<;>(intro hb;(try simp only [nm] at hb);try (exfalso;omega)))|(refine rg 21 (dH rfl (vV (eU rfl rfl) ?_)))|(refine nC (id := 23) 220 yK4 (rM 113 15) [[],[113],[113,114],[113,114,115],[113,114,115],rM 113 5,rM 113 6,rM 113 6,rM 113 5,rM 113 5,rM 113 10,rM 113 11,rM 113 10,rM 113 10,[115,116,117],[115,116,117]] [(15,0)] cO rfl (by decide +kernel) (cN rfl rfl rfl rfl (by exact bN rfl) ?_);refine cN rfl rfl rfl rfl (by exact bN rfl) ?_;refine cN rfl rfl rfl rfl (by exact bN rfl) ?_;refine cN rfl rfl rfl rfl (by exact bN rfl) ?_;refine cN rfl rfl rfl rfl (by exact cP rfl rfl (by omega) (by omega)) ?_;refine cN rfl rfl rfl rfl (by exact bN rfl) ?_;refine cN rfl rfl rfl rfl (by exact bN rfl) ?_;refine cN rfl rfl rfl rfl (by exact cP rfl rfl (by omega) (by omega)) ?_;refine cN rfl rfl rfl rfl (by exact aK T rfl rfl rfl rfl rfl (by omega) (by omega)) ?_;refine cN rfl rfl rfl rfl (by exact aJ T rfl rfl (bM rfl q2) rfl) ?_;refine cN rfl rfl rfl rfl (by exact bN rfl) ?_;refine cN rfl rfl rfl rfl (by exact bN rfl) ?_;refine cN rfl rfl rfl rfl (by exact aK T rfl rfl rfl rfl rfl (by omega) (by omega)) ?_;refine cN rfl rfl rfl rfl (by exact aJ T rfl rfl (bM rfl q1) rfl) ?_;refine cN rfl rfl rfl rfl (by exact aK T rfl rfl rfl rfl rfl (by omega) (by omega)) ?_;refine uV rfl rfl rfl rfl (aG rfl) T rfl rfl rfl rfl rfl rfl (by decide) (tY rfl q1 rfl) ?_;refine rJ rfl rfl rfl (by exact rfl) ?_;refine vV (by exact aK T rfl rfl rfl rfl rfl (by omega) (by omega)) ?_;refine bA T rfl rfl rfl rfl rfl rfl (by decide) (lZ rfl q3 rfl) ?_)|(refine rg 22 (mW rfl (vV (cP rfl rfl (by omega) (by omega)) (aV ?_))))|refine nZ ?_));all_goals first | (exfalso;omega) | skip
      exact ⟨⟨t,by omega⟩,by dsimp only;omega,⟨[0],rfl,⟨rfl,rfl,by dsimp only;rw [← hJ];try rfl,trivial⟩,⟨.inr (aC rfl (by dsimp only;rw [← t2];try rfl) (bU _)),trivial⟩,by decide,lJ⟩⟩
    · obtain rfl : t = i - a := by omega
      have ee : L8 P U v R (i - a) = P ++ (eC eN (U ++ [v]) ++ R) := by rw [hmg];unfold L8;simp
      have hJ1 : ¬ ((a + (i - a) : Nat) : Int) > (i : Int) := by omega
      generalize ((a + (i - a) : Nat) : Int) = J at *
      (repeat' (first|refine wS ?_|refine wR ?_|refine wE ?_|(refine wC rfl ?_ ?_<;>(intro hb;(try simp only [nm] at hb);try (exfalso;omega)))|(refine rg 21 (dH rfl (vV (eU rfl rfl) ?_)))|refine nZ ?_));all_goals first | (exfalso;omega) | exact ⟨.inl rfl,[0],_,rfl,rfl,rfl,⟨.inr (aC rfl (by rw [ee]) (bU _)),trivial⟩,by decide,lJ⟩ | exact ⟨.inr rfl,[0],_,rfl,rfl,rfl,⟨.inr (aC rfl (by rw [ee]) (bU _)),trivial⟩,by decide,lJ⟩
end Go.Proofs.YtmmmeebiobjnbaaGreat
namespace Go.Ld
open Go.Ab Go.Proofs.YtmmmeebiobjnbaaGreat
theorem zE7 {P U V R : List W} {a m b mid n lo hi s : Nat} (ha : a = P.length) (hm : m = a + U.length) (hb : b = m + V.length) (hmid : mid = (a + b) / 2) (hn : n = mid + m) (hU : Up U) (hV : Up V)
    (hc : mid < m ∧ lo = n - b ∧ hi = mid ∨ m ≤ mid ∧ lo = a ∧ hi = m) (hs1 : lo ≤ s) (hs2 : s ≤ hi)
    (h1 : ∀ x y,lo < s → (P ++ (U ++ (V ++ R)))[s - 1]? = some x → (P ++ (U ++ (V ++ R)))[n - s]? = some y → ¬ eN y x < 0)
    (h2 : ∀ x y,s < hi → (P ++ (U ++ (V ++ R)))[s]? = some x → (P ++ (U ++ (V ++ R)))[n - 1 - s]? = some y → eN y x < 0) :
    ∃ X1 X2 Y1 Y2,U = X1 ++ X2 ∧ V = Y1 ++ Y2 ∧ s = a + X1.length ∧ n = (m + Y1.length) + s ∧ mid = a + X1.length + Y1.length ∧ eC eN (U ++ V) = eC eN (X1 ++ Y1) ++ eC eN (X2 ++ Y2) := by
  have f1 : a ≤ s ∧ s ≤ m ∧ m + s ≤ n ∧ n ≤ b + s := by rcases hc with ⟨c1,c2,c3⟩ | ⟨c1,c2,c3⟩ <;> omega
  obtain ⟨f1,f2,f3,f4⟩ := f1;refine ⟨U.take (s - a),U.drop (s - a),V.take (n - s - m),V.drop (n - s - m),by simp,by simp,by rw [bG];omega,by rw [bG];omega,by rw [bG,bG];omega,?_⟩
  refine yB9 hU hV (by omega) (by omega) (fun x y h0 hx hy => ?_) (fun x y h0 hx hy => ?_)
  · have i1 := (aA.1 hy).1;refine h1 x y (by rcases hc with ⟨c1,c2,c3⟩ | ⟨c1,c2,c3⟩ <;> omega) ?_ ?_
    · rw [ZZ (k := s - a - 1) (by omega) (by omega)];exact hx
    · rw [ZY (k := n - s - m) (by omega) (by omega)];exact hy
  · have i1 := (aA.1 hx).1;refine h2 x y (by rcases hc with ⟨c1,c2,c3⟩ | ⟨c1,c2,c3⟩ <;> omega) ?_ ?_
    · rw [ZZ (k := s - a) (by omega) (by omega)];exact hx
    · rw [ZY (k := n - s - m - 1) (by omega) (by omega)];exact hy
theorem zY9 {A B : List W} (h : Up (A ++ B)) : Up A := (eX.1 h).1
theorem zY8 {A B : List W} (h : Up (A ++ B)) : Up B := (eX.1 h).2.1
def bs (k : Nat) (l : List W) : List W := if h : l.length ≤ k ∨ k = 0 then eC eN l else eC eN (l.take k) ++ bs k (l.drop k)
  termination_by l.length
  decreasing_by simp only [dD];omega
theorem R3 {k : Nat} {l : List W} (h : l.length ≤ k) : bs k l = eC eN l := by unfold bs;rw [dif_pos (.inl h)]
theorem yC3 {k : Nat} {l : List W} (h : k < l.length) (h0 : 0 < k) : bs k l = eC eN (l.take k) ++ bs k (l.drop k) := by rw [bs,dif_neg (by omega)]
theorem BG {k : Nat} {a b : List W} (h : a.length = k) (h0 : 0 < k) : bs k (a ++ b) = eC eN a ++ bs k b := by
  subst h;cases b with
  | nil => rw [List.append_nil,R3 (aX _),R3 (cM _)];simp [eC]
  | cons x b => rw [yC3 (by simp) h0,wH,wI]
theorem zW7 (k : Nat) (l : List W) : (bs k l).length = l.length := by
  induction hn : l.length using Nat.strongRecOn generalizing l with
  | _ n ih =>
    unfold bs;split
    · rw [iV,hn]
    · rw [aF,iV,bG,ih (l.drop k).length (by rw [dD];omega) _ rfl,dD];omega
theorem IM (a b : List W) : eC eN (eC eN a ++ eC eN b) = eC eN (a ++ b) :=
  I1 ((dK _ _).trans ((dK _ _).append (dK _ _)).symm) (lM jH _)
end Go.Ld
namespace Go.Proofs.YtmmmeebiobjnbaaGreat
open Go Go.Ab Go.Ld
attribute [local irreducible] VC AW cF aS P6
set_option maxHeartbeats 4000000
theorem zP2 : ∀ (k : Nat) (P U V R : List W) {a m b N : Nat},b - a ≤ k → 0 < U.length → 0 < V.length → a = P.length → m = a + U.length → b = m + V.length → N = b + R.length → N ≤ 100000 → Up U → Up V → (∀ w,w ∈ U → L9 w) → (∀ w,w ∈ V → L9 w) →
    aS Tryz.prog 148 [.sl 0 0 N 3,.i a,.i m,.i b,rU] [.arr (gE (P ++ (U ++ (V ++ R)))) 3] (.tup []) [.arr (gE (P ++ (eC eN (U ++ V) ++ R))) 3] := by
  intro k
  induction k with
  | zero => intros;exfalso;omega
  | succ k ih =>
    intro P U V R a m b N hk hU0 hV0 ha hm hb hN hl hU hV hwU hwV;by_cases hu1 : U.length = 1
    · obtain ⟨u,rfl⟩ := CH.1 hu1;exact zR7 P u V R ha hm hb hN hl hV (hwU u (by simp)) hwV
    by_cases hv1 : V.length = 1
    · obtain ⟨v,rfl⟩ := CH.1 hv1;exact zR6 P U v R ha hm hb hN hl (by omega) hU (hwV v (by simp)) hwU
    have hP : ((a : Int) + b) / 2 ^ (1 : Int).toNat = (((a + b) / 2 : Nat) : Int) := by rw [show (2 : Int) ^ (1 : Int).toNat = 2 from rfl];omega
    have hw1 : IntKind.u64.wrap ((a : Int) + b) = (a : Int) + b := HV (by omega) (by omega)
    have hw2 : IntKind.i64.wrap (((a + b) / 2 : Nat) : Int) = (((a + b) / 2 : Nat) : Int) := IntWalk.i64_in _ (by omega)
    obtain ⟨mid,hmid⟩ : ∃ mid,mid = (a + b) / 2 := ⟨_,rfl⟩;rw [← hmid] at hP hw2;have hD1 : ∀ i,a ≤ i → i < m → (P ++ (U ++ (V ++ R)))[i]? = U[i - a]? := fun i h1 h2 => ZZ (by omega) (by omega)
    have hD2 : ∀ i,m ≤ i → i < b → (P ++ (U ++ (V ++ R)))[i]? = V[i - m]? := fun i h1 h2 => ZY (by omega) (by omega)
    have hcut : ∀ {lo hi s : Nat},_ := @zE7 P U V R a m b mid (mid + m);generalize hDe : P ++ (U ++ (V ++ R)) = D at *;refine bW T Tryz.func148 rfl rfl rfl rfl ?_;apply Go.Ab.cutT (T := ∀ lo hi : Nat,(mid < m ∧ lo = mid + m - b ∧ hi = mid ∨ m ≤ mid ∧ lo = a ∧ hi = m) → _)
    · intro rest;by_cases h : mid < m
      · obtain ⟨lo,hlo⟩ : ∃ lo : Nat,lo = mid + m - b := ⟨_,rfl⟩;obtain ⟨hi,hhi⟩ : ∃ hi : Nat,hi = mid := ⟨_,rfl⟩
        (repeat' (first|refine wS ?_|refine wB ?_|refine wK ?_|refine wU ?_|(refine wC rfl ?_ ?_<;>(intro hb;(try simp only [nm] at hb);try (exfalso;omega)))|(refine rg 0 (dH rfl (vV (cP rfl rfl (by omega) (by omega)) (vV (gX rfl rfl (by omega)) ?_))))|(refine rg 12 (dH rfl (vV (cP rfl rfl (by omega) (by omega)) (vV (gX rfl rfl (by omega)) ?_))))|(refine rg 24 (dH rfl (vV (cC rfl rfl (by omega) (by omega)) (vV (jE yU rL rfl hw1) (vV (by exact hP ▸ uG rfl rfl (by decide) (by decide)) ?_))));refine vV (jE rL yU rfl hw2) (aV ?_))|(refine rg 25 (dH rfl (vV (cC rfl rfl (by omega) (by omega)) (aV ?_))))|(refine rg 26 (rK ?_))|(refine rg 27 (dH rfl (vV (eU rfl rfl) ?_)))|(refine rg 28 (dH rfl (vV (cP rfl rfl (by omega) (by omega)) (aV ?_))))|(refine rg 29 (mW rfl (aV ?_)))|(refine rg 32 (mW rfl (vV (cP rfl rfl (by omega) (by omega)) (aV ?_))))|refine nZ ?_));all_goals first | (exfalso;omega) | exact fC [(0,.sl 0 0 N 3),(1,.i a),(2,.i m),(3,.i b),(4,rU),(18,.i mid),(19,.i ((mid : Int) + m)),(20,.i lo),(21,.i hi),(22,.i ((mid : Int) + m - 1))] [.arr (gE D) 3] ⟨[0],rfl,⟨rfl,rfl,rfl,rfl,rfl,rfl,rfl,by rw [show (lo : Int) = (mid : Int) + m - b by omega];rfl,by rw [hhi];rfl,rfl,trivial⟩,⟨.inr (aC rfl rfl (bU _)),trivial⟩,by decide,lJ⟩ (rest.get lo hi (by omega))
      · obtain ⟨lo,hlo⟩ : ∃ lo : Nat,lo = a := ⟨_,rfl⟩;obtain ⟨hi,hhi⟩ : ∃ hi : Nat,hi = m := ⟨_,rfl⟩
        (repeat' (first|refine wS ?_|refine wB ?_|refine wK ?_|refine wU ?_|(refine wC rfl ?_ ?_<;>(intro hb;(try simp only [nm] at hb);try (exfalso;omega)))|(refine rg 0 (dH rfl (vV (cP rfl rfl (by omega) (by omega)) (vV (gX rfl rfl (by omega)) ?_))))|(refine rg 12 (dH rfl (vV (cP rfl rfl (by omega) (by omega)) (vV (gX rfl rfl (by omega)) ?_))))|(refine rg 24 (dH rfl (vV (cC rfl rfl (by omega) (by omega)) (vV (jE yU rL rfl hw1) (vV (by exact hP ▸ uG rfl rfl (by decide) (by decide)) ?_))));refine vV (jE rL yU rfl hw2) (aV ?_))|(refine rg 25 (dH rfl (vV (cC rfl rfl (by omega) (by omega)) (aV ?_))))|(refine rg 26 (rK ?_))|(refine rg 27 (dH rfl (vV (eU rfl rfl) ?_)))|(refine rg 30 (mW rfl (aV ?_)))|(refine rg 31 (mW rfl (aV ?_)))|(refine rg 32 (mW rfl (vV (cP rfl rfl (by omega) (by omega)) (aV ?_))))|refine nZ ?_));all_goals first | (exfalso;omega) | exact fC [(0,.sl 0 0 N 3),(1,.i a),(2,.i m),(3,.i b),(4,rU),(18,.i mid),(19,.i ((mid : Int) + m)),(20,.i lo),(21,.i hi),(22,.i ((mid : Int) + m - 1))] [.arr (gE D) 3] ⟨[0],rfl,⟨rfl,rfl,rfl,rfl,rfl,rfl,rfl,by rw [hlo];rfl,by rw [hhi];rfl,rfl,trivial⟩,⟨.inr (aC rfl rfl (bU _)),trivial⟩,by decide,lJ⟩ (rest.get lo hi (by omega))
    intro lo hi hc;have hcut := fun s => @hcut lo hi s ha hm hb hmid rfl hU hV hc
    refine dQ (X := {q : Nat × Nat // lo ≤ q.1 ∧ q.1 ≤ q.2 ∧ q.2 ≤ hi ∧ (∀ x y, lo < q.1 → D[q.1 - 1]? = some x → D[mid + m - q.1]? = some y → ¬ eN y x < 0) ∧ (∀ x y, q.2 < hi → D[q.2]? = some x → D[mid + m - 1 - q.2]? = some y → eN y x < 0)})
      (fun q => [(0,.sl 0 0 N 3),(1,.i a),(2,.i m),(3,.i b),(4,rU),(18,.i mid),(19,.i ((mid : Int) + m)),(20,.i q.1.1),(21,.i q.1.2),(22,.i ((mid : Int) + m - 1))]) (fun _ => [.arr (gE D) 3]) (fun q => q.1.2 - q.1.1) ⟨(lo,hi),by dsimp only;exact ⟨by omega,by omega,by omega,fun x y h => by omega,fun x y h => by omega⟩⟩
      ⟨[0],rfl,by (repeat (first | exact trivial | refine ⟨rfl,?_⟩)),⟨.inr (aC rfl rfl (bU _)),trivial⟩,by decide,lJ⟩ ?_
    rintro ⟨⟨i,j⟩,h1,h2,h3,h4,h5⟩;dsimp only at h1 h2 h3 h4 h5 ⊢;have hlo : a ≤ lo ∧ hi ≤ m ∧ m ≤ mid + m - hi ∧ mid + m - lo ≤ b ∧ lo ≤ mid + m := by omega
    by_cases hij : i < j
    · clear hP hw1 hw2;have hP : ((i : Int) + j) / 2 ^ (1 : Int).toNat = (((i + j) / 2 : Nat) : Int) := by rw [show (2 : Int) ^ (1 : Int).toNat = 2 from rfl];omega
      have hw1 : IntKind.u64.wrap ((i : Int) + j) = (i : Int) + j := HV (by omega) (by omega)
      have hw2 : IntKind.i64.wrap (((i + j) / 2 : Nat) : Int) = (((i + j) / 2 : Nat) : Int) := IntWalk.i64_in _ (by omega)
      have hh : i ≤ (i + j) / 2 ∧ (i + j) / 2 < j := by omega
      generalize hq : (i + j) / 2 = q at *;obtain ⟨x,hx⟩ : ∃ x,U[q - a]? = some x := ⟨_,aB (by omega)⟩
      obtain ⟨y,hy⟩ : ∃ y,V[mid + m - 1 - q - m]? = some y := ⟨_,aB (by omega)⟩
      have wx := hwU x (aN hx);have wy := hwV y (aN hy);rw [← hD1 q (by omega) (by omega)] at hx
      rw [← hD2 (mid + m - 1 - q) (by omega) (by omega)] at hy
      have q1 := pK (j := (mid : Int) + m - 1 - q) hy (by omega)
      have q2 := pK (j := (q : Int)) hx rfl;have hc' := xA y x wy wx;by_cases h0 : eN y x < 0
      · generalize hz : eN y x = z at *
        (repeat' (first|refine wS ?_|refine wB ?_|refine wK ?_|(refine wC rfl ?_ ?_<;>(intro hb;(try simp only [nm] at hb);try (exfalso;omega)))|(refine rg 33 (dH rfl (vV (aM rfl rfl) ?_)))|(refine rg 34 (dH rfl (vV (cC rfl rfl (by omega) (by omega)) (vV (jE yU rL rfl hw1) (vV (by exact hP ▸ uG rfl rfl (by decide) (by decide)) ?_))));refine vV (jE rL yU rfl hw2) (aV ?_))|(refine cH (id := 35) 220 yL0 (rM 158 14) yL1 cO rfl (by decide +kernel) (dN rfl (dN rfl (dN rfl (dN rfl (dV rfl (cP rfl rfl (by omega) (by omega)) (dV rfl (by exact aK T rfl rfl rfl rfl rfl (by omega) (by omega)) ?_))))));refine dV rfl (by exact aJ T rfl rfl (bM rfl q1) rfl) ?_;refine dN rfl (dN rfl (dV rfl (by exact aK T rfl rfl rfl rfl rfl (by omega) (by omega)) ?_));refine dV rfl (by exact aJ T rfl rfl (bM rfl q2) rfl) ?_;refine dV rfl (kC (hc')) (dV rfl (aM rfl rfl) (dV rfl (dI rfl) (dE ?_))))|(refine rg 37 (mW rfl (aV ?_)))|refine nZ ?_));all_goals first | (exfalso;omega) | skip
        exact ⟨⟨(i,q),by dsimp only;exact ⟨by omega,by omega,by omega,h4,fun x' y' _ hx' hy' => by rw [hx] at hx';rw [hy] at hy';cases hx';cases hy';omega⟩⟩,by dsimp only;omega,⟨[0],rfl,by (repeat (first | exact trivial | refine ⟨rfl,?_⟩)),⟨.inr (aC rfl rfl (bU _)),trivial⟩,by decide,lJ⟩⟩
      · generalize hz : eN y x = z at *
        (repeat' (first|refine wS ?_|refine wB ?_|refine wK ?_|(refine wC rfl ?_ ?_<;>(intro hb;(try simp only [nm] at hb);try (exfalso;omega)))|(refine rg 33 (dH rfl (vV (aM rfl rfl) ?_)))|(refine rg 34 (dH rfl (vV (cC rfl rfl (by omega) (by omega)) (vV (jE yU rL rfl hw1) (vV (by exact hP ▸ uG rfl rfl (by decide) (by decide)) ?_))));refine vV (jE rL yU rfl hw2) (aV ?_))|(refine cH (id := 35) 220 yL0 (rM 158 14) yL1 cO rfl (by decide +kernel) (dN rfl (dN rfl (dN rfl (dN rfl (dV rfl (cP rfl rfl (by omega) (by omega)) (dV rfl (by exact aK T rfl rfl rfl rfl rfl (by omega) (by omega)) ?_))))));refine dV rfl (by exact aJ T rfl rfl (bM rfl q1) rfl) ?_;refine dN rfl (dN rfl (dV rfl (by exact aK T rfl rfl rfl rfl rfl (by omega) (by omega)) ?_));refine dV rfl (by exact aJ T rfl rfl (bM rfl q2) rfl) ?_;refine dV rfl (kC (hc')) (dV rfl (aM rfl rfl) (dV rfl (dI rfl) (dE ?_))))|(refine iA 36 rfl rfl rfl (by omega) (by omega) ?_)|refine nZ ?_));all_goals first | (exfalso;omega) | skip
        exact ⟨⟨(q + 1,j),by dsimp only;exact ⟨by omega,by omega,by omega,fun x' y' _ hx' hy' => by rw [show q + 1 - 1 = q by omega,hx] at hx';rw [show mid + m - (q + 1) = mid + m - 1 - q by omega,hy] at hy';cases hx';cases hy';omega,h5⟩⟩,by dsimp only;omega,⟨[0],rfl,by (repeat (first | exact trivial | refine ⟨rfl,?_⟩)),⟨.inr (aC rfl rfl (bU _)),trivial⟩,by decide,lJ⟩⟩
    · obtain rfl : i = j := by omega
      obtain ⟨X1,X2,Y1,Y2,rfl,rfl,e1,e2,e3,hsrt⟩ := hcut i (by omega) (by omega) h4 h5
      clear hcut h4 h5 hD1 hD2 hP hw1 hw2;rw [hsrt];obtain ⟨e,he⟩ : ∃ e,e = m + Y1.length := ⟨_,rfl⟩;simp only [aF] at hm hb hU0 hV0 hu1 hv1;have uX1 := zY9 hU;have uX2 := zY8 hU;have uY1 := zY9 hV;have uY2 := zY8 hV;have w1 := ih P X1 Y1 (X2 ++ (Y2 ++ R)) (a := a) (m := i) (b := mid) (N := N);have w2 := ih (P ++ eC eN (X1 ++ Y1)) X2 Y2 R (a := mid) (m := e) (b := b) (N := N);have hsl : (eC eN (X1 ++ Y1)).length = X1.length + Y1.length := by rw [iV,aF]
      have w0 := WJ (P ++ X1) X2 Y1 (Y2 ++ R) (a := i) (m := m) (b := e) (N := N);simp only [aF,hsl] at w0 w1 w2;have c0 : i < m → m < e → _ := fun h h' => w0 (by omega) (by omega) (by omega) (by omega) hl (by omega) (by omega)
      have c1 : a < i → i < mid → _ := fun h h' => w1 (by omega) (by omega) (by omega) ha (by omega) (by omega) (by omega) hl uX1 uY1 (fun w hw => hwU w (by simp [hw])) (fun w hw => hwV w (by simp [hw]))
      have c2 : mid < e → e < b → _ := fun h h' => w2 (by omega) (by omega) (by omega) (by omega) (by omega) (by omega) (by omega) hl uX2 uY2 (fun w hw => hwU w (by simp [hw])) (fun w hw => hwV w (by simp [hw]))
      have d0 : ¬ (i < m ∧ m < e) → D = P ++ (X1 ++ (Y1 ++ (X2 ++ (Y2 ++ R)))) := fun h => by
        rw [← hDe];by_cases h' : X2.length = 0
        · rw [bX h'];simp
        · rw [bX (show Y1.length = 0 by omega)];simp
      have d1 : ¬ (a < i ∧ i < mid) → P ++ (X1 ++ (Y1 ++ (X2 ++ (Y2 ++ R)))) = P ++ (eC eN (X1 ++ Y1) ++ (X2 ++ (Y2 ++ R))) := fun h => by
        by_cases h' : X1.length = 0
        · rw [bX h',List.nil_append,List.nil_append,T7 uY1]
        · rw [bX (show Y1.length = 0 by omega),List.nil_append,List.append_nil,T7 uX1]
      have d2 : ¬ (mid < e ∧ e < b) → P ++ (eC eN (X1 ++ Y1) ++ (X2 ++ (Y2 ++ R))) = P ++ (eC eN (X1 ++ Y1) ++ eC eN (X2 ++ Y2) ++ R) := fun h => by
        by_cases h' : X2.length = 0
        · rw [bX h',List.nil_append,List.nil_append,T7 uY2];simp
        · rw [bX (show Y2.length = 0 by omega),List.nil_append,List.append_nil,T7 uX2];simp
      have g0 : (P ++ X1) ++ (X2 ++ (Y1 ++ (Y2 ++ R))) = D := by rw [← hDe];simp
      have g1 : (P ++ X1) ++ (Y1 ++ (X2 ++ (Y2 ++ R))) = P ++ (X1 ++ (Y1 ++ (X2 ++ (Y2 ++ R)))) := by simp
      have g2 : (P ++ eC eN (X1 ++ Y1)) ++ (X2 ++ (Y2 ++ R)) = P ++ (eC eN (X1 ++ Y1) ++ (X2 ++ (Y2 ++ R))) := by simp
      have g3 : (P ++ eC eN (X1 ++ Y1)) ++ (eC eN (X2 ++ Y2) ++ R) = P ++ (eC eN (X1 ++ Y1) ++ eC eN (X2 ++ Y2) ++ R) := by simp
      rw [g0,g1] at c0;rw [g2,g3] at c2;clear w0 w1 w2 ih g0 g1 g2 g3 hDe hwU hwV;generalize P ++ (eC eN (X1 ++ Y1) ++ eC eN (X2 ++ Y2) ++ R) = A3 at *;generalize P ++ (eC eN (X1 ++ Y1) ++ (X2 ++ (Y2 ++ R))) = A2 at *;generalize P ++ (X1 ++ (Y1 ++ (X2 ++ (Y2 ++ R)))) = A1 at *;apply Go.Ab.cutT
      · intro rest;by_cases h : i < m ∧ m < e
        · have hc' := c0 h.1 h.2;rw [show (e : Int) = (mid : Int) + m - i by omega] at hc'
          (repeat' (first|refine wS ?_|refine wE ?_|(refine wC rfl ?_ ?_<;>(intro hb;(try simp only [nm] at hb);try (exfalso;omega)))|(refine rg 33 (dH rfl (vV (aM rfl rfl) ?_)))|(refine rg 38 (dH rfl (vV (cP rfl rfl (by omega) (by omega)) (aV ?_))))|(refine rg 39 (dH rfl (vV (aM rfl rfl) (mV ?_)));refine bO rfl rfl ?_ ?_<;>(intro hb;rw [hb];(try simp only [nm] at hb);try (exfalso;omega));(all_goals (refine yN rfl (yN rfl (yV (aM rfl rfl) (pV ?_))))))|(refine rg 40 (dH rfl (dH rfl (mW rfl (eP [0] rfl rfl (hc') rfl rfl (by decide) ⟨.inr (aC rfl rfl (bU _)),trivial⟩ (by simp) rfl ?_)))))|refine nZ ?_));all_goals first | (exfalso;omega) | exact fC [(0,.sl 0 0 N 3),(1,.i a),(3,.i b),(4,rU),(18,.i mid),(20,.i i),(24,.i e)] [.arr (gE A1) 3] ⟨[0],rfl,⟨rfl,rfl,rfl,rfl,rfl,rfl,by rw [show (e : Int) = (mid : Int) + m - i by omega];rfl,trivial⟩,⟨.inr (aC rfl (bE _ (bU _)) (bU _)),trivial⟩,by decide,lJ⟩ rest.get
        · obtain rfl := d0 h
          (repeat' (first|refine wS ?_|refine wK ?_|refine wE ?_|refine wU ?_|(refine wC rfl ?_ ?_<;>(intro hb;(try simp only [nm] at hb);try (exfalso;omega)))|(refine rg 33 (dH rfl (vV (aM rfl rfl) ?_)))|(refine rg 38 (dH rfl (vV (cP rfl rfl (by omega) (by omega)) (aV ?_))))|(refine rg 39 (dH rfl (vV (aM rfl rfl) (mV ?_)));refine bO rfl rfl ?_ ?_<;>(intro hb;rw [hb];(try simp only [nm] at hb);try (exfalso;omega));(all_goals first|(refine gT (mW rfl (gT (mW rfl (gT (vV (aM rfl rfl) ?_))))))|(iterate 3 refine gF ?_));(all_goals (refine pV ?_)))|refine nZ ?_));all_goals first | (exfalso;omega) | exact fC [(0,.sl 0 0 N 3),(1,.i a),(3,.i b),(4,rU),(18,.i mid),(20,.i i),(24,.i e)] [.arr (gE D) 3] ⟨[0],rfl,⟨rfl,rfl,rfl,rfl,rfl,rfl,by rw [show (e : Int) = (mid : Int) + m - i by omega];rfl,trivial⟩,⟨.inr (aC rfl rfl (bU _)),trivial⟩,by decide,lJ⟩ rest.get
      clear c0 d0;apply Go.Ab.cutT
      · intro rest;by_cases h : a < i ∧ i < mid
        · have hc' := c1 h.1 h.2
          (repeat' (first|refine wS ?_|(refine wC rfl ?_ ?_<;>(intro hb;(try simp only [nm] at hb);try (exfalso;omega)))|(refine rg 41 (dH rfl (vV (aM rfl rfl) (mV ?_)));refine bO rfl rfl ?_ ?_<;>(intro hb;rw [hb];(try simp only [nm] at hb);try (exfalso;omega));(all_goals (refine yN rfl (yN rfl (yV (aM rfl rfl) (pV ?_))))))|(refine rg 42 (dH rfl (dH rfl (mW rfl (eP [0] rfl rfl (hc') rfl rfl (by decide) ⟨.inr (aC rfl rfl (bU _)),trivial⟩ (by simp) rfl ?_)))))|refine nZ ?_));all_goals first | (exfalso;omega) | exact fC [(0,.sl 0 0 N 3),(1,.i a),(3,.i b),(4,rU),(18,.i mid),(24,.i e)] [.arr (gE A2) 3] ⟨[0],rfl,(by repeat first|exact trivial|refine ⟨rfl,?_⟩),⟨.inr (aC rfl (bE _ (bU _)) (bU _)),trivial⟩,by decide,lJ⟩ rest.get
        · obtain rfl := d1 h
          (repeat' (first|refine wS ?_|refine wK ?_|refine wU ?_|(refine wC rfl ?_ ?_<;>(intro hb;(try simp only [nm] at hb);try (exfalso;omega)))|(refine rg 41 (dH rfl (vV (aM rfl rfl) (mV ?_)));refine bO rfl rfl ?_ ?_<;>(intro hb;rw [hb];(try simp only [nm] at hb);try (exfalso;omega));(all_goals first|(refine gT (mW rfl (gT (mW rfl (gT (vV (aM rfl rfl) ?_))))))|(iterate 3 refine gF ?_));(all_goals (refine pV ?_)))|refine nZ ?_));all_goals first | (exfalso;omega) | exact fC [(0,.sl 0 0 N 3),(1,.i a),(3,.i b),(4,rU),(18,.i mid),(24,.i e)] [.arr (gE A1) 3] ⟨[0],rfl,(by repeat first|exact trivial|refine ⟨rfl,?_⟩),⟨.inr (aC rfl rfl (bU _)),trivial⟩,by decide,lJ⟩ rest.get
      clear c1 d1;by_cases h : mid < e ∧ e < b
      · have hc' := c2 h.1 h.2
        (repeat' (first|(refine wC rfl ?_ ?_<;>(intro hb;(try simp only [nm] at hb);try (exfalso;omega)))|(refine rg 43 (dH rfl (vV (aM rfl rfl) (mV ?_)));refine bO rfl rfl ?_ ?_<;>(intro hb;rw [hb];(try simp only [nm] at hb);try (exfalso;omega));(all_goals (refine yN rfl (yN rfl (yV (aM rfl rfl) (pV ?_))))))|(refine rg 44 (dH rfl (dH rfl (mW rfl (eP [0] rfl rfl (hc') rfl rfl (by decide) ⟨.inr (aC rfl rfl (bU _)),trivial⟩ (by simp) rfl ?_)))))|refine nZ ?_));all_goals first | (exfalso;omega) | exact ⟨.inl rfl,[0],_,rfl,rfl,rfl,⟨.inr (aC rfl (bE _ (bU _)) (bU _)),trivial⟩,by decide,lJ⟩ | exact ⟨.inr rfl,[0],_,rfl,rfl,rfl,⟨.inr (aC rfl (bE _ (bU _)) (bU _)),trivial⟩,by decide,lJ⟩
      · obtain rfl := d2 h
        (repeat' (first|refine wK ?_|refine wU ?_|(refine wC rfl ?_ ?_<;>(intro hb;(try simp only [nm] at hb);try (exfalso;omega)))|(refine rg 43 (dH rfl (vV (aM rfl rfl) (mV ?_)));refine bO rfl rfl ?_ ?_<;>(intro hb;rw [hb];(try simp only [nm] at hb);try (exfalso;omega));(all_goals first|(refine gT (mW rfl (gT (mW rfl (gT (vV (aM rfl rfl) ?_))))))|(iterate 3 refine gF ?_));(all_goals (refine pV ?_)))|refine nZ ?_));all_goals first | (exfalso;omega) | exact ⟨.inl rfl,[0],_,rfl,rfl,rfl,⟨.inr (aC rfl rfl (bU _)),trivial⟩,by decide,lJ⟩ | exact ⟨.inr rfl,[0],_,rfl,rfl,rfl,⟨.inr (aC rfl rfl (bU _)),trivial⟩,by decide,lJ⟩
end Go.Proofs.YtmmmeebiobjnbaaGreat
namespace Go.Ld
open Go.Ab Go.Proofs.YtmmmeebiobjnbaaGreat
theorem PK {Q r1 r2 : List W} {a b : Nat} (ha : a = Q.length) (hb : b = a + r1.length) : UV (Q ++ (r1 ++ r2)) a b = Q ++ (eC eN r1 ++ r2) := by
  subst ha hb;unfold UV;rw [wH,wI,show Q.length + r1.length - Q.length = r1.length by omega,wH,← MG,wI,wI]
theorem QC {Q r1 r2 : List W} {w : W} (h : w ∈ (Q ++ eC eN r1) ++ r2) : w ∈ Q ++ (r1 ++ r2) := by
  rw [bV] at h;rcases bH.1 h with h | h
  · exact bH.2 (.inl h)
  · rcases bH.1 h with h | h
    · exact bH.2 (.inr (bH.2 (.inl ((dK _ _).mem_iff.1 h))))
    · exact bH.2 (.inr (bH.2 (.inr h)))
end Go.Ld
namespace Go.Proofs.YtmmmeebiobjnbaaGreat
open Go Go.Ab Go.Ld
attribute [local irreducible] VC AW cF aS
set_option maxHeartbeats 4000000
theorem VW (l : List W) {N : Nat} (hN : N = l.length) (hl : N ≤ 100000) (hw : ∀ w,w ∈ l → L9 w) :
    aS Tryz.prog 128 [.sl 0 0 N 3,.i N,rU] [.arr (gE l) 3] (.tup []) [.arr (gE (eC eN l)) 3] := by
  refine bW T Tryz.func128 rfl rfl rfl rfl ?_;apply Go.Ab.cutT
  · intro rest
    (repeat' (first|refine wS ?_|refine wB ?_|(refine rg 0 (aV ?_))|(refine rg 1 (mW rfl (rK ?_)))|refine nZ ?_));refine dQ (X := {q : Nat × List W × List W // q.2.1.length = q.1 ∧ q.1 + q.2.2.length = N ∧ bs 20 l = q.2.1 ++ bs 20 q.2.2 ∧ ∀ w, w ∈ q.2.1 ++ q.2.2 → w ∈ l})
      (fun q => [(0,.sl 0 0 N 3),(1,.i N),(2,rU),(6,.i 20),(7,.i q.1.1),(8,.i ((q.1.1 : Int) + 20))]) (fun q => [.arr (gE (q.1.2.1 ++ q.1.2.2)) 3]) (fun q => q.1.2.2.length) ⟨(0,[],l),by simp;omega⟩
      ⟨[0],rfl,by (repeat (first | exact trivial | refine ⟨rfl,?_⟩)),⟨.inr (aC rfl rfl (bU _)),trivial⟩,by decide,lJ⟩ ?_
    rintro ⟨⟨a,Q,r⟩,h1,h2,h3,h4⟩;dsimp only at h1 h2 h3 h4 ⊢;by_cases hlt : a + 20 ≤ N
    · obtain ⟨r1,r2,rfl,hr⟩ : ∃ r1 r2,r = r1 ++ r2 ∧ r1.length = 20 := ⟨r.take 20,r.drop 20,by simp,by simp;omega⟩
      rw [aF] at h2;have hc := KI (Q ++ (r1 ++ r2)) a (a + 20) (by omega) (by simp;omega) (by simp;omega) (fun w hw' => hw w (h4 w hw'))
      rw [PK h1.symm (by omega),show (Q ++ (r1 ++ r2)).length = N by simp;omega,show ((a + 20 : Nat) : Int) = (a : Int) + 20 by omega] at hc
      rw [BG hr (by omega)] at h3
      (repeat' (first|refine wS ?_|refine wB ?_|refine wK ?_|(refine wC rfl ?_ ?_<;>(intro hb;(try simp only [nm] at hb);try (exfalso;omega)))|(refine rg 2 (dH rfl (vV (iF rfl rfl) ?_)))|(refine rg 3 (dH rfl (dH rfl (eP [0] rfl rfl (hc) rfl rfl (by decide) ⟨.inr (aC rfl rfl (bU _)),trivial⟩ (by simp) rfl ?_))))|(refine rg 4 (mW rfl (aV ?_)))|(refine rg 5 (dH rfl (vV (cC rfl rfl (by omega) (by omega)) (aV ?_))))|refine nZ ?_));all_goals first | (exfalso;omega) | skip
      exact ⟨⟨(a + 20,Q ++ eC eN r1,r2),by dsimp only;exact ⟨by rw [aF,iV];omega,by omega,by rw [h3];simp,fun w hw' => h4 w (QC hw')⟩⟩,by dsimp only;rw [aF];omega,⟨[0],rfl,by (repeat (first | exact trivial | refine ⟨rfl,?_⟩)),⟨.inr (aC rfl (by rw [bE _ (bU _),bV]) (bU _)),trivial⟩,by decide,lJ⟩⟩
    · have hc := KI (Q ++ (r ++ [])) a N (by omega) (by simp;omega) (by simp;omega) (fun w hw' => hw w (h4 w (by simpa using hw')))
      rw [PK h1.symm (by omega),List.append_nil,List.append_nil,show (Q ++ r).length = N by simp;omega,← R3 (k := 20) (by omega),← h3] at hc
      (repeat' (first|refine wS ?_|refine wB ?_|refine wE ?_|(refine wC rfl ?_ ?_<;>(intro hb;(try simp only [nm] at hb);try (exfalso;omega)))|(refine rg 2 (dH rfl (vV (iF rfl rfl) ?_)))|(refine rg 6 (dH rfl (dH rfl (eP [0] rfl rfl (hc) rfl rfl (by decide) ⟨.inr (aC rfl rfl (bU _)),trivial⟩ (by simp) rfl ?_))))|refine nZ ?_));all_goals first | (exfalso;omega) | exact fC [(0,.sl 0 0 N 3),(1,.i N),(2,rU),(6,.i 20)] [.arr (gE (bs 20 l)) 3] ⟨[0],rfl,by (repeat (first | exact trivial | refine ⟨rfl,?_⟩)),⟨.inr (aC rfl (bE _ (bU _)) (bU _)),trivial⟩,by decide,lJ⟩ rest.get
  refine dQ (X := {k : Nat // 20 ≤ k ∧ k ≤ 200000}) (fun k => [(0, .sl 0 0 N 3), (1, .i N), (2, rU), (6, .i k.1)]) (fun k => [.arr (gE (bs k.1 l)) 3]) (fun k => N - k.1) ⟨20, by omega, by omega⟩
    ⟨[0],rfl,by (repeat (first | exact trivial | refine ⟨rfl,?_⟩)),⟨.inr (aC rfl rfl (bU _)),trivial⟩,by decide,lJ⟩ ?_
  rintro ⟨k,hk,hk2⟩;dsimp only;by_cases hkN : k < N
  · (repeat' (first|refine wS ?_|refine wB ?_|refine wK ?_|(refine wC rfl (fun hb => ?_) (fun hb => ?_) <;> (((try simp only [nm] at hb);try (exfalso;omega))))|(refine rg 7 (dH rfl (vV (aM rfl rfl) ?_)))|(refine rg 8 (mW rfl (vV (xJ rfl rfl (by omega) (by omega)) (rK ?_))))|(refine nZ ?_)));all_goals try (exfalso;omega)
    refine dQ (X := {q : Nat × List W × List W // q.2.1.length = q.1 ∧ q.1 + q.2.2.length = N ∧ bs (2 * k) l = q.2.1 ++ bs (2 * k) q.2.2 ∧ ∀ w, w ∈ q.2.1 ++ q.2.2 → w ∈ l})
      (fun q => [(0,.sl 0 0 N 3),(1,.i N),(2,rU),(6,.i k),(7,.i q.1.1),(8,.i ((q.1.1 : Int) + 2 * k))]) (fun q => [.arr (gE (q.1.2.1 ++ bs k q.1.2.2)) 3]) (fun q => q.1.2.2.length) ⟨(0,[],l),by simp;omega⟩
      ⟨[0],rfl,⟨rfl,rfl,rfl,rfl,rfl,by dsimp only;rw [show ((0 : Nat) : Int) + 2 * (k : Int) = 2 * k by omega];rfl,trivial⟩,⟨.inr (aC rfl rfl (bU _)),trivial⟩,by decide,lJ⟩ ?_
    rintro ⟨⟨a,Q,r⟩,h1,h2,h3,h4⟩;dsimp only at h1 h2 h3 h4 ⊢;by_cases hlt : a + 2 * k ≤ N
    · obtain ⟨r1,r2,r3,rfl,hr1,hr2⟩ : ∃ r1 r2 r3,r = r1 ++ (r2 ++ r3) ∧ r1.length = k ∧ r2.length = k := ⟨r.take k,(r.drop k).take k,(r.drop k).drop k,by simp only [bP],by simp;omega,by simp;omega⟩
      simp only [aF] at h2;have hc := zP2 (2 * k) Q (eC eN r1) (eC eN r2) (bs k r3) (a := a) (m := a + k) (b := a + 2 * k) (N := N) (by omega) (by rw [iV]; omega) (by rw [iV]; omega) h1.symm (by rw [iV]; omega) (by rw [iV]; omega) (by rw [zW7]; omega) hl (lM jH _) (lM jH _)
        (fun w hw' => hw w (h4 w (by have := (dK eN _).mem_iff.1 hw';simp [this]))) (fun w hw' => hw w (h4 w (by have := (dK eN _).mem_iff.1 hw';simp [this])))
      rw [IM,← BG hr2 (by omega),← BG hr1 (by omega),show ((a + 2 * k : Nat) : Int) = (a : Int) + 2 * k by omega,show ((a + k : Nat) : Int) = (a : Int) + k by omega] at hc
      rw [← bV r1,BG (k := 2 * k) (by rw [aF];omega) (by omega)] at h3
      (repeat' (first|refine wS ?_|refine wB ?_|refine wK ?_|(refine wC rfl ?_ ?_<;>(intro hb;(try simp only [nm] at hb);try (exfalso;omega)))|(refine rg 9 (dH rfl (vV (iF rfl rfl) ?_)))|(refine rg 10 (dH rfl (dH rfl (vV (cC rfl rfl (by omega) (by omega)) (dH rfl (eP [0] rfl rfl (hc) rfl rfl (by decide) ⟨.inr (aC rfl rfl (bU _)),trivial⟩ (by simp) rfl ?_))))))|(refine rg 11 (mW rfl (aV ?_)))|(refine rg 12 (dH rfl (vV (xJ rfl rfl (by omega) (by omega)) (vV (cC rfl rfl (by omega) (by omega)) (aV ?_)))))|refine nZ ?_));all_goals first | (exfalso;omega) | skip
      exact ⟨⟨(a + 2 * k,Q ++ eC eN (r1 ++ r2),r3),by dsimp only;exact ⟨by rw [aF,iV,aF];omega,by omega,by rw [h3];simp,fun w hw' => h4 w (by have := QC hw';rwa [bV] at this)⟩⟩,by dsimp only;simp only [aF];omega,⟨[0],rfl,by (repeat (first | exact trivial | refine ⟨rfl,?_⟩)),⟨.inr (aC rfl (by rw [bE _ (bU _),bV]) (bU _)),trivial⟩,by decide,lJ⟩⟩
    · by_cases hm : a + k < N
      · obtain ⟨r1,r2,rfl,hr1⟩ : ∃ r1 r2,r = r1 ++ r2 ∧ r1.length = k := ⟨r.take k,r.drop k,by simp,by simp;omega⟩
        simp only [aF] at h2;have hc := zP2 (2 * k) Q (eC eN r1) (eC eN r2) [] (a := a) (m := a + k) (b := N) (N := N) (by omega) (by rw [iV]; omega) (by rw [iV]; omega) h1.symm (by rw [iV]; omega) (by rw [iV]; omega) (by simp) hl (lM jH _) (lM jH _)
          (fun w hw' => hw w (h4 w (by have := (dK eN _).mem_iff.1 hw';simp [this]))) (fun w hw' => hw w (h4 w (by have := (dK eN _).mem_iff.1 hw';simp [this])))
        rw [IM,List.append_nil,List.append_nil,← R3 (k := 2 * k) (l := r1 ++ r2) (by rw [aF];omega),← h3,← R3 (k := k) (l := r2) (by omega),← BG hr1 (by omega),show ((a + k : Nat) : Int) = (a : Int) + k by omega] at hc
        (repeat' (first|refine wS ?_|refine wE ?_|(refine wC rfl ?_ ?_<;>(intro hb;(try simp only [nm] at hb);try (exfalso;omega)))|(refine rg 9 (dH rfl (vV (iF rfl rfl) ?_)))|(refine rg 13 (dH rfl (vV (cC rfl rfl (by omega) (by omega)) (aV ?_))))|(refine rg 14 (dH rfl (vV (aM rfl rfl) ?_)))|(refine rg 15 (dH rfl (dH rfl (mW rfl (eP [0] rfl rfl (hc) rfl rfl (by decide) ⟨.inr (aC rfl rfl (bU _)),trivial⟩ (by simp) rfl ?_)))))|(refine rg 16 (mW rfl (vV (xJ rfl rfl (by omega) (by omega)) (aV ?_))))|refine nZ ?_));all_goals first | (exfalso;omega) | skip
        exact ⟨⟨2 * k,by omega,by omega⟩,by dsimp only;omega,⟨[0],rfl,⟨rfl,rfl,rfl,by dsimp only;rw [show ((2 * k : Nat) : Int) = (k : Int) * 2 by omega];rfl,trivial⟩,⟨.inr (aC rfl (bE _ (bU _)) (bU _)),trivial⟩,by decide,lJ⟩⟩
      · rw [R3 (k := 2 * k) (l := r) (by omega),← R3 (k := k) (l := r) (by omega)] at h3
        rw [← h3]
        (repeat' (first|refine wS ?_|refine wK ?_|refine wE ?_|(refine wC rfl ?_ ?_<;>(intro hb;(try simp only [nm] at hb);try (exfalso;omega)))|(refine rg 9 (dH rfl (vV (iF rfl rfl) ?_)))|(refine rg 13 (dH rfl (vV (cC rfl rfl (by omega) (by omega)) (aV ?_))))|(refine rg 14 (dH rfl (vV (aM rfl rfl) ?_)))|(refine rg 16 (mW rfl (vV (xJ rfl rfl (by omega) (by omega)) (aV ?_))))|refine nZ ?_));all_goals first | (exfalso;omega) | skip
        exact ⟨⟨2 * k,by omega,by omega⟩,by dsimp only;omega,⟨[0],rfl,⟨rfl,rfl,rfl,by dsimp only;rw [show ((2 * k : Nat) : Int) = (k : Int) * 2 by omega];rfl,trivial⟩,⟨.inr (aC rfl rfl (bU _)),trivial⟩,by decide,lJ⟩⟩
  · rw [R3 (k := k) (l := l) (by omega)]
    (repeat' (first|refine wS ?_|refine wE ?_|(refine wC rfl ?_ ?_<;>(intro hb;(try simp only [nm] at hb);try (exfalso;omega)))|(refine rg 7 (dH rfl (vV (aM rfl rfl) ?_)))|refine nZ ?_));all_goals first | (exfalso;omega) | exact ⟨.inl rfl,[0],_,rfl,rfl,rfl,⟨.inr (aC rfl rfl (bU _)),trivial⟩,by decide,lJ⟩ | exact ⟨.inr rfl,[0],_,rfl,rfl,rfl,⟨.inr (aC rfl rfl (bU _)),trivial⟩,by decide,lJ⟩
theorem zF0 (l : List W) {N : Nat} (hN : N = l.length) (hl : N ≤ 100000) (hw : ∀ w,w ∈ l → L9 w) :
    aS Tryz.prog 92 [.sl 0 0 N 3,rU] [.arr (gE l) 3] (.tup []) [.arr (gE (eC eN l)) 3] := by
  have hc := VW l hN hl hw;refine bW T Tryz.func92 rfl rfl rfl rfl ?_
  (repeat' (first|(refine rg 0 (dH rfl (qW T rfl (mW rfl (eP [0] rfl rfl (hc) rfl rfl (by decide) ⟨.inr (aC rfl rfl (bU _)),trivial⟩ (by simp) rfl ?_)))))|refine nZ ?_));all_goals first | (exfalso;omega) | exact ⟨.inl rfl,[0],_,rfl,rfl,rfl,⟨.inr (aC rfl (bE _ (bU _)) (bU _)),trivial⟩,by decide,lJ⟩ | exact ⟨.inr rfl,[0],_,rfl,rfl,rfl,⟨.inr (aC rfl (bE _ (bU _)) (bU _)),trivial⟩,by decide,lJ⟩
end Go.Proofs.YtmmmeebiobjnbaaGreat
namespace Go.Ld
open Go.Ab Go.Proofs.YtmmmeebiobjnbaaGreat
abbrev w0 : W := ([],0,[])
def zQ (l : List W) : Nat → List W
  | 0 => []
  | m + 1 => if 0 < m ∧ E4 (l.getD m w0) (l.getD (m - 1) w0) = true then zQ l m else zQ l m ++ [l.getD m w0]
theorem OF {l : List W} {m : Nat} (h : 0 < m) (e : E4 (l.getD m w0) (l.getD (m - 1) w0) = true) : zQ l (m + 1) = zQ l m := by
  rw [zQ,if_pos ⟨h,e⟩]
theorem OE {l : List W} {m : Nat} (e : E4 (l.getD m w0) (l.getD (m - 1) w0) = false) : zQ l (m + 1) = zQ l m ++ [l.getD m w0] := by
  rw [zQ,if_neg (fun q => by rw [e] at q;cases q.2)]
theorem OD (l : List W) : zQ l 1 = [l.getD 0 w0] := by
  rw [zQ,if_neg (fun q => Nat.lt_irrefl _ q.1)];rfl
theorem EM (y : W) : ∀ (A : List W) (p : W), kN E4 p (A ++ [y]) = kN E4 p A ++ (if E4 y ((p :: A).getLastD w0) = true then [] else [y])
  | [],p => by
    show (if E4 y p = true then [] else [y]) = _
    simp [kN]
  | x :: A,p => by
    rw [List.cons_append,kN,kN,EM y A x];have e : ((p :: x :: A).getLastD w0) = ((x :: A).getLastD w0) := by simp [List.getLastD]
    rw [e];split <;> simp
theorem ZG (y : W) (A : List W) (h : A ≠ []) : zP E4 (A ++ [y]) = zP E4 A ++ (if E4 y (A.getLastD w0) = true then [] else [y]) := by
  cases A with
  | nil => exact absurd rfl h
  | cons x A => rw [List.cons_append];show x :: kN E4 x (A ++ [y]) = _;rw [EM];rfl
theorem oQ {l : List W} {m : Nat} (h : m < l.length) : l.getD m w0 = l[m] := by rw [aD,aB h];rfl
theorem RE (l : List W) : ∀ m, m ≤ l.length → zQ l m = zP E4 (l.take m)
  | 0,_ => by rw [iX];rfl
  | m + 1,h => by
    have e : l.take (m + 1) = l.take m ++ [l.getD m w0] := by rw [oQ (by omega),aU (by omega)]
    rcases L4 m with rfl | h0
    · rw [OD,e];rfl
    · have hne : l.take m ≠ [] := fun q => by have := congrArg List.length q;rw [bG,List.length_nil] at this;omega
      rw [e,ZG _ _ hne,← RE l m (by omega)]
      have hl : (l.take m).getLastD w0 = l.getD (m - 1) w0 := by
        rw [List.getLastD_eq_getLast?,List.getLast?_eq_getElem?,bG,zX6 (by omega),List.getElem?_take_of_lt (by omega),aD]
      rw [hl];cases hq : E4 (l.getD m w0) (l.getD (m - 1) w0) with
      | true => rw [OF h0 hq,if_pos rfl,List.append_nil]
      | false => rw [OE hq,if_neg (by simp)]
theorem zW4 (l : List W) : zQ l l.length = zP E4 l := by rw [RE l _ (aX _),dA]
theorem yH8 {l : List W} {m i : Nat} (hm : m < l.length) (hi : i = m) : (gE l)[i]? = some (wA (l.getD m w0)) := by
  subst hi;simp [hm]
theorem ON {G l : List W} {m : Nat} {i : Nat} (hg : G.length ≤ m) (hm : m < l.length) (hi : i = m) : (gE (G ++ l.drop G.length))[i]? = some (wA (l.getD m w0)) := by
  subst hi;rw [bT,aE hg,dZ,show G.length + (i - G.length) = i by omega,aB hm,oQ hm];rfl
theorem zS1 {G l : List W} {x : W} {j : Int} (h : G.length < l.length) (hj : j = G.length) : (gE (G ++ l.drop G.length)).set (0 + j.toNat) (wA x) = gE ((G ++ [x]) ++ l.drop (G ++ [x]).length) := by
  rw [wO (i := G.length) hj,aT h,nX _ _ _ _ rfl];simp
theorem TG {G l : List W} (h : G.length ≤ l.length) : (gE (G ++ l.drop G.length)).length = l.length := by simp;omega
theorem VN {G : List W} {l : List W} : (gE (G ++ l.drop G.length)).take (0 + (G.length : Int).toNat) = gE G := by
  rw [Nat.zero_add,bQ,← kK,wH]
end Go.Ld
namespace Go.Proofs.YtmmmeebiobjnbaaGreat
open Go Go.Ab Go.Ld
attribute [local irreducible] VC AW cF aS
set_option maxHeartbeats 4000000
abbrev yE9 : AV := .clo (.func 98) [] []
theorem OB (l : List W) (hl : l.length ≤ 1000000) (hw : ∀ w,w ∈ l → L9 w) : aS Tryz.prog 97 [.sl 0 0 l.length 3,yE9] [.arr (gE l) 3] (.sl 0 0 (zP E4 l).length 3) [.arr (gE (zP E4 l)) 3] := by
  rw [← zW4];have hll : (gE l).length = l.length := fF l;refine bW T Tryz.func97 rfl rfl rfl rfl ?_;by_cases h2 : l.length < 2
  · have hk : zQ l l.length = l := by
      match l,h2 with
      | [],_ => rfl
      | [a],_ => exact OD _
      | _ :: _ :: _,h => exact absurd h (by simp)
    rw [hk]
    (repeat' (first|refine wS ?_|refine wR ?_|(refine wC rfl ?_ ?_<;>(intro hb;(try simp only [nm] at hb);try (exfalso;omega)))|(refine rg 0 (aV ?_))|(refine rg 1 (mW rfl (qW T rfl (vV (aM rfl rfl) ?_))))|(refine rg 2 (mW rfl (aV ?_)))|refine nZ ?_));all_goals first | (exfalso;omega) | exact ⟨.inl rfl,[0],_,rfl,rfl,rfl,⟨.inr (aC rfl rfl (bU _)),trivial⟩,by decide,lJ⟩
  · (repeat' (first|refine wS ?_|refine wB ?_|refine wK ?_|(refine wC rfl (fun hb => ?_) (fun hb => ?_) <;> (((try simp only [nm] at hb);try (exfalso;omega))))|(refine rg 0 (aV ?_))|(refine rg 1 (mW rfl (qW T rfl (vV (aM rfl rfl) ?_))))|(refine rg 3 (aV ?_))|(refine nZ ?_)));all_goals try (exfalso;omega)
    refine dQ (X := {k : Nat // 1 ≤ k ∧ k ≤ l.length ∧ zQ l k = l.take k}) (fun k => [(0,.sl 0 0 l.length 3),(1,yE9),(5,.i k.1)]) (fun _ => [.arr (gE l) 3]) (fun k => l.length - k.1) ⟨1,by omega,by omega,by rw [OD,oQ (by omega),aU (by omega)];rfl⟩ ⟨[0],rfl,by (repeat (first | exact trivial | refine ⟨rfl,?_⟩)),⟨.inr (aC rfl rfl (bU _)),trivial⟩,by decide,lJ⟩ ?_
    rintro ⟨k,hk1,hk,hkc⟩;dsimp only;by_cases hlt : k < l.length
    · have e1 := yH8 (i := 0 + (k : Int).toNat) hlt (by omega)
      have e2 := yH8 (l := l) (m := k - 1) (i := 0 + ((k : Int) - 1).toNat) (by omega) (by omega)
      have hc := Z9 (l.getD k w0) (l.getD (k - 1) w0) (hw _ (by rw [oQ hlt];exact aQ _)) (hw _ (by rw [oQ (by omega)];exact aQ _))
      cases hd : E4 (l.getD k w0) (l.getD (k - 1) w0) with
      | true =>
        have hc1 := OF (l := l) hk1 hd;rw [hkc] at hc1;rw [hd] at hc;clear hd;generalize l.getD k w0 = a at *;generalize l.getD (k - 1) w0 = b at *
        (repeat' (first|refine wS ?_|refine wB ?_|refine wK ?_|refine wT ?_|(refine wC rfl ?_ ?_<;>(intro hb;(try simp only [nm] at hb);try (exfalso;omega)))|(refine rg 4 (dH rfl (qW T rfl (vV (aM rfl rfl) ?_))))|(refine tJ (id := 6) 10 66 yL2 yL3 (rM 18 10) yL4 cO rfl (by decide +kernel) (by decide +kernel) ?_;(dsimp only [List.take,List.drop]);refine dN rfl (dN rfl (dN rfl (dV rfl (by exact aK T rfl rfl rfl rfl rfl (by omega) (by omega)) ?_)));refine dV rfl (by exact aJ T rfl rfl (bM rfl e1) rfl) ?_;refine dN rfl (dN rfl (dV rfl (cP rfl rfl (by omega) (by omega)) (dV rfl (by exact aK T rfl rfl rfl rfl rfl (by omega) (by omega)) ?_)));refine dV rfl (by exact aJ T rfl rfl (bM rfl e2) rfl) ?_;refine dE ?_;refine iK ?_;refine vV (kC (hc)) ?_)|(refine rg 7 (dH rfl (vV (by exact jM T rfl rfl rfl rfl rfl rfl (by omega) (by omega) (by omega)) ?_));refine aV ?_)|(refine rg 8 (aV ?_))|refine nZ ?_));all_goals try (exfalso;omega)
        have hl1 : (zQ l (k + 1)).length = k := by rw [hc1];simp;omega
        refine dQ (X := {j : Nat // 1 ≤ j ∧ k + j ≤ l.length ∧ (zQ l (k + j)).length + 1 ≤ k + j}) (fun j => [(0,.sl 0 0 l.length 3),(1,yE9),(5,.i (zQ l (k + j.1)).length),(6,.sl 0 (0 + (k : Int).toNat) ((l.length : Int) - (k : Int)).toNat 3),(7,.i j.1)]) (fun j => [.arr (gE (zQ l (k + j.1) ++ l.drop (zQ l (k + j.1)).length)) 3]) (fun j => l.length - (k + j.1)) ⟨1,by omega,by omega,by omega⟩ ⟨[0],rfl,⟨rfl,rfl,by dsimp only;rw [hl1];rfl,rfl,rfl,trivial⟩,⟨.inr (aC rfl (by dsimp only;rw [hl1,hc1,bP]) (bU _)),trivial⟩,by decide,lJ⟩ ?_
        clear e1 e2 hl1 hc1 hc a b;rintro ⟨j,hj1,hj,hjc⟩;dsimp only;by_cases hjl : k + j < l.length
        · have e1 := ON (G := zQ l (k + j)) (l := l) (m := k + j) (i := 0 + (k : Int).toNat + (j : Int).toNat) (by omega) hjl (by omega)
          have e2 := ON (G := zQ l (k + j)) (l := l) (m := k + j - 1) (i := 0 + (k : Int).toNat + ((j : Int) - 1).toNat) (by omega) (by omega) (by omega)
          have e3 := ON (G := zQ l (k + j)) (l := l) (m := (zQ l (k + j)).length) (i := 0 + (((zQ l (k + j)).length : Nat) : Int).toNat) (aX _) (by omega) (by omega)
          have hset := zS1 (G := zQ l (k + j)) (l := l) (x := l.getD (k + j) w0) (j := (((zQ l (k + j)).length : Nat) : Int)) (by omega) rfl
          have hal := TG (G := zQ l (k + j)) (l := l) (by omega)
          have hdup := OF (l := l) (m := k + j) (by omega)
          have hnew := OE (l := l) (m := k + j);have hc := Z9 (l.getD (k + j) w0) (l.getD (k + j - 1) w0) (hw _ (by rw [oQ hjl];exact aQ _)) (hw _ (by rw [oQ (by omega)];exact aQ _))
          have hnl : ∀ G : List W,(G ++ [l.getD (k + j) w0]).length = G.length + 1 := fun G => by simp
          rw [show k + j + 1 = k + (j + 1) by omega] at hdup hnew
          generalize l.getD (k + j) w0 = a at *;generalize l.getD (k + j - 1) w0 = b at *;generalize l.getD (zQ l (k + j)).length w0 = y at *;generalize zQ l (k + j) = G at *;cases hd : E4 a b with
          | true =>
            have hdup := hdup hd;rw [hd] at hc;generalize hA : gE (G ++ l.drop G.length) = A at *
            (repeat' (first|refine wS ?_|refine wB ?_|refine wK ?_|refine wU ?_|(refine wC rfl ?_ ?_<;>(intro hb;(try simp only [nm] at hb);try (exfalso;omega)))|(refine rg 9 (dH rfl (qW T rfl (vV (aM rfl rfl) ?_))))|(refine cH (id := 11) 66 yL5 (rM 38 12) yL6 cO rfl (by decide +kernel) (dN rfl (dN rfl (dN rfl (dV rfl (by exact aK T rfl rfl rfl rfl rfl (by omega) (by omega)) ?_))));refine dV rfl (by exact aJ T rfl rfl (bM rfl e1) rfl) ?_;refine dN rfl (dN rfl (dV rfl (cP rfl rfl (by omega) (by omega)) (dV rfl (by exact aK T rfl rfl rfl rfl rfl (by omega) (by omega)) ?_)));refine dV rfl (by exact aJ T rfl rfl (bM rfl e2) rfl) ?_;refine dV rfl (kC (hc)) (dV rfl (dI rfl) (dE ?_)))|(refine iA 10 rfl rfl rfl (by omega) (by omega) ?_)|refine nZ ?_));all_goals try (exfalso;omega)
            all_goals exact ⟨⟨j + 1,by omega,by omega,by rw [hdup];omega⟩,by dsimp only;omega,[0],rfl,⟨rfl,rfl,by dsimp only;rw [hdup];rfl,rfl,rfl,trivial⟩,⟨.inr (aC rfl (by dsimp only;rw [hdup];exact hA.symm) (bU _)),trivial⟩,by decide,lJ⟩
          | false =>
            have hnew := hnew hd;have hgl := hnl G;rw [hd] at hc;generalize hA : gE (G ++ l.drop G.length) = A at *
            (repeat' (first|refine wS ?_|refine wB ?_|refine wK ?_|refine wT ?_|(refine wC rfl ?_ ?_<;>(intro hb;(try simp only [nm] at hb);try (exfalso;omega)))|(refine rg 9 (dH rfl (qW T rfl (vV (aM rfl rfl) ?_))))|(refine cH (id := 11) 66 yL5 (rM 38 12) yL6 cO rfl (by decide +kernel) (dN rfl (dN rfl (dN rfl (dV rfl (by exact aK T rfl rfl rfl rfl rfl (by omega) (by omega)) ?_))));refine dV rfl (by exact aJ T rfl rfl (bM rfl e1) rfl) ?_;refine dN rfl (dN rfl (dV rfl (cP rfl rfl (by omega) (by omega)) (dV rfl (by exact aK T rfl rfl rfl rfl rfl (by omega) (by omega)) ?_)));refine dV rfl (by exact aJ T rfl rfl (bM rfl e2) rfl) ?_;refine dV rfl (kC (hc)) (dV rfl (dI rfl) (dE ?_)))|(refine rg 12 (dH rfl (dH rfl (vV (by exact aK T rfl rfl rfl rfl rfl (by omega) (by omega)) ?_)));refine vV (by exact aJ T rfl rfl (bM rfl e1) rfl) ?_;refine vV (by exact aK T rfl rfl rfl rfl rfl (by omega) (by omega)) ?_;refine bA T rfl rfl rfl rfl rfl rfl (by decide) (lZ rfl e3 rfl) ?_)|(refine iA 13 rfl rfl rfl (by omega) (by omega) ?_)|(refine iA 10 rfl rfl rfl (by omega) (by omega) ?_)|refine nZ ?_));all_goals try (exfalso;omega)
            all_goals exact ⟨⟨j + 1,by omega,by omega,by rw [hnew];omega⟩,by dsimp only;omega,[0],rfl,⟨rfl,rfl,by dsimp only;rw [hnew,hgl];rfl,rfl,rfl,trivial⟩,⟨.inr (aC rfl (by dsimp only;rw [hnew];exact hset) (bU _)),trivial⟩,by decide,lJ⟩
        · have hkj : k + j = l.length := by omega
          have hcm : zQ l l.length = zQ l (k + j) := by rw [hkj]
          have hal := TG (G := zQ l (k + j)) (l := l) (by omega)
          have htk := VN (G := zQ l (k + j)) (l := l);rw [hcm];generalize zQ l (k + j) = G at *
          (repeat' (first|refine wS ?_|refine wR ?_|refine wE ?_|(refine wC rfl ?_ ?_<;>(intro hb;(try simp only [nm] at hb);try (exfalso;omega)))|(refine rg 9 (dH rfl (qW T rfl (vV (aM rfl rfl) ?_))))|(refine rg 14 (dH rfl (vV (by exact jM T rfl rfl rfl rfl rfl rfl (by omega) (by omega) (by omega)) ?_));refine M1 T rfl rfl rfl ⟨rfl,rfl,by decide⟩ rfl (by rw [hal];omega) ?_)|(refine rg 15 (dH rfl (vV (by exact jM T rfl rfl rfl rfl rfl rfl (by omega) (by omega) (by omega)) ?_));refine aV ?_)|refine nZ ?_));all_goals try (exfalso;omega)
          all_goals exact ⟨.inl rfl,[0],_,rfl,(by show AV.sl 0 0 ((G.length : Int) - 0).toNat 3 = AV.sl 0 0 G.length 3;rw [show ((G.length : Int) - 0).toNat = G.length by omega]),rfl,⟨.inr (aC rfl htk (bU _)),trivial⟩,by decide,lJ⟩
      | false =>
        have hnew := OE (l := l) hd;rw [hkc,oQ hlt,← aU hlt] at hnew;rw [hd] at hc;clear hd;generalize l.getD k w0 = a at *;generalize l.getD (k - 1) w0 = b at *
        (repeat' (first|refine wS ?_|refine wB ?_|refine wK ?_|refine wU ?_|(refine wC rfl ?_ ?_<;>(intro hb;(try simp only [nm] at hb);try (exfalso;omega)))|(refine rg 4 (dH rfl (qW T rfl (vV (aM rfl rfl) ?_))))|(refine tJ (id := 6) 10 66 yL2 yL3 (rM 18 10) yL4 cO rfl (by decide +kernel) (by decide +kernel) ?_;(dsimp only [List.take,List.drop]);refine dN rfl (dN rfl (dN rfl (dV rfl (by exact aK T rfl rfl rfl rfl rfl (by omega) (by omega)) ?_)));refine dV rfl (by exact aJ T rfl rfl (bM rfl e1) rfl) ?_;refine dN rfl (dN rfl (dV rfl (cP rfl rfl (by omega) (by omega)) (dV rfl (by exact aK T rfl rfl rfl rfl rfl (by omega) (by omega)) ?_)));refine dV rfl (by exact aJ T rfl rfl (bM rfl e2) rfl) ?_;refine dE ?_;refine iK ?_;refine vV (kC (hc)) ?_)|(refine iA 5 rfl rfl rfl (by omega) (by omega) ?_)|refine nZ ?_));all_goals try (exfalso;omega)
        all_goals exact ⟨⟨k + 1,by omega,hlt,hnew⟩,by dsimp only;omega,[0],rfl,by (repeat (first | exact trivial | refine ⟨rfl,?_⟩)),⟨.inr (aC rfl rfl (bU _)),trivial⟩,by decide,lJ⟩
    · obtain rfl : k = l.length := by omega
      have hcm : zQ l l.length = l := by rw [hkc,dA]
      rw [hcm]
      (repeat' (first|refine wS ?_|refine wR ?_|refine wE ?_|(refine wC rfl ?_ ?_<;>(intro hb;(try simp only [nm] at hb);try (exfalso;omega)))|(refine rg 4 (dH rfl (qW T rfl (vV (aM rfl rfl) ?_))))|(refine rg 16 (mW rfl (aV ?_)))|refine nZ ?_));all_goals first | (exfalso;omega) | exact ⟨.inl rfl,[0],_,rfl,rfl,rfl,⟨.inr (aC rfl rfl (bU _)),trivial⟩,by decide,lJ⟩
theorem LG (l : List W) (hl : l.length ≤ 1000000) : aS Tryz.prog 91 [.rowE (gE l) 3] [] (.sl 0 0 l.length 3) [.arr (gE l) 3] := by
  have hll : (gE l).length = l.length := fF l;refine bW T Tryz.func91 rfl rfl rfl rfl ?_
  repeat' (first|refine wS ?_|refine wK ?_|refine wT ?_|refine wU ?_|(refine rg 0 (aV ?_))|(refine rg 1 (mV ?_);refine sO T rfl rfl rfl rfl fun b hb=>?_;cases b)|refine nZ ?_)
  · (repeat' (first|refine wR ?_|(refine rg 3 (cD (by exact bD T rfl rfl (by decide) (by decide) rfl rfl rfl) rfl ?_);refine mW rfl (fY T rfl rfl rfl rfl rfl rfl (by decide) (.row (pD l)) (zQ7 l) (by simp;omega) (by simp;omega) rfl ?_);refine aV ?_)|(refine nZ ?_)));exact ⟨.inl rfl,[1],_,rfl,(by show AV.sl 1 0 (0 + (gE l).length) 3 = AV.sl 1 0 l.length 3;simp),rfl,⟨.inr (aC rfl rfl (bU _)),trivial⟩,by decide,N4⟩
  · have hl0 : l = [] := fP.1 (Classical.byContradiction fun h => by have := hb (by omega);cases this)
    subst hl0
    (repeat' (first|refine wR ?_|(refine rg 2 (vV (dJ rfl) (qC 2 3 rfl (by decide) ?_)))|refine nZ ?_));exact ⟨.inl rfl,[0],_,rfl,rfl,rfl,⟨.inr (aC rfl rfl (bU _)),trivial⟩,by decide,N4⟩
theorem fX : ∀ {es : List (List AV)}, (∀ e, e ∈ es → AV.idfL e = true) → AV.idfL es.flatten = true
  | [],_ => rfl
  | e :: es,h => by
    have h1 := h e aR;have h2 := fX (es := es) fun q hq => h q (aI _ hq);rw [eL];generalize es.flatten = F at *;clear h
    induction e with
    | nil => exact h2
    | cons x e ih =>
      simp only [List.cons_append,AV.idfL,aL] at h1 ⊢;exact ⟨h1.1,ih h1.2⟩
theorem DM (l : List W) (hl : l.length ≤ 100000) (hw : ∀ w,w ∈ l → L9 w) : aS Tryz.prog 64 [.rowE (gE l) 3] [] (.rowE (gE (gL l)) 3) [] := by
  refine kH (by simp : (gL l).length = (gE (gL l)).length) (fX (bU _)) ?_
  have h1 := LG l (by omega)
  have h2 := zF0 l rfl hl hw;have h3 := OB (eC eN l) (by rw [iV];omega) (fun w h => hw w ((dK _ _).mem_iff.1 h))
  rw [iV] at h3;show aS _ _ _ _ (.sl 0 0 (zP E4 (eC eN l)).length 3) [.arr (gE (zP E4 (eC eN l))) 3];generalize zP E4 (eC eN l) = R at *;refine bW T Tryz.func64 rfl rfl rfl rfl ?_
  (repeat' (first|refine wS ?_|refine wR ?_|(refine rg 0 (aV ?_))|(refine rg 1 (mW rfl (cD (by exact fL rfl rfl h1 (.inr ⟨rfl,rfl,by simp⟩)) rfl ?_));refine aV ?_)|(refine rg 2 (mW rfl (eP [0] rfl rfl (h2) rfl rfl (by decide) ⟨.inr (aC rfl (bE _ (bU _)) (bU _)),trivial⟩ (by simp) rfl ?_)))|(refine rg 3 (mW rfl (eP [0] rfl rfl (h3) rfl rfl (by decide) ⟨.inr (aC rfl (bE _ (bU _)) (bU _)),trivial⟩ (by simp) rfl ?_));refine aV ?_)|refine nZ ?_));all_goals exact ⟨.inl rfl,[0],_,rfl,rfl,rfl,⟨.inr (aC rfl (bE _ (bU _)) (bU _)),trivial⟩,by decide,fun i h => absurd h (eI _)⟩
end Go.Proofs.YtmmmeebiobjnbaaGreat
namespace Go.Ab
open Go
mutual
def AV.pln : AV → Bool
  | .v _ => true
  | .any => true
  | .row .. => true
  | .mrow .. => true
  | .pr .. => true
  | .agg cs => AV.plnL cs
  | _ => false
def AV.plnL : List AV → Bool
  | [] => true
  | x :: l => AV.pln x && AV.plnL l
end
mutual
theorem RV {h : Hp} : ∀ (x : AV), x.pln = true → nP h x x
  | .v x,_ => .v x
  | .any,_ => .any
  | .row cs l s,_ => .row cs l s
  | .mrow ks vs,_ => .mrow ks vs
  | .pr cs o,_ => .pr cs o
  | .agg cs,e => .agg (kV cs (by simpa [AV.pln] using e))
  | .ptr ..,e | .ep ..,e | .sl ..,e | .mp ..,e | .tup ..,e | .clo ..,e | .cond ..,e | .ifc ..,e => by simp [AV.pln] at e
theorem kV {h : Hp} : ∀ (xs : List AV), AV.plnL xs = true → mB h xs xs
  | [],_ => .nil
  | x :: l,e => by
    simp only [AV.plnL,aL] at e;exact .cons (RV x e.1) (kV l e.2)
end
theorem P7 : ∀ (a b : List AV), AV.plnL (a ++ b) = (AV.plnL a && AV.plnL b)
  | [],b => by simp [AV.plnL]
  | x :: a,b => by simp [AV.plnL,P7 a b,Bool.and_assoc]
theorem qD {α : Type} {g : α → List AV} (hg : ∀ a, AV.plnL (g a) = true) : ∀ l : List α, AV.plnL (l.map g).flatten = true
  | [] => rfl
  | a :: l => by rw [List.map_cons,eL,P7,hg a,qD hg l];rfl
theorem nW {h : Hp} {k n sz : Nat} {es : List (List AV)} (hk : h[k]? = some (.arr es sz)) (hn : n = es.length) (hp : AV.plnL es.flatten = true) : nP h (.sl k 0 n sz) (.rowE es sz) := by
  subst hn;refine nP.sl hk (by omega) ?_
  rw [jR,dA];exact kV _ hp
end Go.Ab
namespace Go.Ld
open Go.Ab Go.Proofs.YtmmmeebiobjnbaaGreat
theorem iH (l : List SP) : (fJ l).length = l.length := aY _
theorem eZ (l : List SP) : ∀ e,e ∈ fJ l → AV.idfL e = true := by intro e he;obtain ⟨i,_,rfl⟩ := bC.1 he;rfl
theorem CR (l : List SP) : (fJ l).flatten.all AV.one = true := by
  induction l with
  | nil => rfl
  | cons x l ih => exact ih
theorem vE {l : List SP} {j : Int} {i : Nat} (h : i < l.length) (e : j = i) : (fJ l)[j.toNat]? = some [AV.i (l.getD i (0,0)).1,AV.i (l.getD i (0,0)).2] := by
  subst e;rw [bQ,bT,aB h,aD,aB h];rfl
theorem I0 {l : List SP} {j : Int} {i : Nat} (h : i < l.length) (e : j = i) : (fJ l)[0 + j.toNat]? = some [AV.i (l.getD i (0,0)).1,AV.i (l.getD i (0,0)).2] := by
  rw [Nat.zero_add];exact vE h e
theorem X6 {l : List SP} {j : Int} {i : Nat} {r : SP} (e : j = i) : (fJ l).set (0 + j.toNat) [AV.i r.1,AV.i r.2] = fJ (l.set i r) := by
  subst e;rw [Nat.zero_add,bQ];show _ = List.map (fun p : SP => [AV.i p.1,AV.i p.2]) (l.set i r);rw [pZ]
end Go.Ld
namespace Go.Proofs.YtmmmeebiobjnbaaGreat
open Go Go.Ab Go.Ld
attribute [local irreducible] VC AW cF aS
set_option maxHeartbeats 4000000
theorem kQ (l : List Nat) : ∀ i : Nat,i < 0 → l[i]? = some i := fun i h => absurd h (eI _)
theorem ZH (l : List SP) (hl : l.length ≤ 1000000) : aS Tryz.prog 124 [.rowE (fJ l) 2] [] (.sl 0 0 l.length 2) [.arr (fJ l) 2] := by
  have hll : (fJ l).length = l.length := iH l;refine bW T Tryz.func124 rfl rfl rfl rfl ?_
  repeat' (first|refine wS ?_|refine wK ?_|refine wT ?_|refine wU ?_|(refine rg 0 (aV ?_))|(refine rg 1 (mV ?_);refine sO T rfl rfl rfl rfl fun b hb=>?_;cases b)|refine nZ ?_)
  · (repeat' (first|refine wR ?_|(refine rg 3 (cD (by exact bD T rfl rfl (by decide) (by decide) rfl rfl rfl) rfl ?_);refine mW rfl (fY T rfl rfl rfl rfl rfl rfl (by decide) (.row (lG l)) (CR l) (by simp;omega) (by simp;omega) rfl ?_);refine aV ?_)|(refine nZ ?_)));exact ⟨.inl rfl,[1],_,rfl,(by show AV.sl 1 0 (0 + (fJ l).length) 2 = AV.sl 1 0 l.length 2;simp),rfl,⟨.inr (aC rfl rfl (eZ _)),trivial⟩,by decide,kQ _⟩
  · have hl0 : l = [] := fP.1 (Classical.byContradiction fun h => by have := hb (by omega);cases this)
    subst hl0
    (repeat' (first|refine wR ?_|(refine rg 2 (vV (dJ rfl) (qC 2 2 rfl (by decide) ?_)))|refine nZ ?_));exact ⟨.inl rfl,[0],_,rfl,rfl,rfl,⟨.inr (aC rfl rfl (eZ _)),trivial⟩,by decide,kQ _⟩
theorem GN (w : W) (hw : L9 w) : aS Tryz.prog 86 [MK w] [] (.agg [.sl 0 0 w.1.length 1,.i w.2.1,.sl 1 0 w.2.2.length 2]) [.arr (ints w.1) 1,.arr (fJ w.2.2) 2] := by
  obtain ⟨p,m,c⟩ := w;have h1 := GP p (by have := hw.1;dsimp only at this;omega)
  have h2 := ZH c hw.2;dsimp only;refine bW T Tryz.func86 rfl rfl rfl rfl ?_
  (repeat' (first|refine wS ?_|refine wR ?_|(refine rg 0 (cD (cQ rfl rfl) rfl (cD (cK T rfl) rfl ?_)))|(refine cH (id := 1) 12 [[],[0],[0,1],[],[3],[],[5],[0,1,2,5,6],rN 8] (rM 3 9) [[],[],[],[3,4,5],[3,4,5],rM 3 5,rM 3 5,[6,7],[]] cO rfl (by decide +kernel) (dP T rfl (dO T rfl (F9 rfl rfl rfl (by exact fL rfl rfl h1 (.inr ⟨rfl,rfl,by simp⟩)) rfl ?_)));refine dP T rfl (dO T rfl (dP T rfl (dO T rfl (F9 rfl rfl rfl (by exact fL rfl rfl h2 (.inr ⟨rfl,rfl,by simp⟩)) rfl ?_))));refine dV rfl (by exact eS T rfl rfl rfl rfl) ?_;refine dE ?_;refine bA T rfl rfl rfl rfl rfl rfl (by decide) rfl ?_)|refine nZ ?_));all_goals exact ⟨.inl rfl,[2,3],_,rfl,rfl,rfl,⟨.inr (aC rfl (bE _ (bB p)) (bB p)),.inr (aC rfl (bE _ (eZ c)) (eZ c)),trivial⟩,by decide,kQ _⟩
theorem W4 {h : Hp} {k n : Nat} {l : List SP} (hk : h[k]? = some (.arr (fJ l) 2)) (hn : n = l.length) : nP h (.sl k 0 n 2) (.rowE (fJ l) 2) := nW hk (by rw [hn,iH]) (qD (fun _ => rfl) _)
theorem zV6 (w : W) {i k : Nat} (hw : L9 w) (hi : i < w.1.length) (hk : k < w.1.length) (hc : w.2.2.length = w.1.length) :
    aS Tryz.prog 63 [MK w,.i i,.i k] [] (.agg [.sl 0 0 w.1.length 1,.i w.2.1,.sl 1 0 w.2.2.length 2]) [.arr (ints (oT w i k).1) 1,.arr (fJ (oT w i k).2.2) 2] := by
  have hcl := GN w hw;obtain ⟨p,m,c⟩ := w;have hw1 := hw.1;have hw2 := hw.2;dsimp only at hi hk hc hcl hw1 hw2;have p1 := U7 (l := p) (j := (i : Int)) (i := i) 0 hi rfl;have p2 := U7 (l := p) (j := (k : Int)) (i := k) 0 hk rfl;have ps := QF (l := p) (j := (i : Int)) (i := i) (x := p.getD k 0) rfl;have p3 := U7 (l := p.set i (p.getD k 0)) (j := (k : Int)) (i := k) 0 (by simpa using hk) rfl
  have pt := QF (l := p.set i (p.getD k 0)) (j := (k : Int)) (i := k) (x := p.getD i 0) rfl;have c1 := I0 (l := c) (j := (i : Int)) (i := i) (by omega) rfl
  have c2 := I0 (l := c) (j := (k : Int)) (i := k) (by omega) rfl
  have cs := X6 (l := c) (j := (i : Int)) (i := i) (r := c.getD k (0,0)) rfl;have c3 := I0 (l := c.set i (c.getD k (0,0))) (j := (k : Int)) (i := k) (by rw [hC];omega) rfl
  have ct := X6 (l := c.set i (c.getD k (0,0))) (j := (k : Int)) (i := k) (r := c.getD i (0,0)) rfl;show aS _ _ _ _ _ [.arr (ints ((p.set i (p.getD k 0)).set k (p.getD i 0))) 1,.arr (fJ ((c.set i (c.getD k (0,0))).set k (c.getD i (0,0)))) 2];have hlp : (ints p).length = p.length := cW _;have hlc : (fJ c).length = c.length := iH _;dsimp only;refine bW T Tryz.func63 rfl rfl rfl rfl ?_
  (repeat' (first|refine wS ?_|(refine rg 0 (cD (cQ rfl rfl) rfl (cD (cK T rfl) rfl ?_)))|(refine rg 1 (lW T rfl (cD (by exact fL rfl rfl hcl (.inr ⟨rfl,rfl,by simp⟩)) rfl ?_));refine bA T rfl rfl rfl rfl rfl rfl (by decide) rfl ?_)|refine nZ ?_));refine fC [(1,.i i),(2,.i k),(3,.ptr 0 0),(6,.ptr 1 0)] [.cells [.sl 2 0 p.length 1,.i m,.sl 3 0 c.length 2],.cells [.nils,.i 0,.nils],.arr (ints p) 1,.arr (fJ c) 2] ⟨[0,1,2,3],rfl,(by repeat first|exact trivial|refine ⟨rfl,?_⟩),⟨.inr rfl,.inr rfl,.inr (aC rfl (bE _ (bB p)) (bB p)),.inr (aC rfl (bE _ (eZ c)) (eZ c)),trivial⟩,by decide,kQ _⟩ ?_
  rw [← ps] at p3 pt;rw [← cs] at c3 ct;generalize p.getD k 0 = x at *;generalize p.getD i 0 = y at *;generalize c.getD k (0,0) = r at *;generalize c.getD i (0,0) = q at *
  (repeat' (first|refine wS ?_|refine wR ?_|(refine nC (id := 2) 46 yL7 (rM 9 17) [[],[],[9,10],[9,10,11],[9,10,11],rM 9 5,rM 9 6,rM 9 6,rM 9 8,rM 9 6,rM 9 6,rM 9 11,rM 9 11,rM 9 13,rM 9 11,rM 9 11,[12,13,14],[12,13,14]] [(17,2)] cO rfl (by decide +kernel) (cN rfl rfl rfl rfl (by exact bF T rfl rfl rfl) ?_);refine cN rfl rfl rfl rfl (by exact aJ T rfl rfl rfl rfl) ?_;refine cN rfl rfl rfl rfl (by exact bN rfl) ?_;refine cN rfl rfl rfl rfl (by exact bF T rfl rfl rfl) ?_;refine cN rfl rfl rfl rfl (by exact aJ T rfl rfl rfl rfl) ?_;refine cN rfl rfl rfl rfl (by exact bN rfl) ?_;refine cN rfl rfl rfl rfl (by exact bF T rfl rfl rfl) ?_;refine cN rfl rfl rfl rfl (by exact aJ T rfl rfl rfl rfl) ?_;refine cN rfl rfl rfl rfl (by exact bN rfl) ?_;refine cN rfl rfl rfl rfl (by exact aK T rfl rfl rfl rfl rfl (by omega) (by omega)) ?_;refine cN rfl rfl rfl rfl (by exact aJ T rfl rfl (bM rfl p2) rfl) ?_;refine cN rfl rfl rfl rfl (by exact bF T rfl rfl rfl) ?_;refine cN rfl rfl rfl rfl (by exact aJ T rfl rfl rfl rfl) ?_;refine cN rfl rfl rfl rfl (by exact bN rfl) ?_;refine cN rfl rfl rfl rfl (by exact aK T rfl rfl rfl rfl rfl (by omega) (by omega)) ?_;refine cN rfl rfl rfl rfl (by exact aJ T rfl rfl (bM rfl p1) rfl) ?_;refine cN rfl rfl rfl rfl (by exact aK T rfl rfl rfl rfl rfl (by omega) (by omega)) ?_;refine uV rfl rfl rfl rfl (aG rfl) T rfl rfl rfl rfl rfl rfl (by decide) (tY rfl p1 rfl) ?_;refine rJ rfl rfl rfl (by exact rfl) ?_;refine vV (by exact aK T rfl rfl rfl rfl rfl (by omega) (by omega)) ?_;refine bA T rfl rfl rfl rfl rfl rfl (by decide) (lZ rfl p3 rfl) ?_)|(refine nC (id := 3) 46 yL7 (rM 27 17) [[],[],[27,28],[27,28,29],[27,28,29],rM 27 5,rM 27 6,rM 27 6,rM 27 8,rM 27 6,rM 27 6,rM 27 11,rM 27 11,rM 27 13,rM 27 11,rM 27 11,[30,31,32],[30,31,32]] [(17,3)] cO rfl (by decide +kernel) (cN rfl rfl rfl rfl (by exact bF T rfl rfl rfl) ?_);refine cN rfl rfl rfl rfl (by exact aJ T rfl rfl rfl rfl) ?_;refine cN rfl rfl rfl rfl (by exact bN rfl) ?_;refine cN rfl rfl rfl rfl (by exact bF T rfl rfl rfl) ?_;refine cN rfl rfl rfl rfl (by exact aJ T rfl rfl rfl rfl) ?_;refine cN rfl rfl rfl rfl (by exact bN rfl) ?_;refine cN rfl rfl rfl rfl (by exact bF T rfl rfl rfl) ?_;refine cN rfl rfl rfl rfl (by exact aJ T rfl rfl rfl rfl) ?_;refine cN rfl rfl rfl rfl (by exact bN rfl) ?_;refine cN rfl rfl rfl rfl (by exact aK T rfl rfl rfl rfl rfl (by omega) (by omega)) ?_;refine cN rfl rfl rfl rfl (by exact aJ T rfl rfl (bM rfl c2) rfl) ?_;refine cN rfl rfl rfl rfl (by exact bF T rfl rfl rfl) ?_;refine cN rfl rfl rfl rfl (by exact aJ T rfl rfl rfl rfl) ?_;refine cN rfl rfl rfl rfl (by exact bN rfl) ?_;refine cN rfl rfl rfl rfl (by exact aK T rfl rfl rfl rfl rfl (by omega) (by omega)) ?_;refine cN rfl rfl rfl rfl (by exact aJ T rfl rfl (bM rfl c1) rfl) ?_;refine cN rfl rfl rfl rfl (by exact aK T rfl rfl rfl rfl rfl (by omega) (by omega)) ?_;refine uV rfl rfl rfl rfl (aG rfl) T rfl rfl rfl rfl rfl rfl (by decide) (tY rfl c1 rfl) ?_;refine rJ rfl rfl rfl (by exact rfl) ?_;refine vV (by exact aK T rfl rfl rfl rfl rfl (by omega) (by omega)) ?_;refine bA T rfl rfl rfl rfl rfl rfl (by decide) (lZ rfl c3 rfl) ?_)|(refine rg 4 (vV (aJ T rfl rfl rfl rfl) (bA T rfl rfl rfl rfl rfl rfl (by decide) rfl ?_)))|refine nZ ?_));all_goals exact ⟨.inl rfl,[2,3],_,rfl,rfl,rfl,⟨.inr (aC rfl pt (bB _)),.inr (aC rfl ct (eZ _)),trivial⟩,by decide,kQ _⟩
theorem zV7 (w : W) {i k : Nat} (hw : L9 w) (hi : i < w.1.length) (hk : k < w.1.length) (hc : w.2.2.length = w.1.length) : aS Tryz.prog 63 [MK w,.i i,.i k] [] (MK (oT w i k)) [] :=
  G6 (zV6 w hw hi hk hc) (.agg (.cons (vC rfl (by simp [oT])) (.cons (.v _) (.cons (W4 rfl (by simp [oT])) .nil))))
theorem XS (a b : W) : aS Tryz.prog 134 [MK a,MK b] [] (.i (cI a.2.1 b.2.1)) [] := by
  have h := EL a.2.1 b.2.1;refine bW T Tryz.func134 rfl rfl rfl rfl ?_
  (repeat' (first|refine wS ?_|refine wR ?_|(refine rg 0 (cD (cQ rfl rfl) rfl (cD (cQ rfl rfl) rfl (aV ?_))))|(refine rg 1 (iB T rfl (iB T rfl (vV (kC (h)) (aV ?_)))))|refine nZ ?_));all_goals first | (exfalso;omega) | exact rQ
end Go.Proofs.YtmmmeebiobjnbaaGreat
