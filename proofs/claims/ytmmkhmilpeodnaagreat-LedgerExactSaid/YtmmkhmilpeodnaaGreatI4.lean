/-
  Texts of the logic and of the layer,in one module (part 4).
-/
import Derived.Test.YtmmkhmilpeodnaaGreatI3
set_option linter.unusedVariables false
set_option linter.unusedSimpArgs false
set_option linter.unnecessarySimpa false
namespace Go.Pm
def iW : Nat → Nat
  | 0 => 1
  | n + 1 => iW n * (n + 1)
theorem zR : ∀ n, 0 < iW n
  | 0 => T0
  | n + 1 => zO6 (zR n) (Nat.succ_pos n)
theorem fact_mono {m n : Nat} (h : m ≤ n) : iW m ≤ iW n := by
  induction h with
  | refl => exact aY _
  | step _ ih => exact bA ih (uO _ (Nat.succ_pos _))
theorem zK6 {n : Nat} (h : n ≤ 20) : iW n ≤ 2432902008176640000 := bA (fact_mono h) (by decide)
def WD : List Nat → Nat
  | [] => 0
  | x :: l => tB x l * iW l.length + WD l
def U9 : Nat → List Nat → Nat → List Nat
  | 0,_,_ => []
  | m + 1,left,k => lB left (k / iW m) :: U9 m (left.eraseIdx (k / iW m)) (k % iW m)
abbrev Up (l : List Nat) : Prop := l.Pairwise (· < ·)
theorem zD4 {l : List Nat} (h : Up l) : ∀ {i : Nat},i < l.length → tB (lB l i) l = i := by
  induction l with
  | nil => intro i hi;simp at hi
  | cons x l ih =>
    rw [Up,eR] at h;intro i hi;rw [AH];cases i with
    | zero =>
      have : tB x l = 0 := by
        rw [tB,List.countP_eq_zero];intro y hy;have := h.1 y hy;simp;omega
      show tB x l + (if x < x then 1 else 0) = 0
      rw [this,if_neg (QM _)]
    | succ i =>
      have hi' : i < l.length := by simpa using hi
      show tB (lB l i) l + (if x < lB l i then 1 else 0) = i + 1
      rw [ih h.2 hi',if_pos (h.1 _ (by rw [rS hi'];exact aI _))]
theorem JZ {l : List Nat} {i : Nat} (h : i < l.length) : l.Perm (lB l i :: l.eraseIdx i) := by
  rw [rS h,xT]
  conv => lhs;rw [← bL i l,aX h]
  exact gR
theorem UQ {l : List Nat} (h : Up l) (i : Nat) : Up (l.eraseIdx i) := h.sublist (yJ l i)
theorem rank_unr : ∀ (m : Nat) (left : List Nat) (k : Nat), left.length = m → Up left → k < iW m → (U9 m left k).Perm left ∧ WD (U9 m left k) = k
  | 0,left,k,hl,_,hk => by
    have : left = [] := eT.1 hl;subst this;have : k = 0 := by have : iW 0 = 1 := rfl;omega
    subst this;exact ⟨List.Perm.refl _,rfl⟩
  | m + 1,left,k,hl,hu,hk => by
    have hi : k / iW m < m + 1 := by
      rw [Nat.div_lt_iff_lt_mul (zR m),pO];exact hk
    have hi2 : k / iW m < left.length := by omega
    obtain ⟨h1,h2⟩ := rank_unr m (left.eraseIdx (k / iW m)) (k % iW m) (by rw [M3 hi2];omega) (UQ hu _) (Nat.mod_lt _ (zR m))
    have hp : (U9 (m + 1) left k).Perm left := (List.Perm.cons _ h1).trans (JZ hi2).symm;refine ⟨hp,?_⟩;show tB (lB left (k / iW m)) (U9 m (left.eraseIdx (k / iW m)) (k % iW m)) * iW (U9 m _ _).length + WD (U9 m _ _) = k;have hless : tB (lB left (k / iW m)) (U9 m (left.eraseIdx (k / iW m)) (k % iW m)) = k / iW m := by
      have h3 : tB (lB left (k / iW m)) (U9 (m + 1) left k) = tB (lB left (k / iW m)) left := MK hp;rw [zD4 hu hi2] at h3;unfold U9 at h3;rw [AH,if_neg (QM _)] at h3;exact h3
    have hlen : (U9 m (left.eraseIdx (k / iW m)) (k % iW m)).length = m := by
      rw [h1.length_eq,M3 hi2];omega
    rw [hless,hlen,h2,pO];exact Nat.div_add_mod k (iW m)
theorem up_range (n : Nat) : Up (List.range n) := wJ
theorem Rt.perm {p : List Nat} (r : Rt p) : p.Perm (List.range p.length) :=
  (List.perm_ext_iff_of_nodup r.nd zN1).2 fun x => by rw [eF];exact ⟨r.lt x,r.mem⟩
end Go.Pm
namespace Go.Pm
open Go.Ab
def permB (p : List Int) : Bool := decide (jE p = nats (List.range p.length))
theorem le_tr : ∀ (a b c : Int),decide (a ≤ b) = true → decide (b ≤ c) = true → decide (a ≤ c) = true := fun a b c h1 h2 => by simp at *;omega
theorem zR6 : ∀ (a b : Int),(decide (a ≤ b) || decide (b ≤ a)) = true := fun a b => by simp;omega
theorem sorted_perm (p : List Int) : (jE p).Perm p := List.mergeSort_perm _ _
theorem sorted_up (p : List Int) : (jE p).Pairwise (fun a b => a ≤ b) :=
  (List.pairwise_mergeSort le_tr zR6 p).imp (fun h => by simpa using h)
theorem zG (q : List Nat) : (nats q).length = q.length := bB _
theorem sorted_eq {p q : List Int} (h : p.Perm q) (hq : q.Pairwise (fun a b => a ≤ b)) : jE p = q :=
  List.Perm.eq_of_pairwise (le := fun a b => a ≤ b) (fun a b _ _ h1 h2 => by omega) (sorted_up p) hq ((sorted_perm p).trans h)
theorem range_le (n : Nat) : (nats (List.range n)).Pairwise (fun a b => a ≤ b) :=
  List.Pairwise.map _ (fun a b h => by omega) (wJ (n := n))
theorem zX6 {l : List Nat} {j : Int} {i : Nat} (h : i < l.length) (e : j = i) : (ints (nats l))[j.toNat]? = some [AV.i (lB l i : Nat)] := zH3 h e
theorem GD {l : List Nat} {i : Nat} : l.take i ++ l.drop (i + 1) = l.eraseIdx i := (xT l i).symm
theorem SJ (l : List Nat) (i : Nat) : (nats l).take i = nats (l.take i) := List.map_take.symm
theorem SK (l : List Nat) (i : Nat) : (nats l).drop i = nats (l.drop i) := List.map_drop.symm
end Go.Pm
namespace Go.Proofs.YtmmkhmilpeodnaaGreat
open Go Go.Ab
abbrev ints (l : List Int) : List (List AV) := l.map fun n => [AV.i n]
theorem ints_len (l : List Int) : ∀ e,e ∈ ints l → e.length = 1 := by intro e he;obtain ⟨n,_,rfl⟩ := bE.1 he;rfl
theorem nA {l : List Int} {k : Nat} (h : k < l.length) : (ints l)[k]? = some [AV.i l[k]] := by simp [h]
abbrev BX := Int × Int × Int
abbrev LT := Int × Int × Bool
abbrev KD := ByteArray × Int
abbrev cW (l : List BX) : List (List AV) := l.map fun b => [AV.i b.1,AV.i b.2.1,AV.i b.2.2]
abbrev jU (l : List LT) : List (List AV) := l.map fun b => [AV.i b.1,AV.i b.2.1,AV.b b.2.2]
abbrev gB (l : List KD) : List (List AV) := l.map fun b => [AV.v (.string b.1),AV.i b.2]
theorem gV (l : List BX) : ∀ e,e ∈ cW l → e.length = 3 := by intro e he;obtain ⟨n,_,rfl⟩ := bE.1 he;rfl
theorem zH (l : List LT) : ∀ e,e ∈ jU l → e.length = 3 := by intro e he;obtain ⟨n,_,rfl⟩ := bE.1 he;rfl
theorem vU (l : List KD) : ∀ e,e ∈ gB l → e.length = 2 := by intro e he;obtain ⟨n,_,rfl⟩ := bE.1 he;rfl
theorem sO {l : List BX} {k : Nat} (h : k < l.length) : (cW l)[k]? = some [AV.i l[k].1,AV.i l[k].2.1,AV.i l[k].2.2] := by simp [h]
theorem J3 {l : List LT} {k : Nat} (h : k < l.length) : (jU l)[k]? = some [AV.i l[k].1,AV.i l[k].2.1,AV.b l[k].2.2] := by simp [h]
theorem B8 {l : List KD} {k : Nat} (h : k < l.length) : (gB l)[k]? = some [AV.v (.string l[k].1),AV.i l[k].2] := by simp [h]
abbrev gY (m st er sl : Int) : AV := .agg [.i m,.i st,.i er,.i sl]
abbrev oI (k a b n : Int) (ids : List Int) : AV := .agg [.i k,.i a,.i b,.i n,.rowE (ints ids) 1]
theorem nC {a b : Bool} (h : a = b) : AV.b a = AV.b b := by rw [h]
def iU (n f t : Int) : Bool := decide (f ≤ n) && decide (n ≤ t)
def xC : List Int → Int → Int → Int
  | [],_,_ => -1
  | x :: r,v,k => if v = x then k else xC r v (k + 1)
theorem JJ : ∀ (l : List Int) (v k : Int), 0 ≤ k → (0 ≤ xC l v k ↔ v ∈ l)
  | [],v,k,_ => by simp [xC]
  | x :: r,v,k,hk => by
    simp only [xC];split
    · rename_i e;subst e;simp [hk]
    · rename_i e;rw [JJ r v (k + 1) (by omega)]
      simp [e]
theorem SU {l : List Int} {v : Int} {k : Nat} (h : k < l.length) : xC (l.drop k) v k = if v = l[k] then (k : Int) else xC (l.drop (k + 1)) v ((k + 1 : Nat) : Int) := by
  rw [aX h];simp [xC]
theorem Z6 : ∀ (n : Nat) (l : List Int), l.length = n → (∀ i : Nat, i < n → (i : Int) ∈ l) → ∀ x, x ∈ l → 0 ≤ x ∧ x < n
  | 0,l,hl,_,x,hx => by
    have : l = [] := bW hl;subst this;simp at hx
  | n + 1,l,hl,hm,x,hx => by
    have h1 := hm n (by omega)
    have h2 : (l.erase (n : Int)).length = n := by rw [lJ h1];omega
    have h3 := Z6 n (l.erase (n : Int)) h2 (fun i hi => (lS (by omega)).2 (hm i (by omega)))
    by_cases e : x = n
    · omega
    · have := h3 x ((lS e).2 hx);omega
structure zC6 (ks : List KD) (ls : List LT) (ps : List Int) (bs : List BX) : Prop where
  n1 : 1 ≤ ps.length
  n8 : ps.length ≤ 8
  len : ps.length = bs.length
  k10 : ks.length ≤ 10
  l10 : ls.length ≤ 10
  k : ∀ (i : Nat) (h : i < ks.length),0 ≤ ks[i].2 ∧ ks[i].2 ≤ 1048576
  l : ∀ (i : Nat) (h : i < ls.length),0 ≤ ls[i].1 ∧ ls[i].1 < ks.length
  p : ∀ (i : Nat) (h : i < ps.length),0 ≤ ps[i] ∧ ps[i] < ps.length
  b : ∀ (i : Nat) (h : i < bs.length),-1 ≤ bs[i].1 ∧ bs[i].1 < ls.length ∧ 0 ≤ bs[i].2.1 ∧ bs[i].2.1 ≤ 20000 ∧ (bs[i].1 = -1 → bs[i].2.1 = 0) ∧ 0 ≤ bs[i].2.2 ∧ bs[i].2.2 ≤ 1073741824
def lR (m st er sl : Int) : Prop := 0 ≤ m ∧ m ≤ 1048576 ∧ 0 ≤ st ∧ st ≤ 1048576 ∧ 0 ≤ er ∧ er ≤ 1048576 ∧ 0 ≤ sl ∧ sl ≤ 1048576
def nJ (ks : List KD) (ls : List LT) (lot : Int) : Int := if lot < 0 then 0 else (ks.getD (ls.getD lot.toNat (0,0,false)).1.toNat (⟨#[]⟩,0)).2
theorem NY {ks : List KD} {ls : List LT} {ps : List Int} {bs : List BX} (f : zC6 ks ls ps bs) {lot : Int} (h : lot < ls.length) : 0 ≤ nJ ks ls lot ∧ nJ ks ls lot ≤ 1048576 := by
  unfold nJ;split
  · omega
  · have hl : lot.toNat < ls.length := by omega
    have h1 := f.l lot.toNat hl;have hk : ls[lot.toNat].1.toNat < ks.length := by omega
    have h2 := f.k _ hk;simp only [List.getD,aA hl,lC,aA hk];exact h2
def zC9 (st id k : Int) (ids : List Int) : Int := if k = 0 then (if (ids.length : Int) - (if id ∈ ids then 1 else 0) > st then 0 else if id ∈ ids then 0 else 1) else 0
def GS (st er sl id ct w k n : Int) (ids : List Int) : Bool :=
  if k = 0 then decide ((ids.length : Int) - (if id ∈ ids then 1 else 0) ≤ st)
  else if k = 1 then iU w (n - er) (n + er)
  else if k = 2 then decide (n - sl ≤ ct)
  else if k = 3 then decide (n = ct)
  else if k = 5 then decide (n = id)
  else true
def GJ (sl ct k n done : Int) : Bool := if k = 2 then iU done 0 ct && iU done (n - sl) (n + sl) else if k = 4 then decide (done = 0) || decide (done = 1) else decide (done = 0)
def U0 (l : List Int) (n : Int) (i : Nat) : Prop := 0 ≤ l.getD i 0 ∧ l.getD i 0 ≤ n - 1 ∧ (0 < i → l.getD (i - 1) 0 < l.getD i 0)
open Classical in
noncomputable def GQ (l : List Int) (n : Int) : Bool := decide (∀ i,i < l.length → U0 l n i)
end Go.Proofs.YtmmkhmilpeodnaaGreat
namespace Go.Proofs.YtmmkhmilpeodnaaGreat
open Go Go.Ab
attribute [local irreducible] VC AW bX aR
set_option maxHeartbeats 4000000
theorem oN (n f t : Int) : aR Tryz.prog 69 [.i n,.i f,.i t] [] (.b (iU n f t)) [] := by
  refine bO T Tryz.func69 rfl rfl rfl rfl ?_
  (repeat' (first|refine wS ?_|refine wR ?_|(refine rg 0 (aV ?_))|(refine rg 1 (dK rfl (vV (jX rfl rfl) (mV ?_)));refine cH rfl rfl ?_ ?_<;>(intro hb;rw [hb];(try simp only [nm] at hb);try (exfalso;omega));(all_goals first|(refine gT (mW rfl (gT (mW rfl (gT (vV (iO rfl rfl) ?_))))))|(iterate 3 refine gF ?_));(all_goals (refine pW rfl (aV ?_))))|refine nZ ?_));all_goals
    refine cX (.inl rfl) rfl (nC ?_);simp [iU];try omega
theorem xB (l : List Int) (v : Int) (hl : l.length ≤ 9223372036854775807) : aR Tryz.prog 46 [.rowE (ints l) 1,.i v] [] (.i (xC l v 0)) [] := by
  have hlen : (ints l).length = l.length := by simp
  refine bO T Tryz.func46 rfl rfl rfl rfl ?_
  (repeat' (first|refine wS ?_|refine wB ?_|(refine rg 0 (aV ?_))|(refine rg 1 (mW rfl (qW T rfl (mV ?_))))|refine nZ ?_));refine cN (X := {k : Nat // k ≤ l.length ∧ xC l v 0 = xC (l.drop k) v k}) (fun k => [(0,.rowE (ints l) 1),(1,.i v),(7,.i (ints l).length),(8,.i k.1)]) (fun _ => []) (fun k => l.length - k.1) ⟨0,by simp,rfl⟩ (eA []) ?_
  rintro ⟨k,hk,hf⟩;dsimp only;by_cases hlt : k < l.length
  · have hd := SU (v := v) hlt
    repeat' (first|refine wS ?_|refine wB ?_|refine wK ?_|refine wR ?_|(refine wC rfl ?_ ?_<;>(intro hb;(try simp only [nm] at hb);try (exfalso;omega)))|(refine rg 2 (vV (aL rfl rfl) ?_))|(refine rg 3 (mW rfl (aV ?_)))|(refine rg 4 (dK rfl (mW rfl (vV (ix T rfl (by omega) (ints_len l) (nA (k := k) (by omega))) (lW T rfl (vV (dR rfl rfl) ?_))))))|(refine rg 5 (mW rfl (aV ?_)))|(refine rg 6 (vV (bV rfl rfl (by omega) (by omega)) (mV ?_)))|refine nZ ?_)
    · refine cX (.inl rfl) rfl ?_;rw [hf,hd,if_pos hb];rfl
    · refine ⟨⟨k + 1,by omega,?_⟩,by dsimp only;omega,eA []⟩
      rw [hf,hd,if_neg hb]
  · (repeat' (first|refine wS ?_|refine wR ?_|refine wE ?_|(refine wC rfl (fun hb => ?_) (fun hb => ?_) <;> (((try simp only [nm] at hb);try (exfalso;omega))))|(refine rg 2 (vV (aL rfl rfl) ?_))|(refine rg 7 (aV ?_))|(refine nZ ?_)));refine cX (.inl rfl) rfl ?_
    rw [hf,cY (by omega)];rfl
theorem G7 (l : List Int) (v : Int) (hl : l.length ≤ 9223372036854775807) : aR Tryz.prog 71 [.rowE (ints l) 1,.i v] [] (.b (decide (v ∈ l))) [] := by
  refine bO T Tryz.func71 rfl rfl rfl rfl ?_
  (repeat' (first|refine wS ?_|refine wR ?_|(refine rg 0 (aV ?_))|(refine rg 1 (dK rfl (vV (kC (xB l v hl)) (vV (jX rfl rfl) (aV ?_)))))|refine nZ ?_));refine cX (.inl rfl) rfl (nC ?_)
  rw [ER];simp only [decide_eq_true_eq];exact JJ l v 0 (by omega)
theorem US {ks : List KD} {ls : List LT} {ps : List Int} {bs : List BX} (f : zC6 ks ls ps bs) {lot : Int} (h : lot < ls.length) : aR Tryz.prog 72 [.rowE (gB ks) 2,.rowE (jU ls) 3,.i lot] [] (.i (nJ ks ls lot)) [] := by
  by_cases h0 : lot < 0
  · refine bO T Tryz.func72 rfl rfl rfl rfl ?_
    (repeat' (first|refine wS ?_|refine wR ?_|(refine wC rfl ?_ ?_<;>(intro hb;(try simp only [nm] at hb);try (exfalso;omega)))|(refine rg 0 (aV ?_))|(refine rg 1 (mW rfl (vV (aL rfl rfl) ?_)))|(refine rg 2 (aV ?_))|refine nZ ?_));refine cX (.inl rfl) rfl ?_
    unfold nJ;rw [if_pos h0];rfl
  · have hl : lot.toNat < ls.length := by omega
    have h1 := f.l lot.toNat hl;have hk : ls[lot.toNat].1.toNat < ks.length := by omega
    have hkl : (gB ks).length = ks.length := by simp
    have hll : (jU ls).length = ls.length := by simp
    have e : nJ ks ls lot = ks[ls[lot.toNat].1.toNat].2 := by
      unfold nJ;rw [if_neg h0];simp only [List.getD,aA hl,lC,aA hk]
    refine bO T Tryz.func72 rfl rfl rfl rfl ?_
    (repeat' (first|refine wS ?_|refine wK ?_|refine wR ?_|(refine wC rfl ?_ ?_<;>(intro hb;(try simp only [nm] at hb);try (exfalso;omega)))|(refine rg 0 (aV ?_))|(refine rg 1 (mW rfl (vV (aL rfl rfl) ?_)))|(refine rg 3 (dK rfl (mW rfl (vV (ix T rfl (by omega) (zH ls) (J3 hl)) (gH T rfl (vV (ix T rfl (by omega) (vU ks) (B8 hk)) (gH T rfl (aV ?_))))))))|refine nZ ?_));refine cX (.inl rfl) rfl ?_
    rw [e];rfl
theorem zZ0 (m st er sl lot ct ta k a b n : Int) (ids : List Int) (done : Int) (h1 : 0 ≤ n ∧ n ≤ 1099511627776) (h2 : 0 ≤ sl ∧ sl ≤ 1048576) :
    aR Tryz.prog 73 [gY m st er sl,.agg [.i lot,.i ct,.i ta],oI k a b n ids,.i done] [] (.b (GJ sl ct k n done)) [] := by
  refine bO T Tryz.func73 rfl rfl rfl rfl ?_
  (repeat' (first|refine wS ?_|refine wB ?_|refine wK ?_|refine wR ?_|(refine wC rfl ?_ ?_<;>(intro hb;(try simp only [nm] at hb);try (exfalso;omega)))|(refine rg 0 (bQ (cD rfl rfl) rfl (bQ (cD rfl rfl) rfl (bQ (cD rfl rfl) rfl (aV ?_)))))|(refine rg 1 (TG T ?_))|(refine rg 2 (vV (dR rfl rfl) (aV ?_)))|(refine rg 3 (mW rfl (gH T rfl (vV (by exact eQ rfl rfl (oN _ _ _) rfl rfl rfl) ?_)));refine mV ?_;refine cH rfl rfl ?_ ?_<;>(intro hb;rw [hb];(try simp only [nm] at hb);try (exfalso;omega));(all_goals first|(refine gT (mW rfl (gT (fW T rfl (gT (lW T rfl (gT (fW T rfl (gT (lV T ?_)))))))));refine gT (vV (cP rfl rfl (by omega) (by omega)) (gT (fW T rfl (gT (lW T rfl (gT (fW T rfl (gT (lV T ?_)))))))));refine gT (vV (bV rfl rfl (by omega) (by omega)) (gT (vV (by exact eQ rfl rfl (oN _ _ _) rfl rfl rfl) ?_))))|(iterate 12 refine gF ?_));(all_goals (refine pW rfl (aV ?_))))|(refine rg 4 (vV (dR rfl rfl) (aV ?_)))|(refine rg 5 (mW rfl (vV (dR rfl rfl) (mV ?_)));refine cH rfl rfl ?_ ?_<;>(intro hb;rw [hb];(try simp only [nm] at hb);try (exfalso;omega));(all_goals first|(refine gT (mW rfl (gT (vV (dR rfl rfl) ?_))))|(iterate 2 refine gF ?_));(all_goals (refine pW rfl (aV ?_))))|(refine rg 6 (mW rfl (vV (dR rfl rfl) (aV ?_))))|refine nZ ?_));all_goals
    refine cX (.inl rfl) rfl (nC ?_);simp [GJ, *]
theorem ints_one (l : List Int) : (ints l).flatten.all AV.one = true := by
  rw [bG];intro x hx;obtain ⟨e,he,hx⟩ := zN2.1 hx;obtain ⟨p,_,rfl⟩ := bE.1 he;simp at hx;subst hx;rfl
theorem TU (l : List BX) : (cW l).flatten.all AV.one = true := by
  rw [bG];intro x hx;obtain ⟨e,he,hx⟩ := zN2.1 hx;obtain ⟨p,_,rfl⟩ := bE.1 he;simp at hx;rcases hx with rfl | rfl | rfl <;> rfl
theorem zD9 {a c : Int} {e e' : Bool} (h1 : a = c) (h3 : e = e') : AV.tup [.i a,.b e] = AV.tup [.i c,.b e'] := by rw [h1,h3]
theorem KT {ks : List KD} {ls : List LT} {ps : List Int} {bs : List BX} (f : zC6 ks ls ps bs) {m st er sl k a b n : Int} {ids : List Int} {id lot ct ta : Int} (hs : lR m st er sl) (ha : 0 ≤ a) (hn : 0 ≤ n ∧ n ≤ 1099511627776) (hl : ids.length ≤ 9223372036854775807)
    (hid : ps[a.toNat]? = some id) (hbx : bs[id.toNat]? = some (lot,ct,ta)) :
    aR Tryz.prog 29 [gY m st er sl,.rowE (gB ks) 2,.rowE (jU ls) 3,.rowE (ints ps) 1,.rowE (cW bs) 3,oI k a b n ids] [] (.tup [.i (zC9 st id k ids),.b (GS st er sl id ct (ta + ct * nJ ks ls lot) k n ids)]) [] := by
  unfold lR at hs;have hc1 : (ints ps)[a.toNat]? = some [AV.i id] := by simp [hid]
  have hc2 : (cW bs)[id.toNat]? = some [AV.i lot,AV.i ct,AV.i ta] := by simp [hbx]
  obtain ⟨hx1,hx2⟩ := aB.1 hid;obtain ⟨hy1,hy2⟩ := aB.1 hbx;have hp := f.p _ hx1;rw [hx2] at hp;have hb0 := f.b _ hy1;rw [hy2] at hb0;simp only at hb0;have hu := NY f hb0.2.1;have hcu := US f hb0.2.1;have b1 : 0 ≤ ct * nJ ks ls lot := Int.mul_nonneg hb0.2.2.1 hu.1;have b2 : ct * nJ ks ls lot ≤ 20000 * 1048576 := H8 (Int.mul_le_mul_of_nonneg_right hb0.2.2.2.1 hu.1) (Int.mul_le_mul_of_nonneg_left hu.2 (by omega))
  have hcc := G7 ids id hl;have hil : (ints ids).length = ids.length := by simp
  generalize hU : nJ ks ls lot = U at *;refine bO T Tryz.func29 rfl rfl rfl rfl ?_
  (repeat' (first|refine wS ?_|refine wB ?_|refine wK ?_|refine wR ?_|(refine wC rfl ?_ ?_<;>(intro hb;(try simp only [nm] at hb);try (exfalso;omega)))|(refine rg 0 (bQ (cD rfl rfl) rfl (bQ (cD rfl rfl) rfl (qJ ?_))))|(refine rg 1 (mW rfl (gH T rfl (vV (ix T rfl (by omega) (ints_len ps) hc1) (lW T rfl (aV ?_))))))|(refine rg 2 (dK rfl (vV (ix T rfl (by omega) (gV bs) hc2) (lW T rfl (bQ (bT T rfl) rfl (aU T rfl rfl rfl rfl rfl rfl (by decide) rfl ?_))))))|(refine rg 3 (TG T ?_))|(refine rg 4 (vV (dR rfl rfl) (aV ?_)))|(refine rg 5 (gH T rfl (qW T rfl (aV ?_))))|(refine rg 6 (gH T rfl (mW rfl (vV (kC (hcc)) ?_))))|(refine rg 7 (mW rfl (vV (cP rfl rfl (by omega) (by omega)) (aV ?_))))|(refine rg 8 (aV ?_))|(refine rg 9 (mW rfl (gH T rfl (vV (fM rfl rfl) ?_))))|(refine rg 10 (qJ ?_))|(refine rg 11 (mW rfl (qJ ?_)))|(refine rg 12 (vV (dR rfl rfl) (aV ?_)))|(refine bN (id := 13) 91 [[],[0],[],[2],[],[],[],[6],rM 4 4,rM 2 7,rN 10,[],[11],[],[13],rM 11 4,[],[16],[],[18],rM 16 4,rN 21,rN 22] [46,47,48,49,50,51,52,53,54,55,56,57,58,59,60,61,62,63,64,65,66,67,12] [[],[],[46,47],[46,47],rM 46 4,rM 46 5,rM 46 6,rM 46 6,rM 46 4,[46,47],[],rM 46 11,rM 46 11,rM 46 13,rM 46 13,rM 46 11,rM 46 16,rM 46 16,rM 46 18,rM 46 18,rM 46 16,[],[]] cJ rfl (by decide +kernel) (dP T rfl (dO T rfl (dP T rfl (dO T rfl (dN rfl (dN rfl (dP T rfl (dO T rfl (dV rfl (kC (hcu)) ?_)))))))));refine dV rfl (sE rfl rfl (by omega) (by omega)) (dV rfl (bV rfl rfl (by omega) (by omega)) (dP T rfl (dO T rfl (dP T rfl (dO T rfl (dV rfl (cP rfl rfl (by omega) (by omega)) (dP T rfl (dO T rfl (dF T ?_)))))))));refine dO T rfl (dV rfl (bV rfl rfl (by omega) (by omega)) (dV rfl (by exact eQ rfl rfl (oN _ _ _) rfl rfl rfl) ?_));refine dV rfl (eI rfl) (dE ?_);refine aV ?_)|(refine rg 14 (vV (dR rfl rfl) (aV ?_)))|(refine bN (id := 15) 91 [[],[0],[],[2],rN 4,[],[5],rN 7,[]] [70,71,72,73,74,75,76,77,12] [[],[],[70,71],[70,71],[],rM 70 5,rM 70 5,[],rM 70 8] cJ rfl (by decide +kernel) (dP T rfl (dO T rfl (dP T rfl (dO T rfl (dV rfl (cP rfl rfl (by omega) (by omega)) (dP T rfl (dO T rfl (dV rfl (iO rfl rfl) (dV rfl (eI rfl) ?_)))))))));refine dE ?_;refine aV ?_)|(refine rg 16 (vV (dR rfl rfl) (aV ?_)))|(refine bN (id := 17) 91 [[],[0],[],[2],rN 4,[]] [80,81,82,83,84,12] [[],[],[80,81],[80,81],[],rM 80 5] cJ rfl (by decide +kernel) (dP T rfl (dO T rfl (dP T rfl (dO T rfl (dV rfl (dR rfl rfl) (dV rfl (eI rfl) (dE ?_)))))));refine aV ?_)|(refine rg 18 (vV (dR rfl rfl) (aV ?_)))|(refine bN (id := 19) 91 [[],[0],[],[0,1,2],[]] [87,88,89,90,12] [[],[],[87,88],[],rM 87 4] cJ rfl (by decide +kernel) (dP T rfl (dO T rfl (dN rfl (dV rfl (dR rfl rfl) (dV rfl (eI rfl) (dE ?_))))));refine aV ?_)|(refine rg 20 (qJ ?_))|refine nZ ?_));all_goals
    refine cX (.inl rfl) rfl (zD9 ?_ ?_)
    all_goals (simp [zC9,GS, *];try omega)
theorem ints_idf (l : List Int) : ∀ e,e ∈ ints l → AV.idfL e = true := by
  intro e he;obtain ⟨i,_,rfl⟩ := bE.1 he;rfl
theorem pL (l : List BX) : ∀ e,e ∈ cW l → AV.idfL e = true := by
  intro e he;obtain ⟨i,_,rfl⟩ := bE.1 he;rfl
theorem G8 (l : List Int) (h0 : 0 < l.length) (hl : l.length ≤ 1000) : aR Tryz.prog 68 [.rowE (ints l) 1] [] (.sl 0 0 l.length 1) [.arr (ints l) 1] := by
  refine bO T Tryz.func68 rfl rfl rfl rfl ?_
  repeat' (first|refine wS ?_|refine wK ?_|refine wR ?_|refine wU ?_|(refine rg 0 (aV ?_))|(refine rg 1 (mW rfl (vV (K4 T rfl rfl rfl (by simpa using h0)) ?_)))|(refine rg 3 (bQ (by exact bC T rfl rfl (by decide) (by decide) rfl rfl rfl) rfl ?_);refine mW rfl (fR T rfl rfl rfl rfl rfl rfl (by simp) (kJ.row (ints_len l)) (ints_one l) (by simp;omega) (by simp;omega) rfl ?_);refine aV ?_)|refine nZ ?_)
  simp only [List.take_nil,List.drop_nil,List.nil_append,Nat.zero_add,bB,NR,kQ,lT];exact ⟨.inl rfl,[1],_,rfl,rfl,rfl,⟨.inr (aD rfl rfl (ints_idf l)),trivial⟩,by decide,wX⟩
theorem zY (l : List BX) (h0 : 0 < l.length) (hl : l.length ≤ 1000) : aR Tryz.prog 39 [.rowE (cW l) 3] [] (.sl 0 0 l.length 3) [.arr (cW l) 3] := by
  refine bO T Tryz.func39 rfl rfl rfl rfl ?_
  repeat' (first|refine wS ?_|refine wK ?_|refine wR ?_|refine wU ?_|(refine rg 0 (aV ?_))|(refine rg 1 (mW rfl (vV (K4 T rfl rfl rfl (by simpa using h0)) ?_)))|(refine rg 3 (bQ (by exact bC T rfl rfl (by decide) (by decide) rfl rfl rfl) rfl ?_);refine mW rfl (fR T rfl rfl rfl rfl rfl rfl (by simp) (kJ.row (gV l)) (TU l) (by simp;omega) (by simp;omega) rfl ?_);refine aV ?_)|refine nZ ?_)
  simp only [List.take_nil,List.drop_nil,List.nil_append,Nat.zero_add,bB,NR,kQ,lT];exact ⟨.inl rfl,[1],_,rfl,rfl,rfl,⟨.inr (aD rfl rfl (pL l)),trivial⟩,by decide,wX⟩
section
variable {ks : List KD} {ls : List LT} {ps : List Int} {bs : List BX} {m st er sl k a b n id lot ct ta done : Int} {ids : List Int} {M : Int}
theorem KV (f : zC6 ks ls ps bs) (ha : 0 ≤ a) (hid : ps[a.toNat]? = some id) (hbx : bs[id.toNat]? = some (lot, ct, ta)) (hi0 : 0 ≤ id) {ok cn : Bool} (hno : ok = false ∨ ok = true ∧ cn = false)
    (hag : aR Tryz.prog 29 [gY m st er sl,.rowE (gB ks) 2,.rowE (jU ls) 3,.rowE (ints ps) 1,.rowE (cW bs) 3,oI k a b n ids] [] (.tup [.i M,.b ok]) [])
    (hcan : aR Tryz.prog 73 [gY m st er sl,.agg [.i lot,.i ct,.i ta],oI k a b n ids,.i done] [] (.b cn) []) :
    aR Tryz.prog 30 [gY m st er sl,.rowE (gB ks) 2,.rowE (jU ls) 3,.rowE (ints ps) 1,.rowE (cW bs) 3,oI k a b n ids,.i done] [] (.tup [.nils,.nils,.b false]) [] := by
  have hc1 : (ints ps)[a.toNat]? = some [AV.i id] := by simp [hid]
  have hc2 : (cW bs)[id.toNat]? = some [AV.i lot,AV.i ct,AV.i ta] := by simp [hbx]
  rcases hno with rfl | ⟨rfl,rfl⟩
  all_goals
    refine bO T Tryz.func30 rfl rfl rfl rfl ?_
    (repeat' (first|refine wS ?_|refine wR ?_|refine wT ?_|(refine rg 0 (bQ (cD rfl rfl) rfl (bQ (cD rfl rfl) rfl (zB1 rfl (aV ?_)))))|(refine rg 1 (mW rfl (gH T rfl (vV (ix T rfl (by omega) (ints_len ps) hc1) (lW T rfl (aV ?_))))))|(refine rg 2 (lW T rfl (dK rfl (dK rfl (lW T rfl (vV (kC (hag)) (mW rfl (xW rfl (xW rfl (qJ ?_))))))))))|(refine bN (id := 3) 95 yG4 (rM 37 13) yG5 cJ rfl (by decide +kernel) (dN rfl (dV rfl (dX rfl) (dM ?_)));(all_goals first|(refine tL T ?_)|(refine dG ?_));(all_goals first|(refine tM ?_)|(refine dG ?_));(all_goals first|(refine tM ?_)|(refine dG ?_));(all_goals first|(refine dT rfl (ix T rfl (by omega) (gV bs) hc2) ?_)|(refine dG ?_));(all_goals first|(refine tL T ?_)|(refine dG ?_));(all_goals first|(refine tL T ?_)|(refine dG ?_));(all_goals first|(refine tM ?_)|(refine dG ?_));(all_goals first|(refine dT rfl (kC (hcan)) ?_)|(refine dG ?_));(all_goals first|(refine dT rfl (dX rfl) ?_)|(refine dG ?_));(all_goals (refine dV rfl (by first|exact iQ rfl rfl|exact iE rfl rfl) ?_;refine dE ?_)))|(refine rg 4 (zB1 rfl (aV ?_)))|refine nZ ?_));exact rQ
theorem NH (f : zC6 ks ls ps bs) (ha : 0 ≤ a) (hid : ps[a.toNat]? = some id) (hbx : bs[id.toNat]? = some (lot, ct, ta)) (hi0 : 0 ≤ id) (hk2 : k ≠ 2) (hk4 : ¬ (k = 4 ∧ done = 1))
    (hag : aR Tryz.prog 29 [gY m st er sl,.rowE (gB ks) 2,.rowE (jU ls) 3,.rowE (ints ps) 1,.rowE (cW bs) 3,oI k a b n ids] [] (.tup [.i M,.b true]) [])
    (hcan : aR Tryz.prog 73 [gY m st er sl,.agg [.i lot,.i ct,.i ta],oI k a b n ids,.i done] [] (.b true) []) :
    aR Tryz.prog 30 [gY m st er sl,.rowE (gB ks) 2,.rowE (jU ls) 3,.rowE (ints ps) 1,.rowE (cW bs) 3,oI k a b n ids,.i done] [] (.tup [.sl 0 0 ps.length 1,.sl 1 0 bs.length 3,.b true]) [.arr (ints ps) 1,.arr (cW bs) 3] := by
  have hc1 : (ints ps)[a.toNat]? = some [AV.i id] := by simp [hid]
  have hc2 : (cW bs)[id.toNat]? = some [AV.i lot,AV.i ct,AV.i ta] := by simp [hbx]
  have hn1 := f.n1;have hn8 := f.n8;have hle := f.len;have cl1 := G8 ps (by omega) (by omega)
  have cl2 := zY bs (by omega) (by omega)
  refine bO T Tryz.func30 rfl rfl rfl rfl ?_
  (repeat' (first|refine wS ?_|refine wB ?_|refine wK ?_|refine wR ?_|refine wU ?_|(refine wC rfl ?_ ?_<;>(intro hb;(try simp only [nm] at hb);try (exfalso;omega)))|(refine rg 0 (bQ (cD rfl rfl) rfl (bQ (cD rfl rfl) rfl (zB1 rfl (aV ?_)))))|(refine rg 1 (mW rfl (gH T rfl (vV (ix T rfl (by omega) (ints_len ps) hc1) (lW T rfl (aV ?_))))))|(refine rg 2 (lW T rfl (dK rfl (dK rfl (lW T rfl (vV (kC (hag)) (mW rfl (xW rfl (xW rfl (qJ ?_))))))))))|(refine bN (id := 3) 95 yG4 (rM 37 13) yG5 cJ rfl (by decide +kernel) (dN rfl (dV rfl (dX rfl) (dN rfl (tO T rfl (tN rfl (tN rfl (dT rfl (ix T rfl (by omega) (gV bs) hc2) (tO T rfl (tL T ?_)))))))));refine tN rfl (dT rfl (kC (hcan)) (dT rfl (dX rfl) (dV rfl (iE rfl rfl) (dE ?_)))))|(refine rg 5 (mW rfl (bQ (by exact fL rfl rfl cl1 (.inr ⟨rfl,rfl,by simp⟩)) rfl ?_));refine mW rfl (bQ (by exact fL rfl rfl cl2 (.inr ⟨rfl,rfl,by simp⟩)) rfl ?_);refine qJ ?_)|(refine rg 6 (gH T rfl (vV (dR rfl rfl) (aV ?_))))|(refine rg 8 (gH T rfl (vV (dR rfl rfl) (mV ?_)));refine cH rfl rfl ?_ ?_<;>(intro hb;rw [hb];(try simp only [nm] at hb);try (exfalso;omega));(all_goals first|(refine gT (mW rfl (gT (vV (dR rfl rfl) ?_))))|(iterate 2 refine gF ?_));(all_goals (refine pW rfl (aV ?_))))|(refine rg 10 (dK rfl (zB1 rfl (aV ?_))))|refine nZ ?_));all_goals exact ⟨.inl rfl,[2,3],_,rfl,rfl,rfl,⟨.inr (aD rfl (bY _ (ints_idf ps)) (ints_idf ps)),.inr (aD rfl (bY _ (pL bs)) (pL bs)),trivial⟩,by decide,wX⟩
theorem NI (f : zC6 ks ls ps bs) (ha : 0 ≤ a) (hid : ps[a.toNat]? = some id) (hbx : bs[id.toNat]? = some (lot, ct, ta)) (hi0 : 0 ≤ id) (hk2 : k = 2) (hd : 0 ≤ done ∧ done ≤ ct)
    (hag : aR Tryz.prog 29 [gY m st er sl,.rowE (gB ks) 2,.rowE (jU ls) 3,.rowE (ints ps) 1,.rowE (cW bs) 3,oI k a b n ids] [] (.tup [.i M,.b true]) [])
    (hcan : aR Tryz.prog 73 [gY m st er sl,.agg [.i lot,.i ct,.i ta],oI k a b n ids,.i done] [] (.b true) []) :
    aR Tryz.prog 30 [gY m st er sl,.rowE (gB ks) 2,.rowE (jU ls) 3,.rowE (ints ps) 1,.rowE (cW bs) 3,oI k a b n ids,.i done] [] (.tup [.sl 0 0 ps.length 1,.sl 1 0 bs.length 3,.b true]) [.arr (ints ps) 1,.arr (cW (bs.set id.toNat (lot,ct - done,ta))) 3] := by
  have hc1 : (ints ps)[a.toNat]? = some [AV.i id] := by simp [hid]
  have hc2 : (cW bs)[id.toNat]? = some [AV.i lot,AV.i ct,AV.i ta] := by simp [hbx]
  obtain ⟨hy1,hy2⟩ := aB.1 hbx;have hb0 := f.b _ hy1;rw [hy2] at hb0;simp only at hb0;have hbl : (cW bs).length = bs.length := by simp
  have hB : ∀ θ,((cW bs).map (AV.mapL θ))[0 + id.toNat]? = some [AV.i lot,AV.i ct,AV.i ta] := fun θ => by rw [bY θ (pL bs),Nat.zero_add];exact hc2
  have hS : ∀ θ,((cW bs).map (AV.mapL θ)).set (0 + id.toNat) [AV.i lot,AV.i (ct - done),AV.i ta] = cW (bs.set id.toNat (lot,ct - done,ta)) := fun θ => by rw [bY θ (pL bs),Nat.zero_add];simp [pP]
  have hn1 := f.n1;have hn8 := f.n8;have hle := f.len;have cl1 := G8 ps (by omega) (by omega)
  have cl2 := zY bs (by omega) (by omega)
  refine bO T Tryz.func30 rfl rfl rfl rfl ?_
  (repeat' (first|refine wS ?_|refine wB ?_|refine wK ?_|refine wR ?_|refine wU ?_|(refine wC rfl ?_ ?_<;>(intro hb;(try simp only [nm] at hb);try (exfalso;omega)))|(refine rg 0 (bQ (cD rfl rfl) rfl (bQ (cD rfl rfl) rfl (zB1 rfl (aV ?_)))))|(refine rg 1 (mW rfl (fW T rfl (vV (aP T rfl rfl rfl rfl) (vV (ix T rfl (by omega) (ints_len ps) hc1) (vV (aP T rfl rfl rfl rfl) (aV ?_)))))))|(refine rg 2 (vV (aP T rfl rfl rfl rfl) (dK rfl (dK rfl (vV (aP T rfl rfl rfl rfl) (vV (kC (hag)) (mW rfl (xW rfl (xW rfl (qJ ?_))))))))))|(refine bN (id := 3) 95 yG4 (rM 37 13) yG5 cJ rfl (by decide +kernel) (dN rfl (dV rfl (dX rfl) (dN rfl (tO T rfl (tN rfl (tN rfl (dT rfl (ix T rfl (by omega) (gV bs) hc2) (tO T rfl (tL T ?_)))))))));refine tN rfl (dT rfl (kC (hcan)) (dT rfl (dX rfl) (dV rfl (iE rfl rfl) (dE ?_)))))|(refine rg 5 (mW rfl (bQ (by exact fL rfl rfl cl1 (.inr ⟨rfl,rfl,by simp⟩)) rfl ?_));refine mW rfl (bQ (by exact fL rfl rfl cl2 (.inr ⟨rfl,rfl,by simp⟩)) rfl ?_);refine qJ ?_)|(refine rg 6 (fW T rfl (vV (aP T rfl rfl rfl rfl) (vV (dR rfl rfl) (aV ?_)))))|(refine rg 7 (dK rfl (vV (by exact aJ T rfl rfl rfl rfl rfl (by omega) (by omega)) ?_));refine fW T rfl (vV (by exact aP T rfl rfl (bH rfl (hB _)) rfl) ?_);refine mW rfl (vV (cP rfl rfl (by omega) (by omega)) (vV (by exact aJ T rfl rfl rfl rfl rfl (by omega) (by omega)) ?_));refine fW T rfl (aU T rfl rfl rfl rfl rfl rfl (by decide) (lX rfl (hB _) rfl) ?_))|(refine rg 10 (dK rfl (zB1 rfl (aV ?_))))|refine nZ ?_));all_goals first | (exfalso;omega) | exact ⟨.inl rfl,[2,3],_,rfl,rfl,rfl,⟨.inr (aD rfl (bY _ (ints_idf ps)) (ints_idf ps)),.inr (aD rfl (hS _) (pL _)),trivial⟩,by decide,wX⟩
end
def B2 (m st er sl : Int) : Bool := decide (0 ≤ min (min (min m st) er) sl) && decide (max (max (max m st) er) sl ≤ 1048576)
theorem VP (m st er sl : Int) : aR Tryz.prog 41 [gY m st er sl] [] (.b (B2 m st er sl)) [] := by
  refine bO T Tryz.func41 rfl rfl rfl rfl ?_
  (repeat' (first|refine wS ?_|refine wR ?_|(refine rg 0 (bQ (cD rfl rfl) rfl (aV ?_)))|(refine rg 1 (gH T rfl (gH T rfl (gH T rfl (gH T rfl (vV (zJ0 rfl rfl rfl rfl) (vV (jX rfl rfl) (mV ?_)))))));refine cH rfl rfl ?_ ?_<;>(intro hb;rw [hb];(try simp only [nm] at hb);try (exfalso;omega));(all_goals first|(refine gT (fW T rfl (gT (lW T rfl (gT (fW T rfl (gT (lW T rfl (gT (fV T ?_)))))))));refine gT (lW T rfl (gT (fW T rfl (gT (lW T rfl (gT (vV (zJ1 rfl rfl rfl rfl) (gT (vV (iO rfl rfl) ?_))))))))))|(iterate 10 refine gF ?_));(all_goals (refine pW rfl (aV ?_))))|refine nZ ?_));all_goals
    refine cX (.inl rfl) rfl (nC ?_);rw [ER];simp only [B2,aM,decide_eq_true_eq]
    first | omega | (simp;omega)
theorem zY4 (l : List Int) (v : Int) (hl : l.length ≤ 1000) : aR Tryz.prog 26 [.rowE (ints l) 1,.i v] [] (.b (decide (v ∈ l))) [] := by
  have hlen : (ints l).length = l.length := by simp
  refine bO T Tryz.func26 rfl rfl rfl rfl ?_
  (repeat' (first|refine wS ?_|refine wB ?_|(refine rg 0 (aV ?_))|(refine rg 1 (aV ?_))|refine nZ ?_));refine cN (X := {k : Nat // k ≤ l.length ∧ (v ∈ l ↔ v ∈ l.drop k)}) (fun k => [(0,.rowE (ints l) 1),(1,.i v),(5,.i k.1)]) (fun _ => []) (fun k => l.length - k.1) ⟨0,by simp⟩ (eA []) ?_
  rintro ⟨k,hk,hf⟩;dsimp only;by_cases hlt : k < l.length
  · repeat' (first|refine wS ?_|refine wB ?_|refine wK ?_|refine wR ?_|(refine wC rfl (fun hb => ?_) (fun hb => ?_) <;> (((try simp only [nm] at hb);try (exfalso;omega))))|(refine rg 2 (dK rfl (qW T rfl (vV (aL rfl rfl) ?_))))|(refine rg 4 (dK rfl (vV (ix T rfl (by omega) (ints_len l) (nA (k := k) (by omega))) (lW T rfl (mW rfl (vV (dR rfl rfl) ?_))))))|(refine rg 5 (aV ?_))|(refine iA 3 rfl rfl rfl (by omega) (by omega) ?_)|(refine nZ ?_))
    · refine cX (.inl rfl) rfl (nC ?_);have : v ∈ l := by rw [← hb];exact aI hlt
      simp [this]
    · refine ⟨⟨k + 1,by omega,?_⟩,by dsimp only;omega,eA []⟩
      rw [hf,aX hlt];simp only [bR];exact ⟨fun h => h.resolve_left (fun e => hb e.symm),.inr⟩
  · (repeat' (first|refine wS ?_|refine wR ?_|refine wE ?_|(refine wC rfl (fun hb => ?_) (fun hb => ?_) <;> (((try simp only [nm] at hb);try (exfalso;omega))))|(refine rg 2 (dK rfl (qW T rfl (vV (aL rfl rfl) ?_))))|(refine rg 6 (aV ?_))|(refine nZ ?_)));refine cX (.inl rfl) rfl (nC ?_)
    rw [cY (by omega)] at hf
    simp at hf;simp [hf]
structure uL (ks : List KD) (ls : List LT) (ps : List Int) (bs : List BX) : Prop where
  len : ps.length = bs.length
  p : ∀ i : Nat,i < ps.length → (i : Int) ∈ ps
  k : ∀ (i : Nat) (h : i < ks.length),0 ≤ ks[i].2 ∧ ks[i].2 ≤ 1048576
  l : ∀ (i : Nat) (h : i < ls.length),0 ≤ ls[i].1 ∧ ls[i].1 < ks.length
  b : ∀ (i : Nat) (h : i < bs.length),-1 ≤ bs[i].1 ∧ bs[i].1 < ls.length ∧ 0 ≤ bs[i].2.1 ∧ bs[i].2.1 ≤ 20000 ∧ (bs[i].1 = -1 → bs[i].2.1 = 0) ∧ 0 ≤ bs[i].2.2 ∧ bs[i].2.2 ≤ 1073741824
open Classical in
noncomputable def sT (ks : List KD) (ls : List LT) (ps : List Int) (bs : List BX) : Bool := decide (uL ks ls ps bs)
theorem vI {ks : List KD} {ls : List LT} {ps : List Int} {bs : List BX} (h : ¬ uL ks ls ps bs) : sT ks ls ps bs = false := by unfold sT;simp [h]
theorem LS {ks : List KD} {ls : List LT} {ps : List Int} {bs : List BX} (h : uL ks ls ps bs) : sT ks ls ps bs = true := by unfold sT;simp [h]
theorem zE0 (ks : List KD) (ls : List LT) (ps : List Int) (bs : List BX) (h1 : ks.length ≤ 1000) (h2 : ls.length ≤ 1000) (h3 : ps.length ≤ 1000) (h4 : bs.length ≤ 1000) :
    aR Tryz.prog 42 [.rowE (gB ks) 2,.rowE (jU ls) 3,.rowE (ints ps) 1,.rowE (cW bs) 3] [] (.b (sT ks ls ps bs)) [] := by
  have e1 : (gB ks).length = ks.length := by simp
  have e2 : (jU ls).length = ls.length := by simp
  have e3 : (ints ps).length = ps.length := by simp
  have e4 : (cW bs).length = bs.length := by simp
  refine bO T Tryz.func42 rfl rfl rfl rfl ?_
  repeat' (first|refine wS ?_|refine wB ?_|refine wK ?_|refine wR ?_|(refine wC rfl ?_ ?_<;>(intro hb;(try simp only [nm] at hb);try (exfalso;omega)))|(refine rg 0 (aV ?_))|(refine rg 1 (mW rfl (qW T rfl (mW rfl (qW T rfl (vV (fG rfl rfl) ?_))))))|(refine rg 2 (aV ?_))|(refine rg 3 (aV ?_))|refine nZ ?_)
  · (refine cX (.inl rfl) rfl (nC (vI fun h => ?_).symm);have := h.len;omega)
  have hlen : ps.length = bs.length := by omega
  refine cN (X := {k : Nat // k ≤ ps.length ∧ ∀ i : Nat,i < k → (i : Int) ∈ ps}) (fun k => [(0,.rowE (gB ks) 2),(1,.rowE (jU ls) 3),(2,.rowE (ints ps) 1),(3,.rowE (cW bs) 3),(9,.i k.1)]) (fun _ => []) (fun k => ps.length - k.1) ⟨0,by omega,fun i hi => by omega⟩ (eA []) ?_
  rintro ⟨k,hk,hp⟩;dsimp only;by_cases hlt : k < ps.length
  · repeat' (first|refine wS ?_|refine wB ?_|refine wK ?_|refine wR ?_|(refine wC rfl (fun hb => ?_) (fun hb => ?_) <;> (((try simp only [nm] at hb);try (exfalso;omega))))|(refine rg 4 (dK rfl (qW T rfl (vV (aL rfl rfl) ?_))))|(refine rg 6 (dK rfl (vV (by exact eQ rfl rfl (zY4 ps _ h3) rfl rfl rfl) ?_));refine vV (dX rfl) ?_)|(refine rg 7 (aV ?_))|(refine iA 5 rfl rfl rfl (by omega) (by omega) ?_)|(refine nZ ?_))
    · (refine cX (.inl rfl) rfl (nC (vI fun h => ?_).symm);exact hb (h.p k hlt))
    · refine ⟨⟨k + 1,by omega,fun i hi => ?_⟩,by dsimp only;omega,eA []⟩
      by_cases e : i = k
      · subst e;exact hb
      · exact hp i (by omega)
  have hpA : ∀ i : Nat,i < ps.length → (i : Int) ∈ ps := fun i hi => hp i (by omega)
  clear hp
  (repeat' (first|refine wS ?_|refine wB ?_|refine wE ?_|(refine wC rfl ?_ ?_<;>(intro hb;(try simp only [nm] at hb);try (exfalso;omega)))|(refine rg 4 (dK rfl (qW T rfl (vV (aL rfl rfl) ?_))))|(refine rg 8 (aV ?_))|refine nZ ?_));refine cN (X := {k : Nat // k ≤ ks.length ∧ ∀ (i : Nat) (h : i < ks.length),i < k → 0 ≤ ks[i].2 ∧ ks[i].2 ≤ 1048576}) (fun k => [(0,.rowE (gB ks) 2),(1,.rowE (jU ls) 3),(2,.rowE (ints ps) 1),(3,.rowE (cW bs) 3),(10,.i k.1)]) (fun _ => []) (fun k => ks.length - k.1) ⟨0,by omega,fun i _ hi => by omega⟩ (eA []) ?_
  rintro ⟨k1,hk1,hq⟩;dsimp only;by_cases hlt1 : k1 < ks.length
  · (repeat' (first|refine wS ?_|refine wB ?_|refine wK ?_|refine wR ?_|refine rL rfl ?_|(refine wC rfl (fun hb => ?_) (fun hb => ?_) <;> (((try simp only [nm] at hb);try (exfalso;omega))))|(refine rg 9 (dK rfl (qW T rfl (vV (aL rfl rfl) ?_))))|(refine rg 11 (dK rfl (vV (ix T rfl (by omega) (vU ks) (B8 (k := k1) hlt1)) (gH T rfl (vV (aL rfl rfl) (mV ?_)))));refine cH rfl rfl (fun hb => ?_) (fun hb => ?_) <;> ((rw [hb];(try simp only [nm] at hb);try ((exfalso;omega);done)));(all_goals first|(refine gT (mW rfl (gT (mW rfl (gT (vV (ix T rfl (by omega) (vU ks) (B8 (k := k1) hlt1)) (gT (fW T rfl (gT (lV T ?_)))))))));refine gT (vV (fM rfl rfl) ?_))|(iterate 6 refine gF ?_));(all_goals (refine pV ?_)))|(refine rg 12 (aV ?_))|(refine iA 10 rfl rfl rfl (by omega) (by omega) ?_)|(refine nZ ?_)));all_goals first
      | (refine cX (.inl rfl) rfl (nC (vI fun h => ?_).symm);have := h.k k1 hlt1;omega)
      | (refine ⟨⟨k1 + 1, by omega, fun i hi hik => ?_⟩, by dsimp only; omega, eA []⟩
         by_cases e : i = k1
         · subst e;omega
         · exact hq i hi (by omega))
  have hkA : ∀ (i : Nat) (h : i < ks.length),0 ≤ ks[i].2 ∧ ks[i].2 ≤ 1048576 := fun i hi => hq i hi (by omega)
  clear hq
  (repeat' (first|refine wS ?_|refine wB ?_|refine wE ?_|(refine wC rfl ?_ ?_<;>(intro hb;(try simp only [nm] at hb);try (exfalso;omega)))|(refine rg 9 (dK rfl (qW T rfl (vV (aL rfl rfl) ?_))))|(refine rg 13 (aV ?_))|refine nZ ?_));refine cN (X := {k : Nat // k ≤ ls.length ∧ ∀ (i : Nat) (h : i < ls.length),i < k → 0 ≤ ls[i].1 ∧ ls[i].1 < ks.length}) (fun k => [(0,.rowE (gB ks) 2),(1,.rowE (jU ls) 3),(2,.rowE (ints ps) 1),(3,.rowE (cW bs) 3),(11,.i k.1)]) (fun _ => []) (fun k => ls.length - k.1) ⟨0,by omega,fun i _ hi => by omega⟩ (eA []) ?_
  rintro ⟨k2,hk2,hq⟩;dsimp only;by_cases hlt2 : k2 < ls.length
  · (repeat' (first|refine wS ?_|refine wB ?_|refine wK ?_|refine wR ?_|refine rL rfl ?_|(refine wC rfl (fun hb => ?_) (fun hb => ?_) <;> (((try simp only [nm] at hb);try (exfalso;omega))))|(refine rg 14 (dK rfl (qW T rfl (vV (aL rfl rfl) ?_))))|(refine rg 16 (dK rfl (vV (ix T rfl (by omega) (zH ls) (J3 (k := k2) hlt2)) (gH T rfl (vV (aL rfl rfl) (mV ?_)))));refine cH rfl rfl (fun hb => ?_) (fun hb => ?_) <;> ((rw [hb];(try simp only [nm] at hb);try ((exfalso;omega);done)));(all_goals first|(refine gT (mW rfl (gT (mW rfl (gT (vV (ix T rfl (by omega) (zH ls) (J3 (k := k2) hlt2)) (gT (fW T rfl (gT (lV T ?_)))))))));refine gT (mW rfl (gT (qW T rfl (gT (vV (jX rfl rfl) ?_))))))|(iterate 8 refine gF ?_));(all_goals (refine pV ?_)))|(refine rg 17 (aV ?_))|(refine iA 15 rfl rfl rfl (by omega) (by omega) ?_)|(refine nZ ?_)));all_goals first
      | (refine cX (.inl rfl) rfl (nC (vI fun h => ?_).symm);have := h.l k2 hlt2;omega)
      | (refine ⟨⟨k2 + 1, by omega, fun i hi hik => ?_⟩, by dsimp only; omega, eA []⟩
         by_cases e : i = k2
         · subst e;omega
         · exact hq i hi (by omega))
  have hlA : ∀ (i : Nat) (h : i < ls.length),0 ≤ ls[i].1 ∧ ls[i].1 < ks.length := fun i hi => hq i hi (by omega)
  clear hq
  (repeat' (first|refine wS ?_|refine wB ?_|refine wE ?_|(refine wC rfl ?_ ?_<;>(intro hb;(try simp only [nm] at hb);try (exfalso;omega)))|(refine rg 14 (dK rfl (qW T rfl (vV (aL rfl rfl) ?_))))|(refine rg 18 (aV ?_))|refine nZ ?_));refine cN (X := {k : Nat // k ≤ bs.length ∧ ∀ (i : Nat) (h : i < bs.length),i < k → -1 ≤ bs[i].1 ∧ bs[i].1 < ls.length ∧ 0 ≤ bs[i].2.1 ∧ bs[i].2.1 ≤ 20000 ∧ (bs[i].1 = -1 → bs[i].2.1 = 0) ∧ 0 ≤ bs[i].2.2 ∧ bs[i].2.2 ≤ 1073741824}) (fun k => [(0,.rowE (gB ks) 2),(1,.rowE (jU ls) 3),(2,.rowE (ints ps) 1),(3,.rowE (cW bs) 3),(12,.i k.1)]) (fun _ => []) (fun k => bs.length - k.1) ⟨0,by omega,fun i _ hi => by omega⟩ (eA []) ?_
  rintro ⟨k3,hk3,hq⟩;dsimp only;by_cases hlt3 : k3 < bs.length
  · (repeat' (first|refine wS ?_|refine wB ?_|refine wK ?_|refine wR ?_|refine rL rfl ?_|(refine wC rfl (fun hb => ?_) (fun hb => ?_) <;> (((try simp only [nm] at hb);try (exfalso;omega))))|(refine rg 19 (dK rfl (qW T rfl (vV (aL rfl rfl) ?_))))|(refine rg 21 (dK rfl (vV (ix T rfl (by omega) (gV bs) (sO (k := k3) hlt3)) (lW T rfl (bQ (bT T rfl) rfl (aU T rfl rfl rfl rfl rfl rfl (by decide) rfl ?_))))))|(refine rg 22 (gH T rfl (vV (aL rfl rfl) (mV ?_)));refine cH rfl rfl (fun hb => ?_) (fun hb => ?_) <;> ((rw [hb];(try simp only [nm] at hb);try ((exfalso;omega);done)));(all_goals first|(refine gT (fW T rfl (gT (lW T rfl (gT (mW rfl (gT (qW T rfl (gT (vV (jX rfl rfl) ?_))))))))))|(iterate 5 refine gF ?_));(all_goals (refine pW rfl (mV ?_)));(all_goals first|(refine gK ?_)|(refine cH rfl rfl (fun hb => ?_) (fun hb => ?_) <;> ((rw [hb];(try simp only [nm] at hb);try ((exfalso;omega);done)))));(all_goals first|(refine gT (fW T rfl (gT (lW T rfl (gT (vV (aL rfl rfl) ?_))))))|(iterate 3 refine gF ?_));(all_goals (refine pW rfl (mV ?_)));(all_goals first|(refine gK ?_)|(refine cH rfl rfl (fun hb => ?_) (fun hb => ?_) <;> ((rw [hb];(try simp only [nm] at hb);try ((exfalso;omega);done)))));(all_goals first|(refine gT (fW T rfl (gT (lW T rfl (gT (vV (fM rfl rfl) ?_))))))|(iterate 3 refine gF ?_));(all_goals (refine pW rfl (mV ?_)));(all_goals first|(refine gK ?_)|(refine cH rfl rfl (fun hb => ?_) (fun hb => ?_) <;> ((rw [hb];(try simp only [nm] at hb);try ((exfalso;omega);done)))));(all_goals first|(refine gT (fW T rfl (gT (lW T rfl (gT (vV (dR rfl rfl) (gT (mV ?_))))))))|(iterate 4 refine gF ?_));(all_goals first|(refine gK ?_)|(refine cH rfl rfl (fun hb => ?_) (fun hb => ?_) <;> ((rw [hb];(try simp only [nm] at hb);try ((exfalso;omega);done)))));(all_goals first|(refine gT (fW T rfl (gT (lW T rfl (gT (vV (fG rfl rfl) ?_))))))|((iterate 3 first|refine gF ?_|refine gU ?_)));(all_goals first|(refine gT (pV ?_))|(refine gF ?_));(all_goals (refine pW rfl (mV ?_)));(all_goals first|(refine gK ?_)|(refine cH rfl rfl (fun hb => ?_) (fun hb => ?_) <;> ((rw [hb];(try simp only [nm] at hb);try ((exfalso;omega);done)))));(all_goals first|(refine gT (fW T rfl (gT (lW T rfl (gT (vV (aL rfl rfl) ?_))))))|(iterate 3 refine gF ?_));(all_goals (refine pW rfl (mV ?_)));(all_goals first|(refine gK ?_)|(refine cH rfl rfl (fun hb => ?_) (fun hb => ?_) <;> ((rw [hb];(try simp only [nm] at hb);try ((exfalso;omega);done)))));(all_goals first|(refine gT (fW T rfl (gT (lW T rfl (gT (vV (fM rfl rfl) ?_))))))|(iterate 3 refine gF ?_));(all_goals (refine pV ?_)))|(refine rg 23 (aV ?_))|(refine iA 20 rfl rfl rfl (by omega) (by omega) ?_)|(refine nZ ?_)));all_goals first
      | (refine cX (.inl rfl) rfl (nC (vI fun h => ?_).symm);have := h.b k3 hlt3;omega)
      | (refine ⟨⟨k3 + 1, by omega, fun i hi hik => ?_⟩, by dsimp only; omega, eA []⟩
         by_cases e : i = k3
         · subst e;omega
         · exact hq i hi (by omega))
  (repeat' (first|refine wS ?_|refine wR ?_|refine wE ?_|(refine wC rfl ?_ ?_<;>(intro hb;(try simp only [nm] at hb);try (exfalso;omega)))|(refine rg 19 (dK rfl (qW T rfl (vV (aL rfl rfl) ?_))))|(refine rg 24 (aV ?_))|refine nZ ?_));refine cX (.inl rfl) rfl (nC (LS ?_).symm)
  exact ⟨hlen,hpA,hkA,hlA,fun i hi => hq i hi (by omega)⟩
abbrev uW (ks : List KD) (ls : List LT) (ps : List Int) (bs : List BX) : AV := .agg [.rowE (gB ks) 2,.rowE (jU ls) 3,.rowE (ints ps) 1,.rowE (cW bs) 3]
def yF1 (ks : List KD) (ls : List LT) (ps : List Int) (bs : List BX) : Prop := 1 ≤ ps.length ∧ ps.length ≤ 8 ∧ bs.length ≤ 8 ∧ ks.length ≤ 10 ∧ ls.length ≤ 10
theorem zT1 {ks : List KD} {ls : List LT} {ps : List Int} {bs : List BX} (h : yF1 ks ls ps bs) (ht : sT ks ls ps bs = true) : zC6 ks ls ps bs := by
  have ht : uL ks ls ps bs := by
    unfold sT at ht;simpa using ht
  obtain ⟨h1,h2,h3,h4,h5⟩ := h;exact ⟨h1,h2,ht.len,h4,h5,ht.k,ht.l,fun i hi => Z6 ps.length ps rfl ht.p _ (aI hi),ht.b⟩
theorem RJ {m st er sl : Int} (h : B2 m st er sl = true) : lR m st er sl := by
  simp only [B2,aM,decide_eq_true_eq] at h;unfold lR;omega
theorem yX {n f t : Int} (h : f ≤ n ∧ n ≤ t) : aR Tryz.prog 69 [.i n,.i f,.i t] [] (.b true) [] := by
  have := oN n f t
  rwa [show iU n f t = true by simp [iU,h]] at this
theorem GP {l : List Int} {n : Int} {i : Nat} (h : i < l.length) (hn : ¬ U0 l n i) : GQ l n = false := by
  unfold GQ;simp only [decide_eq_false_iff_not];exact fun hh => hn (hh i h)
theorem BJ {l : List Int} {n : Int} (h : ∀ i,i < l.length → U0 l n i) : GQ l n = true := by
  unfold GQ;simp only [decide_eq_true_eq];exact h
theorem PK {l : List Int} {k : Nat} (h : k < l.length) : l.getD k 0 = l[k] := by simp [List.getD,h]
theorem EI (l : List Int) (n : Int) (hl : l.length ≤ 9223372036854775807) (hn : 0 ≤ n ∧ n ≤ 1000) : aR Tryz.prog 70 [.rowE (ints l) 1,.i n] [] (.b (GQ l n)) [] := by
  have hlen : (ints l).length = l.length := by simp
  refine bO T Tryz.func70 rfl rfl rfl rfl ?_
  (repeat' (first|refine wS ?_|refine wB ?_|(refine rg 0 (aV ?_))|(refine rg 1 (mW rfl (qW T rfl (mV ?_))))|refine nZ ?_));refine cN (X := {k : Nat // k ≤ l.length ∧ ∀ i,i < k → U0 l n i}) (fun k => [(0,.rowE (ints l) 1),(1,.i n),(7,.rowE (ints l) 1),(8,.i (ints l).length),(9,.i k.1)]) (fun _ => []) (fun k => l.length - k.1) ⟨0,by omega,fun i hi => by omega⟩ (eA []) ?_
  rintro ⟨k,hk,hq⟩;dsimp only;by_cases hlt : k < l.length
  · have hg := PK hlt;cases hw : iU l[k] 0 (n - 1)
    · have c := hw ▸ oN l[k] 0 (n - 1);have hno : ¬ U0 l n k := fun h => by
        unfold U0 at h;rw [hg] at h;rw [show iU l[k] 0 (n - 1) = true by simp [iU];omega] at hw
        cases hw
      (repeat' (first|refine wS ?_|refine wB ?_|refine wK ?_|refine wR ?_|refine wT ?_|(refine wC rfl ?_ ?_<;>(intro hb;(try simp only [nm] at hb);try (exfalso;omega)))|(refine rg 2 (vV (aL rfl rfl) ?_))|(refine rg 3 (mW rfl (vV (ix T rfl (by omega) (ints_len l) (nA (k := k) hlt)) (lW T rfl (qJ ?_)))))|(refine rg 4 (dK rfl (vV (cP rfl rfl (by omega) (by omega)) (vV (kC (c)) (vV (dX rfl) (mV ?_)))));(iterate 3 refine gF ?_);(iterate 7 refine gU ?_);refine gF (pV ?_))|(refine rg 5 (aV ?_))|refine nZ ?_));exact cX (.inl rfl) rfl (nC (GP hlt hno).symm)
    · have c := hw ▸ oN l[k] 0 (n - 1);simp only [iU,aM,decide_eq_true_eq] at hw;by_cases hk0 : 0 < k
      · have hlt' : k - 1 < l.length := by omega
        have hg' := PK hlt';have hc' : (ints l)[((k : Int) - 1).toNat]? = some [AV.i l[k - 1]] := by rw [show ((k : Int) - 1).toNat = k - 1 by omega];exact nA hlt'
        (repeat' (first|refine wS ?_|refine wB ?_|refine wK ?_|refine wR ?_|(refine wC rfl ?_ ?_<;>(intro hb;(try simp only [nm] at hb);try (exfalso;omega)))|(refine rg 2 (vV (aL rfl rfl) ?_))|(refine rg 3 (mW rfl (vV (ix T rfl (by omega) (ints_len l) (nA (k := k) hlt)) (lW T rfl (qJ ?_)))))|(refine rg 4 (dK rfl (vV (cP rfl rfl (by omega) (by omega)) (vV (kC (c)) (vV (dX rfl) (mW rfl (yN rfl (yV (fM rfl rfl) (yM ?_))))))));refine cH rfl rfl ?_ ?_<;>(intro hb;rw [hb];(try simp only [nm] at hb);try (exfalso;omega));(all_goals (refine yN rfl (yN rfl (yN rfl (yV (cP rfl rfl (by omega) (by omega)) (yV (ix T rfl (by omega) (ints_len l) hc') (yO T rfl (yV (iO rfl rfl) (gT (pW rfl (pV ?_))))))))))))|(refine rg 5 (aV ?_))|(refine rg 6 (vV (bV rfl rfl (by omega) (by omega)) (mV ?_)))|refine nZ ?_));all_goals first
          | (exfalso;omega)
          | (refine cX (.inl rfl) rfl (nC (GP hlt (fun h => ?_)).symm);unfold U0 at h;rw [hg,hg'] at h;omega)
          | (refine ⟨⟨k + 1, by omega, fun i hi => ?_⟩, by dsimp only; omega, eA []⟩
             by_cases e : i = k
             · subst e;unfold U0;rw [hg,hg'];omega
             · exact hq i (by omega))
      · obtain rfl : k = 0 := by omega
        (repeat' (first|refine wS ?_|refine wB ?_|refine wK ?_|refine wU ?_|(refine wC rfl ?_ ?_<;>(intro hb;(try simp only [nm] at hb);try (exfalso;omega)))|(refine rg 2 (vV (aL rfl rfl) ?_))|(refine rg 3 (mW rfl (vV (ix T rfl (by omega) (ints_len l) (nA (k := 0) hlt)) (lW T rfl (qJ ?_)))))|(refine rg 4 (dK rfl (vV (cP rfl rfl (by omega) (by omega)) (vV (kC (c)) (vV (dX rfl) (mW rfl (yN rfl (yV (fM rfl rfl) (yM ?_))))))));(iterate 7 refine gF ?_);refine gT (pW rfl (pV ?_)))|(refine rg 6 (vV (bV rfl rfl (by omega) (by omega)) (mV ?_)))|refine nZ ?_));all_goals first
          | (exfalso;omega)
          | (refine ⟨⟨1, by omega, fun i hi => ?_⟩, by dsimp only; omega, eA []⟩
             obtain rfl : i = 0 := by omega
             unfold U0;rw [hg];omega)
  · (repeat' (first|refine wS ?_|refine wR ?_|refine wE ?_|(refine wC rfl (fun hb => ?_) (fun hb => ?_) <;> (((try simp only [nm] at hb);try (exfalso;omega))))|(refine rg 2 (vV (aL rfl rfl) ?_))|(refine rg 7 (aV ?_))|(refine nZ ?_)));exact cX (.inl rfl) rfl (nC (BJ fun i hi => hq i (by omega)).symm)
section
variable {P : Program} {env : dW} {h : Hp} {d : Option Nat} {ty : TypeId} {pos : String} {af : Array Edge} {g : Option (Nat × Bool)}
end
section
variable {ks : List KD} {ls : List LT} {ps : List Int} {bs : List BX} {m st er sl k a b n id lot ct ta done : Int} {ids : List Int} {M : Int}
theorem NG (f : zC6 ks ls ps bs) (ha : 0 ≤ a) (hid : ps[a.toNat]? = some id) (hbx : bs[id.toNat]? = some (lot, ct, ta)) (hi0 : 0 ≤ id) (hk4 : k = 4) (hd : done = 1) {idb : Int} (hbb : 0 ≤ b) (hab : a ≠ b) (hidb : ps[b.toNat]? = some idb)
    (hag : aR Tryz.prog 29 [gY m st er sl,.rowE (gB ks) 2,.rowE (jU ls) 3,.rowE (ints ps) 1,.rowE (cW bs) 3,oI k a b n ids] [] (.tup [.i M,.b true]) [])
    (hcan : aR Tryz.prog 73 [gY m st er sl,.agg [.i lot,.i ct,.i ta],oI k a b n ids,.i done] [] (.b true) []) :
    aR Tryz.prog 30 [gY m st er sl,.rowE (gB ks) 2,.rowE (jU ls) 3,.rowE (ints ps) 1,.rowE (cW bs) 3,oI k a b n ids,.i done] [] (.tup [.sl 0 0 ps.length 1,.sl 1 0 bs.length 3,.b true]) [.arr (ints ((ps.set a.toNat idb).set b.toNat id)) 1,.arr (cW bs) 3] := by
  have hc1 : (ints ps)[a.toNat]? = some [AV.i id] := by simp [hid]
  have hc2 : (cW bs)[id.toNat]? = some [AV.i lot,AV.i ct,AV.i ta] := by simp [hbx]
  obtain ⟨hx1,_⟩ := aB.1 hid;obtain ⟨hz1,_⟩ := aB.1 hidb;have hpl : (ints ps).length = ps.length := by simp
  have hA : ∀ θ,((ints ps).map (AV.mapL θ))[0 + a.toNat]? = some [AV.i id] := fun θ => by rw [bY θ (ints_idf ps),Nat.zero_add];exact hc1
  have hB : ∀ θ,((ints ps).map (AV.mapL θ))[0 + b.toNat]? = some [AV.i idb] := fun θ => by rw [bY θ (ints_idf ps),Nat.zero_add];simp [hidb]
  have hB2 : ∀ θ x,(((ints ps).map (AV.mapL θ)).set (0 + a.toNat) x)[0 + b.toNat]? = some [AV.i idb] := fun θ x => by rw [iT (by omega)];exact hB θ
  have hS : ∀ θ,(((ints ps).map (AV.mapL θ)).set (0 + a.toNat) [AV.i idb]).set (0 + b.toNat) [AV.i id] = ints ((ps.set a.toNat idb).set b.toNat id) := fun θ => by rw [bY θ (ints_idf ps),Nat.zero_add,Nat.zero_add];simp [pP]
  have hn1 := f.n1;have hn8 := f.n8;have hle := f.len;have cl1 := G8 ps (by omega) (by omega)
  have cl2 := zY bs (by omega) (by omega)
  refine bO T Tryz.func30 rfl rfl rfl rfl ?_
  (repeat' (first|refine wS ?_|refine wB ?_|refine wK ?_|refine wR ?_|refine wU ?_|(refine wC rfl ?_ ?_<;>(intro hb;(try simp only [nm] at hb);try (exfalso;omega)))|(refine rg 0 (bQ (cD rfl rfl) rfl (bQ (cD rfl rfl) rfl (zB1 rfl (aV ?_)))))|(refine rg 1 (mW rfl (fW T rfl (vV (aP T rfl rfl rfl rfl) (vV (ix T rfl (by omega) (ints_len ps) hc1) (vV (aP T rfl rfl rfl rfl) (aV ?_)))))))|(refine rg 2 (vV (aP T rfl rfl rfl rfl) (dK rfl (dK rfl (vV (aP T rfl rfl rfl rfl) (vV (kC (hag)) (mW rfl (xW rfl (xW rfl (qJ ?_))))))))))|(refine bN (id := 3) 95 yG4 (rM 37 13) yG5 cJ rfl (by decide +kernel) (dN rfl (dV rfl (dX rfl) (dN rfl (tO T rfl (tN rfl (tN rfl (dT rfl (ix T rfl (by omega) (gV bs) hc2) (tO T rfl (tL T ?_)))))))));refine tN rfl (dT rfl (kC (hcan)) (dT rfl (dX rfl) (dV rfl (iE rfl rfl) (dE ?_)))))|(refine rg 5 (mW rfl (bQ (by exact fL rfl rfl cl1 (.inr ⟨rfl,rfl,by simp⟩)) rfl ?_));refine mW rfl (bQ (by exact fL rfl rfl cl2 (.inr ⟨rfl,rfl,by simp⟩)) rfl ?_);refine qJ ?_)|(refine rg 6 (fW T rfl (vV (aP T rfl rfl rfl rfl) (vV (dR rfl rfl) (aV ?_)))))|(refine rg 8 (fW T rfl (vV (aP T rfl rfl rfl rfl) (vV (dR rfl rfl) (mV ?_))));refine cH rfl rfl ?_ ?_<;>(intro hb;rw [hb];(try simp only [nm] at hb);try (exfalso;omega));(all_goals (refine yN rfl (yV (dR rfl rfl) (pW rfl (aV ?_))))))|(refine nD (id := 9) 95 [[],[],[1],[],[],[4],[],[],[7],[6,7,8],rM 6 4,[],[],[12],[11,12,13],rM 11 4,[0,1,2,6,7,8,9,10,11,12,13,14,15],[0,1,2,6,7,8,9,10,11,12,13,14,15,16]] (rM 75 17) [[],[75],[75],[75,76,77],rM 75 4,rM 75 4,rM 75 6,rM 75 7,rM 75 7,rM 75 6,rM 75 6,rM 75 11,rM 75 12,rM 75 12,rM 75 11,rM 75 11,[78,79,80],[78,79,80]] [(17,2)] cJ rfl (by decide +kernel) (cK rfl rfl rfl rfl (by exact cC rfl) ?_);refine cK rfl rfl rfl rfl (by exact cE T rfl rfl rfl) ?_;refine cK rfl rfl rfl rfl (by exact aP T rfl rfl rfl rfl) ?_;refine cK rfl rfl rfl rfl (by exact cC rfl) ?_;refine cK rfl rfl rfl rfl (by exact cE T rfl rfl rfl) ?_;refine cK rfl rfl rfl rfl (by exact aP T rfl rfl rfl rfl) ?_;refine cK rfl rfl rfl rfl (by exact cC rfl) ?_;refine cK rfl rfl rfl rfl (by exact cE T rfl rfl rfl) ?_;refine cK rfl rfl rfl rfl (by exact aP T rfl rfl rfl rfl) ?_;refine cK rfl rfl rfl rfl (by exact aJ T rfl rfl rfl rfl rfl (by omega) (by omega)) ?_;refine cK rfl rfl rfl rfl (by exact aP T rfl rfl (bH rfl (hB _)) rfl) ?_;refine cK rfl rfl rfl rfl (by exact cC rfl) ?_;refine cK rfl rfl rfl rfl (by exact cE T rfl rfl rfl) ?_;refine cK rfl rfl rfl rfl (by exact aP T rfl rfl rfl rfl) ?_;refine cK rfl rfl rfl rfl (by exact aJ T rfl rfl rfl rfl rfl (by omega) (by omega)) ?_;refine cK rfl rfl rfl rfl (by exact aP T rfl rfl (bH rfl (hA _)) rfl) ?_;refine cK rfl rfl rfl rfl (by exact aJ T rfl rfl rfl rfl rfl (by omega) (by omega)) ?_;refine vB rfl rfl rfl rfl (aN rfl) T rfl rfl rfl rfl rfl rfl (by decide) (tZ rfl (hA _) rfl) ?_;refine rB rfl rfl rfl (by exact rfl) ?_;refine vV (by exact aJ T rfl rfl rfl rfl rfl (by omega) (by omega)) ?_;refine aU T rfl rfl rfl rfl rfl rfl (by decide) (lX rfl (hB2 _ _) rfl) ?_)|(refine rg 10 (dK rfl (zB1 rfl (aV ?_))))|refine nZ ?_));all_goals first | (exfalso;omega) | exact ⟨.inl rfl,[2,3],_,rfl,rfl,rfl,⟨.inr (aD rfl (hS _) (ints_idf _)),.inr (aD rfl (bY _ (pL bs)) (pL bs)),trivial⟩,by decide,wX⟩
end
end Go.Proofs.YtmmkhmilpeodnaaGreat
namespace Go.Ab
open Go
section
variable {P : Program}
theorem H5 {f : FuncId} {args : List AV} {e1 e2 : List (List AV)} {l1 l2 s1 s2 : Nat} {u : AV} (hn1 : l1 = e1.length) (hn2 : l2 = e2.length) (hi1 : AV.idfL e1.flatten = true) (hi2 : AV.idfL e2.flatten = true) (hu : u.idf = true)
    (h : aR P f args [] (.tup [.sl 0 0 l1 s1,.sl 1 0 l2 s2,u]) [.arr e1 s1,.arr e2 s2]) : aR P f args [] (.tup [.rowE e1 s1,.rowE e2 s2,u]) [] := by
  refine ⟨h.1,fun ρ S w vs hs ha => (h.2 ρ S w vs hs ha).mono ?_⟩;rintro e w' ⟨y,ρ',S',rfl,h2,h3⟩;rw [hn1,hn2] at h3;have f1 := h2.freeze (k := 0) rfl;have f2 := f1.freeze (k := 1) rfl;refine ⟨y,_,_,rfl,f2.none rfl,?_⟩;simp only [R] at h3 ⊢;obtain ⟨ys,rfl,h7⟩ := h3;refine ⟨ys,rfl,?_⟩;simp only [RL] at h7 ⊢;obtain ⟨z1,q1,h5,g1,z2,q2,rfl,g2,z3,q3,rfl,g3,rfl⟩ := h7;refine ⟨z1,_,h5,?_,z2,_,rfl,?_,z3,_,rfl,?_,rfl⟩
  · exact KZ (fun _ h => .inl h) (S9 ρ' _ _ _ rfl (xH hi1 (h2.blk 0 _ rfl) g1))
  · exact S9 ρ' _ _ _ rfl (xH hi2 (f1.blk 1 _ rfl) (KZ (fun _ h => .inl h) g2))
  · exact KZ (fun _ h => .inl (.inl h)) (S9 ρ' _ _ _ hu g3)
end
end Go.Ab
namespace Go.Proofs.YtmmkhmilpeodnaaGreat
open Go Go.Ab
attribute [local irreducible] VC AW bX aR
set_option maxHeartbeats 4000000
theorem mR {θ : Nat → Nat} {f : Fn} {caps : List AV} (hi : AV.idfL caps = true) : (AV.clo f [] caps).map θ = .clo f [] caps := by
  show AV.clo f (AV.mapL θ []) (AV.mapL θ caps) = _;rw [oS θ caps hi];rfl
theorem YB {w : List KD} {F : FuncId} {caps : List AV} (hl : w.length ≤ 1000) (hi : AV.idfL caps = true) (hF : ∀ x,x ∈ w → aR Tryz.prog F (.agg [AV.v (.string x.1),AV.i x.2] :: caps) [] (.b false) []) :
    aR Tryz.prog 123 [.rowE (gB w) 2,.clo (.func F) [] caps] [] (.i (-1)) [] := by
  have hlen : (gB w).length = w.length := by simp
  refine bO T Tryz.func123 rfl rfl rfl rfl ?_
  (repeat' (first|refine wS ?_|refine wB ?_|(refine rg 0 (aV ?_))|(refine rg 1 (mW rfl (qW T rfl (mV ?_))))|refine nZ ?_));refine cN (X := {k : Nat // k ≤ w.length}) (fun k => [(0,.rowE (gB w) 2),(1,.clo (.func F) [] caps),(7,.i (gB w).length),(8,.i k.1)]) (fun _ => []) (fun k => w.length - k.1) ⟨0,by simp⟩ ⟨[],rfl,⟨rfl,by rw [mR hi];rfl,rfl,rfl,trivial⟩,trivial,cQ,fun _ h => absurd h (dH _)⟩ ?_
  rintro ⟨k,hk⟩;dsimp only;by_cases hlt : k < w.length
  · have hc := hF w[k] (aI hlt);have hg := B8 (l := w) hlt;generalize w[k] = y at *
    (repeat' (first|refine wS ?_|refine wB ?_|refine wK ?_|refine wU ?_|(refine wC rfl ?_ ?_<;>(intro hb;(try simp only [nm] at hb);try (exfalso;omega)))|(refine rg 2 (vV (aL rfl rfl) ?_))|(refine rg 3 (mW rfl (aV ?_)))|(refine rg 4 (dK rfl (mW rfl (vV (ix T rfl (by omega) (vU w) hg) (lW T rfl (vV (by exact eQ rfl rfl hc rfl (by simp [AV.idfL,AV.idf,hi]) rfl) ?_))))))|(refine rg 6 (vV (bV rfl rfl (by omega) (by omega)) (mV ?_)))|refine nZ ?_));all_goals first | (exfalso;omega) | exact ⟨⟨k + 1,hlt⟩,by dsimp only;omega,⟨[],rfl,⟨rfl,by rw [mR hi];rfl,rfl,rfl,trivial⟩,trivial,cQ,fun _ h => absurd h (dH _)⟩⟩
  · (repeat' (first|refine wS ?_|refine wR ?_|refine wE ?_|(refine wC rfl (fun hb => ?_) (fun hb => ?_) <;> (((try simp only [nm] at hb);try (exfalso;omega))))|(refine rg 2 (vV (aL rfl rfl) ?_))|(refine rg 7 (aV ?_))|(refine nZ ?_)));all_goals first | (exfalso;omega) | exact rQ
theorem zS3 {w : List KD} {F : FuncId} {caps : List AV} (hl : w.length ≤ 1000) (hi : AV.idfL caps = true) (hF : ∀ x,x ∈ w → aR Tryz.prog F (.agg [AV.v (.string x.1),AV.i x.2] :: caps) [] (.b false) []) :
    aR Tryz.prog 80 [.rowE (gB w) 2,.clo (.func F) [] caps] [] (.b false) [] := by
  have hc := YB hl hi hF;refine bO T Tryz.func80 rfl rfl rfl rfl ?_
  (repeat' (first|refine wS ?_|refine wR ?_|(refine rg 0 (aV ?_))|(refine rg 1 (dK rfl (vV (by exact eQ rfl rfl hc rfl (by simp [AV.idfL,AV.idf,hi]) rfl) ?_));refine vV (jX rfl rfl) (aV ?_))|refine nZ ?_));all_goals first | (exfalso;omega) | exact rQ
theorem YA {w : List LT} {F : FuncId} {caps : List AV} (hl : w.length ≤ 1000) (hi : AV.idfL caps = true) (hF : ∀ x,x ∈ w → aR Tryz.prog F (.agg [AV.i x.1,AV.i x.2.1,AV.b x.2.2] :: caps) [] (.b false) []) :
    aR Tryz.prog 124 [.rowE (jU w) 3,.clo (.func F) [] caps] [] (.i (-1)) [] := by
  have hlen : (jU w).length = w.length := by simp
  refine bO T Tryz.func124 rfl rfl rfl rfl ?_
  (repeat' (first|refine wS ?_|refine wB ?_|(refine rg 0 (aV ?_))|(refine rg 1 (mW rfl (qW T rfl (mV ?_))))|refine nZ ?_));refine cN (X := {k : Nat // k ≤ w.length}) (fun k => [(0,.rowE (jU w) 3),(1,.clo (.func F) [] caps),(7,.i (jU w).length),(8,.i k.1)]) (fun _ => []) (fun k => w.length - k.1) ⟨0,by simp⟩ ⟨[],rfl,⟨rfl,by rw [mR hi];rfl,rfl,rfl,trivial⟩,trivial,cQ,fun _ h => absurd h (dH _)⟩ ?_
  rintro ⟨k,hk⟩;dsimp only;by_cases hlt : k < w.length
  · have hc := hF w[k] (aI hlt);have hg := J3 (l := w) hlt;generalize w[k] = y at *
    (repeat' (first|refine wS ?_|refine wB ?_|refine wK ?_|refine wU ?_|(refine wC rfl ?_ ?_<;>(intro hb;(try simp only [nm] at hb);try (exfalso;omega)))|(refine rg 2 (vV (aL rfl rfl) ?_))|(refine rg 3 (mW rfl (aV ?_)))|(refine rg 4 (dK rfl (mW rfl (vV (ix T rfl (by omega) (zH w) hg) (lW T rfl (vV (by exact eQ rfl rfl hc rfl (by simp [AV.idfL,AV.idf,hi]) rfl) ?_))))))|(refine rg 6 (vV (bV rfl rfl (by omega) (by omega)) (mV ?_)))|refine nZ ?_));all_goals first | (exfalso;omega) | exact ⟨⟨k + 1,hlt⟩,by dsimp only;omega,⟨[],rfl,⟨rfl,by rw [mR hi];rfl,rfl,rfl,trivial⟩,trivial,cQ,fun _ h => absurd h (dH _)⟩⟩
  · (repeat' (first|refine wS ?_|refine wR ?_|refine wE ?_|(refine wC rfl (fun hb => ?_) (fun hb => ?_) <;> (((try simp only [nm] at hb);try (exfalso;omega))))|(refine rg 2 (vV (aL rfl rfl) ?_))|(refine rg 7 (aV ?_))|(refine nZ ?_)));all_goals first | (exfalso;omega) | exact rQ
theorem zS2 {w : List LT} {F : FuncId} {caps : List AV} (hl : w.length ≤ 1000) (hi : AV.idfL caps = true) (hF : ∀ x,x ∈ w → aR Tryz.prog F (.agg [AV.i x.1,AV.i x.2.1,AV.b x.2.2] :: caps) [] (.b false) []) :
    aR Tryz.prog 82 [.rowE (jU w) 3,.clo (.func F) [] caps] [] (.b false) [] := by
  have hc := YA hl hi hF;refine bO T Tryz.func82 rfl rfl rfl rfl ?_
  (repeat' (first|refine wS ?_|refine wR ?_|(refine rg 0 (aV ?_))|(refine rg 1 (dK rfl (vV (by exact eQ rfl rfl hc rfl (by simp [AV.idfL,AV.idf,hi]) rfl) ?_));refine vV (jX rfl rfl) (aV ?_))|refine nZ ?_));all_goals first | (exfalso;omega) | exact rQ
theorem YC {w : List BX} {F : FuncId} {caps : List AV} (hl : w.length ≤ 1000) (hi : AV.idfL caps = true) (hF : ∀ x,x ∈ w → aR Tryz.prog F (.agg [AV.i x.1,AV.i x.2.1,AV.i x.2.2] :: caps) [] (.b false) []) :
    aR Tryz.prog 125 [.rowE (cW w) 3,.clo (.func F) [] caps] [] (.i (-1)) [] := by
  have hlen : (cW w).length = w.length := by simp
  refine bO T Tryz.func125 rfl rfl rfl rfl ?_
  (repeat' (first|refine wS ?_|refine wB ?_|(refine rg 0 (aV ?_))|(refine rg 1 (mW rfl (qW T rfl (mV ?_))))|refine nZ ?_));refine cN (X := {k : Nat // k ≤ w.length}) (fun k => [(0,.rowE (cW w) 3),(1,.clo (.func F) [] caps),(7,.i (cW w).length),(8,.i k.1)]) (fun _ => []) (fun k => w.length - k.1) ⟨0,by simp⟩ ⟨[],rfl,⟨rfl,by rw [mR hi];rfl,rfl,rfl,trivial⟩,trivial,cQ,fun _ h => absurd h (dH _)⟩ ?_
  rintro ⟨k,hk⟩;dsimp only;by_cases hlt : k < w.length
  · have hc := hF w[k] (aI hlt);have hg := sO (l := w) hlt;generalize w[k] = y at *
    (repeat' (first|refine wS ?_|refine wB ?_|refine wK ?_|refine wU ?_|(refine wC rfl ?_ ?_<;>(intro hb;(try simp only [nm] at hb);try (exfalso;omega)))|(refine rg 2 (vV (aL rfl rfl) ?_))|(refine rg 3 (mW rfl (aV ?_)))|(refine rg 4 (dK rfl (mW rfl (vV (ix T rfl (by omega) (gV w) hg) (lW T rfl (vV (by exact eQ rfl rfl hc rfl (by simp [AV.idfL,AV.idf,hi]) rfl) ?_))))))|(refine rg 6 (vV (bV rfl rfl (by omega) (by omega)) (mV ?_)))|refine nZ ?_));all_goals first | (exfalso;omega) | exact ⟨⟨k + 1,hlt⟩,by dsimp only;omega,⟨[],rfl,⟨rfl,by rw [mR hi];rfl,rfl,rfl,trivial⟩,trivial,cQ,fun _ h => absurd h (dH _)⟩⟩
  · (repeat' (first|refine wS ?_|refine wR ?_|refine wE ?_|(refine wC rfl (fun hb => ?_) (fun hb => ?_) <;> (((try simp only [nm] at hb);try (exfalso;omega))))|(refine rg 2 (vV (aL rfl rfl) ?_))|(refine rg 7 (aV ?_))|(refine nZ ?_)));all_goals first | (exfalso;omega) | exact rQ
theorem zS5 {w : List BX} {F : FuncId} {caps : List AV} (hl : w.length ≤ 1000) (hi : AV.idfL caps = true) (hF : ∀ x,x ∈ w → aR Tryz.prog F (.agg [AV.i x.1,AV.i x.2.1,AV.i x.2.2] :: caps) [] (.b false) []) :
    aR Tryz.prog 84 [.rowE (cW w) 3,.clo (.func F) [] caps] [] (.b false) [] := by
  have hc := YC hl hi hF;refine bO T Tryz.func84 rfl rfl rfl rfl ?_
  (repeat' (first|refine wS ?_|refine wR ?_|(refine rg 0 (aV ?_))|(refine rg 1 (dK rfl (vV (by exact eQ rfl rfl hc rfl (by simp [AV.idfL,AV.idf,hi]) rfl) ?_));refine vV (jX rfl rfl) (aV ?_))|refine nZ ?_));all_goals first | (exfalso;omega) | exact rQ
theorem UU (x : KD) (h : 0 ≤ x.2 ∧ x.2 ≤ 1048576) : aR Tryz.prog 81 [.agg [AV.v (.string x.1),AV.i x.2]] [] (.b false) [] := by
  have hw := yX (n := x.2) (f := 0) (t := 1048576) h;refine bO T Tryz.func81 rfl rfl rfl rfl ?_
  (repeat' (first|refine wS ?_|refine wR ?_|(refine rg 0 (bQ (cD rfl rfl) rfl (aV ?_)))|(refine rg 1 (gH T rfl (vV (kC (hw)) (vV (dX rfl) (aV ?_)))))|refine nZ ?_));all_goals first | (exfalso;omega) | exact rQ
theorem UT (ks : List KD) (x : LT) (h : 0 ≤ x.1 ∧ x.1 < ks.length) (hk : ks.length ≤ 1000) : aR Tryz.prog 83 [.agg [AV.i x.1,AV.i x.2.1,AV.b x.2.2],.pr [.rowE (gB ks) 2] 0] [] (.b false) [] := by
  have e1 : (gB ks).length = ks.length := by simp
  have hw := yX (n := x.1) (f := 0) (t := ((gB ks).length : Int) - 1) (by omega)
  refine bO T Tryz.func83 rfl rfl rfl rfl ?_
  (repeat' (first|refine wS ?_|refine wR ?_|(refine rg 0 (bQ (cD rfl rfl) rfl (aV ?_)))|(refine rg 1 (gH T rfl (lW T rfl (qW T rfl (vV (cP rfl rfl (by omega) (by omega)) (vV (kC (hw)) (vV (dX rfl) (aV ?_))))))))|refine nZ ?_));all_goals first | (exfalso;omega) | exact rQ
theorem UV (ls : List LT) (x : BX) (h : -1 ≤ x.1 ∧ x.1 < ls.length ∧ 0 ≤ x.2.1 ∧ x.2.1 ≤ 20000 ∧ (x.1 = -1 → x.2.1 = 0) ∧ 0 ≤ x.2.2 ∧ x.2.2 ≤ 1073741824) (hk : ls.length ≤ 1000) : aR Tryz.prog 85 [.agg [AV.i x.1,AV.i x.2.1,AV.i x.2.2],.pr [.rowE (jU ls) 3] 0] [] (.b false) [] := by
  have e1 : (jU ls).length = ls.length := by simp
  obtain ⟨lot,ct,ta⟩ := x;dsimp only at h ⊢;have h1 := yX (n := lot) (f := -1) (t := ((jU ls).length : Int) - 1) (by omega)
  have h2 := yX (n := ct) (f := 0) (t := 20000) (by omega)
  have h3 := yX (n := ta) (f := 0) (t := 1073741824) (by omega)
  refine bO T Tryz.func85 rfl rfl rfl rfl ?_
  (repeat' (first|refine wS ?_|refine wR ?_|(refine rg 0 (bQ (cD rfl rfl) rfl (aV ?_)))|(refine rg 1 (gH T rfl (lW T rfl (qW T rfl (vV (cP rfl rfl (by omega) (by omega)) (vV (kC (h1)) (vV (dX rfl) (mW rfl (yP T rfl (yL T ?_)))))))));refine yV (kC (h2)) (yV (dX rfl) (pW rfl (mW rfl (yP T rfl (yO T rfl (yV (aL rfl rfl) (yM ?_)))))));refine cH rfl rfl ?_ ?_<;>(intro hb;rw [hb];(try simp only [nm] at hb);try (exfalso;omega));(all_goals first|(refine gT (fW T rfl (gT (lW T rfl (gT (vV (fM rfl rfl) ?_))))))|(iterate 3 refine gF ?_));(all_goals (refine gT (pW rfl (pW rfl (mV ?_)))));(all_goals first|(refine gK ?_)|(refine cH rfl rfl ?_ ?_<;>(intro hb;rw [hb];(try simp only [nm] at hb);try (exfalso;omega))));(all_goals (refine yP T rfl (yO T rfl (yV (kC (h3)) (yV (dX rfl) (pW rfl (aV ?_))))))))|refine nZ ?_));all_goals first | (exfalso;omega) | exact rQ
theorem Z5 : ∀ (l m : List Int), l.Nodup → (∀ x, x ∈ l → x ∈ m) → m.length ≤ l.length → l.Perm m
  | [],m,_,_,hl => by
    have : m = [] := eT.1 (by simpa using hl)
    subst this;exact List.Perm.refl _
  | x :: l,m,hn,hs,hl => by
    have hx := hs x (by simp)
    have h2 := List.perm_cons_erase hx
    have h3 := Z5 l (m.erase x) (fH.1 hn).2 (fun y hy => by
      have hyx : y ≠ x := fun e => (fH.1 hn).1 (e ▸ hy);exact (lS hyx).2 (hs y (aK _ hy))) (by
        rw [lJ hx];simp only [List.length_cons] at hl
        omega)
    exact (List.Perm.cons x h3).trans h2.symm
theorem EW {n : Nat} {ps : List Int} (hl : ps.length = n) (h : ∀ i : Nat,i < n → (i : Int) ∈ ps) : jE ps = Go.Ab.nats (List.range n) := by
  have hnd : (Go.Ab.nats (List.range n)).Nodup := List.Pairwise.map _ (fun a b hab e => hab (by omega)) zN1
  have hsub : ∀ x,x ∈ Go.Ab.nats (List.range n) → x ∈ ps := fun x hx => by
    obtain ⟨i,hi,rfl⟩ := bE.1 hx;exact h i (eF.1 hi)
  have hp : (Go.Ab.nats (List.range n)).Perm ps := Z5 (Go.Ab.nats (List.range n)) ps hnd hsub (by simp [hl])
  exact Go.Pm.sorted_eq hp.symm (Go.Pm.range_le n)
theorem RT (n : Nat) : GQ (Go.Ab.nats (List.range n)) n = true := by
  refine BJ fun i hi => ?_
  have hi' : i < n := by simpa using hi
  have e : ∀ k,k < n → (Go.Ab.nats (List.range n)).getD k 0 = (k : Int) := fun k hk => by
    rw [aC];simp [hk]
  unfold U0;rw [e i hi'];refine ⟨by omega,by omega,fun h0 => ?_⟩
  rw [e (i - 1) (by omega)];omega
theorem EX {ks : List KD} {ls : List LT} {ps : List Int} {bs : List BX} (t : uL ks ls ps bs) (h1 : ks.length ≤ 1000) (h2 : ls.length ≤ 1000) (h3 : ps.length ≤ 1000) :
    aR Tryz.prog 36 [.rowE (gB ks) 2,.rowE (jU ls) 3,.rowE (ints ps) 1,.rowE (cW bs) 3] [] (.b true) [] := by
  have e3 : (ints ps).length = ps.length := by simp
  have e4 : (cW bs).length = bs.length := by simp
  have hlen := t.len;have v1 := I3 ps;have v2 := X6 ps (by omega)
  rw [EW (n := ps.length) rfl t.p] at v2;have v3 := EI (Go.Ab.nats (List.range ps.length)) ps.length (by simp;omega) (by omega)
  rw [RT] at v3;rw [show (ps.length : Int) = ((cW bs).length : Int) by omega] at v3
  have c1 := zS3 (w := ks) (F := 81) (caps := []) h1 rfl (fun x hx => by
    obtain ⟨i,hi,rfl⟩ := rO.1 hx
    exact UU _ (t.k i hi))
  have c2 := zS2 (w := ls) (F := 83) (caps := [.pr [.rowE (gB ks) 2] 0]) h2 rfl (fun x hx => by
    obtain ⟨i,hi,rfl⟩ := rO.1 hx
    exact UT ks _ (t.l i hi) h1)
  have c3 := zS5 (w := bs) (F := 85) (caps := [.pr [.rowE (jU ls) 3] 0]) (by omega) rfl (fun x hx => by
    obtain ⟨i,hi,rfl⟩ := rO.1 hx
    exact UV ls _ (t.b i hi) h2)
  generalize Go.Ab.nats (List.range ps.length) = sr at *;refine bO T Tryz.func36 rfl rfl rfl rfl ?_
  (repeat' (first|refine wS ?_|refine wK ?_|refine wU ?_|(refine rg 0 (bQ (cD rfl rfl) rfl (bQ (cD rfl rfl) rfl (aV ?_))))|(refine rg 1 (mW rfl (vV (kC (v1)) (vV (by exact eQ rfl rfl v2 rfl rfl rfl) ?_)));refine aV ?_)|(refine rg 2 (mW rfl (qW T rfl (mW rfl (qW T rfl (vV (rA rfl rfl (by omega)) (mW rfl (yN rfl (yN rfl (gT ?_)))))))));refine qW T rfl (yV (kC (v3)) (yV (dX rfl) (pV ?_))))|refine nZ ?_));all_goals try (exfalso;omega)
  (repeat' (first|refine wS ?_|refine wR ?_|(refine rg 4 (lW T rfl (vV (by exact eQ rfl rfl c1 rfl rfl rfl) ?_));refine aV ?_)|(refine rg 5 (dK rfl (yO T rfl (yV (by exact jK rfl rfl) ?_)));refine yV (by exact fB rfl rfl c2 (.cons (.row _ _ _) (.cons (.clo .nil (.cons (.ptr rfl (.cons (.row _ _ _) .nil)) .nil)) .nil)) rfl rfl) ?_;refine pW rfl (aV ?_))|(refine rg 6 (mW rfl (vV (dX rfl) (mW rfl (yN rfl (yV (by exact jK rfl rfl) ?_)))));refine yV (by exact fB rfl rfl c3 (.cons (.row _ _ _) (.cons (.clo .nil (.cons (.ptr rfl (.cons (.row _ _ _) .nil)) .nil)) .nil)) rfl rfl) ?_;refine yV (dX rfl) (pW rfl (aV ?_)))|refine nZ ?_));all_goals first | (exfalso;omega) | exact rQ
end Go.Proofs.YtmmkhmilpeodnaaGreat
namespace Go.Ab
open Go
section
variable {P : Program} {env : dW} {h : Hp} {d : Option Nat} {ty : TypeId} {pos : String} {af : Array Edge} {g : Option (Nat × Bool)}
theorem xG {t t2 : TypeId} {x y : Operand} {a b : Int} (hx : evu env x = some (.i a)) (hy : evu env y = some (.i b)) (e : a ≤ b) : bX P ⟨d,.binOp .leq t x y t2,ty,pos,af,g⟩ env h 0 (fun _ => .b true) (fun _ => []) := by
  have := iO (P := P) (d := d) (ty := ty) (pos := pos) (af := af) (g := g) (h := h) (t := t) (t2 := t2) hx hy;simpa [e] using this
theorem PN {t t2 : TypeId} {x y : Operand} {a b : Int} (hx : evu env x = some (.i a)) (hy : evu env y = some (.i b)) (e : ¬ a ≤ b) : bX P ⟨d,.binOp .leq t x y t2,ty,pos,af,g⟩ env h 0 (fun _ => .b false) (fun _ => []) := by
  have := iO (P := P) (d := d) (ty := ty) (pos := pos) (af := af) (g := g) (h := h) (t := t) (t2 := t2) hx hy;simpa [e] using this
theorem YI {t t2 : TypeId} {x y : Operand} {a b c a' b' c' : Int} (ht : lL P t 3) (hx : evu env x = some (.agg [.i a,.i b,.i c])) (hy : evu env y = some (.agg [.i a',.i b',.i c'])) (e1 : a = a') (e2 : b = b') (e3 : c = c') :
    bX P ⟨d,.binOp .neq t x y t2,ty,pos,af,g⟩ env h 0 (fun _ => .b false) (fun _ => []) := by
  subst e1 e2 e3;have : bX P ⟨d,.binOp .neq t x y t2,ty,pos,af,g⟩ env h 0 (fun _ => .b (!decide ([a,b,c] = [a,b,c]))) (fun _ => []) := xE ht hx hy rfl rfl;simpa using this
end
end Go.Ab
namespace Go.Proofs.YtmmkhmilpeodnaaGreat
open Go Go.Ab
attribute [local irreducible] VC AW bX aR
set_option maxHeartbeats 4000000
theorem F9 (l : List Int) : AV.idfL (ints l).flatten = true := by
  induction l with
  | nil => rfl
  | cons x l ih => exact ih
theorem G9 (l : List BX) : AV.idfL (cW l).flatten = true := by
  induction l with
  | nil => rfl
  | cons x l ih => exact ih
end Go.Proofs.YtmmkhmilpeodnaaGreat
namespace Go.Proofs.YtmmkhmilpeodnaaGreat
open Go Go.Ab
attribute [local irreducible] VC AW bX aR
abbrev lF (f t : Int) : AV := .agg [.i f,.i t]
def zU (f t : Int) : Bool := decide (max f 0 < min t 20001)
def GG (f t : Int) : Int := if zU f t then max f 0 else 0
def cutT (f t : Int) : Int := if zU f t then min t 20001 else 0
theorem AZ (f t : Int) : (zU f t = true ∧ GG f t = max f 0 ∧ cutT f t = min t 20001 ∧ max f 0 < min t 20001) ∨ (zU f t = false ∧ GG f t = 0 ∧ cutT f t = 0 ∧ min t 20001 ≤ max f 0) := by
  by_cases h : max f 0 < min t 20001
  · left;simp [zU,GG,cutT,h]
  · right;simp only [zU,GG,cutT,h];simp;omega
theorem VK {a b c d : Int} {e e' : Bool} (h1 : a = c) (h2 : b = d) (h3 : e = e') : AV.tup [lF a b,.b e] = AV.tup [lF c d,.b e'] := by rw [h1,h2,h3]
theorem FC (f t : Int) : aR Tryz.prog 131 [lF f t] [] (.tup [lF (GG f t) (cutT f t),.b (zU f t)]) [] := by
  refine bO T Tryz.func131 rfl rfl rfl rfl ?_
  (repeat' (first|(first|(refine dA ?_)|(refine pD ?_)|(refine uJ ?_)|(refine qC ?_))|(first|(refine vV (by first|exact eI rfl|exact cE T rfl rfl rfl|exact aP T rfl rfl rfl rfl|exact jX rfl rfl|exact xF rfl rfl|exact AO rfl rfl|exact eU T rfl rfl rfl rfl) ?_)|(refine aU T rfl rfl rfl rfl rfl rfl (by decide) rfl ?_)|(refine fU ?_)|(refine bQ (by first|exact bT T rfl|exact cD rfl rfl) rfl ?_))|((refine sI rfl (fun hb=>?_) (fun hb=>?_)<;>(try simp only [nm] at hb)))));all_goals
    refine cX (.inl rfl) rfl ?_;rcases AZ f t with ⟨h1,h2,h3,h4⟩ | ⟨h1,h2,h3,h4⟩
    all_goals (first | (exfalso;omega) | (rw [h1,h2,h3];refine VK ?_ ?_ ?_ <;> first | rfl | omega))
def uZ (f t n : Int) : Bool := decide (f ≤ n) && decide (n < t)
theorem OJ (f t n : Int) : aR Tryz.prog 65 [lF f t,.i n] [] (.b (uZ f t n)) [] := by
  refine bO T Tryz.func65 rfl rfl rfl rfl ?_
  (repeat' (first|(first|(refine dA ?_)|(refine pD ?_)|(refine qC ?_))|(first|(refine vV (by first|exact cC rfl|exact eI rfl|exact cE T rfl rfl rfl|exact aP T rfl rfl rfl rfl|exact iQ rfl rfl|exact iE rfl rfl|exact aL rfl rfl|exact iO rfl rfl) ?_)|(refine fU ?_)|(refine CP rfl rfl ?_ rfl)|(refine CQ rfl rfl ?_ rfl)|(refine sS rfl rfl (fun hb=>?_) (fun hb=>?_) rfl<;>(rw [hb];(try simp only [nm] at hb)))|(refine bQ (cD rfl rfl) rfl ?_))));all_goals
    refine cX (.inl rfl) rfl (nC ?_);simp [uZ];try omega
theorem zI4 (a b c d : Int) : aR Tryz.prog 93 [lF a b,lF c d] [] (.tup [lF (GG (max a c) (min b d)) (cutT (max a c) (min b d)),.b (zU (max a c) (min b d))]) [] := by
  refine bO T Tryz.func93 rfl rfl rfl rfl ?_
  (repeat' (first|(first|(refine dA ?_)|(refine pD ?_)|(refine qC ?_))|(first|(refine vV (by first|exact eI rfl|exact cE T rfl rfl rfl|exact aP T rfl rfl rfl rfl|exact jY rfl rfl|exact xF rfl rfl|exact AO rfl rfl|exact eU T rfl rfl rfl rfl|exact eQ rfl rfl (FC _ _) rfl rfl rfl) ?_)|(refine aU T rfl rfl rfl rfl rfl rfl (by decide) rfl ?_)|(refine fU ?_)|(refine bQ (by first|exact bT T rfl|exact cD rfl rfl) rfl ?_))));refine rQ
theorem zR9 (a b c d : Int) : aR Tryz.prog 59 [lF a b,lF c d] [] (lF (min a c) (max b d)) [] := by
  refine bO T Tryz.func59 rfl rfl rfl rfl ?_
  (repeat' (first|(first|(refine dA ?_)|(refine pD ?_)|(refine qC ?_))|(first|(refine vV (by first|exact cE T rfl rfl rfl|exact aP T rfl rfl rfl rfl|exact xF rfl rfl|exact AO rfl rfl|exact eU T rfl rfl rfl rfl) ?_)|(refine aU T rfl rfl rfl rfl rfl rfl (by decide) rfl ?_)|(refine fU ?_)|(refine bQ (by first|exact bT T rfl|exact cD rfl rfl) rfl ?_))));refine rQ
theorem zF5 : aR Tryz.prog 130 [] [] (lF 0 20001) [] := by
  refine bO T Tryz.func130 rfl rfl rfl rfl ?_
  (repeat' (first|(first|(refine dA ?_)|(refine pD ?_)|(refine qC ?_))|(first|(refine vV (by exact eU T rfl rfl rfl rfl) ?_)|(refine aU T rfl rfl rfl rfl rfl rfl (by decide) rfl ?_)|(refine fU ?_)|(refine bQ (bT T rfl) rfl ?_))));refine rQ
def vZ (l : List Int) : Bool := l.all fun n => decide (0 ≤ n) && decide (n ≤ 1099511627776)
theorem MQ (l : List Int) (k : Nat) (h : k < l.length) : vZ (l.drop k) = (decide (0 ≤ l[k]) && decide (l[k] ≤ 1099511627776) && vZ (l.drop (k + 1))) := by
  rw [aX h];rfl
theorem J0 (l : List Int) (hm : l.length ≤ 1000) : aR Tryz.prog 129 [.rowE (ints l) 1] [] (.b (vZ l)) [] := by
  refine bO T Tryz.func129 rfl rfl rfl rfl ?_
  (repeat' (first|(first|(refine dA ?_)|(refine pD ?_)|(refine wH ?_))|(first|(refine vV (by first|exact cC rfl|exact eI rfl|exact gD T rfl rfl) ?_)|(refine fU ?_))));refine cN (X := {k : Nat // k ≤ (ints l).length ∧ vZ l = vZ (l.drop k)}) (fun k => [(5,.rowE (ints l) 1),(6,.i (ints l).length),(7,.i k.1)]) (fun _ => []) (fun k => (ints l).length - k.1) ⟨0,by simp,rfl⟩ (eA []) ?_
  rintro ⟨k,hk,hf⟩;dsimp only;have hlen : (ints l).length = l.length := by simp
  repeat' (first|(first|(refine dA ?_)|(refine pD ?_)|(refine wH ?_)|(refine uJ ?_)|(refine qC ?_)|(refine PZ ?_))|(first|(refine vV (by first|exact eI rfl|exact aL rfl rfl) ?_)|(refine fU ?_))|((refine sI rfl (fun hb=>?_) (fun hb=>?_)<;>(try simp only [nm] at hb))))
  · have hlt : k < l.length := by omega
    have hs := MQ l k hlt;refine yQ (K3 T rfl rfl rfl rfl rfl (by omega) (ints_len l) (nA hlt)) rfl ?_
    (repeat' (first|(first|(refine dA ?_)|(refine pD ?_)|(refine uJ ?_)|(refine qC ?_))|(first|(refine vV (by first|exact cC rfl|exact eI rfl|exact aP T rfl rfl rfl rfl|exact iQ rfl rfl|exact iE rfl rfl|exact bV rfl rfl (by omega) (by omega)|exact aL rfl rfl|exact fM rfl rfl) ?_)|(refine fU ?_)|(refine CP rfl rfl ?_ rfl)|(refine CQ rfl rfl ?_ rfl)|(refine sS rfl rfl (fun hb=>?_) (fun hb=>?_) rfl<;>(rw [hb];(try simp only [nm] at hb))))|(first|(refine wT ?_)|(refine sI rfl (fun hb=>?_) (fun hb=>?_)<;>(try simp only [nm] at hb)))));all_goals first
      | (refine cX (.inl rfl) rfl (nC ?_);rw [hf,hs];simp;omega)
      | (refine ⟨⟨k + 1,by omega,?_⟩,by simp;omega,eA []⟩;rw [hf,hs];simp;omega)
  · refine cX (.inl rfl) rfl (nC ?_);rw [hf,cY (by omega)];rfl
theorem YP {a b : Int} (h : 0 ≤ a ∧ a ≤ 1099511627776 ∧ 0 ≤ b ∧ b ≤ 1099511627776) : vZ [a,b] = true := by simp [vZ];omega
theorem YR {a b : Int} (h : ¬ (0 ≤ a ∧ a ≤ 1099511627776 ∧ 0 ≤ b ∧ b ≤ 1099511627776)) : vZ [a,b] = false := by
  rw [← eN];simp [vZ];omega
theorem YO {a b c d : Int} (h : 0 ≤ a ∧ a ≤ 1099511627776 ∧ 0 ≤ b ∧ b ≤ 1099511627776 ∧ 0 ≤ c ∧ c ≤ 1099511627776 ∧ 0 ≤ d ∧ d ≤ 1099511627776) : vZ [a,b,c,d] = true := by simp [vZ];omega
theorem YQ {a b c d : Int} (h : ¬ (0 ≤ a ∧ a ≤ 1099511627776 ∧ 0 ≤ b ∧ b ≤ 1099511627776 ∧ 0 ≤ c ∧ c ≤ 1099511627776 ∧ 0 ≤ d ∧ d ≤ 1099511627776)) : vZ [a,b,c,d] = false := by
  rw [← eN];simp [vZ];omega
theorem zJ9 {a b : Int} (h : 0 ≤ a ∧ a ≤ 1099511627776 ∧ 0 ≤ b ∧ b ≤ 1099511627776) : aR Tryz.prog 129 [.rowE (ints [a,b]) 1] [] (.b true) [] := YP h ▸ J0 [a,b] (by simp)
theorem zK1 {a b : Int} (h : ¬ (0 ≤ a ∧ a ≤ 1099511627776 ∧ 0 ≤ b ∧ b ≤ 1099511627776)) : aR Tryz.prog 129 [.rowE (ints [a,b]) 1] [] (.b false) [] := YR h ▸ J0 [a,b] (by simp)
theorem FZ {a b c d : Int} (h : 0 ≤ a ∧ a ≤ 1099511627776 ∧ 0 ≤ b ∧ b ≤ 1099511627776 ∧ 0 ≤ c ∧ c ≤ 1099511627776 ∧ 0 ≤ d ∧ d ≤ 1099511627776) : aR Tryz.prog 129 [.rowE (ints [a,b,c,d]) 1] [] (.b true) [] := YO h ▸ J0 [a,b,c,d] (by simp)
theorem zK0 {a b c d : Int} (h : ¬ (0 ≤ a ∧ a ≤ 1099511627776 ∧ 0 ≤ b ∧ b ≤ 1099511627776 ∧ 0 ≤ c ∧ c ≤ 1099511627776 ∧ 0 ≤ d ∧ d ≤ 1099511627776)) : aR Tryz.prog 129 [.rowE (ints [a,b,c,d]) 1] [] (.b false) [] := YQ h ▸ J0 [a,b,c,d] (by simp)
theorem RX (f t n s : Int) (hf : 0 ≤ f ∧ f ≤ 20001 ∧ 0 ≤ t ∧ t ≤ 20001) (h : 0 ≤ n ∧ n ≤ 1099511627776 ∧ 0 ≤ s ∧ s ≤ 1099511627776) : aR Tryz.prog 94 [lF f t,.i n,.i s] [] (.tup [lF (GG (f - n - s) (t - max (n - s) 0)) (cutT (f - n - s) (t - max (n - s) 0)),.b (zU (f - n - s) (t - max (n - s) 0))]) [] := by
  refine bO T Tryz.func94 rfl rfl rfl rfl ?_
  (repeat' (first|(first|(refine dA ?_)|(refine pD ?_)|(refine uJ ?_)|(refine qC ?_))|(first|(refine vV (by first|exact cC rfl|exact eI rfl|exact cE T rfl rfl rfl|exact aP T rfl rfl rfl rfl|exact cP rfl rfl (by omega) (by omega)|exact dX rfl|exact jY rfl rfl|exact xF rfl rfl|exact eU T rfl rfl rfl rfl|exact eQ rfl rfl (FC _ _) rfl rfl rfl|exact fB rfl rfl (zJ9 h) (by ((repeat (first|exact .nil|exact .v _|refine .cons ?_ ?_|refine .sl rfl (by simp) ?_));done)) rfl rfl) ?_)|(refine aU T rfl rfl rfl rfl rfl rfl (by decide) rfl ?_)|(refine fU ?_)|(refine bQ (by first|exact bT T rfl|exact cD rfl rfl|exact bC T rfl rfl (by decide) (by decide) rfl rfl rfl) rfl ?_))|((refine wU ?_))));exact rQ
theorem MA (f t n s : Int) (h : ¬ (0 ≤ n ∧ n ≤ 1099511627776 ∧ 0 ≤ s ∧ s ≤ 1099511627776)) : aR Tryz.prog 94 [lF f t,.i n,.i s] [] (.tup [lF 0 0,.b false]) [] := by
  refine bO T Tryz.func94 rfl rfl rfl rfl ?_
  (repeat' (first|(first|(refine dA ?_)|(refine pD ?_)|(refine qC ?_))|(first|(refine vV (by first|exact cC rfl|exact eI rfl|exact dX rfl|exact eU T rfl rfl rfl rfl|exact fB rfl rfl (zK1 h) (by ((repeat (first|exact .nil|exact .v _|refine .cons ?_ ?_|refine .sl rfl (by simp) ?_));done)) rfl rfl) ?_)|(refine aU T rfl rfl rfl rfl rfl rfl (by decide) rfl ?_)|(refine fU ?_)|(refine bQ (by first|exact bT T rfl|exact cD rfl rfl|exact bC T rfl rfl (by decide) (by decide) rfl rfl rfl) rfl ?_))|((refine wT ?_))));exact rQ
def GA (a b c d : Int) : Prop := 0 ≤ a ∧ a ≤ 1099511627776 ∧ 0 ≤ b ∧ b ≤ 1099511627776 ∧ 0 ≤ c ∧ c ≤ 1099511627776 ∧ 0 ≤ d ∧ d ≤ 1099511627776
theorem LN (t u w e : Int) (h : ¬ GA t u w e) : aR Tryz.prog 92 [.i t,.i u,.i w,.i e] [] (.tup [lF 0 0,.b false]) [] := by
  refine bO T Tryz.func92 rfl rfl rfl rfl ?_
  (repeat' (first|(first|(refine dA ?_)|(refine pD ?_)|(refine qC ?_))|(first|(refine vV (by first|exact cC rfl|exact eI rfl|exact dX rfl|exact eU T rfl rfl rfl rfl|exact fB rfl rfl (zK0 h) (by ((repeat (first|exact .nil|exact .v _|refine .cons ?_ ?_|refine .sl rfl (by simp) ?_));done)) rfl rfl) ?_)|(refine aU T rfl rfl rfl rfl rfl rfl (by decide) rfl ?_)|(refine fU ?_)|(refine bQ (by first|exact bT T rfl|exact bC T rfl rfl (by decide) (by decide) rfl rfl rfl) rfl ?_))|((refine wT ?_))));exact rQ
theorem HF (t u w e : Int) (h : GA t u w e) (h1 : w + e - t < 0 ∨ u = 0 ∧ 0 < w - e - t) : aR Tryz.prog 92 [.i t,.i u,.i w,.i e] [] (.tup [lF 0 0,.b false]) [] := by
  have h' := h;unfold GA at h';refine bO T Tryz.func92 rfl rfl rfl rfl ?_
  (repeat' (first|(first|(refine dA ?_)|(refine pD ?_)|(refine wH ?_)|(refine uJ ?_)|(refine qC ?_))|(first|(refine vV (by first|exact cC rfl|exact eI rfl|exact iQ rfl rfl|exact iE rfl rfl|exact bV rfl rfl (by omega) (by omega)|exact cP rfl rfl (by omega) (by omega)|exact aL rfl rfl|exact fM rfl rfl|exact dR rfl rfl|exact dX rfl|exact eU T rfl rfl rfl rfl|exact fB rfl rfl (FZ h) (by ((repeat (first|exact .nil|exact .v _|refine .cons ?_ ?_|refine .sl rfl (by simp) ?_));done)) rfl rfl) ?_)|(refine aU T rfl rfl rfl rfl rfl rfl (by decide) rfl ?_)|(refine fU ?_)|(refine CP rfl rfl ?_ rfl)|(refine CQ rfl rfl ?_ rfl)|(refine NS rfl rfl ?_ rfl)|(refine sS rfl rfl (fun hb=>?_) (fun hb=>?_) rfl<;>(rw [hb];(try simp only [nm] at hb)))|(refine bQ (by first|exact bT T rfl|exact bC T rfl rfl (by decide) (by decide) rfl rfl rfl) rfl ?_))|(first|(refine wT ?_)|(refine wU ?_)|(refine sI rfl (fun hb=>?_) (fun hb=>?_)<;>(try simp only [nm] at hb)))));all_goals first | (exfalso;omega) | exact rQ | skip
theorem HG (t u w e : Int) (h : GA t u w e) (h1 : 0 ≤ w + e - t) (h2 : u = 0) (h3 : w - e - t ≤ 0) : aR Tryz.prog 92 [.i t,.i u,.i w,.i e] [] (.tup [lF 0 20001,.b true]) [] := by
  have h' := h;unfold GA at h';refine bO T Tryz.func92 rfl rfl rfl rfl ?_
  (repeat' (first|(first|(refine dA ?_)|(refine pD ?_)|(refine wH ?_)|(refine uJ ?_)|(refine qC ?_))|(first|(refine vV (by first|exact cC rfl|exact eI rfl|exact iQ rfl rfl|exact iE rfl rfl|exact bV rfl rfl (by omega) (by omega)|exact cP rfl rfl (by omega) (by omega)|exact aL rfl rfl|exact fM rfl rfl|exact dR rfl rfl|exact dX rfl|exact eU T rfl rfl rfl rfl|exact fB rfl rfl (FZ h) (by ((repeat (first|exact .nil|exact .v _|refine .cons ?_ ?_|refine .sl rfl (by simp) ?_));done)) rfl rfl|exact kC (zF5)) ?_)|(refine aU T rfl rfl rfl rfl rfl rfl (by decide) rfl ?_)|(refine fU ?_)|(refine CP rfl rfl ?_ rfl)|(refine CQ rfl rfl ?_ rfl)|(refine NS rfl rfl ?_ rfl)|(refine sS rfl rfl (fun hb=>?_) (fun hb=>?_) rfl<;>(rw [hb];(try simp only [nm] at hb)))|(refine bQ (by first|exact bT T rfl|exact bC T rfl rfl (by decide) (by decide) rfl rfl rfl) rfl ?_))|(first|(refine wT ?_)|(refine wU ?_)|(refine sI rfl (fun hb=>?_) (fun hb=>?_)<;>(try simp only [nm] at hb)))));all_goals first | exact rQ | (exfalso;omega)
def zV8 (t u w e : Int) : Int := (max (w - e - t) 0 + u - 1) / u
def zV7 (t u w e : Int) : Int := (w + e - t) / u + 1
set_option maxHeartbeats 1000000 in
theorem LO (t u w e : Int) (h : GA t u w e) (h1 : 0 ≤ w + e - t) (h2 : 0 < u) : aR Tryz.prog 92 [.i t,.i u,.i w,.i e] [] (.tup [lF (GG (zV8 t u w e) (zV7 t u w e)) (cutT (zV8 t u w e) (zV7 t u w e)),.b (zU (zV8 t u w e) (zV7 t u w e))]) [] := by
  have h' := h;unfold GA at h';have q1 := Int.ediv_nonneg h1 (Int.le_of_lt h2);have q2 := Int.ediv_le_self u h1;refine bO T Tryz.func92 rfl rfl rfl rfl ?_
  (repeat' (first|(first|(refine dA ?_)|(refine pD ?_)|(refine wH ?_)|(refine uJ ?_)|(refine qC ?_))|(first|(refine vV (by first|exact cC rfl|exact eI rfl|exact iQ rfl rfl|exact iE rfl rfl|exact bV rfl rfl (by omega) (by omega)|exact cP rfl rfl (by omega) (by omega)|exact aL rfl rfl|exact fM rfl rfl|exact dR rfl rfl|exact dX rfl|exact eU T rfl rfl rfl rfl|exact fB rfl rfl (FZ h) (by ((repeat (first|exact .nil|exact .v _|refine .cons ?_ ?_|refine .sl rfl (by simp) ?_));done)) rfl rfl) ?_)|(refine aU T rfl rfl rfl rfl rfl rfl (by decide) rfl ?_)|(refine fU ?_)|(refine CP rfl rfl ?_ rfl)|(refine CQ rfl rfl ?_ rfl)|(refine NS rfl rfl ?_ rfl)|(refine sS rfl rfl (fun hb=>?_) (fun hb=>?_) rfl<;>(rw [hb];(try simp only [nm] at hb)))|(refine bQ (by first|exact bT T rfl|exact bC T rfl rfl (by decide) (by decide) rfl rfl rfl) rfl ?_))|(first|(refine dV rfl (by first|exact cC rfl|exact bV rfl rfl (by omega) (by omega)|exact cP rfl rfl (by omega) (by omega)|exact zI7 rfl rfl (by omega) (by omega) (by omega)|exact jY rfl rfl|exact xF rfl rfl|exact eU T rfl rfl rfl rfl|exact eQ rfl rfl (FC _ _) rfl rfl rfl) ?_)|(refine P7 rfl rfl (by (dsimp only [List.nil_append,List.cons_append,lA,List.append_nil];done)) ?_))|(refine KP (id := 8) [[],[0],[],[0,1,2],rN 4,[],rN 6,[],[],[7,8],[7,8,9],rN 11,rN 12,rN 13,rN 13] (rM 46 15) [[],[],[46,47],[],[],rM 46 5,[],rM 46 7,rM 46 8,rM 46 7,rM 46 7,[],[],[],[59]] cJ (by decide +kernel) ?_)|(first|(refine wT ?_)|(refine wU ?_)|(refine sI rfl (fun hb=>?_) (fun hb=>?_)<;>(try simp only [nm] at hb)))));all_goals first | (exfalso;omega) | exact rQ
end Go.Proofs.YtmmkhmilpeodnaaGreat
namespace Go.Ld
open Go.Ab Go.Proofs.YtmmkhmilpeodnaaGreat
abbrev SP := Int × Int
abbrev W := List Int × Int × List SP
abbrev G := List Int × List W
abbrev fA (l : List SP) : List (List AV) := l.map fun p => [AV.i p.1,AV.i p.2]
abbrev wA (w : W) : List AV := [.rowE (Go.Proofs.YtmmkhmilpeodnaaGreat.ints w.1) 1,.i w.2.1,.rowE (fA w.2.2) 2]
abbrev fQ (l : List W) : List (List AV) := l.map wA
abbrev gA (g : G) : List AV := [.rowE (Go.Proofs.YtmmkhmilpeodnaaGreat.ints g.1) 1,.rowE (fQ g.2) 3]
abbrev jW (l : List G) : List (List AV) := l.map gA
def cI (a b : Int) : Int := if a < b then -1 else if b < a then 1 else 0
def Q9 (a b : Int) : Int := if a = 0 then b else a
def cL : List Int → List Int → Int
  | [],[] => 0
  | [],_ :: _ => -1
  | _ :: _,[] => 1
  | x :: a,y :: b => Q9 (cI x y) (cL a b)
def cS (x y : SP) : Int := Q9 (cI x.1 y.1) (cI x.2 y.2)
def cB : List SP → List SP → Int
  | [],[] => 0
  | [],_ :: _ => -1
  | _ :: _,[] => 1
  | x :: a,y :: b => Q9 (cS x y) (cB a b)
def oR (a b : W) : Int := Q9 (cL a.1 b.1) (cB a.2.2 b.2.2)
def eM (a b : W) : Int := Q9 (oR a b) (cI a.2.1 b.2.1)
structure EP {α : Type} (c : α → α → Int) : Prop where
  eq : ∀ a b,c a b = 0 ↔ a = b
  neg : ∀ a b,c a b = - c b a
  tr : ∀ a b d,c a b < 0 → c b d < 0 → c a d < 0
theorem EP.rfl' {α : Type} {c : α → α → Int} (h : EP c) (a : α) : c a a = 0 := (h.eq a a).2 rfl
theorem EP.le_tr {α : Type} {c : α → α → Int} (h : EP c) {a b d : α} (h1 : c a b ≤ 0) (h2 : c b d ≤ 0) : c a d ≤ 0 := by
  by_cases e : c a b = 0
  · rw [(h.eq _ _).1 e];exact h2
  · by_cases e' : c b d = 0
    · rw [← (h.eq _ _).1 e'];exact h1
    · have := h.tr a b d (by omega) (by omega);omega
theorem qA : EP cI where
  eq a b := by unfold cI;split <;> (try split) <;> omega
  neg a b := by unfold cI;split <;> split <;> (try split) <;> omega
  tr a b d := by unfold cI; repeat' split
                 all_goals omega
theorem FH {a b : Int} : Q9 a b = 0 ↔ a = 0 ∧ b = 0 := by unfold Q9;split <;> omega
theorem FG {a b : Int} : Q9 (-a) (-b) = - Q9 a b := by unfold Q9;split <;> split <;> omega
theorem MG {a b : Int} : Q9 a b < 0 ↔ a < 0 ∨ a = 0 ∧ b < 0 := by unfold Q9;split <;> omega
theorem EP.lex {α β γ : Type} {c : α → α → Int} {d : β → β → Int} (hc : EP c) (hd : EP d) (f : γ → α) (g : γ → β) (inj : ∀ x y, f x = f y → g x = g y → x = y) : EP fun x y => Q9 (c (f x) (f y)) (d (g x) (g y)) where
  eq a b := by
    rw [FH,hc.eq,hd.eq];exact ⟨fun h => inj _ _ h.1 h.2,fun h => by rw [h];exact ⟨rfl,rfl⟩⟩
  neg a b := by rw [hc.neg,hd.neg,FG]
  tr a b e h1 h2 := by
    simp only [MG] at *;rcases h1 with h1 | ⟨h1,h1'⟩
    · rcases h2 with h2 | ⟨h2,h2'⟩
      · exact .inl (hc.tr _ _ _ h1 h2)
      · rw [(hc.eq _ _).1 h2] at h1;exact .inl h1
    · rw [(hc.eq _ _).1 h1];rcases h2 with h2 | ⟨h2,h2'⟩
      · exact .inl h2
      · exact .inr ⟨h2,hd.tr _ _ _ h1' h2'⟩
theorem ZH : EP cL where
  eq := fun a => by
    induction a with
    | nil => intro b;cases b <;> simp [cL]
    | cons x a ih => intro b; cases b with
      | nil => simp [cL]
      | cons y b => simp only [cL,FH,qA.eq,ih,List.cons.injEq]
  neg := fun a => by
    induction a with
    | nil => intro b;cases b <;> simp [cL]
    | cons x a ih => intro b; cases b with
      | nil => simp [cL]
      | cons y b => simp only [cL];rw [qA.neg,ih,FG]
  tr := fun a => by
    induction a with
    | nil => intro b d;cases b <;> cases d <;> simp [cL]
    | cons x a ih =>
      intro b d h1 h2;cases b with
      | nil => simp [cL] at h1
      | cons y b => cases d with
        | nil => simp [cL] at h2
        | cons z d =>
          simp only [cL,MG] at *;rcases h1 with h1 | ⟨h1,h1'⟩
          · rcases h2 with h2 | ⟨h2,h2'⟩
            · exact .inl (qA.tr _ _ _ h1 h2)
            · rw [(qA.eq _ _).1 h2] at h1;exact .inl h1
          · rw [(qA.eq _ _).1 h1];rcases h2 with h2 | ⟨h2,h2'⟩
            · exact .inl h2
            · exact .inr ⟨h2,ih _ _ h1' h2'⟩
theorem BC : EP cS := EP.lex qA qA (·.1) (·.2) fun x y h1 h2 => Prod.ext h1 h2
theorem ZI : EP cB where
  eq := fun a => by
    induction a with
    | nil => intro b;cases b <;> simp [cB]
    | cons x a ih => intro b; cases b with
      | nil => simp [cB]
      | cons y b => simp only [cB,FH,BC.eq,ih,List.cons.injEq]
  neg := fun a => by
    induction a with
    | nil => intro b;cases b <;> simp [cB]
    | cons x a ih => intro b; cases b with
      | nil => simp [cB]
      | cons y b => simp only [cB];rw [BC.neg,ih,FG]
  tr := fun a => by
    induction a with
    | nil => intro b d;cases b <;> cases d <;> simp [cB]
    | cons x a ih =>
      intro b d h1 h2;cases b with
      | nil => simp [cB] at h1
      | cons y b => cases d with
        | nil => simp [cB] at h2
        | cons z d =>
          simp only [cB,MG] at *;rcases h1 with h1 | ⟨h1,h1'⟩
          · rcases h2 with h2 | ⟨h2,h2'⟩
            · exact .inl (BC.tr _ _ _ h1 h2)
            · rw [(BC.eq _ _).1 h2] at h1;exact .inl h1
          · rw [(BC.eq _ _).1 h1];rcases h2 with h2 | ⟨h2,h2'⟩
            · exact .inl h2
            · exact .inr ⟨h2,ih _ _ h1' h2'⟩
theorem IS : EP (fun x y : List Int × List SP => Q9 (cL x.1 y.1) (cB x.2 y.2)) := EP.lex ZH ZI (·.1) (·.2) fun x y h1 h2 => Prod.ext h1 h2
theorem jH : EP eM := EP.lex IS qA (fun w : W => (w.1,w.2.2)) (fun w => w.2.1) fun x y h1 h2 => by
  obtain ⟨a,b,c⟩ := x;obtain ⟨a',b',c'⟩ := y;simp at h1 h2;obtain ⟨h1,h3⟩ := h1;rw [h1,h2,h3]
theorem oX {a b : W} : oR a b = 0 ↔ a.1 = b.1 ∧ a.2.2 = b.2.2 := by unfold oR;rw [FH,ZH.eq,ZI.eq]
def CB {α : Type} (c : α → α → Int) (w : α) : List α → List α
  | [] => [w]
  | x :: l => if c w x ≤ 0 then w :: x :: l else x :: CB c w l
def dY {α : Type} (c : α → α → Int) : List α → List α
  | [] => []
  | x :: l => CB c x (dY c l)
theorem C3 {α : Type} (c : α → α → Int) (w : α) : ∀ l, (CB c w l).Perm (w :: l)
  | [] => .refl _
  | x :: l => by
    unfold CB;split
    · exact .refl _
    · exact ((C3 c w l).cons x).trans (.swap _ _ _)
theorem dD {α : Type} (c : α → α → Int) : ∀ l, (dY c l).Perm l
  | [] => .refl _
  | x :: l => (C3 c x _).trans ((dD c l).cons x)
theorem PH {α : Type} {c : α → α → Int} (h : EP c) (w : α) : ∀ {l : List α}, l.Pairwise (fun a b => c a b ≤ 0) → (CB c w l).Pairwise (fun a b => c a b ≤ 0)
  | [],_ => lZ _ _
  | x :: l,hl => by
    rw [eR] at hl;unfold CB;split
    · rename_i hw;rw [eR,eR];refine ⟨fun y hy => ?_,hl⟩
      rcases bR.1 hy with rfl | hy
      · exact hw
      · exact h.le_tr hw (hl.1 y hy)
    · rename_i hw;rw [eR];refine ⟨fun y hy => ?_,PH h w hl.2⟩
      rcases bR.1 ((C3 c w l).mem_iff.1 hy) with rfl | hy
      · have := h.neg x y;omega
      · exact hl.1 y hy
theorem lM {α : Type} {c : α → α → Int} (h : EP c) : ∀ l, (dY c l).Pairwise (fun a b => c a b ≤ 0)
  | [] => .nil
  | x :: l => PH h x (lM h l)
theorem F8 {α : Type} {c : α → α → Int} (h : EP c) {l m : List α} (hp : m.Perm l) (hm : m.Pairwise (fun a b => c a b ≤ 0)) : m = dY c l :=
  List.Perm.eq_of_pairwise (le := fun a b => c a b ≤ 0) (fun a b _ _ h1 h2 => (h.eq a b).1 (by have := h.neg a b;omega)) hm (lM h l) (hp.trans (dD c l).symm)
def kO {α : Type} (e : α → α → Bool) (p : α) : List α → List α
  | [] => []
  | y :: l => if e y p then kO e y l else y :: kO e y l
def zV {α : Type} (e : α → α → Bool) : List α → List α
  | [] => []
  | x :: l => x :: kO e x l
def F2 (a b : W) : Bool := decide (oR a b = 0)
def fY (l : List W) : List W := zV F2 (dY eM l)
structure Cx where
  m : Int
  st : Int
  er : Int
  sl : Int
  ks : List KD
  ls : List LT
  bs : List BX
structure Ev where
  k : Int
  a : Int
  b : Int
  n : Int
  ids : List Int
def gP (w : W) (i : Nat) : Int := w.1.getD i 0
def gC (w : W) (i : Nat) : SP := w.2.2.getD i (0,0)
def sC (w : W) (i : Nat) (r : SP) : W := (w.1,w.2.1,w.2.2.set i r)
def L0 (f t : Int) : SP × Bool := ((GG f t,cutT f t),zU f t)
def EA (a b c d : Int) : Bool := decide (0 ≤ a ∧ a ≤ 1099511627776 ∧ 0 ≤ b ∧ b ≤ 1099511627776 ∧ 0 ≤ c ∧ c ≤ 1099511627776 ∧ 0 ≤ d ∧ d ≤ 1099511627776)
def UM (t u w e : Int) : SP × Bool := if EA t u w e = true then (if w + e - t < 0 ∨ u = 0 ∧ 0 < w - e - t then ((0,0),false) else if u = 0 then ((0,20001),true) else L0 (zV8 t u w e) (zV7 t u w e)) else ((0,0),false)
def uP (t u w e : Int) (r : SP) : SP × Bool := let q := UM t u w e;if q.2 then L0 (max r.1 q.1.1) (min r.2 q.1.2) else q
def zD (r : SP) (n s : Int) : SP × Bool := if 0 ≤ n ∧ n ≤ 1099511627776 ∧ 0 ≤ s ∧ s ≤ 1099511627776 then L0 (r.1 - n - s) (r.2 - max (n - s) 0) else ((0,0),false)
def kG (c : Cx) (w : W) (i : Nat) (s : Ev) : W × Bool :=
  if s.k = 0 then (if gP w i ∈ s.ids then (w,decide ((s.ids.length : Int) - 1 ≤ c.st)) else ((w.1,w.2.1 + 1,w.2.2),decide ((s.ids.length : Int) ≤ c.st)))
  else if s.k = 1 then
    let b := c.bs.getD (gP w i).toNat (0,0,0)
    let q := uP b.2.2 (nJ c.ks c.ls b.1) s.n c.er (gC w i)
    (sC w i q.1,q.2)
  else if s.k = 2 then let q := zD (gC w i) s.n c.sl;(sC w i q.1,q.2)
  else if s.k = 3 then (sC w i (s.n,s.n + 1),uZ (gC w i).1 (gC w i).2 s.n)
  else if s.k = 5 then (w,decide (gP w i = s.n))
  else (w,true)
def oV (w : W) (i k : Nat) : W := ((w.1.set i (gP w k)).set k (gP w i),w.2.1,(w.2.2.set i (gC w k)).set k (gC w i))
def pZ (l : List G) (b : Int) : Int := match l.findIdx? fun g => decide (b ∈ g.1) with
  | some i => i
  | none => -1
def E9 (a b : G) (x y : W) (l : List Int) : W := (l.map (fun k => if k ∈ a.1 then gP x (a.1.idxOf k) else gP y (b.1.idxOf k)),x.2.1 + y.2.1,l.map (fun k => if k ∈ a.1 then gC x (a.1.idxOf k) else gC y (b.1.idxOf k)))
def pA (a b : G) (l : List Int) : List W := a.2.flatMap fun x => b.2.map fun y => E9 a b x y l
def lB (l : List G) (i : Nat) : G := l.getD i ([],[])
def mP (x y : G) : G := let bodies := dY cI (x.1 ++ y.1);(bodies,pA x y bodies)
def join (l : List G) (a b : Int) : Option (List G) :=
  let i := pZ l a;let k := pZ l b
  if i = k then some l else
  let x := lB l i.toNat;let y := lB l k.toNat
  if 6 < x.1.length + y.1.length ∨ 1000 < x.2.length * y.2.length then none else
  some ((l.set (min i k).toNat (mP x y)).eraseIdx (max i k).toNat)
def fX (g : G) : Int := match g.2 with
  | [] => 0
  | w :: l => l.foldl (fun m x => if x.2.1 < m then x.2.1 else m) w.2.1
def yZ (g : G) (i : Nat) : Bool := match g.2 with
  | [] => false
  | f :: l => (f :: l).all fun w => decide (gP w i = gP f i ∧ gC w i = gC f i)
def iD (g : G) : Option Nat := if g.1.length < 2 ∨ g.2 = [] then none else (List.range g.1.length).find? (yZ g)
def iG (g : G) : W := g.2.headD ([],0,[])
def nE (g : G) (k : Nat) : G := ([g.1.getD k 0],[([gP (iG g) k],0,[gC (iG g) k])])
def jN (g : G) (k : Nat) : G := (g.1.eraseIdx k,fY (g.2.map fun w => (w.1.eraseIdx k,w.2.1,w.2.2.eraseIdx k)))
def lN : Nat → G → List G
  | 0,g => [g]
  | n + 1, g => match iD g with
    | none => [g]
    | some k => nE g k :: lN n (jN g k)
def cG (a b : G) : Int := cI (a.1.headD 0) (b.1.headD 0)
def qM (l : List G) : List G := dY cG (l.flatMap fun g => lN g.1.length g)
def jT (l : List G) : Int := (l.map fX).sum
def paid (c : Cx) (all : List G) : List G := all.map fun g => (g.1,g.2.filter fun w => decide (w.2.1 + (jT all - fX g) ≤ c.m))
def uV (c : Cx) (all : List G) : List G := qM (paid c all)
def mF (c : Cx) (s : Ev) (g : G) : List W :=
  let i := g.1.idxOf s.a
  g.2.flatMap fun w => (if (kG c w i s).2 then [(kG c w i s).1] else []) ++ (if s.k = 4 then [oV w i (g.1.idxOf s.b)] else [])
def zM6 (l : List Int) (n : Int) : Bool := (List.range l.length).all fun i => decide (0 ≤ l.getD i 0 ∧ l.getD i 0 ≤ n - 1 ∧ (0 < i → l.getD (i - 1) 0 < l.getD i 0))
def iV (n : Int) (s : Ev) : Bool := decide (0 ≤ s.a ∧ s.a ≤ n - 1) && decide (s.k = 0 ∨ s.ids.length = 0) && decide (s.k = 4 ∨ s.b = 0) &&
  (if s.k = 0 then decide (s.n = 0) && zM6 s.ids n else if s.k = 1 ∨ s.k = 2 ∨ s.k = 3 then decide (0 ≤ s.n ∧ s.n ≤ 1099511627776) else if s.k = 4 then decide (s.n = 0 ∧ s.a + 1 ≤ s.b ∧ s.b ≤ n - 1) else if s.k = 5 then decide (0 ≤ s.n ∧ s.n ≤ n - 1) else false)
def rF (c : Cx) (l all : List G) (s : Ev) : Int × List G :=
  let at_ := (pZ all s.a).toNat
  let g := lB all at_
  let ws := fY (mF c s g)
  if ws = [] then (26,l) else if 1000 < ws.length then (6,l) else
  let out := uV c (all.set at_ (g.1,ws))
  if out.any (fun g => g.2.isEmpty) then (26,l) else (0,out)
def kU (c : Cx) (l : List G) (s : Ev) : Int × List G :=
  if iV c.bs.length s then
    (if s.k = 4 then (match join l s.a s.b with
      | none => (6,l)
      | some all => rF c l all s)
    else rF c l l s)
  else (1,l)
def qT (c : Cx) : List G := (List.range c.bs.length).map fun (i : Nat) => ([(i : Int)],[([(i : Int)],0,[((c.bs.getD i (0,0,0)).2.1,(c.bs.getD i (0,0,0)).2.1 + 1)])])
theorem zG6 {a b d : W} (h1 : oR a b < 0) (h2 : oR b d < 0) : oR a d < 0 := IS.tr (a.1,a.2.2) (b.1,b.2.2) (d.1,d.2.2) h1 h2
theorem ME {a b d : W} (h : oR b a = 0) : oR a d = oR b d := by
  obtain ⟨h1,h2⟩ := oX.1 h;unfold oR;rw [h1,h2]
theorem PV {a b : W} (h : eM a b ≤ 0) : oR a b < 0 ∨ oR a b = 0 ∧ a.2.1 ≤ b.2.1 := by
  unfold eM Q9 at h;split at h
  · rename_i e;refine .inr ⟨e,?_⟩;unfold cI at h;split at h <;> (try split at h) <;> omega
  · omega
theorem xN {α : Type} (e : α → α → Bool) : ∀ (p : α) (l : List α), (kO e p l).Sublist l
  | _,[] => .slnil
  | p,y :: l => by
    unfold kO;split
    · exact (xN e y l).cons _
    · exact (xN e y l).cons_cons _
theorem EE {α : Type} (e : α → α → Bool) : ∀ (l : List α), (zV e l).Sublist l
  | [] => .slnil
  | x :: l => (xN e x l).cons_cons _
theorem pI {l : List W} {w : W} (h : w ∈ fY l) : w ∈ l := (dD eM l).mem_iff.1 ((EE _ _).mem h)
theorem rG (l : List W) : (fY l).length ≤ l.length := by
  have := (EE F2 (dY eM l)).length_le;rw [(dD eM l).length_eq] at this;exact this
theorem vC : ∀ (l : List W) (q p : W), (p :: l).Pairwise (fun a b => eM a b ≤ 0) → oR q p = 0 → q.2.1 ≤ p.2.1 → ∀ w, w ∈ p :: l → ∃ v, v ∈ q :: kO F2 p l ∧ oR v w = 0 ∧ v.2.1 ≤ w.2.1
  | [],q,p,hs,h1,h2,w,hw => by
    rcases bR.1 hw with rfl | hw
    · exact ⟨q,aS,h1,h2⟩
    · cases hw
  | y :: l,q,p,hs,h1,h2,w,hw => by
    have hs' := eR.1 hs;rcases bR.1 hw with rfl | hw
    · exact ⟨q,aS,h1,h2⟩
    · unfold kO;by_cases e : F2 y p = true
      · rw [if_pos e];have e' : oR y p = 0 := by unfold F2 at e;simpa using e
        have hpy : oR p y = 0 := by obtain ⟨a,b⟩ := oX.1 e';exact oX.2 ⟨a.symm,b.symm⟩
        rcases PV (hs'.1 y aS) with hl | ⟨_,hl⟩
        · omega
        · refine vC l q y hs'.2 ?_ (by omega) w hw
          obtain ⟨a,b⟩ := oX.1 h1;obtain ⟨a',b'⟩ := oX.1 hpy;exact oX.2 ⟨a.trans a',b.trans b'⟩
      · rw [if_neg e];obtain ⟨v,hv,h3,h4⟩ := vC l y y hs'.2 (oX.2 ⟨rfl,rfl⟩) (eP _) w hw;exact ⟨v,aK _ hv,h3,h4⟩
theorem wV {l : List W} {w : W} (h : w ∈ l) : ∃ v,v ∈ fY l ∧ v.1 = w.1 ∧ v.2.2 = w.2.2 ∧ v.2.1 ≤ w.2.1 := by
  have hs := lM jH l;have hw := (dD eM l).mem_iff.2 h;unfold fY;generalize dY eM l = m at *;cases m with
  | nil => cases hw
  | cons x m =>
    obtain ⟨v,hv,h1,h2⟩ := vC m x x hs (oX.2 ⟨rfl,rfl⟩) (eP _) w hw;exact ⟨v,hv,(oX.1 h1).1,(oX.1 h1).2,h2⟩
theorem S6 : ∀ (l : List W) (p : W), (p :: l).Pairwise (fun a b => eM a b ≤ 0) → (∀ z, z ∈ kO F2 p l → oR p z < 0) ∧ (kO F2 p l).Pairwise (fun a b => oR a b < 0)
  | [],p,_ => ⟨fun z hz => (by cases hz),.nil⟩
  | y :: l,p,hs => by
    have hs' := eR.1 hs;obtain ⟨h1,h2⟩ := S6 l y hs'.2;unfold kO;by_cases e : F2 y p = true
    · rw [if_pos e];have e' : oR y p = 0 := by unfold F2 at e;simpa using e
      exact ⟨fun z hz => by rw [ME e'];exact h1 z hz,h2⟩
    · rw [if_neg e];have e' : oR p y < 0 := by
        rcases PV (hs'.1 y aS) with hl | ⟨hl,_⟩
        · exact hl
        · exfalso;apply e;unfold F2;obtain ⟨a,b⟩ := oX.1 hl;simp [oX.2 ⟨a.symm,b.symm⟩]
      refine ⟨fun z hz => ?_,eR.2 ⟨h1,h2⟩⟩
      rcases bR.1 hz with rfl | hz
      · exact e'
      · exact zG6 e' (h1 z hz)
theorem Z9 (l : List W) : (fY l).Pairwise (fun a b => oR a b < 0) := by
  have hs := lM jH l;unfold fY;generalize dY eM l = m at *;cases m with
  | nil => exact .nil
  | cons x m => exact eR.2 (S6 m x hs)
theorem Q8 {l : List W} : fY l = [] ↔ l = [] := by
  constructor
  · intro h;cases l with
    | nil => rfl
    | cons x l => obtain ⟨v,hv,_⟩ := wV (l := x :: l) (w := x) aS;rw [h] at hv;cases hv
  · rintro rfl;rfl
abbrev As := Int → Int × SP
def oH (bs : List Int) (w : W) (f : As) : Prop := w.1 = bs.map (fun b => (f b).1) ∧ w.2.2 = bs.map (fun b => (f b).2)
def H6 (g : G) (f : As) (m : Int) : Prop := ∃ w,w ∈ g.2 ∧ oH g.1 w f ∧ w.2.1 ≤ m
def Sem : List G → As → Int → Prop
  | [],_,M => 0 ≤ M
  | g :: gs,f,M => ∃ m,H6 g f m ∧ Sem gs f (M - m)
theorem H6.mono {g : G} {f : As} {m m' : Int} (h : H6 g f m) (hm : m ≤ m') : H6 g f m' := by
  obtain ⟨w,h1,h2,h3⟩ := h;exact ⟨w,h1,h2,by omega⟩
theorem Sem.mono : ∀ {gs : List G} {f : As} {M M' : Int}, Sem gs f M → M ≤ M' → Sem gs f M'
  | [],f,M,M',h,hm => by unfold Sem at *;omega
  | g :: gs,f,M,M',⟨m,h1,h2⟩,hm => ⟨m,h1,h2.mono (by omega)⟩
theorem OE {g : G} {f : As} {M : Int} : Sem [g] f M ↔ H6 g f M := by
  constructor
  · rintro ⟨m,h1,h2⟩;unfold Sem at h2;exact h1.mono (by omega)
  · intro h;exact ⟨M,h,by unfold Sem;omega⟩
theorem EZ : ∀ (a b : List G) (f : As) (M : Int), Sem (a ++ b) f M ↔ ∃ m, Sem a f m ∧ Sem b f (M - m)
  | [],b,f,M => by
    constructor
    · intro h;exact ⟨0,by unfold Sem;omega,by rw [Int.sub_zero];exact h⟩
    · rintro ⟨m,h1,h2⟩;unfold Sem at h1;exact h2.mono (by omega)
  | g :: a,b,f,M => by
    simp only [List.cons_append,Sem];constructor
    · rintro ⟨m,h1,h2⟩;obtain ⟨m',h3,h4⟩ := (EZ a b f _).1 h2;exact ⟨m + m',⟨m,h1,h3.mono (by omega)⟩,h4.mono (by omega)⟩
    · rintro ⟨m,⟨m',h1,h2⟩,h3⟩;exact ⟨m',h1,(EZ a b f _).2 ⟨m - m',h2,h3.mono (by omega)⟩⟩
theorem oO {a b : List G} (h : a.Perm b) : ∀ {f : As} {M : Int},Sem a f M ↔ Sem b f M := by
  induction h with
  | nil => intro f M;exact Iff.rfl
  | cons x _ ih => intro f M;simp only [Sem,ih]
  | swap x y l =>
    intro f M;simp only [Sem];constructor
    · rintro ⟨m,h1,m',h2,h3⟩;exact ⟨m',h2,m,h1,h3.mono (by omega)⟩
    · rintro ⟨m,h1,m',h2,h3⟩;exact ⟨m',h2,m,h1,h3.mono (by omega)⟩
  | trans _ _ ih1 ih2 => intro f M;rw [ih1,ih2]
theorem IB {F : G → List G} {f : As} : ∀ {gs : List G}, (∀ g, g ∈ gs → ∀ M, Sem (F g) f M ↔ H6 g f M) → ∀ {M : Int}, Sem (gs.flatMap F) f M ↔ Sem gs f M
  | [],_,M => Iff.rfl
  | g :: gs,h,M => by
    rw [bF,EZ];simp only [Sem,IB (fun g hg => h g (aK _ hg)),h g aS]
theorem R0 {bs : List Int} {l : List W} {f : As} {m : Int} : H6 (bs,fY l) f m ↔ H6 (bs,l) f m := by
  constructor
  · rintro ⟨w,h1,h2,h3⟩;exact ⟨w,pI h1,h2,h3⟩
  · rintro ⟨w,h1,h2,h3⟩;obtain ⟨v,hv,a,b,d⟩ := wV h1;exact ⟨v,hv,⟨a.trans h2.1,b.trans h2.2⟩,H8 d h3⟩
def LL (r : SP) : Prop := 0 ≤ r.1 ∧ r.1 < r.2 ∧ r.2 ≤ 20001
structure CE (n k : Nat) (w : W) : Prop where
  pl : w.1.length = k
  cl : w.2.2.length = k
  pr : ∀ x,x ∈ w.1 → 0 ≤ x ∧ x < n
  nd : w.1.Nodup
  m0 : 0 ≤ w.2.1
  m1 : w.2.1 ≤ 4000000
  sp : ∀ r,r ∈ w.2.2 → LL r
structure yW (n : Nat) (g : G) : Prop where
  ne : g.1 ≠ []
  up : g.1.Pairwise (· < ·)
  rg : ∀ b,b ∈ g.1 → 0 ≤ b ∧ b < n
  ln : g.1.length ≤ 6
  ws : ∀ w,w ∈ g.2 → CE n g.1.length w
  same : ∀ w v,w ∈ g.2 → v ∈ g.2 → w.1.Perm v.1
theorem yW.nd {n : Nat} {g : G} (h : yW n g) : g.1.Nodup := h.up.imp (fun h => by omega)
theorem P4 : ∀ (l : List W) (a : Int), l.foldl (fun m x => if x.2.1 < m then x.2.1 else m) a ≤ a ∧ (∀ x, x ∈ l → l.foldl (fun m x => if x.2.1 < m then x.2.1 else m) a ≤ x.2.1) ∧ (l.foldl (fun m x => if x.2.1 < m then x.2.1 else m) a = a ∨ ∃ x, x ∈ l ∧ l.foldl (fun m x => if x.2.1 < m then x.2.1 else m) a = x.2.1)
  | [],a => ⟨eP _,fun x hx => (by cases hx),.inl rfl⟩
  | y :: l,a => by
    rw [tW];obtain ⟨h1,h2,h3⟩ := P4 l (if y.2.1 < a then y.2.1 else a)
    generalize l.foldl (fun m x => if x.2.1 < m then x.2.1 else m) (if y.2.1 < a then y.2.1 else a) = q at *
    refine ⟨by split at h1 <;> omega,fun x hx => ?_,?_⟩
    · rcases bR.1 hx with rfl | hx
      · split at h1 <;> omega
      · exact h2 x hx
    · rcases h3 with h3 | ⟨x,hx,h3⟩
      · split at h3
        · exact .inr ⟨y,aS,h3⟩
        · exact .inl h3
      · exact .inr ⟨x,aK _ hx,h3⟩
theorem tC {g : G} {w : W} (h : w ∈ g.2) : fX g ≤ w.2.1 := by
  unfold fX;cases hg : g.2 with
  | nil => rw [hg] at h;cases h
  | cons x l =>
    rw [hg] at h;obtain ⟨h1,h2,h3⟩ := P4 l x.2.1;rcases bR.1 h with rfl | h
    · exact h1
    · exact h2 _ h
theorem sN {g : G} (h : g.2 ≠ []) : ∃ w,w ∈ g.2 ∧ w.2.1 = fX g := by
  unfold fX;cases hg : g.2 with
  | nil => exact absurd hg h
  | cons x l =>
    obtain ⟨h1,h2,h3⟩ := P4 l x.2.1;rcases h3 with h3 | ⟨y,hy,h3⟩
    · exact ⟨x,aS,h3.symm⟩
    · exact ⟨y,aK _ hy,h3.symm⟩
theorem SE {g : G} {f : As} {m : Int} (h : H6 g f m) : fX g ≤ m := by
  obtain ⟨w,h1,_,h3⟩ := h;exact H8 (tC h1) h3
theorem CX : ∀ {gs : List G} {f : As} {M : Int}, Sem gs f M → jT gs ≤ M
  | [],f,M,h => by unfold Sem at h;simpa [jT] using h
  | g :: gs,f,M,⟨m,h1,h2⟩ => by
    have := SE h1;have := CX h2;simp only [jT,List.map_cons,yC9] at *;omega
def zX1 (c : Cx) (S : Int) (all : List G) : List G := all.map fun g => (g.1,g.2.filter fun w => decide (w.2.1 + (S - fX g) ≤ c.m))
theorem N7 {c : Cx} {S : Int} : ∀ {gs : List G} {f : As} {M : Int}, M + (S - jT gs) ≤ c.m → (Sem (zX1 c S gs) f M ↔ Sem gs f M)
  | [],f,M,h => Iff.rfl
  | g :: gs,f,M,h => by
    have e : jT (g :: gs) = fX g + jT gs := by simp [jT]
    constructor
    · rintro ⟨m,⟨w,h1,h2,h3⟩,h4⟩;have h1' := (kA.1 h1).1;have := tC h1';exact ⟨m,⟨w,h1',h2,h3⟩,(N7 (by omega)).1 h4⟩
    · rintro ⟨m,⟨w,h1,h2,h3⟩,h4⟩;have := tC h1;have := CX h4;refine ⟨m,⟨w,?_,h2,h3⟩,(N7 (by omega)).2 h4⟩
      rw [kA];refine ⟨h1,?_⟩;simp only [decide_eq_true_eq];omega
theorem VQ {c : Cx} {gs : List G} {f : As} {M : Int} (h : M ≤ c.m) : Sem (paid c gs) f M ↔ Sem gs f M := N7 (S := jT gs) (by omega)
theorem FT {bs : List Int} {w : W} {f : As} (h : oH bs w f) {i : Nat} (hi : i < bs.length) : gP w i = (f bs[i]).1 := by
  unfold gP;rw [h.1];simp [List.getD,hi]
theorem FV {bs : List Int} {w : W} {f : As} (h : oH bs w f) {i : Nat} (hi : i < bs.length) : gC w i = (f bs[i]).2 := by
  unfold gC;rw [h.2];simp [List.getD,hi]
theorem vS {α β : Type} (f : α → β) : ∀ (l : List α) (k : Nat), (l.map f).eraseIdx k = (l.eraseIdx k).map f
  | [],_ => rfl
  | x :: l,0 => rfl
  | x :: l,k + 1 => by simp [vS f l k]
def zL1 (k : Nat) (w : W) : W := (w.1.eraseIdx k,w.2.1,w.2.2.eraseIdx k)
theorem xK {α : Type} : ∀ {k : Nat} {a b : List α} (x : α), a.length = b.length → a.getD k x = b.getD k x → a.eraseIdx k = b.eraseIdx k → a = b
  | _,[],[],_,_,_,_ => rfl
  | _,[],_ :: _,_,h,_,_ => by simp at h
  | _,_ :: _,[],_,h,_,_ => by simp at h
  | 0,y :: a,z :: b,x,h,h1,h2 => by
    simp at h1 h2;rw [h1,h2]
  | k + 1,y :: a,z :: b,x,h,h1,h2 => by
    simp at h h1 h2;rw [h2.1,xK x h (by simpa using h1) h2.2]
theorem AR {bs : List Int} {w : W} {f : As} {k : Nat} (hk : k < bs.length) (h1 : w.1.length = bs.length) (h2 : w.2.2.length = bs.length) :
    oH bs w f ↔ oH (bs.eraseIdx k) (zL1 k w) f ∧ gP w k = (f (bs.getD k 0)).1 ∧ gC w k = (f (bs.getD k 0)).2 := by
  have hb : bs.getD k 0 = bs[k] := by simp [List.getD,hk]
  constructor
  · intro h;refine ⟨⟨?_,?_⟩,?_,?_⟩
    · show w.1.eraseIdx k = _;rw [h.1,vS]
    · show w.2.2.eraseIdx k = _;rw [h.2,vS]
    · rw [hb];exact FT h hk
    · rw [hb];exact FV h hk
  · rintro ⟨h,h3,h4⟩;rw [hb] at h3 h4;constructor
    · refine xK (k := k) 0 (by simp [h1]) ?_ (by rw [vS];exact h.1)
      rw [show w.1.getD k 0 = gP w k from rfl,h3];simp [List.getD,hk]
    · refine xK (k := k) (0,0) (by simp [h2]) ?_ (by rw [vS];exact h.2)
      rw [show w.2.2.getD k (0,0) = gC w k from rfl,h4];simp [List.getD,hk]
theorem LW {g : G} {i : Nat} (hne : g.2 ≠ []) : yZ g i = true ↔ ∀ w,w ∈ g.2 → gP w i = gP (iG g) i ∧ gC w i = gC (iG g) i := by
  unfold yZ iG;cases hg : g.2 with
  | nil => exact absurd hg hne
  | cons f l => simp
theorem kB {g : G} {k : Nat} (h : iD g = some k) : 2 ≤ g.1.length ∧ g.2 ≠ [] ∧ k < g.1.length ∧ ∀ w,w ∈ g.2 → gP w k = gP (iG g) k ∧ gC w k = gC (iG g) k := by
  unfold iD at h;split at h
  · cases h
  · rename_i hc;have hne : g.2 ≠ [] := fun e => hc (.inr e)
    have h1 := List.find?_some h;have h2 := List.mem_of_find?_eq_some h;rw [eF] at h2;exact ⟨by omega,hne,h2,(LW hne).1 h1⟩
theorem jF {g : G} (h : g.2 ≠ []) : iG g ∈ g.2 := by
  unfold iG;cases hg : g.2 with
  | nil => exact absurd hg h
  | cons f l => simp
theorem IV {g : G} {k : Nat} {f : As} {m : Int} : H6 (nE g k) f m ↔ gP (iG g) k = (f (g.1.getD k 0)).1 ∧ gC (iG g) k = (f (g.1.getD k 0)).2 ∧ 0 ≤ m := by
  unfold H6 nE;constructor
  · rintro ⟨w,h1,h2,h3⟩;simp at h1;subst h1;obtain ⟨h4,h5⟩ := h2;simp at h4 h5;exact ⟨h4,h5,h3⟩
  · rintro ⟨h1,h2,h3⟩;exact ⟨_,bK.2 rfl,⟨by simp [h1],by simp [h2]⟩,h3⟩
theorem SD {n : Nat} {g : G} (ok : yW n g) {k : Nat} (hc : iD g = some k) {f : As} {M : Int} : (∃ m,H6 (nE g k) f m ∧ H6 (jN g k) f (M - m)) ↔ H6 g f M := by
  obtain ⟨h1,hne,hk,hs⟩ := kB hc;have hr : ∀ M,H6 (jN g k) f M ↔ ∃ w,w ∈ g.2 ∧ oH (g.1.eraseIdx k) (zL1 k w) f ∧ w.2.1 ≤ M := by
    intro M;unfold jN;rw [R0];unfold H6;constructor
    · rintro ⟨v,hv,a,b⟩;obtain ⟨w,hw,rfl⟩ := bE.1 hv;exact ⟨w,hw,a,b⟩
    · rintro ⟨w,hw,a,b⟩;exact ⟨zL1 k w,bE.2 ⟨w,hw,rfl⟩,a,b⟩
  constructor
  · rintro ⟨m,h2,h3⟩;obtain ⟨a,b,c⟩ := IV.1 h2;obtain ⟨w,hw,d,e⟩ := (hr _).1 h3;have := ok.ws w hw;exact ⟨w,hw,(AR hk this.pl this.cl).2 ⟨d,by rw [(hs w hw).1];exact a,by rw [(hs w hw).2];exact b⟩,by omega⟩
  · rintro ⟨w,hw,d,e⟩;have := ok.ws w hw;obtain ⟨a,b,c⟩ := (AR hk this.pl this.cl).1 d;refine ⟨0,IV.2 ⟨by rw [← (hs w hw).1];exact b,by rw [← (hs w hw).2];exact c,eP _⟩,(hr _).2 ⟨w,hw,a,by omega⟩⟩
theorem uY {α : Type} {l : List α} {k : Nat} {x : α} (h : x ∈ l.eraseIdx k) : x ∈ l := (yJ l k).mem h
theorem CE.erase {n k : Nat} {w : W} (h : CE n k w) {i : Nat} (hi : i < k) : CE n (k - 1) (zL1 i w) where
  pl := by show (w.1.eraseIdx i).length = _;rw [fS,h.pl,if_pos hi]
  cl := by show (w.2.2.eraseIdx i).length = _;rw [fS,h.cl,if_pos hi]
  pr x hx := h.pr x (uY hx)
  nd := h.nd.sublist (yJ _ _)
  m0 := h.m0
  m1 := h.m1
  sp r hr := h.sp r (uY hr)
theorem jZ {α : Type} : ∀ (l : List α) (i : Nat) (x : α), i < l.length → (l.getD i x :: l.eraseIdx i).Perm l
  | [],i,x,h => by simp at h
  | y :: l,0,x,h => by simp
  | y :: l,i + 1,x,h => by
    simp only [List.getD_cons_succ,List.eraseIdx_cons_succ];exact (List.Perm.swap _ _ _).trans ((jZ l i x (by simpa using h)).cons y)
theorem CE.at {n k : Nat} {w : W} (h : CE n k w) {i : Nat} (hi : i < k) : 0 ≤ gP w i ∧ gP w i < n ∧ LL (gC w i) := by
  unfold gP gC;have h1 : i < w.1.length := by rw [h.pl];exact hi
  have h2 : i < w.2.2.length := by rw [h.cl];exact hi
  simp only [List.getD,aA h1,aA h2,lC];exact ⟨(h.pr _ (aI h1)).1,(h.pr _ (aI h1)).2,h.sp _ (aI h2)⟩
theorem yW.one {n : Nat} {g : G} (h : yW n g) {k : Nat} (hc : iD g = some k) : yW n (nE g k) := by
  obtain ⟨h1,hne,hk,hs⟩ := kB hc;have hf := h.ws _ (jF hne);have ha := hf.at hk;refine ⟨by simp [nE],by simp [nE],?_,by simp [nE],?_,?_⟩
  · intro b hb;simp only [nE,bK] at hb;subst hb;simp only [List.getD,aA hk,lC];exact h.rg _ (aI hk)
  · intro w hw;simp only [nE,bK] at hw;subst hw;exact ⟨rfl,rfl,by intro x hx;simp at hx;subst hx;exact ⟨ha.1,ha.2.1⟩,by simp,by simp,by simp,by intro r hr;simp at hr;subst hr;exact ha.2.2⟩
  · intro w v hw hv;simp only [nE,bK] at hw hv;subst hw;subst hv;exact .refl _
theorem yW.rest {n : Nat} {g : G} (h : yW n g) {k : Nat} (hc : iD g = some k) : yW n (jN g k) := by
  obtain ⟨h1,hne,hk,hs⟩ := kB hc;have hl : (g.1.eraseIdx k).length = g.1.length - 1 := by rw [fS,if_pos hk]
  have hm : ∀ w,w ∈ (jN g k).2 → ∃ v,v ∈ g.2 ∧ w = zL1 k v := by
    intro w hw;obtain ⟨v,hv,rfl⟩ := bE.1 (pI hw);exact ⟨v,hv,rfl⟩
  refine ⟨?_,h.up.sublist (yJ _ _),fun b hb => h.rg b (uY hb),?_,?_,?_⟩
  · intro e;have : (g.1.eraseIdx k).length = 0 := by rw [show g.1.eraseIdx k = [] from e];rfl
    omega
  · show (g.1.eraseIdx k).length ≤ 6;have := h.ln;omega
  · intro w hw;obtain ⟨v,hv,rfl⟩ := hm w hw;show CE n (g.1.eraseIdx k).length _;rw [hl];exact (h.ws v hv).erase hk
  · intro w v hw hv;obtain ⟨w,hw',rfl⟩ := hm w hw;obtain ⟨v,hv',rfl⟩ := hm v hv;clear hw hv;have hw := hw';have hv := hv';have h3 := h.same w v hw hv;have e1 := jZ w.1 k 0 (by rw [(h.ws w hw).pl];exact hk)
    have e2 := jZ v.1 k 0 (by rw [(h.ws v hv).pl];exact hk)
    have e3 : w.1.getD k 0 = v.1.getD k 0 := ((hs w hw).1).trans ((hs v hv).1).symm;rw [e3] at e1;exact (List.perm_cons _).1 (e1.trans (h3.trans e2.symm))
theorem FF {n : Nat} : ∀ (m : Nat) {g : G}, yW n g → ∀ x, x ∈ lN m g → yW n x
  | 0,g,h,x,hx => by simp [lN] at hx;subst hx;exact h
  | m + 1,g,h,x,hx => by
    unfold lN at hx;split at hx
    · simp at hx;subst hx;exact h
    · rename_i k hc;rcases bR.1 hx with rfl | hx
      · exact h.one hc
      · exact FF m (h.rest hc) x hx
theorem IA {n : Nat} {f : As} : ∀ (m : Nat) {g : G}, yW n g → ∀ {M : Int}, Sem (lN m g) f M ↔ H6 g f M
  | 0,g,h,M => OE
  | m + 1,g,h,M => by
    unfold lN;split
    · exact OE
    · rename_i k hc;simp only [Sem,IA m (h.rest hc)];exact SD h hc
theorem RM {n : Nat} {f : As} {l : List G} (h : ∀ g,g ∈ l → yW n g) {M : Int} : Sem (qM l) f M ↔ Sem l f M := by
  unfold qM;rw [oO (dD _ _)];exact IB fun g hg M => IA _ (h g hg)
theorem DG {n : Nat} : ∀ (m : Nat) {g : G}, yW n g → g.1.length ≤ m → ∀ x, x ∈ lN m g → iD x = none
  | 0,g,h,hl,x,hx => by exact absurd (eT.1 (Nat.le_zero.1 hl)) h.ne
  | m + 1,g,h,hl,x,hx => by
    unfold lN at hx;split at hx
    · rename_i hc;simp at hx;subst hx;exact hc
    · rename_i k hc;obtain ⟨h1,hne,hk,hs⟩ := kB hc;rcases bR.1 hx with rfl | hx
      · simp [iD,nE]
      · refine DG m (h.rest hc) ?_ x hx;show (g.1.eraseIdx k).length ≤ m;rw [fS,if_pos hk];omega
theorem zF {n : Nat} : ∀ (m : Nat) {g : G}, yW n g → ((lN m g).flatMap (·.1)).Perm g.1
  | 0,g,h => by simp [lN]
  | m + 1,g,h => by
    unfold lN;split
    · simp
    · rename_i k hc;obtain ⟨h1,hne,hk,hs⟩ := kB hc;rw [bF];exact (List.Perm.append_left _ (zF m (h.rest hc))).trans (jZ g.1 k 0 hk)
theorem zG3 {m : Nat} : ∀ {g : G},g.2 ≠ [] → ∀ x,x ∈ lN m g → x.2 ≠ [] := by
  induction m with
  | zero => intro g h x hx;simp [lN] at hx;subst hx;exact h
  | succ m ih =>
    intro g h x hx;unfold lN at hx;split at hx
    · simp at hx;subst hx;exact h
    · rename_i k hc;rcases bR.1 hx with rfl | hx
      · simp [nE]
      · refine ih ?_ x hx;show fY _ ≠ [];rw [Ne,Q8,mJ];exact h
theorem IP {g : G} (h : g.2 = []) : ∀ m, lN m g = [g]
  | 0 => rfl
  | m + 1 => by unfold lN;rw [show iD g = none by unfold iD;rw [if_pos (.inr h)]]
theorem IQ {m : Nat} : ∀ {g : G} {K : Nat},1 ≤ K → g.2.length ≤ K → ∀ x,x ∈ lN m g → x.2.length ≤ K := by
  induction m with
  | zero => intro g K _ h x hx;simp [lN] at hx;subst hx;exact h
  | succ m ih =>
    intro g K h1 h x hx;unfold lN at hx;split at hx
    · simp at hx;subst hx;exact h
    · rename_i k hc;rcases bR.1 hx with rfl | hx
      · simpa [nE] using h1
      · refine ih h1 ?_ x hx;exact bA (rG _) (by rw [bB];exact h)
def upd (f : As) (a : Int) (x : Int × SP) : As := fun b => if b = a then x else f b
def RC (f : As) (a b : Int) : As := fun x => if x = a then f b else if x = b then f a else f x
def L2 (c : Cx) (s : Ev) (x : Int × SP) : (Int × SP) × Int × Bool :=
  if s.k = 0 then (if x.1 ∈ s.ids then (x,0,decide ((s.ids.length : Int) - 1 ≤ c.st)) else (x,1,decide ((s.ids.length : Int) ≤ c.st)))
  else if s.k = 1 then
    let b := c.bs.getD x.1.toNat (0,0,0)
    let q := uP b.2.2 (nJ c.ks c.ls b.1) s.n c.er x.2
    ((x.1,q.1),0,q.2)
  else if s.k = 2 then let q := zD x.2 s.n c.sl;((x.1,q.1),0,q.2)
  else if s.k = 3 then ((x.1,(s.n,s.n + 1)),0,uZ x.2.1 x.2.2 s.n)
  else if s.k = 5 then (x,0,decide (x.1 = s.n))
  else (x,0,true)
theorem HY {α : Type} {l : List α} {i : Nat} (x : α) (h : i < l.length) : l.set i (l.getD i x) = l := by
  simp [List.getD,h]
theorem D3 {c : Cx} {w : W} {i : Nat} {s : Ev} (h : i < w.2.2.length) :
    kG c w i s = ((w.1,w.2.1 + (L2 c s (gP w i,gC w i)).2.1,w.2.2.set i (L2 c s (gP w i,gC w i)).1.2),(L2 c s (gP w i,gC w i)).2.2) := by
  have e : w.2.2.set i (gC w i) = w.2.2 := HY _ h;unfold kG L2;split
  · split <;> simp [e]
  · split
    · simp [sC]
    · split
      · simp [sC]
      · split
        · simp [sC]
        · split <;> simp [e]
theorem GN {c : Cx} {s : Ev} {x : Int × SP} : (L2 c s x).1.1 = x.1 := by
  unfold L2
  repeat' split
  all_goals rfl
def CF (c : Cx) (s : Ev) (f f' : As) (d : Int) : Prop :=
  ((L2 c s (f s.a)).2.2 = true ∧ f' = upd f s.a (L2 c s (f s.a)).1 ∧ d = (L2 c s (f s.a)).2.1) ∨ (s.k = 4 ∧ f' = RC f s.a s.b ∧ d = 0)
theorem tJ {bs : List Int} {w : W} {f : As} (h1 : w.1.length = bs.length) (h2 : w.2.2.length = bs.length) :
    oH bs w f ↔ ∀ j (hj : j < bs.length),gP w j = (f bs[j]).1 ∧ gC w j = (f bs[j]).2 := by
  constructor
  · intro h j hj;exact ⟨FT h hj,FV h hj⟩
  · intro h;constructor
    · refine kI (by simp [h1]) fun j hj hj' => ?_
      have := (h j (by omega)).1
      unfold gP at this;simp only [List.getD,aA hj,lC] at this;simp [this]
    · refine kI (by simp [h2]) fun j hj hj' => ?_
      have := (h j (by omega)).2
      unfold gC at this;simp only [List.getD,aA hj,lC] at this;simp [this]
theorem zK {bs : List Int} {a : Int} (ha : a ∈ bs) : ∃ h : bs.idxOf a < bs.length,bs[bs.idxOf a] = a := by
  have h := iN ha;exact ⟨h,List.getElem_idxOf h⟩
theorem AF {bs : List Int} (hn : bs.Nodup) {i j : Nat} (hi : i < bs.length) (hj : j < bs.length) (h : bs[i] = bs[j]) : i = j := (zN3 hn).1 h
theorem fK {α : Type} {l : List α} {i j : Nat} {x d : α} (hj : i < l.length) : (l.set i x).getD j d = if j = i then x else l.getD j d := by
  by_cases e : j = i
  · subst e;simp [List.getD,hj]
  · rw [if_neg e];simp [List.getD,iT (Ne.symm e)]
theorem XE {c : Cx} {n : Nat} {g : G} (ok : yW n g) {s : Ev} (ha : s.a ∈ g.1) (hb : s.k = 4 → s.b ∈ g.1 ∧ s.a ≠ s.b) {f' : As} {M : Int} :
    H6 (g.1,fY (mF c s g)) f' M ↔ ∃ f d,CF c s f f' d ∧ H6 g f (M - d) := by
  rw [R0];obtain ⟨hi,hia⟩ := zK ha;have hnd := ok.nd;constructor
  · rintro ⟨v,hv,hf,hm⟩;unfold mF at hv;obtain ⟨w,hw,hv⟩ := fN.1 hv;have wo := ok.ws w hw;have h1 := wo.pl;have h2 := wo.cl;rcases bI.1 hv with hv | hv
    · split at hv
      · rename_i hok;simp only [bK] at hv;subst hv;rw [D3 (by omega)] at hok hf hm
        simp only at hok hf hm;generalize hi' : g.1.idxOf s.a = i at *;have hf' := (tJ (w := (w.1,w.2.1 + (L2 c s (gP w i,gC w i)).2.1,w.2.2.set i (L2 c s (gP w i,gC w i)).1.2)) h1 (by simp [h2])).1 hf
        have ea : upd f' s.a (gP w i,gC w i) s.a = (gP w i,gC w i) := by unfold upd;rw [if_pos rfl]
        refine ⟨upd f' s.a (gP w i,gC w i),_,.inl ⟨by rw [ea];exact hok,?_,rfl⟩,w,hw,(tJ h1 h2).2 fun j hj => ?_,by rw [ea];show w.2.1 ≤ _;omega⟩
        · rw [ea];funext b;unfold upd;by_cases e : b = s.a
          · rw [if_pos e,e];obtain ⟨q1,q2⟩ := hf' i hi;rw [hia] at q1 q2;refine Prod.ext ?_ ?_
            · rw [GN,← q1];rfl
            · rw [← q2];unfold gC;rw [fK (by omega),if_pos rfl]
          · rw [if_neg e,if_neg e]
        · obtain ⟨q1,q2⟩ := hf' j hj;unfold upd;by_cases e : g.1[j] = s.a
          · rw [if_pos e];have : j = i := AF hnd hj hi (e.trans hia.symm);subst this;exact ⟨rfl,rfl⟩
          · rw [if_neg e];refine ⟨by rw [← q1];rfl,?_⟩
            rw [← q2];unfold gC;rw [fK (by omega),if_neg]
            rintro rfl;exact e hia
      · cases hv
    · split at hv
      · rename_i hk;simp only [bK] at hv;subst hv;obtain ⟨hbm,hab⟩ := hb hk;obtain ⟨hj,hjb⟩ := zK hbm;generalize hi' : g.1.idxOf s.a = i at *;generalize hj' : g.1.idxOf s.b = k at *;have hik : i ≠ k := by rintro rfl;exact hab (hia.symm.trans hjb)
        have hf' := (tJ (w := oV w i k) (by simp [oV,h1]) (by simp [oV,h2])).1 hf
        refine ⟨RC f' s.a s.b,0,.inr ⟨hk,?_,rfl⟩,w,hw,(tJ h1 h2).2 fun j hj0 => ?_,by have : (oV w i k).2.1 = w.2.1 := rfl;omega⟩
        · funext x;unfold RC;by_cases e : x = s.a
          · subst e;rw [if_pos rfl,if_neg (Ne.symm hab),if_pos rfl]
          · by_cases e' : x = s.b
            · subst e';rw [if_neg e,if_pos rfl,if_pos rfl]
            · rw [if_neg e,if_neg e',if_neg e,if_neg e']
        · unfold RC;by_cases e : g.1[j] = s.a
          · rw [if_pos e];have : j = i := AF hnd hj0 hi (e.trans hia.symm);subst this;obtain ⟨q1,q2⟩ := hf' k hj;rw [hjb] at q1 q2;rw [← q1,← q2];constructor
            · unfold gP oV;simp only;rw [fK (by simp;omega),if_pos rfl];rfl
            · unfold gC oV;simp only;rw [fK (by simp;omega),if_pos rfl];rfl
          · rw [if_neg e];by_cases e' : g.1[j] = s.b
            · rw [if_pos e'];have : j = k := AF hnd hj0 hj (e'.trans hjb.symm);subst this;obtain ⟨q1,q2⟩ := hf' i hi;rw [hia] at q1 q2;rw [← q1,← q2];constructor
              · unfold gP oV;simp only;rw [fK (by simp;omega),if_neg hik,fK (by omega),if_pos rfl];rfl
              · unfold gC oV;simp only;rw [fK (by simp;omega),if_neg hik,fK (by omega),if_pos rfl];rfl
            · rw [if_neg e'];have n1 : j ≠ i := by rintro rfl;exact e hia
              have n2 : j ≠ k := by rintro rfl;exact e' hjb
              obtain ⟨q1,q2⟩ := hf' j hj0;rw [← q1,← q2];constructor
              · unfold gP oV;simp only;rw [fK (by simp;omega),if_neg n2,fK (by omega),if_neg n1]
              · unfold gC oV;simp only;rw [fK (by simp;omega),if_neg n2,fK (by omega),if_neg n1]
      · cases hv
  · rintro ⟨f,d,hst,w,hw,hf,hm⟩;have wo := ok.ws w hw;have h1 := wo.pl;have h2 := wo.cl;have hf' := (tJ h1 h2).1 hf;have hxa : (gP w (g.1.idxOf s.a),gC w (g.1.idxOf s.a)) = f s.a := by
      obtain ⟨q1,q2⟩ := hf' _ hi;rw [hia] at q1 q2;exact Prod.ext q1 q2
    rcases hst with ⟨hok,rfl,rfl⟩ | ⟨hk,rfl,rfl⟩
    · refine ⟨(kG c w (g.1.idxOf s.a) s).1,fN.2 ⟨w,hw,bI.2 (.inl ?_)⟩,?_,?_⟩
      · rw [if_pos (by rw [D3 (by omega),hxa];exact hok)];exact bK.2 rfl
      · rw [D3 (by omega),hxa]
        refine (tJ (bs := g.1) (w := (w.1,w.2.1 + (L2 c s (f s.a)).2.1,w.2.2.set (g.1.idxOf s.a) (L2 c s (f s.a)).1.2)) h1 (by simp [h2])).2 fun j hj => ?_
        obtain ⟨q1,q2⟩ := hf' j hj;unfold upd;by_cases e : g.1[j] = s.a
        · rw [if_pos e];have : j = g.1.idxOf s.a := AF hnd hj hi (e.trans hia.symm);refine ⟨?_,?_⟩
          · rw [GN];show gP w j = _;rw [q1,e]
          · unfold gC;simp only;rw [fK (by omega),if_pos this]
        · rw [if_neg e];refine ⟨q1,?_⟩;unfold gC;simp only;rw [fK (by omega),if_neg (by rintro rfl;exact e hia)]
          exact q2
      · rw [D3 (by omega),hxa];show w.2.1 + _ ≤ _;omega
    · obtain ⟨hbm,hab⟩ := hb hk;obtain ⟨hj,hjb⟩ := zK hbm;have hxb : gP w (g.1.idxOf s.b) = (f s.b).1 ∧ gC w (g.1.idxOf s.b) = (f s.b).2 := by
        obtain ⟨q1,q2⟩ := hf' _ hj;rw [hjb] at q1 q2;exact ⟨q1,q2⟩
      have hxa' : gP w (g.1.idxOf s.a) = (f s.a).1 ∧ gC w (g.1.idxOf s.a) = (f s.a).2 := by rw [← hxa];exact ⟨rfl,rfl⟩
      refine ⟨oV w (g.1.idxOf s.a) (g.1.idxOf s.b),fN.2 ⟨w,hw,bI.2 (.inr (by rw [if_pos hk];exact bK.2 rfl))⟩,?_,by show w.2.1 ≤ M;omega⟩
      generalize hi' : g.1.idxOf s.a = i at *;generalize hj' : g.1.idxOf s.b = k at *;have hik : i ≠ k := by rintro rfl;exact hab (hia.symm.trans hjb)
      refine (tJ (by simp [oV,h1]) (by simp [oV,h2])).2 fun j hj0 => ?_
      unfold RC;by_cases e : g.1[j] = s.a
      · rw [if_pos e];have : j = i := AF hnd hj0 hi (e.trans hia.symm);subst this;rw [← hxb.1,← hxb.2];constructor
        · unfold gP oV;simp only;rw [fK (by simp;omega),if_neg hik,fK (by omega),if_pos rfl];rfl
        · unfold gC oV;simp only;rw [fK (by simp;omega),if_neg hik,fK (by omega),if_pos rfl];rfl
      · rw [if_neg e];by_cases e' : g.1[j] = s.b
        · rw [if_pos e'];have : j = k := AF hnd hj0 hj (e'.trans hjb.symm);subst this;rw [← hxa'.1,← hxa'.2];constructor
          · unfold gP oV;simp only;rw [fK (by simp;omega),if_pos rfl];rfl
          · unfold gC oV;simp only;rw [fK (by simp;omega),if_pos rfl];rfl
        · rw [if_neg e'];have n1 : j ≠ i := by rintro rfl;exact e hia
          have n2 : j ≠ k := by rintro rfl;exact e' hjb
          obtain ⟨q1,q2⟩ := hf' j hj0;rw [← q1,← q2];constructor
          · unfold gP oV;simp only;rw [fK (by simp;omega),if_neg n2,fK (by omega),if_neg n1]
          · unfold gC oV;simp only;rw [fK (by simp;omega),if_neg n2,fK (by omega),if_neg n1]
theorem O3 {g : G} {f f' : As} {M : Int} (h : ∀ b,b ∈ g.1 → f b = f' b) : H6 g f M ↔ H6 g f' M := by
  unfold H6 oH;rw [jJ (g := fun b => (f' b).1) (fun b hb => by rw [h b hb]),jJ (g := fun b => (f' b).2) (fun b hb => by rw [h b hb])]
theorem sK {f f' : As} : ∀ {gs : List G} {M : Int}, (∀ g, g ∈ gs → ∀ b, b ∈ g.1 → f b = f' b) → (Sem gs f M ↔ Sem gs f' M)
  | [],M,_ => Iff.rfl
  | g :: gs,M,h => by
    simp only [Sem,O3 (h g aS),sK (fun x hx => h x (aK _ hx))]
end Go.Ld
namespace Go.Proofs.YtmmkhmilpeodnaaGreat
open Go Go.Ab
section
variable {P : Program} {env : dW} {h : Hp} {d : Option Nat} {ty : TypeId} {pos : String} {af : Array Edge} {g : Option (Nat × Bool)}
theorem PO {t t2 : TypeId} {x y : Operand} {a b : Int} (hx : evu env x = some (.i a)) (hy : evu env y = some (.i b)) (e : b < a) : bX P ⟨d,.binOp .gtr t x y t2,ty,pos,af,g⟩ env h 0 (fun _ => .b true) (fun _ => []) := by
  have := fM (P := P) (d := d) (ty := ty) (pos := pos) (af := af) (g := g) (h := h) (t := t) (t2 := t2) hx hy;simpa [show decide (a > b) = true from decide_eq_true (by omega)] using this
theorem V9 {t t2 : TypeId} {x y : Operand} {a b : Int} (hx : evu env x = some (.i a)) (hy : evu env y = some (.i b)) (e : a ≤ b) : bX P ⟨d,.binOp .gtr t x y t2,ty,pos,af,g⟩ env h 0 (fun _ => .b false) (fun _ => []) := by
  have := fM (P := P) (d := d) (ty := ty) (pos := pos) (af := af) (g := g) (h := h) (t := t) (t2 := t2) hx hy;simpa [show decide (a > b) = false from decide_eq_false (by omega)] using this
theorem sF {t t2 : TypeId} {x y : Operand} {a b : Int} (hx : evu env x = some (.i a)) (hy : evu env y = some (.i b)) (e : a < b) : bX P ⟨d,.binOp .lss t x y t2,ty,pos,af,g⟩ env h 0 (fun _ => .b true) (fun _ => []) := by
  have := aL (P := P) (d := d) (ty := ty) (pos := pos) (af := af) (g := g) (h := h) (t := t) (t2 := t2) hx hy;simpa [show decide (a < b) = true from decide_eq_true (by omega)] using this
theorem K2 {t t2 : TypeId} {x y : Operand} {a b : Int} (hx : evu env x = some (.i a)) (hy : evu env y = some (.i b)) (e : b ≤ a) : bX P ⟨d,.binOp .lss t x y t2,ty,pos,af,g⟩ env h 0 (fun _ => .b false) (fun _ => []) := by
  have := aL (P := P) (d := d) (ty := ty) (pos := pos) (af := af) (g := g) (h := h) (t := t) (t2 := t2) hx hy;simpa [show decide (a < b) = false from decide_eq_false (by omega)] using this
theorem zJ2 {t t2 : TypeId} {x y : Operand} {a b : Int} (hx : evu env x = some (.i a)) (hy : evu env y = some (.i b)) (e : b ≤ a) : bX P ⟨d,.binOp .geq t x y t2,ty,pos,af,g⟩ env h 0 (fun _ => .b true) (fun _ => []) := by
  have := jX (P := P) (d := d) (ty := ty) (pos := pos) (af := af) (g := g) (h := h) (t := t) (t2 := t2) hx hy;simpa [show decide (a ≥ b) = true from decide_eq_true (by omega)] using this
theorem zJ3 {t t2 : TypeId} {x y : Operand} {a b : Int} (hx : evu env x = some (.i a)) (hy : evu env y = some (.i b)) (e : a < b) : bX P ⟨d,.binOp .geq t x y t2,ty,pos,af,g⟩ env h 0 (fun _ => .b false) (fun _ => []) := by
  have := jX (P := P) (d := d) (ty := ty) (pos := pos) (af := af) (g := g) (h := h) (t := t) (t2 := t2) hx hy;simpa [show decide (a ≥ b) = false from decide_eq_false (by omega)] using this
end
end Go.Proofs.YtmmkhmilpeodnaaGreat
namespace Go.Proofs.YtmmkhmilpeodnaaGreat
open Go Go.Ab Go.Ld
attribute [local irreducible] VC AW bX aR
set_option maxHeartbeats 4000000
theorem DO (x : Int) : aR Tryz.prog 136 [.i x] [] (.b false) [] := by
  refine bO T Tryz.func136 rfl rfl rfl rfl ?_
  (repeat' (first|refine wS ?_|refine wR ?_|(refine rg 0 (aV ?_))|(refine rg 1 (dK rfl (vV (fG rfl rfl) (aV ?_))))|refine nZ ?_));all_goals first | (exfalso;omega) | exact cX (.inl rfl) rfl (nC (by simp))
theorem EF (x y : Int) : aR Tryz.prog 100 [.i x,.i y] [] (.i (cI x y)) [] := by
  by_cases h1 : x < y
  · rw [show cI x y = -1 by unfold cI;rw [if_pos h1]]
    refine bO T Tryz.func100 rfl rfl rfl rfl ?_
    (repeat' (first|refine wS ?_|refine wK ?_|refine wR ?_|refine wU ?_|(refine wC rfl ?_ ?_<;>(intro hb;(try simp only [nm] at hb);try (exfalso;omega)))|(refine rg 0 (aV ?_))|(refine rg 1 (mW rfl (vV (kC (DO x)) (aV ?_))))|(refine rg 2 (mW rfl (vV (kC (DO y)) (aV ?_))))|(refine rg 3 (mV ?_))|(refine rg 7 (mV ?_))|(refine rg 9 (dK rfl (vV (aL rfl rfl) ?_)))|(refine rg 10 (aV ?_))|refine nZ ?_));all_goals first | (exfalso;omega) | exact rQ
  · by_cases h2 : y < x
    · rw [show cI x y = 1 by unfold cI;rw [if_neg h1,if_pos h2]]
      refine bO T Tryz.func100 rfl rfl rfl rfl ?_
      (repeat' (first|refine wS ?_|refine wK ?_|refine wR ?_|refine wU ?_|(refine wC rfl ?_ ?_<;>(intro hb;(try simp only [nm] at hb);try (exfalso;omega)))|(refine rg 0 (aV ?_))|(refine rg 1 (mW rfl (vV (kC (DO x)) (aV ?_))))|(refine rg 2 (mW rfl (vV (kC (DO y)) (aV ?_))))|(refine rg 3 (mV ?_))|(refine rg 7 (mV ?_))|(refine rg 9 (dK rfl (vV (aL rfl rfl) ?_)))|(refine rg 11 (dK rfl (vV (fM rfl rfl) ?_)))|(refine rg 12 (aV ?_))|refine nZ ?_));all_goals first | (exfalso;omega) | exact rQ
    · rw [show cI x y = 0 by unfold cI;rw [if_neg h1,if_neg h2]]
      refine bO T Tryz.func100 rfl rfl rfl rfl ?_
      (repeat' (first|refine wS ?_|refine wK ?_|refine wR ?_|refine wU ?_|(refine wC rfl ?_ ?_<;>(intro hb;(try simp only [nm] at hb);try (exfalso;omega)))|(refine rg 0 (aV ?_))|(refine rg 1 (mW rfl (vV (kC (DO x)) (aV ?_))))|(refine rg 2 (mW rfl (vV (kC (DO y)) (aV ?_))))|(refine rg 3 (mV ?_))|(refine rg 7 (mV ?_))|(refine rg 9 (dK rfl (vV (aL rfl rfl) ?_)))|(refine rg 11 (dK rfl (vV (fM rfl rfl) ?_)))|(refine rg 13 (aV ?_))|refine nZ ?_));all_goals first | (exfalso;omega) | exact rQ
theorem zX2 (x y : Int) : aR Tryz.prog 98 [.rowE (ints [x,y]) 1] [] (.i (Q9 x y)) [] := by
  have hlen : (ints [x,y]).length = 2 := rfl;refine bO T Tryz.func98 rfl rfl rfl rfl ?_
  (repeat' (first|refine wS ?_|refine wB ?_|(refine rg 0 (aV ?_))|(refine rg 1 (aV ?_))|(refine rg 2 (mW rfl (qW T rfl (mV ?_))))|refine nZ ?_));refine cN (X := {k : Nat // k ≤ 2 ∧ (1 ≤ k → x = 0) ∧ (2 ≤ k → y = 0)}) (fun k => [(0,.rowE (ints [x,y]) 1),(3,.i 0),(6,.rowE (ints [x,y]) 1),(7,.i (ints [x,y]).length),(8,.i k.1)]) (fun _ => []) (fun k => 2 - k.1) ⟨0,by omega,by omega,by omega⟩ (eA []) ?_
  rintro ⟨k,hk,h1,h2⟩;dsimp only;by_cases hlt : k < 2
  · have hg : ∃ z,(ints [x,y])[k]? = some [AV.i z] ∧ (k = 0 → z = x) ∧ (k = 1 → z = y) := by
      rcases (by omega : k = 0 ∨ k = 1) with rfl | rfl
      · exact ⟨x,rfl,fun _ => rfl,by omega⟩
      · exact ⟨y,rfl,by omega,fun _ => rfl⟩
    obtain ⟨z,hg,hz1,hz2⟩ := hg;by_cases h0 : z = 0
    · (repeat' (first|refine wS ?_|refine wB ?_|refine wK ?_|(refine wC rfl (fun hb => ?_) (fun hb => ?_) <;> (((try simp only [nm] at hb);try (exfalso;omega))))|(refine rg 3 (vV (aL rfl rfl) ?_))|(refine rg 4 (vV (ix T rfl (by omega) (ints_len [x,y]) hg) (lW T rfl (aV ?_))))|(refine rg 5 (dK rfl (vV (fG rfl rfl) ?_)))|(refine rg 7 (vV (bV rfl rfl (by omega) (by omega)) (mV ?_)))|(refine nZ ?_)));all_goals first | (exfalso;omega) | exact ⟨⟨k + 1,by omega,by omega,by omega⟩,by dsimp only;omega,eA []⟩
    · (repeat' (first|refine wS ?_|refine wB ?_|refine wK ?_|refine wR ?_|(refine wC rfl (fun hb => ?_) (fun hb => ?_) <;> (((try simp only [nm] at hb);try (exfalso;omega))))|(refine rg 3 (vV (aL rfl rfl) ?_))|(refine rg 4 (vV (ix T rfl (by omega) (ints_len [x,y]) hg) (lW T rfl (aV ?_))))|(refine rg 5 (dK rfl (vV (fG rfl rfl) ?_)))|(refine rg 6 (mW rfl (aV ?_)))|(refine nZ ?_)));all_goals first | (exfalso;omega) | exact cX (.inl rfl) rfl (by rw [show Q9 x y = z by unfold Q9;split <;> omega];rfl)
  · (repeat' (first|refine wS ?_|refine wR ?_|refine wE ?_|(refine wC rfl (fun hb => ?_) (fun hb => ?_) <;> (((try simp only [nm] at hb);try (exfalso;omega))))|(refine rg 3 (vV (aL rfl rfl) ?_))|(refine rg 8 (mW rfl (aV ?_)))|(refine nZ ?_)));all_goals first | (exfalso;omega) | exact cX (.inl rfl) rfl (by rw [show Q9 x y = 0 by unfold Q9;split <;> omega];rfl)
theorem zZ1 {a b : List Int} {k : Nat} (h1 : k < a.length) (h2 : k < b.length) : cL (a.drop k) (b.drop k) = Q9 (cI a[k] b[k]) (cL (a.drop (k + 1)) (b.drop (k + 1))) := by
  rw [aX h1,aX h2];rfl
theorem zM0 {a b : List Int} {k : Nat} (h1 : k < a.length) (h2 : k = b.length) : cL (a.drop k) (b.drop k) = 1 := by
  rw [aX h1,cY (l := b) (by omega)];rfl
theorem zL9 {a b : List Int} {k : Nat} (h1 : k = a.length) (h2 : k < b.length) : cL (a.drop k) (b.drop k) = -1 := by
  rw [cY (l := a) (by omega),aX h2];rfl
theorem zL8 {a b : List Int} {k : Nat} (h1 : k = a.length) (h2 : k = b.length) : cL (a.drop k) (b.drop k) = 0 := by
  rw [cY (l := a) (by omega),cY (l := b) (by omega)];rfl
theorem WY (b : Int) : Q9 0 b = b := rfl
theorem MF {a b : Int} (h : ¬ a = 0) : Q9 a b = a := by unfold Q9;rw [if_neg h]
theorem TN (a b : List Int) (ha : a.length ≤ 9223372036854775807) (hb : b.length ≤ 9223372036854775807) : aR Tryz.prog 133 [.rowE (ints a) 1,.rowE (ints b) 1] [] (.i (cL a b)) [] := by
  have hla : (ints a).length = a.length := by simp
  have hlb : (ints b).length = b.length := by simp
  refine bO T Tryz.func133 rfl rfl rfl rfl ?_
  (repeat' (first|refine wS ?_|refine wB ?_|(refine rg 0 (aV ?_))|(refine rg 1 (mW rfl (qW T rfl (mV ?_))))|refine nZ ?_));refine cN (X := {k : Nat // k ≤ a.length ∧ k ≤ b.length ∧ cL a b = cL (a.drop k) (b.drop k)}) (fun k => [(0,.rowE (ints a) 1),(1,.rowE (ints b) 1),(9,.rowE (ints a) 1),(10,.i (ints a).length),(11,.i k.1)]) (fun _ => []) (fun k => a.length - k.1) ⟨0,by omega,by omega,rfl⟩ (eA []) ?_
  rintro ⟨k,hk,hkb,he⟩;dsimp only;by_cases h1 : k < a.length
  · have g1 := nA h1;by_cases h2 : k < b.length
    · have g2 := nA h2;have e1 := zZ1 h1 h2;have hc := EF a[k] b[k];generalize a[k] = x at *;generalize b[k] = y at *;by_cases h0 : cI x y = 0
      · rw [h0] at hc e1;rw [WY] at e1
        (repeat' (first|refine wS ?_|refine wB ?_|refine wK ?_|refine wU ?_|(refine wC rfl ?_ ?_<;>(intro hb;(try simp only [nm] at hb);try (exfalso;omega)))|(refine rg 2 (vV (aL rfl rfl) ?_))|(refine rg 3 (mW rfl (vV (ix T rfl (by omega) (ints_len a) g1) (lW T rfl (qJ ?_)))))|(refine rg 4 (dK rfl (qW T rfl (vV (jX rfl rfl) ?_))))|(refine rg 6 (dK rfl (vV (ix T rfl (by omega) (ints_len b) g2) (lW T rfl (aV ?_)))))|(refine rg 7 (dK rfl (vV (kC (hc)) (aV ?_))))|(refine rg 8 (mW rfl (vV (fG rfl rfl) ?_)))|(refine rg 10 (vV (bV rfl rfl (by omega) (by omega)) (mV ?_)))|refine nZ ?_));all_goals first | (exfalso;omega) | exact ⟨⟨k + 1,by omega,by omega,he.trans e1⟩,by dsimp only;omega,eA []⟩
      · rw [MF h0] at e1;generalize cI x y = q at *
        (repeat' (first|refine wS ?_|refine wB ?_|refine wK ?_|refine wR ?_|(refine wC rfl ?_ ?_<;>(intro hb;(try simp only [nm] at hb);try (exfalso;omega)))|(refine rg 2 (vV (aL rfl rfl) ?_))|(refine rg 3 (mW rfl (vV (ix T rfl (by omega) (ints_len a) g1) (lW T rfl (qJ ?_)))))|(refine rg 4 (dK rfl (qW T rfl (vV (jX rfl rfl) ?_))))|(refine rg 6 (dK rfl (vV (ix T rfl (by omega) (ints_len b) g2) (lW T rfl (aV ?_)))))|(refine rg 7 (dK rfl (vV (kC (hc)) (aV ?_))))|(refine rg 8 (mW rfl (vV (fG rfl rfl) ?_)))|(refine rg 9 (mW rfl (aV ?_)))|refine nZ ?_));all_goals first | (exfalso;omega) | exact cX (.inl rfl) rfl (by rw [he,e1];rfl)
    · have e1 := zM0 h1 (show k = b.length by omega)
      (repeat' (first|refine wS ?_|refine wB ?_|refine wK ?_|refine wR ?_|(refine wC rfl ?_ ?_<;>(intro hb;(try simp only [nm] at hb);try (exfalso;omega)))|(refine rg 2 (vV (aL rfl rfl) ?_))|(refine rg 3 (mW rfl (vV (ix T rfl (by omega) (ints_len a) g1) (lW T rfl (qJ ?_)))))|(refine rg 4 (dK rfl (qW T rfl (vV (jX rfl rfl) ?_))))|(refine rg 5 (aV ?_))|refine nZ ?_));all_goals first | (exfalso;omega) | exact cX (.inl rfl) rfl (by rw [he,e1];rfl)
  · by_cases h2 : k < b.length
    · have e1 := zL9 (show k = a.length by omega) h2
      (repeat' (first|refine wS ?_|refine wR ?_|refine wE ?_|(refine wC rfl ?_ ?_<;>(intro hb;(try simp only [nm] at hb);try (exfalso;omega)))|(refine rg 2 (vV (aL rfl rfl) ?_))|(refine rg 11 (mW rfl (qW T rfl (mW rfl (qW T rfl (vV (aL rfl rfl) ?_))))))|(refine rg 12 (aV ?_))|refine nZ ?_));all_goals first | (exfalso;omega) | exact cX (.inl rfl) rfl (by rw [he,e1];rfl)
    · have e1 := zL8 (show k = a.length by omega) (show k = b.length by omega)
      (repeat' (first|refine wS ?_|refine wK ?_|refine wR ?_|refine wE ?_|(refine wC rfl ?_ ?_<;>(intro hb;(try simp only [nm] at hb);try (exfalso;omega)))|(refine rg 2 (vV (aL rfl rfl) ?_))|(refine rg 11 (mW rfl (qW T rfl (mW rfl (qW T rfl (vV (aL rfl rfl) ?_))))))|(refine rg 13 (aV ?_))|refine nZ ?_));all_goals first | (exfalso;omega) | exact cX (.inl rfl) rfl (by rw [he,e1];rfl)
theorem jI (l : List SP) : ∀ e,e ∈ fA l → e.length = 2 := by intro e he;obtain ⟨n,_,rfl⟩ := bE.1 he;rfl
theorem CU {l : List SP} {k : Nat} (h : k < l.length) : (fA l)[k]? = some [AV.i l[k].1,AV.i l[k].2] := by simp [h]
theorem WX (x y : SP) : aR Tryz.prog 135 [lF x.1 x.2,lF y.1 y.2] [] (.i (cS x y)) [] := by
  have h1 := EF x.1 y.1;have h2 := EF x.2 y.2;have h3 := zX2 (cI x.1 y.1) (cI x.2 y.2);refine bO T Tryz.func135 rfl rfl rfl rfl ?_
  (repeat' (first|refine wS ?_|refine wR ?_|(refine rg 0 (bQ (cD rfl rfl) rfl (bQ (cD rfl rfl) rfl (aV ?_))))|(refine bN (id := 1) 17 [[],[0],[],[2],rN 4,[],[5],[],[7],rN 9,rN 10,rN 11] (rM 5 12) [[],[],[5,6],[5,6],[],rM 5 5,rM 5 5,rM 5 7,rM 5 7,[],[],[]] cJ rfl (by decide +kernel) (dP T rfl (dO T rfl (dP T rfl (dO T rfl (dV rfl (kC (h1)) (dP T rfl (dO T rfl (dP T rfl (dL T ?_)))))))));refine dV rfl (kC (h2)) (zT rfl rfl rfl (by exact bC T rfl rfl (by decide) (by decide) rfl rfl rfl) rfl ?_);refine dV rfl (by exact fB rfl rfl (h3) (by ((repeat (first|exact .nil|exact .v _|refine .cons ?_ ?_|refine .sl rfl (by simp) ?_));done)) rfl rfl) ?_;(all_goals (refine dE ?_;refine aV ?_)))|refine nZ ?_));all_goals first | (exfalso;omega) | exact rQ
end Go.Proofs.YtmmkhmilpeodnaaGreat
