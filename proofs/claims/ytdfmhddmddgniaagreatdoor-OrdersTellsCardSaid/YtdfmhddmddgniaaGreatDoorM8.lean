/-
  Texts of the logic and of the layer,in one module (part 8).
-/
import Derived.Test.YtdfmhddmddgniaaGreatDoorM7
import Derived.Laws.IdiomStrings
set_option linter.unusedVariables false
set_option linter.unusedSimpArgs false
set_option linter.unnecessarySimpa false
namespace Go.Or
open Go Go.Ab Go.Wr Go.Proofs.YtdfmhddmddgniaaGreatDoor
theorem M2 (b n : Int) (t : Tk) (l : List Tk) : gO b n (t :: l) = if t.1 = b then ((gO b (n - min n t.2) l).1,if t.2 - min n t.2 = 0 then (gO b (n - min n t.2) l).2 else (t.1,t.2 - min n t.2) :: (gO b (n - min n t.2) l).2) else ((gO b n l).1,if t.2 = 0 then (gO b n l).2 else t :: (gO b n l).2) := rfl
structure zP7 (H : Hp) (b n0 : Int) (tk : List (List Tk)) (i : Nat) (n : Int) (out : List (List Tk)) (p : Nat) (Y : Hp) : Prop where
  il : i ≤ tk.length
  nn : 0 ≤ n
  nb : n ≤ 1000000000000
  ol : out.length = i
  eq : kW b n0 tk = out ++ kW b n (tk.drop i)
  old : ∀ k,k < H.length → Y[k]? = H[k]?
  le : H.length ≤ Y.length
  at_ : Y[p]? = some (.arr (xK out) 1)
  pl : H.length ≤ p
  fl : out.flatten.length ≤ (tk.take i).flatten.length
structure YX (H : Hp) (b n0 : Int) (li : List Tk) (out : List (List Tk)) (p : Nat) (k : Nat) (n : Int) (l : List Tk) (q : Nat) (Y : Hp) : Prop where
  kl : k ≤ li.length
  nn : 0 ≤ n
  nb : n ≤ 1000000000000
  eq : gO b n0 li = ((gO b n (li.drop k)).1,l ++ (gO b n (li.drop k)).2)
  ll : l.length ≤ k
  old : ∀ k,k < H.length → Y[k]? = H[k]?
  le : H.length ≤ Y.length
  at_ : Y[p]? = some (.arr (xK out) 1)
  aq : Y[q]? = some (.arr (eZ l) 2)
  ql : H.length ≤ q
  ne : p ≠ q
theorem YX.skip {H : Hp} {b n0 : Int} {li : List Tk} {out : List (List Tk)} {p k : Nat} {n : Int} {l : List Tk} {q : Nat} {Y : Hp} (h : YX H b n0 li out p k n l q Y) (hk : k < li.length) (h1 : li[k].1 = b) (h2 : li[k].2 - min n li[k].2 = 0) (Z : Hp) (h3 : 1 ≤ li[k].2) :
    YX H b n0 li out p (k + 1) (n - min n li[k].2) l q (Y ++ Z) := by
  have he := h.eq;rw [aO hk,M2,if_pos h1,if_pos h2] at he;have := h.nn;have := h.nb;exact ⟨hk,by omega,by omega,he,O0 h.ll,fun k hk => (fU (cC hk h.le)).trans (h.old k hk),by rw [aB];have := h.le;omega,bL h.at_,bL h.aq,h.ql,h.ne⟩
theorem YX.keep {H : Hp} {b n0 : Int} {li : List Tk} {out : List (List Tk)} {p k : Nat} {n : Int} {l : List Tk} {q : Nat} {Y : Hp} (h : YX H b n0 li out p k n l q Y) (hk : k < li.length) (n' : Int) (hn : 0 ≤ n' ∧ n' ≤ n) (x : Tk) (hx : gO b n (li.drop k) = ((gO b n' (li.drop (k + 1))).1,x :: (gO b n' (li.drop (k + 1))).2)) (Z : Hp) :
    YX H b n0 li out p (k + 1) n' (l ++ [x]) (Y ++ Z).length ((Y ++ Z).set q .gone ++ [.arr (eZ (l ++ [x])) 2]) := by
  have he := h.eq;rw [hx] at he;have hql := (aA.1 h.aq).1;have hpl := (aA.1 h.at_).1;have hlen : ((Y ++ Z).set q AB.gone).length = (Y ++ Z).length := eC;have hh := h.le;have hlen2 : (Y ++ Z).length = Y.length + Z.length := aB;have hnb := h.nb;refine ⟨hk,hn.1,by omega,by rw [he];simp,by rw [aB,bZ];have := h.ll;omega,fun k hk => ?_,by rw [aB,hlen];omega,bL (fO h.ne (bL h.at_)),by rw [← hlen];exact bY,by omega,by omega⟩
  have hkq : k ≠ q := fun e => by have := h.ql;omega
  rw [fU (by omega),eX hkq,fU (by omega),h.old k hk]
theorem YX.fin {H : Hp} {b n0 : Int} {li : List Tk} {out : List (List Tk)} {p k : Nat} {n : Int} {l : List Tk} {q : Nat} {Y : Hp} (h : YX H b n0 li out p k n l q Y) (hk : ¬ k < li.length) : gO b n0 li = (n,l) := by
  have he := h.eq;rw [dH (by omega)] at he
  simpa [gO] using he
theorem ZY {out : List (List Tk)} {l : List Tk} {n : Nat} (h : n = out.length) : List.take n (List.drop 0 (xK out)) ++ [[AV.rowE (eZ l) 2]] = xK (out ++ [l]) := by
  rw [cP,aQ (by simp;omega)];simp
end Go.Or
namespace Go.Proofs.YtdfmhddmddgniaaGreatDoor
open Go Go.Ab Go.Or Go.Wr
attribute [local irreducible] VC AW bJ bI eO jT rZ nB qB
set_option maxHeartbeats 4000000
theorem RJ {H : Hp} {pb po : Nat} {bk : Bk} (hB : G8 H pb po bk) (ok : oS bk) (no body n0 tick : Int) :
    eO Tryz.prog 46 [.ptr pb 0,.i no,.i body,.i n0,.i tick] H (zG2 H pb po (.i (mC bk no body n0 tick).1) (mC bk no body n0 tick).2) := by
  have hv := hB.view;have hle := ok.le;have hsc := D7 bk no (by omega)
  have hB0 := hB;have hz := ok.sz;obtain ⟨L,h,rfl⟩ := hB;rw [bF] at hle;have hbk := h.b;have hne := h.ne;unfold mC;refine jS T Tryz.func46 rfl rfl rfl rfl ?_;by_cases hr : no < 0 ∨ ((L.map (·.1)).length : Int) ≤ no
  · obtain ⟨e1,e2⟩ := P3 (ss := [1]) hr;rw [e1] at hsc;rw [e2,if_pos (by decide)]
    (repeat' (first|refine wS ?_|refine wR ?_|refine wT ?_|(refine rg 0 (aV ?_))|(refine rg 1 (dS rfl (vV (by exact cM rfl rfl hsc (.cons hv (.cons (.v _) .nil)) rfl rfl) ?_));refine vV (cJ rfl rfl (by omega)) ?_)|(refine rg 2 (aV ?_))|refine nZ ?_));all_goals first | (exfalso;omega) | exact ⟨.inl rfl,_,rfl,rfl,po,hB0,Fr.refl _ _⟩
  obtain ⟨e1,e2⟩ := CY (ss := [1]) hr;rw [bF] at hr;obtain ⟨e,he,hge⟩ := R5 (L := L) (i := no.toNat) (by omega)
  have hme : e.1 ∈ L.map (·.1) := aK.2 ⟨e,aJ he,rfl⟩;have hod := ok.od _ hme;have hs0 := hod.st0;rw [hge] at e1 e2;rw [e1] at hsc;have hg := T0 he;have hpol := (aA.1 h.o).1;have hpbl := (aA.1 h.b).1;have hnl : no.toNat < L.length := by omega
  by_cases hin : e.1.st = 1
  case neg =>
    have e3 : kB (L.map (·.1)) no [1] = 7 := by rw [e2];exact if_neg (by simpa using hin)
    rw [e3,if_pos (by decide)]
    (repeat' (first|refine wS ?_|refine wK ?_|refine wR ?_|refine wT ?_|refine wU ?_|(refine rg 0 (aV ?_))|(refine rg 1 (dS rfl (vV (by exact cM rfl rfl hsc (.cons hv (.cons (.v _) .nil)) rfl rfl) ?_));refine vV (cX rfl rfl (by omega)) ?_)|(refine rg 3 (dS rfl (vV (by exact cM rfl rfl hsc (.cons hv (.cons (.v _) .nil)) rfl rfl) ?_));refine vV (qQ rfl rfl (by omega)) ?_)|(refine rg 4 (aV ?_))|refine nZ ?_));all_goals first | (exfalso;omega) | exact ⟨.inl rfl,_,rfl,rfl,po,hB0,Fr.refl _ _⟩
  have e3 : kB (L.map (·.1)) no [1] = 0 := by rw [e2];exact if_pos (by simpa using hin)
  rw [e3,if_neg (by decide),hge]
  by_cases hn1 : n0 < 1
  · rw [if_pos hn1]
    (repeat' (first|refine wS ?_|refine wK ?_|refine wR ?_|refine wT ?_|refine wU ?_|(refine rg 0 (aV ?_))|(refine rg 1 (dS rfl (vV (by exact cM rfl rfl hsc (.cons hv (.cons (.v _) .nil)) rfl rfl) ?_));refine vV (cX rfl rfl (by omega)) ?_)|(refine rg 3 (dS rfl (vV (by exact cM rfl rfl hsc (.cons hv (.cons (.v _) .nil)) rfl rfl) ?_));refine vV (iC rfl rfl (by omega)) ?_)|(refine rg 5 (mW rfl (vV (cJ rfl rfl (by omega)) ?_)))|(refine rg 6 (aV ?_))|refine nZ ?_));all_goals first | (exfalso;omega) | exact ⟨.inl rfl,_,rfl,rfl,po,hB0,Fr.refl _ _⟩
  rw [if_neg hn1];have htk : e.2 = mA e.1.tk := by
    rcases h.t e (aJ he) with h1 | ⟨_,h2⟩
    · exact h1
    · exact absurd (by rw [h2];rfl) (hod.ne hin)
  have hbd := hz.tk _ hme;have hfr := MF e.1 body hbd.1 hbd.2 (hz.sum.bk.1 _ hme);have hpos := hod.ok;have hn12 := (hz.sum.bk.1 _ hme body e.1.tk.flatten.length).2;rw [dJ] at hn12;have hfew := hod.few;have hU := fun (Z : Hp) (hz : ∀ k,k < H.length → Z[k]? = H[k]?) (hzl : H.length ≤ Z.length) (o' : Od) (x' : AV) (ht : zH4 (o',x')) => by
    have hA : G9 Z pb po L := h.frame (hz pb hpbl) (hz po hpol);have hF : Fr H [pb,po] Z [pb,po] := ⟨hzl,fun k hk _ => hz k hk,fun k hk => .inl hk⟩
    have hq := hA.upd no.toNat o' x' ht [];rw [List.append_nil] at hq;exact (⟨hq.1,hF.trans hq.2⟩ : _ ∧ _)
  obtain ⟨o,x⟩ := e;dsimp only at *;subst htk
  (repeat' (first|refine wS ?_|refine wK ?_|refine wU ?_|(refine rg 0 (aV ?_))|(refine rg 1 (dS rfl (vV (by exact cM rfl rfl hsc (.cons hv (.cons (.v _) .nil)) rfl rfl) ?_));refine vV (cX rfl rfl (by omega)) ?_)|(refine rg 3 (dS rfl (vV (by exact cM rfl rfl hsc (.cons hv (.cons (.v _) .nil)) rfl rfl) ?_));refine vV (iC rfl rfl (by omega)) ?_)|(refine rg 5 (mW rfl (vV (cX rfl rfl (by omega)) ?_)))|(refine rg 7 (mW rfl (nV ?_));refine fW T rfl (vV (by exact aX T rfl rfl (bW hbk) rfl) ?_);refine mW rfl (vV (by exact bQ T rfl rfl rfl rfl rfl (by omega) (by omega)) ?_);refine vV (by exact aX T rfl rfl (eJ h.o hg) rfl) ?_;refine dQ (dC T rfl) rfl (bA T rfl rfl rfl rfl rfl rfl (by decide) (oC bY rfl rfl) ?_))|refine nZ ?_));all_goals try (exfalso;omega)
  rw [jU];refine fK 11 (cs := zU o) rfl bY rfl ?_;rw [jR];by_cases hsu : eW o.tk.flatten body < n0
  · rw [if_pos hsu]
    (repeat' (first|refine wS ?_|refine wR ?_|refine wT ?_|(refine rg 8 (lW T rfl (mW rfl (vV (kC (hfr)) (mW rfl (vV (cJ rfl rfl (by omega)) ?_))))))|(refine rg 9 (aV ?_))|refine nZ ?_));all_goals first | (exfalso;omega) | exact ⟨.inl rfl,_,rfl,rfl,po,hB0.app _,⟨by simp,fun k hk _ => fU hk,fun k hk => .inl hk⟩⟩
  rw [if_neg hsu]
  (repeat' (first|refine wS ?_|refine wK ?_|refine wU ?_|(refine rg 8 (lW T rfl (mW rfl (vV (kC (hfr)) (mW rfl (vV (cX rfl rfl (by omega)) ?_))))))|(refine rg 10 (aV ?_))|refine nZ ?_));all_goals try (exfalso;omega)
  refine pY 12 1 rfl (by decide) ?_
  (repeat' (first|refine wS ?_|refine wB ?_|(refine rg 11 (aV ?_))|(refine rg 12 (aV ?_))|refine nZ ?_));have htl := kD o.tk
  refine lK (X := {x : Nat × Int × List (List Tk) × Nat × Hp // zP7 H body n0 o.tk x.1 x.2.1 x.2.2.1 x.2.2.2.1 x.2.2.2.2}) (fun x => [(0, .ptr pb 0), (1, .i no), (2, .i body), (3, .i x.1.2.1), (4, .i tick), (11, .pr (zU o) 0), (12, .sl x.1.2.2.2.1 0 x.1.1 1), (13, .i (x.1.2.2.1.flatten.length : Int)), (14, .i (x.1.1 : Int))]) (fun x => x.1.2.2.2.2) (fun x => o.tk.length - x.1.1)
    ⟨(0,n0,[],(H ++ [AB.gone]).length,H ++ [.gone] ++ [.arr [] 1]),⟨bG _,by dsimp only;omega,by dsimp only;omega,rfl,rfl,fun k hk => (fU (by rw [aB];omega)).trans (fU hk),by simp,bY,by simp,by simp⟩⟩ (mP.of rfl (by repeat first|exact trivial|refine ⟨rfl,?_⟩)) ?_
  rintro ⟨⟨i,n,out,p,Y⟩,g⟩;dsimp only at g ⊢;have gol := g.ol;by_cases hil : i < o.tk.length
  · have hgi := tV hil;have hft := sH hil;have hfl := @YH _ o.tk (i + 1);have hlb := hbd.2 _ (aH hil);have hlp := hpos _ (aH hil);have hge2 := g.eq;rw [aO hil,kW] at hge2;have gfl := g.fl;have htb : (o.tk.take i).flatten.length ≤ 20 * 20000 + 0 := by
      have : ∀ (t : List (List Tk)),(∀ l,l ∈ t → l.length ≤ 20000) → t.flatten.length ≤ 20000 * t.length := fun t => by
        induction t with
        | nil => intro _;simp
        | cons a t ih =>
          intro hh;have h1 := ih fun l hl => hh l (aF _ hl);have h2 := hh a aL;rw [cH,aB,List.length_cons];omega
      have h1 := this (o.tk.take i) fun l hl => hfew.2 l (gB hl);rw [bT] at h1;have := hfew.1;have : min i o.tk.length ≤ 20 := by omega
      calc _ ≤ 20000 * min i o.tk.length := h1
        _ ≤ 20000 * 20 := Nat.mul_le_mul_left _ this
        _ = _ := by decide
    generalize o.tk[i] = li at *;have hll := kT li;have gat := g.at_
    (repeat' (first|refine wS ?_|refine wB ?_|refine wK ?_|refine wT ?_|(refine rg 13 (mW rfl (eT T rfl (qW T rfl (vV (cJ rfl rfl (by omega)) ?_)))))|(refine rg 15 (aV ?_))|refine nZ ?_));all_goals try (exfalso;omega)
    refine pY 15 2 rfl (by decide) ?_
    (repeat' (first|refine wB ?_|(refine rg 16 (aV ?_))|refine nZ ?_));have hYp := (aA.1 gat).1
    refine lK (X := {x : Nat × Int × List Tk × Nat × Hp // YX H body n li out p x.1 x.2.1 x.2.2.1 x.2.2.2.1 x.2.2.2.2}) (fun x => [(0, .ptr pb 0), (1, .i no), (2, .i body), (3, .i x.1.2.1), (4, .i tick), (11, .pr (zU o) 0), (12, .sl p 0 i 1), (13, .i ((out.flatten.length + x.1.2.2.1.length : Nat) : Int)), (14, .i (i : Int)), (15, .sl x.1.2.2.2.1 0 x.1.2.2.1.length 2), (16, .i (x.1.1 : Int))]) (fun x => x.1.2.2.2.2) (fun x => li.length - x.1.1)
      ⟨(0,n,[],Y.length,Y ++ [.arr [] 2]),⟨bG _,g.nn,g.nb,rfl,aU _,fun k hk => (fU (cC hk g.le)).trans (g.old k hk),by rw [aB];have := g.le;omega,bL gat,bY,g.le,by dsimp only;omega⟩⟩ (mP.of rfl (by repeat first|exact trivial|refine ⟨rfl,?_⟩)) ?_
    rintro ⟨⟨k,m,l,q,V⟩,v⟩;dsimp only at v ⊢;have vll := v.ll;have vnn := v.nn;by_cases hkl : k < li.length
    · have hgk := xO hkl;have hp1 := (hlp _ (aH hkl)).2.2;have vnb := v.nb;have hskip := v.skip hkl;have hkeep := v.keep hkl;have hcons : gO body m (li.drop k) = gO body m (li[k] :: li.drop (k + 1)) := by rw [aO hkl]
      rw [M2] at hcons;have vaq := v.aq;generalize li[k] = t at *;obtain ⟨t1,t2⟩ := t;dsimp only at *
      (repeat' (first|refine wS ?_|refine wB ?_|refine wK ?_|refine wT ?_|(refine rg 17 (mW rfl (eT T rfl (mW rfl (vV (ix T rfl (by omega) (gJ _) hgi) (lW T rfl (qW T rfl (vV (cJ rfl rfl (by omega)) ?_))))))))|(refine rg 19 (eT T rfl (mW rfl (vV (ix T rfl (by omega) (gJ _) hgi) (lW T rfl (mW rfl (vV (ix T rfl (by omega) (nD _) hgk) (lW T rfl (dQ (dC T rfl) rfl (bA T rfl rfl rfl rfl rfl rfl (by decide) (oC bY rfl rfl) ?_))))))))))|refine nZ ?_));all_goals try (exfalso;omega)
      rw [jU];have hvq := (aA.1 vaq).1;by_cases hbd : t1 = body
      · rw [if_pos hbd] at hcons;by_cases h0 : t2 - min m t2 = 0
        · have hnx := hskip hbd h0 [.cells [.i t1,.i (t2 - min m t2)]] hp1.1
          (repeat' (first|refine wS ?_|refine wK ?_|refine wT ?_|refine wU ?_|(refine rg 20 (fW T rfl (vV (by exact aX T rfl rfl (bW bY) rfl) ?_));refine mW rfl (vV (lS rfl rfl (by omega)) ?_))|(refine rg 21 (mW rfl (fW T rfl (vV (by exact aX T rfl rfl (bW bY) rfl) ?_)));refine vV (rF rfl rfl) (aV ?_))|(refine rg 22 (fW T rfl (vV (by exact aX T rfl rfl (bW bY) rfl) ?_));refine mW rfl (vV (fX rfl rfl (by omega) (by omega)) (fW T rfl (bA T rfl rfl rfl rfl rfl rfl (by decide) (oC bY rfl rfl) ?_))))|(refine rg 23 (dS rfl (vV (fX rfl rfl (by omega) (by omega)) (aV ?_))))|(refine rg 24 (fW T rfl (vV (by exact aX T rfl rfl (bW (gE (by simp))) rfl) ?_));refine vV (iU rfl rfl (by omega)) ?_)|(refine iA 18 rfl rfl rfl (by omega) (by omega) ?_)|refine nZ ?_));all_goals try (exfalso;omega)
          all_goals exact ⟨⟨(k + 1,m - min m t2,l,q,V ++ [.cells [.i t1,.i (t2 - min m t2)]]),hnx⟩,by dsimp only;omega,mP.of (by first | exact jU | (dsimp only;rw [jU];rfl)) (by dsimp only;(repeat (first | exact trivial | refine ⟨rfl,?_⟩)))⟩
        · rw [if_neg h0] at hcons;have hnx := hkeep (m - min m t2) ⟨by omega,by omega⟩ (t1,t2 - min m t2) hcons [.cells [.i t1,.i (t2 - min m t2)],.arr [[.i t1,.i (t2 - min m t2)]] 2]
          have hta := I5 l (t1,t2 - min m t2);dsimp only at hta
          (repeat' (first|refine wS ?_|refine wT ?_|(refine rg 20 (fW T rfl (vV (by exact aX T rfl rfl (bW bY) rfl) ?_));refine mW rfl (vV (lS rfl rfl (by omega)) ?_))|(refine rg 21 (mW rfl (fW T rfl (vV (by exact aX T rfl rfl (bW bY) rfl) ?_)));refine vV (rF rfl rfl) (aV ?_))|(refine rg 22 (fW T rfl (vV (by exact aX T rfl rfl (bW bY) rfl) ?_));refine mW rfl (vV (fX rfl rfl (by omega) (by omega)) (fW T rfl (bA T rfl rfl rfl rfl rfl rfl (by decide) (oC bY rfl rfl) ?_))))|refine nZ ?_));all_goals try (exfalso;omega)
          rw [jU]
          (repeat' (first|refine wS ?_|refine wT ?_|(refine rg 23 (dS rfl (vV (fX rfl rfl (by omega) (by omega)) (aV ?_))))|(refine rg 24 (fW T rfl (vV (by exact aX T rfl rfl (bW bY) rfl) ?_));refine vV (iE rfl rfl (by omega)) ?_)|(refine rg 25 (mW rfl (vV (by exact aX T rfl rfl (bW bY) rfl) ?_));refine dQ (by exact bO T rfl rfl (by decide) (by decide) rfl rfl rfl) rfl ?_;refine fH T rfl rfl rfl rfl rfl (bL (bL vaq)) (by simp) (jA.whole bY rfl) rfl (by simp;omega) (by simp;omega) rfl ?_;refine aV ?_)|(refine iA 26 rfl rfl rfl (by omega) (by omega) ?_)|(refine iA 18 rfl rfl rfl (by omega) (by omega) ?_)|refine nZ ?_));all_goals try (exfalso;omega)
          all_goals exact ⟨⟨(k + 1,m - min m t2,l ++ [(t1,t2 - min m t2)],_,_),hnx⟩,by dsimp only;omega,mP.of (by dsimp only;rw [← hta];simp) (by dsimp only;rw [aB,bZ];simp;(repeat (first | exact trivial | refine ⟨rfl,?_⟩)))⟩
      · rw [if_neg hbd,if_neg (by omega)] at hcons
        have hnx := hkeep m ⟨vnn,uM _⟩ (t1,t2) hcons [.cells [.i t1,.i t2],.arr [[.i t1,.i t2]] 2];have hta := I5 l (t1,t2);dsimp only at hta
        (repeat' (first|refine wS ?_|refine wK ?_|refine wT ?_|refine wU ?_|(refine rg 20 (fW T rfl (vV (by exact aX T rfl rfl (bW bY) rfl) ?_));refine mW rfl (vV (oT rfl rfl (by omega)) ?_))|(refine rg 24 (fW T rfl (vV (by exact aX T rfl rfl (bW bY) rfl) ?_));refine vV (iE rfl rfl (by omega)) ?_)|(refine rg 25 (mW rfl (vV (by exact aX T rfl rfl (bW bY) rfl) ?_));refine dQ (by exact bO T rfl rfl (by decide) (by decide) rfl rfl rfl) rfl ?_;refine fH T rfl rfl rfl rfl rfl (bL (bL vaq)) (by simp) (jA.whole bY rfl) rfl (by simp;omega) (by simp;omega) rfl ?_;refine aV ?_)|(refine iA 26 rfl rfl rfl (by omega) (by omega) ?_)|(refine iA 18 rfl rfl rfl (by omega) (by omega) ?_)|refine nZ ?_));all_goals try (exfalso;omega)
        all_goals exact ⟨⟨(k + 1,m,l ++ [(t1,t2)],_,_),hnx⟩,by dsimp only;omega,mP.of (by dsimp only;rw [← hta];simp) (by dsimp only;rw [aB,bZ];simp;(repeat (first | exact trivial | refine ⟨rfl,?_⟩)))⟩
    · have hfin := v.fin hkl;rw [hfin] at hge2;have hVl := v.le;have vkl := v.kl;have hVp := v.at_;have hVq := v.ql;have hpn := v.ne;have hpl := g.pl;have hlen1 : (V.set q AB.gone).length = V.length := eC;have hlen2 : (V.set q AB.gone ++ [AB.arr [[AV.rowE (eZ l) 2]] 1]).length = V.length + 1 := by rw [aB,hlen1];rfl
      have hVp2 : (V.set q AB.gone)[p]? = some (.arr (xK out) 1) := fO hpn hVp;have hto := ZY (l := l) (n := i) gol.symm;have hol : (out ++ [l]).flatten.length = out.flatten.length + l.length := by rw [gQ,aB,show ([l] : List (List Tk)).flatten = l by simp]
      have hnx : zP7 H body n0 o.tk (i + 1) m (out ++ [l]) (V.set q AB.gone ++ [AB.arr [[AV.rowE (eZ l) 2]] 1]).length ((V.set q AB.gone ++ [AB.arr [[AV.rowE (eZ l) 2]] 1]).set p AB.gone ++ [AB.arr (xK (out ++ [l])) 1]) := by
        have e1 : ((V.set q AB.gone ++ [AB.arr [[AV.rowE (eZ l) 2]] 1]).set p AB.gone).length = (V.set q AB.gone ++ [AB.arr [[AV.rowE (eZ l) 2]] 1]).length := eC;refine ⟨hil,vnn,v.nb,by rw [aB,gol];rfl,by rw [hge2];simp,fun j hj => ?_,by rw [aB,e1,hlen2];omega,by rw [← e1];exact bY,by rw [hlen2];omega,by rw [hol,hft];omega⟩
        have j1 : j ≠ p := by omega
        have j2 : j ≠ q := by omega
        rw [fU (by rw [e1,hlen2];omega),eX j1,fU (by rw [hlen1];omega),eX j2,v.old j hj]
      (repeat' (first|refine wS ?_|refine wE ?_|refine wU ?_|(refine rg 17 (mW rfl (eT T rfl (mW rfl (vV (ix T rfl (by omega) (gJ _) hgi) (lW T rfl (qW T rfl (vV (cX rfl rfl (by omega)) ?_))))))))|refine nZ ?_));all_goals try (exfalso;omega)
      refine L2 15 (es := eZ l) rfl v.aq (kT _).symm (TX _) ?_
      (repeat' (first|(refine rg 27 (dS rfl (dQ (by exact bO T rfl rfl (by decide) (by decide) rfl rfl rfl) rfl ?_));refine fH T rfl rfl rfl rfl rfl (bL hVp2) (by simp;omega) (jA.whole bY rfl) rfl (by simp;omega) (by simp;omega) rfl ?_;refine aV ?_)|(refine iA 14 rfl rfl rfl (by omega) (by omega) ?_)|refine nZ ?_));all_goals try (exfalso;omega)
      all_goals exact ⟨⟨(i + 1,m,out ++ [l],_,_),hnx⟩,by dsimp only;omega,mP.of (by dsimp only;rw [← hto];rfl) (by dsimp only;rw [hol];(repeat (first | exact trivial | refine ⟨rfl,?_⟩)))⟩
  · have hge2 := g.eq;rw [dH (by omega),JQ,List.append_nil] at hge2
    have gat := g.at_;have hpl := g.pl;have hYl := g.le;have hZ : ∀ k,k < H.length → (Y.set p AB.gone)[k]? = H[k]? := fun k hk => by
      have j1 : k ≠ p := by omega
      rw [eX j1,g.old k hk]
    have hZl : H.length ≤ (Y.set p AB.gone).length := by rw [eC];exact hYl
    have hU1 := hU _ hZ hZl { o with tk := out } (mA out) (.inl rfl);have hU2 := hU _ hZ hZl { o with st := 2,tk := [] } .nils (.inr ⟨rfl,rfl⟩);have hU3 := hU _ hZ hZl { o with st := 3,tk := [] } .nils (.inr ⟨rfl,rfl⟩);have hbk2 := (hZ pb hpbl).trans hbk;have hob2 := (hZ po hpol).trans h.o;have hpo2 : po < (Y.set p AB.gone).length := by omega
    have hemp : (kW body n0 o.tk).all (·.isEmpty) = decide (out.flatten.length = 0) := by
      rw [hge2,qD,V4,decide_eq_true_eq,iR]
    unfold qJ;rw [hemp,hge2]
    (repeat' (first|refine wS ?_|refine wE ?_|refine wU ?_|(refine rg 13 (mW rfl (eT T rfl (qW T rfl (vV (cX rfl rfl (by omega)) ?_)))))|refine nZ ?_));all_goals try (exfalso;omega)
    refine L2 12 (es := xK out) rfl gat (by rw [kD];omega) (TW _) ?_
    generalize Y.set p AB.gone = Z at *;by_cases h0 : out.flatten.length = 0
    · rw [decide_eq_true h0,if_pos rfl];by_cases hdue : tick ≤ o.due
      · rw [if_pos hdue]
        (repeat' (first|refine wS ?_|refine wK ?_|refine wR ?_|refine wT ?_|refine wU ?_|(refine rg 28 (mW rfl (vV (iU rfl rfl (by omega)) ?_)))|(refine rg 31 (mW rfl (nV ?_));refine fW T rfl (vV (by exact aX T rfl rfl (bW hbk2) rfl) ?_);refine mW rfl (vV (by exact bQ T rfl rfl rfl rfl rfl (by omega) (by omega)) ?_);refine fW T rfl (bA T rfl rfl rfl rfl rfl rfl (by decide) (lT hob2 hg rfl rfl) ?_))|(refine rg 32 (mW rfl (nV ?_));refine fW T rfl (vV (by exact aX T rfl rfl (bW (fO hne hbk2)) rfl) ?_);refine mW rfl (vV (by exact bQ T rfl rfl rfl rfl rfl (by omega) (by omega)) ?_);refine fW T rfl (fV T ?_);refine bA T rfl rfl rfl rfl rfl rfl (by decide) (lT (gE hpo2) (by rw [dY (by simpa using hnl)]) rfl rfl) ?_)|(refine rg 33 (mW rfl (fW T rfl (fW T rfl (vV (aX T rfl rfl rfl rfl) (vV (mM rfl rfl (by omega)) ?_))))))|(refine rg 34 (mW rfl (nV ?_));refine fW T rfl (vV (by exact aX T rfl rfl (bW (fO hne (fO hne hbk2))) rfl) ?_);refine mW rfl (vV (by exact bQ T rfl rfl rfl rfl rfl (by omega) (by omega)) ?_);refine fW T rfl (fV T ?_);refine bA T rfl rfl rfl rfl rfl rfl (by decide) (lT (gE (by simpa using hpo2)) (by rw [dY (by simpa using hnl)]) rfl rfl) ?_)|(refine rg 35 (aV ?_))|refine nZ ?_));all_goals first | (exfalso;omega;done) | skip
        all_goals exact ⟨.inl rfl,_,rfl,rfl,po,by simp only [fG,Nat.zero_add];exact hU2⟩
      · rw [if_neg hdue]
        (repeat' (first|refine wS ?_|refine wK ?_|refine wR ?_|refine wU ?_|(refine rg 28 (mW rfl (vV (iU rfl rfl (by omega)) ?_)))|(refine rg 31 (mW rfl (nV ?_));refine fW T rfl (vV (by exact aX T rfl rfl (bW hbk2) rfl) ?_);refine mW rfl (vV (by exact bQ T rfl rfl rfl rfl rfl (by omega) (by omega)) ?_);refine fW T rfl (bA T rfl rfl rfl rfl rfl rfl (by decide) (lT hob2 hg rfl rfl) ?_))|(refine rg 32 (mW rfl (nV ?_));refine fW T rfl (vV (by exact aX T rfl rfl (bW (fO hne hbk2)) rfl) ?_);refine mW rfl (vV (by exact bQ T rfl rfl rfl rfl rfl (by omega) (by omega)) ?_);refine fW T rfl (fV T ?_);refine bA T rfl rfl rfl rfl rfl rfl (by decide) (lT (gE hpo2) (by rw [dY (by simpa using hnl)]) rfl rfl) ?_)|(refine rg 33 (mW rfl (fW T rfl (fW T rfl (vV (aX T rfl rfl rfl rfl) (vV (sX rfl rfl (by omega)) ?_))))))|(refine rg 35 (aV ?_))|refine nZ ?_));all_goals first | (exfalso;omega;done) | skip
        all_goals exact ⟨.inl rfl,_,rfl,rfl,po,by simp only [fG,Nat.zero_add];exact hU3⟩
    · rw [decide_eq_false h0,if_neg (by simp)]
      (repeat' (first|refine wS ?_|refine wR ?_|refine wT ?_|(refine rg 28 (mW rfl (vV (iE rfl rfl (by omega)) ?_)))|(refine rg 29 (mW rfl (nV ?_));refine fW T rfl (vV (by exact aX T rfl rfl (bW hbk2) rfl) ?_);refine dS rfl (vV (by exact bQ T rfl rfl rfl rfl rfl (by omega) (by omega)) ?_);refine fW T rfl (bA T rfl rfl rfl rfl rfl rfl (by decide) (lT hob2 hg rfl rfl) ?_))|(refine rg 30 (aV ?_))|refine nZ ?_));all_goals first | (exfalso;omega;done) | skip
      all_goals exact ⟨.inl rfl,_,rfl,rfl,po,by simp only [Nat.zero_add];exact hU1⟩
end Go.Proofs.YtdfmhddmddgniaaGreatDoor
namespace Go.Or
open Go Go.Ab Go.Wr Go.Proofs.YtdfmhddmddgniaaGreatDoor
end Go.Or
namespace Go.Proofs.YtdfmhddmddgniaaGreatDoor
open Go Go.Ab Go.Or Go.Wr
attribute [local irreducible] VC AW bJ bI eO jT rZ nB qB
set_option maxHeartbeats 4000000
theorem KE (ls : List Lo) (sure : List Bo) (bk : Bk) (o : Od) (hbl : bk.length ≤ 1000000) (h1 : ∀ o,o ∈ bk → o.tk.length ≤ 1000000 ∧ ∀ l,l ∈ o.tk → l.length ≤ 1000000) (hs : CT bk) (ho : o.tk.length ≤ 1000000 ∧ ∀ l,l ∈ o.tk → l.length ≤ 1000000) (hw : o.tk.length ≤ o.ws.length ∧ o.ws.length ≤ 1000000) (hn : ∀ l,l ∈ o.tk → ∀ t,t ∈ l → 0 ≤ t.1) (hll : ls.length ≤ 1000000) (hsl : sure.length ≤ 1000000) (hk : ∀ i : Nat,i < sure.length → (sure.getD i (0,0,0)).1 < ls.length) :
    bI Tryz.prog 66 [xX bk,.agg (zU o),.rowE (iX ls) 3,.rowE (eY sure) 3] [] (.b (!rW ls sure bk o)) [] := by
  have htl := kD o.tk;have hbs := fM sure;have hwl := gD o.ws;refine dA T Tryz.func66 rfl rfl rfl rfl ?_
  (repeat' (first|refine wS ?_|(refine rg 0 (dQ (fE rfl rfl) rfl (aV ?_)))|refine nZ ?_));refine fK 5 (cs := zU o) rfl rfl rfl ?_
  (repeat' (first|refine wB ?_|(refine rg 1 (aV ?_))|refine nZ ?_));refine dR (X := {i : Nat // i ≤ o.tk.length ∧ ∀ j,j < i → ((o.tk.getD j []).any fun t => !tT ls sure bk t (o.ws.getD j (0,0,0))) = false}) (fun i => [(0,xX bk),(2,.rowE (iX ls) 3),(3,.rowE (eY sure) 3),(5,.pr (zU o) 0),(9,.i (i.1 : Int))]) (fun _ => []) (fun i => o.tk.length - i.1) ⟨0,bG _,fun j hj => absurd hj (eM _)⟩ ⟨[],rfl,by (repeat (first | exact trivial | refine ⟨rfl,?_⟩)),trivial,aI,iK _⟩ ?_
  rintro ⟨i,hi,hno⟩;dsimp only;by_cases hil : i < o.tk.length
  · have hgi := tV hil;have hgd : o.tk.getD i [] = o.tk[i] := by rw [aD,aC hil];rfl
    have hyes := fun h => NG (ls := ls) (sure := sure) (bk := bk) (o := o) hil h;have hlb := ho.2 _ (aH hil);have hln := hn _ (aH hil);have hgw := QK (l := o.ws) (i := i) (by omega)
    rw [hgd] at hyes;have hsn : ((o.tk[i]).any fun t => !tT ls sure bk t (o.ws.getD i (0,0,0))) = false → ∀ j,j < i + 1 → ((o.tk.getD j []).any fun t => !tT ls sure bk t (o.ws.getD j (0,0,0))) = false := fun h j hj => by
      rcases gP j i with h1 | h1
      · exact hno j h1
      · obtain rfl : j = i := by omega
        rw [hgd];exact h
    generalize o.tk[i] = li at *;generalize o.ws.getD i (0,0,0) = w at *;have hl3 := kT li
    (repeat' (first|refine wS ?_|refine wB ?_|refine wK ?_|refine wT ?_|(refine rg 2 (mW rfl (eT T rfl (qW T rfl (vV (cJ rfl rfl (by omega)) ?_)))))|(refine rg 4 (aV ?_))|refine nZ ?_));all_goals try (exfalso;omega)
    refine dR (X := {k : Nat // k ≤ li.length ∧ ∀ t,t ∈ li.take k → tT ls sure bk t w = true}) (fun k => [(0,xX bk),(2,.rowE (iX ls) 3),(3,.rowE (eY sure) 3),(5,.pr (zU o) 0),(9,.i (i : Int)),(10,.i (k.1 : Int))]) (fun _ => []) (fun k => li.length - k.1) ⟨0,bG _,fun t ht => by simp at ht⟩ ⟨[],rfl,by (repeat (first | exact trivial | refine ⟨rfl,?_⟩)),trivial,aI,iK _⟩ ?_
    rintro ⟨k,hk1,hk2⟩;dsimp only;by_cases hkl : k < li.length
    · have hgk := xO hkl;have hnx : tT ls sure bk li[k] w = true → ∀ t,t ∈ li.take (k + 1) → tT ls sure bk t w = true := fun h t ht => by
        rw [bB hkl] at ht;rcases bH.1 ht with ht | ht
        · exact hk2 t ht
        · rw [bK.1 ht];exact h
      have hbad : tT ls sure bk li[k] w = false → rW ls sure bk o = true := fun h => hyes (jE.2 ⟨_,aH hkl,by rw [h];rfl⟩)
      have h0 := hln _ (aH hkl);generalize li[k] = t at *;unfold tT at hnx hbad;by_cases c1 : t.1 < sure.length
      · rw [decide_eq_true c1,kK] at hnx hbad;have hgs := UM (l := sure) (j := t.1) h0 c1;have hlot := hk t.1.toNat (by omega)
        have hh := RP ls (sure.getD t.1.toNat (0,0,0)) w hll hlot;have hr := xQ bk t.1 hbl h1 hs;have hcc : (sure.getD t.1.toNat (0,0,0)).2.1 = cnt sure t.1 := rfl;rw [hcc] at hgs hh;generalize cnt sure t.1 = c at *;generalize lO bk t.1 = r at *;generalize sure.getD t.1.toNat (0,0,0) = b at *;cases c2 : lJ ls b w with
        | false =>
          rw [c2] at hh hbad;rw [hbad rfl]
          (repeat' (first|refine wS ?_|refine wB ?_|refine wK ?_|refine wR ?_|refine wT ?_|refine wU ?_|(refine rg 5 (mW rfl (eT T rfl (mW rfl (vV (ix T rfl (by omega) (gJ _) hgi) (lW T rfl (qW T rfl (vV (cJ rfl rfl (by omega)) ?_))))))))|(refine rg 7 (eT T rfl (mW rfl (vV (ix T rfl (by omega) (gJ _) hgi) (lW T rfl (mW rfl (vV (ix T rfl (by omega) (nD _) hgk) (eT T rfl (aV ?_)))))))))|(refine rg 8 (dS rfl (qW T rfl (vV (pU rfl rfl (by omega)) ?_))))|(refine cS (id := 10) 66 zT6 (rM 42 24) zT7 dZ rfl (by decide +kernel) (dN rfl (dN rfl (dN rfl (dV rfl (ix T rfl (by omega) (fZ _) hgs) (dO T rfl (dP T rfl (dP T rfl (dO T rfl (dM ?_)))))))));refine dV rfl (ix T rfl (by omega) (jW _) hgw) (dO T rfl (dV rfl (kC (hh)) (dV rfl (cV rfl) (dN rfl (tG rfl (tG rfl (tG rfl (tG rfl (dG ?_)))))))));refine tG rfl (tG rfl (tG rfl (tG rfl (dV rfl (kM rfl rfl) (dE ?_))))))|(refine rg 11 (aV ?_))|refine nZ ?_));all_goals first | (exfalso;omega) | exact rQ
        | true =>
          rw [c2] at hh hbad hnx;by_cases c3 : r ≤ c
          · (repeat' (first|refine wS ?_|refine wB ?_|refine wK ?_|refine tE rfl ?_|refine kN rfl ?_|(refine rg 5 (mW rfl (eT T rfl (mW rfl (vV (ix T rfl (by omega) (gJ _) hgi) (lW T rfl (qW T rfl (vV (cJ rfl rfl (by omega)) ?_))))))))|(refine rg 7 (eT T rfl (mW rfl (vV (ix T rfl (by omega) (gJ _) hgi) (lW T rfl (mW rfl (vV (ix T rfl (by omega) (nD _) hgk) (eT T rfl (aV ?_)))))))))|(refine rg 8 (dS rfl (qW T rfl (vV (pU rfl rfl (by omega)) ?_))))|(refine cS (id := 10) 66 zT6 (rM 42 24) zT7 dZ rfl (by decide +kernel) (dN rfl (dN rfl (dN rfl (dV rfl (ix T rfl (by omega) (fZ _) hgs) (dO T rfl (dP T rfl (dP T rfl (dO T rfl (dM ?_)))))))));refine dV rfl (ix T rfl (by omega) (jW _) hgw) (dO T rfl (dV rfl (kC (hh)) (dV rfl (cV rfl) (dN rfl (tN rfl (tN rfl (dT rfl (ix T rfl (by omega) (fZ _) hgs) (tP T rfl (tL T ?_)))))))));refine tN rfl (tN rfl (dT rfl (kC (hr)) (dT rfl (cX rfl rfl (by omega)) (dV rfl (fS rfl rfl) (dE ?_))))))|(refine iA 6 rfl rfl rfl (by omega) (by omega) ?_)|(refine nZ ?_)));all_goals first | (exfalso;omega) | exact ⟨⟨k + 1,hkl,hnx (by rw [decide_eq_true c3];rfl)⟩,by dsimp only;omega,[],rfl,by (repeat (first | exact trivial | refine ⟨rfl,?_⟩)),trivial,aI,iK _⟩
          · rw [hbad (by rw [decide_eq_false c3];rfl)]
            (repeat' (first|refine wS ?_|refine wB ?_|refine wK ?_|refine wR ?_|refine wT ?_|refine wU ?_|(refine rg 5 (mW rfl (eT T rfl (mW rfl (vV (ix T rfl (by omega) (gJ _) hgi) (lW T rfl (qW T rfl (vV (cJ rfl rfl (by omega)) ?_))))))))|(refine rg 7 (eT T rfl (mW rfl (vV (ix T rfl (by omega) (gJ _) hgi) (lW T rfl (mW rfl (vV (ix T rfl (by omega) (nD _) hgk) (eT T rfl (aV ?_)))))))))|(refine rg 8 (dS rfl (qW T rfl (vV (pU rfl rfl (by omega)) ?_))))|(refine cS (id := 10) 66 zT6 (rM 42 24) zT7 dZ rfl (by decide +kernel) (dN rfl (dN rfl (dN rfl (dV rfl (ix T rfl (by omega) (fZ _) hgs) (dO T rfl (dP T rfl (dP T rfl (dO T rfl (dM ?_)))))))));refine dV rfl (ix T rfl (by omega) (jW _) hgw) (dO T rfl (dV rfl (kC (hh)) (dV rfl (cV rfl) (dN rfl (tN rfl (tN rfl (dT rfl (ix T rfl (by omega) (fZ _) hgs) (tP T rfl (tL T ?_)))))))));refine tN rfl (tN rfl (dT rfl (kC (hr)) (dT rfl (cJ rfl rfl (by omega)) (dV rfl (fS rfl rfl) (dE ?_))))))|(refine rg 11 (aV ?_))|refine nZ ?_));all_goals first | (exfalso;omega) | exact rQ
      · rw [hbad (by rw [decide_eq_false c1];rfl)]
        (repeat' (first|refine wS ?_|refine wB ?_|refine wK ?_|refine wR ?_|refine wT ?_|(refine rg 5 (mW rfl (eT T rfl (mW rfl (vV (ix T rfl (by omega) (gJ _) hgi) (lW T rfl (qW T rfl (vV (cJ rfl rfl (by omega)) ?_))))))))|(refine rg 7 (eT T rfl (mW rfl (vV (ix T rfl (by omega) (gJ _) hgi) (lW T rfl (mW rfl (vV (ix T rfl (by omega) (nD _) hgk) (eT T rfl (aV ?_)))))))))|(refine rg 8 (dS rfl (qW T rfl (vV (jN rfl rfl (by omega)) ?_))))|(refine rg 9 (aV ?_))|refine nZ ?_));all_goals first | (exfalso;omega) | exact rQ
    · rw [aQ (by omega)] at hk2
      have hok : (li.any fun t => !tT ls sure bk t w) = false := zA0 fun t ht => by rw [hk2 t ht];rfl
      (repeat' (first|refine wS ?_|refine wE ?_|refine wU ?_|(refine rg 5 (mW rfl (eT T rfl (mW rfl (vV (ix T rfl (by omega) (gJ _) hgi) (lW T rfl (qW T rfl (vV (cX rfl rfl (by omega)) ?_))))))))|(refine iA 3 rfl rfl rfl (by omega) (by omega) ?_)|refine nZ ?_));all_goals first | (exfalso;omega) | exact ⟨⟨i + 1,hil,hsn hok⟩,by dsimp only;omega,[],rfl,by (repeat (first | exact trivial | refine ⟨rfl,?_⟩)),trivial,aI,iK _⟩
  · obtain rfl : i = o.tk.length := by omega
    rw [UJ hno]
    (repeat' (first|refine wS ?_|refine wR ?_|refine wE ?_|refine wU ?_|(refine rg 2 (mW rfl (eT T rfl (qW T rfl (vV (cX rfl rfl (by omega)) ?_)))))|(refine rg 12 (aV ?_))|refine nZ ?_));all_goals first | (exfalso;omega) | exact rQ
theorem ON (ls : List Lo) (sure : List Bo) (bk : Bk) (hl : bk.length ≤ 1000000) (h1 : ∀ o,o ∈ bk → o.tk.length ≤ 1000000 ∧ ∀ l,l ∈ o.tk → l.length ≤ 1000000) (hs : CT bk) (hn : ∀ o,o ∈ bk → ∀ l,l ∈ o.tk → ∀ t,t ∈ l → 0 ≤ t.1) (hw : ∀ o,o ∈ bk → o.tk.length ≤ o.ws.length ∧ o.ws.length ≤ 1000000) (hll : ls.length ≤ 1000000) (hsl : sure.length ≤ 1000000) (hk : ∀ i : Nat,i < sure.length → (sure.getD i (0,0,0)).1 < ls.length) :
    bI Tryz.prog 26 [xX bk,.rowE (iX ls) 3,.rowE (eY sure) 3] [] (.sl 0 0 (pX ls sure bk).length 1) [.arr (fQ (pX ls sure bk)) 1] := by
  have hbl := jG bk;have hc := fun o (ho : o ∈ bk) => KE ls sure bk o hl h1 hs (h1 o ho) (hw o ho) (hn o ho) hll hsl hk;rw [show pX ls sure bk = rD (rW ls sure bk) bk bk.length from rfl]
  refine dA T Tryz.func26 rfl rfl rfl rfl ?_
  (repeat' (first|refine wS ?_|(refine rg 0 (aV ?_))|(refine rg 1 (aV ?_))|refine nZ ?_));refine pY 7 1 rfl (by decide) ?_
  (repeat' (first|refine wB ?_|(refine rg 2 (aV ?_))|refine nZ ?_));refine dR (X := {k : Nat // k ≤ bk.length}) (fun k => [(0,xX bk),(1,.rowE (iX ls) 3),(2,.rowE (eY sure) 3),(7,.sl 0 0 (rD (rW ls sure bk) bk k.1).length 1),(8,.i (k.1 : Int))]) (fun k => [.arr (fQ (rD (rW ls sure bk) bk k.1)) 1]) (fun k => bk.length - k.1) ⟨0,bG _⟩ ⟨[0],rfl,by (repeat (first | exact trivial | refine ⟨rfl,?_⟩)),⟨.inr rfl,trivial⟩,by decide,iK _⟩ ?_
  rintro ⟨k,hk1⟩;dsimp only;by_cases hlt : k < bk.length
  · have hg := rX hlt;have hss := zB (p := rW ls sure bk) hlt;have hsk := vC (p := rW ls sure bk) (bk := bk) (k := k);have hnl := lG (rD (rW ls sure bk) bk k);have hco := hc _ (aH hlt);generalize bk[k] = o at *;generalize rD (rW ls sure bk) bk k = S at *;cases hb : rW ls sure bk o with
    | true =>
      rw [hb] at hco hss;rw [if_pos rfl] at hss
      (repeat' (first|refine wS ?_|refine wB ?_|refine wK ?_|refine wT ?_|(refine rg 3 (dS rfl (nV ?_));refine eT T rfl (qW T rfl (vV (cJ rfl rfl (by omega)) ?_)))|(refine rg 5 (dS rfl (nV ?_));refine eT T rfl (mW rfl (vV (ix T rfl (by omega) (kR bk) hg) (lW T rfl (dS rfl (vV (kC (hco)) (vV (cV rfl) ?_)))))))|(refine rg 6 (dS rfl (dQ (by exact bO T rfl rfl (by decide) (by decide) rfl rfl rfl) rfl ?_));refine fH T rfl rfl rfl rfl rfl rfl (by omega) (jA.whole rfl rfl) rfl (by simp;omega) (by simp;omega) rfl ?_;refine aV ?_)|(refine iA 4 rfl rfl rfl (by omega) (by omega) ?_)|refine nZ ?_));all_goals first | (exfalso;omega) | exact ⟨⟨k + 1,hlt⟩,by dsimp only;omega,⟨[2],rfl,⟨rfl,rfl,rfl,by dsimp only;rw [hss,aB];rfl,rfl,trivial⟩,⟨.inr (bM rfl (by dsimp only;rw [hss];exact T9 S _) (fA _)),trivial⟩,by decide,iK _⟩⟩
    | false =>
      rw [hb] at hco hss;rw [if_neg (by decide)] at hss
      (repeat' (first|refine wS ?_|refine wB ?_|refine wK ?_|refine wT ?_|refine wU ?_|(refine rg 3 (dS rfl (nV ?_));refine eT T rfl (qW T rfl (vV (cJ rfl rfl (by omega)) ?_)))|(refine rg 5 (dS rfl (nV ?_));refine eT T rfl (mW rfl (vV (ix T rfl (by omega) (kR bk) hg) (lW T rfl (dS rfl (vV (kC (hco)) (vV (cV rfl) ?_)))))))|(refine iA 4 rfl rfl rfl (by omega) (by omega) ?_)|refine nZ ?_));all_goals first | (exfalso;omega) | exact ⟨⟨k + 1,hlt⟩,by dsimp only;omega,⟨[0],rfl,⟨rfl,rfl,rfl,by dsimp only;rw [hss];rfl,rfl,trivial⟩,⟨.inr (bM rfl (by dsimp only;rw [hss]) (fA _)),trivial⟩,by decide,iK _⟩⟩
  · obtain rfl : k = bk.length := by omega
    (repeat' (first|refine wS ?_|refine wR ?_|refine wE ?_|refine wU ?_|(refine rg 3 (dS rfl (nV ?_));refine eT T rfl (qW T rfl (vV (cX rfl rfl (by omega)) ?_)))|(refine rg 7 (mW rfl (aV ?_)))|refine nZ ?_));all_goals first | (exfalso;omega) | exact ⟨.inl rfl,[0],_,rfl,rfl,rfl,⟨.inr (bM rfl rfl (fA _)),trivial⟩,by decide,iK _⟩
theorem JX (bk : Bk) (tick : Int) (hl : bk.length ≤ 1000000) :
    bI Tryz.prog 28 [xX bk,.i tick] [] (.sl 0 0 (E2 bk tick).length 1) [.arr (fQ (E2 bk tick)) 1] := by
  have hbl := jG bk;have hof : E2 bk tick = rD (mB tick) bk bk.length := rfl;rw [hof];refine dA T Tryz.func28 rfl rfl rfl rfl ?_
  (repeat' (first|refine wS ?_|(refine rg 0 (aV ?_))|(refine rg 1 (aV ?_))|refine nZ ?_));refine pY 5 1 rfl (by decide) ?_
  (repeat' (first|refine wB ?_|(refine rg 2 (aV ?_))|refine nZ ?_));refine dR (X := {k : Nat // k ≤ bk.length}) (fun k => [(0,xX bk),(1,.i tick),(5,.sl 0 0 (rD (mB tick) bk k.1).length 1),(6,.i (k.1 : Int))]) (fun k => [.arr (fQ (rD (mB tick) bk k.1)) 1]) (fun k => bk.length - k.1) ⟨0,bG _⟩ ⟨[0],rfl,by (repeat (first | exact trivial | refine ⟨rfl,?_⟩)),⟨.inr rfl,trivial⟩,by decide,iK _⟩ ?_
  rintro ⟨k,hk⟩;dsimp only;by_cases hlt : k < bk.length
  · have hg := rX hlt;have hss := zB (p := mB tick) hlt;have hsk := vC (p := mB tick) (bk := bk) (k := k);have hnl := lG (rD (mB tick) bk k);generalize bk[k] = o at *;generalize rD (mB tick) bk k = S at *;by_cases h2 : o.st = 1 ∧ o.due < tick
    · rw [show mB tick o = true by simp [mB,h2.1,h2.2],if_pos rfl] at hss
      obtain ⟨h1,h2⟩ := h2
      (repeat' (first|refine wS ?_|refine wB ?_|refine wK ?_|refine wT ?_|(refine rg 3 (dS rfl (nV ?_));refine eT T rfl (qW T rfl (vV (cJ rfl rfl (by omega)) ?_)))|(refine rg 5 (mW rfl (nV ?_));refine eT T rfl (mW rfl (vV (ix T rfl (by omega) (kR bk) hg) (fW T rfl (eT T rfl (vV (lS rfl rfl (by omega)) (mW rfl (yN rfl (gT (nV ?_)))))))));refine yP T rfl (yO T rfl (yN rfl (yV (ix T rfl (by omega) (kR bk) hg) (yP T rfl (yP T rfl (yO T rfl (yN rfl (yV (cJ rfl rfl (by omega)) (pV ?_))))))))))|(refine rg 6 (dS rfl (dQ (by exact bO T rfl rfl (by decide) (by decide) rfl rfl rfl) rfl ?_));refine fH T rfl rfl rfl rfl rfl rfl (by omega) (jA.whole rfl rfl) rfl (by simp;omega) (by simp;omega) rfl ?_;refine aV ?_)|(refine iA 4 rfl rfl rfl (by omega) (by omega) ?_)|refine nZ ?_));all_goals first | (exfalso;omega) | exact ⟨⟨k + 1,hlt⟩,by dsimp only;omega,⟨[2],rfl,⟨rfl,rfl,by dsimp only;rw [hss,aB];rfl,rfl,trivial⟩,⟨.inr (bM rfl (by dsimp only;rw [hss];exact T9 S _) (fA _)),trivial⟩,by decide,iK _⟩⟩
    · rw [show mB tick o = false by rw [Bool.eq_false_iff];intro h;unfold mB at h;rw [aN,decide_eq_true_eq,decide_eq_true_eq] at h;exact h2 h,if_neg (by decide)] at hss
      by_cases h1 : o.st = 1
      · have h3 : ¬ o.due < tick := fun h => h2 ⟨h1,h⟩
        (repeat' (first|refine wS ?_|refine wB ?_|refine wK ?_|refine wT ?_|refine wU ?_|(refine rg 3 (dS rfl (nV ?_));refine eT T rfl (qW T rfl (vV (cJ rfl rfl (by omega)) ?_)))|(refine rg 5 (mW rfl (nV ?_));refine eT T rfl (mW rfl (vV (ix T rfl (by omega) (kR bk) hg) (fW T rfl (eT T rfl (vV (lS rfl rfl (by omega)) (mW rfl (yN rfl (gT (nV ?_)))))))));refine yP T rfl (yO T rfl (yN rfl (yV (ix T rfl (by omega) (kR bk) hg) (yP T rfl (yP T rfl (yO T rfl (yN rfl (yV (cX rfl rfl (by omega)) (pV ?_))))))))))|(refine iA 4 rfl rfl rfl (by omega) (by omega) ?_)|refine nZ ?_));all_goals first | (exfalso;omega) | exact ⟨⟨k + 1,hlt⟩,by dsimp only;omega,⟨[0],rfl,⟨rfl,rfl,by dsimp only;rw [hss];rfl,rfl,trivial⟩,⟨.inr (bM rfl (by dsimp only;rw [hss]) (fA _)),trivial⟩,by decide,iK _⟩⟩
      · (repeat' (first|refine wS ?_|refine wB ?_|refine wK ?_|refine tE rfl ?_|refine kN rfl ?_|(refine rg 3 (dS rfl (nV ?_));refine eT T rfl (qW T rfl (vV (cJ rfl rfl (by omega)) ?_)))|(refine rg 5 (mW rfl (nV ?_));refine eT T rfl (mW rfl (vV (ix T rfl (by omega) (kR bk) hg) (fW T rfl (eT T rfl (vV (oT rfl rfl (by omega)) (mV ?_))))));(iterate 11 refine gF ?_);refine pV ?_)|(refine iA 4 rfl rfl rfl (by omega) (by omega) ?_)|(refine nZ ?_)));all_goals first | (exfalso;omega) | exact ⟨⟨k + 1,hlt⟩,by dsimp only;omega,⟨[0],rfl,⟨rfl,rfl,by dsimp only;rw [hss];rfl,rfl,trivial⟩,⟨.inr (bM rfl (by dsimp only;rw [hss]) (fA _)),trivial⟩,by decide,iK _⟩⟩
  · obtain rfl : k = bk.length := by omega
    (repeat' (first|refine wS ?_|refine wR ?_|refine wE ?_|refine wU ?_|(refine rg 3 (dS rfl (nV ?_));refine eT T rfl (qW T rfl (vV (cX rfl rfl (by omega)) ?_)))|(refine rg 7 (mW rfl (aV ?_)))|refine nZ ?_));all_goals first | (exfalso;omega) | exact ⟨.inl rfl,[0],_,rfl,rfl,rfl,⟨.inr (bM rfl rfl (fA _)),trivial⟩,by decide,iK _⟩
end Go.Proofs.YtdfmhddmddgniaaGreatDoor
namespace Go.Or
open Go Go.Ab Go.Wr Go.Proofs.YtdfmhddmddgniaaGreatDoor
theorem sV {s : St} {r : List UInt8} (h : (cE s).2 = some r) : s = some (dU (cE s).1 ++ r) := by
  obtain ⟨r0,rfl,h2,_⟩ := xY h;have := (pI h2).1;unfold dU;rw [aY];exact congrArg some this
theorem T7 {s : St} {r : List UInt8} (h : (fI s 59 0).2 = some r) : s = some (dU (fI s 59 0).1 ++ r) ∧ 0 ≤ (fI s 59 0).1 := by
  obtain ⟨r0,rfl,h2,_⟩ := xY h;have := pI h2;unfold dU;rw [aY];exact ⟨congrArg some this.1,this.2.1⟩
theorem M3 : ∀ (k : Nat) (s : St) {r : List UInt8}, (iJ k s).1.length = k → (iJ k s).2 = some r → s = some (nC (iJ k s).1 ++ r)
  | 0,s,r,_,h => h
  | k + 1,s,r,hl,h => by
    rw [iJ] at hl h ⊢;split at hl
    · simp at hl
    · rename_i hc;rw [if_neg hc] at h ⊢;dsimp only at hl h ⊢;have ih := M3 k _ (by simpa using hl) h
      have i3 := sV (s := (cE (cE s).2).2) ih;have i2 := sV (s := (cE s).2) i3;have i1 := sV (s := s) i2;refine i1.trans ?_;simp only [nC,EX,List.map_cons,cH,aY]
theorem M4 : ∀ (k : Nat) (s : St) {l : List Tk} {r : List UInt8}, gZ k s = some (l, some r) → l.length = k → s = some (oW l ++ r)
  | 0,s,l,r,h,_ => by cases h;rfl
  | k + 1,s,l,r,h,hl => by
    rw [gZ] at h;split at h
    · cases h;simp at hl
    · split at h
      · cases h
      · obtain ⟨⟨l2,s2⟩,h2,h3⟩ := bX.1 h;dsimp only at h3;cases h3;have ih := M4 k _ h2 (by simpa using hl)
        have i2 := sV (s := (cE s).2) ih;have i1 := sV (s := s) i2;refine i1.trans ?_;simp only [oW,FH,List.map_cons,cH,aY]
def lH : List Wt → St → Option (List (List Tk) × St)
  | [],s => some ([],s)
  | w :: ws,s => (gZ (fI s 59 0).1.toNat (fI s 59 0).2).bind fun x => if (x.1.length : Int) ≠ (fI s 59 0).1 ∨ w.2.1 < jB x.1 then none else (lH ws x.2).map fun y => (x.1 :: y.1,y.2)
def mD (s : St) : Option (Od × St) :=
  if ((gN s).1.length : Int) ≠ (fI s 59 0).1 ∨ iW (gN s).1 (cE (gN s).2).1 = false ∨ (cE (cE (gN s).2).2).1 < 0 ∨ 5 ≤ (cE (cE (gN s).2).2).1 then none else
  if (cE (cE (gN s).2).2).1 ≠ 1 then some (⟨(gN s).1,(cE (gN s).2).1,(cE (cE (gN s).2).2).1,[]⟩,(cE (cE (gN s).2).2).2) else
  (lH (gN s).1 (cE (cE (gN s).2).2).2).bind fun x => if x.1.all (·.isEmpty) then none else some (⟨(gN s).1,(cE (gN s).2).1,1,x.1⟩,x.2)
def kA : Nat → St → Bk → Option (Bk × St)
  | 0,s,L => some (L,s)
  | k + 1,s,L => if (s.getD []).length = 0 then some (L,s) else (mD s).bind fun x => kA k x.2 (L ++ [x.1])
def xT (l : List UInt8) : Option Bk :=
  (kA (fI (some l) 59 0).1.toNat (fI (some l) 59 0).2 []).bind fun x => if x.2 = some [] ∧ (x.1.length : Int) = (fI (some l) 59 0).1 ∧ (fI (some l) 59 0).1 ≤ 1000 then some x.1 else none
theorem S6 : ∀ (ws : List Wt) (s : St) {x : List (List Tk) × St}, lH ws s = some x → lX ws s = some x
  | [],s,x,h => h
  | w :: ws,s,x,h => by
    rw [lH] at h;rw [lX];obtain ⟨⟨l,s1⟩,h1,h2⟩ := dW.1 h;dsimp only at h2;split at h2
    · cases h2
    · rename_i hb;obtain ⟨⟨tk2,s2⟩,h3,h4⟩ := bX.1 h2;rw [h1,Option.bind_some];dsimp only;rw [if_neg (fun e => hb (.inr e)),S6 ws s1 h3]
      exact congrArg some h4
theorem D9 : ∀ (ws : List Wt) (s : St) {tk : List (List Tk)} {r : List UInt8}, lH ws s = some (tk, some r) → s = some (gW tk ++ r)
  | [],s,tk,r,h => by cases h;rfl
  | w :: ws,s,tk,r,h => by
    rw [lH] at h;obtain ⟨⟨l,s1⟩,h1,h2⟩ := dW.1 h;dsimp only at h2;split at h2
    · cases h2
    · rename_i hb;obtain ⟨⟨tk2,s2⟩,h3,h4⟩ := bX.1 h2;cases h4;have ih := D9 ws s1 h3;subst ih;have hn := fun {r} => T7 (s := s) (r := r)
      have hlen : l.length = (fI s 59 0).1.toNat := by
        have : (l.length : Int) = (fI s 59 0).1 := Classical.byContradiction fun e => hb (.inl e);omega
      have i2 := M4 _ _ h1 hlen;obtain ⟨i1,i0⟩ := hn i2;refine i1.trans ?_;have e : (fI s 59 0).1 = (l.length : Int) := by omega
      rw [e];simp only [gW,CC,List.map_cons,cH,aY]
theorem KC {s : St} {x : Od × St} (h : mD s = some x) : mE s = some x := by
  unfold mD at h;unfold mE;split at h
  · cases h
  · rename_i hb;rw [if_neg (fun e => hb (.inr e))]
    split at h
    · rename_i h1;rw [if_pos h1];exact h
    · rename_i h1;rw [if_neg h1];obtain ⟨y,h2,h3⟩ := dW.1 h;rw [S6 _ _ h2];exact h3
theorem DH {s : St} {o : Od} {r : List UInt8} (h : mD s = some (o,some r)) : s = some (zD o ++ r) := by
  unfold mD at h;split at h
  · cases h
  · rename_i hb;have hl : ((gN s).1.length : Int) = (fI s 59 0).1 := Classical.byContradiction fun e => hb (.inl e)
    have fin : ∀ {r2 : List UInt8},(cE (cE (gN s).2).2).2 = some r2 → s = some (dU (gN s).1.length ++ (nC (gN s).1 ++ (dU (cE (gN s).2).1 ++ (dU (cE (cE (gN s).2).2).1 ++ r2)))) := fun {r2} h2 => by
      have i3 := sV (s := (cE (gN s).2).2) h2;have i2 := sV (s := (gN s).2) i3;have i1 : (fI s 59 0).2 = some (nC (gN s).1 ++ _) := M3 _ _ (by unfold gN at hl;omega) i2
      obtain ⟨i0,_⟩ := T7 i1;rw [hl];exact i0
    split at h
    · rename_i h1;have h5 := Option.some.inj h;have h6 := congrArg Prod.fst h5;have h7 := congrArg Prod.snd h5;dsimp only at h6 h7;subst h6;refine (fin h7).trans ?_;simp only [zD,KT,gW,List.map_nil,Z0,List.append_nil,aY]
    · rename_i h1;obtain ⟨⟨tk,s2⟩,h2,h3⟩ := dW.1 h;dsimp only at h3;split at h3
      · cases h3
      · cases h3;have i4 := D9 _ _ h2;refine (fin i4).trans ?_;have e : (cE (cE (gN s).2).2).1 = 1 := Classical.not_not.1 h1;rw [e];simp only [zD,KT,aY]
theorem E1 : ∀ (k : Nat) (s : St) (L : Bk) {bk : Bk} {r : List UInt8}, kA k s L = some (bk, some r) → bk.length = L.length + k → ∃ b2, bk = L ++ b2 ∧ s = some (oY b2 ++ r)
  | 0,s,L,bk,r,h,_ => by cases h;exact ⟨[],(List.append_nil _).symm,rfl⟩
  | k + 1,s,L,bk,r,h,hl => by
    rw [kA] at h;split at h
    · cases h;omega
    · obtain ⟨⟨o,s1⟩,h1,h2⟩ := dW.1 h;dsimp only at h2;obtain ⟨b2,e1,e2⟩ := E1 k s1 (L ++ [o]) h2 (by rw [hl,aB,bZ];omega)
      subst e2;refine ⟨o :: b2,by rw [e1,aY];rfl,?_⟩
      rw [DH h1];simp only [oY,List.map_cons,cH,aY]
theorem E0 : ∀ (k : Nat) (s : St) (L : Bk) {bk : Bk} {s' : St}, kA k s L = some (bk, s') → L.length ≤ bk.length
  | 0,s,L,bk,s',h => by cases h;exact aU _
  | k + 1,s,L,bk,s',h => by
    rw [kA] at h;split at h
    · cases h;exact aU _
    · obtain ⟨⟨o,s1⟩,h1,h2⟩ := dW.1 h;have := E0 k _ _ h2;rw [aB,bZ] at this;omega
theorem S9 : ∀ (k : Nat) (s : St) (L : Bk) {bk : Bk} {s' : St}, kA k s L = some (bk, s') → bk.length ≤ 1000 → mR k s L = some (bk, s')
  | 0,s,L,bk,s',h,_ => h
  | k + 1,s,L,bk,s',h,hl => by
    rw [kA] at h;rw [mR];split at h
    · rename_i h0;rw [if_pos h0];exact h
    · rename_i h0;rw [if_neg h0];obtain ⟨⟨o,s1⟩,h1,h2⟩ := dW.1 h;dsimp only at h2;have hg := E0 k _ _ h2;rw [aB,bZ] at hg;rw [KC h1,Option.bind_some,if_neg (by omega)]
      exact S9 k s1 _ h2 hl
theorem OK {l : List UInt8} {bk : Bk} (h : xT l = some bk) : vE l = some bk := by
  unfold xT at h;obtain ⟨⟨b2,s⟩,h1,h2⟩ := dW.1 h;dsimp only at h2;split at h2
  · rename_i hc;obtain ⟨rfl,hc2,hc3⟩ := hc;cases h2;obtain ⟨b2,e1,e2⟩ := E1 _ _ [] h1 (by simp;omega)
    rw [List.nil_append] at e1;subst e1;obtain ⟨e3,_⟩ := T7 e2;have hbk : oQ bk = l := by
      have : l = dU (fI (some l) 59 0).1 ++ (oY bk ++ []) := Option.some.inj e3;rw [List.append_nil,← hc2] at this;exact this.symm
    unfold vE;rw [S9 _ _ _ h1 (by omega),Option.bind_some,if_pos ⟨rfl,hbk⟩]
  · cases h2
theorem S4 : ∀ (ws : List Wt) (tk : List (List Tk)) (r : List UInt8), tk.length = ws.length → (∀ l, l ∈ tk → l.length ≤ 1000000 ∧ ∀ t, t ∈ l → EY t) → (∀ (i : Nat) (w : Wt) (l : List Tk), ws[i]? = some w → tk[i]? = some l → jB l ≤ w.2.1) → lH ws (some (gW tk ++ r)) = some (tk, some r)
  | [],[],r,_,_,_ => rfl
  | [],_ :: _,_,h,_,_ => by cases h
  | _ :: _,[],_,h,_,_ => by cases h
  | w :: ws,l :: tk,r,hl,h,hs => by
    have h1 := h l aL;have e : gW (l :: tk) ++ r = dU l.length ++ (oW l ++ (gW tk ++ r)) := by simp [gW,CC]
    have hn := vJ (n := (l.length : Int)) ⟨by omega,by omega⟩ (by omega) (oW l ++ (gW tk ++ r))
    have h2 := hs 0 w l rfl rfl;have ih := S4 ws tk r (by simpa using hl) (fun l hl => h l (aF _ hl)) fun i w l h1 h2 => hs (i + 1) w l h1 h2
    rw [e,lH,hn];dsimp only;rw [bN,J3 l _ h1.2];dsimp only [Option.bind_some];rw [if_neg (by omega),ih];rfl
theorem KB {o : Od} (h : pC o) (hk : ∀ w,w ∈ o.ws → qH w.1) (r : List UInt8) : mD (some (zD o ++ r)) = some (o,some r) := by
  have hI := h.odI hk;have h0 := h.st0;have h4 := h.st4;have hwl := hI.wl;have e : zD o ++ r = KT o ++ (dU o.due ++ (dU o.st ++ (gW o.tk ++ r))) := by simp [zD]
  have e2 : zD o ++ r = dU o.ws.length ++ (nC o.ws ++ (dU o.due ++ (dU o.st ++ (gW o.tk ++ r)))) := by simp [zD,KT]
  have hn : (fI (some (KT o ++ (dU o.due ++ (dU o.st ++ (gW o.tk ++ r))))) 59 0).1 = o.ws.length := by
    rw [← e,e2,vJ ⟨by omega,by omega⟩ (by omega)]
  unfold mD;rw [e,hn,HG hI];dsimp only;rw [pR hI.due];dsimp only;rw [pR hI.st];dsimp only;rw [if_neg (by rw [h.ws];simp;omega)]
  by_cases h1 : o.st = 1
  · rw [if_neg (by omega),S4 o.ws o.tk r (h.len h1) (fun l hl => ⟨by have := h.few.2 l hl;omega,h.ok l hl⟩) h.sum]
    dsimp only [Option.bind_some];rw [if_neg (fun hh => h.ne h1 (L3.1 hh))];obtain ⟨ws,due,st,tk⟩ := o;dsimp only at h1;subst h1;rfl
  · have ht := h.tk0 h1;rw [if_pos h1,ht];obtain ⟨ws,due,st,tk⟩ := o;dsimp only at ht;subst ht;simp [gW]
theorem S8 : ∀ (bk L : Bk), (∀ o, o ∈ bk → pC o ∧ ∀ w, w ∈ o.ws → qH w.1) → kA bk.length (some (oY bk)) L = some (L ++ bk, some [])
  | [],L,_ => by rw [List.append_nil];rfl
  | o :: bk,L,h => by
    have ho := h o aL;have e : oY (o :: bk) = zD o ++ oY bk := by simp [oY]
    have h0 := MN o;rw [e,List.length_cons,kA,if_neg (by rw [nF,aB];omega),KB ho.1 ho.2]
    dsimp only [Option.bind_some];rw [S8 bk (L ++ [o]) (fun o ho => h o (aF _ ho)),aY];rfl
theorem OM (l : List UInt8) : xT l = vE l := by
  cases h : xT l with
  | some bk => exact (OK h).symm
  | none =>
    cases h2 : vE l with
    | none => rfl
    | some bk =>
      exfalso;obtain ⟨h3,h4,rfl⟩ := S7 h2;have hl := h3.le;have e : (oQ bk) = dU bk.length ++ oY bk := rfl;unfold xT at h;rw [e,vJ ⟨by omega,by omega⟩ (by omega)] at h
      dsimp only at h;rw [bN,S8 bk [] (fun o ho => ⟨h3.od o ho,h4 o ho⟩),List.nil_append] at h;dsimp only [Option.bind_some] at h;rw [if_pos ⟨rfl,rfl,by omega⟩] at h
      cases h
end Go.Or
namespace Go.Proofs.YtdfmhddmddgniaaGreatDoor
open Go Go.Ab Go.Wr
def zG1 (P : Program) (t e : TypeId) : Prop := P.underlying t = some (.slice e)
theorem zO9 : zG1 Tryz.prog 80 5 := by unfold zG1;kernel_rfl
theorem CD : L7 Tryz.prog 5 .u8 := by unfold L7;kernel_rfl
theorem DS : L7 Tryz.prog 3 .i64 := by unfold L7;kernel_rfl
section
variable {P : Program} {env : dD} {h : Hp} {d : Option Nat} {ty : TypeId} {pos : String} {af : Array Edge} {g : Option (Nat × Bool)}
theorem HV {src dst e : TypeId} {x : Operand} {k n : Nat} {l : List UInt8} (hs : zG1 P src e) (he : L7 P e .u8) (hd : Y5 P dst) (hx : evu env x = some (.sl k 0 n 1)) (hk : h[k]? = some (.arr (W3 l) 1)) (hn : n = l.length) (h0 : l ≠ []) :
    bJ P ⟨d,.convert src dst x,ty,pos,af,g⟩ env h 0 (fun _ => .s l) (fun _ => []) := by
  subst hn;refine fL fun ρ S a w p => ⟨.string ⟨l.toArray⟩,?_,by simp [R]⟩
  have h1 := p.evu hx;simp only [R] at h1;obtain ⟨ad,cap,h2,h3,h4⟩ := h1;have hl : 0 < l.length := jK.2 h0;have hB := p.blk k _ hk;obtain ⟨_,_,hB⟩ := hB;rcases h4 with h4 | ⟨b,o,h5,h6,_,_⟩
  · omega
  rcases hB with hB | ⟨b',o',ys,g1,⟨c,et,g2,g3⟩,g4⟩
  · have := congrArg List.length hB.1;rw [bytesA_length] at this;simp at this;exact absurd this h0
  rw [h5] at g1;obtain ⟨rfl,rfl⟩ : b = b' ∧ o = o' := by simpa using g1
  have hys : ys = l.map fun b => Value.int .u8 (b.toNat : Int) := by
    have e : (W3 l).flatten = (l.map fun b => Value.int .u8 (b.toNat : Int)).map AV.v := by
      unfold W3;rw [List.flatten_eq_flatMap,List.flatMap_map,nR];exact (List.map_eq_flatMap).symm
    rw [e] at g4;exact Q2 g4
  subst hys;have hc : ∀ j (hj : j < l.length),w.cell? ((⟨b,o,none⟩ : Addr).add j) = some (.int .u8 (l[j].toNat : Int)) := fun j hj => by
    have := g3 j _ (by rw [aS,aC hj];rfl)
    have e : ((⟨b,o,none⟩ : Addr).add j).block = b ∧ ((⟨b,o,none⟩ : Addr).add j).off = o + j ∧ ((⟨b,o,none⟩ : Addr).add j).spot = none := by
      unfold Addr.add;split <;> simp <;> omega
    simp [World.cell?,e.1,e.2.1,e.2.2,g2,this]
  have hr := run_convert_bytes_back (P := P) w src dst e ⟨b,o,none⟩ cap l hs he hd hc
  rw [VM,Nat.add_zero] at h6;subst h6;simp [execOp,h2,hr]
theorem MX {t t2 : TypeId} {x y : Operand} {k : IntKind} {a b r : Int} (hx : evu env x = some (.v (.int k a))) (hy : evu env y = some (.v (.int k b))) (hb : b ≠ 0) (e : a.tmod b = r) : bJ P ⟨d,.binOp .rem t x y t2,ty,pos,af,g⟩ env h 0 (fun _ => .v (.int k r)) (fun _ => []) := by
  subst e;exact zD2 hx hy hb
theorem XZ {t t2 : TypeId} {x y : Operand} {a b r : Int} (hx : evu env x = some (.i a)) (hy : evu env y = some (.i b)) (hb : b ≠ 0) (e : a.tdiv b = r) (h0 : -9223372036854775808 ≤ r ∧ r ≤ 9223372036854775807) : bJ P ⟨d,.binOp .quo t x y t2,ty,pos,af,g⟩ env h 0 (fun _ => .i r) (fun _ => []) := by
  have := zD3 (P := P) (d := d) (ty := ty) (pos := pos) (af := af) (g := g) (h := h) (t := t) (t2 := t2) hx hy hb;rw [e,IntWalk.i64_in _ (by omega)] at this
  exact this
theorem HU {s t : TypeId} {x : Operand} {ks k kk : IntKind} {n m : Int} (hs : L7 P s ks) (ht : L7 P t k) (hx : evu env x = some (.v (.int kk n))) (hn : k.wrap n = n) (e : n = m) :
    bJ P ⟨d,.convert s t x,ty,pos,af,g⟩ env h 0 (fun _ => .v (.int k m)) (fun _ => []) := by
  subst e;exact V2 hs ht hx hn
end
theorem CW {n : Int} (h0 : 0 ≤ n) (h1 : n < 256) : IntKind.u8.wrap n = n := by
  simp [IntKind.wrap,IntKind.signed,IntKind.bits];omega
theorem LX {n : Int} (h0 : -9223372036854775808 ≤ n) (h1 : n ≤ 9223372036854775807) : IntKind.i64.wrap n = n := IntWalk.i64_in _ (by omega)
attribute [local irreducible] VC AW bJ bI zG1 L7 Y5
set_option maxHeartbeats 4000000
theorem ID : ∀ u : Nat,u ≤ 9223372036854775808 → bI Tryz.prog 104 [.i (-(u : Int))] [] (.s (Lib.decDigits u)) [] := by
  intro u
  induction u using Nat.strongRecOn with
  | _ u ih =>
    intro hu;have e1 : (-(u : Int)).tmod 10 = -((u % 10 : Nat) : Int) := by rw [Int.neg_tmod];rfl
    have e2 : (-(u : Int)).tdiv 10 = -((u / 10 : Nat) : Int) := by rw [Int.neg_tdiv];rfl
    have e3 : (48 : Int) - -((u % 10 : Nat) : Int) = ((UInt8.ofNat (48 + u % 10)).toNat : Int) := by
      have : (UInt8.ofNat (48 + u % 10)).toNat = 48 + u % 10 := by simp;omega
      rw [this];omega
    have hm : u % 10 < 10 := Nat.mod_lt _ (by decide)
    have ih10 := fun h => ih (u / 10) h (by omega)
    have hdl : (Lib.decDigits (u / 10)).length ≤ 20 := by
      rw [Lib.decDigits_length]
      have := uC 18 (u / 10) (by have : (10 : Nat) ^ (18 + 1) = 10000000000000000000 := (by decide); omega)
      omega
    have hsm : u < 10 → Lib.decDigits u = [UInt8.ofNat (48 + u % 10)] := fun h => by rw [Lib.decDigits_one h,Nat.mod_eq_of_lt h]
    have hbg : ¬ u < 10 → Lib.decDigits u = Lib.decDigits (u / 10) ++ [UInt8.ofNat (48 + u % 10)] := fun h => by rw [Lib.decDigits,dif_neg h]
    have hq : u / 10 < u ∨ u = 0 := by omega
    have hdv : u / 10 ≤ 9223372036854775807 := by omega
    refine dA T Tryz.func104 rfl rfl rfl rfl ?_;by_cases h10 : u < 10
    · rw [hsm h10];generalize u % 10 = r at *;generalize UInt8.ofNat (48 + r) = c at *
      (repeat' (first|refine wS ?_|refine wR ?_|(refine wC rfl ?_ ?_<;>(intro hb;(try simp only [nm] at hb);try (exfalso;omega)))|(refine rg 0 (aV ?_))|(refine rg 1 (mW rfl (vV (MX rfl rfl (by decide) e1) (vV (fX rfl rfl (by omega) (by omega)) (vV (HU DS CD rfl (CW (by omega) (by omega)) e3) (dQ (by exact bO T rfl rfl (by decide) (by decide) rfl rfl rfl) rfl ?_)))));refine vV (HV zO9 CD eK rfl (l := [c]) rfl rfl (by simp)) (aV ?_))|(refine rg 2 (mW rfl (vV (gH rfl rfl) ?_)))|(refine rg 3 (mW rfl (aV ?_)))|refine nZ ?_));all_goals first | (exfalso;omega) | exact rQ
    · rw [hbg h10];have hc := ih10 (by omega)
      generalize u % 10 = r at *;generalize u / 10 = q at *;generalize UInt8.ofNat (48 + r) = c at *
      (repeat' (first|refine wS ?_|refine wK ?_|refine wR ?_|(refine wC rfl ?_ ?_<;>(intro hb;(try simp only [nm] at hb);try (exfalso;omega)))|(refine rg 0 (aV ?_))|(refine rg 1 (mW rfl (vV (MX rfl rfl (by decide) e1) (vV (fX rfl rfl (by omega) (by omega)) (vV (HU DS CD rfl (CW (by omega) (by omega)) e3) (dQ (by exact bO T rfl rfl (by decide) (by decide) rfl rfl rfl) rfl ?_)))));refine vV (HV zO9 CD eK rfl (l := [c]) rfl rfl (by simp)) (aV ?_))|(refine rg 2 (mW rfl (vV (gH rfl rfl) ?_)))|(refine rg 4 (mW rfl (vV (XZ rfl rfl (by decide) e2 (by omega)) (vV (kC (hc)) (mW rfl (vV (jL rfl rfl (by simp only [aB,List.length_cons,List.length_nil];omega)) ?_)))));refine aV ?_)|refine nZ ?_));all_goals first | (exfalso;omega) | exact rQ
theorem sQ {n : Int} (h : qH n) : bI Tryz.prog 57 [.i n] [] (.s (dU n)) [] := by
  obtain ⟨h1,h2⟩ := h;refine dA T Tryz.func57 rfl rfl rfl rfl ?_;have hl20 := zG ⟨h1,h2⟩;by_cases h0 : n < 0
  · have hc := ID n.natAbs (by omega)
    rw [show -((n.natAbs : Nat) : Int) = n by omega] at hc
    have e : dU n = [45] ++ Lib.decDigits n.natAbs ++ [59] := by unfold dU Lib.itoa;rw [if_pos h0];rfl
    have hl : (Lib.decDigits n.natAbs).length ≤ 20 := by unfold Lib.itoa at hl20;rw [if_pos h0,List.length_cons] at hl20;omega
    rw [e];generalize Lib.decDigits n.natAbs = s at *
    (repeat' (first|refine wS ?_|refine wR ?_|(refine wC rfl ?_ ?_<;>(intro hb;(try simp only [nm] at hb);try (exfalso;omega)))|(refine rg 0 (aV ?_))|(refine rg 1 (mW rfl (vV (bE rfl rfl) ?_)))|(refine rg 2 (mW rfl (vV (kC (hc)) (vV (jL rfl rfl (by simp only [aB,List.length_cons,List.length_nil];omega)) ?_)));refine vV (jL rfl rfl (by simp only [aB,List.length_cons,List.length_nil];omega)) ?_;refine aV ?_)|refine nZ ?_));all_goals first | (exfalso;omega) | exact rQ
  · have hc := ID n.toNat (by omega)
    rw [show -((n.toNat : Nat) : Int) = -n by omega] at hc
    have e : dU n = Lib.decDigits n.toNat ++ [59] := by unfold dU Lib.itoa;rw [if_neg h0]
    have hl : (Lib.decDigits n.toNat).length ≤ 20 := by unfold Lib.itoa at hl20;rw [if_neg h0] at hl20;omega
    rw [e];generalize Lib.decDigits n.toNat = s at *
    (repeat' (first|refine wS ?_|refine wK ?_|refine wR ?_|(refine wC rfl ?_ ?_<;>(intro hb;(try simp only [nm] at hb);try (exfalso;omega)))|(refine rg 0 (aV ?_))|(refine rg 1 (mW rfl (vV (bE rfl rfl) ?_)))|(refine rg 3 (mW rfl (vV (MZ rfl (by omega) (by omega)) (vV (kC (hc)) (vV (jL rfl rfl (by simp only [aB,List.length_cons,List.length_nil];omega)) ?_))));refine aV ?_)|refine nZ ?_));all_goals first | (exfalso;omega) | exact rQ
theorem KF {n : Int} (h : qH n) (h0 : 0 ≤ n) : bI Tryz.prog 56 [.i n] [] (.s (dU n)) [] := by
  have hc := sQ h;refine dA T Tryz.func56 rfl rfl rfl rfl ?_
  (repeat' (first|refine wS ?_|refine wK ?_|refine wR ?_|(refine wC rfl ?_ ?_<;>(intro hb;(try simp only [nm] at hb);try (exfalso;omega)))|(refine rg 0 (aV ?_))|(refine rg 1 (mW rfl (vV (bE rfl rfl) ?_)))|(refine rg 3 (mW rfl (vV (kC (hc)) (aV ?_))))|refine nZ ?_));all_goals first | (exfalso;omega) | exact rQ
def C5 (l : List UInt8) (k : Nat) : Nat := (l.take k).foldl (fun a c => 10 * a + (c.toNat - 48)) 0
theorem TV (l : List UInt8) : ∀ a : Nat,a ≤ l.foldl (fun a c => 10 * a + (c.toNat - 48)) a := by
  induction l with
  | nil => intro a;exact aU _
  | cons c l ih => intro a;exact cQ (by omega) (ih (10 * a + (c.toNat - 48)))
theorem NV {l : List UInt8} {k : Nat} (h : k < l.length) : C5 l (k + 1) = 10 * C5 l k + (l[k].toNat - 48) := by
  unfold C5;rw [bB h,qG];rfl
theorem WB (l : List UInt8) (k : Nat) : C5 l k ≤ C5 l l.length := by
  unfold C5;rw [dJ]
  conv => rhs;rw [← cI k l,qG]
  exact TV _ _
theorem QP : ∀ u : Nat,C5 (Lib.decDigits u) (Lib.decDigits u).length = u := by
  intro u;unfold C5;rw [dJ]
  induction u using Nat.strongRecOn with
  | _ u ih =>
    rw [Lib.decDigits];split
    · rename_i h;have e : (UInt8.ofNat (48 + u)).toNat = 48 + u := by simp;omega
      simp only [lQ,List.foldl_nil,e];omega
    · rename_i h;have e : (UInt8.ofNat (48 + u % 10)).toNat = 48 + u % 10 := by simp;omega
      rw [qG,ih (u / 10) (by omega)]
      simp only [lQ,List.foldl_nil,e];omega
section
variable {P : Program} {env : dD} {h : Hp} {d : Option Nat} {ty : TypeId} {pos : String} {af : Array Edge} {g : Option (Nat × Bool)}
theorem nM {t t2 : TypeId} {x y : Operand} {k : IntKind} {a b : Int} (hx : evu env x = some (.v (.int k a))) (hy : evu env y = some (.v (.int k b))) (e : a < b) : bJ P ⟨d,.binOp .lss t x y t2,ty,pos,af,g⟩ env h 0 (fun _ => .b true) (fun _ => []) := by
  have := bE (P := P) (d := d) (ty := ty) (pos := pos) (af := af) (g := g) (h := h) (t := t) (t2 := t2) hx hy;simpa [e] using this
theorem pT {t t2 : TypeId} {x y : Operand} {k : IntKind} {a b : Int} (hx : evu env x = some (.v (.int k a))) (hy : evu env y = some (.v (.int k b))) (e : b ≤ a) : bJ P ⟨d,.binOp .lss t x y t2,ty,pos,af,g⟩ env h 0 (fun _ => .b false) (fun _ => []) := by
  have := bE (P := P) (d := d) (ty := ty) (pos := pos) (af := af) (g := g) (h := h) (t := t) (t2 := t2) hx hy;simpa [show decide (a < b) = false from decide_eq_false (by omega)] using this
theorem yH {t t2 : TypeId} {x y : Operand} {k : IntKind} {a b : Int} (hx : evu env x = some (.v (.int k a))) (hy : evu env y = some (.v (.int k b))) (e : b < a) : bJ P ⟨d,.binOp .gtr t x y t2,ty,pos,af,g⟩ env h 0 (fun _ => .b true) (fun _ => []) := by
  have := gH (P := P) (d := d) (ty := ty) (pos := pos) (af := af) (g := g) (h := h) (t := t) (t2 := t2) hx hy;simpa [show decide (a > b) = true from decide_eq_true (by omega)] using this
theorem yI {t t2 : TypeId} {x y : Operand} {k : IntKind} {a b : Int} (hx : evu env x = some (.v (.int k a))) (hy : evu env y = some (.v (.int k b))) (e : a ≤ b) : bJ P ⟨d,.binOp .gtr t x y t2,ty,pos,af,g⟩ env h 0 (fun _ => .b false) (fun _ => []) := by
  have := gH (P := P) (d := d) (ty := ty) (pos := pos) (af := af) (g := g) (h := h) (t := t) (t2 := t2) hx hy;simpa [show decide (a > b) = false from decide_eq_false (by omega)] using this
theorem F8 {t t2 : TypeId} {x y : Operand} {k : IntKind} {a b : Int} (hx : evu env x = some (.v (.int k a))) (hy : evu env y = some (.v (.int k b))) (e : a = b) : bJ P ⟨d,.binOp .eql t x y t2,ty,pos,af,g⟩ env h 0 (fun _ => .b true) (fun _ => []) := by
  have := cW (P := P) (d := d) (ty := ty) (pos := pos) (af := af) (g := g) (h := h) (t := t) (t2 := t2) hx hy;simpa [e] using this
theorem F9 {t t2 : TypeId} {x y : Operand} {k : IntKind} {a b : Int} (hx : evu env x = some (.v (.int k a))) (hy : evu env y = some (.v (.int k b))) (e : a ≠ b) : bJ P ⟨d,.binOp .eql t x y t2,ty,pos,af,g⟩ env h 0 (fun _ => .b false) (fun _ => []) := by
  have := cW (P := P) (d := d) (ty := ty) (pos := pos) (af := af) (g := g) (h := h) (t := t) (t2 := t2) hx hy;simpa [e] using this
theorem HN {t t2 : TypeId} {x y : Operand} {k : IntKind} {a b : Int} (hx : evu env x = some (.v (.int k a))) (hy : evu env y = some (.v (.int k b))) (e : a ≠ b) : bJ P ⟨d,.binOp .neq t x y t2,ty,pos,af,g⟩ env h 0 (fun _ => .b true) (fun _ => []) := by
  have := pS (P := P) (d := d) (ty := ty) (pos := pos) (af := af) (g := g) (h := h) (t := t) (t2 := t2) hx hy;simpa [e] using this
theorem yG {t t2 : TypeId} {x y : Operand} {k : IntKind} {a b : Int} (hx : evu env x = some (.v (.int k a))) (hy : evu env y = some (.v (.int k b))) (e : a = b) : bJ P ⟨d,.binOp .neq t x y t2,ty,pos,af,g⟩ env h 0 (fun _ => .b false) (fun _ => []) := by
  have := pS (P := P) (d := d) (ty := ty) (pos := pos) (af := af) (g := g) (h := h) (t := t) (t2 := t2) hx hy;simpa [e] using this
theorem HJ {t t2 : TypeId} {x y : Operand} {k : IntKind} {a b r : Int} (hx : evu env x = some (.v (.int k a))) (hy : evu env y = some (.v (.int k b))) (e : a - b = r) (hn : k.wrap r = r) : bJ P ⟨d,.binOp .sub t x y t2,ty,pos,af,g⟩ env h 0 (fun _ => .v (.int k r)) (fun _ => []) := by
  have := KX (P := P) (d := d) (ty := ty) (pos := pos) (af := af) (g := g) (h := h) (t := t) (t2 := t2) hx hy;rw [e,hn] at this;exact this
theorem NA {t t2 : TypeId} {x y : Operand} {a b r : Int} (hx : evu env x = some (.i a)) (hy : evu env y = some (.i b)) (e : IntKind.i64.wrap (a * b) = r) : bJ P ⟨d,.binOp .mul t x y t2,ty,pos,af,g⟩ env h 0 (fun _ => .i r) (fun _ => []) := by
  have := zD5 (P := P) (d := d) (ty := ty) (pos := pos) (af := af) (g := g) (h := h) (t := t) (t2 := t2) hx hy;rw [e] at this;exact this
theorem MW {t t2 : TypeId} {x y : Operand} {a b r : Int} (hx : evu env x = some (.i a)) (hy : evu env y = some (.i b)) (e : IntKind.i64.wrap (a - b) = r) : bJ P ⟨d,.binOp .sub t x y t2,ty,pos,af,g⟩ env h 0 (fun _ => .i r) (fun _ => []) := by
  have := KX (P := P) (d := d) (ty := ty) (pos := pos) (af := af) (g := g) (h := h) (t := t) (t2 := t2) hx hy;rw [e] at this;exact this
end
theorem YF {P : Program} {env : dD} {h : Hp} {d : Option Nat} {ty : TypeId} {pos : String} {af : Array Edge} {g : Option (Nat × Bool)} {t : TypeId} {x : Operand} {a r : Int} (hx : evu env x = some (.i a)) (e : -a = r) (hr : qH r) : bJ P ⟨d,.unOp .neg t x,ty,pos,af,g⟩ env h 0 (fun _ => .i r) (fun _ => []) := by
  subst e;obtain ⟨h1,h2⟩ := hr;exact MZ hx (by omega) (by omega)
theorem FC (n : Int) : qH (IntKind.i64.wrap n) := by
  unfold qH;simp only [IntKind.wrap,IntKind.signed,IntKind.bits];simp;split <;> omega
set_option maxHeartbeats 4000000
theorem II (pre : List UInt8) (u : Nat) (n : Int) (hn : qH n) (hs : Lib.itoa n = pre ++ Lib.decDigits u) (hp : (pre = [] ∧ n = u) ∨ (pre = [45] ∧ n = -(u : Int) ∧ n < 0)) :
    bI Tryz.prog 149 [.s (Lib.itoa n)] [] (.tup [.i n,.b true]) [] := by
  have hl20 := zG hn;have hc := sQ hn;have hval := QP u;have hle := WB (Lib.decDigits u);have hch := zJ u;have hne := EE u;have hib : dU n = Lib.itoa n ++ [59] := rfl;rw [hib] at hc;obtain ⟨n1,n2⟩ := hn;rw [hs] at hl20 hc ⊢;have hpl : pre.length ≤ 1 := by rcases hp with ⟨rfl,_⟩ | ⟨rfl,_⟩ <;> simp
  generalize Lib.decDigits u = ds at *;have hdl : 0 < ds.length := jK.2 hne;have hle2 : (pre ++ ds).length = pre.length + ds.length := aB;have hfrom : ∀ k,k < ds.length → (pre ++ ds)[pre.length + k]? = ds[k]? := fun k hk => by rw [aE (by omega),Nat.add_sub_cancel_left]
  refine dA T Tryz.func149 rfl rfl rfl rfl ?_;apply cutT
  · intro rest;rcases hp with ⟨hp1,hnu⟩ | ⟨hp1,hnu,_⟩
    · have h0 : (pre ++ ds)[(0 : Int).toNat]? = some (ds.getD 0 0) := by
        rw [hp1,List.nil_append,rB,aD,aC hdl];rfl
      have hd0 : ds.getD 0 0 ∈ ds := by rw [aD,aC hdl];exact aH hdl
      have hd1 := hch _ hd0;have hp0 : (0 : Int) = (pre.length : Int) := by rw [hp1];rfl
      generalize ds.getD 0 0 = c at *
      (repeat' (first|refine wS ?_|refine wB ?_|refine wK ?_|refine wU ?_|(refine rg 0 (kJ ?_))|(refine rg 1 (aV ?_))|(refine rg 2 (mW rfl (vV (fF eK rfl) (vV (yH rfl rfl (by omega)) (mW rfl (yN rfl (yV (by exact iD eK rfl rfl (by decide) h0) ?_))))));refine yV (F9 rfl rfl (by omega)) (pV ?_))|(refine rg 4 (aV ?_))|(refine rg 5 (mW rfl (aV ?_)))|refine nZ ?_));all_goals exact fY [(0,.s (pre ++ ds)),(4,.i (pre.length : Int)),(5,.i (-((C5 ds 0 : Nat) : Int))),(6,.i (pre.length : Int))] [] ⟨[],rfl,⟨rfl,congrArg (fun x => some (AV.i x)) hp0,rfl,congrArg (fun x => some (AV.i x)) hp0,trivial⟩,trivial,aI,fun _ h => absurd h (eM _)⟩ rest.get
    · have h0 : (pre ++ ds)[(0 : Int).toNat]? = some 45 := by rw [hp1];rfl
      have hp0 : (1 : Int) = (pre.length : Int) := by rw [hp1];rfl
      (repeat' (first|refine wS ?_|refine wB ?_|refine wT ?_|(refine rg 0 (kJ ?_))|(refine rg 1 (aV ?_))|(refine rg 2 (mW rfl (vV (fF eK rfl) (vV (yH rfl rfl (by omega)) (mW rfl (yN rfl (yV (by exact iD eK rfl rfl (by decide) h0) ?_))))));refine yV (F8 rfl rfl rfl) (pV ?_))|(refine rg 3 (aV ?_))|(refine rg 4 (aV ?_))|(refine rg 5 (mW rfl (aV ?_)))|refine nZ ?_));all_goals exact fY [(0,.s (pre ++ ds)),(4,.i (pre.length : Int)),(5,.i (-((C5 ds 0 : Nat) : Int))),(6,.i (pre.length : Int))] [] ⟨[],rfl,⟨rfl,congrArg (fun x => some (AV.i x)) hp0,rfl,congrArg (fun x => some (AV.i x)) hp0,trivial⟩,trivial,aI,fun _ h => absurd h (eM _)⟩ rest.get
  · have hu : C5 ds ds.length ≤ 9223372036854775808 := by
      rw [hval];rcases hp with ⟨_,hnu⟩ | ⟨_,hnu,_⟩ <;> omega
    refine dR (X := {k : Nat // k ≤ ds.length}) (fun k => [(0,.s (pre ++ ds)),(4,.i (pre.length : Int)),(5,.i (-((C5 ds k.1 : Nat) : Int))),(6,.i ((pre.length + k.1 : Nat) : Int))]) (fun _ => []) (fun k => ds.length - k.1) ⟨0,by omega⟩ (qO []) ?_
    rintro ⟨k,hk⟩;dsimp only;by_cases hlt : k < ds.length
    · have h1 : (pre ++ ds)[(((pre.length + k : Nat) : Int)).toNat]? = some ds[k] := by rw [bN,hfrom k hlt,aC hlt]
      have hd := hch _ (aH hlt);have hnx := NV hlt;have hl1 := hle (k + 1);have hl2 := hle k;rw [hnx] at hl1;generalize ds[k] = c at *;generalize C5 ds k = v at *;generalize C5 ds ds.length = vv at *;have e1 : IntKind.i64.wrap (10 * -(v : Int)) = -((10 * v : Nat) : Int) := by rw [show (10 : Int) * -(v : Int) = -((10 * v : Nat) : Int) by omega];exact LX (by omega) (by omega)
      have e2 : ((c.toNat : Int) - 48) = ((c.toNat - 48 : Nat) : Int) := by omega
      have e3 : IntKind.i64.wrap (-((10 * v : Nat) : Int) - ((c.toNat - 48 : Nat) : Int)) = -((10 * v + (c.toNat - 48) : Nat) : Int) := by rw [show -((10 * v : Nat) : Int) - ((c.toNat - 48 : Nat) : Int) = -((10 * v + (c.toNat - 48) : Nat) : Int) by omega];exact LX (by omega) (by omega)
      (repeat' (first|refine wS ?_|refine wB ?_|refine wK ?_|refine wT ?_|refine wU ?_|(refine rg 6 (dS rfl (vV (fF eK rfl) (vV (nM rfl rfl (by omega)) ?_))))|(refine rg 8 (dS rfl (vV (by exact iD eK rfl rfl (by omega) h1) ?_));refine vV (pT rfl rfl (by omega)) (mW rfl (yN rfl (yN rfl (yV (by exact iD eK rfl rfl (by omega) h1) ?_))));refine yV (yI rfl rfl (by omega)) (pW rfl (mW rfl (yN rfl (yV (yI rfl rfl (by omega)) (pV ?_))))))|(refine rg 10 (mW rfl (vV (NA rfl rfl e1) (dS rfl (vV (by exact iD eK rfl rfl (by omega) h1) ?_))));refine vV (HJ rfl rfl e2 (CW (by omega) (by omega))) (vV (V2 CD DS rfl (LX (by omega) (by omega))) (vV (MW rfl rfl e3) (aV ?_))))|(refine iA 7 rfl rfl rfl (by omega) (by omega) ?_)|refine nZ ?_));all_goals first | (exfalso;omega) | exact ⟨⟨k + 1,hlt⟩,by dsimp only;omega,⟨[],rfl,⟨rfl,rfl,by dsimp only;rw [hnx];rfl,congrArg (fun x => some (AV.i x)) (show ((pre.length + k : Nat) : Int) + 1 = ((pre.length + (k + 1) : Nat) : Int) by omega),trivial⟩,trivial,aI,fun _ h => absurd h (eM _)⟩⟩
    · obtain rfl : k = ds.length := by omega
      rw [hval] at hu ⊢;rcases hp with ⟨hp1,hnu⟩ | ⟨hp1,hnu,hng⟩
      · have hp0 : (pre.length : Int) = 0 := by rw [hp1];rfl
        have hneg : -(-(u : Int)) = n := by omega
        (repeat' (first|refine wS ?_|refine wR ?_|refine wE ?_|refine wT ?_|refine wU ?_|(refine rg 6 (dS rfl (vV (fF eK rfl) (vV (pT rfl rfl (by omega)) ?_))))|(refine rg 11 (mW rfl (vV (F8 rfl rfl hp0) ?_)))|(refine rg 12 (mW rfl (vV (YF rfl hneg ⟨n1,n2⟩) (aV ?_))))|(refine rg 13 (dS rfl (vV (kC (hc)) (mW rfl (vV (jL rfl rfl (by simp only [aB,List.length_cons,List.length_nil] at *;omega)) ?_))));refine vV (HQ rfl rfl rfl) (kJ ?_))|refine nZ ?_));all_goals first | (exfalso;omega) | exact ⟨.inl rfl,[],_,rfl,rfl,rfl,trivial,by decide,VU⟩
      · have hp0 : (pre.length : Int) = 1 := by rw [hp1];rfl
        have hcn : (-(u : Int)) = n := hnu.symm;rw [hcn]
        (repeat' (first|refine wS ?_|refine wK ?_|refine wR ?_|refine wE ?_|refine wU ?_|(refine rg 6 (dS rfl (vV (fF eK rfl) (vV (pT rfl rfl (by omega)) ?_))))|(refine rg 11 (mW rfl (vV (F9 rfl rfl (by omega)) ?_)))|(refine rg 13 (dS rfl (vV (kC (hc)) (mW rfl (vV (jL rfl rfl (by simp only [aB,List.length_cons,List.length_nil] at *;omega)) ?_))));refine vV (HQ rfl rfl rfl) (kJ ?_))|refine nZ ?_));all_goals first | (exfalso;omega) | exact ⟨.inl rfl,[],_,rfl,rfl,rfl,trivial,by decide,VU⟩
theorem B3 {P : Program} {env : dD} {h : Hp} {d : Option Nat} {ty : TypeId} {pos : String} {af : Array Edge} {g : Option (Nat × Bool)} {x : Operand} {a : Int} (hx : evu env x = some (.i a)) : bJ P ⟨d,.assign x,ty,pos,af,g⟩ env h 0 (fun _ => .any) (fun _ => []) := by
  refine fL fun ρ S ac w p => ⟨.int .i64 a,?_,by simp [R]⟩
  have h1 := pZ (p.evu hx);simp [execOp,h1]
theorem YE {P : Program} {env : dD} {h : Hp} {d : Option Nat} {ty : TypeId} {pos : String} {af : Array Edge} {g : Option (Nat × Bool)} {t : TypeId} {x : Operand} {a r : Int} (hx : evu env x = some (.i a)) (e : IntKind.i64.wrap (-a) = r) : bJ P ⟨d,.unOp .neg t x,ty,pos,af,g⟩ env h 0 (fun _ => .i r) (fun _ => []) := by
  have := TQ (P := P) (h := h) (d := d) (ty := ty) (pos := pos) (af := af) (g := g) (t := t) hx;rw [e] at this;exact this
set_option maxHeartbeats 4000000
theorem IJ (s : List UInt8) (hs : ∀ n,qH n → Lib.itoa n ≠ s) (hl : s.length ≤ 1000) : bI Tryz.prog 149 [.s s] [] (.tup [.any,.b false]) [] := by
  refine dA T Tryz.func149 rfl rfl rfl rfl ?_;have hf : ∃ f : Nat,(f = 1 ∧ ∃ r,s = 45 :: r) ∨ (f = 0 ∧ (s = [] ∨ ∃ c r,s = c :: r ∧ c.toNat ≠ 45)) := by
    cases s with
    | nil => exact ⟨0,.inr ⟨rfl,.inl rfl⟩⟩
    | cons c r =>
      by_cases h : c.toNat = 45
      · exact ⟨1,.inl ⟨rfl,r,by rw [show c = 45 from UInt8.toNat_inj.1 h]⟩⟩
      · exact ⟨0,.inr ⟨rfl,.inr ⟨c,r,rfl,h⟩⟩⟩
  obtain ⟨f,hf⟩ := hf;have hf1 : f ≤ 1 := by rcases hf with ⟨h,_⟩ | ⟨h,_⟩ <;> omega
  apply cutT
  · intro rest;rcases hf with ⟨hf0,r,hr⟩ | ⟨hf0,hr | ⟨c,r,hr,hc⟩⟩
    · have h0 : s[(0 : Int).toNat]? = some 45 := by rw [hr];rfl
      have hp : 0 < s.length := by rw [hr];simp
      (repeat' (first|refine wS ?_|refine wB ?_|refine wT ?_|(refine rg 0 (kJ ?_))|(refine rg 1 (aV ?_))|(refine rg 2 (mW rfl (vV (fF eK rfl) (vV (yH rfl rfl (by omega)) (mW rfl (yN rfl (yV (by exact iD eK rfl rfl (by decide) h0) ?_))))));refine yV (F8 rfl rfl rfl) (pV ?_))|(refine rg 3 (aV ?_))|(refine rg 4 (aV ?_))|(refine rg 5 (mW rfl (aV ?_)))|refine nZ ?_));all_goals exact fY [(0,.s s),(4,.i (f : Int)),(5,.i 0),(6,.i (f : Int))] [] ⟨[],rfl,⟨rfl,congrArg (fun x => some (AV.i x)) (show (1 : Int) = (f : Int) by omega),rfl,congrArg (fun x => some (AV.i x)) (show (1 : Int) = (f : Int) by omega),trivial⟩,trivial,aI,fun _ h => absurd h (eM _)⟩ rest.get
    · have hp : s.length = 0 := by rw [hr];rfl
      (repeat' (first|refine wS ?_|refine wB ?_|refine wK ?_|refine wU ?_|(refine rg 0 (kJ ?_))|(refine rg 1 (aV ?_))|(refine rg 2 (mW rfl (vV (fF eK rfl) (vV (yI rfl rfl (by omega)) (mV ?_))));(iterate 3 refine gF ?_);refine pV ?_)|(refine rg 4 (aV ?_))|(refine rg 5 (mW rfl (aV ?_)))|refine nZ ?_));all_goals exact fY [(0,.s s),(4,.i (f : Int)),(5,.i 0),(6,.i (f : Int))] [] ⟨[],rfl,⟨rfl,congrArg (fun x => some (AV.i x)) (show (0 : Int) = (f : Int) by omega),rfl,congrArg (fun x => some (AV.i x)) (show (0 : Int) = (f : Int) by omega),trivial⟩,trivial,aI,fun _ h => absurd h (eM _)⟩ rest.get
    · have h0 : s[(0 : Int).toNat]? = some c := by rw [hr];rfl
      have hp : 0 < s.length := by rw [hr];simp
      (repeat' (first|refine wS ?_|refine wB ?_|refine wK ?_|refine wU ?_|(refine rg 0 (kJ ?_))|(refine rg 1 (aV ?_))|(refine rg 2 (mW rfl (vV (fF eK rfl) (vV (yH rfl rfl (by omega)) (mW rfl (yN rfl (yV (by exact iD eK rfl rfl (by decide) h0) ?_))))));refine yV (F9 rfl rfl (by omega)) (pV ?_))|(refine rg 4 (aV ?_))|(refine rg 5 (mW rfl (aV ?_)))|refine nZ ?_));all_goals exact fY [(0,.s s),(4,.i (f : Int)),(5,.i 0),(6,.i (f : Int))] [] ⟨[],rfl,⟨rfl,congrArg (fun x => some (AV.i x)) (show (0 : Int) = (f : Int) by omega),rfl,congrArg (fun x => some (AV.i x)) (show (0 : Int) = (f : Int) by omega),trivial⟩,trivial,aI,fun _ h => absurd h (eM _)⟩ rest.get
  · refine dR (X := {p : Nat × Int // qH p.2}) (fun p => [(0,.s s),(4,.i (f : Int)),(5,.i p.1.2),(6,.i (p.1.1 : Int))]) (fun _ => []) (fun p => s.length - p.1.1) ⟨(f,0),by unfold qH;omega⟩ (qO []) ?_
    rintro ⟨⟨i,n⟩,hn⟩;dsimp only at hn ⊢;by_cases hlt : i < s.length
    · have h1 : s[((i : Int)).toNat]? = some s[i] := by rw [bN,aC hlt]
      generalize s[i] = c at *;by_cases hb : 48 ≤ c.toNat ∧ c.toNat ≤ 57 ∧ i ≤ 20
      · have hw := FC (IntKind.i64.wrap (10 * n) - ((c.toNat - 48 : Nat) : Int));have e2 : ((c.toNat : Int) - 48) = ((c.toNat - 48 : Nat) : Int) := by omega
        generalize hz : IntKind.i64.wrap (IntKind.i64.wrap (10 * n) - ((c.toNat - 48 : Nat) : Int)) = z at *;generalize e1 : IntKind.i64.wrap (10 * n) = y at *
        (repeat' (first|refine wS ?_|refine wB ?_|refine wK ?_|refine wT ?_|refine wU ?_|(refine rg 6 (dS rfl (vV (fF eK rfl) (vV (nM rfl rfl (by omega)) ?_))))|(refine rg 8 (dS rfl (vV (by exact iD eK rfl rfl (by omega) h1) ?_));refine vV (pT rfl rfl (by omega)) (mW rfl (yN rfl (yN rfl (yV (by exact iD eK rfl rfl (by omega) h1) ?_))));refine yV (yI rfl rfl (by omega)) (pW rfl (mW rfl (yN rfl (yV (yI rfl rfl (by omega)) (pV ?_))))))|(refine rg 10 (mW rfl (vV (NA rfl rfl e1) (dS rfl (vV (by exact iD eK rfl rfl (by omega) h1) ?_))));refine vV (HJ rfl rfl e2 (CW (by omega) (by omega))) (vV (V2 CD DS rfl (LX (by omega) (by omega))) (vV (MW rfl rfl hz) (aV ?_))))|(refine iA 7 rfl rfl rfl (by omega) (by omega) ?_)|refine nZ ?_));all_goals first | (exfalso;omega) | exact ⟨⟨(i + 1,z),hw⟩,by dsimp only;omega,[],rfl,⟨rfl,rfl,rfl,rfl,trivial⟩,trivial,aI,fun _ h => absurd h (eM _)⟩
      · (repeat' (first|refine wS ?_|refine wB ?_|refine wK ?_|refine tE rfl ?_|(refine rg 6 (dS rfl (vV (fF eK rfl) (vV (nM rfl rfl (by omega)) ?_))))|(refine rg 8 (dS rfl (vV (by exact iD eK rfl rfl (by omega) h1) ?_));refine vV (bE rfl rfl) (mV ?_);refine bP rfl rfl (fun hb => ?_) (fun hb => ?_) <;> ((rw [hb];(try simp only [nm] at hb);try ((exfalso;omega);done)));(all_goals first|(refine gT (mW rfl (gT (mW rfl (gT (vV (by exact iD eK rfl rfl (by omega) h1) ?_)))));refine gT (vV (gH rfl rfl) ?_))|(iterate 4 refine gF ?_));(all_goals (refine pW rfl (mV ?_)));(all_goals first|(refine gK ?_)|(refine bP rfl rfl (fun hb => ?_) (fun hb => ?_) <;> ((rw [hb];(try simp only [nm] at hb);try ((exfalso;omega);done)))));(all_goals first|(refine gT (mW rfl (gT (vV (yH rfl rfl (by omega)) ?_))))|(iterate 2 refine gF ?_));(all_goals (refine pV ?_)))|(refine nZ ?_)));all_goals try (exfalso;omega)
        all_goals repeat' (first|refine wR ?_|(refine rg 9 (vV (B3 rfl) (vV (jJ rfl) ?_)))|(refine nZ ?_))
        all_goals exact ⟨.inl rfl,[],_,rfl,rfl,rfl,trivial,by decide,VU⟩
    · by_cases hf0 : (f : Int) = 0
      · have hn2 : qH (IntKind.i64.wrap (-n)) := FC _;have hc := sQ hn2;have hne : dU (IntKind.i64.wrap (-n)) ≠ s ++ [59] := fun q => hs _ hn2 (List.append_cancel_right q);generalize hz : IntKind.i64.wrap (-n) = z at *
        (repeat' (first|refine wS ?_|refine wE ?_|refine wT ?_|refine wU ?_|(refine rg 6 (dS rfl (vV (fF eK rfl) (vV (pT rfl rfl (by omega)) ?_))))|(refine rg 11 (mW rfl (vV (F8 rfl rfl hf0) ?_)))|(refine rg 12 (mW rfl (vV (YE rfl hz) (aV ?_))))|refine nZ ?_));all_goals try (exfalso;omega)
        all_goals repeat' (first|refine wR ?_|(refine rg 13 (dS rfl (vV (kC (hc)) (mW rfl (vV (jL rfl rfl (by simp only [aB,List.length_cons,List.length_nil] at *;omega)) ?_))));refine vV (HR rfl rfl hne) (vV (B3 rfl) (vV (jJ rfl) ?_)))|(refine nZ ?_))
        all_goals exact ⟨.inl rfl,[],_,rfl,rfl,rfl,trivial,by decide,VU⟩
      · have hc := sQ hn;have hne : dU n ≠ s ++ [59] := fun q => hs _ hn (List.append_cancel_right q)
        (repeat' (first|refine wS ?_|refine wK ?_|refine wE ?_|refine wU ?_|(refine rg 6 (dS rfl (vV (fF eK rfl) (vV (pT rfl rfl (by omega)) ?_))))|(refine rg 11 (mW rfl (vV (F9 rfl rfl hf0) ?_)))|refine nZ ?_));all_goals try (exfalso;omega)
        all_goals repeat' (first|refine wR ?_|(refine rg 13 (dS rfl (vV (kC (hc)) (mW rfl (vV (jL rfl rfl (by simp only [aB,List.length_cons,List.length_nil] at *;omega)) ?_))));refine vV (HR rfl rfl hne) (vV (B3 rfl) (vV (jJ rfl) ?_)))|(refine nZ ?_))
        all_goals exact ⟨.inl rfl,[],_,rfl,rfl,rfl,trivial,by decide,VU⟩
theorem PT (n : Int) (hn : qH n) : bI Tryz.prog 149 [.s (Lib.itoa n)] [] (.tup [.i n,.b true]) [] := by
  by_cases h : n < 0
  · exact II [45] n.natAbs n hn (by unfold Lib.itoa;rw [if_pos h];rfl) (.inr ⟨rfl,by omega,h⟩)
  · exact II [] n.toNat n hn (by unfold Lib.itoa;rw [if_neg h];rfl) (.inl ⟨rfl,by omega⟩)
theorem WT (l : List UInt8) : bI Tryz.prog 72 [.s l] [] (.ptr 0 0) (A7 (some l)) := by
  refine dA T Tryz.func72 rfl rfl rfl rfl ?_
  (repeat' (first|refine wS ?_|refine wR ?_|(refine rg 0 (aV ?_))|(refine rg 1 (mW rfl (vV (by exact gS T rfl rfl rfl rfl) ?_));refine dQ (fE rfl rfl) rfl (aV ?_))|refine nZ ?_));all_goals exact ⟨.inl rfl,[0],_,rfl,rfl,rfl,⟨.inr rfl,trivial⟩,by decide,VU⟩
theorem MI (r : List UInt8) (b : Bool) : bI Tryz.prog 148 [.ptr 0 0] [.cells [.s r,.b b]] (.i 0) [.cells [.s [],.b true]] := by
  refine dA T Tryz.func148 rfl rfl rfl rfl ?_
  (repeat' (first|refine wS ?_|refine wR ?_|(refine rg 0 (aV ?_))|(refine rg 1 (mW rfl (nV ?_));refine fW T rfl (bA T rfl rfl rfl rfl rfl rfl (by decide) rfl ?_))|(refine rg 2 (mW rfl (nV ?_));refine fW T rfl (bA T rfl rfl rfl rfl rfl rfl (by decide) rfl ?_))|(refine rg 3 (aV ?_))|refine nZ ?_));all_goals exact ⟨.inl rfl,[0],_,rfl,rfl,rfl,⟨.inr rfl,trivial⟩,by decide,oO⟩
structure zR6 (r : List UInt8) (e : UInt8) (k : Nat) : Prop where
  le : k ≤ r.length ∧ k ≤ 21
  no : ∀ j,j < k → r[j]? ≠ some e
theorem MO {r : List UInt8} {e : UInt8} {lo : Int} (h : ∀ j,j < 21 → r[j]? ≠ some e) : oN r e lo = none := by
  unfold oN;rw [if_pos];by_cases h0 : Lib.indexByte (r.take 21) e < 0
  · exact h0
  · exfalso;have hi := F5 (r := r) (e := e) (AI.1 h0);have h1 := (Lib.indexByte_some (l := r.take 21) (c := e) (o := (Lib.indexByte (r.take 21) e).toNat) (by omega)).1
    rw [bS,if_pos hi.2] at h1;exact h _ hi.2 h1
theorem XI {r : List UInt8} {e : UInt8} {lo : Int} {k : Nat} (hk : k < r.length) (h21 : k < 21) (hn : ∀ j,j < k → r[j]? ≠ some e) (he : r[k]? = some e) :
    (∀ n,Lib.itoa n = r.take k → qH n → lo ≤ n → oN r e lo = some (n,r.drop (k + 1))) ∧ ((∀ n,qH n → Lib.itoa n ≠ r.take k) → oN r e lo = none) := by
  have hi : Lib.indexByte (r.take 21) e = k := by
    have hs : r.take 21 = r.take k ++ e :: (r.take 21).drop (k + 1) := by
      have hkl : k < (r.take 21).length := by rw [bT];omega
      conv => lhs;rw [← cI k (r.take 21)]
      rw [aO hkl,IX,tQ (by omega)]
      congr 1;have : (r.take 21)[k]? = some e := by rw [bS,if_pos h21];exact he
      rw [aC hkl] at this;rw [Option.some.inj this]
    rw [hs];have hni : e ∉ r.take k := fun hm => by
      obtain ⟨j,hj,q⟩ := List.mem_take_iff_getElem.1 hm;exact hn j (by omega) (by rw [aC (by omega),q])
    rw [HC hni,bT,tQ (by omega)]
  unfold oN;rw [hi,if_neg (by omega),bN]
  constructor
  · intro n h1 h2 h3;rw [← h1,CP h2];dsimp only;rw [if_pos ⟨rfl,h3⟩]
  · intro h;cases ha : Lib.atoiAll (r.take k) with
    | ok n =>
      dsimp only;have hb := Lib.atoiAll_bounds ha;rw [if_neg (fun q => h n ⟨hb.1,hb.2⟩ q.1)]
    | _ => rfl
theorem YV (r : List UInt8) (b : Bool) (e : UInt8) (hl : r.length ≤ 100000000) :
    bI Tryz.prog 111 [.ptr 0 0,.v (.int .u8 e.toNat)] [.cells [.s r,.b b]] (.i (((oN r e (-9223372036854775808)).map (·.1)).getD 0)) [.cells [.s (((oN r e (-9223372036854775808)).map (·.2)).getD []),.b (if (oN r e (-9223372036854775808)).isNone then true else b)]] := by
  have hf := MI r b;refine dA T Tryz.func111 rfl rfl rfl rfl ?_
  (repeat' (first|refine wS ?_|refine wB ?_|(refine rg 0 (aV ?_))|(refine rg 1 (aV ?_))|refine nZ ?_));refine dR (X := {k : Nat // zR6 r e k}) (fun k => [(0,.ptr 0 0),(1,.v (.int .u8 e.toNat)),(5,.i (k.1 : Int))]) (fun _ => [.cells [.s r,.b b]]) (fun k => r.length - k.1) ⟨0,⟨by omega,by omega⟩,fun j hj => by omega⟩ ⟨[0],rfl,(by repeat first|exact trivial|refine ⟨rfl,?_⟩),⟨.inr rfl,trivial⟩,by decide,oO⟩ ?_
  rintro ⟨k,hA⟩;dsimp only;obtain ⟨⟨hk1,hk2⟩,hno⟩ := hA;by_cases hkl : k < r.length
  · have h1 : r[((k : Int)).toNat]? = some r[k] := by rw [bN,aC hkl]
    have h1' : r[k]? = some r[k] := aC hkl;generalize r[k] = c at *;by_cases h21 : k < 21
    · by_cases hce : c = e
      · subst hce;obtain ⟨g1,g2⟩ := XI (lo := -9223372036854775808) hkl h21 hno h1';have e2 : ((r.take ((k : Int)).toNat).drop (0 : Int).toNat) = r.take k := by rw [rB,cP,bN]
        have e3 : (r.take ((r.length : Int)).toNat).drop ((k : Int) + 1).toNat = r.drop (k + 1) := by rw [bN,dJ,show ((k : Int) + 1).toNat = k + 1 by omega]
        have htl : (r.take k).length ≤ 1000 := by rw [bT];omega
        by_cases hn : ∃ n,qH n ∧ Lib.itoa n = r.take k
        · obtain ⟨n,hn1,hn2⟩ := hn;have hB := PT n hn1;rw [hn2] at hB;rw [g1 n hn2 hn1 hn1.1];generalize r.take k = s at *;generalize r.drop (k + 1) = r' at *
          (repeat' (first|refine wS ?_|refine wK ?_|refine wR ?_|refine wE ?_|refine wU ?_|(refine wC rfl ?_ ?_<;>(intro hb;(try simp only [nm] at hb);try (exfalso;omega)))|(refine rg 2 (dS rfl (nV ?_));refine eT T rfl (vV (fF eK rfl) (vV (nM rfl rfl (by omega)) (mW rfl (yN rfl (yV (nM rfl rfl (by omega)) (pW rfl (mW rfl (yN rfl (gT ?_)))))))));refine nV ?_;refine yP T rfl (yO T rfl (yN rfl (yV (by exact iD eK rfl rfl (by omega) h1) ?_)));refine yN rfl (yV (yG rfl rfl rfl) (pV ?_)))|(refine rg 4 (dS rfl (nV ?_));refine eT T rfl (vV (fF eK rfl) (vV (eN rfl rfl) ?_)))|(refine rg 6 (mW rfl (nV ?_));refine eT T rfl (mW rfl (vV (by exact iD eK rfl rfl (by omega) h1) ?_));refine mW rfl (vV (yG rfl rfl rfl) ?_))|(refine rg 8 (mW rfl (nV ?_));refine eT T rfl (mW rfl (vV (by exact gG eK rfl rfl rfl (by decide) (by omega) (by omega) e2) ?_));refine vV (kC (hB)) (mW rfl (xW rfl (xW rfl (kJ ?_)))))|(refine rg 9 (mW rfl (vV (cV rfl) ?_)))|(refine rg 11 (dS rfl (nV ?_));refine eT T rfl (mW rfl (vV (eD rfl rfl (by omega) (by omega)) (vV (by exact gG eK rfl rfl rfl (by omega) (by omega) (by omega) e3) ?_)));refine nV ?_;refine fW T rfl (bA T rfl rfl rfl rfl rfl rfl (by decide) rfl ?_))|(refine rg 12 (mW rfl (aV ?_)))|refine nZ ?_));all_goals first | (exfalso;omega) | exact ⟨.inl rfl,[0],_,rfl,rfl,rfl,⟨.inr rfl,trivial⟩,by decide,oO⟩
        · have hn' : ∀ n,qH n → Lib.itoa n ≠ r.take k := fun n h q => hn ⟨n,h,q⟩
          have hB := IJ _ hn' htl;rw [g2 hn'];generalize r.take k = s at *
          (repeat' (first|refine wS ?_|refine wK ?_|refine wR ?_|refine wE ?_|refine wT ?_|refine wU ?_|(refine wC rfl ?_ ?_<;>(intro hb;(try simp only [nm] at hb);try (exfalso;omega)))|(refine rg 2 (dS rfl (nV ?_));refine eT T rfl (vV (fF eK rfl) (vV (nM rfl rfl (by omega)) (mW rfl (yN rfl (yV (nM rfl rfl (by omega)) (pW rfl (mW rfl (yN rfl (gT ?_)))))))));refine nV ?_;refine yP T rfl (yO T rfl (yN rfl (yV (by exact iD eK rfl rfl (by omega) h1) ?_)));refine yN rfl (yV (yG rfl rfl rfl) (pV ?_)))|(refine rg 4 (dS rfl (nV ?_));refine eT T rfl (vV (fF eK rfl) (vV (eN rfl rfl) ?_)))|(refine rg 6 (mW rfl (nV ?_));refine eT T rfl (mW rfl (vV (by exact iD eK rfl rfl (by omega) h1) ?_));refine mW rfl (vV (yG rfl rfl rfl) ?_))|(refine rg 8 (mW rfl (nV ?_));refine eT T rfl (mW rfl (vV (by exact gG eK rfl rfl rfl (by decide) (by omega) (by omega) e2) ?_));refine vV (kC (hB)) (mW rfl (xW rfl (xW rfl (kJ ?_)))))|(refine rg 9 (mW rfl (vV (cV rfl) ?_)))|(refine rg 10 (mW rfl (bR [0] rfl rfl hf rfl rfl (by decide) ⟨.inr rfl,trivial⟩ (by simp) rfl ?_));refine aV ?_)|refine nZ ?_));all_goals first | (exfalso;omega) | exact ⟨.inl rfl,[0],_,rfl,rfl,rfl,⟨.inr rfl,trivial⟩,by decide,oO⟩
      · have hne : (c.toNat : Int) ≠ (e.toNat : Int) := fun q => hce (UInt8.toNat_inj.1 (by omega))
        (repeat' (first|refine wS ?_|refine wB ?_|refine wK ?_|refine wT ?_|(refine rg 2 (dS rfl (nV ?_));refine eT T rfl (vV (fF eK rfl) (vV (nM rfl rfl (by omega)) (mW rfl (yN rfl (yV (nM rfl rfl (by omega)) (pW rfl (mW rfl (yN rfl (gT ?_)))))))));refine nV ?_;refine yP T rfl (yO T rfl (yN rfl (yV (by exact iD eK rfl rfl (by omega) h1) ?_)));refine yN rfl (yV (HN rfl rfl hne) (pV ?_)))|(refine iA 3 rfl rfl rfl (by omega) (by omega) ?_)|refine nZ ?_));all_goals first | (exfalso;omega) | exact ⟨⟨k + 1,⟨by omega,by omega⟩,fun j hj => by
          by_cases q : j = k
          · rw [q,h1'];exact fun w => hce (Option.some.inj w)
          · exact hno j (by omega)⟩,by dsimp only;omega,[0],rfl,(by repeat first|exact trivial|refine ⟨rfl,?_⟩),⟨.inr rfl,trivial⟩,by decide,oO⟩
    · obtain rfl : k = 21 := by omega
      rw [MO hno];by_cases hce : c = e
      · subst hce;have e2 : ((r.take ((21 : Nat) : Int).toNat).drop (0 : Int).toNat) = r.take 21 := by rw [rB,cP,bN]
        have hn' : ∀ n,qH n → Lib.itoa n ≠ r.take 21 := fun n h q => by
          have h2 := zG h;rw [q,bT] at h2;omega
        have hB := IJ _ hn' (by rw [bT];omega)
        generalize r.take 21 = s at *
        (repeat' (first|refine wS ?_|refine wK ?_|refine wR ?_|refine wE ?_|refine wT ?_|refine wU ?_|(refine wC rfl ?_ ?_<;>(intro hb;(try simp only [nm] at hb);try (exfalso;omega)))|(refine rg 2 (dS rfl (nV ?_));refine eT T rfl (vV (fF eK rfl) (vV (nM rfl rfl (by omega)) (mW rfl (yN rfl (yV (pT rfl rfl (by omega)) (pW rfl (mV ?_)))))));(iterate 8 refine gF ?_);refine pV ?_)|(refine rg 4 (dS rfl (nV ?_));refine eT T rfl (vV (fF eK rfl) (vV (eN rfl rfl) ?_)))|(refine rg 6 (mW rfl (nV ?_));refine eT T rfl (mW rfl (vV (by exact iD eK rfl rfl (by omega) h1) ?_));refine mW rfl (vV (yG rfl rfl rfl) ?_))|(refine rg 8 (mW rfl (nV ?_));refine eT T rfl (mW rfl (vV (by exact gG eK rfl rfl rfl (by decide) (by omega) (by omega) e2) ?_));refine vV (kC (hB)) (mW rfl (xW rfl (xW rfl (kJ ?_)))))|(refine rg 9 (mW rfl (vV (cV rfl) ?_)))|(refine rg 10 (mW rfl (bR [0] rfl rfl hf rfl rfl (by decide) ⟨.inr rfl,trivial⟩ (by simp) rfl ?_));refine aV ?_)|refine nZ ?_));all_goals first | (exfalso;omega) | exact ⟨.inl rfl,[0],_,rfl,rfl,rfl,⟨.inr rfl,trivial⟩,by decide,oO⟩
      · have hne : (c.toNat : Int) ≠ (e.toNat : Int) := fun q => hce (UInt8.toNat_inj.1 (by omega))
        (repeat' (first|refine wS ?_|refine wK ?_|refine wR ?_|refine wE ?_|refine wT ?_|refine wU ?_|(refine wC rfl ?_ ?_<;>(intro hb;(try simp only [nm] at hb);try (exfalso;omega)))|(refine rg 2 (dS rfl (nV ?_));refine eT T rfl (vV (fF eK rfl) (vV (nM rfl rfl (by omega)) (mW rfl (yN rfl (yV (pT rfl rfl (by omega)) (pW rfl (mV ?_)))))));(iterate 8 refine gF ?_);refine pV ?_)|(refine rg 4 (dS rfl (nV ?_));refine eT T rfl (vV (fF eK rfl) (vV (eN rfl rfl) ?_)))|(refine rg 6 (mW rfl (nV ?_));refine eT T rfl (mW rfl (vV (by exact iD eK rfl rfl (by omega) h1) ?_));refine mW rfl (vV (HN rfl rfl hne) ?_))|(refine rg 7 (mW rfl (bR [0] rfl rfl hf rfl rfl (by decide) ⟨.inr rfl,trivial⟩ (by simp) rfl ?_));refine aV ?_)|refine nZ ?_));all_goals first | (exfalso;omega) | exact ⟨.inl rfl,[0],_,rfl,rfl,rfl,⟨.inr rfl,trivial⟩,by decide,oO⟩
  · rw [MO (fun j hj => by
      by_cases q : j < k
      · exact hno j q
      · rw [bU (by omega)];exact fun w => by cases w)]
    (repeat' (first|refine wS ?_|refine wR ?_|refine wE ?_|refine wU ?_|(refine wC rfl ?_ ?_<;>(intro hb;(try simp only [nm] at hb);try (exfalso;omega)))|(refine rg 2 (dS rfl (nV ?_));refine eT T rfl (vV (fF eK rfl) (vV (pT rfl rfl (by omega)) (mV ?_)));(iterate 2 refine gF ?_);refine pW rfl (mV ?_);(iterate 8 refine gF ?_);refine pV ?_)|(refine rg 4 (dS rfl (nV ?_));refine eT T rfl (vV (fF eK rfl) (vV (eN rfl rfl) ?_)))|(refine rg 5 (mW rfl (bR [0] rfl rfl hf rfl rfl (by decide) ⟨.inr rfl,trivial⟩ (by simp) rfl ?_));refine aV ?_)|refine nZ ?_));all_goals first | (exfalso;omega) | exact ⟨.inl rfl,[0],_,rfl,rfl,rfl,⟨.inr rfl,trivial⟩,by decide,oO⟩
end Go.Proofs.YtdfmhddmddgniaaGreatDoor
namespace Go.Proofs.YtdfmhddmddgniaaGreatDoor
open Go Go.Ab Go.Wr
attribute [local irreducible] VC AW bJ bI zG1 L7 Y5
set_option maxHeartbeats 4000000
theorem XH {r : List UInt8} {e : UInt8} (he : e.toNat ≠ 45 ∧ (e.toNat < 48 ∨ 57 < e.toNat)) : oN r e 0 = match oN r e (-9223372036854775808) with
    | some p => if p.1 < 0 then none else some p
    | none => none := by
  cases h : oN r e (-9223372036854775808) with
  | none =>
    cases h2 : oN r e 0 with
    | none => rfl
    | some p =>
      have h3 := pI h2;have h4 := E5 (r' := p.2) (e := e) (lo := -9223372036854775808) (n := p.1) h3.2.2 h3.2.2.1 he;rw [← h3.1,h] at h4;cases h4
  | some p =>
    have h3 := pI h;by_cases h0 : p.1 < 0
    · simp only [if_pos h0];cases h2 : oN r e 0 with
      | none => rfl
      | some q =>
        have h4 := pI h2;have h5 := E5 (r' := q.2) (e := e) (lo := -9223372036854775808) (n := q.1) h4.2.2 h4.2.2.1 he;rw [← h4.1,h] at h5;cases h5;have := h4.2.1;omega
    · simp only [if_neg h0];have h4 := E5 (r' := p.2) (e := e) (lo := 0) (n := p.1) h3.2.2 (by omega) he
      rw [← h3.1] at h4;exact h4
theorem GJ (s : St) (e : UInt8) (hl : (s.getD []).length ≤ 100000000) :
    bI Tryz.prog 111 [.ptr 0 0,.v (.int .u8 e.toNat)] (A7 s) (.i (fI s e (-9223372036854775808)).1) (A7 (fI s e (-9223372036854775808)).2) := by
  have h := YV (s.getD []) s.isNone e hl;cases s with
  | none =>
    rw [vK];rw [show (none : St).getD [] = [] from rfl,T8] at h
    exact h
  | some r =>
    rw [show (some r : St).getD [] = r from rfl] at h
    cases hp : oN r e (-9223372036854775808) with
    | none => rw [sE hp];rw [hp] at h;exact h
    | some p => rw [qM hp];rw [hp] at h;exact h
theorem OO (s : St) (e : UInt8) (he : e.toNat ≠ 45 ∧ (e.toNat < 48 ∨ 57 < e.toNat)) (hl : (s.getD []).length ≤ 100000000) :
    bI Tryz.prog 110 [.ptr 0 0,.v (.int .u8 e.toNat)] (A7 s) (.i (fI s e 0).1) (A7 (fI s e 0).2) := by
  have hc := GJ s e hl;have hlo := XH (r := s.getD []) he;have key : fI s e 0 = if (fI s e (-9223372036854775808)).1 < 0 then (0,none) else fI s e (-9223372036854775808) := by
    cases s with
    | none => rw [vK,vK];rfl
    | some r =>
      rw [show (some r : St).getD [] = r from rfl] at hlo
      cases hp : oN r e (-9223372036854775808) with
      | none =>
        rw [hp] at hlo;rw [sE hp,sE hlo];rfl
      | some p =>
        rw [hp] at hlo;rw [qM hp];by_cases h0 : p.1 < 0
        · simp only [if_pos h0] at hlo ⊢;exact sE hlo
        · simp only [if_neg h0] at hlo ⊢;exact qM hlo
  rw [key];generalize fI s e (-9223372036854775808) = q at *;obtain ⟨n,t⟩ := q;have hf := MI (t.getD []) t.isNone;dsimp only at hc ⊢;refine dA T Tryz.func110 rfl rfl rfl rfl ?_;by_cases h0 : n < 0
  · rw [if_pos h0]
    (repeat' (first|refine wS ?_|refine wR ?_|(refine wC rfl ?_ ?_<;>(intro hb;(try simp only [nm] at hb);try (exfalso;omega)))|(refine rg 0 (aV ?_))|(refine rg 1 (dS rfl (bR [0] rfl rfl hc rfl rfl (by decide) ⟨.inr rfl,trivial⟩ (by simp) rfl ?_));refine aV ?_)|(refine rg 2 (mW rfl (vV (bE rfl rfl) ?_)))|(refine rg 3 (mW rfl (bR [0] rfl rfl hf rfl rfl (by decide) ⟨.inr rfl,trivial⟩ (by simp) rfl ?_));refine aV ?_)|refine nZ ?_));all_goals first | (exfalso;omega) | exact ⟨.inl rfl,[0],_,rfl,rfl,rfl,⟨.inr rfl,trivial⟩,by decide,oO⟩
  · rw [if_neg h0]
    (repeat' (first|refine wS ?_|refine wK ?_|refine wR ?_|(refine wC rfl ?_ ?_<;>(intro hb;(try simp only [nm] at hb);try (exfalso;omega)))|(refine rg 0 (aV ?_))|(refine rg 1 (dS rfl (bR [0] rfl rfl hc rfl rfl (by decide) ⟨.inr rfl,trivial⟩ (by simp) rfl ?_));refine aV ?_)|(refine rg 2 (mW rfl (vV (bE rfl rfl) ?_)))|(refine rg 4 (mW rfl (aV ?_)))|refine nZ ?_));all_goals first | (exfalso;omega) | exact ⟨.inl rfl,[0],_,rfl,rfl,rfl,⟨.inr rfl,trivial⟩,by decide,oO⟩
theorem wH (s : St) (hl : (s.getD []).length ≤ 100000000) : bI Tryz.prog 75 [.ptr 0 0] (A7 s) (.i (cE s).1) (A7 (cE s).2) := by
  have hc := GJ s 59 hl;refine dA T Tryz.func75 rfl rfl rfl rfl ?_
  (repeat' (first|refine wS ?_|refine wR ?_|(refine rg 0 (aV ?_))|(refine rg 1 (mW rfl (bR [0] rfl rfl hc rfl rfl (by decide) ⟨.inr rfl,trivial⟩ (by simp) rfl ?_));refine aV ?_)|refine nZ ?_));all_goals exact ⟨.inl rfl,[0],_,rfl,rfl,rfl,⟨.inr rfl,trivial⟩,by decide,oO⟩
theorem DI (s : St) (hl : (s.getD []).length ≤ 100000000) : bI Tryz.prog 73 [.ptr 0 0] (A7 s) (.i (fI s 59 0).1) (A7 (fI s 59 0).2) := by
  have hc := OO s 59 (by decide) hl
  refine dA T Tryz.func73 rfl rfl rfl rfl ?_
  (repeat' (first|refine wS ?_|refine wR ?_|(refine rg 0 (aV ?_))|(refine rg 1 (mW rfl (bR [0] rfl rfl hc rfl rfl (by decide) ⟨.inr rfl,trivial⟩ (by simp) rfl ?_));refine aV ?_)|refine nZ ?_));all_goals exact ⟨.inl rfl,[0],_,rfl,rfl,rfl,⟨.inr rfl,trivial⟩,by decide,oO⟩
theorem DJ (s : St) : bI Tryz.prog 74 [.ptr 0 0] (A7 s) (.i (s.getD []).length) (A7 s) := by
  refine dA T Tryz.func74 rfl rfl rfl rfl ?_
  (repeat' (first|refine wS ?_|refine wR ?_|(refine rg 0 (aV ?_))|(refine rg 1 (mW rfl (nV ?_));refine eT T rfl (vV (fF eK rfl) (aV ?_)))|refine nZ ?_));all_goals exact ⟨.inl rfl,[0],_,rfl,rfl,rfl,⟨.inr rfl,trivial⟩,by decide,oO⟩
theorem WU (s : St) : bI Tryz.prog 78 [.ptr 0 0] (A7 s) (.b (decide (s = some []))) (A7 s) := by
  refine dA T Tryz.func78 rfl rfl rfl rfl ?_
  match s with
  | none =>
    (repeat' (first|refine wS ?_|refine wR ?_|(refine rg 0 (aV ?_))|(refine rg 1 (mW rfl (nV ?_));refine eT T rfl (vV (cV rfl) (mV ?_));(iterate 5 refine gF ?_);refine pW rfl (aV ?_))|refine nZ ?_));all_goals exact ⟨.inl rfl,[0],_,rfl,rfl,rfl,⟨.inr rfl,trivial⟩,by decide,oO⟩
  | some r =>
    rw [show decide ((some r : St) = some []) = decide (r = []) from by simp]
    (repeat' (first|refine wS ?_|refine wR ?_|(refine rg 0 (aV ?_))|(refine rg 1 (mW rfl (nV ?_));refine eT T rfl (vV (cV rfl) (mW rfl (yN rfl (gT (nV ?_)))));refine yP T rfl (yO T rfl (yV (F7 (a := r) (b := []) rfl rfl) (pW rfl (aV ?_)))))|refine nZ ?_));all_goals exact ⟨.inl rfl,[0],_,rfl,rfl,rfl,⟨.inr rfl,trivial⟩,by decide,oO⟩
end Go.Proofs.YtdfmhddmddgniaaGreatDoor
namespace Go.Proofs.YtdfmhddmddgniaaGreatDoor
open Go Go.Ab Go.Or Go.Wr
attribute [local irreducible] VC AW bJ bI eO jT rZ nB qB
set_option maxHeartbeats 4000000
theorem GI (bk : Bk) (hl : bk.length ≤ 1000000) (hI : ∀ o,o ∈ bk → zM2 o) (hL : (oQ bk).length ≤ 90000000000) :
    bI Tryz.prog 17 [xX bk] [] (.s (oQ bk)) [] := by
  have hbl := jG bk;have c0 : bI Tryz.prog 56 [.i (uW bk).length] [] (.s (dU bk.length)) [] := by rw [hbl];exact KF ⟨by omega,by omega⟩ (by omega)
  refine dA T Tryz.func17 rfl rfl rfl rfl ?_
  (repeat' (first|refine wS ?_|refine wB ?_|(refine rg 0 (aV ?_))|(refine rg 1 (mW rfl (nV ?_));refine eT T rfl (qW T rfl (vV (kC (c0)) (aV ?_))))|(refine rg 2 (aV ?_))|refine nZ ?_));have h00 : dU bk.length ++ oY (bk.take 0) = dU bk.length := by simp [oY]
  refine dR (X := {k : Nat // k ≤ bk.length}) (fun k => [(0,xX bk),(3,.s (dU bk.length ++ oY (bk.take k.1))),(4,.i (k.1 : Int))]) (fun _ => []) (fun k => bk.length - k.1) ⟨0,bG _⟩ ⟨[],rfl,(by dsimp only;rw [h00];(repeat (first | exact trivial | refine ⟨rfl,?_⟩))),trivial,aI,iK _⟩ ?_
  rintro ⟨k,hk⟩;dsimp only;by_cases hlt : k < bk.length
  · have hg := rX hlt;have ho := hI _ (aH hlt);have hN : dU bk.length ++ oY (bk.take (k + 1)) = (dU bk.length ++ oY (bk.take k)) ++ zD bk[k] := by rw [aY];exact congrArg _ (nJ zD hlt)
    have hLk : ((dU bk.length ++ oY (bk.take k)) ++ zD bk[k]).length ≤ 90000000000 := by
      rw [← hN];refine cQ ?_ hL;unfold oQ oY;rw [aB,aB];exact Nat.add_le_add_left (qX zD) _
    generalize bk[k] = o at *;generalize dU bk.length ++ oY (bk.take k) = A at *;have hwll := ho.wl;have htll := ho.tl;have hwl := gD o.ws;have htl := kD o.tk;have c1 : bI Tryz.prog 56 [.i (bV o.ws).length] [] (.s (dU o.ws.length)) [] := by rw [hwl];exact KF ⟨by omega,by have := ho.wl;omega⟩ (by omega)
    have hLo : A.length + (dU o.ws.length).length + (nC o.ws).length + (dU o.due ++ dU o.st).length + (gW o.tk).length ≤ 90000000000 := by
      unfold zD KT at hLk;simp only [aB] at hLk ⊢;omega
    (repeat' (first|refine wS ?_|refine wB ?_|refine wK ?_|refine wT ?_|(refine rg 3 (dS rfl (nV ?_));refine eT T rfl (qW T rfl (vV (cJ rfl rfl (by omega)) ?_)))|(refine rg 5 (mW rfl (nV ?_));refine eT T rfl (mW rfl (vV (ix T rfl (by omega) (kR bk) hg) (lW T rfl (dQ (dC T rfl) rfl (bA T rfl rfl rfl rfl rfl rfl (by decide) rfl ?_))))))|refine nZ ?_));all_goals try (exfalso;omega)
    refine fK 5 (cs := zU o) rfl rfl rfl ?_
    (repeat' (first|refine wS ?_|(refine rg 6 (mW rfl (fW T rfl (eT T rfl (qW T rfl (vV (kC (c1)) (vV (jL rfl rfl (by omega)) (aV ?_))))))))|refine nZ ?_));all_goals try (exfalso;omega)
    have hB1 : (A ++ dU o.ws.length).length + (nC o.ws).length + (dU o.due ++ dU o.st).length + (gW o.tk).length ≤ 90000000000 := by rw [aB];exact hLo
    have hN1 : A ++ zD o = A ++ dU o.ws.length ++ nC o.ws ++ dU o.due ++ dU o.st ++ gW o.tk := by unfold zD KT;simp only [aY]
    rw [hN1] at hN;clear hN1 hLo hLk c1;generalize A ++ dU o.ws.length = B at *
    (repeat' (first|refine wB ?_|(refine rg 7 (aV ?_))|refine nZ ?_));refine dR (X := {j : Nat // j ≤ o.ws.length}) (fun j => [(0,xX bk),(3,.s (B ++ nC (o.ws.take j.1))),(4,.i (k : Int)),(5,.pr (zU o) 0),(6,.i (j.1 : Int))]) (fun _ => []) (fun j => o.ws.length - j.1) ⟨0,bG _⟩ ⟨[],rfl,(by dsimp only;rw [show B ++ nC (o.ws.take 0) = B from List.append_nil B];(repeat (first | exact trivial | refine ⟨rfl,?_⟩))),trivial,aI,iK _⟩ ?_
    rintro ⟨j,hj⟩;dsimp only;by_cases hjl : j < o.ws.length
    · have hgw : (bV o.ws)[((j : Nat) : Int).toNat]? = some [AV.i o.ws[j].1,AV.i o.ws[j].2.1,AV.i o.ws[j].2.2] := by simp [hjl]
      have hw := ho.ws _ (aH hjl);have hts : B ++ nC (o.ws.take (j + 1)) = B ++ nC (o.ws.take j) ++ EX o.ws[j] := by rw [aY];exact congrArg _ (nJ EX hjl)
      have hle : (B ++ nC (o.ws.take (j + 1))).length ≤ 90000000000 := by
        have := qX EX (l := o.ws) (k := j + 1);rw [aB];show B.length + ((o.ws.take (j + 1)).map EX).flatten.length ≤ _;have e : (nC o.ws).length = (o.ws.map EX).flatten.length := rfl;omega
      rw [hts] at hle;generalize o.ws[j] = w at *;obtain ⟨wk,wc,wu⟩ := w;dsimp only at hgw hw;rw [show EX (wk,wc,wu) = dU wk ++ dU wc ++ dU wu from rfl] at hts hle
      have f1 := sQ hw.1;have f2 := sQ hw.2.1;have f3 := sQ hw.2.2;rw [← aY,← aY] at hts;generalize B ++ nC (o.ws.take j) = D at *;simp only [aB] at hle
      (repeat' (first|refine wS ?_|refine wB ?_|refine wK ?_|refine wT ?_|(refine rg 8 (mW rfl (fW T rfl (eT T rfl (qW T rfl (vV (cJ rfl rfl (by omega)) ?_))))))|(refine cS (id := 10) 135 [[],[],[1],[1,2],[],rM 1 4,rM 1 5,rM 1 6,rM 1 7,rN 9,[],[10],[10,11],[],rM 10 4,rM 10 5,rM 10 6,[1,2,3,4,5,6,7,8,10,11,12,13,14,15,16],rN 18,[],[19],[19,20],[],rM 19 4,rM 19 5,rM 19 6,[1,2,3,4,5,6,7,8,10,11,12,13,14,15,16,17,19,20,21,22,23,24,25],rN 27] (rM 46 28) [[],[46],[46],[46],rM 46 4,[46],[46],[46],[46],[],rM 46 10,rM 46 10,rM 46 10,rM 46 13,rM 46 10,rM 46 10,rM 46 10,[46,55],[],rM 46 19,rM 46 19,rM 46 19,rM 46 22,rM 46 19,rM 46 19,rM 46 19,[46,55,64],[]] dZ rfl (by decide +kernel) (dN rfl (dP T rfl (dP T rfl (dO T rfl (dN rfl (dV rfl (ix T rfl (by omega) (jW _) hgw) (dP T rfl (dO T rfl (dV rfl (by exact dB rfl rfl f1 rfl rfl rfl) ?_)))))))));refine dV rfl (jL rfl rfl (by (try simp only [aB]);omega)) ?_;refine dP T rfl (dP T rfl (dO T rfl (dN rfl (dV rfl (ix T rfl (by omega) (jW _) hgw) (dP T rfl (dO T rfl (dV rfl (by exact dB rfl rfl f2 rfl rfl rfl) ?_)))))));refine dV rfl (jL rfl rfl (by (try simp only [aB]);omega)) ?_;refine dP T rfl (dP T rfl (dO T rfl (dN rfl (dV rfl (ix T rfl (by omega) (jW _) hgw) (dP T rfl (dO T rfl (dV rfl (by exact dB rfl rfl f3 rfl rfl rfl) ?_)))))));refine dV rfl (jL rfl rfl (by (try simp only [aB]);omega)) ?_;refine dE ?_;refine aV ?_)|(refine iA 9 rfl rfl rfl (by omega) (by omega) ?_)|refine nZ ?_));all_goals try (exfalso;omega)
      all_goals exact ⟨⟨j + 1,hjl⟩,by dsimp only;omega,⟨[],rfl,(by dsimp only;rw [hts];(repeat (first | exact trivial | refine ⟨rfl,?_⟩))),trivial,aI,iK _⟩⟩
    · obtain rfl : j = o.ws.length := by omega
      rw [dJ];have f1 := sQ ho.due;have f2 := sQ ho.st;have hB2 : (B ++ nC o.ws).length + (dU o.due ++ dU o.st).length + (gW o.tk).length ≤ 90000000000 := by rw [aB];exact hB1
      generalize B ++ nC o.ws = D at *;rw [@aB _ (dU o.due)] at hB2
      (repeat' (first|refine wS ?_|refine wE ?_|refine wU ?_|(refine rg 8 (mW rfl (fW T rfl (eT T rfl (qW T rfl (vV (cX rfl rfl (by omega)) ?_))))))|(refine cS (id := 11) 135 [[],[],[1],[1,2],[1,2,3],rN 5,[],[6],[6,7],[1,2,3,4,6,7,8],rN 10] (rM 74 11) [[],[74],[74],[74],[74],[],rM 74 6,rM 74 6,rM 74 6,[74,79],[]] dZ rfl (by decide +kernel) (dN rfl (dP T rfl (dP T rfl (dO T rfl (dV rfl (by exact dB rfl rfl f1 rfl rfl rfl) ?_)))));refine dV rfl (jL rfl rfl (by (try simp only [aB]);omega)) ?_;refine dP T rfl (dP T rfl (dO T rfl (dV rfl (by exact dB rfl rfl f2 rfl rfl rfl) ?_)));refine dV rfl (jL rfl rfl (by (try simp only [aB]);omega)) ?_;refine dE ?_;refine aV ?_)|refine nZ ?_));all_goals try (exfalso;omega)
      have hB3 : (D ++ dU o.due ++ dU o.st).length + (gW o.tk).length ≤ 90000000000 := by rw [aB,aB];omega
      clear hB2 hB1;generalize D ++ dU o.due ++ dU o.st = E at *
      (repeat' (first|refine wB ?_|(refine rg 12 (aV ?_))|refine nZ ?_));refine dR (X := {i : Nat // i ≤ o.tk.length}) (fun i => [(0,xX bk),(3,.s (E ++ gW (o.tk.take i.1))),(4,.i (k : Int)),(5,.pr (zU o) 0),(7,.i (i.1 : Int))]) (fun _ => []) (fun i => o.tk.length - i.1) ⟨0,bG _⟩ ⟨[],rfl,(by dsimp only;rw [show E ++ gW (o.tk.take 0) = E from List.append_nil E];(repeat (first | exact trivial | refine ⟨rfl,?_⟩))),trivial,aI,iK _⟩ ?_
      rintro ⟨i,hi⟩;dsimp only;by_cases hil : i < o.tk.length
      · have hg2 := tV hil;have hm2 := aH hil;have hli := ho.ll _ hm2;have htI := ho.tk _ hm2;have hts : E ++ gW (o.tk.take (i + 1)) = E ++ gW (o.tk.take i) ++ CC o.tk[i] := by rw [aY];exact congrArg _ (nJ CC hil)
        have hle : (E ++ gW (o.tk.take (i + 1))).length ≤ 90000000000 := by
          have := qX CC (l := o.tk) (k := i + 1);rw [aB];show E.length + ((o.tk.take (i + 1)).map CC).flatten.length ≤ _;have e : (gW o.tk).length = (o.tk.map CC).flatten.length := rfl;omega
        rw [hts] at hle;generalize o.tk[i] = l at *;have hll := kT l;rw [show CC l = dU l.length ++ oW l from rfl,← aY] at hts hle
        have c2 : bI Tryz.prog 56 [.i (eZ l).length] [] (.s (dU l.length)) [] := by rw [hll];exact KF ⟨by omega,by omega⟩ (by omega)
        have hle0 : (E ++ gW (o.tk.take i)).length + (dU l.length).length ≤ 90000000000 := by rw [aB,aB] at hle;omega
        generalize E ++ gW (o.tk.take i) = D2 at *
        (repeat' (first|refine wS ?_|refine wB ?_|refine wK ?_|refine wT ?_|(refine rg 13 (mW rfl (eT T rfl (qW T rfl (vV (cJ rfl rfl (by omega)) ?_)))))|(refine rg 15 (mW rfl (eT T rfl (mW rfl (vV (ix T rfl (by omega) (gJ _) hg2) (lW T rfl (qW T rfl (vV (kC (c2)) (vV (jL rfl rfl (by omega)) (aV ?_))))))))))|refine nZ ?_));all_goals try (exfalso;omega)
        clear hle0;generalize D2 ++ dU l.length = G at *
        (repeat' (first|refine wB ?_|(refine rg 16 (aV ?_))|refine nZ ?_));refine dR (X := {m : Nat // m ≤ l.length}) (fun m => [(0,xX bk),(3,.s (G ++ oW (l.take m.1))),(4,.i (k : Int)),(5,.pr (zU o) 0),(7,.i (i : Int)),(8,.i (m.1 : Int))]) (fun _ => []) (fun m => l.length - m.1) ⟨0,bG _⟩ ⟨[],rfl,(by dsimp only;rw [show G ++ oW (l.take 0) = G from List.append_nil G];(repeat (first | exact trivial | refine ⟨rfl,?_⟩))),trivial,aI,iK _⟩ ?_
        rintro ⟨m,hm⟩;dsimp only;by_cases hml : m < l.length
        · have hgk := xO hml;have ht := htI _ (aH hml);have htt : G ++ oW (l.take (m + 1)) = G ++ oW (l.take m) ++ FH l[m] := by rw [aY];exact congrArg _ (nJ FH hml)
          have hlt2 : (G ++ oW (l.take (m + 1))).length ≤ 90000000000 := by
            have := qX FH (l := l) (k := m + 1);rw [aB] at hle;rw [aB];show G.length + ((l.take (m + 1)).map FH).flatten.length ≤ _;have e : (oW l).length = (l.map FH).flatten.length := rfl;omega
          rw [htt] at hlt2;generalize l[m] = t at *;obtain ⟨tb,tn⟩ := t;dsimp only at hgk ht;rw [show FH (tb,tn) = dU tb ++ dU tn from rfl] at htt hlt2
          rw [← aY] at htt;have f1 := sQ ht.1;have f2 := sQ ht.2;generalize G ++ oW (l.take m) = D3 at *;simp only [aB] at hlt2
          (repeat' (first|refine wS ?_|refine wB ?_|refine wK ?_|refine wT ?_|(refine rg 17 (mW rfl (eT T rfl (mW rfl (vV (ix T rfl (by omega) (gJ _) hg2) (lW T rfl (qW T rfl (vV (cJ rfl rfl (by omega)) ?_))))))))|(refine cS (id := 19) 135 [[],[],[1],[],[1,2,3],rM 1 4,[],rM 1 6,rM 1 7,rM 1 8,rM 1 9,rN 11,[],[12],[],[12,13,14],rM 12 4,[],rM 12 6,rM 12 7,rM 12 8,[1,2,3,4,5,6,7,8,9,10,12,13,14,15,16,17,18,19,20],rN 22] (rM 111 23) [[],[111],[111],[111,112,113],[111],[111],rM 111 6,[111],[111],[111],[111],[],rM 111 12,rM 111 12,rM 111 14,rM 111 12,rM 111 12,rM 111 17,rM 111 12,rM 111 12,rM 111 12,[111,122],[]] dZ rfl (by decide +kernel) (dN rfl (dP T rfl (dO T rfl (dN rfl (dV rfl (ix T rfl (by omega) (gJ _) hg2) (dO T rfl (dN rfl (dV rfl (ix T rfl (by omega) (nD _) hgk) (dF T ?_)))))))));refine dO T rfl (dV rfl (by exact dB rfl rfl f1 rfl rfl rfl) ?_);refine dV rfl (jL rfl rfl (by (try simp only [aB]);omega)) ?_;refine dP T rfl (dO T rfl (dN rfl (dV rfl (ix T rfl (by omega) (gJ _) hg2) (dO T rfl (dN rfl (dV rfl (ix T rfl (by omega) (nD _) hgk) (dP T rfl (dO T rfl (dV rfl (by exact dB rfl rfl f2 rfl rfl rfl) ?_)))))))));refine dV rfl (jL rfl rfl (by (try simp only [aB]);omega)) ?_;refine dE ?_;refine aV ?_)|(refine iA 18 rfl rfl rfl (by omega) (by omega) ?_)|refine nZ ?_));all_goals try (exfalso;omega)
          all_goals exact ⟨⟨m + 1,hml⟩,by dsimp only;omega,⟨[],rfl,(by dsimp only;rw [htt];(repeat (first | exact trivial | refine ⟨rfl,?_⟩))),trivial,aI,iK _⟩⟩
        · obtain rfl : m = l.length := by omega
          rw [dJ]
          (repeat' (first|refine wS ?_|refine wE ?_|refine wU ?_|(refine rg 17 (mW rfl (eT T rfl (mW rfl (vV (ix T rfl (by omega) (gJ _) hg2) (lW T rfl (qW T rfl (vV (cX rfl rfl (by omega)) ?_))))))))|(refine iA 14 rfl rfl rfl (by omega) (by omega) ?_)|refine nZ ?_));all_goals try (exfalso;omega)
          all_goals exact ⟨⟨i + 1,hil⟩,by dsimp only;omega,⟨[],rfl,(by dsimp only;rw [hts];(repeat (first | exact trivial | refine ⟨rfl,?_⟩))),trivial,aI,iK _⟩⟩
      · obtain rfl : i = o.tk.length := by omega
        rw [dJ]
        (repeat' (first|refine wS ?_|refine wE ?_|refine wU ?_|(refine rg 13 (mW rfl (eT T rfl (qW T rfl (vV (cX rfl rfl (by omega)) ?_)))))|(refine iA 4 rfl rfl rfl (by omega) (by omega) ?_)|refine nZ ?_));all_goals try (exfalso;omega)
        all_goals exact ⟨⟨k + 1,hlt⟩,by dsimp only;omega,⟨[],rfl,(by dsimp only;rw [hN];(repeat (first | exact trivial | refine ⟨rfl,?_⟩))),trivial,aI,iK _⟩⟩
  · rw [aQ (by omega)]
    (repeat' (first|refine wS ?_|refine wR ?_|refine wE ?_|refine wU ?_|(refine rg 3 (dS rfl (nV ?_));refine eT T rfl (qW T rfl (vV (cX rfl rfl (by omega)) ?_)))|(refine rg 20 (mW rfl (aV ?_)))|refine nZ ?_));all_goals first | (exfalso;omega) | exact rQ
end Go.Proofs.YtdfmhddmddgniaaGreatDoor
namespace Go.Or
open Go Go.Ab Go.Wr Go.Proofs.YtdfmhddmddgniaaGreatDoor
def AG : Nat → St → St
  | 0,s => s
  | k + 1,s => if (s.getD []).length = 0 then s else if O7 ((cE s).1,(cE (cE s).2).1) then (cE (cE s).2).2 else AG k (cE (cE s).2).2
theorem K9 : ∀ (k : Nat) (s : St) {l : List Tk} {s' : St}, gZ k s = some (l, s') → s' = AG k s
  | 0,s,l,s',h => by cases h;rfl
  | k + 1,s,l,s',h => by
    rw [gZ] at h;rw [AG];split at h
    · rename_i h0;rw [if_pos h0];cases h;rfl
    · rename_i h0;rw [if_neg h0];split at h
      · cases h
      · rename_i h1;rw [if_neg h1];obtain ⟨⟨l2,s2⟩,h2,h3⟩ := bX.1 h;cases h3;exact K9 k _ h2
def zI1 (n count : Int) : Option (List Tk × St) → AV
  | none => .tup [.nils,.b false]
  | some x => .tup [.rowE (eZ x.1) 2,.b (decide ((x.1.length : Int) = n ∧ jB x.1 ≤ count))]
theorem Q9 {n count : Int} {l : List Tk} {s : St} {b : Bool} (h : decide ((l.length : Int) = n ∧ jB l ≤ count) = b) : zI1 n count (some (l,s)) = .tup [.rowE (eZ l) 2,.b b] := by subst h;rfl
theorem zJ4 (b : Nat) : ∀ i : Nat,i < 1 → [0,b][i]? = some i := fun i hi => by
  obtain rfl : i = 0 := by omega
  rfl
end Go.Or
namespace Go.Proofs.YtdfmhddmddgniaaGreatDoor
open Go Go.Ab Go.Or Go.Wr
attribute [local irreducible] VC AW bJ bI eO jT rZ nB qB
set_option maxHeartbeats 4000000
theorem RI (s0 : St) (count : Int) (hl : (s0.getD []).length ≤ 100000000) :
    bI Tryz.prog 77 [.ptr 0 0,.i count] (A7 s0) (zI1 (fI s0 59 0).1 count (gZ (fI s0 59 0).1.toNat (fI s0 59 0).2)) (A7 (AG (fI s0 59 0).1.toNat (fI s0 59 0).2)) := by
  have c0 := DI s0 hl;have hb0 := nT s0 59 0;have hn0 := zF s0 59;have hn1 := (nI s0 59 0).2;generalize (fI s0 59 0).1 = n at *;generalize (fI s0 59 0).2 = s2 at *;refine dA T Tryz.func77 rfl rfl rfl rfl ?_
  (repeat' (first|refine wS ?_|refine wB ?_|(refine rg 0 (kJ ?_))|(refine rg 1 (aV ?_))|(refine rg 2 (mW rfl (bR [0] rfl rfl c0 rfl rfl (by decide) ⟨.inr rfl,trivial⟩ (by simp) rfl ?_));refine aV ?_)|(refine rg 3 (aV ?_))|(refine rg 4 (aV ?_))|refine nZ ?_));refine pY 6 2 rfl (by decide) ?_
  refine dR (X := {y : Nat × St × List Tk // gZ n.toNat s2 = ((gZ y.1 y.2.1).map fun z => (y.2.2 ++ z.1, z.2)) ∧ AG n.toNat s2 = AG y.1 y.2.1 ∧ (y.1 : Int) + y.2.2.length = n ∧ y.2.2.length + (y.2.1.getD []).length ≤ (s2.getD []).length ∧ (∀ t, t ∈ y.2.2 → EY t)}) (fun y => [(0, .ptr 0 0), (1, .i count), (6, .sl 1 0 y.1.2.2.length 2), (7, .i n), (8, .i (jB y.1.2.2)), (9, .i (y.1.2.2.length : Int))]) (fun y => [oG y.1.2.1, .arr (eZ y.1.2.2) 2]) (fun y => y.1.1)
    ⟨(n.toNat,s2,[]),by dsimp only;cases gZ n.toNat s2 <;> rfl,rfl,by dsimp only;simp;omega,by dsimp only;simp,fun t ht => (nomatch ht)⟩ ⟨[0,1],rfl,⟨rfl,rfl,rfl,rfl,rfl,rfl,trivial⟩,⟨.inr rfl,.inr rfl,trivial⟩,by decide,zJ4 _⟩ ?_
  rintro ⟨⟨j,s,l⟩,g1,g0,g2,g3,g4⟩;dsimp only at g1 g0 g2 g3 g4 ⊢;have hll2 := kT l;have hsn := LZ g4;have cL := DJ s;by_cases hk2 : 0 < j ∧ 0 < (s.getD []).length
  · obtain ⟨j,rfl⟩ : ∃ j',j = j' + 1 := ⟨j - 1,by omega⟩
    have d1 := wH s (by omega)
    have e1 := yC hk2.2;have d2 := wH (cE s).2 (by omega)
    have e2 := lA (s := (cE s).2);have hrt : gZ (j + 1) s = if O7 ((cE s).1,(cE (cE s).2).1) then none else (gZ j (cE (cE s).2).2).map fun x => (((cE s).1,(cE (cE s).2).1) :: x.1,x.2) := by rw [gZ,if_neg (by omega)]
    have hre : AG (j + 1) s = if O7 ((cE s).1,(cE (cE s).2).1) then (cE (cE s).2).2 else AG j (cE (cE s).2).2 := by rw [AG,if_neg (by omega)]
    generalize (cE s).1 = ta at *;generalize (cE s).2 = u1 at *;generalize (cE u1).1 = tn at *;generalize (cE u1).2 = u2 at *
    (repeat' (first|refine wS ?_|refine wB ?_|refine wK ?_|refine wT ?_|(refine rg 5 (dS rfl (vV (cJ rfl rfl (by omega)) (mW rfl (yN rfl (gT (bR [0] rfl rfl cL rfl rfl (by decide) ⟨.inr rfl,trivial⟩ (by simp) rfl ?_))))));refine yV (iE rfl rfl (by omega)) (pV ?_))|(refine rg 7 (mW rfl (bR [0] rfl rfl d1 rfl rfl (by decide) ⟨.inr rfl,trivial⟩ (by simp) rfl ?_));refine vV (by exact gS T rfl rfl rfl rfl) ?_;refine dQ (dC T rfl) rfl (bA T rfl rfl rfl rfl rfl rfl (by decide) rfl ?_))|(refine rg 8 (mW rfl (bR [0] rfl rfl d2 rfl rfl (by decide) ⟨.inr rfl,trivial⟩ (by simp) rfl ?_));refine fW T rfl (bA T rfl rfl rfl rfl rfl rfl (by decide) rfl ?_))|refine nZ ?_));all_goals try (exfalso;omega)
    refine fY [(0,.ptr 0 0),(1,.i count),(6,.sl 1 0 l.length 2),(7,.i n),(8,.i (jB l)),(9,.i (l.length : Int)),(10,.ptr 2 0)] [oG u2,.arr (eZ l) 2,.cells [.i ta,.i tn]] ⟨[0,1,2],rfl,(by repeat first|exact trivial|refine ⟨rfl,?_⟩),⟨.inr rfl,.inr (bM rfl rfl (oF _)),.inr rfl,trivial⟩,by decide,AC _⟩ ?_
    by_cases hbd : O7 (ta,tn)
    · rw [if_pos hbd] at hrt hre;rw [hrt] at g1;rw [g1,g0,hre];have hbd2 : ta < 0 ∨ 3000 ≤ ta ∨ tn < 1 ∨ 20000 < tn := hbd
      (repeat' (first|refine wS ?_|refine wR ?_|refine wT ?_|(refine wC rfl ?_ ?_<;>(intro hb;(try simp only [nm] at hb);try (exfalso;omega)))|(refine rg 9 (eT T rfl (vV (bE rfl rfl) (mV ?_)));refine bP rfl rfl ?_ ?_<;>(intro hb;rw [hb];(try simp only [nm] at hb);try (exfalso;omega));(all_goals first|(refine gT (fW T rfl (gT (lW T rfl (gT (vV (gH rfl rfl) ?_))))))|(iterate 3 refine gF ?_));(all_goals (refine pW rfl (mV ?_)));(all_goals first|(refine gK ?_)|(refine bP rfl rfl ?_ ?_<;>(intro hb;rw [hb];(try simp only [nm] at hb);try (exfalso;omega))));(all_goals first|(refine gT (fW T rfl (gT (lW T rfl (gT (vV (bE rfl rfl) ?_))))))|(iterate 3 refine gF ?_));(all_goals (refine pW rfl (mV ?_)));(all_goals first|(refine gK ?_)|(refine bP rfl rfl ?_ ?_<;>(intro hb;rw [hb];(try simp only [nm] at hb);try (exfalso;omega))));(all_goals first|(refine gT (fW T rfl (gT (lW T rfl (gT (vV (gH rfl rfl) ?_))))))|(iterate 3 refine gF ?_));(all_goals (refine pV ?_)))|(refine rg 10 (kJ ?_))|refine nZ ?_));all_goals first | (exfalso;omega) | exact ⟨.inl rfl,[0],_,rfl,rfl,rfl,⟨.inr rfl,trivial⟩,by decide,oO⟩
    · rw [if_neg hbd] at hrt hre;rw [hrt] at g1;rw [hre] at g0;have hbd2 : ¬ (ta < 0 ∨ 3000 ≤ ta ∨ tn < 1 ∨ 20000 < tn) := hbd;have hta := I5 l (ta,tn);dsimp only at hta
      (repeat' (first|refine wS ?_|refine wK ?_|(refine wC rfl ?_ ?_<;>(intro hb;(try simp only [nm] at hb);try (exfalso;omega)))|(refine rg 9 (eT T rfl (vV (bE rfl rfl) (mV ?_)));refine bP rfl rfl ?_ ?_<;>(intro hb;rw [hb];(try simp only [nm] at hb);try (exfalso;omega));(all_goals (refine yP T rfl (yO T rfl (yV (gH rfl rfl) (pW rfl (mV ?_))));refine bP rfl rfl ?_ ?_<;>(intro hb;rw [hb];(try simp only [nm] at hb);try (exfalso;omega))));(all_goals (refine yP T rfl (yO T rfl (yV (bE rfl rfl) (pW rfl (mV ?_))));refine bP rfl rfl ?_ ?_<;>(intro hb;rw [hb];(try simp only [nm] at hb);try (exfalso;omega))));(all_goals (refine yP T rfl (yO T rfl (yV (gH rfl rfl) (pV ?_))))))|(refine rg 11 (mW rfl (eT T rfl (vV (eD rfl rfl (by omega) (by omega)) (aV ?_)))))|(refine rg 12 (mW rfl (lW T rfl (dQ (by exact bO T rfl rfl (by decide) (by decide) rfl rfl rfl) rfl ?_)));refine fH T rfl rfl rfl rfl rfl rfl (by simp) (jA.whole rfl rfl) rfl (by simp;omega) (by simp;omega) rfl ?_;refine aV ?_)|(refine iA 6 rfl rfl rfl (by omega) (by omega) ?_)|refine nZ ?_));all_goals try (exfalso;omega)
      have hok := ML hbd;have hln : (l ++ [(ta,tn)]).length = l.length + 1 := by simp
      have hsu : jB (l ++ [(ta,tn)]) = jB l + tn := FN
      all_goals exact ⟨⟨(j,u2,l ++ [(ta,tn)]),by dsimp only;rw [g1,IU];congr 1;funext z;simp,g0,by dsimp only;rw [hln];omega,by dsimp only;rw [hln];omega,fun t ht => (by
        rcases bH.1 ht with ht | ht
        · exact g4 t ht
        · rw [bK.1 ht];exact hok)⟩,mG j,[0,4],rfl,⟨rfl,rfl,(by dsimp only;rw [hln];rfl),rfl,(by dsimp only;rw [hsu];rfl),(by dsimp only;rw [hln];rfl),trivial⟩,⟨.inr rfl,.inr (bM rfl hta (oF _)),trivial⟩,by decide,zJ4 _⟩
  · have hrt : gZ j s = some ([],s) := by
      cases j with
      | zero => rfl
      | succ j => rw [gZ,if_pos (by omega)]
    rw [hrt] at g1;have g1' : gZ n.toNat s2 = some (l,s) := by rw [g1];simp
    have hes := K9 _ _ g1';rw [g1',← hes];apply uI (I := Unit) (fun _ => [(0,.ptr 0 0),(1,.i count),(6,.sl 1 0 l.length 2),(7,.i n),(8,.i (jB l))]) (fun _ => [oG s,.arr (eZ l) 2]) (fun _ => True)
    case h1 =>
      intro rest;by_cases hj0 : 0 < j
      · (repeat' (first|refine wS ?_|refine wE ?_|refine kN rfl ?_|(refine rg 5 (dS rfl (vV (cJ rfl rfl (by omega)) (mW rfl (yN rfl (gT (bR [0] rfl rfl cL rfl rfl (by decide) ⟨.inr rfl,trivial⟩ (by simp) rfl ?_))))));refine yV (iU rfl rfl (by omega)) (pV ?_))|(refine nZ ?_)));all_goals try (exfalso;omega)
        all_goals exact fY [(0,.ptr 0 0),(1,.i count),(6,.sl 1 0 l.length 2),(7,.i n),(8,.i (jB l))] [oG s,.arr (eZ l) 2] ⟨[0,1],rfl,(by repeat first|exact trivial|refine ⟨rfl,?_⟩),⟨.inr rfl,.inr (bM rfl rfl (oF _)),trivial⟩,by decide,AC _⟩ (rest () trivial)
      · (repeat' (first|refine wS ?_|refine wE ?_|refine kN rfl ?_|(refine rg 5 (dS rfl (vV (cX rfl rfl (by omega)) (mV ?_)));(iterate 3 refine gF ?_);refine pV ?_)|(refine nZ ?_)));all_goals try (exfalso;omega)
        all_goals exact fY [(0,.ptr 0 0),(1,.i count),(6,.sl 1 0 l.length 2),(7,.i n),(8,.i (jB l))] [oG s,.arr (eZ l) 2] ⟨[0,1],rfl,(by repeat first|exact trivial|refine ⟨rfl,?_⟩),⟨.inr rfl,.inr (bM rfl rfl (oF _)),trivial⟩,by decide,AC _⟩ (rest () trivial)
    rintro _ _;refine L2 6 rfl rfl hll2.symm (TX l) ?_;by_cases hcnt : (l.length : Int) = n
    · by_cases hsc : jB l ≤ count
      · rw [Q9 (decide_eq_true ⟨hcnt,hsc⟩)]
        (repeat' (first|refine wR ?_|(refine rg 13 (dS rfl (qW T rfl (mW rfl (vV (lS rfl rfl (by omega)) (mW rfl (yN rfl (yN rfl (yV (mM rfl rfl (by omega)) (pV ?_)))))))));refine kJ ?_)|refine nZ ?_));all_goals first | (exfalso;omega) | exact ⟨.inl rfl,[0],_,rfl,rfl,rfl,⟨.inr rfl,trivial⟩,by decide,oO⟩
      · rw [Q9 (decide_eq_false (fun h => hsc h.2))]
        (repeat' (first|refine wR ?_|(refine rg 13 (dS rfl (qW T rfl (mW rfl (vV (lS rfl rfl (by omega)) (mW rfl (yN rfl (yN rfl (yV (sX rfl rfl (by omega)) (pV ?_)))))))));refine kJ ?_)|refine nZ ?_));all_goals first | (exfalso;omega) | exact ⟨.inl rfl,[0],_,rfl,rfl,rfl,⟨.inr rfl,trivial⟩,by decide,oO⟩
    · rw [Q9 (decide_eq_false (fun h => hcnt h.1))]
      (repeat' (first|refine wR ?_|(refine rg 13 (dS rfl (qW T rfl (mW rfl (vV (oT rfl rfl (by omega)) (mV ?_)))));(iterate 3 refine gF ?_);refine pW rfl (kJ ?_))|refine nZ ?_));all_goals first | (exfalso;omega) | exact ⟨.inl rfl,[0],_,rfl,rfl,rfl,⟨.inr rfl,trivial⟩,by decide,oO⟩
end Go.Proofs.YtdfmhddmddgniaaGreatDoor
