/-
  Texts of the logic and of the layer,in one module (part 6).
-/
import Derived.Test.YtdiogjgohbbllaaGreatDoorL5
set_option linter.unusedVariables false
set_option linter.unusedSimpArgs false
set_option linter.unnecessarySimpa false
namespace Go.Or
open Go Go.Ab Go.Wr Go.Proofs.YtdiogjgohbbllaaGreatDoor
abbrev rL (s : St) : AB := .cells [.s (s.getD []),.b s.isNone]
def CO (s : St) (r : AV) (o : Hp) : Prop := match kN s with
  | none => ∃ ws due st x,r = .tup [.agg [.rowE (bZ ws) 3,.i due,.i st,x],.b false] ∧ (x = .nils ∨ ∃ p m,x = .sl p 0 m 1)
  | some (od,s') => ∃ x B,r = .tup [.agg (iU od x),.b true] ∧ o[0]? = some (rL s') ∧ kB o x od.tk B ∧ ∀ k,k ∈ B → 1 ≤ k
theorem CO.fail {s : St} {o : Hp} (h : kN s = none) (ws : List Wt) (due st : Int) (x : AV) (hx : x = .nils ∨ ∃ p m,x = .sl p 0 m 1) : CO s (.tup [.agg [.rowE (bZ ws) 3,.i due,.i st,x],.b false]) o := by
  unfold CO;rw [h];exact ⟨ws,due,st,x,rfl,hx⟩
theorem CO.ok {s s' : St} {o : Hp} {od : Od} {x : AV} {B : List Nat} (h : kN s = some (od,s')) (h0 : o[0]? = some (rL s')) (hn : kB o x od.tk B) (hB : ∀ k,k ∈ B → 1 ≤ k) : CO s (.tup [.agg (iU od x),.b true]) o := by
  unfold CO;rw [h];exact ⟨x,B,rfl,h0,hn,hB⟩
theorem lU {s : St} : ((dD s).2.getD []).length ≤ (s.getD []).length := oW s 59 (-9223372036854775808)
theorem BM {s : St} (h : 0 < (s.getD []).length) : ((dD s).2.getD []).length + 1 ≤ (s.getD []).length := by
  cases s with
  | none => simp at h
  | some r =>
    rcases LZ r with h1 | ⟨r',h1,hr⟩
    · rw [h1];rw [nL] at h ⊢;simp;omega
    · rw [h1];rw [nL,nL];omega
theorem SJ (l : List Wt) (w : Wt) : ((bZ l).drop 0).take l.length ++ [[AV.i w.1,AV.i w.2.1,AV.i w.2.2]] = bZ (l ++ [w]) := by
  rw [cY,aY (by simp)];simp
theorem ED (L : List Nat) : ∀ i : Nat,i < 1 → (0 :: L)[i]? = some i := fun i hi => by
  obtain rfl : i = 0 := by omega
  rfl
theorem nG {P : Program} (T : lJ P) {env : cJ} {h : Hp} {a t : Nat} {r : List ResultVar} {p : AV} {i : TI} {xs cs : List AV} {off : Nat} {z : AV} (h1 : Ab.look env a = some p) (h2 : T.ti t = some i) (h3 : pU T env h r = some xs) (h4 : fX h p = some (cs,off)) (h5 : lF i cs off = some z) : pU T env h (.cell a t :: r) = some (z :: xs) := by
  simp only [pU,h1,h2,h3,h4,h5]
structure RM (s : St) (C1 C : AB) (N : List (Nat × List Tk)) (p : Nat) (E : List Nat) (X : Hp) : Prop where
  h0 : X[0]? = some (rL s)
  h1 : X[1]? = some C1
  h2 : X[2]? = some C
  hp : X[p]? = some (.arr (kO N) 1)
  hn : qF X N
  nd : (0 :: 1 :: 2 :: p :: (E ++ N.map (·.1))).Nodup
theorem RM.lt {s : St} {C1 C : AB} {N : List (Nat × List Tk)} {p : Nat} {E : List Nat} {X : Hp} (h : RM s C1 C N p E X) : 2 < X.length ∧ p < X.length ∧ ∀ k,k ∈ N.map (·.1) → k < X.length :=
  ⟨(aA.1 h.h2).1,(aA.1 h.hp).1,fun k hk => by
    obtain ⟨e,he,rfl⟩ := aJ.1 hk
    exact (aA.1 (h.hn e he)).1⟩
theorem RM.fr {s s' : St} {C1 C : AB} {N : List (Nat × List Tk)} {p : Nat} {E E' : List Nat} {X X' : Hp} (h : RM s C1 C N p E X) (h0 : X'[0]? = some (rL s')) (hk : ∀ k,k < X.length → k ≠ 0 → k ∉ E → X'[k]? = X[k]?) (hE : ∀ k,k ∈ E' → k ∈ E ∨ X.length ≤ k) (hEn : E'.Nodup) : RM s' C1 C N p E' X' := by
  have hnd := h.nd;obtain ⟨l1,l2,l3⟩ := h.lt;simp only [aN,aQ,not_or,bD,dY] at hnd;obtain ⟨⟨a1,a2,a3,a4⟩,⟨b2,b3,b4⟩,⟨c1,c2⟩,⟨d1,d2⟩,e1,e2,e3⟩ := hnd;refine ⟨h0,(hk 1 (by omega) (by decide) b4.1).trans h.h1,(hk 2 l1 (by decide) c2.1).trans h.h2,(hk p l2 (fun e => a3 e.symm) d1).trans h.hp,fun e he => ?_,?_⟩
  · have hm : e.1 ∈ N.map (·.1) := aJ.2 ⟨e,he,rfl⟩;exact (hk e.1 (l3 _ hm) (fun e0 => a4.2 (e0 ▸ hm)) (fun hE => e3 _ hE _ hm rfl)).trans (h.hn e he)
  · simp only [aN,aQ,not_or,bD,dY];have hx : ∀ k,k < X.length → k ∉ E → k ∉ E' := fun k hk hn hm => by
      rcases hE k hm with h1 | h1
      · exact hn h1
      · omega
    exact ⟨⟨a1,a2,a3,hx 0 (by omega) a4.1,a4.2⟩,⟨b2,b3,hx 1 (by omega) b4.1,b4.2⟩,⟨c1,hx 2 l1 c2.1,c2.2⟩,⟨hx p l2 d1,d2⟩,hEn,e2,fun a ha b hb e => hx a (e ▸ l3 b hb) (fun h1 => e3 a h1 b hb e) ha⟩
theorem RM.own {s : St} {C1 C : AB} {N : List (Nat × List Tk)} {p q : Nat} {X : Hp} (h : RM s C1 C N p [q] X) : q ≠ 0 ∧ q ≠ 1 ∧ q ≠ 2 ∧ q ≠ p := by
  have hnd := h.nd;simp only [aN,aQ,not_or,bD,cG,not_false_eq_true,and_true] at hnd;obtain ⟨⟨a1,a2,a3,a4⟩,⟨b2,b3,b4⟩,⟨c1,c2⟩,⟨d1,d2⟩,_⟩ := hnd;exact ⟨fun e => a4.1 e.symm,fun e => b4.1 e.symm,fun e => c2.1 e.symm,fun e => d1 e.symm⟩
theorem xD {X : Hp} {a : AB} {k : Nat} : (X.set k a).length = X.length := eC
theorem RM.add {s : St} {C1 C C' : AB} {N : List (Nat × List Tk)} {p q : Nat} {X : Hp} {l : List Tk} (h : RM s C1 C N p [q] X) (hq : X[q]? = some (.arr (eI l) 2)) (Z : AB) :
    RM s C1 C' (N ++ [(q,l)]) (X ++ [Z]).length [] ((((X ++ [Z]).set p AB.gone) ++ [AB.arr (kO (N ++ [(q,l)])) 1]).set 2 C') := by
  have hnd := h.nd;obtain ⟨l1,l2,l3⟩ := h.lt;have hql := (aA.1 hq).1;simp only [aN,aQ,not_or,bD,dY,cG,not_false_eq_true,and_true] at hnd;obtain ⟨⟨a1,a2,a3,a4⟩,⟨b2,b3,b4⟩,⟨c1,c2⟩,⟨d1,d2⟩,e1,e2,e3⟩ := hnd;have hz : (X ++ [Z]).length = X.length + 1 := by simp
  have keep : ∀ {k : Nat} {b : AB},X[k]? = some b → k ≠ p → k ≠ 2 → ((((X ++ [Z]).set p AB.gone) ++ [AB.arr (kO (N ++ [(q,l)])) 1]).set 2 C')[k]? = some b := fun hk h1 h2 => fZ h2 (bW (fZ h1 (bW hk)));refine ⟨keep h.h0 a3 (by decide),keep h.h1 b3 (by decide),?_,?_,fun e he => ?_,?_⟩
  · exact gI (by simp;omega)
  · refine fZ (by omega) ?_
    have e1 : ((X ++ [Z]).set p AB.gone).length = (X ++ [Z]).length := by simp
    rw [← e1];exact cP
  · rcases bD.1 he with he | he
    · have hm : e.1 ∈ N.map (·.1) := aJ.2 ⟨e,he,rfl⟩;exact keep (h.hn e he) (fun e0 => d2 (e0 ▸ hm)) (fun e0 => c2.2 (e0 ▸ hm))
    · rw [bL.1 he];exact keep hq (fun e0 => d1 e0.symm) (fun e0 => c2.1 e0.symm)
  · rw [cO,hz];simp only [aN,aQ,not_or,bD,dY,List.map_cons,List.map_nil,List.nil_append,cG,or_false,aU,not_false_eq_true,and_true];have hx : ∀ k,k ∈ N.map (·.1) → k ≠ X.length + 1 := fun k hk => by have := l3 k hk;omega
    refine ⟨⟨a1,a2,by omega,a4.2,a4.1⟩,⟨b2,by omega,b4.2,b4.1⟩,⟨by omega,c2.2,c2.1⟩,⟨fun hm => hx _ hm rfl,by omega⟩,e2,trivial,fun a ha b hb (e : a = b) => e3 b (.inl hb) a ha e.symm⟩
abbrev D0 (N : List (Nat × List Tk)) : Bool := N.any fun e => !e.2.isEmpty
theorem IU {N : List (Nat × List Tk)} {q : Nat} {l : List Tk} : D0 (N ++ [(q,l)]) = (D0 N || !l.isEmpty) := by simp [D0]
theorem NM {N : List (Nat × List Tk)} : (N.map (·.2)).all (·.isEmpty) = !D0 N := by
  unfold D0;rw [List.not_any_eq_all_not,ZC];congr 1;funext e;simp
theorem JZ {l : List Tk} {t : Tk} : iM (l ++ [t]) = iM l + t.2 := by unfold iM;simp
theorem PQ {t : Tk} (h : ¬ CI t) : BA t := by unfold CI at h;unfold BA;omega
theorem OV {l : List Tk} (h : ∀ t,t ∈ l → BA t) : 0 ≤ iM l ∧ iM l ≤ 20000 * l.length := by
  induction l with
  | nil => decide
  | cons t l ih =>
    have h1 := ih fun t ht => h t (aF _ ht);have h2 := h t aP;unfold BA at h2;unfold iM at *;rw [List.map_cons,jK,List.length_cons];omega
end Go.Or
namespace Go.Proofs.YtdiogjgohbbllaaGreatDoor
open Go Go.Ab Go.Or Go.Wr
attribute [local irreducible] VC AW bQ bJ eQ kK
set_option maxHeartbeats 4000000
theorem T6 (s : St) (hl : (s.getD []).length ≤ 1000000000) : bJ Tryz.prog 114 [.ptr 0 0] (FN s) (.i (dD s).1) (FN (dD s).2 ++ [.gone]) := J9 (BL s hl)
theorem DP (ws : List Wt) (due : Int) : bJ Tryz.prog 48 [.rowE (bZ ws) 3,.i due] [] (.b (iZ ws due)) [] := by
  by_cases hl : ws.length ≤ 20
  · exact N9 ws due (by omega)
  · have hll := gR ws;have h0 : iZ ws due = false := by unfold iZ;simp;omega
    rw [h0];refine dB T Tryz.func48 rfl rfl rfl rfl ?_
    (repeat' (first|refine wS ?_|refine wR ?_|refine wT ?_|(refine rg 0 (aV ?_))|(refine rg 1 (mW rfl (qW T rfl (vV (bB rfl rfl) (mV ?_))));refine bS rfl rfl ?_ ?_<;>(intro hb;rw [hb];(try simp only [nm] at hb);try (exfalso;omega));(all_goals (refine yN rfl (gT (qW T rfl (yV (gJ rfl rfl) (pW rfl (mV ?_)))));refine bS rfl rfl ?_ ?_<;>(intro hb;rw [hb];(try simp only [nm] at hb);try (exfalso;omega))));(all_goals ((iterate 2 refine gF ?_);refine pW rfl (mV ?_);(iterate 2 refine gF ?_);refine pV ?_)))|(refine rg 2 (aV ?_))|refine nZ ?_));all_goals first | (exfalso;omega) | exact rQ
theorem KN (s0 : St) (hl : (s0.getD []).length ≤ 1000000000) : eQ Tryz.prog 84 [.ptr 0 0] (FN s0) (CO s0) := by
  have c0 := LF s0 hl;have hb0 := oW s0 59 0;have hn0 := U3 s0 59;have hn1 := (qX s0 59 0).2;have hhd : kH s0 = jL (jD s0 59 0).1.toNat (jD s0 59 0).2 := rfl;have hro : kN s0 = kN s0 := rfl
  conv at hro => rhs;unfold kN
  refine jM T Tryz.func84 rfl rfl rfl rfl ?_;generalize (jD s0 59 0).1 = n at *;generalize (jD s0 59 0).2 = s2 at *
  (repeat' (first|refine wS ?_|refine wB ?_|(refine rg 0 (dX (dH T rfl) rfl (aV ?_)))|(refine rg 1 (dX (dH T rfl) rfl ?_))|(refine rg 2 (mW rfl (cQ [0] rfl rfl c0 rfl rfl (by decide) ⟨.inr rfl,trivial⟩ (by simp) rfl ?_));refine aV ?_)|refine nZ ?_));refine oS [(0,.ptr 0 0),(2,.ptr 1 0),(4,.ptr 2 0),(5,.i n)] [rL s2,.cells [.nils,.i 0,.i 0,.nils],.cells [.nils,.i 0,.i 0,.nils]] ⟨[0,1,2],rfl,(by repeat first|exact trivial|refine ⟨rfl,?_⟩),⟨.inr rfl,.inr rfl,.inr rfl,trivial⟩,by decide,ED _⟩ ?_
  refine yG 2 0 3 rfl rfl (by decide) ?_
  refine eN (X := {p : Nat × St × List Wt // jL n.toNat s2 = (p.2.2 ++ (jL p.1 p.2.1).1,(jL p.1 p.2.1).2) ∧ (p.1 : Int) + p.2.2.length = n ∧ p.2.2.length + (p.2.1.getD []).length ≤ (s2.getD []).length}) (fun p => [(0,.ptr 0 0),(2,.ptr 1 0),(4,.ptr 2 0),(5,.i p.1.1)]) (fun p => [rL p.1.2.1,.cells [.nils,.i 0,.i 0,.nils],.cells [.sl 3 0 p.1.2.2.length 3,.i 0,.i 0,.nils],.arr (bZ p.1.2.2) 3]) (fun p => p.1.1) ⟨(n.toNat,s2,[]),rfl,by dsimp only;simp;omega,by dsimp only;simp⟩ ⟨[0,1,2,3],rfl,⟨rfl,rfl,rfl,congrArg (fun z : Int => some (AV.i z)) (by dsimp only;omega),trivial⟩,⟨.inr rfl,.inr rfl,.inr rfl,.inr rfl,trivial⟩,by decide,ED _⟩ ?_
  rintro ⟨⟨k,s,L⟩,h1,h2,h3⟩;dsimp only at h1 h2 h3 ⊢;rw [h1] at hhd;have cL := EE s;have hll := gR L;by_cases hk : 0 < k ∧ 0 < (s.getD []).length
  · obtain ⟨k,rfl⟩ : ∃ k',k = k' + 1 := ⟨k - 1,by omega⟩
    have hz := hk.2;have d1 := T6 s (by omega)
    have e1 := BM hz;have d2 := T6 (dD s).2 (by omega)
    have e2 := lU (s := (dD s).2);have d3 := T6 (dD (dD s).2).2 (by omega)
    have e3 := lU (s := (dD (dD s).2).2);have hrec : jL (k + 1) s = (((dD s).1,(dD (dD s).2).1,(dD (dD (dD s).2).2).1) :: (jL k (dD (dD (dD s).2).2).2).1,(jL k (dD (dD (dD s).2).2).2).2) := by rw [jL,if_neg (by omega)]
    rw [hrec] at h1;clear hhd hro hrec;generalize (dD s).1 = wk at *;generalize (dD s).2 = t1 at *;generalize (dD t1).1 = wc at *;generalize (dD t1).2 = t2 at *;generalize (dD t2).1 = wu at *;generalize (dD t2).2 = t3 at *
    (repeat' (first|refine wS ?_|refine wB ?_|refine wK ?_|refine wT ?_|(refine rg 3 (mW rfl (vV (jE rfl rfl (by omega)) (mW rfl (yN rfl (gT (cQ [0] rfl rfl cL rfl rfl (by decide) ⟨.inr rfl,trivial⟩ (by simp) rfl ?_))))));refine yV (jE rfl rfl (by omega)) (pV ?_))|refine nZ ?_));all_goals try (exfalso;omega)
    refine oS [(0,.ptr 0 0),(2,.ptr 1 0),(4,.ptr 2 0),(5,.i (k + 1 : Nat))] [rL s,.cells [.nils,.i 0,.i 0,.nils],.cells [.sl 3 0 L.length 3,.i 0,.i 0,.nils],.arr (bZ L) 3] ⟨[0,1,2,3],rfl,(by repeat first|exact trivial|refine ⟨rfl,?_⟩),⟨.inr rfl,.inr rfl,.inr rfl,.inr (cN rfl rfl (vO _)),trivial⟩,by decide,ED _⟩ ?_
    (repeat' (first|(refine rE (id := 5) 143 [[],[0],[0,1],[],[3],[],[3,4,5],[],rM 3 5,rM 3 6,rM 3 7,rN 11,rN 12,rN 13,rN 14] (rM 24 14) [[],[],[],[24,25,26],[24,25,26],rM 24 5,[24,25,26],rM 24 7,[24,25,26],[24,25,26],[24,25,26],[],[],[],[]] [(4,0),(6,0),(8,0),(11,3),(14,2)] fL rfl (by decide +kernel) (fA rfl rfl rfl rfl (by exact eD T rfl rfl rfl) ?_);refine fA rfl rfl rfl rfl (by exact eD T rfl rfl rfl) ?_;refine fA rfl rfl rfl rfl (by exact bC T rfl rfl rfl rfl) ?_;refine fA rfl rfl rfl rfl (by exact eV rfl) ?_;refine wH rfl rfl rfl rfl (bA rfl) (by exact yJ [0] rfl rfl (d1) (fun _=>rfl) rfl (by decide) (fun _=>⟨.inr rfl,trivial⟩) (by simp) rfl (fun _ _=>rfl) rfl rfl) ?_;refine fA rfl rfl rfl rfl (by exact eV rfl) ?_;refine wH rfl rfl rfl rfl (bA rfl) (by exact yJ [0] rfl rfl (d2) (fun _=>rfl) rfl (by decide) (fun _=>⟨.inr rfl,trivial⟩) (by simp) rfl (fun _ _=>rfl) rfl rfl) ?_;refine fA rfl rfl rfl rfl (by exact eV rfl) ?_;refine wH rfl rfl rfl rfl (bA rfl) (by exact yJ [0] rfl rfl (d3) (fun _=>rfl) rfl (by decide) (fun _=>⟨.inr rfl,trivial⟩) (by simp) rfl (fun _ _=>rfl) rfl rfl) ?_;refine fA rfl rfl rfl rfl (by exact iH T rfl rfl rfl rfl) ?_;refine MS rfl rfl rfl rfl (by exact cK T rfl rfl (by decide) (by decide) rfl rfl rfl) rfl ?_;refine wH rfl rfl rfl rfl (bA rfl) (by exact zX T rfl rfl rfl rfl rfl rfl (by simp) (kV.whole rfl rfl) rfl (by simp;omega) (by simp;omega)) ?_;refine fA rfl rfl rfl rfl (by exact eD T rfl rfl rfl) ?_;refine fA rfl rfl rfl rfl (by exact eD T rfl rfl rfl) ?_;refine EQ rfl rfl rfl rfl (bA rfl) T rfl rfl rfl rfl rfl rfl (by decide) rfl ?_;refine xZ rfl rfl rfl (by exact rfl) ?_)|(refine rg 4 (mW rfl (vV (gH rfl rfl (by omega) (by omega)) (aV ?_))))|refine nZ ?_));all_goals try (exfalso;omega)
    have hln : (L ++ [(wk,wc,wu)]).length = L.length + 1 := by simp
    all_goals exact ⟨⟨(k,t3,L ++ [(wk,wc,wu)]),by dsimp only;rw [h1];simp,by dsimp only;rw [hln];omega,by dsimp only;rw [hln];omega⟩,K4 k,[0,1,2,8],rfl,⟨rfl,rfl,rfl,congrArg (fun z : Int => some (AV.i z)) (by dsimp only;omega),trivial⟩,⟨.inr rfl,.inr rfl,.inr (congrArg (fun n : Nat => some (AB.cells [.sl 8 0 n 3,.i 0,.i 0,.nils])) hln).symm,.inr (cN rfl (SJ L (wk,wc,wu)) (vO _)),trivial⟩,by decide,ED _⟩
  · have hrec : jL k s = ([],s) := by
      cases k with
      | zero => rfl
      | succ k => rw [jL,if_pos (by omega)]
    rw [hrec,List.append_nil] at hhd;rw [hhd] at hro;dsimp only at hro;have d1 := BL s (by omega)
    have e1 := lU (s := s);have d2 := BL (dD s).2 (by omega)
    have e2 := lU (s := (dD s).2);have i1 := qX s 59 (-9223372036854775808);have i2 := qX (dD s).2 59 (-9223372036854775808);change _ ≤ (dD s).1 ∧ (dD s).1 ≤ _ at i1;change _ ≤ (dD (dD s).2).1 ∧ (dD (dD s).2).1 ≤ _ at i2;generalize (dD s).1 = due at *;generalize (dD s).2 = t1 at *;generalize (dD t1).1 = st at *;generalize (dD t1).2 = t2 at *;apply yE (I := Unit) (fun _ => [(0,.ptr 0 0),(2,.ptr 1 0),(4,.ptr 2 0)]) (fun _ => [rL s,.cells [.nils,.i 0,.i 0,.nils],.cells [.sl 3 0 L.length 3,.i 0,.i 0,.nils],.arr (bZ L) 3]) (fun _ => True)
    case h1 =>
      intro rest;by_cases hk0 : 0 < k
      · (repeat' (first|refine wS ?_|refine wE ?_|refine nS rfl ?_|(refine rg 3 (mW rfl (vV (jE rfl rfl (by omega)) (mW rfl (yN rfl (gT (cQ [0] rfl rfl cL rfl rfl (by decide) ⟨.inr rfl,trivial⟩ (by simp) rfl ?_))))));refine yV (jF rfl rfl (by omega)) (pV ?_))|(refine nZ ?_)));all_goals try (exfalso;omega)
        all_goals exact oS [(0,.ptr 0 0),(2,.ptr 1 0),(4,.ptr 2 0)] [rL s,.cells [.nils,.i 0,.i 0,.nils],.cells [.sl 3 0 L.length 3,.i 0,.i 0,.nils],.arr (bZ L) 3] ⟨[0,1,2,3],rfl,(by repeat first|exact trivial|refine ⟨rfl,?_⟩),⟨.inr rfl,.inr rfl,.inr rfl,.inr (cN rfl rfl (vO _)),trivial⟩,by decide,ED _⟩ (rest () trivial)
      · (repeat' (first|refine wS ?_|refine wE ?_|refine nS rfl ?_|(refine rg 3 (mW rfl (vV (jF rfl rfl (by omega)) (mV ?_)));(iterate 3 refine gF ?_);refine pV ?_)|(refine nZ ?_)));all_goals try (exfalso;omega)
        all_goals exact oS [(0,.ptr 0 0),(2,.ptr 1 0),(4,.ptr 2 0)] [rL s,.cells [.nils,.i 0,.i 0,.nils],.cells [.sl 3 0 L.length 3,.i 0,.i 0,.nils],.arr (bZ L) 3] ⟨[0,1,2,3],rfl,(by repeat first|exact trivial|refine ⟨rfl,?_⟩),⟨.inr rfl,.inr rfl,.inr rfl,.inr (cN rfl rfl (vO _)),trivial⟩,by decide,ED _⟩ (rest () trivial)
    rintro _ _
    (repeat' (first|refine wS ?_|(refine rg 6 (mW rfl (cQ [0] rfl rfl d1 rfl rfl (by decide) ⟨.inr rfl,trivial⟩ (by simp) rfl ?_));refine mW rfl (cQ [0] rfl rfl d2 rfl rfl (by decide) ⟨.inr rfl,trivial⟩ (by simp) rfl ?_);refine fW T rfl (fW T rfl (bH T rfl rfl rfl rfl rfl rfl (by decide) rfl (fW T rfl (fW T rfl (bH T rfl rfl rfl rfl rfl rfl (by decide) rfl ?_))))))|refine nZ ?_));refine NC 2 0 rfl rfl rfl hll.symm (R4 L) ?_
    have hL2 : L.length ≤ 1000000000 := by omega
    have hrw := DP L due;refine oS [(0,.ptr 0 0),(2,.ptr 1 0),(4,.ptr 2 0)] [rL t2,.cells [.nils,.i 0,.i 0,.nils],.cells [.rowE (bZ L) 3,.i due,.i st,.nils]] ⟨[0,1,2],rfl,(by repeat first|exact trivial|refine ⟨rfl,?_⟩),⟨.inr rfl,.inr rfl,.inr rfl,trivial⟩,by decide,ED _⟩ ?_
    have hsl : (t2.getD []).length ≤ 1000000000 := by omega
    clear hhd h1 h2 h3 d1 d2 cL c0;cases hr : iZ L due with
    | false =>
      rw [hr] at hrw hro;rw [if_pos (.inl rfl)] at hro
      (repeat' (first|refine wS ?_|refine wR ?_|refine wT ?_|(refine rg 7 (fW T rfl (jQ T rfl (fW T rfl (jQ T rfl (vV (kC (hrw)) (vV (eJ rfl) (mV ?_)))))));(iterate 4 refine gF ?_);refine pW rfl (mV ?_);(iterate 4 refine gF ?_);refine pV ?_)|(refine rg 8 (lW T rfl (bH T rfl rfl rfl rfl rfl rfl (by decide) rfl (aV ?_))))|refine nZ ?_));all_goals first | (exfalso;omega) | exact ⟨.inl rfl,_,rfl,CO.fail hro L due st .nils (.inl rfl)⟩
    | true =>
      rw [hr] at hrw hro;by_cases hst : st < 0 ∨ 5 ≤ st
      · rw [if_pos (.inr hst)] at hro
        (repeat' (first|refine wS ?_|refine wR ?_|refine wT ?_|(refine wC rfl ?_ ?_<;>(intro hb;(try simp only [nm] at hb);try (exfalso;omega)))|(refine rg 7 (fW T rfl (jQ T rfl (fW T rfl (jQ T rfl (vV (kC (hrw)) (vV (eJ rfl) (mW rfl (yP T rfl (yF T ?_)))))))));refine yO T rfl (yV (bB rfl rfl) (pW rfl (mV ?_)));refine bS rfl rfl ?_ ?_<;>(intro hb;rw [hb];(try simp only [nm] at hb);try (exfalso;omega));(all_goals first|(refine gT (fW T rfl (gT (fW T rfl (gT (lW T rfl (gT (vV (fT rfl rfl) ?_))))))))|(iterate 4 refine gF ?_));(all_goals (refine pV ?_)))|(refine rg 8 (lW T rfl (bH T rfl rfl rfl rfl rfl rfl (by decide) rfl (aV ?_))))|refine nZ ?_));all_goals first | (exfalso;omega) | exact ⟨.inl rfl,_,rfl,CO.fail hro L due st .nils (.inl rfl)⟩
      rw [if_neg (by simpa using hst)] at hro
      by_cases h1 : st = 1
      · subst h1;rw [if_neg (by decide)] at hro
        have hr20 := (pA hr).1
        (repeat' (first|refine wS ?_|refine wB ?_|refine wK ?_|refine wU ?_|(refine rg 7 (fW T rfl (jQ T rfl (fW T rfl (jQ T rfl (vV (kC (hrw)) (vV (eJ rfl) (mW rfl (yP T rfl (yF T ?_)))))))));refine yO T rfl (yV (bB rfl rfl) (pW rfl (mW rfl (yP T rfl (yP T rfl (yO T rfl (yV (fT rfl rfl) (pV ?_)))))))))|(refine rg 9 (fW T rfl (jQ T rfl (vV (oB rfl rfl) ?_))))|(refine rg 11 (aV ?_))|(refine rg 12 (fW T rfl (jQ T rfl (qW T rfl (mV ?_)))))|refine nZ ?_));all_goals try (exfalso;omega)
        refine yG 2 3 1 rfl rfl (by decide) ?_
        refine kR (X := {x : Nat × St × List (Nat × List Tk) × Nat × Hp // x.1 ≤ L.length ∧ x.2.2.1.length = x.1 ∧ jZ L t2 = ((jZ (L.drop x.1) x.2.1).map fun y => (x.2.2.1.map (·.2) ++ y.1, y.2)) ∧ (x.2.1.getD []).length ≤ 1000000000 ∧ RM x.2.1 (.cells [.nils, .i 0, .i 0, .nils]) (.cells [.rowE (bZ L) 3, .i due, .i 1, .sl x.2.2.2.1 0 x.2.2.1.length 1]) x.2.2.1 x.2.2.2.1 [] x.2.2.2.2}) (fun x => [(0, .ptr 0 0), (2, .ptr 1 0), (4, .ptr 2 0), (6, .b (D0 x.1.2.2.1)), (74, .rowE (bZ L) 3), (75, .i (bZ L).length), (76, .i (x.1.1 : Int))]) (fun x => x.1.2.2.2.2) (fun x => L.length - x.1.1)
          ⟨(0,t2,[],3,[rL t2,.cells [.nils,.i 0,.i 0,.nils],.cells [.rowE (bZ L) 3,.i due,.i 1,.sl 3 0 0 1],.arr [] 1]),⟨bP _,rfl,by dsimp only;rw [cY];cases jZ L t2 <;> rfl,hsl,⟨rfl,rfl,rfl,rfl,fun e he => (nomatch he),by simp⟩⟩⟩ (nI.of rfl (by repeat first|exact trivial|refine ⟨rfl,?_⟩)) ?_
        rintro ⟨⟨i,s,N,p,X⟩,o1,o2,o3,o4,o5⟩;dsimp only at o1 o2 o3 o4 o5 ⊢;subst o2;by_cases hil : N.length < L.length
        · have hg := FG hil;have hdr : jZ (L.drop N.length) s = jZ (L[N.length] :: L.drop (N.length + 1)) s := by rw [← aS hil]
          rw [jZ] at hdr;have c0 := LF s o4;have hb0 := oW s 59 0;have hn0 := U3 s 59;have hn1 := (qX s 59 0).2;generalize (jD s 59 0).1 = n at *;generalize (jD s 59 0).2 = s3 at *;have hwb := (pA hr).2.2 _ (aK hil);generalize L[N.length] = w at *;obtain ⟨wk,wc,wu⟩ := w;dsimp only at hg hdr hwb
          (repeat' (first|refine wS ?_|refine wB ?_|refine wK ?_|(refine wC rfl ?_ ?_<;>(intro hb;(try simp only [nm] at hb);try (exfalso;omega)))|(refine rg 13 (vV (bB rfl rfl) ?_))|(refine rg 14 (vV (ix T rfl (by omega) (tI L) hg) (lW T rfl (dX (dH T rfl) rfl (bH T rfl rfl rfl rfl rfl rfl (by decide) (oH cP rfl rfl) ?_)))))|refine nZ ?_));all_goals try (exfalso;omega)
          refine gV 8 (cs := [.i wk,.i wc,.i wu]) rfl (gI (by simp)) rfl ?_
          rw [zD]
          (repeat' (first|refine wS ?_|(refine rg 15 (aV ?_))|refine nZ ?_));refine J3 9 2 rfl (by decide) ?_
          have hr1 : RM s (.cells [.nils,.i 0,.i 0,.nils]) (.cells [.rowE (bZ L) 3,.i due,.i 1,.sl p 0 N.length 1]) N p [(X ++ [AB.gone]).length] (X ++ [AB.gone] ++ [AB.arr [] 2]) := o5.fr (bW (bW o5.h0)) (fun k hk _ _ => by rw [iJ (by rw [aC];omega),iJ hk]) (fun k hk => .inr (by rw [bL.1 hk,aC];omega)) (by simp)
          have hq1 : (X ++ [AB.gone] ++ [AB.arr [] 2])[(X ++ [AB.gone]).length]? = some (.arr (eI []) 2) := cP;generalize (X ++ [AB.gone]).length = q at *;generalize X ++ [AB.gone] ++ [AB.arr [] 2] = X1 at *
          (repeat' (first|refine wS ?_|refine wB ?_|(refine rg 16 (aV ?_))|(refine rg 17 (mW rfl (cQ [0] rfl rfl c0 rfl rfl (aN.2 ⟨cG,aU⟩) ⟨.inr hr1.h0,trivial⟩ (by simp) rfl ?_));refine aV ?_)|refine nZ ?_));have hz0 : 0 < X1.length := (aA.1 hr1.h0).1
          have hq0 := hr1.own.1;have hr2 : RM s3 (.cells [.nils,.i 0,.i 0,.nils]) (.cells [.rowE (bZ L) 3,.i due,.i 1,.sl p 0 N.length 1]) N p [q] (X1.set 0 (rL s3)) := hr1.fr (gI hz0) (fun k hk h0 _ => eL h0) (fun k hk => .inl hk) (by simp)
          have hq2 : (X1.set 0 (rL s3))[q]? = some (.arr (eI []) 2) := fZ hq0 hq1;refine kR (X := {y : Nat × St × List Tk × Nat × Hp // kM n.toNat s3 = ((kM y.1 y.2.1).map fun z => (y.2.2.1 ++ z.1, z.2)) ∧ (y.1 : Int) + y.2.2.1.length = n ∧ y.2.2.1.length + (y.2.1.getD []).length ≤ (s3.getD []).length ∧ (∀ t, t ∈ y.2.2.1 → BA t) ∧ RM y.2.1 (.cells [.nils, .i 0, .i 0, .nils]) (.cells [.rowE (bZ L) 3, .i due, .i 1, .sl p 0 N.length 1]) N p [y.2.2.2.1] y.2.2.2.2 ∧ y.2.2.2.2[y.2.2.2.1]? = some (.arr (eI y.2.2.1) 2)}) (fun y => [(0, .ptr 0 0), (2, .ptr 1 0), (4, .ptr 2 0), (6, .b (D0 N)), (8, .pr [.i wk, .i wc, .i wu] 0), (9, .sl y.1.2.2.2.1 0 y.1.2.2.1.length 2), (10, .i (iM y.1.2.2.1)), (11, .i (y.1.1 : Int)), (74, .rowE (bZ L) 3), (75, .i (bZ L).length), (76, .i (N.length : Int))]) (fun y => y.1.2.2.2.2) (fun y => y.1.1)
            ⟨(n.toNat,s3,[],q,X1.set 0 (rL s3)),by dsimp only;cases kM n.toNat s3 <;> rfl,by dsimp only;simp;omega,by dsimp only;simp,fun t ht => (nomatch ht),hr2,hq2⟩ (nI.of (List.append_nil _) ⟨rfl,rfl,rfl,rfl,rfl,rfl,rfl,congrArg (fun z : Int => some (AV.i z)) (by dsimp only;omega),rfl,rfl,rfl,trivial⟩) ?_
          clear hr1 hq1 hr2 hq2 hg o5;rintro ⟨⟨j,s,l,q,Y⟩,g1,g2,g3,g4,g5,g6⟩;dsimp only at g1 g2 g3 g4 g5 g6 ⊢;have hll2 := jX l;have hsn := OV g4;have hy0 : 0 < Y.length := (aA.1 g5.h0).1;have cL := EE s;have hso := T4 g5.h0;by_cases hk2 : 0 < j ∧ 0 < (s.getD []).length
          · obtain ⟨j,rfl⟩ : ∃ j',j = j' + 1 := ⟨j - 1,by omega⟩
            have d1 := BL s (by omega)
            have e1 := BM hk2.2;have d2 := BL (dD s).2 (by omega)
            have e2 := lU (s := (dD s).2);have hrt : kM (j + 1) s = if CI ((dD s).1,(dD (dD s).2).1) then none else (kM j (dD (dD s).2).2).map fun x => (((dD s).1,(dD (dD s).2).1) :: x.1,x.2) := by rw [kM,if_neg (by omega)]
            generalize (dD s).1 = ta at *;generalize (dD s).2 = u1 at *;generalize (dD u1).1 = tn at *;generalize (dD u1).2 = u2 at *
            (repeat' (first|refine wS ?_|refine wB ?_|refine wK ?_|refine wT ?_|(refine rg 18 (mW rfl (vV (jE rfl rfl (by omega)) (mW rfl (yN rfl (gT (cQ [0] rfl rfl cL rfl rfl (aN.2 ⟨cG,aU⟩) ⟨.inr g5.h0,trivial⟩ (by simp) rfl ?_))))));refine yV (jE rfl rfl (by omega)) (pV ?_))|refine nZ ?_));all_goals try (exfalso;omega)
            refine lG [(0,.ptr 0 0),(2,.ptr 1 0),(4,.ptr 2 0),(6,.b (D0 N)),(8,.pr [.i wk,.i wc,.i wu] 0),(9,.sl q 0 l.length 2),(10,.i (iM l)),(11,.i ((j + 1 : Nat) : Int)),(74,.rowE (bZ L) 3),(75,.i (bZ L).length),(76,.i (N.length : Int))] Y (nI.of ((List.append_nil _).trans hso) (by repeat first|exact trivial|refine ⟨rfl,?_⟩)) ?_
            (repeat' (first|refine wS ?_|(refine rg 20 (mW rfl (cQ [0] rfl rfl d1 rfl rfl (aN.2 ⟨cG,aU⟩) ⟨.inr g5.h0,trivial⟩ (by simp) rfl ?_));refine mW rfl (cQ [0] rfl rfl d2 rfl rfl (aN.2 ⟨cG,aU⟩) ⟨.inr (bW (gI hy0)),trivial⟩ (by simp) rfl ?_);refine vV (by exact iH T rfl rfl rfl rfl) ?_;refine dX (dH T rfl) rfl (bH T rfl rfl rfl rfl rfl rfl (by decide) (oH cP rfl rfl) ?_))|refine nZ ?_));all_goals try (exfalso;omega)
            refine gV 12 (cs := [.i ta,.i tn]) rfl (gI (by simp [fC])) rfl ?_
            refine lG [(0,.ptr 0 0),(2,.ptr 1 0),(4,.ptr 2 0),(6,.b (D0 N)),(8,.pr [.i wk,.i wc,.i wu] 0),(9,.sl q 0 l.length 2),(10,.i (iM l)),(11,.i ((j + 1 : Nat) : Int)),(12,.pr [.i ta,.i tn] 0),(74,.rowE (bZ L) 3),(75,.i (bZ L).length),(76,.i (N.length : Int))] (Y.set 0 (rL u2) ++ [.gone]) (nI.of (by
              show List.set (List.set ((List.set (List.set Y 0 (rL u1) ++ []) 0 (rL u2) ++ []) ++ [_]) (List.length (List.set (List.set Y 0 (rL u1) ++ []) 0 (rL u2) ++ [])) _) (List.length (List.set (List.set Y 0 (rL u1) ++ []) 0 (rL u2) ++ [])) AB.gone = _
              rw [zD,List.append_nil,List.append_nil,gZ]) (by repeat first|exact trivial|refine ⟨rfl,?_⟩)) ?_
            have hr2 : RM u2 (.cells [.nils,.i 0,.i 0,.nils]) (.cells [.rowE (bZ L) 3,.i due,.i 1,.sl p 0 N.length 1]) N p [q] (Y.set 0 (rL u2) ++ [AB.gone]) := g5.fr (bW (gI hy0)) (fun k hk h0 _ => by rw [iJ (by rw [xD];exact hk),eL h0]) (fun k hk => .inl hk) (by simp)
            have hq2 : (Y.set 0 (rL u2) ++ [AB.gone])[q]? = some (.arr (eI l) 2) := bW (fZ g5.own.1 g6);clear g5 g6 hso hy0;generalize Y.set 0 (rL u2) ++ [AB.gone] = Y2 at *;by_cases hbd : CI (ta,tn)
            · rw [if_pos hbd] at hrt;rw [hrt] at g1;have hno : kN s0 = none := by rw [hro,o3,hdr,g1];rfl
              have hbd2 : ta < 0 ∨ 3000 ≤ ta ∨ tn < 1 ∨ 20000 < tn := hbd
              (repeat' (first|refine wS ?_|refine wR ?_|refine wT ?_|(refine wC rfl ?_ ?_<;>(intro hb;(try simp only [nm] at hb);try (exfalso;omega)))|(refine rg 21 (fW T rfl (vV (bC T rfl rfl rfl rfl) (vV (bB rfl rfl) (mV ?_))));refine bS rfl rfl ?_ ?_<;>(intro hb;rw [hb];(try simp only [nm] at hb);try (exfalso;omega));(all_goals first|(refine gT (fW T rfl (gT (vV (bC T rfl rfl rfl rfl) (gT (vV (fT rfl rfl) ?_))))))|(iterate 3 refine gF ?_));(all_goals (refine pW rfl (mV ?_)));(all_goals first|(refine gK ?_)|(refine bS rfl rfl ?_ ?_<;>(intro hb;rw [hb];(try simp only [nm] at hb);try (exfalso;omega))));(all_goals first|(refine gT (fW T rfl (gT (vV (bC T rfl rfl rfl rfl) (gT (vV (bB rfl rfl) ?_))))))|(iterate 3 refine gF ?_));(all_goals (refine pW rfl (mV ?_)));(all_goals first|(refine gK ?_)|(refine bS rfl rfl ?_ ?_<;>(intro hb;rw [hb];(try simp only [nm] at hb);try (exfalso;omega))));(all_goals first|(refine gT (fW T rfl (gT (vV (bC T rfl rfl rfl rfl) (gT (vV (gJ rfl rfl) ?_))))))|(iterate 3 refine gF ?_));(all_goals (refine pV ?_)))|(refine rg 22 (vV (by exact bC T rfl rfl (dU hr2.h2) rfl) ?_);refine bH T rfl rfl rfl rfl rfl rfl (by decide) (oH hr2.h1 rfl rfl) (aV ?_))|refine nZ ?_));all_goals first | (exfalso;omega) | exact ⟨.inl rfl,_,nG T rfl rfl rfl (dU (gI (aA.1 hr2.h1).1)) rfl,CO.fail hno L due 1 (.sl p 0 N.length 1) (.inr ⟨p,_,rfl⟩)⟩
            · rw [if_neg hbd] at hrt;rw [hrt] at g1;have hbd2 : ¬ (ta < 0 ∨ 3000 ≤ ta ∨ tn < 1 ∨ 20000 < tn) := hbd;have hta := JV l (ta,tn);dsimp only at hta;have hY2 := hr2.lt.1
              (repeat' (first|refine wS ?_|refine wK ?_|(refine wC rfl ?_ ?_<;>(intro hb;(try simp only [nm] at hb);try (exfalso;omega)))|(refine rg 21 (fW T rfl (vV (bC T rfl rfl rfl rfl) (vV (bB rfl rfl) (mV ?_))));refine bS rfl rfl ?_ ?_<;>(intro hb;rw [hb];(try simp only [nm] at hb);try (exfalso;omega));(all_goals (refine yP T rfl (yV (bC T rfl rfl rfl rfl) (yV (fT rfl rfl) (pW rfl (mV ?_))));refine bS rfl rfl ?_ ?_<;>(intro hb;rw [hb];(try simp only [nm] at hb);try (exfalso;omega))));(all_goals (refine yP T rfl (yV (bC T rfl rfl rfl rfl) (yV (bB rfl rfl) (pW rfl (mV ?_))));refine bS rfl rfl ?_ ?_<;>(intro hb;rw [hb];(try simp only [nm] at hb);try (exfalso;omega))));(all_goals (refine yP T rfl (yV (bC T rfl rfl rfl rfl) (yV (gJ rfl rfl) (pV ?_))))))|(refine rg 23 (mW rfl (fW T rfl (vV (bC T rfl rfl rfl rfl) (vV (eE rfl rfl (by omega) (by omega)) (aV ?_))))))|(refine rg 24 (mW rfl (vV (bC T rfl rfl rfl rfl) (dX (by exact cK T rfl rfl (by decide) (by decide) rfl rfl rfl) rfl ?_)));refine iK T rfl rfl rfl rfl rfl (bW hq2) (by simp) (kV.whole cP rfl) rfl (by simp;omega) (by simp;omega) rfl ?_;refine aV ?_)|(refine rg 19 (mW rfl (vV (gH rfl rfl (by omega) (by omega)) (aV ?_))))|refine nZ ?_));all_goals try (exfalso;omega)
              have hok := PQ hbd;have hln : (l ++ [(ta,tn)]).length = l.length + 1 := by simp
              have hsu : iM (l ++ [(ta,tn)]) = iM l + tn := JZ;have hYl : ((Y2 ++ [AB.arr [[AV.i ta,AV.i tn]] 2]).set q .gone).length = (Y2 ++ [AB.arr [[AV.i ta,AV.i tn]] 2]).length := xD;have hr3 : RM u2 (.cells [.nils,.i 0,.i 0,.nils]) (.cells [.rowE (bZ L) 3,.i due,.i 1,.sl p 0 N.length 1]) N p [(Y2 ++ [AB.arr [[AV.i ta,AV.i tn]] 2]).length] ((Y2 ++ [AB.arr [[AV.i ta,AV.i tn]] 2]).set q AB.gone ++ [AB.arr (eI (l ++ [(ta,tn)])) 2]) :=
                hr2.fr (bW (fZ (fun e => hr2.own.1 e.symm) (bW hr2.h0))) (fun k hk h0 hE => by rw [iJ (by rw [hYl,aC];omega),eL (fun e => hE (bL.2 e)),iJ hk]) (fun k hk => .inr (by rw [bL.1 hk,aC];omega)) (by simp)
              have hq3 : ((Y2 ++ [AB.arr [[AV.i ta,AV.i tn]] 2]).set q AB.gone ++ [AB.arr (eI (l ++ [(ta,tn)])) 2])[(Y2 ++ [AB.arr [[AV.i ta,AV.i tn]] 2]).length]? = some (.arr (eI (l ++ [(ta,tn)])) 2) := by rw [← hYl];exact cP
              all_goals exact ⟨⟨(j,u2,l ++ [(ta,tn)],_,_),by dsimp only;rw [g1,Option.map_map];congr 1;funext z;simp,by dsimp only;rw [hln];omega,by dsimp only;rw [hln];omega,fun t ht => (by
                rcases bD.1 ht with ht | ht
                · exact g4 t ht
                · rw [bL.1 ht];exact hok),hr3,hq3⟩,K4 j,nI.of (by dsimp only;rw [← hta];rfl) ⟨rfl,rfl,rfl,rfl,rfl,(by dsimp only;rw [hln];rfl),(by dsimp only;rw [hsu];rfl),congrArg (fun z : Int => some (AV.i z)) (by dsimp only;omega),rfl,rfl,rfl,trivial⟩⟩
          · have hrt : kM j s = some ([],s) := by
              cases j with
              | zero => rfl
              | succ j => rw [kM,if_pos (by omega)]
            rw [hrt] at g1;have g1' : kM n.toNat s3 = some (l,s) := by rw [g1];simp
            rw [g1'] at hdr;dsimp only [Option.bind_some] at hdr;apply yE (I := Unit) (fun _ => [(0,.ptr 0 0),(2,.ptr 1 0),(4,.ptr 2 0),(6,.b (D0 N)),(8,.pr [.i wk,.i wc,.i wu] 0),(9,.sl q 0 l.length 2),(10,.i (iM l)),(74,.rowE (bZ L) 3),(75,.i (bZ L).length),(76,.i (N.length : Int))]) (fun _ => Y) (fun _ => True)
            case h1 =>
              intro rest;by_cases hj0 : 0 < j
              · (repeat' (first|refine wS ?_|refine wE ?_|refine nS rfl ?_|(refine rg 18 (mW rfl (vV (jE rfl rfl (by omega)) (mW rfl (yN rfl (gT (cQ [0] rfl rfl cL rfl rfl (aN.2 ⟨cG,aU⟩) ⟨.inr g5.h0,trivial⟩ (by simp) rfl ?_))))));refine yV (jF rfl rfl (by omega)) (pV ?_))|(refine nZ ?_)));all_goals try (exfalso;omega)
                all_goals exact lG _ _ (nI.of ((List.append_nil _).trans hso) (by repeat first|exact trivial|refine ⟨rfl,?_⟩)) (rest () trivial)
              · (repeat' (first|refine wS ?_|refine wE ?_|refine nS rfl ?_|(refine rg 18 (mW rfl (vV (jF rfl rfl (by omega)) (mV ?_)));(iterate 3 refine gF ?_);refine pV ?_)|(refine nZ ?_)));all_goals try (exfalso;omega)
                all_goals exact lG _ _ (nI.of rfl (by repeat first|exact trivial|refine ⟨rfl,?_⟩)) (rest () trivial)
            rintro _ _;by_cases hcnt : wc < iM l
            · rw [if_pos hcnt] at hdr;have hno : kN s0 = none := by rw [hro,o3,hdr];rfl
              (repeat' (first|refine wS ?_|refine wR ?_|refine wT ?_|(refine rg 25 (mW rfl (fW T rfl (vV (bC T rfl rfl rfl rfl) (vV (jE rfl rfl (by omega)) ?_)))))|(refine rg 26 (vV (by exact bC T rfl rfl (dU g5.h2) rfl) ?_);refine bH T rfl rfl rfl rfl rfl rfl (by decide) (oH g5.h1 rfl rfl) (aV ?_))|refine nZ ?_));all_goals first | (exfalso;omega) | exact ⟨.inl rfl,_,nG T rfl rfl rfl (dU (gI (aA.1 g5.h1).1)) rfl,CO.fail hno L due 1 (.sl p 0 N.length 1) (.inr ⟨p,_,rfl⟩)⟩
            · rw [if_neg hcnt] at hdr;have hoa := FP N q l;have h2p := g5.lt.1;have hpp := g5.hp;have hp2 : p ≠ 2 := fun e => by
                have := g5.nd;rw [e] at this;simp at this
              have hRA := g5.add (C' := .cells [.rowE (bZ L) 3,.i due,.i 1,.sl (Y ++ [AB.arr [[AV.sl q 0 l.length 2]] 1]).length 0 (N.length + 1) 1]) g6 (AB.arr [[AV.sl q 0 l.length 2]] 1);have hNl : (N ++ [(q,l)]).length = N.length + 1 := by simp
              have hxx : jZ L t2 = ((jZ (L.drop (N.length + 1)) s).map fun y => ((N ++ [(q,l)]).map (·.2) ++ y.1,y.2)) := by rw [o3,hdr,Option.map_map];congr 1;funext z;simp
              have hAN := IU (N := N) (q := q) (l := l);rw [LM l] at hAN;rw [← hNl] at hRA;cases han : D0 N with
              | true =>
                (repeat' (first|refine wS ?_|refine wK ?_|refine wU ?_|(refine rg 25 (mW rfl (fW T rfl (vV (bC T rfl rfl rfl rfl) (vV (jF rfl rfl (by omega)) ?_)))))|(refine rg 27 (XR ?_);(iterate 3 refine gF ?_);refine pW rfl (aV ?_))|(refine rg 28 (fW T rfl (vV (by exact bC T rfl rfl (dU g5.h2) rfl) ?_));refine mW rfl (dX (by exact cK T rfl rfl (by decide) (by decide) rfl rfl rfl) rfl ?_);refine iK T rfl rfl rfl rfl rfl (bW hpp) (by simp) (kV.whole cP rfl) rfl (by simp;omega) (by simp;omega) rfl ?_;refine fV T ?_;refine bH T rfl rfl rfl rfl rfl rfl (by decide) (oH (bW (fZ (fun e=>hp2 e.symm) (bW g5.h2))) rfl rfl) ?_)|(refine rg 29 (vV (eE rfl rfl (by omega) (by omega)) (mV ?_)))|refine nZ ?_));all_goals try (exfalso;omega)
                rw [han,Bool.true_or] at hAN
                all_goals exact ⟨⟨(N.length + 1,s,N ++ [(q,l)],_,_),hil,hNl,hxx,by dsimp only;omega,hRA⟩,by dsimp only;omega,nI.of (by dsimp only;rw [← hoa,hNl];rfl) (by dsimp only;rw [hAN];(repeat (first | exact trivial | refine ⟨rfl,?_⟩)))⟩
              | false =>
                rw [han,Bool.false_or] at hAN
                (repeat' (first|refine wS ?_|refine wK ?_|refine wU ?_|(refine rg 25 (mW rfl (fW T rfl (vV (bC T rfl rfl rfl rfl) (vV (jF rfl rfl (by omega)) ?_)))))|(refine rg 27 (eW rfl (yN rfl (gT (qW T rfl (yV (gJ rfl rfl) (pW rfl (aV ?_))))))))|(refine rg 28 (fW T rfl (vV (by exact bC T rfl rfl (dU g5.h2) rfl) ?_));refine mW rfl (dX (by exact cK T rfl rfl (by decide) (by decide) rfl rfl rfl) rfl ?_);refine iK T rfl rfl rfl rfl rfl (bW hpp) (by simp) (kV.whole cP rfl) rfl (by simp;omega) (by simp;omega) rfl ?_;refine fV T ?_;refine bH T rfl rfl rfl rfl rfl rfl (by decide) (oH (bW (fZ (fun e=>hp2 e.symm) (bW g5.h2))) rfl rfl) ?_)|(refine rg 29 (vV (eE rfl rfl (by omega) (by omega)) (mV ?_)))|refine nZ ?_));all_goals try (exfalso;omega)
                all_goals exact ⟨⟨(N.length + 1,s,N ++ [(q,l)],_,_),hil,hNl,hxx,by dsimp only;omega,hRA⟩,by dsimp only;omega,nI.of (by dsimp only;rw [← hoa,hNl];rfl) (by dsimp only;rw [hAN];(repeat (first | exact trivial | refine ⟨rfl,?_⟩)))⟩
        · have hrn : jZ L t2 = some (N.map (·.2),s) := by
            rw [o3,cW (by omega)]
            simp [jZ]
          rw [hrn] at hro;dsimp only [Option.bind_some] at hro;rw [NM] at hro;have h1l := (aA.1 o5.h1).1;have hnd := o5.nd;simp only [aN,aQ,not_or,List.nil_append] at hnd;cases han : D0 N with
          | false =>
            rw [han,Bool.not_false,if_pos rfl] at hro
            (repeat' (first|refine wS ?_|refine wR ?_|refine wE ?_|(refine wC rfl ?_ ?_<;>(intro hb;(try simp only [nm] at hb);try (exfalso;omega)))|(refine rg 13 (vV (bB rfl rfl) ?_))|(refine rg 30 (vV (by exact bC T rfl rfl (dU o5.h2) rfl) ?_);refine mW rfl (bH T rfl rfl rfl rfl rfl rfl (by decide) (oH o5.h1 rfl rfl) (aV ?_)))|refine nZ ?_));all_goals first | (exfalso;omega) | exact ⟨.inl rfl,_,nG T rfl rfl rfl (dU (gI h1l)) rfl,CO.fail hro L due 1 (.sl p 0 N.length 1) (.inr ⟨p,_,rfl⟩)⟩
          | true =>
            rw [han,Bool.not_true,if_neg (by decide)] at hro
            have key : ∀ c,CO s0 (.tup [.agg (iU ⟨L,due,1,N.map (·.2)⟩ (.sl p 0 N.length 1)),.b true]) (X.set 1 c) := fun c =>
              CO.ok (B := p :: N.map (·.1)) hro (fZ (by decide) o5.h0) (.inr ⟨p,N,rfl,fZ (fun e => hnd.2.1.2.1 e.symm) o5.hp,fun e he => fZ (fun e1 => hnd.2.1.2.2 (e1 ▸ aJ.2 ⟨e,he,rfl⟩)) (o5.hn e he),rfl,rfl,aN.2 hnd.2.2.2⟩) (fun k hk => by
                rcases aQ.1 hk with rfl | hk
                · have := hnd.1.2.2.1;omega
                · have : k ≠ 0 := fun e => hnd.1.2.2.2 (e ▸ hk)
                  omega)
            (repeat' (first|refine wS ?_|refine wR ?_|refine wE ?_|(refine wC rfl ?_ ?_<;>(intro hb;(try simp only [nm] at hb);try (exfalso;omega)))|(refine rg 13 (vV (bB rfl rfl) ?_))|(refine rg 30 (vV (by exact bC T rfl rfl (dU o5.h2) rfl) ?_);refine mW rfl (bH T rfl rfl rfl rfl rfl rfl (by decide) (oH o5.h1 rfl rfl) (aV ?_)))|refine nZ ?_));all_goals first | (exfalso;omega) | exact ⟨.inl rfl,_,nG T rfl rfl rfl (dU (gI h1l)) rfl,key _⟩
      · rw [if_pos h1] at hro
        (repeat' (first|refine wS ?_|refine wK ?_|refine wR ?_|refine wT ?_|(refine wC rfl ?_ ?_<;>(intro hb;(try simp only [nm] at hb);try (exfalso;omega)))|(refine rg 7 (fW T rfl (jQ T rfl (fW T rfl (jQ T rfl (vV (kC (hrw)) (vV (eJ rfl) (mW rfl (yP T rfl (yF T ?_)))))))));refine yO T rfl (yV (bB rfl rfl) (pW rfl (mV ?_)));refine bS rfl rfl ?_ ?_<;>(intro hb;rw [hb];(try simp only [nm] at hb);try (exfalso;omega));(all_goals (refine yP T rfl (yP T rfl (yO T rfl (yV (fT rfl rfl) (pV ?_)))))))|(refine rg 9 (fW T rfl (jQ T rfl (vV (U9 rfl rfl h1) ?_))))|(refine rg 10 (lW T rfl (bH T rfl rfl rfl rfl rfl rfl (by decide) rfl (aV ?_))))|refine nZ ?_));all_goals first | (exfalso;omega) | exact ⟨.inl rfl,_,rfl,CO.ok hro rfl (.inl ⟨rfl,rfl,rfl⟩) (fun k hk => nomatch hk)⟩
end Go.Proofs.YtdiogjgohbbllaaGreatDoor
namespace Go.Or
open Go Go.Ab Go.Wr Go.Proofs.YtdiogjgohbbllaaGreatDoor
theorem kB.ren {o o' : Hp} {θ : Nat → Nat} {x : AV} {tk : List (List Tk)} {B : List Nat} (h : kB o x tk B) (hg : ∀ k,k ∈ B → ∀ b,o[k]? = some b → o'[θ k]? = some (b.map θ)) (hi : ∀ a,a ∈ B → ∀ b,b ∈ B → θ a = θ b → a = b) : kB o' (x.map θ) tk (B.map θ) := by
  rcases h with ⟨rfl,rfl,rfl⟩ | ⟨p,N,rfl,h2,h3,rfl,rfl,h6⟩
  · exact .inl ⟨rfl,rfl,rfl⟩
  · refine .inr ⟨θ p,N.map fun e => (θ e.1,e.2),?_,?_,fun e he => ?_,by simp [Function.comp_def],by simp [Function.comp_def],?_⟩
    · show AV.sl (θ p) 0 N.length 1 = _;rw [bI]
    · rw [hg p aP _ h2];show some (AB.arr ((kO N).map (AV.mapL θ)) 1) = _;simp only [kO,mK,Function.comp_def];rfl
    · obtain ⟨f,hf,rfl⟩ := aJ.1 he;have h4 := hg f.1 (aF _ (aJ.2 ⟨f,hf,rfl⟩)) _ (h3 f hf);dsimp only;rw [h4];show some (AB.arr ((eI f.2).map (AV.mapL θ)) 2) = _;rw [gS _ (nX _)]
    · unfold List.Nodup;rw [NY];exact List.Pairwise.imp_of_mem (fun ha hb h e => h (hi _ ha _ hb e)) h6
theorem iY.ren {o o' : Hp} {θ : Nat → Nat} {pb po : Nat} {L : OL} (h : iY o pb po L) (hg : ∀ k,k ∈ wD pb po L → ∀ b,o[k]? = some b → o'[θ k]? = some (b.map θ)) (hi : ∀ a,a ∈ wD pb po L → ∀ b,b ∈ wD pb po L → θ a = θ b → a = b) :
    iY o' (θ pb) (θ po) (L.map fun e => (e.1,e.2.1.map θ,e.2.2.map θ)) := by
  have hm : ∀ {e : Od × AV × List Nat},e ∈ L → ∀ k,k ∈ e.2.2 → k ∈ wD pb po L := fun he k hk => aF _ (aF _ (dK.2 ⟨_,he,hk⟩));refine ⟨?_,?_,fun e he => ?_,?_⟩
  · rw [hg pb (by simp) _ h.b,bI];rfl
  · rw [hg po (by simp) _ h.o]
    show some (AB.arr ((L.map fun e => iU e.1 e.2.1).map (AV.mapL θ)) 4) = _;rw [mK,mK];rfl
  · obtain ⟨f,hf,rfl⟩ := aJ.1 he;exact (h.n f hf).ren (fun k hk => hg k (hm hf k hk)) fun a ha b hb => hi a (hm hf a ha) b (hm hf b hb)
  · have e : θ pb :: θ po :: (L.map fun e => (e.1,e.2.1.map θ,e.2.2.map θ)).flatMap (·.2.2) = (wD pb po L).map θ := by
      simp only [List.map_cons,List.flatMap_map,List.map_flatMap]
    rw [e];unfold List.Nodup;rw [NY];exact List.Pairwise.imp_of_mem (fun ha hb h e => h (hi _ ha _ hb e)) h.nd
theorem IF {H o : Hp} {k : Nat} {b : AB} (hk : o[k]? = some b) : (H ++ o.map (AB.map (· + H.length)))[k + H.length]? = some (b.map (· + H.length)) := by
  rw [aE (by omega),IZ,aR,hk];rfl
theorem vE.shift {H o : Hp} {pb : Nat} {bk : Bk} {A : List Nat} (h : vE o pb bk A) : ∃ A',vE (H ++ o.map (AB.map (· + H.length))) (pb + H.length) bk A' ∧ ∀ k,k ∈ A' → H.length ≤ k := by
  obtain ⟨po,L,h1,rfl,rfl⟩ := h;have hr := h1.ren (o' := H ++ o.map (AB.map (· + H.length))) (θ := (· + H.length)) (fun k _ b hb => IF hb) (fun a _ b _ e => by omega)
  refine ⟨_,⟨_,_,hr,by simp [Function.comp_def],rfl⟩,fun k hk => ?_⟩
  rcases aQ.1 hk with rfl | hk
  · omega
  rcases aQ.1 hk with rfl | hk
  · omega
  obtain ⟨e,he,hk⟩ := dK.1 hk;obtain ⟨f,_,rfl⟩ := aJ.1 he;obtain ⟨m,_,rfl⟩ := aJ.1 hk;omega
theorem iY.addN {H H' : Hp} {pb po po' : Nat} {L : OL} (h : iY H pb po L) (o' : Od) (x' : AV) (B : List Nat) (hpo' : H.length ≤ po')
    (hpb : H'[pb]? = some (.cells [.sl po' 0 (L.length + 1) 4])) (hpo : H'[po']? = some (.arr ((L.map fun e => iU e.1 e.2.1) ++ [iU o' x']) 4)) (hk : ∀ k,k < H.length → k ≠ po → k ≠ pb → H'[k]? = H[k]?)
    (hn : kB H' x' o'.tk B) (hB : ∀ k,k ∈ B → k ∉ wD pb po L ∧ k ≠ po') : iY H' pb po' (L ++ [(o',x',B)]) := by
  have hnd := h.nd;have hlt := h.lt;simp only [aN,aQ,not_or] at hnd;obtain ⟨⟨n1,n2⟩,n3,n4⟩ := hnd;have hpbl := hlt pb (by simp)
  have hfl : ∀ k,k ∈ L.flatMap (·.2.2) → k < H.length := fun k hk => hlt k (aF _ (aF _ hk));refine ⟨by rw [hpb,aC,bE],by rw [hpo];simp,fun f hf => ?_,?_⟩
  · rcases bD.1 hf with hf | hf
    · refine (h.n f hf).frame fun k hkf => ?_
      have hm : k ∈ L.flatMap (·.2.2) := dK.2 ⟨f,hf,hkf⟩;exact hk k (hfl k hm) (fun e1 => n3 (e1 ▸ hm)) (fun e1 => n2 (e1 ▸ hm))
    · rw [bL.1 hf];exact hn
  · rw [fE];simp only [fI,jP,List.append_nil,aN,aQ,not_or,bD,dY];have hx : ∀ k,k ∈ B → k ≠ pb ∧ k ∉ L.flatMap (·.2.2) := fun k hk => by
      have := (hB k hk).1;simp only [aQ,not_or] at this;exact ⟨this.1,this.2.2⟩
    exact ⟨⟨by omega,n2,fun hm => (hx pb hm).1 rfl⟩,⟨fun hm => by have := hfl _ hm;omega,fun hm => (hB _ hm).2 rfl⟩,n4,hn.nd,fun a ha b hb e => (hx b hb).2 (e ▸ ha)⟩
theorem ID {o : Hp} {b : AB} (h : o[0]? = some b) : o = b :: o.drop 1 := by
  cases o with
  | nil => simp at h
  | cons c o => simp at h;rw [h];rfl
theorem vC {N k : Nat} (h : 1 ≤ k) : fN [0] N 1 k = N + (k - 1) := by
  unfold fN;rw [bN (by simp;omega)]
theorem SX {X Z : Hp} {s s' : St} {po : Nat} {L : OL} (h0 : X[0]? = some (rL s)) (g7 : iY X 1 po L) (g8 : 0 ∉ wD 1 po L) {x : AV} {tk : List (List Tk)} {B : List Nat} (hn : kB (rL s' :: Z) x tk B) (hB : ∀ k,k ∈ B → 1 ≤ k) :
    iY (X.set 0 (rL s') ++ Z.map (AB.map (fN [0] X.length 1))) 1 po L ∧ kB (X.set 0 (rL s') ++ Z.map (AB.map (fN [0] X.length 1))) (x.map (fN [0] X.length 1)) tk (B.map (fN [0] X.length 1)) ∧ (∀ k,k ∈ B.map (fN [0] X.length 1) → X.length ≤ k) ∧ (X.set 0 (rL s') ++ Z.map (AB.map (fN [0] X.length 1)))[0]? = some (rL s') := by
  have hx0 : 0 < X.length := (aA.1 h0).1;refine ⟨g7.frame fun k hk => ?_,hn.ren (fun k hk b hb => ?_) (fun a ha b hb e => ?_),fun k hk => ?_,bW (gI hx0)⟩
  · rw [iJ (by rw [xD];exact g7.lt k hk),eL (fun e : k = 0 => g8 (e ▸ hk))]
  · have h1 := hB k hk;rw [vC h1];obtain ⟨k,rfl⟩ : ∃ k',k = k' + 1 := ⟨k - 1,by omega⟩
    rw [aE (by rw [xD];omega),xD,show X.length + (k + 1 - 1) - X.length = k by omega,aR]
    rw [fG] at hb;rw [hb];rfl
  · rw [vC (hB a ha),vC (hB b hb)] at e;have := hB a ha;have := hB b hb;omega
  · obtain ⟨m,hm,rfl⟩ := aJ.1 hk;rw [vC (hB m hm)];omega
abbrev NR (X : Hp) (po : Nat) (L : OL) (o : Od) (x : AV) (n : Nat) : Hp := ((X.set po .gone).set 1 (.cells [.sl n 0 (L.length + 1) 4])) ++ [.arr [iU o x] 4,.arr ((L.map fun e => iU e.1 e.2.1) ++ [iU o x]) 4]
theorem PD {X : Hp} {s : St} {po : Nat} {L : OL} {o : Od} {x : AV} {B : List Nat} (b1 : iY X 1 po L) (b2 : kB X x o.tk B) (b3 : X[0]? = some (rL s)) (hft : ∀ k,k ∈ B → k ∉ wD 1 po L) (g8 : 0 ∉ wD 1 po L) (hB0 : 0 ∉ B) :
    iY (NR X po L o x (X.length + 1)) 1 (X.length + 1) (L ++ [(o,x,B)]) ∧ (NR X po L o x (X.length + 1))[0]? = some (rL s) ∧ 0 ∉ wD 1 (X.length + 1) (L ++ [(o,x,B)]) := by
  have h1l := b1.lt 1 (by simp)
  have h0 : 0 ≠ po ∧ (0 : Nat) ≠ 1 := ⟨fun e => g8 (by rw [e];simp),by decide⟩
  have hk : ∀ k,k < X.length → k ≠ po → k ≠ 1 → (NR X po L o x (X.length + 1))[k]? = X[k]? := fun k hk h1 h2 => by
    rw [aG (by simpa using hk),eL h2,eL h1]
  have hBx : ∀ k,k ∈ B → k ≠ po ∧ k ≠ 1 := fun k hk => by
    have := hft k hk;simp only [aQ,not_or] at this;exact ⟨this.2.1,this.1⟩
  refine ⟨b1.addN o x B (CU _) (bW (gI (by simpa using h1l))) (by rw [aE (by simp)];simp) hk (b2.frame fun k hkB => hk k (b2.lt k hkB) (hBx k hkB).1 (hBx k hkB).2) (fun k hkB => ⟨hft k hkB,by have := b2.lt k hkB;omega⟩),?_,?_⟩
  · rw [hk 0 (by omega) h0.1 h0.2];exact b3
  · simp only [aQ,not_or] at g8;show 0 ∉ 1 :: (X.length + 1) :: (L ++ [(o,x,B)]).flatMap (·.2.2);rw [fE];simp only [aQ,not_or,bD,fI,jP,List.append_nil];exact ⟨by decide,by omega,g8.2.2,hB0⟩
theorem O3 : ∀ (k : Nat) (s : St), ((jL k s).2.getD []).length ≤ (s.getD []).length
  | 0,s => aO _
  | k + 1,s => by
    rw [jL];split
    · exact aO _
    · have h1 := lU (s := s);have h2 := lU (s := (dD s).2);have h3 := lU (s := (dD (dD s).2).2);have h4 := O3 k (dD (dD (dD s).2).2).2;dsimp only;omega
theorem O6 : ∀ (k : Nat) (s : St) {l : List Tk} {s' : St}, kM k s = some (l, s') → (s'.getD []).length ≤ (s.getD []).length
  | 0,s,l,s',h => by cases h;exact aO _
  | k + 1,s,l,s',h => by
    rw [kM] at h;split at h
    · cases h;exact aO _
    · split at h
      · cases h
      · obtain ⟨⟨l2,s2⟩,h2,h3⟩ := bY.1 h;cases h3;have h1 := lU (s := s);have h3 := lU (s := (dD s).2);have h4 := O6 k _ h2;dsimp only;omega
theorem O9 : ∀ (ws : List Wt) (s : St) {tk : List (List Tk)} {s' : St}, jZ ws s = some (tk, s') → (s'.getD []).length ≤ (s.getD []).length
  | [],s,tk,s',h => by cases h;exact aO _
  | w :: ws,s,tk,s',h => by
    rw [jZ] at h;obtain ⟨⟨l,s1⟩,h1,h2⟩ := lR.1 h;dsimp only at h2;split at h2
    · cases h2
    · obtain ⟨⟨tk2,s2⟩,h3,h4⟩ := bY.1 h2;cases h4;have a1 := O6 _ _ h1;have a2 := O9 ws s1 h3;have a3 := oW s 59 0;dsimp only;omega
theorem HQ {s s' : St} {o : Od} (h : kN s = some (o,s')) : (s'.getD []).length ≤ (s.getD []).length := by
  unfold kN at h;have a1 := oW s 59 0;have a2 := O3 (jD s 59 0).1.toNat (jD s 59 0).2;change ((kH s).2.getD []).length ≤ _ at a2;have a3 := lU (s := (kH s).2);have a4 := lU (s := (dD (kH s).2).2);split at h
  · cases h
  · split at h
    · cases h;omega
    · obtain ⟨⟨tk,s3⟩,h2,h3⟩ := lR.1 h;dsimp only at h3;split at h3
      · cases h3
      · cases h3;have := O9 _ _ h2;omega
def rF (l : List UInt8) (r : AV) (o : Hp) : Prop := match P0 l with
  | some bk => ∃ A,r = .tup [.ptr 1 0,.b true] ∧ vE o 1 bk A
  | none => r = .tup [.v (.pointer none),.b false]
theorem xA {α : Type} (f : α → List UInt8) (n : Nat) : ∀ l : List α, (∀ x, x ∈ l → (f x).length ≤ n) → (l.map f).flatten.length ≤ l.length * n
  | [],_ => by simp
  | x :: l,h => by
    have h1 := h x aP;have h2 := xA f n l fun x hx => h x (aF _ hx);rw [List.map_cons,cE,aC,List.length_cons,cX,CT];omega
theorem PT {o : Od} (h : mZ o) (hI : XE o) : (Z2 o).length ≤ 17601826 := by
  have hf := h.few;have hw := (pA h.ws).1;have w1 := xA JJ 66 o.ws fun w hw => by
    obtain ⟨a,b,c⟩ := hI.ws w hw;have := kQ a;have := kQ b;have := kQ c;unfold JJ;simp only [aC];omega
  have t1 := xA JG 880022 o.tk fun l hl => by
    have hl2 := hf.2 l hl;have := kQ (n := (l.length : Int)) ⟨by omega,by omega⟩
    have t2 := xA OH 44 l fun t ht => by
      obtain ⟨a,b⟩ := hI.tk l hl t ht;have := kQ a;have := kQ b;unfold OH;simp only [aC];omega
    have : l.length * 44 ≤ 20000 * 44 := eM _ hl2;unfold JG rS;simp only [aC];omega
  have : o.ws.length * 66 ≤ 20 * 66 := eM _ hw.2;have : o.tk.length * 880022 ≤ 20 * 880022 := eM _ hf.1;have := kQ (n := (o.ws.length : Int)) ⟨by omega,by omega⟩
  have := kQ hI.due;have := kQ hI.st;unfold Z2 RW;simp only [aC];have e1 : (rO o.ws).length = (o.ws.map JJ).flatten.length := rfl;have e2 : (kP o.tk).length = (o.tk.map JG).flatten.length := rfl;omega
theorem R6 {bk : Bk} (h : ∀ o,o ∈ bk → mZ o ∧ ∀ w,w ∈ o.ws → tH w.1) (hl : bk.length ≤ 1000000) : (pK bk).length ≤ 22 + bk.length * 17601826 := by
  have h1 := xA Z2 17601826 bk fun o ho => PT (h o ho).1 ((h o ho).1.odI (h o ho).2);have := kQ (n := (bk.length : Int)) ⟨by omega,by omega⟩
  unfold pK;rw [aC];have e1 : (vY bk).length = (bk.map Z2).flatten.length := rfl;omega
end Go.Or
namespace Go.Proofs.YtdiogjgohbbllaaGreatDoor
open Go Go.Ab Go.Or Go.Wr
attribute [local irreducible] VC AW bQ bJ eQ kK
set_option maxHeartbeats 4000000
theorem SW (l : List UInt8) (hl : l.length ≤ 1000000000) : eQ Tryz.prog 39 [.s l] [] (rF l) := by
  have c0 := SZ l;have c1 := LF (some l) (by rw [nL];exact hl)
  have hb0 := oW (some l) 59 0;have hn0 := U3 (some l) 59;have hn1 := (qX (some l) 59 0).2;rw [nL] at hb0;have hro : P0 l = (mO (jD (some l) 59 0).1.toNat (jD (some l) 59 0).2 []).bind fun x => if x.2 = some [] ∧ pK x.1 = l then some x.1 else none := rfl
  generalize (jD (some l) 59 0).1 = n at *;generalize (jD (some l) 59 0).2 = s2 at *;refine jM T Tryz.func39 rfl rfl rfl rfl ?_
  (repeat' (first|refine wS ?_|refine wB ?_|(refine rg 0 (mY ?_))|(refine rg 1 (mW rfl (cQ [] rfl rfl c0 rfl rfl (by decide) trivial (by simp) rfl ?_));refine aV ?_)|(refine rg 2 (cQ [] rfl rfl LL rfl rfl (by decide) trivial (by simp) rfl ?_);refine aV ?_)|(refine rg 3 (mW rfl (cQ [0] rfl rfl c1 rfl rfl (by decide) ⟨.inr rfl,trivial⟩ (by simp) rfl ?_));refine aV ?_)|refine nZ ?_));refine yG 1 0 4 rfl rfl (by decide) ?_
  refine kR (X := {x : Nat × St × OL × Nat × Hp // mO n.toNat s2 [] = mO x.1 x.2.1 (x.2.2.1.map (·.1)) ∧ (x.1 : Int) ≤ n ∧ (x.2.1.getD []).length ≤ 1000000000 ∧ x.2.2.1.length ≤ 1000 ∧ (∀ o, o ∈ x.2.2.1.map (·.1) → mZ o ∧ ∀ w, w ∈ o.ws → tH w.1) ∧ x.2.2.2.2[0]? = some (rL x.2.1) ∧ iY x.2.2.2.2 1 x.2.2.2.1 x.2.2.1 ∧ 0 ∉ wD 1 x.2.2.2.1 x.2.2.1}) (fun x => [(0, .s l), (4, .ptr 0 0), (5, .ptr 1 0), (6, .i (x.1.1 : Int))]) (fun x => x.1.2.2.2.2) (fun x => x.1.1)
    ⟨(n.toNat,s2,[],2,[rL s2,.cells [.sl 2 0 0 4],.arr [] 4]),rfl,by dsimp only;omega,by dsimp only;omega,bP _,fun o ho => (nomatch ho),rfl,⟨rfl,rfl,fun e he => (nomatch he),by simp⟩,by simp⟩ (nI.of rfl ⟨rfl,rfl,rfl,congrArg (fun z : Int => some (AV.i z)) (by dsimp only;omega),trivial⟩) ?_
  rintro ⟨⟨k,s,L,po,X⟩,g1,g2,g3,g4,g5,g6,g7,g8⟩;dsimp only at g1 g2 g3 g4 g5 g6 g7 g8 ⊢;have cL := EE s;have hso := T4 g6;have hx0 : 0 < X.length := (aA.1 g6).1;by_cases hk2 : 0 < k ∧ 0 < (s.getD []).length
  · obtain ⟨k,rfl⟩ : ∃ k',k = k' + 1 := ⟨k - 1,by omega⟩
    have hrb : mO (k + 1) s (L.map (·.1)) = (kN s).bind fun x => if 1000 ≤ (L.map (·.1)).length then none else mO k x.2 (L.map (·.1) ++ [x.1]) := by rw [mO,if_neg (by omega)]
    have hcr := KN s g3
    (repeat' (first|refine wS ?_|refine wB ?_|refine wK ?_|refine wT ?_|(refine rg 4 (mW rfl (vV (jE rfl rfl (by omega)) (mW rfl (yN rfl (gT (cQ [0] rfl rfl cL rfl rfl (aN.2 ⟨cG,aU⟩) ⟨.inr g6,trivial⟩ (by simp) rfl ?_))))));refine yV (jE rfl rfl (by omega)) (pV ?_))|refine nZ ?_));all_goals try (exfalso;omega)
    refine lG [(0,.s l),(4,.ptr 0 0),(5,.ptr 1 0),(6,.i ((k + 1 : Nat) : Int))] X (nI.of ((List.append_nil _).trans hso) (by repeat first|exact trivial|refine ⟨rfl,?_⟩)) ?_
    cases hod : kN s with
    | none =>
      have hro2 : P0 l = none := by rw [hro,g1,hrb,hod];rfl
      have key : ∀ o,rF l (.tup [.v (.pointer none),.b false]) o := fun o => by unfold rF;rw [hro2]
      (repeat' (first|refine wS ?_|refine wR ?_|refine wT ?_|(refine rg 6 (mV ?_);(refine uM [0] rfl rfl hcr rfl rfl (aN.2 ⟨cG,aU⟩) ⟨.inr g6,trivial⟩ (by simp) rfl ?_;rintro res hout hΦ;unfold CO at hΦ;rw [hod] at hΦ;dsimp only at hΦ;obtain ⟨ws,due,st,x,rfl,hx⟩ := hΦ;rcases hx with rfl|⟨px,mx,rfl⟩<;>dsimp only [eU]);(all_goals (refine mW rfl (xW rfl (xW rfl (dX (dH T rfl) rfl (bH T rfl rfl rfl rfl rfl rfl (by decide) (oH cP rfl rfl) (aV ?_))))))))|(refine rg 7 (mW rfl (vV (eJ rfl) (mV ?_)));(iterate 6 refine gF ?_);refine pV ?_)|(refine rg 8 (mY ?_))|refine nZ ?_));all_goals first | (exfalso;omega) | exact ⟨.inl rfl,_,rfl,key _⟩
    | some y =>
      obtain ⟨o,s'⟩ := y;obtain ⟨XC,VU⟩ := HO hod;have hrb2 : mO (k + 1) s (L.map (·.1)) = if 1000 ≤ L.length then none else mO k s' (L.map (·.1) ++ [o]) := by rw [hrb,hod,bI];rfl
      have hbx := fun {Z : Hp} {x : AV} {B : List Nat} (hn : kB (rL s' :: Z) x o.tk B) (hB : ∀ k,k ∈ B → 1 ≤ k) => SX g6 g7 g8 hn hB;apply yE (I := AV × List Nat × Hp) (fun y => [(0,.s l),(4,.ptr 0 0),(5,.ptr 1 0),(6,.i ((k + 1 : Nat) : Int)),(7,.ptr y.2.2.length 0),(8,.b true)]) (fun y => y.2.2 ++ [.cells (iU o y.1)]) (fun y => iY y.2.2 1 po L ∧ kB y.2.2 y.1 o.tk y.2.1 ∧ (∀ k,k ∈ y.2.1 → X.length ≤ k) ∧ y.2.2[0]? = some (rL s'))
      case h1 =>
        intro rest
        (repeat' (first|refine wS ?_|(refine rg 6 (mV ?_);(refine uM [0] rfl rfl hcr rfl rfl (aN.2 ⟨cG,aU⟩) ⟨.inr g6,trivial⟩ (by simp) rfl ?_;rintro res hout hΦ;unfold CO at hΦ;rw [hod] at hΦ;dsimp only at hΦ;obtain ⟨x,B,rfl,h0,hn,hB⟩ := hΦ;have hh := ID h0;generalize hout.drop 1 = Z at hh;subst hh;clear h0;have hM := hbx hn hB;rcases hn.form with rfl|⟨px,mx,rfl⟩<;>dsimp only [eU]);(all_goals (refine mW rfl (xW rfl (xW rfl (dX (dH T rfl) rfl (bH T rfl rfl rfl rfl rfl rfl (by decide) (oH cP rfl rfl) (aV ?_))))))))|refine nZ ?_));all_goals
          refine lG _ _ ?_ (rest (_,_,_) hM);exact nI.of (by rw [jA];rfl) ⟨rfl,rfl,rfl,rfl,rfl,rfl,trivial⟩
      rintro ⟨x,B,W⟩ ⟨m1,m2,m3,m4⟩;dsimp only at m1 m2 m3 m4 ⊢;have hft : ∀ k,k ∈ B → k ∉ wD 1 po L := fun k hk hm => by
        have := g7.lt k hm;have := m3 k hk;omega
      have hBw := m2.lt;have b1 : iY (W ++ [AB.cells (iU o x)]) 1 po L := m1.more fun k hk => iJ hk
      have b2 : kB (W ++ [AB.cells (iU o x)]) x o.tk B := m2.frame fun k hk => iJ (hBw k hk);have b3 : (W ++ [AB.cells (iU o x)])[0]? = some (rL s') := bW m4;have b4 : (W ++ [AB.cells (iU o x)])[W.length]? = some (.cells (iU o x)) := cP;have hcl : W.length + 1 = (W ++ [AB.cells (iU o x)]).length := by simp
      have hB0 : 0 ∉ B := fun hm => by have := m3 0 hm;omega
      clear m1 m2 m3 m4 hbx;generalize hX2 : W ++ [AB.cells (iU o x)] = X2 at *;generalize W.length = c at *;have hpol := (aA.1 b1.o).1;have hpbl := (aA.1 b1.b).1;by_cases hbig : 1000 ≤ L.length
      · rw [if_pos hbig] at hrb2;have hro2 : P0 l = none := by rw [hro,g1,hrb2];rfl
        have key : ∀ o,rF l (.tup [.v (.pointer none),.b false]) o := fun o => by unfold rF;rw [hro2]
        (repeat' (first|refine wS ?_|refine wR ?_|(refine wC rfl ?_ ?_<;>(intro hb;(try simp only [nm] at hb);try (exfalso;omega)))|(refine rg 7 (mW rfl (vV (eJ rfl) (mW rfl (yN rfl (gT (nV ?_))))));refine yP T rfl (yV (by exact bC T rfl rfl (dU b1.b) rfl) ?_);refine gT (qW T rfl (yV (fT rfl rfl) (pV ?_))))|(refine rg 8 (mY ?_))|refine nZ ?_));all_goals first | (exfalso;omega) | exact ⟨.inl rfl,_,rfl,key _⟩
      · rw [if_neg hbig] at hrb2;rw [hrb2] at g1
        (repeat' (first|refine wK ?_|(refine wC rfl ?_ ?_<;>(intro hb;(try simp only [nm] at hb);try (exfalso;omega)))|(refine rg 7 (mW rfl (vV (eJ rfl) (mW rfl (yN rfl (gT (nV ?_))))));refine yP T rfl (yV (by exact bC T rfl rfl (dU b1.b) rfl) ?_);refine gT (qW T rfl (yV (fT rfl rfl) (pV ?_))))|refine nZ ?_));all_goals try (exfalso;omega)
        have hta : List.take L.length (List.drop 0 (L.map fun e => iU e.1 e.2.1)) = L.map fun e => iU e.1 e.2.1 := by rw [cY,aY (by simp)]
        have hlen : ∀ b : AB,(X2 ++ [b]).length = X2.length + 1 := fun b => by simp
        have hnx := PD b1 b2 b3 hft g8 hB0;have hLn : (L ++ [(o,x,B)]).length = L.length + 1 := by simp
        have hLm : (L ++ [(o,x,B)]).map (·.1) = L.map (·.1) ++ [o] := by simp
        have g5' : ∀ z,z ∈ L.map (·.1) ++ [o] → mZ z ∧ ∀ w,w ∈ z.ws → tH w.1 := fun z hz => by
          rcases bD.1 hz with hz | hz
          · exact g5 z hz
          · rw [bL.1 hz];exact ⟨XC,VU⟩
        rw [← hLm] at g1 g5';have hs'l : (s'.getD []).length ≤ 1000000000 := cF (HQ hod) g3;rcases b2.form with rfl | ⟨px,mx,rfl⟩
        all_goals
          (repeat' (first|(refine rE (id := 9) 58 [[],[],[1],[1,2],[1,2,3],[],[5],rM 1 6,rN 8,rN 9,rN 10] (rM 38 10) [[],[38],[38],[38],[38],rM 38 5,rM 38 5,[38],[],[],[]] [(7,po),(10,1)] fL rfl (CG (by decide +kernel) rfl rfl rfl rfl) (fA rfl rfl rfl rfl (by exact eV rfl) ?_);refine fA rfl rfl rfl rfl (by exact eV rfl) ?_;refine fA rfl rfl rfl rfl (by exact dR rfl rfl) ?_;refine fA rfl rfl rfl rfl (by exact eD T rfl rfl rfl) ?_;refine fA rfl rfl rfl rfl (by exact bC T rfl rfl (dU (bW b1.b)) rfl) ?_;refine fA rfl rfl rfl rfl (by exact bC T rfl rfl (dU (bW b4)) rfl) ?_;refine MS rfl rfl rfl rfl (by exact cK T rfl rfl (by decide) (by decide) rfl rfl rfl) rfl ?_;refine wH rfl rfl rfl rfl hpol (zX T rfl rfl rfl rfl rfl (bW b1.o) (by simp) (kV.whole Q7 rfl) rfl (by simp;omega) (by simp;omega)) ?_;refine fA rfl rfl rfl rfl (by exact dR rfl rfl) ?_;refine fA rfl rfl rfl rfl (by exact eD T rfl rfl rfl) ?_;refine EQ rfl rfl rfl rfl hpbl T rfl rfl rfl rfl rfl rfl (by decide) (JO (bW (fZ b1.ne b1.b)) rfl) ?_;refine xZ rfl rfl rfl (by exact rfl) ?_)|(refine rg 5 (mW rfl (vV (gH rfl rfl (by omega) (by omega)) (aV ?_))))|refine nZ ?_));all_goals try (exfalso;omega)
          all_goals exact ⟨⟨(k,s',L ++ [(o,_,B)],X2.length + 1,_),g1,by dsimp only;omega,hs'l,by dsimp only;omega,g5',hnx.2.1,hnx.1,hnx.2.2⟩,K4 k,nI.of (Eq.trans (by unfold NR;(conv => rhs;rw [← hta]);rfl) (congrArg (NR X2 po L o _) (hlen (AB.arr [iU o _] 4)))) ⟨rfl,rfl,rfl,congrArg (fun z : Int => some (AV.i z)) (by dsimp only;omega),trivial⟩⟩
  · have hrb : mO k s (L.map (·.1)) = some (L.map (·.1),s) := by
      cases k with
      | zero => rfl
      | succ k => rw [mO,if_pos (by omega)]
    rw [g1,hrb] at hro;dsimp only [Option.bind_some] at hro;have hbl := R6 g5 (by rw [bI];omega)
    rw [bI] at hbl;have hby := GK (L.map (·.1)) (by rw [bI];omega) (fun o ho => (g5 o ho).1.odI (g5 o ho).2) (by omega)
    have hv : iE (X.set 0 (rL s) ++ []) (.ptr 1 0) (JF (L.map (·.1))) := by rw [List.append_nil,hso];exact g7.view
    have cD := UD s;apply yE (I := Unit) (fun _ => [(0,.s l),(4,.ptr 0 0),(5,.ptr 1 0)]) (fun _ => X) (fun _ => True)
    case h1 =>
      intro rest;by_cases hk0 : 0 < k
      · (repeat' (first|refine wS ?_|refine wE ?_|refine nS rfl ?_|(refine rg 4 (mW rfl (vV (jE rfl rfl (by omega)) (mW rfl (yN rfl (gT (cQ [0] rfl rfl cL rfl rfl (aN.2 ⟨cG,aU⟩) ⟨.inr g6,trivial⟩ (by simp) rfl ?_))))));refine yV (jF rfl rfl (by omega)) (pV ?_))|(refine nZ ?_)));all_goals try (exfalso;omega)
        all_goals exact lG _ _ (nI.of ((List.append_nil _).trans hso) (by repeat first|exact trivial|refine ⟨rfl,?_⟩)) (rest () trivial)
      · (repeat' (first|refine wS ?_|refine wE ?_|refine nS rfl ?_|(refine rg 4 (mW rfl (vV (jF rfl rfl (by omega)) (mV ?_)));(iterate 3 refine gF ?_);refine pV ?_)|(refine nZ ?_)));all_goals try (exfalso;omega)
        all_goals exact lG _ _ (nI.of rfl (by repeat first|exact trivial|refine ⟨rfl,?_⟩)) (rest () trivial)
    rintro _ _;generalize hbk : L.map (·.1) = bk at *;by_cases hs : s = some []
    · rw [decide_eq_true hs] at cD;by_cases hbe : pK bk = l
      · rw [if_pos ⟨hs,hbe⟩] at hro;have key : rF l (.tup [.ptr 1 0,.b true]) X := by unfold rF;rw [hro];exact ⟨_,rfl,po,L,g7,hbk.symm,rfl⟩
        have key2 : rF l (.tup [.ptr 1 0,.b true]) (X.set 0 (rL s) ++ []) := by rw [List.append_nil,hso];exact key
        (repeat' (first|refine wS ?_|refine wK ?_|refine wR ?_|refine wU ?_|(refine rg 10 (mW rfl (cQ [0] rfl rfl cD rfl rfl (aN.2 ⟨cG,aU⟩) ⟨.inr g6,trivial⟩ (by simp) rfl ?_));refine vV (eJ rfl) (mW rfl (yN rfl (yV (by exact mG rfl rfl hby (.cons hv .nil) rfl rfl) ?_)));refine yN rfl (yV (I4 rfl rfl hbe) (pV ?_)))|(refine rg 12 (mW rfl (mY ?_)))|refine nZ ?_));all_goals first | (exfalso;omega) | exact ⟨.inl rfl,_,rfl,key2⟩
      · rw [if_neg (fun h => hbe h.2)] at hro;have key : ∀ o,rF l (.tup [.v (.pointer none),.b false]) o := fun o => by unfold rF;rw [hro]
        (repeat' (first|refine wS ?_|refine wR ?_|refine wT ?_|(refine rg 10 (mW rfl (cQ [0] rfl rfl cD rfl rfl (aN.2 ⟨cG,aU⟩) ⟨.inr g6,trivial⟩ (by simp) rfl ?_));refine vV (eJ rfl) (mW rfl (yN rfl (yV (by exact mG rfl rfl hby (.cons hv .nil) rfl rfl) ?_)));refine yN rfl (yV (BU rfl rfl hbe) (pV ?_)))|(refine rg 11 (mY ?_))|refine nZ ?_));all_goals first | (exfalso;omega) | exact ⟨.inl rfl,_,rfl,key _⟩
    · rw [decide_eq_false hs] at cD;rw [if_neg (fun h => hs h.1)] at hro;have key : ∀ o,rF l (.tup [.v (.pointer none),.b false]) o := fun o => by unfold rF;rw [hro]
      (repeat' (first|refine wS ?_|refine wR ?_|refine wT ?_|(refine rg 10 (mW rfl (cQ [0] rfl rfl cD rfl rfl (aN.2 ⟨cG,aU⟩) ⟨.inr g6,trivial⟩ (by simp) rfl ?_));refine vV (eJ rfl) (mV ?_);(iterate 4 refine gF ?_);refine pV ?_)|(refine rg 11 (mY ?_))|refine nZ ?_));all_goals first | (exfalso;omega) | exact ⟨.inl rfl,_,rfl,key _⟩
end Go.Proofs.YtdiogjgohbbllaaGreatDoor
namespace Go.Or
open Go Go.Ab Go.Wr Go.Proofs.YtdiogjgohbbllaaGreatDoor
theorem AF : ∀ {l : List Tk} {b : Int}, (∀ t, t ∈ l → 1 ≤ t.2) → dZ l b ≤ iM l
  | [],_,_ => uL _
  | t :: l,b,h => by
    have ih := AF (l := l) (b := b) fun t ht => h t (aF _ ht);have h1 := h t aP;unfold iM at ih ⊢;simp only [dZ,List.map_cons,jK];split <;> omega
theorem M8 (a b : List Tk) : iM (a ++ b) = iM a + iM b := by unfold iM;rw [cO,List.sum_append]
theorem M7 : ∀ {tk : List (List Tk)}, (∀ l, l ∈ tk → iM l ≤ 20000) → iM tk.flatten ≤ 20000 * tk.length
  | [],_ => by decide
  | l :: tk,h => by
    have ih := M7 fun l hl => h l (aF _ hl);have h1 := h l aP;rw [cE,M8,List.length_cons];omega
theorem mZ.units {o : Od} (h : mZ o) : iM o.tk.flatten ≤ 400000 := by
  have hr := pA h.ws;have hf := h.few;have := M7 (tk := o.tk) fun l hlm => by
    by_cases h1 : o.st = 1
    · have hl := h.len h1;obtain ⟨i,hi⟩ := bR.1 hlm;have hil := (aA.1 hi).1;have hs := h.sum i _ l (aB (by omega : i < o.ws.length)) hi
      have h2 := hr.2.2 _ (aK (by omega : i < o.ws.length))
      omega
    · rw [h.tk0 h1] at hlm;cases hlm
  omega
theorem J7 : ∀ {bk : Bk}, (∀ o, o ∈ bk → mZ o) → iM (iQ bk) ≤ 400000 * bk.length
  | [],_ => by decide
  | o :: bk,h => by
    have ih := J7 fun o ho => h o (aF _ ho);have h1 := (h o aP).units;unfold iQ at ih ⊢;rw [fI,M8,List.length_cons];omega
theorem mM.sz {bk : Bk} (h : mM bk) : VD bk := by
  have hall : ∀ t,t ∈ iQ bk → BA t := fun t ht => by
    obtain ⟨o,ho,ht⟩ := dK.1 ht;obtain ⟨l,hl,ht⟩ := jO.1 ht;exact (h.od o ho).ok l hl t ht
  refine ⟨h.le,fun o ho => ⟨by have := (h.od o ho).few.1;omega,fun l hl => by have := (h.od o ho).few.2 l hl;omega⟩,⟨fun t ht => ⟨(hall t ht).1,by have := (hall t ht).2.2.1;omega⟩,fun b => ?_⟩,fun o ho => by have := (pA (h.od o ho).ws).1;omega⟩
  have h1 := AF (l := iQ bk) (b := b) fun t ht => (hall t ht).2.2.1;have h2 := J7 h.od;have h3 := h.le;omega
theorem OB.getD {bk : Bk} (h : OB bk) (i : Nat) : ∀ w,w ∈ (bk.getD i iD).ws → tH w.1 := fun w hw => by
  rw [aD] at hw;cases e : bk[i]? with
  | none => rw [e] at hw;cases hw
  | some o => rw [e] at hw;exact h o (aH e) w hw
theorem OB.set {bk : Bk} (h : OB bk) {i : Nat} {o : Od} (ho : ∀ w,w ∈ o.ws → tH w.1) : OB (bk.set i o) := fun x hx => by
  rcases rV hx with rfl | hx
  · exact ho
  · exact h x hx
theorem UF {ls : List Lo} {sure : List Bo} {bk : Bk} {o : Or.Op} (h : OB bk) (ho : ∀ w,w ∈ o.ws → tH w.1) : OB (Z4 ls sure bk o).2 := by
  unfold Z4;split
  · unfold tD;split
    · exact h
    · split
      · exact h
      · intro x hx;rcases bD.1 hx with hx | hx
        · exact h x hx
        · rw [bL.1 hx];exact ho
  split
  · unfold oI;split
    · exact h
    · split
      · exact h
      · exact h.set (h.getD _)
  split
  · unfold lE;split
    · exact h
    · split
      · exact h
      · split
        · exact h
        · exact h.set (by rw [(N6 _ _ _ _).1];exact h.getD _)
  have he : ∀ st ss,OB (pH bk o.no st ss).2 := fun st ss => by
    unfold pH;split
    · exact h
    · exact h.set (h.getD _)
  split
  · exact he _ _
  split
  · exact he _ _
  · exact h
theorem QU {ls : List Lo} {sure : List Bo} {bk : Bk} {o : Or.Op} : bk.length ≤ (Z4 ls sure bk o).2.length ∧ (Z4 ls sure bk o).2.length ≤ bk.length + 1 := by
  have he : ∀ st ss,(pH bk o.no st ss).2.length = bk.length := fun st ss => by
    unfold pH;split <;> simp
  have hp : (oI ls sure bk o.no).2.length = bk.length := by
    unfold oI;split
    · rfl
    · split <;> simp
  have hs : (lE bk o.no o.b o.n o.t).2.length = bk.length := by
    unfold lE;split
    · rfl
    · split
      · rfl
      · split <;> simp
  have ha : bk.length ≤ (tD bk o.ws o.t).2.length ∧ (tD bk o.ws o.t).2.length ≤ bk.length + 1 := by
    unfold tD;split
    · simp
    · split <;> simp
  unfold Z4;split
  · exact ha
  split
  · dsimp only;omega
  split
  · dsimp only;omega
  split
  · rw [he];omega
  split
  · rw [he];omega
  · dsimp only;omega
abbrev XB (o : Or.Op) : List AV := [.i o.d,.i o.no,.i o.b,.i o.n,.i o.t,.rowE (bZ o.ws) 3]
def XF (H : Hp) (A : List Nat) (a b : Int) (bk : Bk) (r : AV) (o : Hp) : Prop := ∃ pb A',r = .tup [.ptr pb 0,.i a,.i b] ∧ vE o pb bk A' ∧ Fr H A o A'
end Go.Or
namespace Go.Proofs.YtdiogjgohbbllaaGreatDoor
open Go Go.Ab Go.Or Go.Wr
attribute [local irreducible] VC AW bQ bJ eQ kK
set_option maxHeartbeats 4000000
theorem XY {H : Hp} {pb : Nat} {bk : Bk} {A : List Nat} (hB : vE H pb bk A) (ok : mM bk) (kn : OB bk) (hlen : bk.length ≤ 50) (ls : List Lo) (sure : List Bo) (hs : wO ls sure) (o : Or.Op) (hw : o.ws.length ≤ 1000000) (u : AV) (hsu : CN H u sure) :
    eQ Tryz.prog 12 [.ptr pb 0,.agg (XB o),.rowE (lO ls) 3,u] H (XF H A (Z4 ls sure bk o).1.1 (Z4 ls sure bk o).1.2 (Z4 ls sure bk o).2) := by
  obtain ⟨d,no,b,n,t,ws⟩ := o;dsimp only at hw;have hB1 := hB.app [.gone];have hz := ok.sz;have hsu1 : CN (H ++ [.gone]) u sure := hsu.imp id fun ⟨k,h,hk⟩ => ⟨k,h,bW hk⟩
  have hform : u = .rowE (eX sure) 3 ∨ ∃ k,u = .sl k 0 sure.length 3 := hsu.imp id fun ⟨k,h,_⟩ => ⟨k,h⟩
  have fin : ∀ {a c : Int} {bk' : Bk} {o : Hp},(∃ A',vE o pb bk' A' ∧ Fr (H ++ [.gone]) A o A') → XF H A a c bk' (.tup [.ptr pb 0,.i a,.i c]) o := fun {a c bk' o} ⟨A',h1,h2⟩ => ⟨pb,A',rfl,h1,(Fr.app H _ A).trans h2⟩;have hask := GR hB1 ws t (by omega) hw
  have hpro := uR hB1 hz ls sure hs no u hsu1;have hsrv := FK hB1 hz no b n t;have hwdr := vP hB1 no (by omega)
  have hgiv := ME hB1 no (by omega)
  have hcpy := UG hB1 (by omega) hz.tk (fun o ho => by have := hz.ws o ho;omega)
  have hbb := R6 (fun o ho => ⟨ok.od o ho,kn o ho⟩) (by omega : bk.length ≤ 1000000)
  have hbl : (pK bk).length ≤ 1000000000 := by omega
  have hby := GK bk (by omega) (fun o ho => (ok.od o ho).odI (kn o ho)) (by omega)
  have hrd := SW (pK bk) hbl;have hrf := KO ok kn;have hvw := hB1.view;have hid : XF H A 0 0 bk (.tup [.ptr pb 0,.i 0,.i 0]) (H ++ [.gone]) := fin ⟨A,hB1,Fr.refl _ _⟩;refine jM T Tryz.func12 rfl rfl rfl rfl ?_;unfold Z4;dsimp only;rcases hform with rfl | ⟨ku,rfl⟩
  all_goals
    (repeat' (first|refine wS ?_|(refine rg 0 (dX (gL rfl rfl) rfl (RD rfl (aV ?_))))|refine nZ ?_));refine gV 5 (cs := [.i d,.i no,.i b,.i n,.i t,.rowE (bZ ws) 3]) rfl cP rfl ?_
    rw [jA];by_cases h0 : d = 0
    · rw [if_pos h0]
      (repeat' (first|refine wS ?_|refine wB ?_|refine wR ?_|(refine wC rfl ?_ ?_<;>(intro hb;(try simp only [nm] at hb);try (exfalso;omega)))|(refine rg 1 (MM T ?_))|(refine rg 2 (vV (cT rfl rfl) (aV ?_)))|(refine rg 3 (mW rfl (jQ T rfl (jQ T rfl (dQ rfl rfl hask rfl ?_))));rintro _ _ ⟨rfl,hq⟩;dsimp only [eU];refine mW rfl (xW rfl (xW rfl (mY ?_))))|(refine rg 4 (eW rfl (mW rfl (RD rfl (aV ?_)))))|refine nZ ?_));all_goals first | (exfalso;omega) | exact ⟨.inl rfl,_,rfl,fin hq⟩
    rw [if_neg h0];by_cases h1 : d = 1
    · rw [if_pos h1]
      (repeat' (first|refine wS ?_|refine wB ?_|refine wR ?_|(refine wC rfl ?_ ?_<;>(intro hb;(try simp only [nm] at hb);try (exfalso;omega)))|(refine rg 1 (MM T ?_))|(refine rg 2 (vV (cT rfl rfl) (aV ?_)))|(refine rg 5 (vV (cT rfl rfl) (aV ?_)))|(refine rg 6 (eW rfl (jQ T rfl (eW rfl (dQ rfl rfl hpro rfl ?_))));rintro _ _ ⟨rfl,hq⟩;dsimp only [eU];refine RD rfl (aV ?_))|refine nZ ?_));all_goals first | (exfalso;omega) | exact ⟨.inl rfl,_,rfl,fin hq⟩
    rw [if_neg h1];by_cases h2 : d = 2
    · rw [if_pos h2]
      (repeat' (first|refine wS ?_|refine wB ?_|refine wR ?_|(refine wC rfl ?_ ?_<;>(intro hb;(try simp only [nm] at hb);try (exfalso;omega)))|(refine rg 1 (MM T ?_))|(refine rg 2 (vV (cT rfl rfl) (aV ?_)))|(refine rg 5 (vV (cT rfl rfl) (aV ?_)))|(refine rg 7 (vV (cT rfl rfl) (aV ?_)))|(refine rg 8 (eW rfl (jQ T rfl (jQ T rfl (jQ T rfl (jQ T rfl (dQ rfl rfl hsrv rfl ?_))))));rintro _ _ ⟨rfl,hq⟩;dsimp only [eU];refine RD rfl (aV ?_))|refine nZ ?_));all_goals first | (exfalso;omega) | exact ⟨.inl rfl,_,rfl,fin hq⟩
    rw [if_neg h2];by_cases h3 : d = 3
    · rw [if_pos h3]
      (repeat' (first|refine wS ?_|refine wB ?_|refine wR ?_|(refine wC rfl ?_ ?_<;>(intro hb;(try simp only [nm] at hb);try (exfalso;omega)))|(refine rg 1 (MM T ?_))|(refine rg 2 (vV (cT rfl rfl) (aV ?_)))|(refine rg 5 (vV (cT rfl rfl) (aV ?_)))|(refine rg 7 (vV (cT rfl rfl) (aV ?_)))|(refine rg 9 (vV (cT rfl rfl) (aV ?_)))|(refine rg 10 (eW rfl (jQ T rfl (dQ rfl rfl hwdr rfl ?_)));rintro _ _ ⟨rfl,hq⟩;dsimp only [eU];refine RD rfl (aV ?_))|refine nZ ?_));all_goals first | (exfalso;omega) | exact ⟨.inl rfl,_,rfl,fin hq⟩
    rw [if_neg h3];by_cases h4 : d = 4
    · rw [if_pos h4]
      (repeat' (first|refine wS ?_|refine wB ?_|refine wR ?_|(refine wC rfl ?_ ?_<;>(intro hb;(try simp only [nm] at hb);try (exfalso;omega)))|(refine rg 1 (MM T ?_))|(refine rg 2 (vV (cT rfl rfl) (aV ?_)))|(refine rg 5 (vV (cT rfl rfl) (aV ?_)))|(refine rg 7 (vV (cT rfl rfl) (aV ?_)))|(refine rg 9 (vV (cT rfl rfl) (aV ?_)))|(refine rg 11 (vV (cT rfl rfl) (aV ?_)))|(refine rg 12 (eW rfl (jQ T rfl (dQ rfl rfl hgiv rfl ?_)));rintro _ _ ⟨rfl,hq⟩;dsimp only [eU];refine RD rfl (aV ?_))|refine nZ ?_));all_goals first | (exfalso;omega) | exact ⟨.inl rfl,_,rfl,fin hq⟩
    rw [if_neg h4];by_cases h5 : d = 5
    · (repeat' (first|refine wS ?_|refine wB ?_|refine wR ?_|(refine wC rfl (fun hb => ?_) (fun hb => ?_) <;> (((try simp only [nm] at hb);try (exfalso;omega))))|(refine rg 1 (MM T ?_))|(refine rg 2 (vV (cT rfl rfl) (aV ?_)))|(refine rg 5 (vV (cT rfl rfl) (aV ?_)))|(refine rg 7 (vV (cT rfl rfl) (aV ?_)))|(refine rg 9 (vV (cT rfl rfl) (aV ?_)))|(refine rg 11 (vV (cT rfl rfl) (aV ?_)))|(refine rg 13 (vV (cT rfl rfl) (aV ?_)))|(refine rg 14 (mW rfl (dQ rfl rfl hcpy rfl ?_));rintro _ _ ⟨pb2,A2,rfl,hq1,hq2,hq3,hq4⟩;dsimp only [eU];refine RD rfl (aV ?_))|(refine nZ ?_)));all_goals first | (exfalso;omega) | exact ⟨.inl rfl,_,rfl,pb2,A2,rfl,hq1,(Fr.app H [.gone] A).trans ⟨hq3,fun k hk _ => hq4 k hk,fun k hk => .inr (hq2 k hk)⟩⟩
    by_cases h6 : d = 6
    · (repeat' (first|refine wS ?_|refine wB ?_|(refine wC rfl (fun hb => ?_) (fun hb => ?_) <;> (((try simp only [nm] at hb);try (exfalso;omega))))|(refine rg 1 (MM T ?_))|(refine rg 2 (vV (cT rfl rfl) (aV ?_)))|(refine rg 5 (vV (cT rfl rfl) (aV ?_)))|(refine rg 7 (vV (cT rfl rfl) (aV ?_)))|(refine rg 9 (vV (cT rfl rfl) (aV ?_)))|(refine rg 11 (vV (cT rfl rfl) (aV ?_)))|(refine rg 13 (vV (cT rfl rfl) (aV ?_)))|(refine rg 15 (vV (cT rfl rfl) (aV ?_)))|(refine rg 16 (mW rfl (vV (by exact mG rfl rfl hby (.cons hvw .nil) rfl rfl) ?_));refine uM [] rfl rfl hrd rfl rfl aU trivial (by simp) rfl ?_;rintro res hout hΦ;unfold rF at hΦ;rw [hrf] at hΦ;dsimp only at hΦ;obtain ⟨A2,rfl,hq⟩ := hΦ;dsimp only [eU];refine mW rfl (xW rfl (xW rfl (mY ?_))))|(refine nZ ?_)));all_goals try (exfalso;omega)
      all_goals
        obtain ⟨A3,hq3,hq4⟩ := hq.shift (H := H ++ [.gone]);refine lG [(13,.ptr (1 + (H ++ [AB.gone]).length) 0),(14,.b true)] ((H ++ [AB.gone]) ++ hout.map (AB.map (· + (H ++ [AB.gone]).length))) (nI.of (by rw [sI,cY];rfl) ⟨by rw [sI];rfl,rfl,trivial⟩) ?_
        have key : XF H A 0 0 bk (.tup [.ptr (1 + (H ++ [AB.gone]).length) 0,.i 0,.i 0]) ((H ++ [AB.gone]) ++ hout.map (AB.map (· + (H ++ [AB.gone]).length))) := ⟨_,A3,rfl,hq3,(Fr.app H [.gone] A).trans ⟨by rw [@aC _ (H ++ [AB.gone]) _];exact fF _ _,fun k hk _ => iJ hk,fun k hk => .inr (hq4 k hk)⟩⟩
        (repeat' (first|refine wS ?_|refine wK ?_|refine wR ?_|refine wU ?_|(refine rg 17 (mW rfl (vV (eJ rfl) ?_)))|(refine rg 19 (mW rfl (RD rfl (aV ?_))))|refine nZ ?_));all_goals first | (exfalso;omega) | exact ⟨.inl rfl,_,rfl,key⟩
    · (repeat' (first|refine wS ?_|refine wB ?_|refine wK ?_|refine wR ?_|(refine wC rfl (fun hb => ?_) (fun hb => ?_) <;> (((try simp only [nm] at hb);try (exfalso;omega))))|(refine rg 1 (MM T ?_))|(refine rg 2 (vV (cT rfl rfl) (aV ?_)))|(refine rg 5 (vV (cT rfl rfl) (aV ?_)))|(refine rg 7 (vV (cT rfl rfl) (aV ?_)))|(refine rg 9 (vV (cT rfl rfl) (aV ?_)))|(refine rg 11 (vV (cT rfl rfl) (aV ?_)))|(refine rg 13 (vV (cT rfl rfl) (aV ?_)))|(refine rg 15 (vV (cT rfl rfl) (aV ?_)))|(refine rg 20 (mW rfl (RD rfl (aV ?_))))|(refine nZ ?_)));all_goals first | (exfalso;omega) | exact ⟨.inl rfl,_,rfl,hid⟩
end Go.Proofs.YtdiogjgohbbllaaGreatDoor
namespace Go.Or
open Go Go.Ab Go.Wr Go.Proofs.YtdiogjgohbbllaaGreatDoor
def L4 (b : Bo) (n : Int) : Bool := decide ((0 ≤ b.2.2 ∧ b.2.2 ≤ 1000000) ∧ (-1 ≤ b.1 ∧ b.1 ≤ n - 1) ∧ (0 ≤ b.2.1 ∧ b.2.1 ≤ 20000) ∧ (0 ≤ b.1 ∨ b.2.1 = 0))
def LC (l : Lo) (n : Int) : Bool := decide ((0 ≤ l.1 ∧ l.1 ≤ n - 1) ∧ (0 ≤ l.2.1 ∧ l.2.1 ≤ 20000))
def qH (l : List Bo) : Int := (l.map (·.2.1)).sum
def T8 (n : Nat) (ls : List Lo) (bs : List Bo) : Bool := decide (ls.length ≤ 2000 ∧ bs.length ≤ 3000) && (ls.all (LC · n) && (bs.all (L4 · ls.length) && decide (qH bs ≤ 20000)))
theorem DF {l : List Bo} {k : Nat} (h : k < l.length) : qH (l.take (k + 1)) = qH (l.take k) + l[k].2.1 := by
  unfold qH;rw [aX h,cO,List.sum_append];simp
theorem JP {l : List Bo} (h : ∀ b,b ∈ l → 0 ≤ b.2.1 ∧ b.2.1 ≤ 20000) : 0 ≤ qH l ∧ qH l ≤ 20000 * l.length := by
  induction l with
  | nil => decide
  | cons b l ih =>
    have h1 := ih fun b hb => h b (aF _ hb);have h2 := h b aP;unfold qH at h1 ⊢;rw [List.map_cons,jK,List.length_cons];omega
abbrev Kd := List UInt8 × Int
abbrev xR (l : List Kd) : List (List AV) := l.map fun k => [AV.s k.1,AV.i k.2]
theorem LV (l : List Kd) : ∀ e,e ∈ xR l → e.length = 2 := by intro e he;obtain ⟨n,_,rfl⟩ := aJ.1 he;rfl
theorem zR (l : List Kd) : (xR l).length = l.length := bI _
theorem LW {l : List Kd} {k : Nat} (h : k < l.length) : (xR l)[(k : Int).toNat]? = some [AV.s l[k].1,AV.i l[k].2] := by simp [h]
abbrev kS (s : List UInt8) : Value := .string ⟨s.toArray⟩
theorem TP {a b : List UInt8} (h : kS a = kS b) : a = b := by
  have := Value.string.inj h;simpa using this
abbrev VG (l : List Kd) : List Value := l.map fun k => kS k.1
abbrev WE (l : List Kd) : List AV := l.map fun _ => AV.b true
structure OC (l : List Kd) : Prop where
  le : l.length ≤ 500
  nd : (l.map (·.1)).Nodup
  ok : ∀ k,k ∈ l → (1 ≤ k.1.length ∧ k.1.length ≤ 20) ∧ (1 ≤ k.2 ∧ k.2 ≤ 10000)
theorem EH (s : List UInt8) : MapKept.IsKey .string (kS s) := trivial
theorem RU (s : List UInt8) : JH (.s s) (kS s) := JH.v _
theorem LU (l : List Kd) : ∀ q,q ∈ VG l → MapKept.IsKey .string q := by
  intro q hq;obtain ⟨e,_,rfl⟩ := aJ.1 hq;exact EH _
theorem TO {l : List Kd} {s : List UInt8} (h : s ∉ l.map (·.1)) : kS s ∉ VG l := fun hm => by
  obtain ⟨e,he,e1⟩ := aJ.1 hm;exact h (aJ.2 ⟨e,he,TP e1⟩)
theorem QC (l : List Kd) : AV.idfL (WE l) = true := by
  induction l with
  | nil => rfl
  | cons e m ih => exact ih
theorem OC.new {l : List Kd} (h : OC l) {k : Nat} (hk : k < l.length) : l[k].1 ∉ (l.take k).map (·.1) := fun hm => by
  have hnd := h.nd;have e := congrArg (List.map (·.1)) (bU k l).symm;rw [aS hk,cO,List.map_cons] at e;rw [e,dY] at hnd;exact hnd.2.2 _ hm _ aP rfl
theorem XJ (S : Nat → Prop) (w : World) (ρ : Pl) : R S w (.b false) ρ (.bool false) := by simp [R]
abbrev k3 : List Kd := [([97],1),([98],1),([99],1)]
theorem WF : OC k3 := ⟨by decide,by decide,by decide⟩
def zU (ls : List Lo) (bs : List Bo) : Bool := decide (ls.length ≤ 20 ∧ bs.length ≤ 20) && T8 3 ls bs
theorem I2 {ls : List Lo} {bs : List Bo} (h : zU ls bs = true) : wO ls bs := by
  unfold zU T8 at h;simp only [aL,decide_eq_true_eq,aT] at h;obtain ⟨⟨h1,h2⟩,_,h3,h4,h5⟩ := h;have hb : ∀ b,b ∈ bs → (0 ≤ b.2.1 ∧ b.2.1 ≤ 20000) ∧ (-1 ≤ b.1 ∧ b.1 < ls.length) := fun b hb => by
    have := h4 b hb;unfold L4 at this;rw [decide_eq_true_eq] at this;exact ⟨this.2.2.1,by omega,by omega⟩
  have hg : ∀ i,i < bs.length → bs.getD i (0,0,0) ∈ bs := fun i hi => by
    rw [aD,aB hi];exact aK hi
  refine ⟨by omega,h2,fun i hi => (hb _ (hg i hi)).2,fun b hb0 => ?_⟩
  unfold cnt;by_cases hbl : b.toNat < bs.length
  · exact (hb _ (hg _ hbl)).1
  · rw [aD,bN (by omega)];decide
theorem J6 {α : Type} {p : α → Bool} {l : List α} {k : Nat} (hk : k < l.length) (h : ∀ x,x ∈ l.take k → p x = true) (h2 : p l[k] = true) : ∀ x,x ∈ l.take (k + 1) → p x = true := fun x hx => by
  rw [aX hk] at hx;rcases bD.1 hx with hx | hx
  · exact h x hx
  · rw [bL.1 hx];exact h2
theorem W8 {α : Type} {p : α → Bool} {l : List α} {x : α} (hx : x ∈ l) (h : p x = false) : l.all p = false := by
  rw [List.all_eq_false];exact ⟨x,hx,by rw [h];decide⟩
end Go.Or
namespace Go.Proofs.YtdiogjgohbbllaaGreatDoor
open Go Go.Ab Go.Or Go.Wr
attribute [local irreducible] VC AW bQ bJ eQ kK
set_option maxHeartbeats 4000000
theorem B9 (n l h : Int) : bJ Tryz.prog 58 [.i n,.i l,.i h] [] (.b (decide (l ≤ n ∧ n ≤ h))) [] := by
  refine dB T Tryz.func58 rfl rfl rfl rfl ?_;by_cases h1 : l ≤ n
  · by_cases h2 : n ≤ h
    · rw [decide_eq_true ⟨h1,h2⟩]
      (repeat' (first|refine wS ?_|refine wR ?_|(refine rg 0 (aV ?_))|(refine rg 1 (eW rfl (vV (fT rfl rfl) (mV ?_)));refine bS rfl rfl ?_ ?_<;>(intro hb;rw [hb];(try simp only [nm] at hb);try (exfalso;omega));(all_goals (refine yN rfl (yN rfl (yV (iP rfl rfl) (pW rfl (aV ?_)))))))|refine nZ ?_));all_goals first | (exfalso;omega) | exact eG (.inl rfl) rfl (by first | rfl | (simp [h1,h2];rfl) | (rw [decide_eq_true h2];rfl))
    · rw [decide_eq_false (fun h => h2 h.2)]
      (repeat' (first|refine wS ?_|refine wR ?_|(refine rg 0 (aV ?_))|(refine rg 1 (eW rfl (vV (fT rfl rfl) (mV ?_)));refine bS rfl rfl ?_ ?_<;>(intro hb;rw [hb];(try simp only [nm] at hb);try (exfalso;omega));(all_goals (refine yN rfl (yN rfl (yV (iP rfl rfl) (pW rfl (aV ?_)))))))|refine nZ ?_));all_goals first | (exfalso;omega) | exact eG (.inl rfl) rfl (by first | rfl | (rw [decide_eq_false h2];rfl))
  · rw [decide_eq_false (fun h => h1 h.1)]
    (repeat' (first|refine wS ?_|refine wR ?_|(refine rg 0 (aV ?_))|(refine rg 1 (eW rfl (vV (fT rfl rfl) (mV ?_)));refine bS rfl rfl ?_ ?_<;>(intro hb;rw [hb];(try simp only [nm] at hb);try (exfalso;omega));(all_goals ((iterate 3 refine gF ?_);refine pW rfl (aV ?_))))|refine nZ ?_));all_goals first | (exfalso;omega) | exact eG (.inl rfl) rfl (by first | rfl | (rw [decide_eq_false h1];rfl))
theorem DQ (b : Bo) (n : Nat) (hn : n ≤ 1000000) : bJ Tryz.prog 94 [.agg [.i b.1,.i b.2.1,.i b.2.2],.i n] [] (.b (L4 b n)) [] := by
  obtain ⟨l,c,t⟩ := b;have b1 := B9 t 0 1000000;have b2 := B9 l (-1) ((n : Int) - 1);have b3 := B9 c 0 20000;unfold L4;dsimp only;refine dB T Tryz.func94 rfl rfl rfl rfl ?_;by_cases h1 : 0 ≤ t ∧ t ≤ 1000000
  · rw [decide_eq_true h1] at b1;by_cases h2 : -1 ≤ l ∧ l ≤ (n : Int) - 1
    · rw [decide_eq_true h2] at b2;by_cases h3 : 0 ≤ c ∧ c ≤ 20000
      · rw [decide_eq_true h3] at b3;by_cases h4 : 0 ≤ l
        · rw [decide_eq_true ⟨h1,h2,h3,.inl h4⟩]
          (repeat' (first|refine wS ?_|refine wR ?_|(refine rg 0 (dX (gL rfl rfl) rfl (aV ?_)))|(refine rg 1 (jQ T rfl (vV (by exact cM rfl rfl b1 rfl rfl rfl) ?_));refine mW rfl (yP T rfl (yO T rfl (yN rfl (yV (gH rfl rfl (by omega) (by omega)) (yV (by exact cM rfl rfl b2 rfl rfl rfl) ?_)))));refine pW rfl (mW rfl (yP T rfl (yO T rfl (yV (by exact cM rfl rfl b3 rfl rfl rfl) ?_))));refine pW rfl (mW rfl (yP T rfl (yO T rfl (yV (fT rfl rfl) (yM ?_)))));refine bS rfl rfl ?_ ?_<;>(intro hb;rw [hb];(try simp only [nm] at hb);try (exfalso;omega));(all_goals ((iterate 3 refine gF ?_);refine gT (pW rfl (pW rfl (aV ?_))))))|refine nZ ?_));all_goals first | (exfalso;omega) | exact eG (.inl rfl) rfl (by first | rfl | (rw [decide_eq_true h4];rfl))
        · by_cases h5 : c = 0
          · rw [decide_eq_true ⟨h1,h2,h3,.inr h5⟩]
            (repeat' (first|refine wS ?_|refine wR ?_|(refine rg 0 (dX (gL rfl rfl) rfl (aV ?_)))|(refine rg 1 (jQ T rfl (vV (by exact cM rfl rfl b1 rfl rfl rfl) ?_));refine mW rfl (yP T rfl (yO T rfl (yN rfl (yV (gH rfl rfl (by omega) (by omega)) (yV (by exact cM rfl rfl b2 rfl rfl rfl) ?_)))));refine pW rfl (mW rfl (yP T rfl (yO T rfl (yV (by exact cM rfl rfl b3 rfl rfl rfl) ?_))));refine pW rfl (mW rfl (yP T rfl (yO T rfl (yV (fT rfl rfl) (yM ?_)))));refine bS rfl rfl ?_ ?_<;>(intro hb;rw [hb];(try simp only [nm] at hb);try (exfalso;omega));(all_goals (refine yP T rfl (yO T rfl (yV (cT rfl rfl) (gT (pW rfl (pW rfl (aV ?_)))))))))|refine nZ ?_));all_goals first | (exfalso;omega) | exact eG (.inl rfl) rfl (by first | rfl | (rw [decide_eq_true h5];rfl))
          · rw [decide_eq_false (fun h => h.2.2.2.elim h4 h5)]
            (repeat' (first|refine wS ?_|refine wR ?_|(refine rg 0 (dX (gL rfl rfl) rfl (aV ?_)))|(refine rg 1 (jQ T rfl (vV (by exact cM rfl rfl b1 rfl rfl rfl) ?_));refine mW rfl (yP T rfl (yO T rfl (yN rfl (yV (gH rfl rfl (by omega) (by omega)) (yV (by exact cM rfl rfl b2 rfl rfl rfl) ?_)))));refine pW rfl (mW rfl (yP T rfl (yO T rfl (yV (by exact cM rfl rfl b3 rfl rfl rfl) ?_))));refine pW rfl (mW rfl (yP T rfl (yO T rfl (yV (fT rfl rfl) (yM ?_)))));refine bS rfl rfl ?_ ?_<;>(intro hb;rw [hb];(try simp only [nm] at hb);try (exfalso;omega));(all_goals (refine yP T rfl (yO T rfl (yV (cT rfl rfl) (gT (pW rfl (pW rfl (aV ?_)))))))))|refine nZ ?_));all_goals first | (exfalso;omega) | exact eG (.inl rfl) rfl (by first | rfl | (rw [decide_eq_false h5];rfl))
      · rw [decide_eq_false h3] at b3;rw [decide_eq_false (fun h => h3 h.2.2.1)]
        (repeat' (first|refine wS ?_|refine wR ?_|(refine rg 0 (dX (gL rfl rfl) rfl (aV ?_)))|(refine rg 1 (jQ T rfl (vV (by exact cM rfl rfl b1 rfl rfl rfl) ?_));refine mW rfl (yP T rfl (yO T rfl (yN rfl (yV (gH rfl rfl (by omega) (by omega)) (yV (by exact cM rfl rfl b2 rfl rfl rfl) ?_)))));refine pW rfl (mW rfl (yP T rfl (yO T rfl (yV (by exact cM rfl rfl b3 rfl rfl rfl) ?_))));refine pW rfl (mV ?_);(iterate 4 refine gF ?_);(iterate 3 refine gU ?_);refine gF (pW rfl (aV ?_)))|refine nZ ?_));all_goals first | (exfalso;omega) | exact rQ
    · rw [decide_eq_false h2] at b2;rw [decide_eq_false (fun h => h2 h.2.1)]
      (repeat' (first|refine wS ?_|refine wR ?_|(refine rg 0 (dX (gL rfl rfl) rfl (aV ?_)))|(refine rg 1 (jQ T rfl (vV (by exact cM rfl rfl b1 rfl rfl rfl) ?_));refine mW rfl (yP T rfl (yO T rfl (yN rfl (yV (gH rfl rfl (by omega) (by omega)) (yV (by exact cM rfl rfl b2 rfl rfl rfl) ?_)))));refine pW rfl (mV ?_);(iterate 3 refine gF ?_);refine pW rfl (mV ?_);(iterate 4 refine gF ?_);(iterate 3 refine gU ?_);refine gF (pW rfl (aV ?_)))|refine nZ ?_));all_goals first | (exfalso;omega) | exact rQ
  · rw [decide_eq_false h1] at b1;rw [decide_eq_false (fun h => h1 h.1)]
    (repeat' (first|refine wS ?_|refine wR ?_|(refine rg 0 (dX (gL rfl rfl) rfl (aV ?_)))|(refine rg 1 (jQ T rfl (vV (by exact cM rfl rfl b1 rfl rfl rfl) ?_));refine mV ?_;(iterate 5 refine gF ?_);refine pW rfl (mV ?_);(iterate 3 refine gF ?_);refine pW rfl (mV ?_);(iterate 4 refine gF ?_);(iterate 3 refine gU ?_);refine gF (pW rfl (aV ?_)))|refine nZ ?_));all_goals first | (exfalso;omega) | exact rQ
theorem OP (l : List Bo) (hl : l.length ≤ 1000000) (h : ∀ b,b ∈ l → 0 ≤ b.2.1 ∧ b.2.1 ≤ 20000) : bJ Tryz.prog 95 [.rowE (eX l) 3] [] (.i (qH l)) [] := by
  have hll := eP l;refine dB T Tryz.func95 rfl rfl rfl rfl ?_
  (repeat' (first|refine wS ?_|refine wB ?_|(refine rg 0 (aV ?_))|(refine rg 1 (aV ?_))|(refine rg 2 (mW rfl (qW T rfl (mV ?_))))|refine nZ ?_));refine eN (X := {k : Nat // k ≤ l.length}) (fun k => [(3,.i (qH (l.take k.1))),(6,.rowE (eX l) 3),(7,.i (eX l).length),(8,.i k.1)]) (fun _ => []) (fun k => l.length - k.1) ⟨0,bP _⟩ ⟨[],rfl,by (repeat (first | exact trivial | refine ⟨rfl,?_⟩)),trivial,aU,mR _⟩ ?_
  rintro ⟨k,hk⟩;dsimp only;by_cases hlt : k < l.length
  · have hg := E3 hlt;have hu := DF hlt;have h1 := JP (l := l.take k) fun b hb => h b (gC hb);have h2 := h _ (aK hlt);have hgd : l.getD k (0,0,0) = l[k] := by rw [aD,aB hlt];rfl
    rw [hgd] at hg;rw [bV] at h1;generalize l[k] = b at *;obtain ⟨b1,b2,b3⟩ := b;dsimp only at *;generalize qH (l.take k) = u at *
    (repeat' (first|refine wS ?_|refine wB ?_|refine wK ?_|(refine wC rfl ?_ ?_<;>(intro hb;(try simp only [nm] at hb);try (exfalso;omega)))|(refine rg 3 (vV (bB rfl rfl) ?_))|(refine rg 4 (vV (ix T rfl (by omega) (oC _) hg) (lW T rfl (dX (dH T rfl) rfl (bH T rfl rfl rfl rfl rfl rfl (by decide) rfl ?_)))))|(refine rg 5 (mW rfl (jQ T rfl (vV (eE rfl rfl (by omega) (by omega)) (aV ?_)))))|(refine rg 6 (vV (eE rfl rfl (by omega) (by omega)) (mV ?_)))|refine nZ ?_));all_goals first | (exfalso;omega) | exact ⟨⟨k + 1,hlt⟩,by dsimp only;omega,[],rfl,by dsimp only;rw [hu];(repeat (first | exact trivial | refine ⟨rfl,?_⟩)),trivial,aU,mR _⟩
  · obtain rfl : k = l.length := by omega
    rw [eA]
    (repeat' (first|refine wS ?_|refine wR ?_|refine wE ?_|(refine wC rfl ?_ ?_<;>(intro hb;(try simp only [nm] at hb);try (exfalso;omega)))|(refine rg 3 (vV (bB rfl rfl) ?_))|(refine rg 7 (mW rfl (aV ?_)))|refine nZ ?_));all_goals first | (exfalso;omega) | exact rQ
theorem RS : Tryz.prog.underlying 158 = some (.map 9 4) := by kernel_rfl
theorem RJ : pR Tryz.prog 9 (MapKept.IsKey .string) := pR.plain (by kernel_rfl)
theorem YN : ∀ w,(zeroValue 4).run Tryz.prog w = .ok (.bool false) w := Z5 (by kernel_rfl)
theorem T7 (l : List Kd) (h : OC l) : bJ Tryz.prog 93 [.rowE (xR l) 2] [] (.b true) [] := by
  have hll := zR l;have hle := h.le;refine dB T Tryz.func93 rfl rfl rfl rfl ?_
  (repeat' (first|refine wS ?_|refine wB ?_|(refine rg 0 (aV ?_))|(refine rg 1 (dX (by exact Q9) rfl ?_);refine aV ?_)|(refine rg 2 (mW rfl (qW T rfl (mV ?_))))|refine nZ ?_));refine eN (X := {k : Nat // k ≤ l.length}) (fun k => [(0,.rowE (xR l) 2),(3,.mp 0),(7,.rowE (xR l) 2),(8,.i (xR l).length),(9,.i k.1)]) (fun k => [.mapO (VG (l.take k.1)) (WE (l.take k.1))]) (fun k => l.length - k.1) ⟨0,bP _⟩ ⟨[0],rfl,by (repeat (first | exact trivial | refine ⟨rfl,?_⟩)),⟨.inr rfl,trivial⟩,by decide,mR _⟩ ?_
  rintro ⟨k,hk⟩;dsimp only;by_cases hlt : k < l.length
  · have hg := LW hlt;have hn := TO (h.new hlt);obtain ⟨o1,o2⟩ := h.ok _ (aK hlt);have e1 : VG (l.take (k + 1)) = VG (l.take k) ++ [kS l[k].1] := by rw [VG,aX hlt,cO];rfl
    have e2 : WE (l.take (k + 1)) = WE (l.take k) ++ [.b true] := by rw [WE,aX hlt,cO];rfl
    have hgo := LU (l.take k);generalize l[k] = x at *;obtain ⟨knm,wt⟩ := x;dsimp only at *;have b1 := B9 knm.length 1 20;have b2 := B9 wt 1 10000;rw [decide_eq_true ⟨by omega,by omega⟩] at b1
    rw [decide_eq_true o2] at b2
    (repeat' (first|refine wS ?_|refine wB ?_|refine wK ?_|(refine wC rfl ?_ ?_<;>(intro hb;(try simp only [nm] at hb);try (exfalso;omega)))|(refine rg 3 (vV (bB rfl rfl) ?_))|(refine rg 4 (vV (ix T rfl (by omega) (LV _) hg) (lW T rfl (dX (dH T rfl) rfl (bH T rfl rfl rfl rfl rfl rfl (by decide) rfl ?_)))))|refine nZ ?_));all_goals try (exfalso;omega)
    refine gV 5 (cs := [.s knm,.i wt]) rfl rfl rfl ?_
    (repeat' (first|refine wK ?_|refine wU ?_|(refine rg 5 (jQ T rfl (vV (mT jJ rfl) (vV (by exact cM rfl rfl b1 rfl rfl rfl) ?_)));refine vV (eJ rfl) (mW rfl (yP T rfl (yO T rfl (yV (by exact cM rfl rfl b2 rfl rfl rfl) ?_))));refine yV (eJ rfl) (pW rfl (mW rfl (yN rfl (yP T rfl (yO T rfl (yV (by exact B7 (zA := .b false) RS RJ YN XJ rfl rfl (RU _) rfl hgo (EH _) hn) ?_))))));refine pV ?_)|(refine rg 7 (mW rfl (jQ T rfl (M2 RS RJ rfl rfl (RU _) rfl rfl hgo (EH _) hn ?_))))|(refine rg 8 (vV (eE rfl rfl (by omega) (by omega)) (mV ?_)))|refine nZ ?_));all_goals try (exfalso;omega)
    all_goals exact ⟨⟨k + 1,hlt⟩,by dsimp only;omega,[0],rfl,by (repeat (first | exact trivial | refine ⟨rfl,?_⟩)),⟨.inr (qP rfl e1.symm e2.symm (QC _)),trivial⟩,by decide,mR _⟩
  · obtain rfl : k = l.length := by omega
    (repeat' (first|refine wS ?_|refine wR ?_|refine wE ?_|(refine wC rfl ?_ ?_<;>(intro hb;(try simp only [nm] at hb);try (exfalso;omega)))|(refine rg 3 (vV (bB rfl rfl) ?_))|(refine rg 9 (mW rfl (qW T rfl (vV (iP rfl rfl) (aV ?_)))))|refine nZ ?_));all_goals first | (exfalso;omega) | exact eG (.inl rfl) rfl (by first | rfl | (rw [decide_eq_true (by omega)];rfl))
theorem T2 (ks : List Kd) (ls : List Lo) (bs : List Bo) (hk : OC ks) (hl : ls.length ≤ 1000000) (hbs : bs.length ≤ 1000000) : bJ Tryz.prog 43 [.rowE (xR ks) 2,.rowE (lO ls) 3,.rowE (eX bs) 3] [] (.b (T8 ks.length ls bs)) [] := by
  have hkl := zR ks;have hll := qZ ls;have hbl := eP bs;have hk5 := hk.le;have hrk := T7 ks hk;unfold T8;refine dB T Tryz.func43 rfl rfl rfl rfl ?_;by_cases hA : ls.length ≤ 2000 ∧ bs.length ≤ 3000
  case neg =>
    rw [decide_eq_false hA,nW]
    (repeat' (first|refine wS ?_|refine wR ?_|refine wT ?_|(refine rg 0 (aV ?_))|(refine rg 1 (mW rfl (qW T rfl (vV (gJ rfl rfl) (mV ?_))));refine bS rfl rfl ?_ ?_<;>(intro hb;rw [hb];(try simp only [nm] at hb);try (exfalso;omega));(all_goals first|(refine gT (mW rfl (gT (qW T rfl (gT (vV (gJ rfl rfl) ?_))))))|(iterate 3 refine gF ?_));(all_goals (refine pW rfl (mV ?_)));(all_goals first|(refine gK ?_)|(refine bS rfl rfl ?_ ?_<;>(intro hb;rw [hb];(try simp only [nm] at hb);try (exfalso;omega))));(all_goals ((iterate 3 refine gF ?_);refine pV ?_)))|(refine rg 2 (aV ?_))|refine nZ ?_));all_goals first | (exfalso;omega) | exact rQ
  rw [decide_eq_true hA,pS]
  (repeat' (first|refine wS ?_|refine wB ?_|refine wK ?_|refine wU ?_|(refine rg 0 (aV ?_))|(refine rg 1 (mW rfl (qW T rfl (vV (gJ rfl rfl) (mV ?_))));refine bS rfl rfl ?_ ?_<;>(intro hb;rw [hb];(try simp only [nm] at hb);try (exfalso;omega));(all_goals (refine yN rfl (gT (qW T rfl (yV (gJ rfl rfl) (pW rfl (mV ?_)))));refine bS rfl rfl ?_ ?_<;>(intro hb;rw [hb];(try simp only [nm] at hb);try (exfalso;omega))));(all_goals (refine yN rfl (yV (kC (hrk)) (yV (eJ rfl) (pV ?_))))))|(refine rg 3 (mW rfl (qW T rfl (mV ?_))))|refine nZ ?_));all_goals try (exfalso;omega)
  refine eN (X := {k : Nat // k ≤ ls.length ∧ ∀ x,x ∈ ls.take k → LC x ks.length = true}) (fun k => [(0,.rowE (xR ks) 2),(1,.rowE (lO ls) 3),(2,.rowE (eX bs) 3),(24,.rowE (lO ls) 3),(25,.i (lO ls).length),(26,.i k.1)]) (fun _ => []) (fun k => ls.length - k.1) ⟨0,bP _,fun x hx => by simp at hx⟩ ⟨[],rfl,by (repeat (first | exact trivial | refine ⟨rfl,?_⟩)),trivial,aU,mR _⟩ ?_
  rintro ⟨k,hk1,hk2⟩;dsimp only;by_cases hlt : k < ls.length
  · have hg : (lO ls)[(k : Int).toNat]? = some [AV.i ls[k].1,AV.i ls[k].2.1,AV.b ls[k].2.2] := by simp [hlt]
    have hnx := J6 (p := (LC · ks.length)) hlt hk2;have hno := W8 (p := (LC · ks.length)) (aK hlt)
    try dsimp only at hnx hno
    generalize ls[k] = x at *;obtain ⟨x1,x2,x3⟩ := x;dsimp only at *;have b1 := B9 x1 0 ((ks.length : Int) - 1);have b2 := B9 x2 0 20000;rw [← hkl] at b1;by_cases h1 : 0 ≤ x1 ∧ x1 ≤ ((xR ks).length : Int) - 1
    · rw [decide_eq_true h1] at b1;rw [hkl] at h1;by_cases h2 : 0 ≤ x2 ∧ x2 ≤ 20000
      · rw [decide_eq_true h2] at b2;have hny := hnx (decide_eq_true ⟨h1,h2⟩)
        (repeat' (first|refine wS ?_|refine wB ?_|refine wK ?_|(refine wC rfl ?_ ?_<;>(intro hb;(try simp only [nm] at hb);try (exfalso;omega)))|(refine rg 4 (vV (bB rfl rfl) ?_))|(refine rg 5 (vV (ix T rfl (by omega) (zP _) hg) (lW T rfl (dX (dH T rfl) rfl (bH T rfl rfl rfl rfl rfl rfl (by decide) rfl ?_)))))|refine nZ ?_));all_goals try (exfalso;omega)
        refine gV 8 (cs := [.i x1,.i x2,.b x3]) rfl rfl rfl ?_
        (repeat' (first|refine wK ?_|refine wU ?_|(refine rg 6 (jQ T rfl (mW rfl (qW T rfl (vV (gH rfl rfl (by omega) (by omega)) (vV (by exact cM rfl rfl b1 rfl rfl rfl) ?_)))));refine vV (eJ rfl) (mW rfl (yP T rfl (yO T rfl (yV (by exact cM rfl rfl b2 rfl rfl rfl) ?_))));refine yV (eJ rfl) (pV ?_))|(refine rg 8 (vV (eE rfl rfl (by omega) (by omega)) (mV ?_)))|refine nZ ?_));all_goals first | (exfalso;omega) | exact ⟨⟨k + 1,hlt,hny⟩,by dsimp only;omega,[],rfl,by (repeat (first | exact trivial | refine ⟨rfl,?_⟩)),trivial,aU,mR _⟩
      · rw [decide_eq_false h2] at b2;rw [hno (decide_eq_false (fun h => h2 h.2)),nW]
        (repeat' (first|refine wS ?_|refine wB ?_|refine wK ?_|(refine wC rfl ?_ ?_<;>(intro hb;(try simp only [nm] at hb);try (exfalso;omega)))|(refine rg 4 (vV (bB rfl rfl) ?_))|(refine rg 5 (vV (ix T rfl (by omega) (zP _) hg) (lW T rfl (dX (dH T rfl) rfl (bH T rfl rfl rfl rfl rfl rfl (by decide) rfl ?_)))))|refine nZ ?_));all_goals try (exfalso;omega)
        refine gV 8 (cs := [.i x1,.i x2,.b x3]) rfl rfl rfl ?_
        (repeat' (first|refine wS ?_|refine wR ?_|refine wT ?_|(refine rg 6 (jQ T rfl (mW rfl (qW T rfl (vV (gH rfl rfl (by omega) (by omega)) (vV (by exact cM rfl rfl b1 rfl rfl rfl) ?_)))));refine vV (eJ rfl) (mW rfl (yP T rfl (yO T rfl (yV (by exact cM rfl rfl b2 rfl rfl rfl) ?_))));refine yV (eJ rfl) (pV ?_))|(refine rg 7 (aV ?_))|refine nZ ?_));all_goals first | (exfalso;omega) | exact rQ
    · rw [decide_eq_false h1] at b1;rw [hkl] at h1;rw [hno (decide_eq_false (fun h => h1 h.1)),nW]
      (repeat' (first|refine wS ?_|refine wB ?_|refine wK ?_|(refine wC rfl ?_ ?_<;>(intro hb;(try simp only [nm] at hb);try (exfalso;omega)))|(refine rg 4 (vV (bB rfl rfl) ?_))|(refine rg 5 (vV (ix T rfl (by omega) (zP _) hg) (lW T rfl (dX (dH T rfl) rfl (bH T rfl rfl rfl rfl rfl rfl (by decide) rfl ?_)))))|refine nZ ?_));all_goals try (exfalso;omega)
      refine gV 8 (cs := [.i x1,.i x2,.b x3]) rfl rfl rfl ?_
      (repeat' (first|refine wS ?_|refine wR ?_|refine wT ?_|(refine rg 6 (jQ T rfl (mW rfl (qW T rfl (vV (gH rfl rfl (by omega) (by omega)) (vV (by exact cM rfl rfl b1 rfl rfl rfl) ?_)))));refine vV (eJ rfl) (mV ?_);(iterate 4 refine gF ?_);refine pV ?_)|(refine rg 7 (aV ?_))|refine nZ ?_));all_goals first | (exfalso;omega) | exact rQ
  · obtain rfl : k = ls.length := by omega
    rw [eA] at hk2;rw [show ls.all (LC · ks.length) = true from aT.2 hk2,pS]
    (repeat' (first|refine wS ?_|refine wB ?_|refine wE ?_|(refine wC rfl ?_ ?_<;>(intro hb;(try simp only [nm] at hb);try (exfalso;omega)))|(refine rg 4 (vV (bB rfl rfl) ?_))|(refine rg 9 (mW rfl (qW T rfl (mV ?_))))|refine nZ ?_));all_goals try (exfalso;omega)
    refine eN (X := {k : Nat // k ≤ bs.length ∧ ∀ x,x ∈ bs.take k → L4 x ls.length = true}) (fun k => [(0,.rowE (xR ks) 2),(1,.rowE (lO ls) 3),(2,.rowE (eX bs) 3),(44,.rowE (eX bs) 3),(45,.i (eX bs).length),(46,.i k.1)]) (fun _ => []) (fun k => bs.length - k.1) ⟨0,bP _,fun x hx => by simp at hx⟩ ⟨[],rfl,by (repeat (first | exact trivial | refine ⟨rfl,?_⟩)),trivial,aU,mR _⟩ ?_
    rintro ⟨k,hk1,hk3⟩;dsimp only;by_cases hlt2 : k < bs.length
    · have hg : (eX bs)[(k : Int).toNat]? = some [AV.i bs[k].1,AV.i bs[k].2.1,AV.i bs[k].2.2] := by simp [hlt2]
      have hnx := J6 (p := (L4 · ls.length)) hlt2 hk3;have hno := W8 (p := (L4 · ls.length)) (aK hlt2);have b1 := DQ bs[k] ls.length (by omega)
      generalize bs[k] = x at *;obtain ⟨x1,x2,x3⟩ := x;rw [← hll] at b1;cases ho : L4 (x1,x2,x3) ls.length with
      | true =>
        rw [hll,ho] at b1;rw [← hll] at b1;have hny := hnx ho
        (repeat' (first|refine wS ?_|refine wB ?_|refine wK ?_|(refine wC rfl ?_ ?_<;>(intro hb;(try simp only [nm] at hb);try (exfalso;omega)))|(refine rg 10 (vV (bB rfl rfl) ?_))|(refine rg 11 (vV (ix T rfl (by omega) (oC _) hg) (lW T rfl (dX (dH T rfl) rfl (bH T rfl rfl rfl rfl rfl rfl (by decide) rfl ?_)))))|refine nZ ?_));all_goals try (exfalso;omega)
        refine gV 10 (cs := [.i x1,.i x2,.i x3]) rfl rfl rfl ?_
        (repeat' (first|refine wK ?_|refine wU ?_|(refine rg 12 (lW T rfl (mW rfl (qW T rfl (vV (by exact cM rfl rfl b1 rfl rfl rfl) ?_))));refine vV (eJ rfl) ?_)|(refine rg 14 (vV (eE rfl rfl (by omega) (by omega)) (mV ?_)))|refine nZ ?_));all_goals first | (exfalso;omega) | exact ⟨⟨k + 1,hlt2,hny⟩,by dsimp only;omega,[],rfl,by (repeat (first | exact trivial | refine ⟨rfl,?_⟩)),trivial,aU,mR _⟩
      | false =>
        rw [hll,ho] at b1;rw [← hll] at b1;rw [hno ho,nW]
        (repeat' (first|refine wS ?_|refine wB ?_|refine wK ?_|(refine wC rfl ?_ ?_<;>(intro hb;(try simp only [nm] at hb);try (exfalso;omega)))|(refine rg 10 (vV (bB rfl rfl) ?_))|(refine rg 11 (vV (ix T rfl (by omega) (oC _) hg) (lW T rfl (dX (dH T rfl) rfl (bH T rfl rfl rfl rfl rfl rfl (by decide) rfl ?_)))))|refine nZ ?_));all_goals try (exfalso;omega)
        refine gV 10 (cs := [.i x1,.i x2,.i x3]) rfl rfl rfl ?_
        (repeat' (first|refine wS ?_|refine wR ?_|refine wT ?_|(refine rg 12 (lW T rfl (mW rfl (qW T rfl (vV (by exact cM rfl rfl b1 rfl rfl rfl) ?_))));refine vV (eJ rfl) ?_)|(refine rg 13 (aV ?_))|refine nZ ?_));all_goals first | (exfalso;omega) | exact rQ
    · obtain rfl : k = bs.length := by omega
      rw [eA] at hk3;rw [show bs.all (L4 · ls.length) = true from aT.2 hk3,pS]
      have hu := OP bs hbs fun b hb => by
        have := hk3 b hb;unfold L4 at this;rw [decide_eq_true_eq] at this;exact this.2.2.1
      (repeat' (first|refine wS ?_|refine wR ?_|refine wE ?_|(refine wC rfl ?_ ?_<;>(intro hb;(try simp only [nm] at hb);try (exfalso;omega)))|(refine rg 10 (vV (bB rfl rfl) ?_))|(refine rg 15 (mW rfl (vV (by exact cM rfl rfl hu rfl rfl rfl) ?_));refine vV (iP rfl rfl) (aV ?_))|refine nZ ?_));all_goals first | (exfalso;omega) | exact rQ
end Go.Proofs.YtdiogjgohbbllaaGreatDoor
namespace Go.Or
open Go Go.Ab Go.Wr Go.Proofs.YtdiogjgohbbllaaGreatDoor
abbrev AX (l : List Or.Op) : List (List AV) := l.map XB
theorem DY (l : List Or.Op) : ∀ e,e ∈ AX l → e.length = 6 := by intro e he;obtain ⟨n,_,rfl⟩ := aJ.1 he;rfl
theorem P2 (l : List Or.Op) : (AX l).length = l.length := bI _
theorem LB {l : List Or.Op} {k : Nat} (h : k < l.length) : (AX l)[(k : Int).toNat]? = some (XB l[k]) := by simp [h]
def GI (l : List Or.Op) (n : Nat) : Bool := l.all (fun o => decide (o.ws.length ≤ 6)) && decide (l.length ≤ n)
end Go.Or
namespace Go.Proofs.YtdiogjgohbbllaaGreatDoor
open Go Go.Ab Go.Or Go.Wr
attribute [local irreducible] VC AW bQ bJ eQ kK
set_option maxHeartbeats 4000000
theorem QS (ks : List Kd) (ls : List Lo) (bs : List Bo) (n : Nat) (hk : ∀ k,k ∈ ks → k.1.length ≤ 30) (hkn : ks.length ≤ n) (hn : n ≤ 1000000) (hl : ls.length ≤ 9223372036854775807) (hbs : bs.length ≤ 9223372036854775807) :
    bJ Tryz.prog 42 [.rowE (xR ks) 2,.rowE (lO ls) 3,.rowE (eX bs) 3,.i n] [] (.b (decide (ls.length ≤ n ∧ bs.length ≤ n))) [] := by
  have hkl := zR ks;have hll := qZ ls;have hbl := eP bs;refine dB T Tryz.func42 rfl rfl rfl rfl ?_
  (repeat' (first|refine wS ?_|refine wB ?_|(refine rg 0 (aV ?_))|(refine rg 1 (aV ?_))|refine nZ ?_));refine eN (X := {k : Nat // k ≤ ks.length}) (fun k => [(0,.rowE (xR ks) 2),(1,.rowE (lO ls) 3),(2,.rowE (eX bs) 3),(3,.i n),(9,.i k.1)]) (fun _ => []) (fun k => ks.length - k.1) ⟨0,bP _⟩ ⟨[],rfl,by (repeat (first | exact trivial | refine ⟨rfl,?_⟩)),trivial,aU,mR _⟩ ?_
  rintro ⟨k,hk1⟩;dsimp only;by_cases hlt : k < ks.length
  · have hg := LW hlt;have hx := hk _ (aK hlt);generalize ks[k] = x at *;obtain ⟨knm,wt⟩ := x;dsimp only at *
    (repeat' (first|refine wS ?_|refine wB ?_|refine wK ?_|(refine wC rfl ?_ ?_<;>(intro hb;(try simp only [nm] at hb);try (exfalso;omega)))|(refine rg 2 (eW rfl (vV (R0 T rfl rfl) (vV (bB rfl rfl) (mV ?_))));refine bS rfl rfl ?_ ?_<;>(intro hb;rw [hb];(try simp only [nm] at hb);try (exfalso;omega));(all_goals (refine yN rfl (yN rfl (yV (iP rfl rfl) (pV ?_))))))|(refine rg 4 (eW rfl (vV (ix T rfl (by omega) (LV _) hg) (jQ T rfl (vV (mT jJ rfl) (vV (gJ rfl rfl) ?_))))))|(refine iA 3 rfl rfl rfl (by omega) (by omega) ?_)|refine nZ ?_));all_goals first | (exfalso;omega) | exact ⟨⟨k + 1,hlt⟩,by dsimp only;omega,[],rfl,by (repeat (first | exact trivial | refine ⟨rfl,?_⟩)),trivial,aU,mR _⟩
  · obtain rfl : k = ks.length := by omega
    by_cases h1 : ls.length ≤ n
    · by_cases h2 : bs.length ≤ n
      · rw [decide_eq_true ⟨h1,h2⟩]
        (repeat' (first|refine wS ?_|refine wR ?_|refine wE ?_|refine wU ?_|(refine rg 2 (eW rfl (qW T rfl (vV (bB rfl rfl) (mV ?_))));refine bS rfl rfl ?_ ?_<;>(intro hb;rw [hb];(try simp only [nm] at hb);try (exfalso;omega));(all_goals ((iterate 3 refine gF ?_);refine pV ?_)))|(refine rg 6 (mW rfl (qW T rfl (mW rfl (vV (iP rfl rfl) (mV ?_)))));refine bS rfl rfl ?_ ?_<;>(intro hb;rw [hb];(try simp only [nm] at hb);try (exfalso;omega));(all_goals (refine yN rfl (gT (qW T rfl (yN rfl (yV (iP rfl rfl) (pW rfl (mV ?_))))));refine bS rfl rfl ?_ ?_<;>(intro hb;rw [hb];(try simp only [nm] at hb);try (exfalso;omega))));(all_goals (refine yN rfl (gT (qW T rfl (yN rfl (yV (iP rfl rfl) (pW rfl (aV ?_)))))))))|refine nZ ?_));all_goals first | (exfalso;omega) | exact eG (.inl rfl) rfl (by first | rfl | (rw [decide_eq_true (by omega)];rfl))
      · rw [decide_eq_false (fun h => h2 h.2)]
        (repeat' (first|refine wS ?_|refine wR ?_|refine wE ?_|refine wU ?_|(refine rg 2 (eW rfl (qW T rfl (vV (bB rfl rfl) (mV ?_))));refine bS rfl rfl ?_ ?_<;>(intro hb;rw [hb];(try simp only [nm] at hb);try (exfalso;omega));(all_goals ((iterate 3 refine gF ?_);refine pV ?_)))|(refine rg 6 (mW rfl (qW T rfl (mW rfl (vV (iP rfl rfl) (mV ?_)))));refine bS rfl rfl ?_ ?_<;>(intro hb;rw [hb];(try simp only [nm] at hb);try (exfalso;omega));(all_goals (refine yN rfl (gT (qW T rfl (yN rfl (yV (iP rfl rfl) (pW rfl (mV ?_))))));refine bS rfl rfl ?_ ?_<;>(intro hb;rw [hb];(try simp only [nm] at hb);try (exfalso;omega))));(all_goals (refine yN rfl (gT (qW T rfl (yN rfl (yV (iP rfl rfl) (pW rfl (aV ?_)))))))))|refine nZ ?_));all_goals first | (exfalso;omega) | exact eG (.inl rfl) rfl (by first | rfl | (rw [decide_eq_false (by omega)];rfl))
    · rw [decide_eq_false (fun h => h1 h.1)]
      (repeat' (first|refine wS ?_|refine wR ?_|refine wE ?_|refine wU ?_|(refine rg 2 (eW rfl (qW T rfl (vV (bB rfl rfl) (mV ?_))));refine bS rfl rfl ?_ ?_<;>(intro hb;rw [hb];(try simp only [nm] at hb);try (exfalso;omega));(all_goals ((iterate 3 refine gF ?_);refine pV ?_)))|(refine rg 6 (mW rfl (qW T rfl (mW rfl (vV (iP rfl rfl) (mV ?_)))));refine bS rfl rfl ?_ ?_<;>(intro hb;rw [hb];(try simp only [nm] at hb);try (exfalso;omega));(all_goals (refine yN rfl (gT (qW T rfl (yN rfl (yV (iP rfl rfl) (pW rfl (mV ?_))))));refine bS rfl rfl ?_ ?_<;>(intro hb;rw [hb];(try simp only [nm] at hb);try (exfalso;omega))));(all_goals ((iterate 4 refine gF ?_);refine pW rfl (aV ?_))))|refine nZ ?_));all_goals first | (exfalso;omega) | exact eG (.inl rfl) rfl (by first | rfl | (rw [decide_eq_false (by omega)];rfl))
theorem QP (l : List Or.Op) (n : Nat) (hl : l.length ≤ 9223372036854775807) : bJ Tryz.prog 8 [.rowE (AX l) 6,.i n] [] (.b (GI l n)) [] := by
  have hll := P2 l;unfold GI;refine dB T Tryz.func8 rfl rfl rfl rfl ?_
  (repeat' (first|refine wS ?_|refine wB ?_|(refine rg 0 (aV ?_))|(refine rg 1 (aV ?_))|refine nZ ?_));refine eN (X := {k : Nat // k ≤ l.length ∧ ∀ o,o ∈ l.take k → decide (o.ws.length ≤ 6) = true}) (fun k => [(0,.rowE (AX l) 6),(1,.i n),(5,.i k.1)]) (fun _ => []) (fun k => l.length - k.1) ⟨0,bP _,fun x hx => by simp at hx⟩ ⟨[],rfl,by (repeat (first | exact trivial | refine ⟨rfl,?_⟩)),trivial,aU,mR _⟩ ?_
  rintro ⟨k,hk1,hk2⟩;dsimp only;by_cases hlt : k < l.length
  · have hg := LB hlt;have hnx := J6 (p := fun o : Or.Op => decide (o.ws.length ≤ 6)) hlt hk2;have hno := W8 (p := fun o : Or.Op => decide (o.ws.length ≤ 6)) (aK hlt);generalize l[k] = o at *;have hwl := gR o.ws;by_cases h6 : o.ws.length ≤ 6
    · have hny := hnx (decide_eq_true h6)
      (repeat' (first|refine wS ?_|refine wB ?_|refine wK ?_|(refine wC rfl ?_ ?_<;>(intro hb;(try simp only [nm] at hb);try (exfalso;omega)))|(refine rg 2 (eW rfl (qW T rfl (vV (bB rfl rfl) ?_))))|(refine rg 4 (eW rfl (vV (ix T rfl (by omega) (DY _) hg) (jQ T rfl (qW T rfl (vV (gJ rfl rfl) ?_))))))|(refine iA 3 rfl rfl rfl (by omega) (by omega) ?_)|refine nZ ?_));all_goals first | (exfalso;omega) | exact ⟨⟨k + 1,hlt,hny⟩,by dsimp only;omega,[],rfl,by (repeat (first | exact trivial | refine ⟨rfl,?_⟩)),trivial,aU,mR _⟩
    · rw [hno (decide_eq_false h6),nW]
      (repeat' (first|refine wS ?_|refine wB ?_|refine wK ?_|refine wR ?_|(refine wC rfl ?_ ?_<;>(intro hb;(try simp only [nm] at hb);try (exfalso;omega)))|(refine rg 2 (eW rfl (qW T rfl (vV (bB rfl rfl) ?_))))|(refine rg 4 (eW rfl (vV (ix T rfl (by omega) (DY _) hg) (jQ T rfl (qW T rfl (vV (gJ rfl rfl) ?_))))))|(refine rg 5 (aV ?_))|refine nZ ?_));all_goals first | (exfalso;omega) | exact rQ
  · obtain rfl : k = l.length := by omega
    rw [eA] at hk2;rw [show l.all (fun o => decide (o.ws.length ≤ 6)) = true from aT.2 hk2,pS]
    by_cases h2 : l.length ≤ n
    · rw [decide_eq_true h2]
      (repeat' (first|refine wS ?_|refine wR ?_|refine wE ?_|(refine wC rfl ?_ ?_<;>(intro hb;(try simp only [nm] at hb);try (exfalso;omega)))|(refine rg 2 (eW rfl (qW T rfl (vV (bB rfl rfl) ?_))))|(refine rg 6 (mW rfl (qW T rfl (mW rfl (vV (iP rfl rfl) (aV ?_))))))|refine nZ ?_));all_goals first | (exfalso;omega) | exact eG (.inl rfl) rfl (by first | rfl | (rw [decide_eq_true (by omega)];rfl))
    · rw [decide_eq_false h2]
      (repeat' (first|refine wS ?_|refine wR ?_|refine wE ?_|(refine wC rfl ?_ ?_<;>(intro hb;(try simp only [nm] at hb);try (exfalso;omega)))|(refine rg 2 (eW rfl (qW T rfl (vV (bB rfl rfl) ?_))))|(refine rg 6 (mW rfl (qW T rfl (mW rfl (vV (iP rfl rfl) (aV ?_))))))|refine nZ ?_));all_goals first | (exfalso;omega) | exact eG (.inl rfl) rfl (by first | rfl | (rw [decide_eq_false (by omega)];rfl))
theorem QG (ls : List Lo) (bs : List Bo) (hl : ls.length ≤ 9223372036854775807) (hbs : bs.length ≤ 9223372036854775807) : bJ Tryz.prog 9 [.rowE (lO ls) 3,.rowE (eX bs) 3] [] (.b (zU ls bs)) [] := by
  have c1 := QS k3 ls bs 20 (by decide) (by decide) (by decide) (by omega) (by omega)
  have c2 := fun (h : ls.length ≤ 20 ∧ bs.length ≤ 20) => T2 k3 ls bs WF (by omega) (by omega)
  rw [show k3.length = 3 from rfl] at c2
  unfold zU;refine dB T Tryz.func9 rfl rfl rfl rfl ?_
  (repeat' (first|refine wS ?_|(refine rg 0 (aV ?_))|(refine rg 1 (vV (by exact iH T rfl rfl rfl rfl) ?_);refine vV (by exact iH T rfl rfl rfl rfl) ?_;refine vV (by exact iH T rfl rfl rfl rfl) ?_;refine dX (by exact cK T rfl rfl (by decide) (by decide) rfl rfl rfl) rfl ?_;refine aV ?_)|refine nZ ?_));refine W4 5 (es := xR k3) rfl rfl rfl rfl ?_
  by_cases h : ls.length ≤ 20 ∧ bs.length ≤ 20
  · have c2 := c2 h;rw [decide_eq_true h] at c1 ⊢;rw [pS]
    (repeat' (first|refine wR ?_|(refine rg 2 (eW rfl (mW rfl (vV (by exact cM rfl rfl c1 rfl rfl rfl) ?_)));refine mW rfl (yN rfl (yN rfl (yN rfl (yV (by exact cM rfl rfl c2 rfl rfl rfl) ?_))));refine pW rfl (aV ?_))|refine nZ ?_));all_goals first | (exfalso;omega) | exact rQ
  · rw [decide_eq_false h] at c1 ⊢;rw [nW]
    (repeat' (first|refine wR ?_|(refine rg 2 (eW rfl (mW rfl (vV (by exact cM rfl rfl c1 rfl rfl rfl) ?_)));refine mV ?_;(iterate 4 refine gF ?_);refine pW rfl (aV ?_))|refine nZ ?_));all_goals first | (exfalso;omega) | exact rQ
end Go.Proofs.YtdiogjgohbbllaaGreatDoor
namespace Go.Or
open Go Go.Ab Go.Wr Go.Proofs.YtdiogjgohbbllaaGreatDoor
theorem rW {X : Hp} {a b : AB} : (X ++ [a]).set X.length b = X ++ [b] := by simp
end Go.Or
namespace Go.Proofs.YtdiogjgohbbllaaGreatDoor
open Go Go.Ab Go.Or Go.Wr
attribute [local irreducible] VC AW bQ bJ eQ kK
set_option maxHeartbeats 4000000
def MF (bk : Bk) (no : Int) : AV := if no < 0 ∨ (bk.length : Int) ≤ no then .tup [.agg [.nils,.i 0,.i 0],.b false] else .tup [VV (bk.getD no.toNat iD),.b true]
theorem TS {H : Hp} {pb : Nat} {bk : Bk} {A : List Nat} (hB : vE H pb bk A) (no : Int) (hl : bk.length ≤ 1000000) (hw : ∀ o,o ∈ bk → o.ws.length ≤ 1000000) :
    eQ Tryz.prog 14 [.ptr pb 0,.i no] H (fun r o => r = MF bk no ∧ ∃ Z,o = H ++ Z) := by
  obtain ⟨po,L,h,rfl,rfl⟩ := hB;rw [bI] at hl;have hbk := h.b;have ho := h.o;unfold MF;refine jM T Tryz.func14 rfl rfl rfl rfl ?_;by_cases hr : no < 0 ∨ (L.length : Int) ≤ no
  · rw [if_pos (by simpa using hr)]
    (repeat' (first|refine wS ?_|refine wR ?_|refine wT ?_|(refine wC rfl ?_ ?_<;>(intro hb;(try simp only [nm] at hb);try (exfalso;omega)))|(refine rg 0 (dX (dH T rfl) rfl (aV ?_)))|(refine rg 1 (mW rfl (vV (bB rfl rfl) (mV ?_)));refine bS rfl rfl ?_ ?_<;>(intro hb;rw [hb];(try simp only [nm] at hb);try (exfalso;omega));(all_goals first|(refine gT (mW rfl (gT (mW rfl (gT (nV ?_)))));refine gT (fW T rfl (gT (vV (by exact bC T rfl rfl (dU (bW hbk)) rfl) ?_)));refine gT (qW T rfl (gT (vV (fT rfl rfl) ?_))))|(iterate 7 refine gF ?_));(all_goals (refine pV ?_)))|(refine rg 2 (vV (by exact iH T rfl rfl rfl rfl) ?_);refine bH T rfl rfl rfl rfl rfl rfl (by decide) (oH cP rfl rfl) (aV ?_))|refine nZ ?_));all_goals first | (exfalso;omega) | exact ⟨.inl rfl,_,nG T rfl rfl rfl (dU (gI (by simp))) rfl,rfl,_,rW⟩
  · obtain ⟨e,he,hge⟩ := G8 (L := L) (i := no.toNat) (by omega)
    rw [if_neg (by simpa using hr),hge]
    have hg := xK he;have hcl := vB e.1.ws (hw _ (aJ.2 ⟨e,aH he,rfl⟩))
    (repeat' (first|refine wS ?_|refine wK ?_|(refine wC rfl ?_ ?_<;>(intro hb;(try simp only [nm] at hb);try (exfalso;omega)))|(refine rg 0 (dX (dH T rfl) rfl (aV ?_)))|(refine rg 1 (mW rfl (vV (bB rfl rfl) (mV ?_)));refine bS rfl rfl ?_ ?_<;>(intro hb;rw [hb];(try simp only [nm] at hb);try (exfalso;omega));(all_goals (refine yN rfl (yN rfl (gT (nV ?_)));refine yP T rfl (yV (by exact bC T rfl rfl (dU (bW hbk)) rfl) ?_);refine gT (qW T rfl (yV (fT rfl rfl) (pV ?_))))))|(refine rg 3 (mW rfl (nV ?_));refine fW T rfl (vV (by exact bC T rfl rfl (dU (bW hbk)) rfl) ?_);refine mW rfl (vV (by exact cI T rfl rfl rfl rfl rfl (by omega) (by omega)) ?_);refine fW T rfl (vV (by exact bC T rfl rfl (eF (bW ho) hg) rfl) ?_);refine dX (dH T rfl) rfl (bH T rfl rfl rfl rfl rfl rfl (by decide) (oH cP rfl rfl) ?_))|refine nZ ?_));all_goals try (exfalso;omega)
    rw [rW];generalize hX : H ++ [AB.cells (List.map AV.v [Value.slice none 0 0,Value.int IntKind.i64 0,Value.int IntKind.i64 0])] = X1;have hX1 : X1[H.length]? = some (.cells [.nils,.i 0,.i 0]) := by rw [← hX];exact cP
    have hlen : H.length ≠ X1.length := by rw [← hX];simp
    have hpre : ∀ c d,∃ Z,(X1 ++ [AB.cells c]).set H.length (.cells d) = H ++ Z := fun c d => ⟨[.cells d,.cells c],by rw [← hX,bF,nA _ _ (aO _)];simp⟩
    (repeat' (first|refine wS ?_|(refine rg 4 (fW T rfl (vV (by exact bC T rfl rfl (dU cP) rfl) ?_));refine vV (by exact jV rfl rfl hcl (.cons (.row _ _ _) .nil) (gR _).symm (AQ _) (R4 _)) ?_;refine fW T rfl (bH T rfl rfl rfl rfl rfl rfl (by decide) (oH cP rfl rfl) ?_))|refine nZ ?_));rw [rW]
    refine lG [(4,.ptr H.length 0),(6,.ptr X1.length 0)] (X1 ++ [.cells [.rowE (bZ e.1.ws) 3,.i e.1.due,.i e.1.st]]) (nI.of rfl ⟨rfl,rfl,trivial⟩) ?_
    (repeat' (first|refine wR ?_|(refine rg 5 (vV (by exact bC T rfl rfl (dU cP) rfl) ?_);refine bH T rfl rfl rfl rfl rfl rfl (by decide) (oH (bW hX1) rfl rfl) (aV ?_))|refine nZ ?_));all_goals exact ⟨.inl rfl,_,nG T rfl rfl rfl (dU (gI (by rw [aC,← hX];simp;omega))) rfl,rfl,hpre _ _⟩
end Go.Proofs.YtdiogjgohbbllaaGreatDoor
namespace Go.Ab
open Go
theorem uF {P : Program} {f : FuncId} {args : List AV} {res : AV} (hi : res.idf = true) (h : eQ P f args [] (fun r _ => r = res)) : bJ P f args [] res [] := by
  refine ⟨h.1,fun ρ S w vs hs ha => (h.2 ρ S w vs hs ha).mono ?_⟩;rintro e w' ⟨r,hout,rfl,y,ρ',S',rfl,h2,h3⟩;have h4 := h2.sub (L := []) (h' := []) rfl trivial aU (XD);exact ⟨y,_,S',rfl,h4,K1 _ _ _ _ hi h3⟩
end Go.Ab
namespace Go.Or
open Go Go.Ab Go.Wr Go.Proofs.YtdiogjgohbbllaaGreatDoor
abbrev QA : List Lo := [(0,9,false)]
abbrev wZ : List Bo := [(0,3,0)]
abbrev FH : List Wt := [(0,2,5)]
abbrev XZ : Bk := [⟨FH,7,0,[]⟩]
abbrev WS : Bk := [⟨FH,7,1,[[(0,2)]]⟩]
abbrev WR : Bk := [⟨FH,7,1,[[(0,2)]]⟩,⟨FH,9,0,[]⟩]
abbrev YJ : Bk := [⟨FH,7,2,[]⟩,⟨FH,9,0,[]⟩]
theorem e1 : tD [] FH 7 = ((0,0),XZ) := by decide
theorem e2 : oI QA wZ XZ 0 = (0,WS) := by decide
theorem e3 : mJ WS 0 = 2 := by decide
theorem e4 : tD WS FH 9 = ((1,0),WR) := by decide
theorem e5 : oI QA wZ WR 1 = (22,WR) := by decide
theorem e6 : lE WR 0 0 2 7 = (0,YJ) := by decide
theorem AE : wO QA wZ := I2 (by decide : zU QA wZ = true)
theorem XC : mM XZ := by have := yI (ws := FH) (due := 7) mM.nil;rw [e1] at this;exact this
theorem VU : mM WS := by have := xH (ls := QA) (sure := wZ) (no := 0) XC (by decide);rw [e2] at this;exact this
theorem YE : mM WR := by have := yI (ws := FH) (due := 9) VU;rw [e4] at this;exact this
end Go.Or
namespace Go.Proofs.YtdiogjgohbbllaaGreatDoor
open Go Go.Ab Go.Or Go.Wr
attribute [local irreducible] VC AW bQ bJ eQ kK
set_option maxHeartbeats 4000000
def Y4 (P : Program) (t e : TypeId) : Prop := P.underlying t = some (.pointer e)
theorem PE : Y4 Tryz.prog 28 93 := by unfold Y4;kernel_rfl
section
variable {P : Program} {env : cJ} {h : Hp} {d : Option Nat} {ty : TypeId} {pos : String} {af : Array Edge} {g : Option (Nat × Bool)} {t t2 te : TypeId} {x y : Operand} {u z : AV}
theorem EK (ht : Y4 P t te) (hx : evu env x = some u) (hz : u.plus 0 = some z) (hy : evu env y = some (.v (.pointer none))) : bQ P ⟨d,.binOp .eql t x y t2,ty,pos,af,g⟩ env h 0 (fun _ => .b false) (fun _ => []) := I3 ht hx hz hy
end
attribute [local irreducible] Y4
theorem RP : bJ Tryz.prog 41 [] [] (.rowE (bZ FH) 3) [] := by
  refine IX (len := 1) rfl rfl ?_;refine dB T Tryz.func41 rfl rfl rfl rfl ?_
  (repeat' (first|refine wS ?_|refine wR ?_|(refine rg 0 (aV ?_))|(refine rg 1 (vV (by exact iH T rfl rfl rfl rfl) ?_);refine dX (by exact cK T rfl rfl (by decide) (by decide) rfl rfl rfl) rfl ?_;refine aV ?_)|refine nZ ?_));all_goals exact ⟨.inl rfl,[0],_,rfl,rfl,rfl,⟨.inr rfl,trivial⟩,by decide,mR _⟩
theorem OZ : eQ Tryz.prog 7 [] [] (fun r _ => r = .b true) := by
  refine jM T Tryz.func7 rfl rfl rfl rfl ?_
  (repeat' (first|refine wS ?_|(refine rg 0 (aV ?_))|(refine rg 1 (vV (by exact iH T rfl rfl rfl rfl) ?_);refine dX (by exact cK T rfl rfl (by decide) (by decide) rfl rfl rfl) rfl ?_;refine aV ?_)|refine nZ ?_));refine W4 1 (es := lO QA) rfl rfl rfl rfl ?_
  (repeat' (first|refine wS ?_|(refine rg 2 (vV (by exact iH T rfl rfl rfl rfl) ?_);refine dX (by exact cK T rfl rfl (by decide) (by decide) rfl rfl rfl) rfl ?_;refine aV ?_)|refine nZ ?_));refine W4 2 (es := eX wZ) rfl rfl rfl rfl ?_
  (repeat' (first|refine wS ?_|refine wK ?_|refine wU ?_|(refine rg 3 (cQ [] rfl rfl LL rfl rfl (by decide) trivial (by simp) rfl ?_);refine aV ?_)|(refine rg 4 (mW rfl (vV (by exact EK PE rfl rfl rfl) ?_)))|refine nZ ?_));all_goals try (exfalso;omega)
  refine yG 2 0 4 rfl rfl (by decide) ?_
  have hB0 : vE ([.gone,.gone,.cells [.sl 3 0 0 4],.arr [] 4] : Hp) 2 [] [2,3] := ⟨3,[],⟨rfl,rfl,fun e he => (nomatch he),by decide⟩,rfl,rfl⟩
  refine lG [(1,.rowE (lO QA) 3),(2,.rowE (eX wZ) 3),(3,.ptr 2 0)] [.gone,.gone,.cells [.sl 3 0 0 4],.arr [] 4] (nI.of rfl (by repeat first|exact trivial|refine ⟨rfl,?_⟩)) ?_
  generalize ([.gone,.gone,.cells [.sl 3 0 0 4],.arr [] 4] : Hp) = X0 at *;have c1 := GR hB0 FH 7 (by decide) (by decide)
  rw [e1] at c1
  (repeat' (first|refine wS ?_|(refine rg 6 (mW rfl (vV (kC (RP)) (dQ rfl rfl c1 rfl ?_)));rintro _ X1 ⟨rfl,A1,hB1,_⟩;dsimp only [eU];refine mW rfl (xW rfl (xW rfl (mY ?_))))|refine nZ ?_));have c2 := uR hB1 XC.sz QA wZ AE 0 _ (.inl rfl)
  rw [e2] at c2
  (repeat' (first|refine wS ?_|(refine rg 7 (eW rfl (mW rfl (dQ rfl rfl c2 rfl ?_)));rintro _ X2 ⟨rfl,A2,hB2,_⟩;dsimp only [eU];refine aV ?_)|refine nZ ?_));have c3 := DS WS 0 (by decide) VU.sz.tk VU.sz.sum.bk
  rw [e3] at c3;have hv2 := hB2.view;have c4 := GR hB2 FH 9 (by decide) (by decide)
  rw [e4] at c4
  (repeat' (first|refine wS ?_|(refine rg 8 (mW rfl (vV (by exact mG rfl rfl c3 (.cons hv2 (.cons (.v _) .nil)) rfl rfl) ?_));refine aV ?_)|(refine rg 9 (mW rfl (vV (kC (RP)) (dQ rfl rfl c4 rfl ?_)));rintro _ X3 ⟨rfl,A3,hB3,_⟩;dsimp only [eU];refine mW rfl (xW rfl (xW rfl (mY ?_))))|refine nZ ?_));have c5 := uR hB3 YE.sz QA wZ AE 1 _ (.inl rfl)
  rw [e5] at c5
  (repeat' (first|refine wS ?_|(refine rg 10 (eW rfl (mW rfl (dQ rfl rfl c5 rfl ?_)));rintro _ X4 ⟨rfl,A4,hB4,_⟩;dsimp only [eU];refine aV ?_)|refine nZ ?_));have c6 := FK hB4 YE.sz 0 0 2 7
  rw [e6] at c6
  (repeat' (first|refine wS ?_|(refine rg 11 (mW rfl (dQ rfl rfl c6 rfl ?_));rintro _ X5 ⟨rfl,A5,hB5,_⟩;dsimp only [eU];refine aV ?_)|refine nZ ?_));have c7 := TS hB5 0 (by decide) (by decide)
  rw [show MF YJ 0 = .tup [VV ⟨FH,7,2,[]⟩,.b true] from rfl] at c7
  (repeat' (first|refine wS ?_|refine wR ?_|(refine rg 12 (mW rfl (dQ rfl rfl c7 rfl ?_));rintro _ X6 ⟨rfl,Z6,rfl⟩;dsimp only [eU];refine mW rfl (xW rfl (xW rfl (dX (dH T rfl) rfl (bH T rfl rfl rfl rfl rfl rfl (by decide) (oH cP rfl rfl) (aV ?_))))))|(refine rg 13 (mW rfl (vV (cT rfl rfl) (mW rfl (yN rfl (yV (cT rfl rfl) (pW rfl (mW rfl (yN rfl (yV (cT rfl rfl) ?_)))))))));refine pW rfl (mW rfl (yN rfl (yV (cT rfl rfl) (pW rfl (mW rfl (yN rfl (yV (cT rfl rfl) (pW rfl (mV ?_)))))))));refine yN rfl (yV (cT rfl rfl) (pW rfl (mW rfl (yN rfl (yV (cT rfl rfl) (pW rfl (mW rfl (yN rfl (yV (cT rfl rfl) ?_)))))))));refine pW rfl (mW rfl (yN rfl (pW rfl (mW rfl (yP T rfl (yV (by exact bC T rfl rfl (dU (gI (by simp))) rfl) ?_))))));refine yV (cT rfl rfl) (pW rfl (aV ?_)))|refine nZ ?_));all_goals first | (exfalso;omega) | exact ⟨.inl rfl,_,rfl,rfl⟩
theorem xC : bJ Tryz.prog 7 [] [] (.b true) [] := uF rfl OZ
end Go.Proofs.YtdiogjgohbbllaaGreatDoor
namespace Go.Proofs.YtdiogjgohbbllaaGreatDoor
open Go Go.Ab Go.Or Go.Wr
def sY (P : Program) (t n : Nat) : Prop := rA P t n = true
theorem SK : sY Tryz.prog 100 3 := by unfold sY;kernel_rfl
theorem WQ : sY Tryz.prog 60 3 := by unfold sY;kernel_rfl
theorem SN : sY Tryz.prog 66 2 := by unfold sY;kernel_rfl
section
variable {P : Program} {env : cJ} {h : Hp} {d : Option Nat} {ty : TypeId} {pos : String} {af : Array Edge} {g : Option (Nat × Bool)}
theorem BT {t t2 : TypeId} {x y : Operand} {a b c : Int} (ht : sY P t 3) (hx : evu env x = some (.agg [.i a,.i b,.i c])) (hy : evu env y = some (.agg [.i a,.i b,.i c])) : bQ P ⟨d,.binOp .neq t x y t2,ty,pos,af,g⟩ env h 0 (fun _ => .b false) (fun _ => []) := by
  have : bQ P ⟨d,.binOp .neq t x y t2,ty,pos,af,g⟩ env h 0 (fun _ => .b (!decide ([a,b,c] = [a,b,c]))) (fun _ => []) := xT ht hx hy rfl rfl;simpa using this
theorem MI {t t2 : TypeId} {x y : Operand} {a b : Int} (ht : sY P t 2) (hx : evu env x = some (.agg [.i a,.i b])) (hy : evu env y = some (.agg [.i a,.i b])) : bQ P ⟨d,.binOp .neq t x y t2,ty,pos,af,g⟩ env h 0 (fun _ => .b false) (fun _ => []) := by
  have : bQ P ⟨d,.binOp .neq t x y t2,ty,pos,af,g⟩ env h 0 (fun _ => .b (!decide ([a,b] = [a,b]))) (fun _ => []) := xT ht hx hy rfl rfl;simpa using this
end
attribute [local irreducible] VC AW bQ bJ eQ kK sY
set_option maxHeartbeats 4000000
theorem RO (o : Od) (hl : o.ws.length ≤ 1000000) : bJ Tryz.prog 16 [VV o,VV o] [] (.b true) [] := by
  have hll := gR o.ws;refine dB T Tryz.func16 rfl rfl rfl rfl ?_
  (repeat' (first|refine wS ?_|(refine rg 0 (dX (gL rfl rfl) rfl (dX (gL rfl rfl) rfl (aV ?_))))|refine nZ ?_));refine gV 2 (cs := [.rowE (bZ o.ws) 3,.i o.due,.i o.st]) rfl rfl rfl ?_
  refine gV 3 (cs := [.rowE (bZ o.ws) 3,.i o.due,.i o.st]) rfl rfl rfl ?_
  (repeat' (first|refine wS ?_|refine wB ?_|refine wK ?_|refine wU ?_|(refine rg 1 (jQ T rfl (jQ T rfl (vV (lX rfl rfl rfl) (mW rfl (yP T rfl (yO T rfl (yP T rfl (yO T rfl (yV (lX rfl rfl rfl) ?_)))))))));refine pW rfl (mW rfl (yP T rfl (yO T rfl (gT (qW T rfl (yP T rfl (yO T rfl (gT (qV T ?_)))))))));refine yV (lX rfl rfl rfl) (pV ?_))|(refine rg 3 (aV ?_))|refine nZ ?_));all_goals try first | (exfalso;omega;done) | exact absurd trivial hb
  refine eN (X := {k : Nat // k ≤ o.ws.length}) (fun k => [(2,.pr [.rowE (bZ o.ws) 3,.i o.due,.i o.st] 0),(3,.pr [.rowE (bZ o.ws) 3,.i o.due,.i o.st] 0),(5,.i k.1)]) (fun _ => []) (fun k => o.ws.length - k.1) ⟨0,bP _⟩ ⟨[],rfl,by (repeat (first | exact trivial | refine ⟨rfl,?_⟩)),trivial,aU,mR _⟩ ?_
  rintro ⟨k,hk⟩;dsimp only;by_cases hlt : k < o.ws.length
  · have hg := VH hlt;generalize o.ws.getD k (0,0,0) = w at *
    (repeat' (first|refine wS ?_|refine wB ?_|refine wK ?_|refine wU ?_|(refine wC rfl ?_ ?_<;>(intro hb;(try simp only [nm] at hb);try (exfalso;omega)))|(refine rg 4 (mW rfl (jQ T rfl (qW T rfl (vV (bB rfl rfl) ?_)))))|(refine eS (id := 6) 45 [[],[0],[],[0,1,2],rN 4,[],[5],[],[5,6,7],rM 5 4,rN 10] (rM 34 11) [[],[],[34,35],[],[],rM 34 5,rM 34 5,rM 34 7,rM 34 5,rM 34 5,[]] fL rfl (by decide +kernel) (dP T rfl (dO T rfl (dN rfl (dV rfl (ix T rfl (by omega) (tI _) hg) (dO T rfl (dP T rfl (dO T rfl (dN rfl (dV rfl (ix T rfl (by omega) (tI _) hg) ?_)))))))));refine dO T rfl (dV rfl (by exact BT SK rfl rfl) ?_);refine dE ?_)|(refine iA 5 rfl rfl rfl (by omega) (by omega) ?_)|refine nZ ?_));all_goals first | (exfalso;omega) | exact ⟨⟨k + 1,hlt⟩,by dsimp only;omega,[],rfl,by (repeat (first | exact trivial | refine ⟨rfl,?_⟩)),trivial,aU,mR _⟩
  · obtain rfl : k = o.ws.length := by omega
    (repeat' (first|refine wS ?_|refine wR ?_|refine wE ?_|(refine wC rfl ?_ ?_<;>(intro hb;(try simp only [nm] at hb);try (exfalso;omega)))|(refine rg 4 (mW rfl (jQ T rfl (qW T rfl (vV (bB rfl rfl) ?_)))))|(refine rg 8 (aV ?_))|refine nZ ?_));all_goals first | (exfalso;omega) | exact rQ
theorem A9 (l : List Bo) (hl : l.length ≤ 1000000) : bJ Tryz.prog 22 [.rowE (eX l) 3,.rowE (eX l) 3] [] (.b true) [] := by
  have hll := eP l;refine dB T Tryz.func22 rfl rfl rfl rfl ?_
  (repeat' (first|refine wS ?_|refine wB ?_|refine wK ?_|refine wU ?_|(refine rg 0 (aV ?_))|(refine rg 1 (mW rfl (qW T rfl (mW rfl (qW T rfl (vV (lX rfl rfl rfl) ?_))))))|(refine rg 3 (aV ?_))|refine nZ ?_));all_goals try first | (exfalso;omega;done) | exact absurd trivial hb
  refine eN (X := {k : Nat // k ≤ l.length}) (fun k => [(0,.rowE (eX l) 3),(1,.rowE (eX l) 3),(5,.i k.1)]) (fun _ => []) (fun k => l.length - k.1) ⟨0,bP _⟩ ⟨[],rfl,by (repeat (first | exact trivial | refine ⟨rfl,?_⟩)),trivial,aU,mR _⟩ ?_
  rintro ⟨k,hk⟩;dsimp only;by_cases hlt : k < l.length
  · have hg := E3 hlt;generalize l.getD k (0,0,0) = w at *
    (repeat' (first|refine wS ?_|refine wB ?_|refine wK ?_|refine wU ?_|(refine wC rfl ?_ ?_<;>(intro hb;(try simp only [nm] at hb);try (exfalso;omega)))|(refine rg 4 (eW rfl (qW T rfl (vV (bB rfl rfl) ?_))))|(refine eS (id := 6) 26 ZL (rM 17 9) ZM fL rfl (by decide +kernel) (dN rfl (dN rfl (dV rfl (ix T rfl (by omega) (oC _) hg) (dO T rfl (dN rfl (dN rfl (dV rfl (ix T rfl (by omega) (oC _) hg) (dO T rfl (dV rfl (by exact BT WQ rfl rfl) ?_)))))))));refine dE ?_)|(refine iA 5 rfl rfl rfl (by omega) (by omega) ?_)|refine nZ ?_));all_goals first | (exfalso;omega) | exact ⟨⟨k + 1,hlt⟩,by dsimp only;omega,[],rfl,by (repeat (first | exact trivial | refine ⟨rfl,?_⟩)),trivial,aU,mR _⟩
  · obtain rfl : k = l.length := by omega
    (repeat' (first|refine wS ?_|refine wR ?_|refine wE ?_|(refine wC rfl ?_ ?_<;>(intro hb;(try simp only [nm] at hb);try (exfalso;omega)))|(refine rg 4 (eW rfl (qW T rfl (vV (bB rfl rfl) ?_))))|(refine rg 8 (aV ?_))|refine nZ ?_));all_goals first | (exfalso;omega) | exact rQ
theorem AL (l : List Tk) (hl : l.length ≤ 1000000) : bJ Tryz.prog 60 [.rowE (eI l) 2,.rowE (eI l) 2] [] (.b true) [] := by
  have hll := jX l;refine dB T Tryz.func60 rfl rfl rfl rfl ?_
  (repeat' (first|refine wS ?_|refine wB ?_|refine wK ?_|refine wU ?_|(refine rg 0 (aV ?_))|(refine rg 1 (mW rfl (qW T rfl (mW rfl (qW T rfl (vV (lX rfl rfl rfl) ?_))))))|(refine rg 3 (aV ?_))|refine nZ ?_));all_goals try first | (exfalso;omega;done) | exact absurd trivial hb
  refine eN (X := {k : Nat // k ≤ l.length}) (fun k => [(0,.rowE (eI l) 2),(1,.rowE (eI l) 2),(5,.i k.1)]) (fun _ => []) (fun k => l.length - k.1) ⟨0,bP _⟩ ⟨[],rfl,by (repeat (first | exact trivial | refine ⟨rfl,?_⟩)),trivial,aU,mR _⟩ ?_
  rintro ⟨k,hk⟩;dsimp only;by_cases hlt : k < l.length
  · have hg := F0 hlt;generalize l[k] = w at *
    (repeat' (first|refine wS ?_|refine wB ?_|refine wK ?_|refine wU ?_|(refine wC rfl ?_ ?_<;>(intro hb;(try simp only [nm] at hb);try (exfalso;omega)))|(refine rg 4 (eW rfl (qW T rfl (vV (bB rfl rfl) ?_))))|(refine eS (id := 6) 26 ZL (rM 17 9) ZM fL rfl (by decide +kernel) (dN rfl (dN rfl (dV rfl (ix T rfl (by omega) (rT _) hg) (dO T rfl (dN rfl (dN rfl (dV rfl (ix T rfl (by omega) (rT _) hg) (dO T rfl (dV rfl (by exact MI SN rfl rfl) ?_)))))))));refine dE ?_)|(refine iA 5 rfl rfl rfl (by omega) (by omega) ?_)|refine nZ ?_));all_goals first | (exfalso;omega) | exact ⟨⟨k + 1,hlt⟩,by dsimp only;omega,[],rfl,by (repeat (first | exact trivial | refine ⟨rfl,?_⟩)),trivial,aU,mR _⟩
  · obtain rfl : k = l.length := by omega
    (repeat' (first|refine wS ?_|refine wR ?_|refine wE ?_|(refine wC rfl ?_ ?_<;>(intro hb;(try simp only [nm] at hb);try (exfalso;omega)))|(refine rg 4 (eW rfl (qW T rfl (vV (bB rfl rfl) ?_))))|(refine rg 8 (aV ?_))|refine nZ ?_));all_goals first | (exfalso;omega) | exact rQ
theorem AM (tk : List (List Tk)) (hl : tk.length ≤ 1000000) (h2 : ∀ l,l ∈ tk → l.length ≤ 1000000) : bJ Tryz.prog 24 [nK tk,nK tk] [] (.b true) [] := by
  have hll := nE tk;refine dB T Tryz.func24 rfl rfl rfl rfl ?_
  (repeat' (first|refine wS ?_|refine wB ?_|refine wK ?_|refine wU ?_|(refine rg 0 (aV ?_))|(refine rg 1 (mW rfl (qW T rfl (mW rfl (qW T rfl (vV (lX rfl rfl rfl) ?_))))))|(refine rg 3 (aV ?_))|refine nZ ?_));all_goals try first | (exfalso;omega;done) | exact absurd trivial hb
  refine eN (X := {k : Nat // k ≤ tk.length}) (fun k => [(0,nK tk),(1,nK tk),(5,.i k.1)]) (fun _ => []) (fun k => tk.length - k.1) ⟨0,bP _⟩ ⟨[],rfl,by (repeat (first | exact trivial | refine ⟨rfl,?_⟩)),trivial,aU,mR _⟩ ?_
  rintro ⟨k,hk⟩;dsimp only;by_cases hlt : k < tk.length
  · have hg := D5 hlt;have hs := AL tk[k] (h2 _ (aK hlt));generalize tk[k] = w at *
    (repeat' (first|refine wS ?_|refine wB ?_|refine wK ?_|refine wU ?_|(refine wC rfl ?_ ?_<;>(intro hb;(try simp only [nm] at hb);try (exfalso;omega)))|(refine rg 4 (eW rfl (qW T rfl (vV (bB rfl rfl) ?_))))|(refine eS (id := 6) 27 [[],[],[0,1],[0,1,2],[],[],[4,5],[4,5,6],rN 8,rN 9] (rM 17 10) [[],[17],[],[],rM 17 4,rM 17 5,rM 17 4,rM 17 4,[],[]] fL rfl (by decide +kernel) (dN rfl (dN rfl (dV rfl (ix T rfl (by omega) (uN _) hg) (dO T rfl (dN rfl (dN rfl (dV rfl (ix T rfl (by omega) (uN _) hg) (dO T rfl (dV rfl (kC (hs)) ?_)))))))));refine dV rfl (eJ rfl) (dE ?_))|(refine iA 5 rfl rfl rfl (by omega) (by omega) ?_)|refine nZ ?_));all_goals first | (exfalso;omega) | exact ⟨⟨k + 1,hlt⟩,by dsimp only;omega,[],rfl,by (repeat (first | exact trivial | refine ⟨rfl,?_⟩)),trivial,aU,mR _⟩
  · obtain rfl : k = tk.length := by omega
    (repeat' (first|refine wS ?_|refine wR ?_|refine wE ?_|(refine wC rfl ?_ ?_<;>(intro hb;(try simp only [nm] at hb);try (exfalso;omega)))|(refine rg 4 (eW rfl (qW T rfl (vV (bB rfl rfl) ?_))))|(refine rg 8 (aV ?_))|refine nZ ?_));all_goals first | (exfalso;omega) | exact rQ
def VW (a b : Int) : Bool := decide ((a = 0 ∧ (b = 1 ∨ b = 4)) ∨ (a = 1 ∧ (b = 2 ∨ b = 3 ∨ b = 4)))
end Go.Proofs.YtdiogjgohbbllaaGreatDoor
namespace Go.Or
open Go Go.Ab Go.Wr Go.Proofs.YtdiogjgohbbllaaGreatDoor
structure X9 (bk : Bk) (o : Or.Op) (n e : Int) (bk' : Bk) : Prop where
  le : bk.length ≤ bk'.length ∧ bk'.length ≤ bk.length + 1
  ask : o.d = 0 → e = 0 → n = bk.length
  new : ∀ i : Nat,bk.length ≤ i → i < bk'.length → (bk'.getD i iD).st = 0 ∧ o.d = 0 ∧ e = 0 ∧ (bk'.getD i iD).due = o.t
  old : ∀ i : Nat,i < bk.length → ((bk'.getD i iD).ws = (bk.getD i iD).ws ∧ (bk'.getD i iD).due = (bk.getD i iD).due) ∧ ((bk'.getD i iD).st = (bk.getD i iD).st ∨ ((i : Int) = o.no ∧ e = 0 ∧ VW (bk.getD i iD).st (bk'.getD i iD).st = true))
theorem X9.same (bk : Bk) (o : Or.Op) (n e : Int) (h : o.d = 0 → e ≠ 0) : X9 bk o n e bk :=
  ⟨⟨aO _,CU _⟩,fun h0 h1 => absurd h1 (h h0),fun i h1 h2 => by omega,fun i _ => ⟨⟨rfl,rfl⟩,.inl rfl⟩⟩
theorem MG {bk : Bk} {k i : Nat} {o : Od} (hk : k < bk.length) : (bk.set k o).getD i iD = if i = k then o else bk.getD i iD := by
  rw [aD,bT];by_cases h : k = i
  · subst h;rw [if_pos rfl,if_pos hk,if_pos rfl];rfl
  · rw [if_neg h,if_neg (Ne.symm h),← aD]
theorem X9.set {bk : Bk} {o : Or.Op} {n : Int} {o' : Od} (hd : o.d ≠ 0) (h0 : 0 ≤ o.no) (h1 : o.no < bk.length) (hw : o'.ws = (bk.getD o.no.toNat iD).ws) (hdu : o'.due = (bk.getD o.no.toNat iD).due) (hm : o'.st = (bk.getD o.no.toNat iD).st ∨ VW (bk.getD o.no.toNat iD).st o'.st = true) : X9 bk o n 0 (bk.set o.no.toNat o') := by
  refine ⟨by rw [eC];omega,fun h => absurd h hd,fun i h1 h2 => by rw [eC] at h2;omega,fun i hi => ?_⟩
  rw [MG (by omega)]
  by_cases h : i = o.no.toNat
  · subst h;rw [if_pos rfl];exact ⟨⟨hw,hdu⟩,hm.imp id fun h => ⟨by omega,rfl,h⟩⟩
  · rw [if_neg h];exact ⟨⟨rfl,rfl⟩,.inl rfl⟩
mutual
theorem EY (f : Nat → Nat) : ∀ x : AV, x.rf = true → (x.map f).rf = true
  | .v _,_ => rfl
  | .any,_ => rfl
  | .row ..,h => h
  | .mrow ..,h => h
  | .mp _,_ => rfl
  | .pr ..,h => h
  | .ptr ..,_ => rfl
  | .sl ..,_ => rfl
  | .ep ..,_ => rfl
  | .agg cs,h => sJ f cs h
  | .tup cs,h => sJ f cs h
  | .clo _ cs ds,h => by
    simp only [AV.rf,aL] at h;simp only [AV.map,AV.rf,aL];exact ⟨sJ f cs h.1,sJ f ds h.2⟩
  | .cond _ x,h => EY f x h
  | .ifc _ x,h => EY f x h
theorem sJ (f : Nat → Nat) : ∀ xs : List AV, AV.rfL xs = true → AV.rfL (AV.mapL f xs) = true
  | [],_ => rfl
  | x :: xs,h => by
    simp only [AV.rfL,aL] at h;simp only [AV.mapL,AV.rfL,aL];exact ⟨EY f x h.1,sJ f xs h.2⟩
end
theorem SS {b : AB} (f : Nat → Nat) (h : b.rf = true) : (b.map f).rf = true := by
  cases b <;> first | rfl | exact h | exact sJ f _ h | (
    simp only [AB.rf,aT] at h;simp only [AB.map,AB.rf,aT];intro x hx;obtain ⟨y,hy,rfl⟩ := aJ.1 hx
    exact sJ f y (h y hy))
end Go.Or
namespace Go.Proofs.YtdiogjgohbbllaaGreatDoor
open Go Go.Ab Go.Or Go.Wr
attribute [local irreducible] VC AW bQ bJ eQ kK
set_option maxHeartbeats 4000000
theorem Z9 {H : Hp} {k : Nat} {l : List Wt} (hk : H[k]? = some (.arr (bZ l) 3)) : iE H (.sl k 0 l.length 3) (.rowE (bZ l) 3) := by
  have hv : iE H (.sl k 0 l.length 3) (.row (bZ l).flatten l.length 3) := iE.sl hk (by rw [gR];omega) (by rw [cY,aY (by rw [gR];omega)];exact A8 H l)
  have e2 : l.length = (bZ l).length := (gR _).symm;rw [show AV.rowE (bZ l) 3 = .row (bZ l).flatten l.length 3 by rw [e2]]
  exact hv
theorem KI (o : Od) (f : Nat → Nat) : NU (.tup [VV o,.b true]) (.tup [.agg [.sl 2 0 o.ws.length 3,.i o.due,.i o.st],.b true]) [.cells [.sl 2 0 o.ws.length 3,.i o.due,.i o.st],.cells [.sl 2 0 o.ws.length 3,.i o.due,.i o.st],.arr ((bZ o.ws).map (AV.mapL f)) 3] := by
  rw [gS _ (vO _)];refine ⟨rfl,fun b hb => .inr ?_,.tup (.cons (.agg (.cons (Z9 rfl) (.cons (.v _) (.cons (.v _) .nil)))) (.cons (.v _) .nil))⟩;simp only [aQ,cG,or_false] at hb;rcases hb with rfl | rfl | rfl
  · rfl
  · rfl
  · exact AQ _
theorem XU (bk : Bk) (no : Int) (hl : bk.length ≤ 1000000) (hw : ∀ o,o ∈ bk → o.ws.length ≤ 1000000) :
    eQ Tryz.prog 14 [JF bk,.i no] [] (NU (MF bk no)) := by
  have hbl := pM bk;unfold MF;refine jM T Tryz.func14 rfl rfl rfl rfl ?_;by_cases hr : no < 0 ∨ (bk.length : Int) ≤ no
  · rw [if_pos hr]
    (repeat' (first|refine wS ?_|refine wR ?_|refine wT ?_|(refine wC rfl ?_ ?_<;>(intro hb;(try simp only [nm] at hb);try (exfalso;omega)))|(refine rg 0 (dX (dH T rfl) rfl (aV ?_)))|(refine rg 1 (mW rfl (vV (bB rfl rfl) (mV ?_)));refine bS rfl rfl ?_ ?_<;>(intro hb;rw [hb];(try simp only [nm] at hb);try (exfalso;omega));(all_goals first|(refine gT (mW rfl (gT (mW rfl (gT (nV ?_)))));refine gT (fW T rfl (gT (lW T rfl (gT (qW T rfl (gT (vV (fT rfl rfl) ?_))))))))|(iterate 7 refine gF ?_));(all_goals (refine pV ?_)))|(refine rg 2 (vV (by exact iH T rfl rfl rfl rfl) ?_);refine bH T rfl rfl rfl rfl rfl rfl (by decide) rfl (aV ?_))|refine nZ ?_));all_goals first | (exfalso;omega) | exact ⟨.inl rfl,_,rfl,rfl,fun b hb => .inr (by simp at hb;subst hb;rfl),.tup (.cons (.agg (.cons (.v _) (.cons (.v _) (.cons (.v _) .nil)))) (.cons (.v _) .nil))⟩
  · rw [if_neg hr];have hlt : no.toNat < bk.length := by omega
    have hg : (wJ bk)[no.toNat]? = some (HW (bk.getD no.toNat iD)) := by
      rw [aD,aR,aB hlt];rfl
    have hcl := vB (bk.getD no.toNat iD).ws (by
      rw [aD,aB hlt];exact hw _ (aK hlt))
    generalize bk.getD no.toNat iD = o at *
    (repeat' (first|refine wS ?_|refine wK ?_|refine wR ?_|(refine wC rfl ?_ ?_<;>(intro hb;(try simp only [nm] at hb);try (exfalso;omega)))|(refine rg 0 (dX (dH T rfl) rfl (aV ?_)))|(refine rg 1 (mW rfl (vV (bB rfl rfl) (mV ?_)));refine bS rfl rfl ?_ ?_<;>(intro hb;rw [hb];(try simp only [nm] at hb);try (exfalso;omega));(all_goals (refine yN rfl (yN rfl (gT (nV ?_)));refine yP T rfl (yO T rfl (gT (qW T rfl (yV (fT rfl rfl) (pV ?_))))))))|(refine rg 3 (mW rfl (nV ?_));refine jQ T rfl (mW rfl (vV (ix T rfl (by omega) (yD bk) hg) (jQ T rfl (dX (dH T rfl) rfl (bH T rfl rfl rfl rfl rfl rfl (by decide) rfl ?_))))))|(refine rg 4 (jQ T rfl (dX (by exact qB rfl rfl hcl (.inr ⟨rfl,rfl,by simp⟩)) rfl ?_));refine fW T rfl (bH T rfl rfl rfl rfl rfl rfl (by decide) rfl ?_))|(refine rg 5 (lW T rfl (bH T rfl rfl rfl rfl rfl rfl (by decide) rfl (aV ?_))))|refine nZ ?_));all_goals try (exfalso;omega)
    all_goals refine ⟨.inl rfl,_,rfl,?_⟩
    all_goals exact KI o _
theorem AC (bk : Bk) (no : Int) (hl : bk.length ≤ 1000000) (h1 : ∀ o,o ∈ bk → o.tk.length ≤ 1000000 ∧ ∀ l,l ∈ o.tk → l.length ≤ 1000000) :
    eQ Tryz.prog 15 [JF bk,.i no] [] (NU (nK (if no < 0 ∨ (bk.length : Int) ≤ no then [] else (bk.getD no.toNat iD).tk))) := by
  have hbl := pM bk;refine jM T Tryz.func15 rfl rfl rfl rfl ?_;by_cases hr : no < 0 ∨ (bk.length : Int) ≤ no
  · rw [if_pos hr]
    (repeat' (first|refine wS ?_|refine wR ?_|refine wT ?_|(refine wC rfl ?_ ?_<;>(intro hb;(try simp only [nm] at hb);try (exfalso;omega)))|(refine rg 0 (aV ?_))|(refine rg 1 (mW rfl (vV (bB rfl rfl) (mV ?_)));refine bS rfl rfl ?_ ?_<;>(intro hb;rw [hb];(try simp only [nm] at hb);try (exfalso;omega));(all_goals first|(refine gT (mW rfl (gT (mW rfl (gT (nV ?_)))));refine gT (fW T rfl (gT (lW T rfl (gT (qW T rfl (gT (vV (fT rfl rfl) ?_))))))))|(iterate 7 refine gF ?_));(all_goals (refine pV ?_)))|(refine rg 2 (aV ?_))|refine nZ ?_));all_goals first | (exfalso;omega) | exact ⟨.inl rfl,_,rfl,rfl,fun b hb => (nomatch hb),iE.nils 1⟩
  · rw [if_neg hr];have hlt : no.toNat < bk.length := by omega
    have hg : (wJ bk)[no.toNat]? = some (HW (bk.getD no.toNat iD)) := by
      rw [aD,aR,aB hlt];rfl
    have hm : bk.getD no.toNat iD ∈ bk := by
      rw [aD,aB hlt];exact aK hlt
    have hct := CF (bk.getD no.toNat iD).tk (h1 _ hm).1 (h1 _ hm).2;generalize bk.getD no.toNat iD = o at *
    (repeat' (first|refine wS ?_|refine wK ?_|refine wR ?_|(refine wC rfl ?_ ?_<;>(intro hb;(try simp only [nm] at hb);try (exfalso;omega)))|(refine rg 0 (aV ?_))|(refine rg 1 (mW rfl (vV (bB rfl rfl) (mV ?_)));refine bS rfl rfl ?_ ?_<;>(intro hb;rw [hb];(try simp only [nm] at hb);try (exfalso;omega));(all_goals (refine yN rfl (yN rfl (gT (nV ?_)));refine yP T rfl (yO T rfl (gT (qW T rfl (yV (fT rfl rfl) (pV ?_))))))))|(refine rg 3 (mW rfl (nV ?_));refine jQ T rfl (mW rfl (vV (ix T rfl (by omega) (yD bk) hg) (MM T ?_)));refine M0 rfl rfl hct (.cons (.row _ _ _) .nil) (fun _ _ hΦ=>hΦ.rf) rfl ?_;rintro res hout hΦ;have hΨ := hΦ.nest [];have hrf := hΦ.rf;obtain ⟨_,rfl,_⟩ := hΦ;dsimp only [eU];refine aV ?_)|refine nZ ?_));all_goals first | (exfalso;omega) | (obtain ⟨B,hn,hB⟩ := hΨ;exact ⟨.inl rfl,_,rfl,rfl,fun b hb => by
      obtain ⟨c,hc,rfl⟩ := aJ.1 (by simpa using hb)
      exact .inr (SS _ (hrf.2 c hc)),hn.view⟩)
end Go.Proofs.YtdiogjgohbbllaaGreatDoor
namespace Go.Proofs.YtdiogjgohbbllaaGreatDoor
open Go Go.Ab Go.Or Go.Wr
attribute [local irreducible] VC AW bQ bJ eQ kK Y4 sY OF
set_option maxHeartbeats 4000000
end Go.Proofs.YtdiogjgohbbllaaGreatDoor
namespace Go.Or
theorem DJ {t : Tk} {l : List Tk} (h : ∀ u,u ∈ t :: l → 1 ≤ u.2) : t.2 ≤ dZ (t :: l) t.1 := by
  have := oM (l := l) (b := t.1) fun u hu => h u (aF _ hu);simp only [dZ,if_true];omega
structure NT (o0 : Od) (m : Nat) (o : Od) : Prop where
  due : o.due = o0.due
  some : m < o0.tk.flatten.length → o.st = 1 ∧ o.tk.flatten = o0.tk.flatten.drop m
  none : o0.tk.flatten.length ≤ m → o.st = 2
theorem NT.start {o : Od} (h : mZ o) (h1 : o.st = 1) : NT o 0 o :=
  ⟨rfl,fun _ => ⟨h1,rfl⟩,fun h2 => absurd (bM (by omega)) (h.ne h1)⟩
def sT : List Tk → List Bo → Option (List Bo)
  | [],bs => some bs
  | t :: l,bs => if cnt bs t.1 < t.2 then none else sT l (oR bs t.1 t.2)
abbrev WA (bs : List Bo) (l : List Tk) : List Bo := bs.mapIdx fun i b => (b.1,b.2.1 - dZ l i,b.2.2)
theorem EW {a b : List Bo} (hl : a.length = b.length) (h : ∀ i : Nat,i < a.length → a.getD i (0,0,0) = b.getD i (0,0,0)) : a = b := by
  refine List.ext_getElem hl fun i h1 h2 => ?_
  have := h i h1;rw [aD,aD,aB h1,aB h2] at this;exact this
theorem mF {f : Nat → Bo → Bo} {bs : List Bo} {i : Nat} (h : i < bs.length) : (bs.mapIdx f).getD i (0,0,0) = f i (bs.getD i (0,0,0)) := by
  rw [aD,eR,aD,aB h];rfl
theorem AU : ∀ (l : List Tk) (bs : List Bo), (∀ t, t ∈ l → (0 ≤ t.1 ∧ t.1 < bs.length) ∧ 1 ≤ t.2) → (∀ b : Int, 0 ≤ b → dZ l b ≤ cnt bs b) → sT l bs = some (WA bs l)
  | [],bs,_,_ => by
    unfold sT;refine congrArg some (EW (by simp) fun i hi => ?_)
    rw [mF hi];simp only [dZ,Int.sub_zero]
  | t :: l,bs,h,hs => by
    obtain ⟨⟨h1,h2⟩,h3⟩ := h t aP;have hf := hs t.1 h1;have hp := DJ (t := t) (l := l) fun u hu => (h u hu).2;unfold sT
    rw [if_neg (by omega),AU l (oR bs t.1 t.2) (fun u hu => by rw [lQ];exact h u (aF _ hu)) fun b hb => by
      rw [rD h1 h2 hb];have := hs b hb;simp only [dZ] at this;split
      · rename_i e;subst e;rw [if_pos rfl] at this;omega
      · rename_i e;rw [if_neg (fun x => e x.symm)] at this;omega]
    refine congrArg some (EW (by simp [lQ]) fun i hi => ?_)
    rw [List.length_mapIdx,lQ] at hi;rw [mF (by rw [lQ];exact hi),mF hi]
    have hg := I8 (n := t.2) h1 h2 (j := (i : Int)) (by omega)
    rw [bK] at hg;rw [hg];simp only [dZ];by_cases e : (i : Int) = t.1
    · rw [if_pos e,if_pos e.symm];have ei : t.1.toNat = i := by omega
      unfold cnt;rw [ei];refine Prod.ext rfl (Prod.ext ?_ rfl);dsimp only;omega
    · rw [if_neg e,if_neg (fun x => e x.symm)];refine Prod.ext rfl (Prod.ext ?_ rfl);dsimp only;omega
theorem uW {bk : Bk} {o : Od} : (bk ++ [o]).getD bk.length iD = o := by
  rw [aD,aE (aO _),eH];rfl
theorem AH {bk : Bk} {o p : Od} : (bk ++ [o]).set bk.length p = bk ++ [p] := by
  rw [nA _ _ (aO _),eH];rfl
theorem wG {bk : Bk} {o : Od} {ss : List Int} : jH (bk ++ [o]) bk.length ss = if o.st ∈ ss then 0 else 7 := by
  unfold jH;rw [if_neg (by rw [aC,bE];omega),bK,uW]
theorem FJ (ls : List Lo) (sure : List Bo) (bk : Bk) (ws : List Wt) (due : Int) : oI ls sure (bk ++ [⟨ws, due, 0, []⟩]) bk.length =
    if (lM ls (eT (bk ++ [⟨ws,due,0,[]⟩]) sure) ws).1 ≠ 0 then ((lM ls (eT (bk ++ [⟨ws,due,0,[]⟩]) sure) ws).1,bk ++ [⟨ws,due,0,[]⟩]) else (0,bk ++ [⟨ws,due,1,(lM ls (eT (bk ++ [⟨ws,due,0,[]⟩]) sure) ws).2⟩]) := by
  have e : jH (bk ++ [⟨ws,due,0,[]⟩]) bk.length [0] = 0 := by rw [wG];exact if_pos (by simp)
  unfold oI;rw [e,if_neg (by simp),bK,uW,AH]
theorem KD {ls : List Lo} {sure : List Bo} {bk : Bk} {ws : List Wt} {due : Int} {tk : List (List Tk)} (h : Y5 ls (eT (bk ++ [⟨ws,due,0,[]⟩]) sure) ws tk) :
    sT tk.flatten (eT (bk ++ [⟨ws,due,0,[]⟩]) sure) = some (eT (bk ++ [⟨ws,due,1,tk⟩]) sure) := by
  have hm : ∀ t,t ∈ tk.flatten → (0 ≤ t.1 ∧ t.1 < (eT (bk ++ [⟨ws,due,0,[]⟩]) sure).length) ∧ 1 ≤ t.2 := fun t ht => by
    obtain ⟨l,hl,htl⟩ := jO.1 ht;obtain ⟨i,hi⟩ := bR.1 hl;have hil := (aA.1 hi).1;rw [h.len] at hil;have := (h.at_ i _ l (aB hil) hi).2 t htl;exact ⟨this.1,this.2.1⟩
  have hc := h.cnt;rw [AU _ _ hm hc];refine congrArg some (EW (by simp [gX]) fun i hi => ?_)
  rw [List.length_mapIdx,gX] at hi;rw [mF (by rw [gX];exact hi)]
  have hci := hc i (by omega)
  rw [uP (by omega) (by omega),oV] at hci
  unfold eT;rw [mF hi,mF hi,oV,oV];unfold cnt at hci;rw [bK] at hci;dsimp only at hci ⊢;simp only [K6,dZ] at hci ⊢;refine Prod.ext rfl (Prod.ext ?_ rfl);dsimp only;have h0 := oM (l := tk.flatten) (b := (i : Int)) fun t ht => (hm t ht).2;omega
theorem KC (bk : Bk) (ws : List Wt) (due : Int) (tk : List (List Tk)) : pH (bk ++ [⟨ws,due,1,tk⟩]) bk.length 4 [0,1] = (0,bk ++ [⟨ws,due,4,[]⟩]) := by
  have e : jH (bk ++ [⟨ws,due,1,tk⟩]) bk.length [0,1] = 0 := by rw [wG];exact if_pos (by simp)
  unfold pH;rw [e,if_neg (by simp),bK,uW,AH]
theorem OX (bk : Bk) (ws : List Wt) (due : Int) : pH (bk ++ [⟨ws,due,4,[]⟩]) bk.length 4 [0,1] = (7,bk ++ [⟨ws,due,4,[]⟩]) := by
  have e : jH (bk ++ [⟨ws,due,4,[]⟩]) bk.length [0,1] = 7 := by rw [wG];exact if_neg (by simp)
  unfold pH;rw [e,if_pos (by decide)]
theorem OY (bk : Bk) (ws : List Wt) (due : Int) (sure : List Bo) : eT (bk ++ [⟨ws,due,4,[]⟩]) sure = eT (bk ++ [⟨ws,due,0,[]⟩]) sure := by
  unfold eT;simp only [oV]
end Go.Or
namespace Go.Or
open Go Go.Ab Go.Wr Go.Proofs.YtdiogjgohbbllaaGreatDoor
theorem JW {ts : List Tk} {q : Tk → Bool} (h : ∀ t,t ∈ ts → q t = false) : ts.any q = false := by
  rw [nC];intro t ht;rw [h t ht];simp
end Go.Or
namespace Go.Proofs.YtdiogjgohbbllaaGreatDoor
open Go Go.Ab Go.Or Go.Wr
attribute [local irreducible] VC AW bQ bJ eQ kK Y4 sY OF
set_option maxHeartbeats 4000000
theorem PH (ls : List Lo) (bs : List Bo) (ws : List Wt) (hl : ls.length ≤ 1000000) (hb : bs.length ≤ 20) (hk : K5 ls bs) (hw : ws.length ≤ 1000) (hc : ∀ b : Int,0 ≤ b → 0 ≤ cnt bs b ∧ cnt bs b ≤ 20000) :
    eQ Tryz.prog 20 [.rowE (lO ls) 3,.rowE (eX bs) 3,.rowE (bZ ws) 3] [] (NU (.tup [nK (lM ls bs ws).2,.i (lM ls bs ws).1])) :=
  (KS ls bs ws hl hb hk hw hc).mono fun r o h => by
    obtain ⟨x,A,rfl,h2,h3,h4⟩ := h;exact ⟨h3,h4,.tup (.cons h2.view (.cons (.v _) .nil))⟩
theorem PJ (bs : List Bo) (t : Tk) (hb : bs.length ≤ 1000000) : bJ Tryz.prog 57 [.agg [.i t.1,.i t.2],.pr [.rowE (eX bs) 3] 0] [] (.b (!decide (0 ≤ t.1 ∧ t.1 ≤ (bs.length : Int) - 1))) [] := by
  have hbl := eP bs;have hc := B9 t.1 0 ((bs.length : Int) - 1);refine dB T Tryz.func57 rfl rfl rfl rfl ?_
  (repeat' (first|refine wS ?_|(refine rg 0 (dX (gL rfl rfl) rfl (aV ?_)))|refine nZ ?_));refine gV 2 (cs := [.i t.1,.i t.2]) rfl rfl rfl ?_
  have e : ((eX bs).length : Int) - 1 = (bs.length : Int) - 1 := by rw [hbl]
  rw [← e] at hc ⊢
  (repeat' (first|refine wR ?_|(refine rg 1 (jQ T rfl (lW T rfl (qW T rfl (vV (gH rfl rfl (by omega) (by omega)) (vV (kC (hc)) (vV (eJ rfl) (aV ?_))))))))|refine nZ ?_));all_goals first | (exfalso;omega) | exact rQ
theorem PI (t : Tk) : bJ Tryz.prog 59 [.agg [.i t.1,.i t.2]] [] (.b (decide (t.2 < 1))) [] := by
  refine dB T Tryz.func59 rfl rfl rfl rfl ?_
  (repeat' (first|refine wS ?_|(refine rg 0 (dX (gL rfl rfl) rfl (aV ?_)))|refine nZ ?_));refine gV 1 (cs := [.i t.1,.i t.2]) rfl rfl rfl ?_
  (repeat' (first|refine wR ?_|(refine rg 1 (jQ T rfl (vV (bB rfl rfl) (aV ?_))))|refine nZ ?_));all_goals first | (exfalso;omega) | exact rQ
structure GW (out : List Bo) (ts : List Tk) (n : Nat) (k : Nat) (left : List Bo) : Prop where
  kl : k ≤ ts.length
  eq : sT (ts.drop k) left = some out
  len : left.length = n
  cn : ∀ b : Int,0 ≤ b → 0 ≤ cnt left b ∧ cnt left b ≤ 20000
theorem GW.next {out : List Bo} {ts : List Tk} {n k : Nat} {left : List Bo} (h : GW out ts n k left) (hk : k < ts.length) (hr : 0 ≤ ts[k].1 ∧ ts[k].1 < n) (h1 : 1 ≤ ts[k].2) : ts[k].2 ≤ cnt left ts[k].1 ∧ GW out ts n (k + 1) (oR left ts[k].1 ts[k].2) := by
  have he := h.eq;rw [aS hk,sT] at he;split at he
  · cases he
  · rename_i hc;have hl := h.len;refine ⟨by omega,hk,he,by rw [lQ];exact h.len,fun b hb => ?_⟩
    rw [rD hr.1 (by omega) hb]
    have := h.cn b hb;have := h.cn _ hr.1;split <;> omega
theorem SY (bs out : List Bo) (ts : List Tk) (hb : bs.length ≤ 1000000) (ht : ts.length ≤ 1000000) (hr : ∀ t,t ∈ ts → (0 ≤ t.1 ∧ t.1 < bs.length) ∧ 1 ≤ t.2) (hc : ∀ b : Int,0 ≤ b → 0 ≤ cnt bs b ∧ cnt bs b ≤ 20000) (hp : sT ts bs = some out) :
    bJ Tryz.prog 23 [.rowE (eX bs) 3,.rowE (eI ts) 2] [] (.tup [.rowE (eX out) 3,.i 0]) [] := by
  have hbl := eP bs;have htl := jX ts;have h1 := GF (l := ts) (F := 57) (caps := [.pr [.rowE (eX bs) 3] 0]) (p := fun t => !decide (0 ≤ t.1 ∧ t.1 ≤ (bs.length : Int) - 1)) ht rfl fun t _ => PJ bs t hb
  have h2 := GF (l := ts) (F := 59) (caps := []) (p := fun t => decide (t.2 < 1)) ht rfl fun t _ => PI t
  rw [JW fun t h => by have := hr t h;simp;omega] at h1
  rw [JW fun t h => by have := hr t h;simp;omega] at h2
  have hcl := R5 bs hb;refine FA (res := .tup [.sl 0 0 bs.length 3,.i 0]) (hout := [.arr (eX out) 3]) ?_ (.tup (.cons ?_ (.cons (.v _) .nil)))
  · refine dB T Tryz.func23 rfl rfl rfl rfl ?_
    (repeat' (first|refine wS ?_|(refine rg 0 (dX (gL rfl rfl) rfl (mY ?_)))|refine nZ ?_));refine gV 2 (cs := [.rowE (eX bs) 3]) rfl rfl rfl ?_
    (repeat' (first|refine wS ?_|refine wB ?_|refine wK ?_|refine wU ?_|(refine rg 1 (mW rfl (vV (by exact uC rfl rfl) ?_));refine vV (kC (h1)) ?_)|(refine rg 3 (mW rfl (vV (kC (h2)) ?_)))|(refine rg 5 (lW T rfl (dX (by exact qB rfl rfl hcl (.inr ⟨rfl,rfl,by simp⟩)) rfl ?_));refine aV ?_)|(refine rg 6 (mW rfl (qW T rfl (mV ?_))))|refine nZ ?_));refine eN (X := {x : Nat × List Bo // GW out ts bs.length x.1 x.2}) (fun x => [(6,.sl 0 0 bs.length 3),(16,.rowE (eI ts) 2),(17,.i (eI ts).length),(18,.i (x.1.1 : Int))]) (fun x => [.arr (eX x.1.2) 3]) (fun x => ts.length - x.1.1) ⟨(0,bs),bP _,hp,rfl,hc⟩ ⟨[1],rfl,by (repeat (first | exact trivial | refine ⟨rfl,?_⟩)),⟨.inr (cN rfl (gS _ (pL _)) (pL _)),trivial⟩,by decide,mR _⟩ ?_
    rintro ⟨⟨k,left⟩,hI⟩;dsimp only at hI ⊢;by_cases hk : k < ts.length
    · have hm := hr _ (aK hk);obtain ⟨n1,n2⟩ := hI.next hk hm.1 hm.2
      have hgk := F0 hk;have hlen := hI.len;have hcn := hI.cn _ hm.1.1;obtain ⟨⟨i0,i1⟩,i2⟩ := hm;generalize ts[k] = t at *;have hbo := E2 (bs := left) i0 (by omega)
      have hds := GJ (bs := left) (j := t.1) (n := t.2);have hll := eP left
      (repeat' (first|refine wS ?_|refine wB ?_|refine wK ?_|(refine wC rfl ?_ ?_<;>(intro hb;(try simp only [nm] at hb);try (exfalso;omega)))|(refine rg 7 (vV (bB rfl rfl) ?_))|(refine rg 8 (vV (ix T rfl (by omega) (rT _) hgk) (lW T rfl (dX (dH T rfl) rfl (bH T rfl rfl rfl rfl rfl rfl (by decide) rfl ?_)))))|refine nZ ?_));all_goals try (exfalso;omega)
      refine gV 8 (cs := [.i t.1,.i t.2]) rfl rfl rfl ?_
      (repeat' (first|refine wK ?_|refine wU ?_|(refine eS (id := 9) 44 [[],[0],[],[],[3],[2,3,4],rM 2 4,rM 2 5,rN 8] (rM 22 9) [[],[],[22,23],[22,23,24],[22,23,24],[22,23],[22,23],[22,23],[]] fL rfl (by decide +kernel) (dP T rfl (dO T rfl (dN rfl (dP T rfl (dO T rfl (dV rfl (by exact cI T rfl rfl rfl rfl rfl (by omega) (by omega)) ?_))))));refine dP T rfl (dV rfl (by exact bC T rfl rfl (eF rfl hbo) rfl) ?_);refine dV rfl (jF rfl rfl (by omega)) (dE ?_))|(refine yH (id := 11) 11 44 [[],[],[1],[0,1,2],rN 4,rN 5,[],[6],rN 8,rN 9,rN 10,rN 11] [[],[],[1],[0,1,2],rN 4,rN 5,[],[6],rN 8,rN 9,rN 10] (rM 31 11) [[],[31],[31],[],[],[],rM 31 6,rM 31 6,[],[],[]] fL rfl (by decide +kernel) (by decide +kernel) ?_;(dsimp only [List.take,List.drop]);refine dN rfl (dP T rfl (dO T rfl (dV rfl (by exact cI T rfl rfl rfl rfl rfl (by omega) (by omega)) ?_)));refine dP T rfl (dV rfl (by exact bC T rfl rfl (eF rfl hbo) rfl) ?_);refine dP T rfl (dO T rfl (dV rfl (gH rfl rfl (by omega) (by omega)) (dV rfl (by exact cI T rfl rfl rfl rfl rfl (by omega) (by omega)) ?_)));refine dP T rfl (dE ?_);refine qG ?_;refine bH T rfl rfl rfl rfl rfl rfl (by decide) (oZ rfl hbo rfl rfl) ?_)|(refine rg 12 (vV (eE rfl rfl (by omega) (by omega)) (mV ?_)))|refine nZ ?_));all_goals try (exfalso;omega)
      all_goals exact ⟨⟨(k + 1,oR left t.1 t.2),n2⟩,by dsimp only;omega,⟨[0],rfl,by (repeat (first | exact trivial | refine ⟨rfl,?_⟩)),⟨.inr (cN rfl hds (pL _)),trivial⟩,by decide,mR _⟩⟩
    · have he := hI.eq;rw [cW (by omega),sT] at he
      obtain rfl := Option.some.inj he
      (repeat' (first|refine wS ?_|refine wR ?_|refine wE ?_|(refine wC rfl ?_ ?_<;>(intro hb;(try simp only [nm] at hb);try (exfalso;omega)))|(refine rg 7 (vV (bB rfl rfl) ?_))|(refine rg 13 (mW rfl (mY ?_)))|refine nZ ?_));all_goals first | (exfalso;omega) | exact ⟨.inl rfl,[0],_,rfl,rfl,rfl,⟨.inr (cN rfl rfl (pL _)),trivial⟩,by decide,mR _⟩
  · have hlen : out.length = bs.length := by
      have : ∀ (l : List Tk) (x y : List Bo),sT l x = some y → y.length = x.length := fun l => by
        induction l with
        | nil => intro x y h;simp only [sT,Option.some.injEq] at h;rw [h]
        | cons t l ih =>
          intro x y h;rw [sT] at h;split at h
          · cases h
          · rw [ih _ _ h,lQ]
      exact this _ _ _ hp
    exact rR rfl (by rw [eP];omega) (V8 _)
end Go.Proofs.YtdiogjgohbbllaaGreatDoor
