/-
  Texts of the logic and of the layer,in one module (part 6).
-/
import Derived.Test.YtdiogjgohbbllaaGreatDoorJ5
set_option linter.unusedVariables false
set_option linter.unusedSimpArgs false
set_option linter.unnecessarySimpa false
namespace Go.Or
open Go Go.Ab Go.Wr Go.Proofs.YtdiogjgohbbllaaGreatDoor
abbrev rB (s : St) : AB := .cells [.s (s.getD []),.b s.isNone]
def BS (s : St) (r : AV) (o : Hp) : Prop := match kM s with
  | none => ∃ ws due st x,r = .tup [.agg [.rowE (bF ws) 3,.i due,.i st,x],.b false] ∧ (x = .nils ∨ ∃ p m,x = .sl p 0 m 1)
  | some (od,s') => ∃ x B,r = .tup [.agg (iV od x),.b true] ∧ o[0]? = some (rB s') ∧ jZ o x od.tk B ∧ ∀ k,k ∈ B → 1 ≤ k
theorem BS.fail {s : St} {o : Hp} (h : kM s = none) (ws : List Wt) (due st : Int) (x : AV) (hx : x = .nils ∨ ∃ p m,x = .sl p 0 m 1) : BS s (.tup [.agg [.rowE (bF ws) 3,.i due,.i st,x],.b false]) o := by
  unfold BS;rw [h];exact ⟨ws,due,st,x,rfl,hx⟩
theorem BS.ok {s s' : St} {o : Hp} {od : Od} {x : AV} {B : List Nat} (h : kM s = some (od,s')) (h0 : o[0]? = some (rB s')) (hn : jZ o x od.tk B) (hB : ∀ k,k ∈ B → 1 ≤ k) : BS s (.tup [.agg (iV od x),.b true]) o := by
  unfold BS;rw [h];exact ⟨x,B,rfl,h0,hn,hB⟩
theorem lU {s : St} : ((dC s).2.getD []).length ≤ (s.getD []).length := oJ s 59 (-9223372036854775808)
theorem AK {s : St} (h : 0 < (s.getD []).length) : ((dC s).2.getD []).length + 1 ≤ (s.getD []).length := by
  cases s with
  | none => simp at h
  | some r =>
    rcases KY r with h1 | ⟨r',h1,hr⟩
    · rw [h1];rw [nG] at h ⊢;simp;omega
    · rw [h1];rw [nG,nG];omega
theorem RI (l : List Wt) (w : Wt) : ((bF l).drop 0).take l.length ++ [[AV.i w.1,AV.i w.2.1,AV.i w.2.2]] = bF (l ++ [w]) := by
  rw [dI,bA (by simp)];simp
theorem DL (L : List Nat) : ∀ i : Nat,i < 1 → (0 :: L)[i]? = some i := fun i hi => by
  obtain rfl : i = 0 := by omega
  rfl
theorem nB {P : Program} (T : lK P) {env : cI} {h : Hp} {a t : Nat} {r : List ResultVar} {p : AV} {i : TI} {xs cs : List AV} {off : Nat} {z : AV} (h1 : Ab.look env a = some p) (h2 : T.ti t = some i) (h3 : pI T env h r = some xs) (h4 : fS h p = some (cs,off)) (h5 : lH i cs off = some z) : pI T env h (.cell a t :: r) = some (z :: xs) := by
  simp only [pI,h1,h2,h3,h4,h5]
structure RM (s : St) (C1 C : AB) (N : List (Nat × List Tk)) (p : Nat) (E : List Nat) (X : Hp) : Prop where
  h0 : X[0]? = some (rB s)
  h1 : X[1]? = some C1
  h2 : X[2]? = some C
  hp : X[p]? = some (.arr (kN N) 1)
  hn : pQ X N
  nd : (0 :: 1 :: 2 :: p :: (E ++ N.map (·.1))).Nodup
theorem RM.lt {s : St} {C1 C : AB} {N : List (Nat × List Tk)} {p : Nat} {E : List Nat} {X : Hp} (h : RM s C1 C N p E X) : 2 < X.length ∧ p < X.length ∧ ∀ k,k ∈ N.map (·.1) → k < X.length :=
  ⟨(aA.1 h.h2).1,(aA.1 h.hp).1,fun k hk => by
    obtain ⟨e,he,rfl⟩ := aJ.1 hk
    exact (aA.1 (h.hn e he)).1⟩
theorem RM.fr {s s' : St} {C1 C : AB} {N : List (Nat × List Tk)} {p : Nat} {E E' : List Nat} {X X' : Hp} (h : RM s C1 C N p E X) (h0 : X'[0]? = some (rB s')) (hk : ∀ k,k < X.length → k ≠ 0 → k ∉ E → X'[k]? = X[k]?) (hE : ∀ k,k ∈ E' → k ∈ E ∨ X.length ≤ k) (hEn : E'.Nodup) : RM s' C1 C N p E' X' := by
  have hnd := h.nd;obtain ⟨l1,l2,l3⟩ := h.lt;simp only [aN,aQ,not_or,bD,dW] at hnd;obtain ⟨⟨a1,a2,a3,a4⟩,⟨b2,b3,b4⟩,⟨c1,c2⟩,⟨d1,d2⟩,e1,e2,e3⟩ := hnd;refine ⟨h0,(hk 1 (by omega) (by decide) b4.1).trans h.h1,(hk 2 l1 (by decide) c2.1).trans h.h2,(hk p l2 (fun e => a3 e.symm) d1).trans h.hp,fun e he => ?_,?_⟩
  · have hm : e.1 ∈ N.map (·.1) := aJ.2 ⟨e,he,rfl⟩;exact (hk e.1 (l3 _ hm) (fun e0 => a4.2 (e0 ▸ hm)) (fun hE => e3 _ hE _ hm rfl)).trans (h.hn e he)
  · simp only [aN,aQ,not_or,bD,dW];have hx : ∀ k,k < X.length → k ∉ E → k ∉ E' := fun k hk hn hm => by
      rcases hE k hm with h1 | h1
      · exact hn h1
      · omega
    exact ⟨⟨a1,a2,a3,hx 0 (by omega) a4.1,a4.2⟩,⟨b2,b3,hx 1 (by omega) b4.1,b4.2⟩,⟨c1,hx 2 l1 c2.1,c2.2⟩,⟨hx p l2 d1,d2⟩,hEn,e2,fun a ha b hb e => hx a (e ▸ l3 b hb) (fun h1 => e3 a h1 b hb e) ha⟩
theorem RM.own {s : St} {C1 C : AB} {N : List (Nat × List Tk)} {p q : Nat} {X : Hp} (h : RM s C1 C N p [q] X) : q ≠ 0 ∧ q ≠ 1 ∧ q ≠ 2 ∧ q ≠ p := by
  have hnd := h.nd;simp only [aN,aQ,not_or,bD,bZ,not_false_eq_true,and_true] at hnd;obtain ⟨⟨a1,a2,a3,a4⟩,⟨b2,b3,b4⟩,⟨c1,c2⟩,⟨d1,d2⟩,_⟩ := hnd;exact ⟨fun e => a4.1 e.symm,fun e => b4.1 e.symm,fun e => c2.1 e.symm,fun e => d1 e.symm⟩
theorem wM {X : Hp} {a : AB} {k : Nat} : (X.set k a).length = X.length := eE
theorem RM.add {s : St} {C1 C C' : AB} {N : List (Nat × List Tk)} {p q : Nat} {X : Hp} {l : List Tk} (h : RM s C1 C N p [q] X) (hq : X[q]? = some (.arr (eO l) 2)) (Z : AB) :
    RM s C1 C' (N ++ [(q,l)]) (X ++ [Z]).length [] ((((X ++ [Z]).set p AB.gone) ++ [AB.arr (kN (N ++ [(q,l)])) 1]).set 2 C') := by
  have hnd := h.nd;obtain ⟨l1,l2,l3⟩ := h.lt;have hql := (aA.1 hq).1;simp only [aN,aQ,not_or,bD,dW,bZ,not_false_eq_true,and_true] at hnd;obtain ⟨⟨a1,a2,a3,a4⟩,⟨b2,b3,b4⟩,⟨c1,c2⟩,⟨d1,d2⟩,e1,e2,e3⟩ := hnd;have hz : (X ++ [Z]).length = X.length + 1 := by simp
  have keep : ∀ {k : Nat} {b : AB},X[k]? = some b → k ≠ p → k ≠ 2 → ((((X ++ [Z]).set p AB.gone) ++ [AB.arr (kN (N ++ [(q,l)])) 1]).set 2 C')[k]? = some b := fun hk h1 h2 => fQ h2 (bO (fQ h1 (bO hk)));refine ⟨keep h.h0 a3 (by decide),keep h.h1 b3 (by decide),?_,?_,fun e he => ?_,?_⟩
  · exact fU (by simp;omega)
  · refine fQ (by omega) ?_
    have e1 : ((X ++ [Z]).set p AB.gone).length = (X ++ [Z]).length := by simp
    rw [← e1];exact cK
  · rcases bD.1 he with he | he
    · have hm : e.1 ∈ N.map (·.1) := aJ.2 ⟨e,he,rfl⟩;exact keep (h.hn e he) (fun e0 => d2 (e0 ▸ hm)) (fun e0 => c2.2 (e0 ▸ hm))
    · rw [bE.1 he];exact keep hq (fun e0 => d1 e0.symm) (fun e0 => c2.1 e0.symm)
  · rw [cQ,hz];simp only [aN,aQ,not_or,bD,dW,List.map_cons,List.map_nil,List.nil_append,bZ,or_false,bB,not_false_eq_true,and_true];have hx : ∀ k,k ∈ N.map (·.1) → k ≠ X.length + 1 := fun k hk => by have := l3 k hk;omega
    refine ⟨⟨a1,a2,by omega,a4.2,a4.1⟩,⟨b2,by omega,b4.2,b4.1⟩,⟨by omega,c2.2,c2.1⟩,⟨fun hm => hx _ hm rfl,by omega⟩,e2,trivial,fun a ha b hb (e : a = b) => e3 b (.inl hb) a ha e.symm⟩
abbrev B6 (N : List (Nat × List Tk)) : Bool := N.any fun e => !e.2.isEmpty
theorem IB {N : List (Nat × List Tk)} {q : Nat} {l : List Tk} : B6 (N ++ [(q,l)]) = (B6 N || !l.isEmpty) := by simp [B6]
theorem MT {N : List (Nat × List Tk)} : (N.map (·.2)).all (·.isEmpty) = !B6 N := by
  unfold B6;rw [List.not_any_eq_all_not,YB];congr 1;funext e;simp
theorem JC {l : List Tk} {t : Tk} : iJ (l ++ [t]) = iJ l + t.2 := by unfold iJ;simp
theorem OS {t : Tk} (h : ¬ BL t) : CG t := by unfold BL at h;unfold CG;omega
theorem OB {l : List Tk} (h : ∀ t,t ∈ l → CG t) : 0 ≤ iJ l ∧ iJ l ≤ 20000 * l.length := by
  induction l with
  | nil => decide
  | cons t l ih =>
    have h1 := ih fun t ht => h t (aF _ ht);have h2 := h t aP;unfold CG at h2;unfold iJ at *;rw [List.map_cons,jK,List.length_cons];omega
end Go.Or
namespace Go.Proofs.YtdiogjgohbbllaaGreatDoor
open Go Go.Ab Go.Or Go.Wr
attribute [local irreducible] VC AW bQ bN eT lF
set_option maxHeartbeats 4000000
theorem Q9 (s : St) (hl : (s.getD []).length ≤ 1000000000) : bN Tryz.prog 114 [.ptr 0 0] (EU s) (.i (dC s).1) (EU (dC s).2 ++ [.gone]) := I2 (AJ s hl)
theorem CZ (ws : List Wt) (due : Int) : bN Tryz.prog 48 [.rowE (bF ws) 3,.i due] [] (.b (kE ws due)) [] := by
  by_cases hl : ws.length ≤ 20
  · exact L4 ws due (by omega)
  · have hll := gR ws;have h0 : kE ws due = false := by unfold kE;simp;omega
    rw [h0];refine dR T Tryz.func48 rfl rfl rfl rfl ?_
    (repeat' (first|refine wS ?_|refine wR ?_|refine wT ?_|(refine rg 0 (aV ?_))|(refine rg 1 (mW rfl (qW T rfl (vV (bC rfl rfl) (mV ?_))));refine bM rfl rfl ?_ ?_<;>(intro hb;rw [hb];(try simp only [nm] at hb);try (exfalso;omega));(all_goals (refine yN rfl (gT (qW T rfl (yV (fY rfl rfl) (pW rfl (mV ?_)))));refine bM rfl rfl ?_ ?_<;>(intro hb;rw [hb];(try simp only [nm] at hb);try (exfalso;omega))));(all_goals ((iterate 2 refine gF ?_);refine pW rfl (mV ?_);(iterate 2 refine gF ?_);refine pV ?_)))|(refine rg 2 (aV ?_))|refine nZ ?_));all_goals first | (exfalso;omega) | exact rQ
theorem JO (s0 : St) (hl : (s0.getD []).length ≤ 1000000000) : eT Tryz.prog 84 [.ptr 0 0] (EU s0) (BS s0) := by
  have c0 := KG s0 hl;have hb0 := oJ s0 59 0;have hn0 := R5 s0 59;have hn1 := (qK s0 59 0).2;have hhd : kG s0 = jM (jD s0 59 0).1.toNat (jD s0 59 0).2 := rfl;have hro : kM s0 = kM s0 := rfl
  conv at hro => rhs;unfold kM
  refine jN T Tryz.func84 rfl rfl rfl rfl ?_;generalize (jD s0 59 0).1 = n at *;generalize (jD s0 59 0).2 = s2 at *
  (repeat' (first|refine wS ?_|refine wB ?_|(refine rg 0 (dX (cX T rfl) rfl (aV ?_)))|(refine rg 1 (dX (cX T rfl) rfl ?_))|(refine rg 2 (mW rfl (cT [0] rfl rfl c0 rfl rfl (by decide) ⟨.inr rfl,trivial⟩ (by simp) rfl ?_));refine aV ?_)|refine nZ ?_));refine oF [(0,.ptr 0 0),(2,.ptr 1 0),(4,.ptr 2 0),(5,.i n)] [rB s2,.cells [.nils,.i 0,.i 0,.nils],.cells [.nils,.i 0,.i 0,.nils]] ⟨[0,1,2],rfl,(by repeat first|exact trivial|refine ⟨rfl,?_⟩),⟨.inr rfl,.inr rfl,.inr rfl,trivial⟩,by decide,DL _⟩ ?_
  refine xR 2 0 3 rfl rfl (by decide) ?_
  refine eZ (X := {p : Nat × St × List Wt // jM n.toNat s2 = (p.2.2 ++ (jM p.1 p.2.1).1,(jM p.1 p.2.1).2) ∧ (p.1 : Int) + p.2.2.length = n ∧ p.2.2.length + (p.2.1.getD []).length ≤ (s2.getD []).length}) (fun p => [(0,.ptr 0 0),(2,.ptr 1 0),(4,.ptr 2 0),(5,.i p.1.1)]) (fun p => [rB p.1.2.1,.cells [.nils,.i 0,.i 0,.nils],.cells [.sl 3 0 p.1.2.2.length 3,.i 0,.i 0,.nils],.arr (bF p.1.2.2) 3]) (fun p => p.1.1) ⟨(n.toNat,s2,[]),rfl,by dsimp only;simp;omega,by dsimp only;simp⟩ ⟨[0,1,2,3],rfl,⟨rfl,rfl,rfl,congrArg (fun z : Int => some (AV.i z)) (by dsimp only;omega),trivial⟩,⟨.inr rfl,.inr rfl,.inr rfl,.inr rfl,trivial⟩,by decide,DL _⟩ ?_
  rintro ⟨⟨k,s,L⟩,h1,h2,h3⟩;dsimp only at h1 h2 h3 ⊢;rw [h1] at hhd;have cL := DM s;have hll := gR L;by_cases hk : 0 < k ∧ 0 < (s.getD []).length
  · obtain ⟨k,rfl⟩ : ∃ k',k = k' + 1 := ⟨k - 1,by omega⟩
    have hz := hk.2;have d1 := Q9 s (by omega)
    have e1 := AK hz;have d2 := Q9 (dC s).2 (by omega)
    have e2 := lU (s := (dC s).2);have d3 := Q9 (dC (dC s).2).2 (by omega)
    have e3 := lU (s := (dC (dC s).2).2);have hrec : jM (k + 1) s = (((dC s).1,(dC (dC s).2).1,(dC (dC (dC s).2).2).1) :: (jM k (dC (dC (dC s).2).2).2).1,(jM k (dC (dC (dC s).2).2).2).2) := by rw [jM,if_neg (by omega)]
    rw [hrec] at h1;clear hhd hro hrec;generalize (dC s).1 = wk at *;generalize (dC s).2 = t1 at *;generalize (dC t1).1 = wc at *;generalize (dC t1).2 = t2 at *;generalize (dC t2).1 = wu at *;generalize (dC t2).2 = t3 at *
    (repeat' (first|refine wS ?_|refine wB ?_|refine wK ?_|refine wT ?_|(refine rg 3 (mW rfl (vV (iR rfl rfl (by omega)) (mW rfl (yN rfl (gT (cT [0] rfl rfl cL rfl rfl (by decide) ⟨.inr rfl,trivial⟩ (by simp) rfl ?_))))));refine yV (iR rfl rfl (by omega)) (pV ?_))|refine nZ ?_));all_goals try (exfalso;omega)
    refine oF [(0,.ptr 0 0),(2,.ptr 1 0),(4,.ptr 2 0),(5,.i (k + 1 : Nat))] [rB s,.cells [.nils,.i 0,.i 0,.nils],.cells [.sl 3 0 L.length 3,.i 0,.i 0,.nils],.arr (bF L) 3] ⟨[0,1,2,3],rfl,(by repeat first|exact trivial|refine ⟨rfl,?_⟩),⟨.inr rfl,.inr rfl,.inr rfl,.inr (cS rfl rfl (uZ _)),trivial⟩,by decide,DL _⟩ ?_
    (repeat' (first|(refine qR (id := 5) 143 [[],[0],[0,1],[],[3],[],[3,4,5],[],rM 3 5,rM 3 6,rM 3 7,rN 11,rN 12,rN 13,rN 14] (rM 24 14) [[],[],[],[24,25,26],[24,25,26],rM 24 5,[24,25,26],rM 24 7,[24,25,26],[24,25,26],[24,25,26],[],[],[],[]] [(4,0),(6,0),(8,0),(11,3),(14,2)] fH rfl (by decide +kernel) (eS rfl rfl rfl rfl (by exact eB T rfl rfl rfl) ?_);refine eS rfl rfl rfl rfl (by exact eB T rfl rfl rfl) ?_;refine eS rfl rfl rfl rfl (by exact aY T rfl rfl rfl rfl) ?_;refine eS rfl rfl rfl rfl (by exact eP rfl) ?_;refine vQ rfl rfl rfl rfl (aU rfl) (by exact xS [0] rfl rfl (d1) (fun _=>rfl) rfl (by decide) (fun _=>⟨.inr rfl,trivial⟩) (by simp) rfl (fun _ _=>rfl) rfl rfl) ?_;refine eS rfl rfl rfl rfl (by exact eP rfl) ?_;refine vQ rfl rfl rfl rfl (aU rfl) (by exact xS [0] rfl rfl (d2) (fun _=>rfl) rfl (by decide) (fun _=>⟨.inr rfl,trivial⟩) (by simp) rfl (fun _ _=>rfl) rfl rfl) ?_;refine eS rfl rfl rfl rfl (by exact eP rfl) ?_;refine vQ rfl rfl rfl rfl (aU rfl) (by exact xS [0] rfl rfl (d3) (fun _=>rfl) rfl (by decide) (fun _=>⟨.inr rfl,trivial⟩) (by simp) rfl (fun _ _=>rfl) rfl rfl) ?_;refine eS rfl rfl rfl rfl (by exact iG T rfl rfl rfl rfl) ?_;refine LW rfl rfl rfl rfl (by exact cJ T rfl rfl (by decide) (by decide) rfl rfl rfl) rfl ?_;refine vQ rfl rfl rfl rfl (aU rfl) (by exact zM T rfl rfl rfl rfl rfl rfl (by simp) (kV.whole rfl rfl) rfl (by simp;omega) (by simp;omega)) ?_;refine eS rfl rfl rfl rfl (by exact eB T rfl rfl rfl) ?_;refine eS rfl rfl rfl rfl (by exact eB T rfl rfl rfl) ?_;refine DZ rfl rfl rfl rfl (aU rfl) T rfl rfl rfl rfl rfl rfl (by decide) rfl ?_;refine xJ rfl rfl rfl (by exact rfl) ?_)|(refine rg 4 (mW rfl (vV (gO rfl rfl (by omega) (by omega)) (aV ?_))))|refine nZ ?_));all_goals try (exfalso;omega)
    have hln : (L ++ [(wk,wc,wu)]).length = L.length + 1 := by simp
    all_goals exact ⟨⟨(k,t3,L ++ [(wk,wc,wu)]),by dsimp only;rw [h1];simp,by dsimp only;rw [hln];omega,by dsimp only;rw [hln];omega⟩,I7 k,[0,1,2,8],rfl,⟨rfl,rfl,rfl,congrArg (fun z : Int => some (AV.i z)) (by dsimp only;omega),trivial⟩,⟨.inr rfl,.inr rfl,.inr (congrArg (fun n : Nat => some (AB.cells [.sl 8 0 n 3,.i 0,.i 0,.nils])) hln).symm,.inr (cS rfl (RI L (wk,wc,wu)) (uZ _)),trivial⟩,by decide,DL _⟩
  · have hrec : jM k s = ([],s) := by
      cases k with
      | zero => rfl
      | succ k => rw [jM,if_pos (by omega)]
    rw [hrec,List.append_nil] at hhd;rw [hhd] at hro;dsimp only at hro;have d1 := AJ s (by omega)
    have e1 := lU (s := s);have d2 := AJ (dC s).2 (by omega)
    have e2 := lU (s := (dC s).2);have i1 := qK s 59 (-9223372036854775808);have i2 := qK (dC s).2 59 (-9223372036854775808);change _ ≤ (dC s).1 ∧ (dC s).1 ≤ _ at i1;change _ ≤ (dC (dC s).2).1 ∧ (dC (dC s).2).1 ≤ _ at i2;generalize (dC s).1 = due at *;generalize (dC s).2 = t1 at *;generalize (dC t1).1 = st at *;generalize (dC t1).2 = t2 at *;apply xQ (I := Unit) (fun _ => [(0,.ptr 0 0),(2,.ptr 1 0),(4,.ptr 2 0)]) (fun _ => [rB s,.cells [.nils,.i 0,.i 0,.nils],.cells [.sl 3 0 L.length 3,.i 0,.i 0,.nils],.arr (bF L) 3]) (fun _ => True)
    case h1 =>
      intro rest;by_cases hk0 : 0 < k
      · (repeat' (first|refine wS ?_|refine wE ?_|refine mS rfl ?_|(refine rg 3 (mW rfl (vV (iR rfl rfl (by omega)) (mW rfl (yN rfl (gT (cT [0] rfl rfl cL rfl rfl (by decide) ⟨.inr rfl,trivial⟩ (by simp) rfl ?_))))));refine yV (jU rfl rfl (by omega)) (pV ?_))|(refine nZ ?_)));all_goals try (exfalso;omega)
        all_goals exact oF [(0,.ptr 0 0),(2,.ptr 1 0),(4,.ptr 2 0)] [rB s,.cells [.nils,.i 0,.i 0,.nils],.cells [.sl 3 0 L.length 3,.i 0,.i 0,.nils],.arr (bF L) 3] ⟨[0,1,2,3],rfl,(by repeat first|exact trivial|refine ⟨rfl,?_⟩),⟨.inr rfl,.inr rfl,.inr rfl,.inr (cS rfl rfl (uZ _)),trivial⟩,by decide,DL _⟩ (rest () trivial)
      · (repeat' (first|refine wS ?_|refine wE ?_|refine mS rfl ?_|(refine rg 3 (mW rfl (vV (jU rfl rfl (by omega)) (mV ?_)));(iterate 3 refine gF ?_);refine pV ?_)|(refine nZ ?_)));all_goals try (exfalso;omega)
        all_goals exact oF [(0,.ptr 0 0),(2,.ptr 1 0),(4,.ptr 2 0)] [rB s,.cells [.nils,.i 0,.i 0,.nils],.cells [.sl 3 0 L.length 3,.i 0,.i 0,.nils],.arr (bF L) 3] ⟨[0,1,2,3],rfl,(by repeat first|exact trivial|refine ⟨rfl,?_⟩),⟨.inr rfl,.inr rfl,.inr rfl,.inr (cS rfl rfl (uZ _)),trivial⟩,by decide,DL _⟩ (rest () trivial)
    rintro _ _
    (repeat' (first|refine wS ?_|(refine rg 6 (mW rfl (cT [0] rfl rfl d1 rfl rfl (by decide) ⟨.inr rfl,trivial⟩ (by simp) rfl ?_));refine mW rfl (cT [0] rfl rfl d2 rfl rfl (by decide) ⟨.inr rfl,trivial⟩ (by simp) rfl ?_);refine fW T rfl (fW T rfl (bH T rfl rfl rfl rfl rfl rfl (by decide) rfl (fW T rfl (fW T rfl (bH T rfl rfl rfl rfl rfl rfl (by decide) rfl ?_))))))|refine nZ ?_));refine MI 2 0 rfl rfl rfl hll.symm (P1 L) ?_
    have hL2 : L.length ≤ 1000000000 := by omega
    have hrw := CZ L due;refine oF [(0,.ptr 0 0),(2,.ptr 1 0),(4,.ptr 2 0)] [rB t2,.cells [.nils,.i 0,.i 0,.nils],.cells [.rowE (bF L) 3,.i due,.i st,.nils]] ⟨[0,1,2],rfl,(by repeat first|exact trivial|refine ⟨rfl,?_⟩),⟨.inr rfl,.inr rfl,.inr rfl,trivial⟩,by decide,DL _⟩ ?_
    have hsl : (t2.getD []).length ≤ 1000000000 := by omega
    clear hhd h1 h2 h3 d1 d2 cL c0;cases hr : kE L due with
    | false =>
      rw [hr] at hrw hro;rw [if_pos (.inl rfl)] at hro
      (repeat' (first|refine wS ?_|refine wR ?_|refine wT ?_|(refine rg 7 (fW T rfl (jP T rfl (fW T rfl (jP T rfl (vV (kC (hrw)) (vV (eF rfl) (mV ?_)))))));(iterate 4 refine gF ?_);refine pW rfl (mV ?_);(iterate 4 refine gF ?_);refine pV ?_)|(refine rg 8 (lW T rfl (bH T rfl rfl rfl rfl rfl rfl (by decide) rfl (aV ?_))))|refine nZ ?_));all_goals first | (exfalso;omega) | exact ⟨.inl rfl,_,rfl,BS.fail hro L due st .nils (.inl rfl)⟩
    | true =>
      rw [hr] at hrw hro;by_cases hst : st < 0 ∨ 5 ≤ st
      · rw [if_pos (.inr hst)] at hro
        (repeat' (first|refine wS ?_|refine wR ?_|refine wT ?_|(refine wC rfl ?_ ?_<;>(intro hb;(try simp only [nm] at hb);try (exfalso;omega)))|(refine rg 7 (fW T rfl (jP T rfl (fW T rfl (jP T rfl (vV (kC (hrw)) (vV (eF rfl) (mW rfl (yP T rfl (yF T ?_)))))))));refine yO T rfl (yV (bC rfl rfl) (pW rfl (mV ?_)));refine bM rfl rfl ?_ ?_<;>(intro hb;rw [hb];(try simp only [nm] at hb);try (exfalso;omega));(all_goals first|(refine gT (fW T rfl (gT (fW T rfl (gT (lW T rfl (gT (vV (fZ rfl rfl) ?_))))))))|(iterate 4 refine gF ?_));(all_goals (refine pV ?_)))|(refine rg 8 (lW T rfl (bH T rfl rfl rfl rfl rfl rfl (by decide) rfl (aV ?_))))|refine nZ ?_));all_goals first | (exfalso;omega) | exact ⟨.inl rfl,_,rfl,BS.fail hro L due st .nils (.inl rfl)⟩
      rw [if_neg (by simpa using hst)] at hro
      by_cases h1 : st = 1
      · subst h1;rw [if_neg (by decide)] at hro
        have hr20 := (oP hr).1
        (repeat' (first|refine wS ?_|refine wB ?_|refine wK ?_|refine wU ?_|(refine rg 7 (fW T rfl (jP T rfl (fW T rfl (jP T rfl (vV (kC (hrw)) (vV (eF rfl) (mW rfl (yP T rfl (yF T ?_)))))))));refine yO T rfl (yV (bC rfl rfl) (pW rfl (mW rfl (yP T rfl (yP T rfl (yO T rfl (yV (fZ rfl rfl) (pV ?_)))))))))|(refine rg 9 (fW T rfl (jP T rfl (vV (nQ rfl rfl) ?_))))|(refine rg 11 (aV ?_))|(refine rg 12 (fW T rfl (jP T rfl (qW T rfl (mV ?_)))))|refine nZ ?_));all_goals try (exfalso;omega)
        refine xR 2 3 1 rfl rfl (by decide) ?_
        refine kR (X := {x : Nat × St × List (Nat × List Tk) × Nat × Hp // x.1 ≤ L.length ∧ x.2.2.1.length = x.1 ∧ jX L t2 = ((jX (L.drop x.1) x.2.1).map fun y => (x.2.2.1.map (·.2) ++ y.1, y.2)) ∧ (x.2.1.getD []).length ≤ 1000000000 ∧ RM x.2.1 (.cells [.nils, .i 0, .i 0, .nils]) (.cells [.rowE (bF L) 3, .i due, .i 1, .sl x.2.2.2.1 0 x.2.2.1.length 1]) x.2.2.1 x.2.2.2.1 [] x.2.2.2.2}) (fun x => [(0, .ptr 0 0), (2, .ptr 1 0), (4, .ptr 2 0), (6, .b (B6 x.1.2.2.1)), (74, .rowE (bF L) 3), (75, .i (bF L).length), (76, .i (x.1.1 : Int))]) (fun x => x.1.2.2.2.2) (fun x => L.length - x.1.1)
          ⟨(0,t2,[],3,[rB t2,.cells [.nils,.i 0,.i 0,.nils],.cells [.rowE (bF L) 3,.i due,.i 1,.sl 3 0 0 1],.arr [] 1]),⟨bS _,rfl,by dsimp only;rw [dI];cases jX L t2 <;> rfl,hsl,⟨rfl,rfl,rfl,rfl,fun e he => (nomatch he),by simp⟩⟩⟩ (lM.of rfl (by repeat first|exact trivial|refine ⟨rfl,?_⟩)) ?_
        rintro ⟨⟨i,s,N,p,X⟩,o1,o2,o3,o4,o5⟩;dsimp only at o1 o2 o3 o4 o5 ⊢;subst o2;by_cases hil : N.length < L.length
        · have hg := EN hil;have hdr : jX (L.drop N.length) s = jX (L[N.length] :: L.drop (N.length + 1)) s := by rw [← aS hil]
          rw [jX] at hdr;have c0 := KG s o4;have hb0 := oJ s 59 0;have hn0 := R5 s 59;have hn1 := (qK s 59 0).2;generalize (jD s 59 0).1 = n at *;generalize (jD s 59 0).2 = s3 at *;have hwb := (oP hr).2.2 _ (aK hil);generalize L[N.length] = w at *;obtain ⟨wk,wc,wu⟩ := w;dsimp only at hg hdr hwb
          (repeat' (first|refine wS ?_|refine wB ?_|refine wK ?_|(refine wC rfl ?_ ?_<;>(intro hb;(try simp only [nm] at hb);try (exfalso;omega)))|(refine rg 13 (vV (bC rfl rfl) ?_))|(refine rg 14 (vV (ix T rfl (by omega) (sW L) hg) (lW T rfl (dX (cX T rfl) rfl (bH T rfl rfl rfl rfl rfl rfl (by decide) (lN cK rfl rfl) ?_)))))|refine nZ ?_));all_goals try (exfalso;omega)
          refine iM 8 (cs := [.i wk,.i wc,.i wu]) rfl (fU (by simp)) rfl ?_
          rw [yJ]
          (repeat' (first|refine wS ?_|(refine rg 15 (aV ?_))|refine nZ ?_));refine U4 9 2 rfl (by decide) ?_
          have hr1 : RM s (.cells [.nils,.i 0,.i 0,.nils]) (.cells [.rowE (bF L) 3,.i due,.i 1,.sl p 0 N.length 1]) N p [(X ++ [AB.gone]).length] (X ++ [AB.gone] ++ [AB.arr [] 2]) := o5.fr (bO (bO o5.h0)) (fun k hk _ _ => by rw [gN (by rw [aC];omega),gN hk]) (fun k hk => .inr (by rw [bE.1 hk,aC];omega)) (by simp)
          have hq1 : (X ++ [AB.gone] ++ [AB.arr [] 2])[(X ++ [AB.gone]).length]? = some (.arr (eO []) 2) := cK;generalize (X ++ [AB.gone]).length = q at *;generalize X ++ [AB.gone] ++ [AB.arr [] 2] = X1 at *
          (repeat' (first|refine wS ?_|refine wB ?_|(refine rg 16 (aV ?_))|(refine rg 17 (mW rfl (cT [0] rfl rfl c0 rfl rfl (aN.2 ⟨bZ,bB⟩) ⟨.inr hr1.h0,trivial⟩ (by simp) rfl ?_));refine aV ?_)|refine nZ ?_));have hz0 : 0 < X1.length := (aA.1 hr1.h0).1
          have hq0 := hr1.own.1;have hr2 : RM s3 (.cells [.nils,.i 0,.i 0,.nils]) (.cells [.rowE (bF L) 3,.i due,.i 1,.sl p 0 N.length 1]) N p [q] (X1.set 0 (rB s3)) := hr1.fr (fU hz0) (fun k hk h0 _ => eK h0) (fun k hk => .inl hk) (by simp)
          have hq2 : (X1.set 0 (rB s3))[q]? = some (.arr (eO []) 2) := fQ hq0 hq1;refine kR (X := {y : Nat × St × List Tk × Nat × Hp // kL n.toNat s3 = ((kL y.1 y.2.1).map fun z => (y.2.2.1 ++ z.1, z.2)) ∧ (y.1 : Int) + y.2.2.1.length = n ∧ y.2.2.1.length + (y.2.1.getD []).length ≤ (s3.getD []).length ∧ (∀ t, t ∈ y.2.2.1 → CG t) ∧ RM y.2.1 (.cells [.nils, .i 0, .i 0, .nils]) (.cells [.rowE (bF L) 3, .i due, .i 1, .sl p 0 N.length 1]) N p [y.2.2.2.1] y.2.2.2.2 ∧ y.2.2.2.2[y.2.2.2.1]? = some (.arr (eO y.2.2.1) 2)}) (fun y => [(0, .ptr 0 0), (2, .ptr 1 0), (4, .ptr 2 0), (6, .b (B6 N)), (8, .pr [.i wk, .i wc, .i wu] 0), (9, .sl y.1.2.2.2.1 0 y.1.2.2.1.length 2), (10, .i (iJ y.1.2.2.1)), (11, .i (y.1.1 : Int)), (74, .rowE (bF L) 3), (75, .i (bF L).length), (76, .i (N.length : Int))]) (fun y => y.1.2.2.2.2) (fun y => y.1.1)
            ⟨(n.toNat,s3,[],q,X1.set 0 (rB s3)),by dsimp only;cases kL n.toNat s3 <;> rfl,by dsimp only;simp;omega,by dsimp only;simp,fun t ht => (nomatch ht),hr2,hq2⟩ (lM.of (List.append_nil _) ⟨rfl,rfl,rfl,rfl,rfl,rfl,rfl,congrArg (fun z : Int => some (AV.i z)) (by dsimp only;omega),rfl,rfl,rfl,trivial⟩) ?_
          clear hr1 hq1 hr2 hq2 hg o5;rintro ⟨⟨j,s,l,q,Y⟩,g1,g2,g3,g4,g5,g6⟩;dsimp only at g1 g2 g3 g4 g5 g6 ⊢;have hll2 := qA l;have hsn := OB g4;have hy0 : 0 < Y.length := (aA.1 g5.h0).1;have cL := DM s;have hso := Q7 g5.h0;by_cases hk2 : 0 < j ∧ 0 < (s.getD []).length
          · obtain ⟨j,rfl⟩ : ∃ j',j = j' + 1 := ⟨j - 1,by omega⟩
            have d1 := AJ s (by omega)
            have e1 := AK hk2.2;have d2 := AJ (dC s).2 (by omega)
            have e2 := lU (s := (dC s).2);have hrt : kL (j + 1) s = if BL ((dC s).1,(dC (dC s).2).1) then none else (kL j (dC (dC s).2).2).map fun x => (((dC s).1,(dC (dC s).2).1) :: x.1,x.2) := by rw [kL,if_neg (by omega)]
            generalize (dC s).1 = ta at *;generalize (dC s).2 = u1 at *;generalize (dC u1).1 = tn at *;generalize (dC u1).2 = u2 at *
            (repeat' (first|refine wS ?_|refine wB ?_|refine wK ?_|refine wT ?_|(refine rg 18 (mW rfl (vV (iR rfl rfl (by omega)) (mW rfl (yN rfl (gT (cT [0] rfl rfl cL rfl rfl (aN.2 ⟨bZ,bB⟩) ⟨.inr g5.h0,trivial⟩ (by simp) rfl ?_))))));refine yV (iR rfl rfl (by omega)) (pV ?_))|refine nZ ?_));all_goals try (exfalso;omega)
            refine hC [(0,.ptr 0 0),(2,.ptr 1 0),(4,.ptr 2 0),(6,.b (B6 N)),(8,.pr [.i wk,.i wc,.i wu] 0),(9,.sl q 0 l.length 2),(10,.i (iJ l)),(11,.i ((j + 1 : Nat) : Int)),(74,.rowE (bF L) 3),(75,.i (bF L).length),(76,.i (N.length : Int))] Y (lM.of ((List.append_nil _).trans hso) (by repeat first|exact trivial|refine ⟨rfl,?_⟩)) ?_
            (repeat' (first|refine wS ?_|(refine rg 20 (mW rfl (cT [0] rfl rfl d1 rfl rfl (aN.2 ⟨bZ,bB⟩) ⟨.inr g5.h0,trivial⟩ (by simp) rfl ?_));refine mW rfl (cT [0] rfl rfl d2 rfl rfl (aN.2 ⟨bZ,bB⟩) ⟨.inr (bO (fU hy0)),trivial⟩ (by simp) rfl ?_);refine vV (by exact iG T rfl rfl rfl rfl) ?_;refine dX (cX T rfl) rfl (bH T rfl rfl rfl rfl rfl rfl (by decide) (lN cK rfl rfl) ?_))|refine nZ ?_));all_goals try (exfalso;omega)
            refine iM 12 (cs := [.i ta,.i tn]) rfl (fU (by simp [eV])) rfl ?_
            refine hC [(0,.ptr 0 0),(2,.ptr 1 0),(4,.ptr 2 0),(6,.b (B6 N)),(8,.pr [.i wk,.i wc,.i wu] 0),(9,.sl q 0 l.length 2),(10,.i (iJ l)),(11,.i ((j + 1 : Nat) : Int)),(12,.pr [.i ta,.i tn] 0),(74,.rowE (bF L) 3),(75,.i (bF L).length),(76,.i (N.length : Int))] (Y.set 0 (rB u2) ++ [.gone]) (lM.of (by
              show List.set (List.set ((List.set (List.set Y 0 (rB u1) ++ []) 0 (rB u2) ++ []) ++ [_]) (List.length (List.set (List.set Y 0 (rB u1) ++ []) 0 (rB u2) ++ [])) _) (List.length (List.set (List.set Y 0 (rB u1) ++ []) 0 (rB u2) ++ [])) AB.gone = _
              rw [yJ,List.append_nil,List.append_nil,gY]) (by repeat first|exact trivial|refine ⟨rfl,?_⟩)) ?_
            have hr2 : RM u2 (.cells [.nils,.i 0,.i 0,.nils]) (.cells [.rowE (bF L) 3,.i due,.i 1,.sl p 0 N.length 1]) N p [q] (Y.set 0 (rB u2) ++ [AB.gone]) := g5.fr (bO (fU hy0)) (fun k hk h0 _ => by rw [gN (by rw [wM];exact hk),eK h0]) (fun k hk => .inl hk) (by simp)
            have hq2 : (Y.set 0 (rB u2) ++ [AB.gone])[q]? = some (.arr (eO l) 2) := bO (fQ g5.own.1 g6);clear g5 g6 hso hy0;generalize Y.set 0 (rB u2) ++ [AB.gone] = Y2 at *;by_cases hbd : BL (ta,tn)
            · rw [if_pos hbd] at hrt;rw [hrt] at g1;have hno : kM s0 = none := by rw [hro,o3,hdr,g1];rfl
              have hbd2 : ta < 0 ∨ 3000 ≤ ta ∨ tn < 1 ∨ 20000 < tn := hbd
              (repeat' (first|refine wS ?_|refine wR ?_|refine wT ?_|(refine wC rfl ?_ ?_<;>(intro hb;(try simp only [nm] at hb);try (exfalso;omega)))|(refine rg 21 (fW T rfl (vV (aY T rfl rfl rfl rfl) (vV (bC rfl rfl) (mV ?_))));refine bM rfl rfl ?_ ?_<;>(intro hb;rw [hb];(try simp only [nm] at hb);try (exfalso;omega));(all_goals first|(refine gT (fW T rfl (gT (vV (aY T rfl rfl rfl rfl) (gT (vV (fZ rfl rfl) ?_))))))|(iterate 3 refine gF ?_));(all_goals (refine pW rfl (mV ?_)));(all_goals first|(refine gK ?_)|(refine bM rfl rfl ?_ ?_<;>(intro hb;rw [hb];(try simp only [nm] at hb);try (exfalso;omega))));(all_goals first|(refine gT (fW T rfl (gT (vV (aY T rfl rfl rfl rfl) (gT (vV (bC rfl rfl) ?_))))))|(iterate 3 refine gF ?_));(all_goals (refine pW rfl (mV ?_)));(all_goals first|(refine gK ?_)|(refine bM rfl rfl ?_ ?_<;>(intro hb;rw [hb];(try simp only [nm] at hb);try (exfalso;omega))));(all_goals first|(refine gT (fW T rfl (gT (vV (aY T rfl rfl rfl rfl) (gT (vV (fY rfl rfl) ?_))))))|(iterate 3 refine gF ?_));(all_goals (refine pV ?_)))|(refine rg 22 (vV (by exact aY T rfl rfl (cM hr2.h2) rfl) ?_);refine bH T rfl rfl rfl rfl rfl rfl (by decide) (lN hr2.h1 rfl rfl) (aV ?_))|refine nZ ?_));all_goals first | (exfalso;omega) | exact ⟨.inl rfl,_,nB T rfl rfl rfl (cM (fU (aA.1 hr2.h1).1)) rfl,BS.fail hno L due 1 (.sl p 0 N.length 1) (.inr ⟨p,_,rfl⟩)⟩
            · rw [if_neg hbd] at hrt;rw [hrt] at g1;have hbd2 : ¬ (ta < 0 ∨ 3000 ≤ ta ∨ tn < 1 ∨ 20000 < tn) := hbd;have hta := IY l (ta,tn);dsimp only at hta;have hY2 := hr2.lt.1
              (repeat' (first|refine wS ?_|refine wK ?_|(refine wC rfl ?_ ?_<;>(intro hb;(try simp only [nm] at hb);try (exfalso;omega)))|(refine rg 21 (fW T rfl (vV (aY T rfl rfl rfl rfl) (vV (bC rfl rfl) (mV ?_))));refine bM rfl rfl ?_ ?_<;>(intro hb;rw [hb];(try simp only [nm] at hb);try (exfalso;omega));(all_goals (refine yP T rfl (yV (aY T rfl rfl rfl rfl) (yV (fZ rfl rfl) (pW rfl (mV ?_))));refine bM rfl rfl ?_ ?_<;>(intro hb;rw [hb];(try simp only [nm] at hb);try (exfalso;omega))));(all_goals (refine yP T rfl (yV (aY T rfl rfl rfl rfl) (yV (bC rfl rfl) (pW rfl (mV ?_))));refine bM rfl rfl ?_ ?_<;>(intro hb;rw [hb];(try simp only [nm] at hb);try (exfalso;omega))));(all_goals (refine yP T rfl (yV (aY T rfl rfl rfl rfl) (yV (fY rfl rfl) (pV ?_))))))|(refine rg 23 (mW rfl (fW T rfl (vV (aY T rfl rfl rfl rfl) (vV (eC rfl rfl (by omega) (by omega)) (aV ?_))))))|(refine rg 24 (mW rfl (vV (aY T rfl rfl rfl rfl) (dX (by exact cJ T rfl rfl (by decide) (by decide) rfl rfl rfl) rfl ?_)));refine iP T rfl rfl rfl rfl rfl (bO hq2) (by simp) (kV.whole cK rfl) rfl (by simp;omega) (by simp;omega) rfl ?_;refine aV ?_)|(refine rg 19 (mW rfl (vV (gO rfl rfl (by omega) (by omega)) (aV ?_))))|refine nZ ?_));all_goals try (exfalso;omega)
              have hok := OS hbd;have hln : (l ++ [(ta,tn)]).length = l.length + 1 := by simp
              have hsu : iJ (l ++ [(ta,tn)]) = iJ l + tn := JC;have hYl : ((Y2 ++ [AB.arr [[AV.i ta,AV.i tn]] 2]).set q .gone).length = (Y2 ++ [AB.arr [[AV.i ta,AV.i tn]] 2]).length := wM;have hr3 : RM u2 (.cells [.nils,.i 0,.i 0,.nils]) (.cells [.rowE (bF L) 3,.i due,.i 1,.sl p 0 N.length 1]) N p [(Y2 ++ [AB.arr [[AV.i ta,AV.i tn]] 2]).length] ((Y2 ++ [AB.arr [[AV.i ta,AV.i tn]] 2]).set q AB.gone ++ [AB.arr (eO (l ++ [(ta,tn)])) 2]) :=
                hr2.fr (bO (fQ (fun e => hr2.own.1 e.symm) (bO hr2.h0))) (fun k hk h0 hE => by rw [gN (by rw [hYl,aC];omega),eK (fun e => hE (bE.2 e)),gN hk]) (fun k hk => .inr (by rw [bE.1 hk,aC];omega)) (by simp)
              have hq3 : ((Y2 ++ [AB.arr [[AV.i ta,AV.i tn]] 2]).set q AB.gone ++ [AB.arr (eO (l ++ [(ta,tn)])) 2])[(Y2 ++ [AB.arr [[AV.i ta,AV.i tn]] 2]).length]? = some (.arr (eO (l ++ [(ta,tn)])) 2) := by rw [← hYl];exact cK
              all_goals exact ⟨⟨(j,u2,l ++ [(ta,tn)],_,_),by dsimp only;rw [g1,Option.map_map];congr 1;funext z;simp,by dsimp only;rw [hln];omega,by dsimp only;rw [hln];omega,fun t ht => (by
                rcases bD.1 ht with ht | ht
                · exact g4 t ht
                · rw [bE.1 ht];exact hok),hr3,hq3⟩,I7 j,lM.of (by dsimp only;rw [← hta];rfl) ⟨rfl,rfl,rfl,rfl,rfl,(by dsimp only;rw [hln];rfl),(by dsimp only;rw [hsu];rfl),congrArg (fun z : Int => some (AV.i z)) (by dsimp only;omega),rfl,rfl,rfl,trivial⟩⟩
          · have hrt : kL j s = some ([],s) := by
              cases j with
              | zero => rfl
              | succ j => rw [kL,if_pos (by omega)]
            rw [hrt] at g1;have g1' : kL n.toNat s3 = some (l,s) := by rw [g1];simp
            rw [g1'] at hdr;dsimp only [Option.bind_some] at hdr;apply xQ (I := Unit) (fun _ => [(0,.ptr 0 0),(2,.ptr 1 0),(4,.ptr 2 0),(6,.b (B6 N)),(8,.pr [.i wk,.i wc,.i wu] 0),(9,.sl q 0 l.length 2),(10,.i (iJ l)),(74,.rowE (bF L) 3),(75,.i (bF L).length),(76,.i (N.length : Int))]) (fun _ => Y) (fun _ => True)
            case h1 =>
              intro rest;by_cases hj0 : 0 < j
              · (repeat' (first|refine wS ?_|refine wE ?_|refine mS rfl ?_|(refine rg 18 (mW rfl (vV (iR rfl rfl (by omega)) (mW rfl (yN rfl (gT (cT [0] rfl rfl cL rfl rfl (aN.2 ⟨bZ,bB⟩) ⟨.inr g5.h0,trivial⟩ (by simp) rfl ?_))))));refine yV (jU rfl rfl (by omega)) (pV ?_))|(refine nZ ?_)));all_goals try (exfalso;omega)
                all_goals exact hC _ _ (lM.of ((List.append_nil _).trans hso) (by repeat first|exact trivial|refine ⟨rfl,?_⟩)) (rest () trivial)
              · (repeat' (first|refine wS ?_|refine wE ?_|refine mS rfl ?_|(refine rg 18 (mW rfl (vV (jU rfl rfl (by omega)) (mV ?_)));(iterate 3 refine gF ?_);refine pV ?_)|(refine nZ ?_)));all_goals try (exfalso;omega)
                all_goals exact hC _ _ (lM.of rfl (by repeat first|exact trivial|refine ⟨rfl,?_⟩)) (rest () trivial)
            rintro _ _;by_cases hcnt : wc < iJ l
            · rw [if_pos hcnt] at hdr;have hno : kM s0 = none := by rw [hro,o3,hdr];rfl
              (repeat' (first|refine wS ?_|refine wR ?_|refine wT ?_|(refine rg 25 (mW rfl (fW T rfl (vV (aY T rfl rfl rfl rfl) (vV (iR rfl rfl (by omega)) ?_)))))|(refine rg 26 (vV (by exact aY T rfl rfl (cM g5.h2) rfl) ?_);refine bH T rfl rfl rfl rfl rfl rfl (by decide) (lN g5.h1 rfl rfl) (aV ?_))|refine nZ ?_));all_goals first | (exfalso;omega) | exact ⟨.inl rfl,_,nB T rfl rfl rfl (cM (fU (aA.1 g5.h1).1)) rfl,BS.fail hno L due 1 (.sl p 0 N.length 1) (.inr ⟨p,_,rfl⟩)⟩
            · rw [if_neg hcnt] at hdr;have hoa := EW N q l;have h2p := g5.lt.1;have hpp := g5.hp;have hp2 : p ≠ 2 := fun e => by
                have := g5.nd;rw [e] at this;simp at this
              have hRA := g5.add (C' := .cells [.rowE (bF L) 3,.i due,.i 1,.sl (Y ++ [AB.arr [[AV.sl q 0 l.length 2]] 1]).length 0 (N.length + 1) 1]) g6 (AB.arr [[AV.sl q 0 l.length 2]] 1);have hNl : (N ++ [(q,l)]).length = N.length + 1 := by simp
              have hxx : jX L t2 = ((jX (L.drop (N.length + 1)) s).map fun y => ((N ++ [(q,l)]).map (·.2) ++ y.1,y.2)) := by rw [o3,hdr,Option.map_map];congr 1;funext z;simp
              have hAN := IB (N := N) (q := q) (l := l);rw [KN l] at hAN;rw [← hNl] at hRA;cases han : B6 N with
              | true =>
                (repeat' (first|refine wS ?_|refine wK ?_|refine wU ?_|(refine rg 25 (mW rfl (fW T rfl (vV (aY T rfl rfl rfl rfl) (vV (jU rfl rfl (by omega)) ?_)))))|(refine rg 27 (WQ ?_);(iterate 3 refine gF ?_);refine pW rfl (aV ?_))|(refine rg 28 (fW T rfl (vV (by exact aY T rfl rfl (cM g5.h2) rfl) ?_));refine mW rfl (dX (by exact cJ T rfl rfl (by decide) (by decide) rfl rfl rfl) rfl ?_);refine iP T rfl rfl rfl rfl rfl (bO hpp) (by simp) (kV.whole cK rfl) rfl (by simp;omega) (by simp;omega) rfl ?_;refine fV T ?_;refine bH T rfl rfl rfl rfl rfl rfl (by decide) (lN (bO (fQ (fun e=>hp2 e.symm) (bO g5.h2))) rfl rfl) ?_)|(refine rg 29 (vV (eC rfl rfl (by omega) (by omega)) (mV ?_)))|refine nZ ?_));all_goals try (exfalso;omega)
                rw [han,Bool.true_or] at hAN
                all_goals exact ⟨⟨(N.length + 1,s,N ++ [(q,l)],_,_),hil,hNl,hxx,by dsimp only;omega,hRA⟩,by dsimp only;omega,lM.of (by dsimp only;rw [← hoa,hNl];rfl) (by dsimp only;rw [hAN];(repeat (first | exact trivial | refine ⟨rfl,?_⟩)))⟩
              | false =>
                rw [han,Bool.false_or] at hAN
                (repeat' (first|refine wS ?_|refine wK ?_|refine wU ?_|(refine rg 25 (mW rfl (fW T rfl (vV (aY T rfl rfl rfl rfl) (vV (jU rfl rfl (by omega)) ?_)))))|(refine rg 27 (fI rfl (yN rfl (gT (qW T rfl (yV (fY rfl rfl) (pW rfl (aV ?_))))))))|(refine rg 28 (fW T rfl (vV (by exact aY T rfl rfl (cM g5.h2) rfl) ?_));refine mW rfl (dX (by exact cJ T rfl rfl (by decide) (by decide) rfl rfl rfl) rfl ?_);refine iP T rfl rfl rfl rfl rfl (bO hpp) (by simp) (kV.whole cK rfl) rfl (by simp;omega) (by simp;omega) rfl ?_;refine fV T ?_;refine bH T rfl rfl rfl rfl rfl rfl (by decide) (lN (bO (fQ (fun e=>hp2 e.symm) (bO g5.h2))) rfl rfl) ?_)|(refine rg 29 (vV (eC rfl rfl (by omega) (by omega)) (mV ?_)))|refine nZ ?_));all_goals try (exfalso;omega)
                all_goals exact ⟨⟨(N.length + 1,s,N ++ [(q,l)],_,_),hil,hNl,hxx,by dsimp only;omega,hRA⟩,by dsimp only;omega,lM.of (by dsimp only;rw [← hoa,hNl];rfl) (by dsimp only;rw [hAN];(repeat (first | exact trivial | refine ⟨rfl,?_⟩)))⟩
        · have hrn : jX L t2 = some (N.map (·.2),s) := by
            rw [o3,dJ (by omega)]
            simp [jX]
          rw [hrn] at hro;dsimp only [Option.bind_some] at hro;rw [MT] at hro;have h1l := (aA.1 o5.h1).1;have hnd := o5.nd;simp only [aN,aQ,not_or,List.nil_append] at hnd;cases han : B6 N with
          | false =>
            rw [han,Bool.not_false,if_pos rfl] at hro
            (repeat' (first|refine wS ?_|refine wR ?_|refine wE ?_|(refine wC rfl ?_ ?_<;>(intro hb;(try simp only [nm] at hb);try (exfalso;omega)))|(refine rg 13 (vV (bC rfl rfl) ?_))|(refine rg 30 (vV (by exact aY T rfl rfl (cM o5.h2) rfl) ?_);refine mW rfl (bH T rfl rfl rfl rfl rfl rfl (by decide) (lN o5.h1 rfl rfl) (aV ?_)))|refine nZ ?_));all_goals first | (exfalso;omega) | exact ⟨.inl rfl,_,nB T rfl rfl rfl (cM (fU h1l)) rfl,BS.fail hro L due 1 (.sl p 0 N.length 1) (.inr ⟨p,_,rfl⟩)⟩
          | true =>
            rw [han,Bool.not_true,if_neg (by decide)] at hro
            have key : ∀ c,BS s0 (.tup [.agg (iV ⟨L,due,1,N.map (·.2)⟩ (.sl p 0 N.length 1)),.b true]) (X.set 1 c) := fun c =>
              BS.ok (B := p :: N.map (·.1)) hro (fQ (by decide) o5.h0) (.inr ⟨p,N,rfl,fQ (fun e => hnd.2.1.2.1 e.symm) o5.hp,fun e he => fQ (fun e1 => hnd.2.1.2.2 (e1 ▸ aJ.2 ⟨e,he,rfl⟩)) (o5.hn e he),rfl,rfl,aN.2 hnd.2.2.2⟩) (fun k hk => by
                rcases aQ.1 hk with rfl | hk
                · have := hnd.1.2.2.1;omega
                · have : k ≠ 0 := fun e => hnd.1.2.2.2 (e ▸ hk)
                  omega)
            (repeat' (first|refine wS ?_|refine wR ?_|refine wE ?_|(refine wC rfl ?_ ?_<;>(intro hb;(try simp only [nm] at hb);try (exfalso;omega)))|(refine rg 13 (vV (bC rfl rfl) ?_))|(refine rg 30 (vV (by exact aY T rfl rfl (cM o5.h2) rfl) ?_);refine mW rfl (bH T rfl rfl rfl rfl rfl rfl (by decide) (lN o5.h1 rfl rfl) (aV ?_)))|refine nZ ?_));all_goals first | (exfalso;omega) | exact ⟨.inl rfl,_,nB T rfl rfl rfl (cM (fU h1l)) rfl,key _⟩
      · rw [if_pos h1] at hro
        (repeat' (first|refine wS ?_|refine wK ?_|refine wR ?_|refine wT ?_|(refine wC rfl ?_ ?_<;>(intro hb;(try simp only [nm] at hb);try (exfalso;omega)))|(refine rg 7 (fW T rfl (jP T rfl (fW T rfl (jP T rfl (vV (kC (hrw)) (vV (eF rfl) (mW rfl (yP T rfl (yF T ?_)))))))));refine yO T rfl (yV (bC rfl rfl) (pW rfl (mV ?_)));refine bM rfl rfl ?_ ?_<;>(intro hb;rw [hb];(try simp only [nm] at hb);try (exfalso;omega));(all_goals (refine yP T rfl (yP T rfl (yO T rfl (yV (fZ rfl rfl) (pV ?_)))))))|(refine rg 9 (fW T rfl (jP T rfl (vV (S7 rfl rfl h1) ?_))))|(refine rg 10 (lW T rfl (bH T rfl rfl rfl rfl rfl rfl (by decide) rfl (aV ?_))))|refine nZ ?_));all_goals first | (exfalso;omega) | exact ⟨.inl rfl,_,rfl,BS.ok hro rfl (.inl ⟨rfl,rfl,rfl⟩) (fun k hk => nomatch hk)⟩
end Go.Proofs.YtdiogjgohbbllaaGreatDoor
namespace Go.Or
open Go Go.Ab Go.Wr Go.Proofs.YtdiogjgohbbllaaGreatDoor
theorem jZ.ren {o o' : Hp} {θ : Nat → Nat} {x : AV} {tk : List (List Tk)} {B : List Nat} (h : jZ o x tk B) (hg : ∀ k,k ∈ B → ∀ b,o[k]? = some b → o'[θ k]? = some (b.map θ)) (hi : ∀ a,a ∈ B → ∀ b,b ∈ B → θ a = θ b → a = b) : jZ o' (x.map θ) tk (B.map θ) := by
  rcases h with ⟨rfl,rfl,rfl⟩ | ⟨p,N,rfl,h2,h3,rfl,rfl,h6⟩
  · exact .inl ⟨rfl,rfl,rfl⟩
  · refine .inr ⟨θ p,N.map fun e => (θ e.1,e.2),?_,?_,fun e he => ?_,by simp [Function.comp_def],by simp [Function.comp_def],?_⟩
    · show AV.sl (θ p) 0 N.length 1 = _;rw [bJ]
    · rw [hg p aP _ h2];show some (AB.arr ((kN N).map (AV.mapL θ)) 1) = _;simp only [kN,mK,Function.comp_def];rfl
    · obtain ⟨f,hf,rfl⟩ := aJ.1 he;have h4 := hg f.1 (aF _ (aJ.2 ⟨f,hf,rfl⟩)) _ (h3 f hf);dsimp only;rw [h4];show some (AB.arr ((eO f.2).map (AV.mapL θ)) 2) = _;rw [gS _ (nO _)]
    · unfold List.Nodup;rw [NF];exact List.Pairwise.imp_of_mem (fun ha hb h e => h (hi _ ha _ hb e)) h6
theorem iZ.ren {o o' : Hp} {θ : Nat → Nat} {pb po : Nat} {L : OL} (h : iZ o pb po L) (hg : ∀ k,k ∈ vO pb po L → ∀ b,o[k]? = some b → o'[θ k]? = some (b.map θ)) (hi : ∀ a,a ∈ vO pb po L → ∀ b,b ∈ vO pb po L → θ a = θ b → a = b) :
    iZ o' (θ pb) (θ po) (L.map fun e => (e.1,e.2.1.map θ,e.2.2.map θ)) := by
  have hm : ∀ {e : Od × AV × List Nat},e ∈ L → ∀ k,k ∈ e.2.2 → k ∈ vO pb po L := fun he k hk => aF _ (aF _ (dK.2 ⟨_,he,hk⟩));refine ⟨?_,?_,fun e he => ?_,?_⟩
  · rw [hg pb (by simp) _ h.b,bJ];rfl
  · rw [hg po (by simp) _ h.o]
    show some (AB.arr ((L.map fun e => iV e.1 e.2.1).map (AV.mapL θ)) 4) = _;rw [mK,mK];rfl
  · obtain ⟨f,hf,rfl⟩ := aJ.1 he;exact (h.n f hf).ren (fun k hk => hg k (hm hf k hk)) fun a ha b hb => hi a (hm hf a ha) b (hm hf b hb)
  · have e : θ pb :: θ po :: (L.map fun e => (e.1,e.2.1.map θ,e.2.2.map θ)).flatMap (·.2.2) = (vO pb po L).map θ := by
      simp only [List.map_cons,List.flatMap_map,List.map_flatMap]
    rw [e];unfold List.Nodup;rw [NF];exact List.Pairwise.imp_of_mem (fun ha hb h e => h (hi _ ha _ hb e)) h.nd
theorem HL {H o : Hp} {k : Nat} {b : AB} (hk : o[k]? = some b) : (H ++ o.map (AB.map (· + H.length)))[k + H.length]? = some (b.map (· + H.length)) := by
  rw [aE (by omega),IG,aR,hk];rfl
theorem rC.shift {H o : Hp} {pb : Nat} {bk : Bk} {A : List Nat} (h : rC o pb bk A) : ∃ A',rC (H ++ o.map (AB.map (· + H.length))) (pb + H.length) bk A' ∧ ∀ k,k ∈ A' → H.length ≤ k := by
  obtain ⟨po,L,h1,rfl,rfl⟩ := h;have hr := h1.ren (o' := H ++ o.map (AB.map (· + H.length))) (θ := (· + H.length)) (fun k _ b hb => HL hb) (fun a _ b _ e => by omega)
  refine ⟨_,⟨_,_,hr,by simp [Function.comp_def],rfl⟩,fun k hk => ?_⟩
  rcases aQ.1 hk with rfl | hk
  · omega
  rcases aQ.1 hk with rfl | hk
  · omega
  obtain ⟨e,he,hk⟩ := dK.1 hk;obtain ⟨f,_,rfl⟩ := aJ.1 he;obtain ⟨m,_,rfl⟩ := aJ.1 hk;omega
theorem iZ.addN {H H' : Hp} {pb po po' : Nat} {L : OL} (h : iZ H pb po L) (o' : Od) (x' : AV) (B : List Nat) (hpo' : H.length ≤ po')
    (hpb : H'[pb]? = some (.cells [.sl po' 0 (L.length + 1) 4])) (hpo : H'[po']? = some (.arr ((L.map fun e => iV e.1 e.2.1) ++ [iV o' x']) 4)) (hk : ∀ k,k < H.length → k ≠ po → k ≠ pb → H'[k]? = H[k]?)
    (hn : jZ H' x' o'.tk B) (hB : ∀ k,k ∈ B → k ∉ vO pb po L ∧ k ≠ po') : iZ H' pb po' (L ++ [(o',x',B)]) := by
  have hnd := h.nd;have hlt := h.lt;simp only [aN,aQ,not_or] at hnd;obtain ⟨⟨n1,n2⟩,n3,n4⟩ := hnd;have hpbl := hlt pb (by simp)
  have hfl : ∀ k,k ∈ L.flatMap (·.2.2) → k < H.length := fun k hk => hlt k (aF _ (aF _ hk));refine ⟨by rw [hpb,aC,cF],by rw [hpo];simp,fun f hf => ?_,?_⟩
  · rcases bD.1 hf with hf | hf
    · refine (h.n f hf).frame fun k hkf => ?_
      have hm : k ∈ L.flatMap (·.2.2) := dK.2 ⟨f,hf,hkf⟩;exact hk k (hfl k hm) (fun e1 => n3 (e1 ▸ hm)) (fun e1 => n2 (e1 ▸ hm))
    · rw [bE.1 hf];exact hn
  · rw [eW];simp only [fD,jO,List.append_nil,aN,aQ,not_or,bD,dW];have hx : ∀ k,k ∈ B → k ≠ pb ∧ k ∉ L.flatMap (·.2.2) := fun k hk => by
      have := (hB k hk).1;simp only [aQ,not_or] at this;exact ⟨this.1,this.2.2⟩
    exact ⟨⟨by omega,n2,fun hm => (hx pb hm).1 rfl⟩,⟨fun hm => by have := hfl _ hm;omega,fun hm => (hB _ hm).2 rfl⟩,n4,hn.nd,fun a ha b hb e => (hx b hb).2 (e ▸ ha)⟩
theorem HJ {o : Hp} {b : AB} (h : o[0]? = some b) : o = b :: o.drop 1 := by
  cases o with
  | nil => simp at h
  | cons c o => simp at h;rw [h];rfl
theorem uR {N k : Nat} (h : 1 ≤ k) : fK [0] N 1 k = N + (k - 1) := by
  unfold fK;rw [bK (by simp;omega)]
theorem RX {X Z : Hp} {s s' : St} {po : Nat} {L : OL} (h0 : X[0]? = some (rB s)) (g7 : iZ X 1 po L) (g8 : 0 ∉ vO 1 po L) {x : AV} {tk : List (List Tk)} {B : List Nat} (hn : jZ (rB s' :: Z) x tk B) (hB : ∀ k,k ∈ B → 1 ≤ k) :
    iZ (X.set 0 (rB s') ++ Z.map (AB.map (fK [0] X.length 1))) 1 po L ∧ jZ (X.set 0 (rB s') ++ Z.map (AB.map (fK [0] X.length 1))) (x.map (fK [0] X.length 1)) tk (B.map (fK [0] X.length 1)) ∧ (∀ k,k ∈ B.map (fK [0] X.length 1) → X.length ≤ k) ∧ (X.set 0 (rB s') ++ Z.map (AB.map (fK [0] X.length 1)))[0]? = some (rB s') := by
  have hx0 : 0 < X.length := (aA.1 h0).1;refine ⟨g7.frame fun k hk => ?_,hn.ren (fun k hk b hb => ?_) (fun a ha b hb e => ?_),fun k hk => ?_,bO (fU hx0)⟩
  · rw [gN (by rw [wM];exact g7.lt k hk),eK (fun e : k = 0 => g8 (e ▸ hk))]
  · have h1 := hB k hk;rw [uR h1];obtain ⟨k,rfl⟩ : ∃ k',k = k' + 1 := ⟨k - 1,by omega⟩
    rw [aE (by rw [wM];omega),wM,show X.length + (k + 1 - 1) - X.length = k by omega,aR]
    rw [fB] at hb;rw [hb];rfl
  · rw [uR (hB a ha),uR (hB b hb)] at e;have := hB a ha;have := hB b hb;omega
  · obtain ⟨m,hm,rfl⟩ := aJ.1 hk;rw [uR (hB m hm)];omega
abbrev MY (X : Hp) (po : Nat) (L : OL) (o : Od) (x : AV) (n : Nat) : Hp := ((X.set po .gone).set 1 (.cells [.sl n 0 (L.length + 1) 4])) ++ [.arr [iV o x] 4,.arr ((L.map fun e => iV e.1 e.2.1) ++ [iV o x]) 4]
theorem OH {X : Hp} {s : St} {po : Nat} {L : OL} {o : Od} {x : AV} {B : List Nat} (b1 : iZ X 1 po L) (b2 : jZ X x o.tk B) (b3 : X[0]? = some (rB s)) (hft : ∀ k,k ∈ B → k ∉ vO 1 po L) (g8 : 0 ∉ vO 1 po L) (hB0 : 0 ∉ B) :
    iZ (MY X po L o x (X.length + 1)) 1 (X.length + 1) (L ++ [(o,x,B)]) ∧ (MY X po L o x (X.length + 1))[0]? = some (rB s) ∧ 0 ∉ vO 1 (X.length + 1) (L ++ [(o,x,B)]) := by
  have h1l := b1.lt 1 (by simp)
  have h0 : 0 ≠ po ∧ (0 : Nat) ≠ 1 := ⟨fun e => g8 (by rw [e];simp),by decide⟩
  have hk : ∀ k,k < X.length → k ≠ po → k ≠ 1 → (MY X po L o x (X.length + 1))[k]? = X[k]? := fun k hk h1 h2 => by
    rw [aG (by simpa using hk),eK h2,eK h1]
  have hBx : ∀ k,k ∈ B → k ≠ po ∧ k ≠ 1 := fun k hk => by
    have := hft k hk;simp only [aQ,not_or] at this;exact ⟨this.2.1,this.1⟩
  refine ⟨b1.addN o x B (BY _) (bO (fU (by simpa using h1l))) (by rw [aE (by simp)];simp) hk (b2.frame fun k hkB => hk k (b2.lt k hkB) (hBx k hkB).1 (hBx k hkB).2) (fun k hkB => ⟨hft k hkB,by have := b2.lt k hkB;omega⟩),?_,?_⟩
  · rw [hk 0 (by omega) h0.1 h0.2];exact b3
  · simp only [aQ,not_or] at g8;show 0 ∉ 1 :: (X.length + 1) :: (L ++ [(o,x,B)]).flatMap (·.2.2);rw [eW];simp only [aQ,not_or,bD,fD,jO,List.append_nil];exact ⟨by decide,by omega,g8.2.2,hB0⟩
theorem L8 : ∀ (k : Nat) (s : St), ((jM k s).2.getD []).length ≤ (s.getD []).length
  | 0,s => aO _
  | k + 1,s => by
    rw [jM];split
    · exact aO _
    · have h1 := lU (s := s);have h2 := lU (s := (dC s).2);have h3 := lU (s := (dC (dC s).2).2);have h4 := L8 k (dC (dC (dC s).2).2).2;dsimp only;omega
theorem M2 : ∀ (k : Nat) (s : St) {l : List Tk} {s' : St}, kL k s = some (l, s') → (s'.getD []).length ≤ (s.getD []).length
  | 0,s,l,s',h => by cases h;exact aO _
  | k + 1,s,l,s',h => by
    rw [kL] at h;split at h
    · cases h;exact aO _
    · split at h
      · cases h
      · obtain ⟨⟨l2,s2⟩,h2,h3⟩ := bY.1 h;cases h3;have h1 := lU (s := s);have h3 := lU (s := (dC s).2);have h4 := M2 k _ h2;dsimp only;omega
theorem M5 : ∀ (ws : List Wt) (s : St) {tk : List (List Tk)} {s' : St}, jX ws s = some (tk, s') → (s'.getD []).length ≤ (s.getD []).length
  | [],s,tk,s',h => by cases h;exact aO _
  | w :: ws,s,tk,s',h => by
    rw [jX] at h;obtain ⟨⟨l,s1⟩,h1,h2⟩ := lR.1 h;dsimp only at h2;split at h2
    · cases h2
    · obtain ⟨⟨tk2,s2⟩,h3,h4⟩ := bY.1 h2;cases h4;have a1 := M2 _ _ h1;have a2 := M5 ws s1 h3;have a3 := oJ s 59 0;dsimp only;omega
theorem GU {s s' : St} {o : Od} (h : kM s = some (o,s')) : (s'.getD []).length ≤ (s.getD []).length := by
  unfold kM at h;have a1 := oJ s 59 0;have a2 := L8 (jD s 59 0).1.toNat (jD s 59 0).2;change ((kG s).2.getD []).length ≤ _ at a2;have a3 := lU (s := (kG s).2);have a4 := lU (s := (dC (kG s).2).2);split at h
  · cases h
  · split at h
    · cases h;omega
    · obtain ⟨⟨tk,s3⟩,h2,h3⟩ := lR.1 h;dsimp only at h3;split at h3
      · cases h3
      · cases h3;have := M5 _ _ h2;omega
def qS (l : List UInt8) (r : AV) (o : Hp) : Prop := match M6 l with
  | some bk => ∃ A,r = .tup [.ptr 1 0,.b true] ∧ rC o 1 bk A
  | none => r = .tup [.v (.pointer none),.b false]
theorem wJ {α : Type} (f : α → List UInt8) (n : Nat) : ∀ l : List α, (∀ x, x ∈ l → (f x).length ≤ n) → (l.map f).flatten.length ≤ l.length * n
  | [],_ => by simp
  | x :: l,h => by
    have h1 := h x aP;have h2 := wJ f n l fun x hx => h x (aF _ hx);rw [List.map_cons,cE,aC,List.length_cons,cY,BX];omega
theorem OV {o : Od} (h : oG o) (hI : WD o) : (W1 o).length ≤ 17601826 := by
  have hf := h.few;have hw := (oP h.ws).1;have w1 := wJ IQ 66 o.ws fun w hw => by
    obtain ⟨a,b,c⟩ := hI.ws w hw;have := kP a;have := kP b;have := kP c;unfold IQ;simp only [aC];omega
  have t1 := wJ IM 880022 o.tk fun l hl => by
    have hl2 := hf.2 l hl;have := kP (n := (l.length : Int)) ⟨by omega,by omega⟩
    have t2 := wJ NN 44 l fun t ht => by
      obtain ⟨a,b⟩ := hI.tk l hl t ht;have := kP a;have := kP b;unfold NN;simp only [aC];omega
    have : l.length * 44 ≤ 20000 * 44 := eL _ hl2;unfold IM rG;simp only [aC];omega
  have : o.ws.length * 66 ≤ 20 * 66 := eL _ hw.2;have : o.tk.length * 880022 ≤ 20 * 880022 := eL _ hf.1;have := kP (n := (o.ws.length : Int)) ⟨by omega,by omega⟩
  have := kP hI.due;have := kP hI.st;unfold W1 QU;simp only [aC];have e1 : (rD o.ws).length = (o.ws.map IQ).flatten.length := rfl;have e2 : (kO o.tk).length = (o.tk.map IM).flatten.length := rfl;omega
theorem P2 {bk : Bk} (h : ∀ o,o ∈ bk → oG o ∧ ∀ w,w ∈ o.ws → sV w.1) (hl : bk.length ≤ 1000000) : (oZ bk).length ≤ 22 + bk.length * 17601826 := by
  have h1 := wJ W1 17601826 bk fun o ho => OV (h o ho).1 ((h o ho).1.odI (h o ho).2);have := kP (n := (bk.length : Int)) ⟨by omega,by omega⟩
  unfold oZ;rw [aC];have e1 : (vJ bk).length = (bk.map W1).flatten.length := rfl;omega
end Go.Or
namespace Go.Proofs.YtdiogjgohbbllaaGreatDoor
open Go Go.Ab Go.Or Go.Wr
attribute [local irreducible] VC AW bQ bN eT lF
set_option maxHeartbeats 4000000
theorem RW (l : List UInt8) (hl : l.length ≤ 1000000000) : eT Tryz.prog 39 [.s l] [] (qS l) := by
  have c0 := RZ l;have c1 := KG (some l) (by rw [nG];exact hl)
  have hb0 := oJ (some l) 59 0;have hn0 := R5 (some l) 59;have hn1 := (qK (some l) 59 0).2;rw [nG] at hb0;have hro : M6 l = (mN (jD (some l) 59 0).1.toNat (jD (some l) 59 0).2 []).bind fun x => if x.2 = some [] ∧ oZ x.1 = l then some x.1 else none := rfl
  generalize (jD (some l) 59 0).1 = n at *;generalize (jD (some l) 59 0).2 = s2 at *;refine jN T Tryz.func39 rfl rfl rfl rfl ?_
  (repeat' (first|refine wS ?_|refine wB ?_|(refine rg 0 (nS ?_))|(refine rg 1 (mW rfl (cT [] rfl rfl c0 rfl rfl (by decide) trivial (by simp) rfl ?_));refine aV ?_)|(refine rg 2 (cT [] rfl rfl KM rfl rfl (by decide) trivial (by simp) rfl ?_);refine aV ?_)|(refine rg 3 (mW rfl (cT [0] rfl rfl c1 rfl rfl (by decide) ⟨.inr rfl,trivial⟩ (by simp) rfl ?_));refine aV ?_)|refine nZ ?_));refine xR 1 0 4 rfl rfl (by decide) ?_
  refine kR (X := {x : Nat × St × OL × Nat × Hp // mN n.toNat s2 [] = mN x.1 x.2.1 (x.2.2.1.map (·.1)) ∧ (x.1 : Int) ≤ n ∧ (x.2.1.getD []).length ≤ 1000000000 ∧ x.2.2.1.length ≤ 1000 ∧ (∀ o, o ∈ x.2.2.1.map (·.1) → oG o ∧ ∀ w, w ∈ o.ws → sV w.1) ∧ x.2.2.2.2[0]? = some (rB x.2.1) ∧ iZ x.2.2.2.2 1 x.2.2.2.1 x.2.2.1 ∧ 0 ∉ vO 1 x.2.2.2.1 x.2.2.1}) (fun x => [(0, .s l), (4, .ptr 0 0), (5, .ptr 1 0), (6, .i (x.1.1 : Int))]) (fun x => x.1.2.2.2.2) (fun x => x.1.1)
    ⟨(n.toNat,s2,[],2,[rB s2,.cells [.sl 2 0 0 4],.arr [] 4]),rfl,by dsimp only;omega,by dsimp only;omega,bS _,fun o ho => (nomatch ho),rfl,⟨rfl,rfl,fun e he => (nomatch he),by simp⟩,by simp⟩ (lM.of rfl ⟨rfl,rfl,rfl,congrArg (fun z : Int => some (AV.i z)) (by dsimp only;omega),trivial⟩) ?_
  rintro ⟨⟨k,s,L,po,X⟩,g1,g2,g3,g4,g5,g6,g7,g8⟩;dsimp only at g1 g2 g3 g4 g5 g6 g7 g8 ⊢;have cL := DM s;have hso := Q7 g6;have hx0 : 0 < X.length := (aA.1 g6).1;by_cases hk2 : 0 < k ∧ 0 < (s.getD []).length
  · obtain ⟨k,rfl⟩ : ∃ k',k = k' + 1 := ⟨k - 1,by omega⟩
    have hrb : mN (k + 1) s (L.map (·.1)) = (kM s).bind fun x => if 1000 ≤ (L.map (·.1)).length then none else mN k x.2 (L.map (·.1) ++ [x.1]) := by rw [mN,if_neg (by omega)]
    have hcr := JO s g3
    (repeat' (first|refine wS ?_|refine wB ?_|refine wK ?_|refine wT ?_|(refine rg 4 (mW rfl (vV (iR rfl rfl (by omega)) (mW rfl (yN rfl (gT (cT [0] rfl rfl cL rfl rfl (aN.2 ⟨bZ,bB⟩) ⟨.inr g6,trivial⟩ (by simp) rfl ?_))))));refine yV (iR rfl rfl (by omega)) (pV ?_))|refine nZ ?_));all_goals try (exfalso;omega)
    refine hC [(0,.s l),(4,.ptr 0 0),(5,.ptr 1 0),(6,.i ((k + 1 : Nat) : Int))] X (lM.of ((List.append_nil _).trans hso) (by repeat first|exact trivial|refine ⟨rfl,?_⟩)) ?_
    cases hod : kM s with
    | none =>
      have hro2 : M6 l = none := by rw [hro,g1,hrb,hod];rfl
      have key : ∀ o,qS l (.tup [.v (.pointer none),.b false]) o := fun o => by unfold qS;rw [hro2]
      (repeat' (first|refine wS ?_|refine wR ?_|refine wT ?_|(refine rg 6 (mV ?_);(refine uE [0] rfl rfl hcr rfl rfl (aN.2 ⟨bZ,bB⟩) ⟨.inr g6,trivial⟩ (by simp) rfl ?_;rintro res hout hΦ;unfold BS at hΦ;rw [hod] at hΦ;dsimp only at hΦ;obtain ⟨ws,due,st,x,rfl,hx⟩ := hΦ;rcases hx with rfl|⟨px,mx,rfl⟩<;>dsimp only [eX]);(all_goals (refine mW rfl (xW rfl (xW rfl (dX (cX T rfl) rfl (bH T rfl rfl rfl rfl rfl rfl (by decide) (lN cK rfl rfl) (aV ?_))))))))|(refine rg 7 (mW rfl (vV (eF rfl) (mV ?_)));(iterate 6 refine gF ?_);refine pV ?_)|(refine rg 8 (nS ?_))|refine nZ ?_));all_goals first | (exfalso;omega) | exact ⟨.inl rfl,_,rfl,key _⟩
    | some y =>
      obtain ⟨o,s'⟩ := y;obtain ⟨WB,UU⟩ := GR hod;have hrb2 : mN (k + 1) s (L.map (·.1)) = if 1000 ≤ L.length then none else mN k s' (L.map (·.1) ++ [o]) := by rw [hrb,hod,bJ];rfl
      have hbx := fun {Z : Hp} {x : AV} {B : List Nat} (hn : jZ (rB s' :: Z) x o.tk B) (hB : ∀ k,k ∈ B → 1 ≤ k) => RX g6 g7 g8 hn hB;apply xQ (I := AV × List Nat × Hp) (fun y => [(0,.s l),(4,.ptr 0 0),(5,.ptr 1 0),(6,.i ((k + 1 : Nat) : Int)),(7,.ptr y.2.2.length 0),(8,.b true)]) (fun y => y.2.2 ++ [.cells (iV o y.1)]) (fun y => iZ y.2.2 1 po L ∧ jZ y.2.2 y.1 o.tk y.2.1 ∧ (∀ k,k ∈ y.2.1 → X.length ≤ k) ∧ y.2.2[0]? = some (rB s'))
      case h1 =>
        intro rest
        (repeat' (first|refine wS ?_|(refine rg 6 (mV ?_);(refine uE [0] rfl rfl hcr rfl rfl (aN.2 ⟨bZ,bB⟩) ⟨.inr g6,trivial⟩ (by simp) rfl ?_;rintro res hout hΦ;unfold BS at hΦ;rw [hod] at hΦ;dsimp only at hΦ;obtain ⟨x,B,rfl,h0,hn,hB⟩ := hΦ;have hh := HJ h0;generalize hout.drop 1 = Z at hh;subst hh;clear h0;have hM := hbx hn hB;rcases hn.form with rfl|⟨px,mx,rfl⟩<;>dsimp only [eX]);(all_goals (refine mW rfl (xW rfl (xW rfl (dX (cX T rfl) rfl (bH T rfl rfl rfl rfl rfl rfl (by decide) (lN cK rfl rfl) (aV ?_))))))))|refine nZ ?_));all_goals
          refine hC _ _ ?_ (rest (_,_,_) hM);exact lM.of (by rw [jA];rfl) ⟨rfl,rfl,rfl,rfl,rfl,rfl,trivial⟩
      rintro ⟨x,B,W⟩ ⟨m1,m2,m3,m4⟩;dsimp only at m1 m2 m3 m4 ⊢;have hft : ∀ k,k ∈ B → k ∉ vO 1 po L := fun k hk hm => by
        have := g7.lt k hm;have := m3 k hk;omega
      have hBw := m2.lt;have b1 : iZ (W ++ [AB.cells (iV o x)]) 1 po L := m1.more fun k hk => gN hk
      have b2 : jZ (W ++ [AB.cells (iV o x)]) x o.tk B := m2.frame fun k hk => gN (hBw k hk);have b3 : (W ++ [AB.cells (iV o x)])[0]? = some (rB s') := bO m4;have b4 : (W ++ [AB.cells (iV o x)])[W.length]? = some (.cells (iV o x)) := cK;have hcl : W.length + 1 = (W ++ [AB.cells (iV o x)]).length := by simp
      have hB0 : 0 ∉ B := fun hm => by have := m3 0 hm;omega
      clear m1 m2 m3 m4 hbx;generalize hX2 : W ++ [AB.cells (iV o x)] = X2 at *;generalize W.length = c at *;have hpol := (aA.1 b1.o).1;have hpbl := (aA.1 b1.b).1;by_cases hbig : 1000 ≤ L.length
      · rw [if_pos hbig] at hrb2;have hro2 : M6 l = none := by rw [hro,g1,hrb2];rfl
        have key : ∀ o,qS l (.tup [.v (.pointer none),.b false]) o := fun o => by unfold qS;rw [hro2]
        (repeat' (first|refine wS ?_|refine wR ?_|(refine wC rfl ?_ ?_<;>(intro hb;(try simp only [nm] at hb);try (exfalso;omega)))|(refine rg 7 (mW rfl (vV (eF rfl) (mW rfl (yN rfl (gT (nV ?_))))));refine yP T rfl (yV (by exact aY T rfl rfl (cM b1.b) rfl) ?_);refine gT (qW T rfl (yV (fZ rfl rfl) (pV ?_))))|(refine rg 8 (nS ?_))|refine nZ ?_));all_goals first | (exfalso;omega) | exact ⟨.inl rfl,_,rfl,key _⟩
      · rw [if_neg hbig] at hrb2;rw [hrb2] at g1
        (repeat' (first|refine wK ?_|(refine wC rfl ?_ ?_<;>(intro hb;(try simp only [nm] at hb);try (exfalso;omega)))|(refine rg 7 (mW rfl (vV (eF rfl) (mW rfl (yN rfl (gT (nV ?_))))));refine yP T rfl (yV (by exact aY T rfl rfl (cM b1.b) rfl) ?_);refine gT (qW T rfl (yV (fZ rfl rfl) (pV ?_))))|refine nZ ?_));all_goals try (exfalso;omega)
        have hta : List.take L.length (List.drop 0 (L.map fun e => iV e.1 e.2.1)) = L.map fun e => iV e.1 e.2.1 := by rw [dI,bA (by simp)]
        have hlen : ∀ b : AB,(X2 ++ [b]).length = X2.length + 1 := fun b => by simp
        have hnx := OH b1 b2 b3 hft g8 hB0;have hLn : (L ++ [(o,x,B)]).length = L.length + 1 := by simp
        have hLm : (L ++ [(o,x,B)]).map (·.1) = L.map (·.1) ++ [o] := by simp
        have g5' : ∀ z,z ∈ L.map (·.1) ++ [o] → oG z ∧ ∀ w,w ∈ z.ws → sV w.1 := fun z hz => by
          rcases bD.1 hz with hz | hz
          · exact g5 z hz
          · rw [bE.1 hz];exact ⟨WB,UU⟩
        rw [← hLm] at g1 g5';have hs'l : (s'.getD []).length ≤ 1000000000 := cG (GU hod) g3;rcases b2.form with rfl | ⟨px,mx,rfl⟩
        all_goals
          (repeat' (first|(refine qR (id := 9) 58 [[],[],[1],[1,2],[1,2,3],[],[5],rM 1 6,rN 8,rN 9,rN 10] (rM 38 10) [[],[38],[38],[38],[38],rM 38 5,rM 38 5,[38],[],[],[]] [(7,po),(10,1)] fH rfl (BJ (by decide +kernel) rfl rfl rfl rfl) (eS rfl rfl rfl rfl (by exact eP rfl) ?_);refine eS rfl rfl rfl rfl (by exact eP rfl) ?_;refine eS rfl rfl rfl rfl (by exact dQ rfl rfl) ?_;refine eS rfl rfl rfl rfl (by exact eB T rfl rfl rfl) ?_;refine eS rfl rfl rfl rfl (by exact aY T rfl rfl (cM (bO b1.b)) rfl) ?_;refine eS rfl rfl rfl rfl (by exact aY T rfl rfl (cM (bO b4)) rfl) ?_;refine LW rfl rfl rfl rfl (by exact cJ T rfl rfl (by decide) (by decide) rfl rfl rfl) rfl ?_;refine vQ rfl rfl rfl rfl hpol (zM T rfl rfl rfl rfl rfl (bO b1.o) (by simp) (kV.whole O5 rfl) rfl (by simp;omega) (by simp;omega)) ?_;refine eS rfl rfl rfl rfl (by exact dQ rfl rfl) ?_;refine eS rfl rfl rfl rfl (by exact eB T rfl rfl rfl) ?_;refine DZ rfl rfl rfl rfl hpbl T rfl rfl rfl rfl rfl rfl (by decide) (IV (bO (fQ b1.ne b1.b)) rfl) ?_;refine xJ rfl rfl rfl (by exact rfl) ?_)|(refine rg 5 (mW rfl (vV (gO rfl rfl (by omega) (by omega)) (aV ?_))))|refine nZ ?_));all_goals try (exfalso;omega)
          all_goals exact ⟨⟨(k,s',L ++ [(o,_,B)],X2.length + 1,_),g1,by dsimp only;omega,hs'l,by dsimp only;omega,g5',hnx.2.1,hnx.1,hnx.2.2⟩,I7 k,lM.of (Eq.trans (by unfold MY;(conv => rhs;rw [← hta]);rfl) (congrArg (MY X2 po L o _) (hlen (AB.arr [iV o _] 4)))) ⟨rfl,rfl,rfl,congrArg (fun z : Int => some (AV.i z)) (by dsimp only;omega),trivial⟩⟩
  · have hrb : mN k s (L.map (·.1)) = some (L.map (·.1),s) := by
      cases k with
      | zero => rfl
      | succ k => rw [mN,if_pos (by omega)]
    rw [g1,hrb] at hro;dsimp only [Option.bind_some] at hro;have hbl := P2 g5 (by rw [bJ];omega)
    rw [bJ] at hbl;have hby := FP (L.map (·.1)) (by rw [bJ];omega) (fun o ho => (g5 o ho).1.odI (g5 o ho).2) (by omega)
    have hv : View (X.set 0 (rB s) ++ []) (.ptr 1 0) (GW (L.map (·.1))) := by rw [List.append_nil,hso];exact g7.view
    have cD := TF s;apply xQ (I := Unit) (fun _ => [(0,.s l),(4,.ptr 0 0),(5,.ptr 1 0)]) (fun _ => X) (fun _ => True)
    case h1 =>
      intro rest;by_cases hk0 : 0 < k
      · (repeat' (first|refine wS ?_|refine wE ?_|refine mS rfl ?_|(refine rg 4 (mW rfl (vV (iR rfl rfl (by omega)) (mW rfl (yN rfl (gT (cT [0] rfl rfl cL rfl rfl (aN.2 ⟨bZ,bB⟩) ⟨.inr g6,trivial⟩ (by simp) rfl ?_))))));refine yV (jU rfl rfl (by omega)) (pV ?_))|(refine nZ ?_)));all_goals try (exfalso;omega)
        all_goals exact hC _ _ (lM.of ((List.append_nil _).trans hso) (by repeat first|exact trivial|refine ⟨rfl,?_⟩)) (rest () trivial)
      · (repeat' (first|refine wS ?_|refine wE ?_|refine mS rfl ?_|(refine rg 4 (mW rfl (vV (jU rfl rfl (by omega)) (mV ?_)));(iterate 3 refine gF ?_);refine pV ?_)|(refine nZ ?_)));all_goals try (exfalso;omega)
        all_goals exact hC _ _ (lM.of rfl (by repeat first|exact trivial|refine ⟨rfl,?_⟩)) (rest () trivial)
    rintro _ _;generalize hbk : L.map (·.1) = bk at *;by_cases hs : s = some []
    · rw [decide_eq_true hs] at cD;by_cases hbe : oZ bk = l
      · rw [if_pos ⟨hs,hbe⟩] at hro;have key : qS l (.tup [.ptr 1 0,.b true]) X := by unfold qS;rw [hro];exact ⟨_,rfl,po,L,g7,hbk.symm,rfl⟩
        have key2 : qS l (.tup [.ptr 1 0,.b true]) (X.set 0 (rB s) ++ []) := by rw [List.append_nil,hso];exact key
        (repeat' (first|refine wS ?_|refine wK ?_|refine wR ?_|refine wU ?_|(refine rg 10 (mW rfl (cT [0] rfl rfl cD rfl rfl (aN.2 ⟨bZ,bB⟩) ⟨.inr g6,trivial⟩ (by simp) rfl ?_));refine vV (eF rfl) (mW rfl (yN rfl (yV (by exact gL rfl rfl hby (.cons hv .nil) rfl rfl) ?_)));refine yN rfl (yV (G6 rfl rfl hbe) (pV ?_)))|(refine rg 12 (mW rfl (nS ?_)))|refine nZ ?_));all_goals first | (exfalso;omega) | exact ⟨.inl rfl,_,rfl,key2⟩
      · rw [if_neg (fun h => hbe h.2)] at hro;have key : ∀ o,qS l (.tup [.v (.pointer none),.b false]) o := fun o => by unfold qS;rw [hro]
        (repeat' (first|refine wS ?_|refine wR ?_|refine wT ?_|(refine rg 10 (mW rfl (cT [0] rfl rfl cD rfl rfl (aN.2 ⟨bZ,bB⟩) ⟨.inr g6,trivial⟩ (by simp) rfl ?_));refine vV (eF rfl) (mW rfl (yN rfl (yV (by exact gL rfl rfl hby (.cons hv .nil) rfl rfl) ?_)));refine yN rfl (yV (AT rfl rfl hbe) (pV ?_)))|(refine rg 11 (nS ?_))|refine nZ ?_));all_goals first | (exfalso;omega) | exact ⟨.inl rfl,_,rfl,key _⟩
    · rw [decide_eq_false hs] at cD;rw [if_neg (fun h => hs h.1)] at hro;have key : ∀ o,qS l (.tup [.v (.pointer none),.b false]) o := fun o => by unfold qS;rw [hro]
      (repeat' (first|refine wS ?_|refine wR ?_|refine wT ?_|(refine rg 10 (mW rfl (cT [0] rfl rfl cD rfl rfl (aN.2 ⟨bZ,bB⟩) ⟨.inr g6,trivial⟩ (by simp) rfl ?_));refine vV (eF rfl) (mV ?_);(iterate 4 refine gF ?_);refine pV ?_)|(refine rg 11 (nS ?_))|refine nZ ?_));all_goals first | (exfalso;omega) | exact ⟨.inl rfl,_,rfl,key _⟩
end Go.Proofs.YtdiogjgohbbllaaGreatDoor
namespace Go.Or
open Go Go.Ab Go.Wr Go.Proofs.YtdiogjgohbbllaaGreatDoor
theorem X8 : ∀ {l : List Tk} {b : Int}, (∀ t, t ∈ l → 1 ≤ t.2) → eD l b ≤ iJ l
  | [],_,_ => uD _
  | t :: l,b,h => by
    have ih := X8 (l := l) (b := b) fun t ht => h t (aF _ ht);have h1 := h t aP;unfold iJ at ih ⊢;simp only [eD,List.map_cons,jK];split <;> omega
theorem K6 (a b : List Tk) : iJ (a ++ b) = iJ a + iJ b := by unfold iJ;rw [cQ,List.sum_append]
theorem K5 : ∀ {tk : List (List Tk)}, (∀ l, l ∈ tk → iJ l ≤ 20000) → iJ tk.flatten ≤ 20000 * tk.length
  | [],_ => by decide
  | l :: tk,h => by
    have ih := K5 fun l hl => h l (aF _ hl);have h1 := h l aP;rw [cE,K6,List.length_cons];omega
theorem oG.units {o : Od} (h : oG o) : iJ o.tk.flatten ≤ 400000 := by
  have hr := oP h.ws;have hf := h.few;have := K5 (tk := o.tk) fun l hlm => by
    by_cases h1 : o.st = 1
    · have hl := h.len h1;obtain ⟨i,hi⟩ := bX.1 hlm;have hil := (aA.1 hi).1;have hs := h.sum i _ l (aB (by omega : i < o.ws.length)) hi
      have h2 := hr.2.2 _ (aK (by omega : i < o.ws.length))
      omega
    · rw [h.tk0 h1] at hlm;cases hlm
  omega
theorem I0 : ∀ {bk : Bk}, (∀ o, o ∈ bk → oG o) → iJ (iO bk) ≤ 400000 * bk.length
  | [],_ => by decide
  | o :: bk,h => by
    have ih := I0 fun o ho => h o (aF _ ho);have h1 := (h o aP).units;unfold iO at ih ⊢;rw [fD,K6,List.length_cons];omega
theorem mX.sz {bk : Bk} (h : mX bk) : UD bk := by
  have hall : ∀ t,t ∈ iO bk → CG t := fun t ht => by
    obtain ⟨o,ho,ht⟩ := dK.1 ht;obtain ⟨l,hl,ht⟩ := sT.1 ht;exact (h.od o ho).ok l hl t ht
  refine ⟨h.le,fun o ho => ⟨by have := (h.od o ho).few.1;omega,fun l hl => by have := (h.od o ho).few.2 l hl;omega⟩,⟨fun t ht => ⟨(hall t ht).1,by have := (hall t ht).2.2.1;omega⟩,fun b => ?_⟩,fun o ho => by have := (oP (h.od o ho).ws).1;omega⟩
  have h1 := X8 (l := iO bk) (b := b) fun t ht => (hall t ht).2.2.1;have h2 := I0 h.od;have h3 := h.le;omega
theorem NI.getD {bk : Bk} (h : NI bk) (i : Nat) : ∀ w,w ∈ (bk.getD i gW).ws → sV w.1 := fun w hw => by
  rw [aD] at hw;cases e : bk[i]? with
  | none => rw [e] at hw;cases hw
  | some o => rw [e] at hw;exact h o (aH e) w hw
theorem NI.set {bk : Bk} (h : NI bk) {i : Nat} {o : Od} (ho : ∀ w,w ∈ o.ws → sV w.1) : NI (bk.set i o) := fun x hx => by
  rcases rJ hx with rfl | hx
  · exact ho
  · exact h x hx
theorem TH {ls : List Lo} {sure : List Bo} {bk : Bk} {o : Or.Op} (h : NI bk) (ho : ∀ w,w ∈ o.ws → sV w.1) : NI (T5 ls sure bk o).2 := by
  unfold T5;split
  · unfold zL;split
    · exact h
    · split
      · exact h
      · intro x hx;rcases bD.1 hx with hx | hx
        · exact h x hx
        · rw [bE.1 hx];exact ho
  split
  · unfold qH;split
    · exact h
    · split
      · exact h
      · exact h.set (h.getD _)
  split
  · unfold lZ;split
    · exact h
    · split
      · exact h
      · split
        · exact h
        · exact h.set (by rw [(uG _ _ _ _).1];exact h.getD _)
  have he : ∀ st ss,NI (qP bk o.no st ss).2 := fun st ss => by
    unfold qP;split
    · exact h
    · exact h.set (h.getD _)
  split
  · exact he _ _
  split
  · exact he _ _
  · exact h
abbrev WA (o : Or.Op) : List AV := [.i o.d,.i o.no,.i o.b,.i o.n,.i o.t,.rowE (bF o.ws) 3]
def WE (H : Hp) (A : List Nat) (a b : Int) (bk : Bk) (r : AV) (o : Hp) : Prop := ∃ pb A',r = .tup [.ptr pb 0,.i a,.i b] ∧ rC o pb bk A' ∧ Fr H A o A'
end Go.Or
namespace Go.Proofs.YtdiogjgohbbllaaGreatDoor
open Go Go.Ab Go.Or Go.Wr
attribute [local irreducible] VC AW bQ bN eT lF
set_option maxHeartbeats 4000000
theorem WW {H : Hp} {pb : Nat} {bk : Bk} {A : List Nat} (hB : rC H pb bk A) (ok : mX bk) (kn : NI bk) (hlen : bk.length ≤ 50) (ls : List Lo) (sure : List Bo) (hs : vZ ls sure) (o : Or.Op) (hw : o.ws.length ≤ 1000000) (u : AV) (hsu : BR H u sure) :
    eT Tryz.prog 12 [.ptr pb 0,.agg (WA o),.rowE (jE ls) 3,u] H (WE H A (T5 ls sure bk o).1.1 (T5 ls sure bk o).1.2 (T5 ls sure bk o).2) := by
  obtain ⟨d,no,b,n,t,ws⟩ := o;dsimp only at hw;have hB1 := hB.app [.gone];have hz := ok.sz;have hsu1 : BR (H ++ [.gone]) u sure := hsu.imp id fun ⟨k,h,hk⟩ => ⟨k,h,bO hk⟩
  have hform : u = .rowE (eY sure) 3 ∨ ∃ k,u = .sl k 0 sure.length 3 := hsu.imp id fun ⟨k,h,_⟩ => ⟨k,h⟩
  have fin : ∀ {a c : Int} {bk' : Bk} {o : Hp},(∃ A',rC o pb bk' A' ∧ Fr (H ++ [.gone]) A o A') → WE H A a c bk' (.tup [.ptr pb 0,.i a,.i c]) o := fun {a c bk' o} ⟨A',h1,h2⟩ => ⟨pb,A',rfl,h1,(Fr.app H _ A).trans h2⟩;have hask := MP hB1 ws t (by omega) hw
  have hpro := yS hB1 hz ls sure hs no u hsu1;have hsrv := EQ hB1 hz no b n t;have hwdr := CK hB1 no (by omega)
  have hgiv := LF hB1 no (by omega)
  have hcpy := LZ hB1 (by omega) hz.tk (fun o ho => by have := hz.ws o ho;omega)
  have hbb := P2 (fun o ho => ⟨ok.od o ho,kn o ho⟩) (by omega : bk.length ≤ 1000000)
  have hbl : (oZ bk).length ≤ 1000000000 := by omega
  have hby := FP bk (by omega) (fun o ho => (ok.od o ho).odI (kn o ho)) (by omega)
  have hrd := RW (oZ bk) hbl;have hrf := JP ok kn;have hvw := hB1.view;have hid : WE H A 0 0 bk (.tup [.ptr pb 0,.i 0,.i 0]) (H ++ [.gone]) := fin ⟨A,hB1,Fr.refl _ _⟩;refine jN T Tryz.func12 rfl rfl rfl rfl ?_;unfold T5;dsimp only;rcases hform with rfl | ⟨ku,rfl⟩
  all_goals
    (repeat' (first|refine wS ?_|(refine rg 0 (dX (gV rfl rfl) rfl (NO rfl (aV ?_))))|refine nZ ?_));refine iM 5 (cs := [.i d,.i no,.i b,.i n,.i t,.rowE (bF ws) 3]) rfl cK rfl ?_
    rw [jA];by_cases h0 : d = 0
    · rw [if_pos h0]
      (repeat' (first|refine wS ?_|refine wB ?_|refine wR ?_|(refine wC rfl ?_ ?_<;>(intro hb;(try simp only [nm] at hb);try (exfalso;omega)))|(refine rg 1 (LP T ?_))|(refine rg 2 (vV (cO rfl rfl) (aV ?_)))|(refine rg 3 (mW rfl (jP T rfl (jP T rfl (eI rfl rfl hask rfl ?_))));rintro _ _ ⟨rfl,hq⟩;dsimp only [eX];refine mW rfl (xW rfl (xW rfl (nS ?_))))|(refine rg 4 (fI rfl (mW rfl (NO rfl (aV ?_)))))|refine nZ ?_));all_goals first | (exfalso;omega) | exact ⟨.inl rfl,_,rfl,fin hq⟩
    rw [if_neg h0];by_cases h1 : d = 1
    · rw [if_pos h1]
      (repeat' (first|refine wS ?_|refine wB ?_|refine wR ?_|(refine wC rfl ?_ ?_<;>(intro hb;(try simp only [nm] at hb);try (exfalso;omega)))|(refine rg 1 (LP T ?_))|(refine rg 2 (vV (cO rfl rfl) (aV ?_)))|(refine rg 5 (vV (cO rfl rfl) (aV ?_)))|(refine rg 6 (fI rfl (jP T rfl (fI rfl (eI rfl rfl hpro rfl ?_))));rintro _ _ ⟨rfl,hq⟩;dsimp only [eX];refine NO rfl (aV ?_))|refine nZ ?_));all_goals first | (exfalso;omega) | exact ⟨.inl rfl,_,rfl,fin hq⟩
    rw [if_neg h1];by_cases h2 : d = 2
    · rw [if_pos h2]
      (repeat' (first|refine wS ?_|refine wB ?_|refine wR ?_|(refine wC rfl ?_ ?_<;>(intro hb;(try simp only [nm] at hb);try (exfalso;omega)))|(refine rg 1 (LP T ?_))|(refine rg 2 (vV (cO rfl rfl) (aV ?_)))|(refine rg 5 (vV (cO rfl rfl) (aV ?_)))|(refine rg 7 (vV (cO rfl rfl) (aV ?_)))|(refine rg 8 (fI rfl (jP T rfl (jP T rfl (jP T rfl (jP T rfl (eI rfl rfl hsrv rfl ?_))))));rintro _ _ ⟨rfl,hq⟩;dsimp only [eX];refine NO rfl (aV ?_))|refine nZ ?_));all_goals first | (exfalso;omega) | exact ⟨.inl rfl,_,rfl,fin hq⟩
    rw [if_neg h2];by_cases h3 : d = 3
    · rw [if_pos h3]
      (repeat' (first|refine wS ?_|refine wB ?_|refine wR ?_|(refine wC rfl ?_ ?_<;>(intro hb;(try simp only [nm] at hb);try (exfalso;omega)))|(refine rg 1 (LP T ?_))|(refine rg 2 (vV (cO rfl rfl) (aV ?_)))|(refine rg 5 (vV (cO rfl rfl) (aV ?_)))|(refine rg 7 (vV (cO rfl rfl) (aV ?_)))|(refine rg 9 (vV (cO rfl rfl) (aV ?_)))|(refine rg 10 (fI rfl (jP T rfl (eI rfl rfl hwdr rfl ?_)));rintro _ _ ⟨rfl,hq⟩;dsimp only [eX];refine NO rfl (aV ?_))|refine nZ ?_));all_goals first | (exfalso;omega) | exact ⟨.inl rfl,_,rfl,fin hq⟩
    rw [if_neg h3];by_cases h4 : d = 4
    · rw [if_pos h4]
      (repeat' (first|refine wS ?_|refine wB ?_|refine wR ?_|(refine wC rfl ?_ ?_<;>(intro hb;(try simp only [nm] at hb);try (exfalso;omega)))|(refine rg 1 (LP T ?_))|(refine rg 2 (vV (cO rfl rfl) (aV ?_)))|(refine rg 5 (vV (cO rfl rfl) (aV ?_)))|(refine rg 7 (vV (cO rfl rfl) (aV ?_)))|(refine rg 9 (vV (cO rfl rfl) (aV ?_)))|(refine rg 11 (vV (cO rfl rfl) (aV ?_)))|(refine rg 12 (fI rfl (jP T rfl (eI rfl rfl hgiv rfl ?_)));rintro _ _ ⟨rfl,hq⟩;dsimp only [eX];refine NO rfl (aV ?_))|refine nZ ?_));all_goals first | (exfalso;omega) | exact ⟨.inl rfl,_,rfl,fin hq⟩
    rw [if_neg h4];by_cases h5 : d = 5
    · (repeat' (first|refine wS ?_|refine wB ?_|refine wR ?_|(refine wC rfl (fun hb => ?_) (fun hb => ?_) <;> (((try simp only [nm] at hb);try (exfalso;omega))))|(refine rg 1 (LP T ?_))|(refine rg 2 (vV (cO rfl rfl) (aV ?_)))|(refine rg 5 (vV (cO rfl rfl) (aV ?_)))|(refine rg 7 (vV (cO rfl rfl) (aV ?_)))|(refine rg 9 (vV (cO rfl rfl) (aV ?_)))|(refine rg 11 (vV (cO rfl rfl) (aV ?_)))|(refine rg 13 (vV (cO rfl rfl) (aV ?_)))|(refine rg 14 (mW rfl (eI rfl rfl hcpy rfl ?_));rintro _ _ ⟨pb2,A2,rfl,hq1,hq2,hq3,hq4⟩;dsimp only [eX];refine NO rfl (aV ?_))|(refine nZ ?_)));all_goals first | (exfalso;omega) | exact ⟨.inl rfl,_,rfl,pb2,A2,rfl,hq1,(Fr.app H [.gone] A).trans ⟨hq3,fun k hk _ => hq4 k hk,fun k hk => .inr (hq2 k hk)⟩⟩
    by_cases h6 : d = 6
    · (repeat' (first|refine wS ?_|refine wB ?_|(refine wC rfl (fun hb => ?_) (fun hb => ?_) <;> (((try simp only [nm] at hb);try (exfalso;omega))))|(refine rg 1 (LP T ?_))|(refine rg 2 (vV (cO rfl rfl) (aV ?_)))|(refine rg 5 (vV (cO rfl rfl) (aV ?_)))|(refine rg 7 (vV (cO rfl rfl) (aV ?_)))|(refine rg 9 (vV (cO rfl rfl) (aV ?_)))|(refine rg 11 (vV (cO rfl rfl) (aV ?_)))|(refine rg 13 (vV (cO rfl rfl) (aV ?_)))|(refine rg 15 (vV (cO rfl rfl) (aV ?_)))|(refine rg 16 (mW rfl (vV (by exact gL rfl rfl hby (.cons hvw .nil) rfl rfl) ?_));refine uE [] rfl rfl hrd rfl rfl bB trivial (by simp) rfl ?_;rintro res hout hΦ;unfold qS at hΦ;rw [hrf] at hΦ;dsimp only at hΦ;obtain ⟨A2,rfl,hq⟩ := hΦ;dsimp only [eX];refine mW rfl (xW rfl (xW rfl (nS ?_))))|(refine nZ ?_)));all_goals try (exfalso;omega)
      all_goals
        obtain ⟨A3,hq3,hq4⟩ := hq.shift (H := H ++ [.gone]);refine hC [(13,.ptr (1 + (H ++ [AB.gone]).length) 0),(14,.b true)] ((H ++ [AB.gone]) ++ hout.map (AB.map (· + (H ++ [AB.gone]).length))) (lM.of (by rw [rY,dI];rfl) ⟨by rw [rY];rfl,rfl,trivial⟩) ?_
        have key : WE H A 0 0 bk (.tup [.ptr (1 + (H ++ [AB.gone]).length) 0,.i 0,.i 0]) ((H ++ [AB.gone]) ++ hout.map (AB.map (· + (H ++ [AB.gone]).length))) := ⟨_,A3,rfl,hq3,(Fr.app H [.gone] A).trans ⟨by rw [@aC _ (H ++ [AB.gone]) _];exact fA _ _,fun k hk _ => gN hk,fun k hk => .inr (hq4 k hk)⟩⟩
        (repeat' (first|refine wS ?_|refine wK ?_|refine wR ?_|refine wU ?_|(refine rg 17 (mW rfl (vV (eF rfl) ?_)))|(refine rg 19 (mW rfl (NO rfl (aV ?_))))|refine nZ ?_));all_goals first | (exfalso;omega) | exact ⟨.inl rfl,_,rfl,key⟩
    · (repeat' (first|refine wS ?_|refine wB ?_|refine wK ?_|refine wR ?_|(refine wC rfl (fun hb => ?_) (fun hb => ?_) <;> (((try simp only [nm] at hb);try (exfalso;omega))))|(refine rg 1 (LP T ?_))|(refine rg 2 (vV (cO rfl rfl) (aV ?_)))|(refine rg 5 (vV (cO rfl rfl) (aV ?_)))|(refine rg 7 (vV (cO rfl rfl) (aV ?_)))|(refine rg 9 (vV (cO rfl rfl) (aV ?_)))|(refine rg 11 (vV (cO rfl rfl) (aV ?_)))|(refine rg 13 (vV (cO rfl rfl) (aV ?_)))|(refine rg 15 (vV (cO rfl rfl) (aV ?_)))|(refine rg 20 (mW rfl (NO rfl (aV ?_))))|(refine nZ ?_)));all_goals first | (exfalso;omega) | exact ⟨.inl rfl,_,rfl,hid⟩
end Go.Proofs.YtdiogjgohbbllaaGreatDoor
namespace Go.Or
open Go Go.Ab Go.Wr Go.Proofs.YtdiogjgohbbllaaGreatDoor
def J4 (b : Bo) (n : Int) : Bool := decide ((0 ≤ b.2.2 ∧ b.2.2 ≤ 1000000) ∧ (-1 ≤ b.1 ∧ b.1 ≤ n - 1) ∧ (0 ≤ b.2.1 ∧ b.2.1 ≤ 20000) ∧ (0 ≤ b.1 ∨ b.2.1 = 0))
def KE (l : Lo) (n : Int) : Bool := decide ((0 ≤ l.1 ∧ l.1 ≤ n - 1) ∧ (0 ≤ l.2.1 ∧ l.2.1 ≤ 20000))
def pR (l : List Bo) : Int := (l.map (·.2.1)).sum
def R1 (n : Nat) (ls : List Lo) (bs : List Bo) : Bool := decide (ls.length ≤ 2000 ∧ bs.length ≤ 3000) && (ls.all (KE · n) && (bs.all (J4 · ls.length) && decide (pR bs ≤ 20000)))
theorem CO {l : List Bo} {k : Nat} (h : k < l.length) : pR (l.take (k + 1)) = pR (l.take k) + l[k].2.1 := by
  unfold pR;rw [aX h,cQ,List.sum_append];simp
theorem IW {l : List Bo} (h : ∀ b,b ∈ l → 0 ≤ b.2.1 ∧ b.2.1 ≤ 20000) : 0 ≤ pR l ∧ pR l ≤ 20000 * l.length := by
  induction l with
  | nil => decide
  | cons b l ih =>
    have h1 := ih fun b hb => h b (aF _ hb);have h2 := h b aP;unfold pR at h1 ⊢;rw [List.map_cons,jK,List.length_cons];omega
abbrev Kd := List UInt8 × Int
abbrev xD (l : List Kd) : List (List AV) := l.map fun k => [AV.s k.1,AV.i k.2]
theorem KV (l : List Kd) : ∀ e,e ∈ xD l → e.length = 2 := by intro e he;obtain ⟨n,_,rfl⟩ := aJ.1 he;rfl
theorem zF (l : List Kd) : (xD l).length = l.length := bJ _
theorem KW {l : List Kd} {k : Nat} (h : k < l.length) : (xD l)[(k : Int).toNat]? = some [AV.s l[k].1,AV.i l[k].2] := by simp [h]
abbrev kS (s : List UInt8) : Value := .string ⟨s.toArray⟩
theorem SQ {a b : List UInt8} (h : kS a = kS b) : a = b := by
  have := Value.string.inj h;simpa using this
abbrev UG (l : List Kd) : List Value := l.map fun k => kS k.1
abbrev VB (l : List Kd) : List AV := l.map fun _ => AV.b true
structure NJ (l : List Kd) : Prop where
  le : l.length ≤ 500
  nd : (l.map (·.1)).Nodup
  ok : ∀ k,k ∈ l → (1 ≤ k.1.length ∧ k.1.length ≤ 20) ∧ (1 ≤ k.2 ∧ k.2 ≤ 10000)
theorem DP (s : List UInt8) : MapKept.IsKey .string (kS s) := trivial
theorem QS (s : List UInt8) : IN (.s s) (kS s) := IN.v _
theorem KU (l : List Kd) : ∀ q,q ∈ UG l → MapKept.IsKey .string q := by
  intro q hq;obtain ⟨e,_,rfl⟩ := aJ.1 hq;exact DP _
theorem SO {l : List Kd} {s : List UInt8} (h : s ∉ l.map (·.1)) : kS s ∉ UG l := fun hm => by
  obtain ⟨e,he,e1⟩ := aJ.1 hm;exact h (aJ.2 ⟨e,he,SQ e1⟩)
theorem PE (l : List Kd) : AV.idfL (VB l) = true := by
  induction l with
  | nil => rfl
  | cons e m ih => exact ih
theorem NJ.new {l : List Kd} (h : NJ l) {k : Nat} (hk : k < l.length) : l[k].1 ∉ (l.take k).map (·.1) := fun hm => by
  have hnd := h.nd;have e := congrArg (List.map (·.1)) (bW k l).symm;rw [aS hk,cQ,List.map_cons] at e;rw [e,dW] at hnd;exact hnd.2.2 _ hm _ aP rfl
theorem WI (S : Nat → Prop) (w : World) (ρ : Pl) : R S w (.b false) ρ (.bool false) := by simp [R]
abbrev k3 : List Kd := [([97],1),([98],1),([99],1)]
theorem VD : NJ k3 := ⟨by decide,by decide,by decide⟩
def zI (ls : List Lo) (bs : List Bo) : Bool := decide (ls.length ≤ 20 ∧ bs.length ≤ 20) && R1 3 ls bs
theorem G4 {ls : List Lo} {bs : List Bo} (h : zI ls bs = true) : vZ ls bs := by
  unfold zI R1 at h;simp only [aL,decide_eq_true_eq,aT] at h;obtain ⟨⟨h1,h2⟩,_,h3,h4,h5⟩ := h;have hb : ∀ b,b ∈ bs → (0 ≤ b.2.1 ∧ b.2.1 ≤ 20000) ∧ (-1 ≤ b.1 ∧ b.1 < ls.length) := fun b hb => by
    have := h4 b hb;unfold J4 at this;rw [decide_eq_true_eq] at this;exact ⟨this.2.2.1,by omega,by omega⟩
  have hg : ∀ i,i < bs.length → bs.getD i (0,0,0) ∈ bs := fun i hi => by
    rw [aD,aB hi];exact aK hi
  refine ⟨by omega,h2,fun i hi => (hb _ (hg i hi)).2,fun b hb0 => ?_⟩
  unfold cnt;by_cases hbl : b.toNat < bs.length
  · exact (hb _ (hg _ hbl)).1
  · rw [aD,bK (by omega)];decide
theorem H9 {α : Type} {p : α → Bool} {l : List α} {k : Nat} (hk : k < l.length) (h : ∀ x,x ∈ l.take k → p x = true) (h2 : p l[k] = true) : ∀ x,x ∈ l.take (k + 1) → p x = true := fun x hx => by
  rw [aX hk] at hx;rcases bD.1 hx with hx | hx
  · exact h x hx
  · rw [bE.1 hx];exact h2
theorem U7 {α : Type} {p : α → Bool} {l : List α} {x : α} (hx : x ∈ l) (h : p x = false) : l.all p = false := by
  rw [List.all_eq_false];exact ⟨x,hx,by rw [h];decide⟩
end Go.Or
namespace Go.Proofs.YtdiogjgohbbllaaGreatDoor
open Go Go.Ab Go.Or Go.Wr
attribute [local irreducible] VC AW bQ bN eT lF
set_option maxHeartbeats 4000000
theorem H3 (n l h : Int) : bN Tryz.prog 58 [.i n,.i l,.i h] [] (.b (decide (l ≤ n ∧ n ≤ h))) [] := by
  refine dR T Tryz.func58 rfl rfl rfl rfl ?_;by_cases h1 : l ≤ n
  · by_cases h2 : n ≤ h
    · rw [decide_eq_true ⟨h1,h2⟩]
      (repeat' (first|refine wS ?_|refine wR ?_|(refine rg 0 (aV ?_))|(refine rg 1 (fI rfl (vV (fZ rfl rfl) (mV ?_)));refine bM rfl rfl ?_ ?_<;>(intro hb;rw [hb];(try simp only [nm] at hb);try (exfalso;omega));(all_goals (refine yN rfl (yN rfl (yV (iN rfl rfl) (pW rfl (aV ?_)))))))|refine nZ ?_));all_goals first | (exfalso;omega) | exact dZ (.inl rfl) rfl (by first | rfl | (simp [h1,h2];rfl) | (rw [decide_eq_true h2];rfl))
    · rw [decide_eq_false (fun h => h2 h.2)]
      (repeat' (first|refine wS ?_|refine wR ?_|(refine rg 0 (aV ?_))|(refine rg 1 (fI rfl (vV (fZ rfl rfl) (mV ?_)));refine bM rfl rfl ?_ ?_<;>(intro hb;rw [hb];(try simp only [nm] at hb);try (exfalso;omega));(all_goals (refine yN rfl (yN rfl (yV (iN rfl rfl) (pW rfl (aV ?_)))))))|refine nZ ?_));all_goals first | (exfalso;omega) | exact dZ (.inl rfl) rfl (by first | rfl | (rw [decide_eq_false h2];rfl))
  · rw [decide_eq_false (fun h => h1 h.1)]
    (repeat' (first|refine wS ?_|refine wR ?_|(refine rg 0 (aV ?_))|(refine rg 1 (fI rfl (vV (fZ rfl rfl) (mV ?_)));refine bM rfl rfl ?_ ?_<;>(intro hb;rw [hb];(try simp only [nm] at hb);try (exfalso;omega));(all_goals ((iterate 3 refine gF ?_);refine pW rfl (aV ?_))))|refine nZ ?_));all_goals first | (exfalso;omega) | exact dZ (.inl rfl) rfl (by first | rfl | (rw [decide_eq_false h1];rfl))
theorem DA (b : Bo) (n : Nat) (hn : n ≤ 1000000) : bN Tryz.prog 94 [.agg [.i b.1,.i b.2.1,.i b.2.2],.i n] [] (.b (J4 b n)) [] := by
  obtain ⟨l,c,t⟩ := b;have b1 := H3 t 0 1000000;have b2 := H3 l (-1) ((n : Int) - 1);have b3 := H3 c 0 20000;unfold J4;dsimp only;refine dR T Tryz.func94 rfl rfl rfl rfl ?_;by_cases h1 : 0 ≤ t ∧ t ≤ 1000000
  · rw [decide_eq_true h1] at b1;by_cases h2 : -1 ≤ l ∧ l ≤ (n : Int) - 1
    · rw [decide_eq_true h2] at b2;by_cases h3 : 0 ≤ c ∧ c ≤ 20000
      · rw [decide_eq_true h3] at b3;by_cases h4 : 0 ≤ l
        · rw [decide_eq_true ⟨h1,h2,h3,.inl h4⟩]
          (repeat' (first|refine wS ?_|refine wR ?_|(refine rg 0 (dX (gV rfl rfl) rfl (aV ?_)))|(refine rg 1 (jP T rfl (vV (by exact cP rfl rfl b1 rfl rfl rfl) ?_));refine mW rfl (yP T rfl (yO T rfl (yN rfl (yV (gO rfl rfl (by omega) (by omega)) (yV (by exact cP rfl rfl b2 rfl rfl rfl) ?_)))));refine pW rfl (mW rfl (yP T rfl (yO T rfl (yV (by exact cP rfl rfl b3 rfl rfl rfl) ?_))));refine pW rfl (mW rfl (yP T rfl (yO T rfl (yV (fZ rfl rfl) (yM ?_)))));refine bM rfl rfl ?_ ?_<;>(intro hb;rw [hb];(try simp only [nm] at hb);try (exfalso;omega));(all_goals ((iterate 3 refine gF ?_);refine gT (pW rfl (pW rfl (aV ?_))))))|refine nZ ?_));all_goals first | (exfalso;omega) | exact dZ (.inl rfl) rfl (by first | rfl | (rw [decide_eq_true h4];rfl))
        · by_cases h5 : c = 0
          · rw [decide_eq_true ⟨h1,h2,h3,.inr h5⟩]
            (repeat' (first|refine wS ?_|refine wR ?_|(refine rg 0 (dX (gV rfl rfl) rfl (aV ?_)))|(refine rg 1 (jP T rfl (vV (by exact cP rfl rfl b1 rfl rfl rfl) ?_));refine mW rfl (yP T rfl (yO T rfl (yN rfl (yV (gO rfl rfl (by omega) (by omega)) (yV (by exact cP rfl rfl b2 rfl rfl rfl) ?_)))));refine pW rfl (mW rfl (yP T rfl (yO T rfl (yV (by exact cP rfl rfl b3 rfl rfl rfl) ?_))));refine pW rfl (mW rfl (yP T rfl (yO T rfl (yV (fZ rfl rfl) (yM ?_)))));refine bM rfl rfl ?_ ?_<;>(intro hb;rw [hb];(try simp only [nm] at hb);try (exfalso;omega));(all_goals (refine yP T rfl (yO T rfl (yV (cO rfl rfl) (gT (pW rfl (pW rfl (aV ?_)))))))))|refine nZ ?_));all_goals first | (exfalso;omega) | exact dZ (.inl rfl) rfl (by first | rfl | (rw [decide_eq_true h5];rfl))
          · rw [decide_eq_false (fun h => h.2.2.2.elim h4 h5)]
            (repeat' (first|refine wS ?_|refine wR ?_|(refine rg 0 (dX (gV rfl rfl) rfl (aV ?_)))|(refine rg 1 (jP T rfl (vV (by exact cP rfl rfl b1 rfl rfl rfl) ?_));refine mW rfl (yP T rfl (yO T rfl (yN rfl (yV (gO rfl rfl (by omega) (by omega)) (yV (by exact cP rfl rfl b2 rfl rfl rfl) ?_)))));refine pW rfl (mW rfl (yP T rfl (yO T rfl (yV (by exact cP rfl rfl b3 rfl rfl rfl) ?_))));refine pW rfl (mW rfl (yP T rfl (yO T rfl (yV (fZ rfl rfl) (yM ?_)))));refine bM rfl rfl ?_ ?_<;>(intro hb;rw [hb];(try simp only [nm] at hb);try (exfalso;omega));(all_goals (refine yP T rfl (yO T rfl (yV (cO rfl rfl) (gT (pW rfl (pW rfl (aV ?_)))))))))|refine nZ ?_));all_goals first | (exfalso;omega) | exact dZ (.inl rfl) rfl (by first | rfl | (rw [decide_eq_false h5];rfl))
      · rw [decide_eq_false h3] at b3;rw [decide_eq_false (fun h => h3 h.2.2.1)]
        (repeat' (first|refine wS ?_|refine wR ?_|(refine rg 0 (dX (gV rfl rfl) rfl (aV ?_)))|(refine rg 1 (jP T rfl (vV (by exact cP rfl rfl b1 rfl rfl rfl) ?_));refine mW rfl (yP T rfl (yO T rfl (yN rfl (yV (gO rfl rfl (by omega) (by omega)) (yV (by exact cP rfl rfl b2 rfl rfl rfl) ?_)))));refine pW rfl (mW rfl (yP T rfl (yO T rfl (yV (by exact cP rfl rfl b3 rfl rfl rfl) ?_))));refine pW rfl (mV ?_);(iterate 4 refine gF ?_);(iterate 3 refine gU ?_);refine gF (pW rfl (aV ?_)))|refine nZ ?_));all_goals first | (exfalso;omega) | exact rQ
    · rw [decide_eq_false h2] at b2;rw [decide_eq_false (fun h => h2 h.2.1)]
      (repeat' (first|refine wS ?_|refine wR ?_|(refine rg 0 (dX (gV rfl rfl) rfl (aV ?_)))|(refine rg 1 (jP T rfl (vV (by exact cP rfl rfl b1 rfl rfl rfl) ?_));refine mW rfl (yP T rfl (yO T rfl (yN rfl (yV (gO rfl rfl (by omega) (by omega)) (yV (by exact cP rfl rfl b2 rfl rfl rfl) ?_)))));refine pW rfl (mV ?_);(iterate 3 refine gF ?_);refine pW rfl (mV ?_);(iterate 4 refine gF ?_);(iterate 3 refine gU ?_);refine gF (pW rfl (aV ?_)))|refine nZ ?_));all_goals first | (exfalso;omega) | exact rQ
  · rw [decide_eq_false h1] at b1;rw [decide_eq_false (fun h => h1 h.1)]
    (repeat' (first|refine wS ?_|refine wR ?_|(refine rg 0 (dX (gV rfl rfl) rfl (aV ?_)))|(refine rg 1 (jP T rfl (vV (by exact cP rfl rfl b1 rfl rfl rfl) ?_));refine mV ?_;(iterate 5 refine gF ?_);refine pW rfl (mV ?_);(iterate 3 refine gF ?_);refine pW rfl (mV ?_);(iterate 4 refine gF ?_);(iterate 3 refine gU ?_);refine gF (pW rfl (aV ?_)))|refine nZ ?_));all_goals first | (exfalso;omega) | exact rQ
theorem NV (l : List Bo) (hl : l.length ≤ 1000000) (h : ∀ b,b ∈ l → 0 ≤ b.2.1 ∧ b.2.1 ≤ 20000) : bN Tryz.prog 95 [.rowE (eY l) 3] [] (.i (pR l)) [] := by
  have hll := jG l;refine dR T Tryz.func95 rfl rfl rfl rfl ?_
  (repeat' (first|refine wS ?_|refine wB ?_|(refine rg 0 (aV ?_))|(refine rg 1 (aV ?_))|(refine rg 2 (mW rfl (qW T rfl (mV ?_))))|refine nZ ?_));refine eZ (X := {k : Nat // k ≤ l.length}) (fun k => [(3,.i (pR (l.take k.1))),(6,.rowE (eY l) 3),(7,.i (eY l).length),(8,.i k.1)]) (fun _ => []) (fun k => l.length - k.1) ⟨0,bS _⟩ ⟨[],rfl,by (repeat (first | exact trivial | refine ⟨rfl,?_⟩)),trivial,bB,nX _⟩ ?_
  rintro ⟨k,hk⟩;dsimp only;by_cases hlt : k < l.length
  · have hg := U0 hlt;have hu := CO hlt;have h1 := IW (l := l.take k) fun b hb => h b (gB hb);have h2 := h _ (aK hlt);have hgd : l.getD k (0,0,0) = l[k] := by rw [aD,aB hlt];rfl
    rw [hgd] at hg;rw [bT] at h1;generalize l[k] = b at *;obtain ⟨b1,b2,b3⟩ := b;dsimp only at *;generalize pR (l.take k) = u at *
    (repeat' (first|refine wS ?_|refine wB ?_|refine wK ?_|(refine wC rfl ?_ ?_<;>(intro hb;(try simp only [nm] at hb);try (exfalso;omega)))|(refine rg 3 (vV (bC rfl rfl) ?_))|(refine rg 4 (vV (ix T rfl (by omega) (pX _) hg) (lW T rfl (dX (cX T rfl) rfl (bH T rfl rfl rfl rfl rfl rfl (by decide) rfl ?_)))))|(refine rg 5 (mW rfl (jP T rfl (vV (eC rfl rfl (by omega) (by omega)) (aV ?_)))))|(refine rg 6 (vV (eC rfl rfl (by omega) (by omega)) (mV ?_)))|refine nZ ?_));all_goals first | (exfalso;omega) | exact ⟨⟨k + 1,hlt⟩,by dsimp only;omega,[],rfl,by dsimp only;rw [hu];(repeat (first | exact trivial | refine ⟨rfl,?_⟩)),trivial,bB,nX _⟩
  · obtain rfl : k = l.length := by omega
    rw [dY]
    (repeat' (first|refine wS ?_|refine wR ?_|refine wE ?_|(refine wC rfl ?_ ?_<;>(intro hb;(try simp only [nm] at hb);try (exfalso;omega)))|(refine rg 3 (vV (bC rfl rfl) ?_))|(refine rg 7 (mW rfl (aV ?_)))|refine nZ ?_));all_goals first | (exfalso;omega) | exact rQ
theorem QN : Tryz.prog.underlying 158 = some (.map 9 4) := by kernel_rfl
theorem QI : pD Tryz.prog 9 (MapKept.IsKey .string) := pD.plain (by kernel_rfl)
theorem XM : ∀ w,(zeroValue 4).run Tryz.prog w = .ok (.bool false) w := W3 (by kernel_rfl)
theorem R0 (l : List Kd) (h : NJ l) : bN Tryz.prog 93 [.rowE (xD l) 2] [] (.b true) [] := by
  have hll := zF l;have hle := h.le;refine dR T Tryz.func93 rfl rfl rfl rfl ?_
  (repeat' (first|refine wS ?_|refine wB ?_|(refine rg 0 (aV ?_))|(refine rg 1 (dX (by exact O7) rfl ?_);refine aV ?_)|(refine rg 2 (mW rfl (qW T rfl (mV ?_))))|refine nZ ?_));refine eZ (X := {k : Nat // k ≤ l.length}) (fun k => [(0,.rowE (xD l) 2),(3,.mp 0),(7,.rowE (xD l) 2),(8,.i (xD l).length),(9,.i k.1)]) (fun k => [.mapO (UG (l.take k.1)) (VB (l.take k.1))]) (fun k => l.length - k.1) ⟨0,bS _⟩ ⟨[0],rfl,by (repeat (first | exact trivial | refine ⟨rfl,?_⟩)),⟨.inr rfl,trivial⟩,by decide,nX _⟩ ?_
  rintro ⟨k,hk⟩;dsimp only;by_cases hlt : k < l.length
  · have hg := KW hlt;have hn := SO (h.new hlt);obtain ⟨o1,o2⟩ := h.ok _ (aK hlt);have e1 : UG (l.take (k + 1)) = UG (l.take k) ++ [kS l[k].1] := by rw [UG,aX hlt,cQ];rfl
    have e2 : VB (l.take (k + 1)) = VB (l.take k) ++ [.b true] := by rw [VB,aX hlt,cQ];rfl
    have hgo := KU (l.take k);generalize l[k] = x at *;obtain ⟨knm,wt⟩ := x;dsimp only at *;have b1 := H3 knm.length 1 20;have b2 := H3 wt 1 10000;rw [decide_eq_true ⟨by omega,by omega⟩] at b1
    rw [decide_eq_true o2] at b2
    (repeat' (first|refine wS ?_|refine wB ?_|refine wK ?_|(refine wC rfl ?_ ?_<;>(intro hb;(try simp only [nm] at hb);try (exfalso;omega)))|(refine rg 3 (vV (bC rfl rfl) ?_))|(refine rg 4 (vV (ix T rfl (by omega) (KV _) hg) (lW T rfl (dX (cX T rfl) rfl (bH T rfl rfl rfl rfl rfl rfl (by decide) rfl ?_)))))|refine nZ ?_));all_goals try (exfalso;omega)
    refine iM 5 (cs := [.s knm,.i wt]) rfl rfl rfl ?_
    (repeat' (first|refine wK ?_|refine wU ?_|(refine rg 5 (jP T rfl (vV (mR jJ rfl) (vV (by exact cP rfl rfl b1 rfl rfl rfl) ?_)));refine vV (eF rfl) (mW rfl (yP T rfl (yO T rfl (yV (by exact cP rfl rfl b2 rfl rfl rfl) ?_))));refine yV (eF rfl) (pW rfl (mW rfl (yN rfl (yP T rfl (yO T rfl (yV (by exact A6 (zA := .b false) QN QI XM WI rfl rfl (QS _) rfl hgo (DP _) hn) ?_))))));refine pV ?_)|(refine rg 7 (mW rfl (jP T rfl (K0 QN QI rfl rfl (QS _) rfl rfl hgo (DP _) hn ?_))))|(refine rg 8 (vV (eC rfl rfl (by omega) (by omega)) (mV ?_)))|refine nZ ?_));all_goals try (exfalso;omega)
    all_goals exact ⟨⟨k + 1,hlt⟩,by dsimp only;omega,[0],rfl,by (repeat (first | exact trivial | refine ⟨rfl,?_⟩)),⟨.inr (qD rfl e1.symm e2.symm (PE _)),trivial⟩,by decide,nX _⟩
  · obtain rfl : k = l.length := by omega
    (repeat' (first|refine wS ?_|refine wR ?_|refine wE ?_|(refine wC rfl ?_ ?_<;>(intro hb;(try simp only [nm] at hb);try (exfalso;omega)))|(refine rg 3 (vV (bC rfl rfl) ?_))|(refine rg 9 (mW rfl (qW T rfl (vV (iN rfl rfl) (aV ?_)))))|refine nZ ?_));all_goals first | (exfalso;omega) | exact dZ (.inl rfl) rfl (by first | rfl | (rw [decide_eq_true (by omega)];rfl))
theorem Q5 (ks : List Kd) (ls : List Lo) (bs : List Bo) (hk : NJ ks) (hl : ls.length ≤ 1000000) (hbs : bs.length ≤ 1000000) : bN Tryz.prog 43 [.rowE (xD ks) 2,.rowE (jE ls) 3,.rowE (eY bs) 3] [] (.b (R1 ks.length ls bs)) [] := by
  have hkl := zF ks;have hll := qM ls;have hbl := jG bs;have hk5 := hk.le;have hrk := R0 ks hk;unfold R1;refine dR T Tryz.func43 rfl rfl rfl rfl ?_;by_cases hA : ls.length ≤ 2000 ∧ bs.length ≤ 3000
  case neg =>
    rw [decide_eq_false hA,nN]
    (repeat' (first|refine wS ?_|refine wR ?_|refine wT ?_|(refine rg 0 (aV ?_))|(refine rg 1 (mW rfl (qW T rfl (vV (fY rfl rfl) (mV ?_))));refine bM rfl rfl ?_ ?_<;>(intro hb;rw [hb];(try simp only [nm] at hb);try (exfalso;omega));(all_goals first|(refine gT (mW rfl (gT (qW T rfl (gT (vV (fY rfl rfl) ?_))))))|(iterate 3 refine gF ?_));(all_goals (refine pW rfl (mV ?_)));(all_goals first|(refine gK ?_)|(refine bM rfl rfl ?_ ?_<;>(intro hb;rw [hb];(try simp only [nm] at hb);try (exfalso;omega))));(all_goals ((iterate 3 refine gF ?_);refine pV ?_)))|(refine rg 2 (aV ?_))|refine nZ ?_));all_goals first | (exfalso;omega) | exact rQ
  rw [decide_eq_true hA,pE]
  (repeat' (first|refine wS ?_|refine wB ?_|refine wK ?_|refine wU ?_|(refine rg 0 (aV ?_))|(refine rg 1 (mW rfl (qW T rfl (vV (fY rfl rfl) (mV ?_))));refine bM rfl rfl ?_ ?_<;>(intro hb;rw [hb];(try simp only [nm] at hb);try (exfalso;omega));(all_goals (refine yN rfl (gT (qW T rfl (yV (fY rfl rfl) (pW rfl (mV ?_)))));refine bM rfl rfl ?_ ?_<;>(intro hb;rw [hb];(try simp only [nm] at hb);try (exfalso;omega))));(all_goals (refine yN rfl (yV (kC (hrk)) (yV (eF rfl) (pV ?_))))))|(refine rg 3 (mW rfl (qW T rfl (mV ?_))))|refine nZ ?_));all_goals try (exfalso;omega)
  refine eZ (X := {k : Nat // k ≤ ls.length ∧ ∀ x,x ∈ ls.take k → KE x ks.length = true}) (fun k => [(0,.rowE (xD ks) 2),(1,.rowE (jE ls) 3),(2,.rowE (eY bs) 3),(24,.rowE (jE ls) 3),(25,.i (jE ls).length),(26,.i k.1)]) (fun _ => []) (fun k => ls.length - k.1) ⟨0,bS _,fun x hx => by simp at hx⟩ ⟨[],rfl,by (repeat (first | exact trivial | refine ⟨rfl,?_⟩)),trivial,bB,nX _⟩ ?_
  rintro ⟨k,hk1,hk2⟩;dsimp only;by_cases hlt : k < ls.length
  · have hg : (jE ls)[(k : Int).toNat]? = some [AV.i ls[k].1,AV.i ls[k].2.1,AV.b ls[k].2.2] := by simp [hlt]
    have hnx := H9 (p := (KE · ks.length)) hlt hk2;have hno := U7 (p := (KE · ks.length)) (aK hlt)
    try dsimp only at hnx hno
    generalize ls[k] = x at *;obtain ⟨x1,x2,x3⟩ := x;dsimp only at *;have b1 := H3 x1 0 ((ks.length : Int) - 1);have b2 := H3 x2 0 20000;rw [← hkl] at b1;by_cases h1 : 0 ≤ x1 ∧ x1 ≤ ((xD ks).length : Int) - 1
    · rw [decide_eq_true h1] at b1;rw [hkl] at h1;by_cases h2 : 0 ≤ x2 ∧ x2 ≤ 20000
      · rw [decide_eq_true h2] at b2;have hny := hnx (decide_eq_true ⟨h1,h2⟩)
        (repeat' (first|refine wS ?_|refine wB ?_|refine wK ?_|(refine wC rfl ?_ ?_<;>(intro hb;(try simp only [nm] at hb);try (exfalso;omega)))|(refine rg 4 (vV (bC rfl rfl) ?_))|(refine rg 5 (vV (ix T rfl (by omega) (zD _) hg) (lW T rfl (dX (cX T rfl) rfl (bH T rfl rfl rfl rfl rfl rfl (by decide) rfl ?_)))))|refine nZ ?_));all_goals try (exfalso;omega)
        refine iM 8 (cs := [.i x1,.i x2,.b x3]) rfl rfl rfl ?_
        (repeat' (first|refine wK ?_|refine wU ?_|(refine rg 6 (jP T rfl (mW rfl (qW T rfl (vV (gO rfl rfl (by omega) (by omega)) (vV (by exact cP rfl rfl b1 rfl rfl rfl) ?_)))));refine vV (eF rfl) (mW rfl (yP T rfl (yO T rfl (yV (by exact cP rfl rfl b2 rfl rfl rfl) ?_))));refine yV (eF rfl) (pV ?_))|(refine rg 8 (vV (eC rfl rfl (by omega) (by omega)) (mV ?_)))|refine nZ ?_));all_goals first | (exfalso;omega) | exact ⟨⟨k + 1,hlt,hny⟩,by dsimp only;omega,[],rfl,by (repeat (first | exact trivial | refine ⟨rfl,?_⟩)),trivial,bB,nX _⟩
      · rw [decide_eq_false h2] at b2;rw [hno (decide_eq_false (fun h => h2 h.2)),nN]
        (repeat' (first|refine wS ?_|refine wB ?_|refine wK ?_|(refine wC rfl ?_ ?_<;>(intro hb;(try simp only [nm] at hb);try (exfalso;omega)))|(refine rg 4 (vV (bC rfl rfl) ?_))|(refine rg 5 (vV (ix T rfl (by omega) (zD _) hg) (lW T rfl (dX (cX T rfl) rfl (bH T rfl rfl rfl rfl rfl rfl (by decide) rfl ?_)))))|refine nZ ?_));all_goals try (exfalso;omega)
        refine iM 8 (cs := [.i x1,.i x2,.b x3]) rfl rfl rfl ?_
        (repeat' (first|refine wS ?_|refine wR ?_|refine wT ?_|(refine rg 6 (jP T rfl (mW rfl (qW T rfl (vV (gO rfl rfl (by omega) (by omega)) (vV (by exact cP rfl rfl b1 rfl rfl rfl) ?_)))));refine vV (eF rfl) (mW rfl (yP T rfl (yO T rfl (yV (by exact cP rfl rfl b2 rfl rfl rfl) ?_))));refine yV (eF rfl) (pV ?_))|(refine rg 7 (aV ?_))|refine nZ ?_));all_goals first | (exfalso;omega) | exact rQ
    · rw [decide_eq_false h1] at b1;rw [hkl] at h1;rw [hno (decide_eq_false (fun h => h1 h.1)),nN]
      (repeat' (first|refine wS ?_|refine wB ?_|refine wK ?_|(refine wC rfl ?_ ?_<;>(intro hb;(try simp only [nm] at hb);try (exfalso;omega)))|(refine rg 4 (vV (bC rfl rfl) ?_))|(refine rg 5 (vV (ix T rfl (by omega) (zD _) hg) (lW T rfl (dX (cX T rfl) rfl (bH T rfl rfl rfl rfl rfl rfl (by decide) rfl ?_)))))|refine nZ ?_));all_goals try (exfalso;omega)
      refine iM 8 (cs := [.i x1,.i x2,.b x3]) rfl rfl rfl ?_
      (repeat' (first|refine wS ?_|refine wR ?_|refine wT ?_|(refine rg 6 (jP T rfl (mW rfl (qW T rfl (vV (gO rfl rfl (by omega) (by omega)) (vV (by exact cP rfl rfl b1 rfl rfl rfl) ?_)))));refine vV (eF rfl) (mV ?_);(iterate 4 refine gF ?_);refine pV ?_)|(refine rg 7 (aV ?_))|refine nZ ?_));all_goals first | (exfalso;omega) | exact rQ
  · obtain rfl : k = ls.length := by omega
    rw [dY] at hk2;rw [show ls.all (KE · ks.length) = true from aT.2 hk2,pE]
    (repeat' (first|refine wS ?_|refine wB ?_|refine wE ?_|(refine wC rfl ?_ ?_<;>(intro hb;(try simp only [nm] at hb);try (exfalso;omega)))|(refine rg 4 (vV (bC rfl rfl) ?_))|(refine rg 9 (mW rfl (qW T rfl (mV ?_))))|refine nZ ?_));all_goals try (exfalso;omega)
    refine eZ (X := {k : Nat // k ≤ bs.length ∧ ∀ x,x ∈ bs.take k → J4 x ls.length = true}) (fun k => [(0,.rowE (xD ks) 2),(1,.rowE (jE ls) 3),(2,.rowE (eY bs) 3),(44,.rowE (eY bs) 3),(45,.i (eY bs).length),(46,.i k.1)]) (fun _ => []) (fun k => bs.length - k.1) ⟨0,bS _,fun x hx => by simp at hx⟩ ⟨[],rfl,by (repeat (first | exact trivial | refine ⟨rfl,?_⟩)),trivial,bB,nX _⟩ ?_
    rintro ⟨k,hk1,hk3⟩;dsimp only;by_cases hlt2 : k < bs.length
    · have hg : (eY bs)[(k : Int).toNat]? = some [AV.i bs[k].1,AV.i bs[k].2.1,AV.i bs[k].2.2] := by simp [hlt2]
      have hnx := H9 (p := (J4 · ls.length)) hlt2 hk3;have hno := U7 (p := (J4 · ls.length)) (aK hlt2);have b1 := DA bs[k] ls.length (by omega)
      generalize bs[k] = x at *;obtain ⟨x1,x2,x3⟩ := x;rw [← hll] at b1;cases ho : J4 (x1,x2,x3) ls.length with
      | true =>
        rw [hll,ho] at b1;rw [← hll] at b1;have hny := hnx ho
        (repeat' (first|refine wS ?_|refine wB ?_|refine wK ?_|(refine wC rfl ?_ ?_<;>(intro hb;(try simp only [nm] at hb);try (exfalso;omega)))|(refine rg 10 (vV (bC rfl rfl) ?_))|(refine rg 11 (vV (ix T rfl (by omega) (pX _) hg) (lW T rfl (dX (cX T rfl) rfl (bH T rfl rfl rfl rfl rfl rfl (by decide) rfl ?_)))))|refine nZ ?_));all_goals try (exfalso;omega)
        refine iM 10 (cs := [.i x1,.i x2,.i x3]) rfl rfl rfl ?_
        (repeat' (first|refine wK ?_|refine wU ?_|(refine rg 12 (lW T rfl (mW rfl (qW T rfl (vV (by exact cP rfl rfl b1 rfl rfl rfl) ?_))));refine vV (eF rfl) ?_)|(refine rg 14 (vV (eC rfl rfl (by omega) (by omega)) (mV ?_)))|refine nZ ?_));all_goals first | (exfalso;omega) | exact ⟨⟨k + 1,hlt2,hny⟩,by dsimp only;omega,[],rfl,by (repeat (first | exact trivial | refine ⟨rfl,?_⟩)),trivial,bB,nX _⟩
      | false =>
        rw [hll,ho] at b1;rw [← hll] at b1;rw [hno ho,nN]
        (repeat' (first|refine wS ?_|refine wB ?_|refine wK ?_|(refine wC rfl ?_ ?_<;>(intro hb;(try simp only [nm] at hb);try (exfalso;omega)))|(refine rg 10 (vV (bC rfl rfl) ?_))|(refine rg 11 (vV (ix T rfl (by omega) (pX _) hg) (lW T rfl (dX (cX T rfl) rfl (bH T rfl rfl rfl rfl rfl rfl (by decide) rfl ?_)))))|refine nZ ?_));all_goals try (exfalso;omega)
        refine iM 10 (cs := [.i x1,.i x2,.i x3]) rfl rfl rfl ?_
        (repeat' (first|refine wS ?_|refine wR ?_|refine wT ?_|(refine rg 12 (lW T rfl (mW rfl (qW T rfl (vV (by exact cP rfl rfl b1 rfl rfl rfl) ?_))));refine vV (eF rfl) ?_)|(refine rg 13 (aV ?_))|refine nZ ?_));all_goals first | (exfalso;omega) | exact rQ
    · obtain rfl : k = bs.length := by omega
      rw [dY] at hk3;rw [show bs.all (J4 · ls.length) = true from aT.2 hk3,pE]
      have hu := NV bs hbs fun b hb => by
        have := hk3 b hb;unfold J4 at this;rw [decide_eq_true_eq] at this;exact this.2.2.1
      (repeat' (first|refine wS ?_|refine wR ?_|refine wE ?_|(refine wC rfl ?_ ?_<;>(intro hb;(try simp only [nm] at hb);try (exfalso;omega)))|(refine rg 10 (vV (bC rfl rfl) ?_))|(refine rg 15 (mW rfl (vV (by exact cP rfl rfl hu rfl rfl rfl) ?_));refine vV (iN rfl rfl) (aV ?_))|refine nZ ?_));all_goals first | (exfalso;omega) | exact rQ
end Go.Proofs.YtdiogjgohbbllaaGreatDoor
namespace Go.Or
open Go Go.Ab Go.Wr Go.Proofs.YtdiogjgohbbllaaGreatDoor
abbrev sO (l : List Or.Op) : List (List AV) := l.map WA
theorem vI (l : List Or.Op) : ∀ e,e ∈ sO l → e.length = 6 := by intro e he;obtain ⟨n,_,rfl⟩ := aJ.1 he;rfl
theorem M8 (l : List Or.Op) : (sO l).length = l.length := bJ _
theorem KD {l : List Or.Op} {k : Nat} (h : k < l.length) : (sO l)[(k : Int).toNat]? = some (WA l[k]) := by simp [h]
def FO (l : List Or.Op) (n : Nat) : Bool := l.all (fun o => decide (o.ws.length ≤ 6)) && decide (l.length ≤ n)
end Go.Or
namespace Go.Proofs.YtdiogjgohbbllaaGreatDoor
open Go Go.Ab Go.Or Go.Wr
attribute [local irreducible] VC AW bQ bN eT lF
set_option maxHeartbeats 4000000
theorem PS (ks : List Kd) (ls : List Lo) (bs : List Bo) (n : Nat) (hk : ∀ k,k ∈ ks → k.1.length ≤ 30) (hkn : ks.length ≤ n) (hn : n ≤ 1000000) (hl : ls.length ≤ 9223372036854775807) (hbs : bs.length ≤ 9223372036854775807) :
    bN Tryz.prog 42 [.rowE (xD ks) 2,.rowE (jE ls) 3,.rowE (eY bs) 3,.i n] [] (.b (decide (ls.length ≤ n ∧ bs.length ≤ n))) [] := by
  have hkl := zF ks;have hll := qM ls;have hbl := jG bs;refine dR T Tryz.func42 rfl rfl rfl rfl ?_
  (repeat' (first|refine wS ?_|refine wB ?_|(refine rg 0 (aV ?_))|(refine rg 1 (aV ?_))|refine nZ ?_));refine eZ (X := {k : Nat // k ≤ ks.length}) (fun k => [(0,.rowE (xD ks) 2),(1,.rowE (jE ls) 3),(2,.rowE (eY bs) 3),(3,.i n),(9,.i k.1)]) (fun _ => []) (fun k => ks.length - k.1) ⟨0,bS _⟩ ⟨[],rfl,by (repeat (first | exact trivial | refine ⟨rfl,?_⟩)),trivial,bB,nX _⟩ ?_
  rintro ⟨k,hk1⟩;dsimp only;by_cases hlt : k < ks.length
  · have hg := KW hlt;have hx := hk _ (aK hlt);generalize ks[k] = x at *;obtain ⟨knm,wt⟩ := x;dsimp only at *
    (repeat' (first|refine wS ?_|refine wB ?_|refine wK ?_|(refine wC rfl ?_ ?_<;>(intro hb;(try simp only [nm] at hb);try (exfalso;omega)))|(refine rg 2 (fI rfl (vV (oK T rfl rfl) (vV (bC rfl rfl) (mV ?_))));refine bM rfl rfl ?_ ?_<;>(intro hb;rw [hb];(try simp only [nm] at hb);try (exfalso;omega));(all_goals (refine yN rfl (yN rfl (yV (iN rfl rfl) (pV ?_))))))|(refine rg 4 (fI rfl (vV (ix T rfl (by omega) (KV _) hg) (jP T rfl (vV (mR jJ rfl) (vV (fY rfl rfl) ?_))))))|(refine iA 3 rfl rfl rfl (by omega) (by omega) ?_)|refine nZ ?_));all_goals first | (exfalso;omega) | exact ⟨⟨k + 1,hlt⟩,by dsimp only;omega,[],rfl,by (repeat (first | exact trivial | refine ⟨rfl,?_⟩)),trivial,bB,nX _⟩
  · obtain rfl : k = ks.length := by omega
    by_cases h1 : ls.length ≤ n
    · by_cases h2 : bs.length ≤ n
      · rw [decide_eq_true ⟨h1,h2⟩]
        (repeat' (first|refine wS ?_|refine wR ?_|refine wE ?_|refine wU ?_|(refine rg 2 (fI rfl (qW T rfl (vV (bC rfl rfl) (mV ?_))));refine bM rfl rfl ?_ ?_<;>(intro hb;rw [hb];(try simp only [nm] at hb);try (exfalso;omega));(all_goals ((iterate 3 refine gF ?_);refine pV ?_)))|(refine rg 6 (mW rfl (qW T rfl (mW rfl (vV (iN rfl rfl) (mV ?_)))));refine bM rfl rfl ?_ ?_<;>(intro hb;rw [hb];(try simp only [nm] at hb);try (exfalso;omega));(all_goals (refine yN rfl (gT (qW T rfl (yN rfl (yV (iN rfl rfl) (pW rfl (mV ?_))))));refine bM rfl rfl ?_ ?_<;>(intro hb;rw [hb];(try simp only [nm] at hb);try (exfalso;omega))));(all_goals (refine yN rfl (gT (qW T rfl (yN rfl (yV (iN rfl rfl) (pW rfl (aV ?_)))))))))|refine nZ ?_));all_goals first | (exfalso;omega) | exact dZ (.inl rfl) rfl (by first | rfl | (rw [decide_eq_true (by omega)];rfl))
      · rw [decide_eq_false (fun h => h2 h.2)]
        (repeat' (first|refine wS ?_|refine wR ?_|refine wE ?_|refine wU ?_|(refine rg 2 (fI rfl (qW T rfl (vV (bC rfl rfl) (mV ?_))));refine bM rfl rfl ?_ ?_<;>(intro hb;rw [hb];(try simp only [nm] at hb);try (exfalso;omega));(all_goals ((iterate 3 refine gF ?_);refine pV ?_)))|(refine rg 6 (mW rfl (qW T rfl (mW rfl (vV (iN rfl rfl) (mV ?_)))));refine bM rfl rfl ?_ ?_<;>(intro hb;rw [hb];(try simp only [nm] at hb);try (exfalso;omega));(all_goals (refine yN rfl (gT (qW T rfl (yN rfl (yV (iN rfl rfl) (pW rfl (mV ?_))))));refine bM rfl rfl ?_ ?_<;>(intro hb;rw [hb];(try simp only [nm] at hb);try (exfalso;omega))));(all_goals (refine yN rfl (gT (qW T rfl (yN rfl (yV (iN rfl rfl) (pW rfl (aV ?_)))))))))|refine nZ ?_));all_goals first | (exfalso;omega) | exact dZ (.inl rfl) rfl (by first | rfl | (rw [decide_eq_false (by omega)];rfl))
    · rw [decide_eq_false (fun h => h1 h.1)]
      (repeat' (first|refine wS ?_|refine wR ?_|refine wE ?_|refine wU ?_|(refine rg 2 (fI rfl (qW T rfl (vV (bC rfl rfl) (mV ?_))));refine bM rfl rfl ?_ ?_<;>(intro hb;rw [hb];(try simp only [nm] at hb);try (exfalso;omega));(all_goals ((iterate 3 refine gF ?_);refine pV ?_)))|(refine rg 6 (mW rfl (qW T rfl (mW rfl (vV (iN rfl rfl) (mV ?_)))));refine bM rfl rfl ?_ ?_<;>(intro hb;rw [hb];(try simp only [nm] at hb);try (exfalso;omega));(all_goals (refine yN rfl (gT (qW T rfl (yN rfl (yV (iN rfl rfl) (pW rfl (mV ?_))))));refine bM rfl rfl ?_ ?_<;>(intro hb;rw [hb];(try simp only [nm] at hb);try (exfalso;omega))));(all_goals ((iterate 4 refine gF ?_);refine pW rfl (aV ?_))))|refine nZ ?_));all_goals first | (exfalso;omega) | exact dZ (.inl rfl) rfl (by first | rfl | (rw [decide_eq_false (by omega)];rfl))
theorem PR (l : List Or.Op) (n : Nat) (hl : l.length ≤ 9223372036854775807) : bN Tryz.prog 8 [.rowE (sO l) 6,.i n] [] (.b (FO l n)) [] := by
  have hll := M8 l;unfold FO;refine dR T Tryz.func8 rfl rfl rfl rfl ?_
  (repeat' (first|refine wS ?_|refine wB ?_|(refine rg 0 (aV ?_))|(refine rg 1 (aV ?_))|refine nZ ?_));refine eZ (X := {k : Nat // k ≤ l.length ∧ ∀ o,o ∈ l.take k → decide (o.ws.length ≤ 6) = true}) (fun k => [(0,.rowE (sO l) 6),(1,.i n),(5,.i k.1)]) (fun _ => []) (fun k => l.length - k.1) ⟨0,bS _,fun x hx => by simp at hx⟩ ⟨[],rfl,by (repeat (first | exact trivial | refine ⟨rfl,?_⟩)),trivial,bB,nX _⟩ ?_
  rintro ⟨k,hk1,hk2⟩;dsimp only;by_cases hlt : k < l.length
  · have hg := KD hlt;have hnx := H9 (p := fun o : Or.Op => decide (o.ws.length ≤ 6)) hlt hk2;have hno := U7 (p := fun o : Or.Op => decide (o.ws.length ≤ 6)) (aK hlt);generalize l[k] = o at *;have hwl := gR o.ws;by_cases h6 : o.ws.length ≤ 6
    · have hny := hnx (decide_eq_true h6)
      (repeat' (first|refine wS ?_|refine wB ?_|refine wK ?_|(refine wC rfl ?_ ?_<;>(intro hb;(try simp only [nm] at hb);try (exfalso;omega)))|(refine rg 2 (fI rfl (qW T rfl (vV (bC rfl rfl) ?_))))|(refine rg 4 (fI rfl (vV (ix T rfl (by omega) (vI _) hg) (jP T rfl (qW T rfl (vV (fY rfl rfl) ?_))))))|(refine iA 3 rfl rfl rfl (by omega) (by omega) ?_)|refine nZ ?_));all_goals first | (exfalso;omega) | exact ⟨⟨k + 1,hlt,hny⟩,by dsimp only;omega,[],rfl,by (repeat (first | exact trivial | refine ⟨rfl,?_⟩)),trivial,bB,nX _⟩
    · rw [hno (decide_eq_false h6),nN]
      (repeat' (first|refine wS ?_|refine wB ?_|refine wK ?_|refine wR ?_|(refine wC rfl ?_ ?_<;>(intro hb;(try simp only [nm] at hb);try (exfalso;omega)))|(refine rg 2 (fI rfl (qW T rfl (vV (bC rfl rfl) ?_))))|(refine rg 4 (fI rfl (vV (ix T rfl (by omega) (vI _) hg) (jP T rfl (qW T rfl (vV (fY rfl rfl) ?_))))))|(refine rg 5 (aV ?_))|refine nZ ?_));all_goals first | (exfalso;omega) | exact rQ
  · obtain rfl : k = l.length := by omega
    rw [dY] at hk2;rw [show l.all (fun o => decide (o.ws.length ≤ 6)) = true from aT.2 hk2,pE]
    by_cases h2 : l.length ≤ n
    · rw [decide_eq_true h2]
      (repeat' (first|refine wS ?_|refine wR ?_|refine wE ?_|(refine wC rfl ?_ ?_<;>(intro hb;(try simp only [nm] at hb);try (exfalso;omega)))|(refine rg 2 (fI rfl (qW T rfl (vV (bC rfl rfl) ?_))))|(refine rg 6 (mW rfl (qW T rfl (mW rfl (vV (iN rfl rfl) (aV ?_))))))|refine nZ ?_));all_goals first | (exfalso;omega) | exact dZ (.inl rfl) rfl (by first | rfl | (rw [decide_eq_true (by omega)];rfl))
    · rw [decide_eq_false h2]
      (repeat' (first|refine wS ?_|refine wR ?_|refine wE ?_|(refine wC rfl ?_ ?_<;>(intro hb;(try simp only [nm] at hb);try (exfalso;omega)))|(refine rg 2 (fI rfl (qW T rfl (vV (bC rfl rfl) ?_))))|(refine rg 6 (mW rfl (qW T rfl (mW rfl (vV (iN rfl rfl) (aV ?_))))))|refine nZ ?_));all_goals first | (exfalso;omega) | exact dZ (.inl rfl) rfl (by first | rfl | (rw [decide_eq_false (by omega)];rfl))
theorem PI (ls : List Lo) (bs : List Bo) (hl : ls.length ≤ 9223372036854775807) (hbs : bs.length ≤ 9223372036854775807) : bN Tryz.prog 9 [.rowE (jE ls) 3,.rowE (eY bs) 3] [] (.b (zI ls bs)) [] := by
  have c1 := PS k3 ls bs 20 (by decide) (by decide) (by decide) (by omega) (by omega)
  have c2 := fun (h : ls.length ≤ 20 ∧ bs.length ≤ 20) => Q5 k3 ls bs VD (by omega) (by omega)
  rw [show k3.length = 3 from rfl] at c2
  unfold zI;refine dR T Tryz.func9 rfl rfl rfl rfl ?_
  (repeat' (first|refine wS ?_|(refine rg 0 (aV ?_))|(refine rg 1 (vV (by exact iG T rfl rfl rfl rfl) ?_);refine vV (by exact iG T rfl rfl rfl rfl) ?_;refine vV (by exact iG T rfl rfl rfl rfl) ?_;refine dX (by exact cJ T rfl rfl (by decide) (by decide) rfl rfl rfl) rfl ?_;refine aV ?_)|refine nZ ?_));refine EG 5 (es := xD k3) rfl rfl rfl rfl ?_
  by_cases h : ls.length ≤ 20 ∧ bs.length ≤ 20
  · have c2 := c2 h;rw [decide_eq_true h] at c1 ⊢;rw [pE]
    (repeat' (first|refine wR ?_|(refine rg 2 (fI rfl (mW rfl (vV (by exact cP rfl rfl c1 rfl rfl rfl) ?_)));refine mW rfl (yN rfl (yN rfl (yN rfl (yV (by exact cP rfl rfl c2 rfl rfl rfl) ?_))));refine pW rfl (aV ?_))|refine nZ ?_));all_goals first | (exfalso;omega) | exact rQ
  · rw [decide_eq_false h] at c1 ⊢;rw [nN]
    (repeat' (first|refine wR ?_|(refine rg 2 (fI rfl (mW rfl (vV (by exact cP rfl rfl c1 rfl rfl rfl) ?_)));refine mV ?_;(iterate 4 refine gF ?_);refine pW rfl (aV ?_))|refine nZ ?_));all_goals first | (exfalso;omega) | exact rQ
end Go.Proofs.YtdiogjgohbbllaaGreatDoor
namespace Go.Or
open Go Go.Ab Go.Wr Go.Proofs.YtdiogjgohbbllaaGreatDoor
theorem jL {X : Hp} {a b : AB} : (X ++ [a]).set X.length b = X ++ [b] := by simp
end Go.Or
namespace Go.Proofs.YtdiogjgohbbllaaGreatDoor
open Go Go.Ab Go.Or Go.Wr
attribute [local irreducible] VC AW bQ bN eT lF
set_option maxHeartbeats 4000000
def AR (bk : Bk) (no : Int) : AV := if no < 0 ∨ (bk.length : Int) ≤ no then .tup [.agg [.nils,.i 0,.i 0],.b false] else .tup [UV (bk.getD no.toNat gW),.b true]
theorem SV {H : Hp} {pb : Nat} {bk : Bk} {A : List Nat} (hB : rC H pb bk A) (no : Int) (hl : bk.length ≤ 1000000) (hw : ∀ o,o ∈ bk → o.ws.length ≤ 1000000) :
    eT Tryz.prog 14 [.ptr pb 0,.i no] H (fun r o => r = AR bk no ∧ ∃ Z,o = H ++ Z) := by
  obtain ⟨po,L,h,rfl,rfl⟩ := hB;rw [bJ] at hl;have hbk := h.b;have ho := h.o;unfold AR;refine jN T Tryz.func14 rfl rfl rfl rfl ?_;by_cases hr : no < 0 ∨ (L.length : Int) ≤ no
  · rw [if_pos (by simpa using hr)]
    (repeat' (first|refine wS ?_|refine wR ?_|refine wT ?_|(refine wC rfl ?_ ?_<;>(intro hb;(try simp only [nm] at hb);try (exfalso;omega)))|(refine rg 0 (dX (cX T rfl) rfl (aV ?_)))|(refine rg 1 (mW rfl (vV (bC rfl rfl) (mV ?_)));refine bM rfl rfl ?_ ?_<;>(intro hb;rw [hb];(try simp only [nm] at hb);try (exfalso;omega));(all_goals first|(refine gT (mW rfl (gT (mW rfl (gT (nV ?_)))));refine gT (fW T rfl (gT (vV (by exact aY T rfl rfl (cM (bO hbk)) rfl) ?_)));refine gT (qW T rfl (gT (vV (fZ rfl rfl) ?_))))|(iterate 7 refine gF ?_));(all_goals (refine pV ?_)))|(refine rg 2 (vV (by exact iG T rfl rfl rfl rfl) ?_);refine bH T rfl rfl rfl rfl rfl rfl (by decide) (lN cK rfl rfl) (aV ?_))|refine nZ ?_));all_goals first | (exfalso;omega) | exact ⟨.inl rfl,_,nB T rfl rfl rfl (cM (fU (by simp))) rfl,rfl,_,jL⟩
  · obtain ⟨e,he,hge⟩ := F3 (L := L) (i := no.toNat) (by omega)
    rw [if_neg (by simpa using hr),hge]
    have hg := wW he;have hcl := uQ e.1.ws (hw _ (aJ.2 ⟨e,aH he,rfl⟩))
    (repeat' (first|refine wS ?_|refine wK ?_|(refine wC rfl ?_ ?_<;>(intro hb;(try simp only [nm] at hb);try (exfalso;omega)))|(refine rg 0 (dX (cX T rfl) rfl (aV ?_)))|(refine rg 1 (mW rfl (vV (bC rfl rfl) (mV ?_)));refine bM rfl rfl ?_ ?_<;>(intro hb;rw [hb];(try simp only [nm] at hb);try (exfalso;omega));(all_goals (refine yN rfl (yN rfl (gT (nV ?_)));refine yP T rfl (yV (by exact aY T rfl rfl (cM (bO hbk)) rfl) ?_);refine gT (qW T rfl (yV (fZ rfl rfl) (pV ?_))))))|(refine rg 3 (mW rfl (nV ?_));refine fW T rfl (vV (by exact aY T rfl rfl (cM (bO hbk)) rfl) ?_);refine mW rfl (vV (by exact cN T rfl rfl rfl rfl rfl (by omega) (by omega)) ?_);refine fW T rfl (vV (by exact aY T rfl rfl (eG (bO ho) hg) rfl) ?_);refine dX (cX T rfl) rfl (bH T rfl rfl rfl rfl rfl rfl (by decide) (lN cK rfl rfl) ?_))|refine nZ ?_));all_goals try (exfalso;omega)
    rw [jL];generalize hX : H ++ [AB.cells (List.map AV.v [Value.slice none 0 0,Value.int IntKind.i64 0,Value.int IntKind.i64 0])] = X1;have hX1 : X1[H.length]? = some (.cells [.nils,.i 0,.i 0]) := by rw [← hX];exact cK
    have hlen : H.length ≠ X1.length := by rw [← hX];simp
    have hpre : ∀ c d,∃ Z,(X1 ++ [AB.cells c]).set H.length (.cells d) = H ++ Z := fun c d => ⟨[.cells d,.cells c],by rw [← hX,bG,sK _ _ (aO _)];simp⟩
    (repeat' (first|refine wS ?_|(refine rg 4 (fW T rfl (vV (by exact aY T rfl rfl (cM cK) rfl) ?_));refine vV (by exact oW rfl rfl hcl (.cons (.row _ _ _) .nil) (gR _).symm (Z1 _) (P1 _)) ?_;refine fW T rfl (bH T rfl rfl rfl rfl rfl rfl (by decide) (lN cK rfl rfl) ?_))|refine nZ ?_));rw [jL]
    refine hC [(4,.ptr H.length 0),(6,.ptr X1.length 0)] (X1 ++ [.cells [.rowE (bF e.1.ws) 3,.i e.1.due,.i e.1.st]]) (lM.of rfl ⟨rfl,rfl,trivial⟩) ?_
    (repeat' (first|refine wR ?_|(refine rg 5 (vV (by exact aY T rfl rfl (cM cK) rfl) ?_);refine bH T rfl rfl rfl rfl rfl rfl (by decide) (lN (bO hX1) rfl rfl) (aV ?_))|refine nZ ?_));all_goals exact ⟨.inl rfl,_,nB T rfl rfl rfl (cM (fU (by rw [aC,← hX];simp;omega))) rfl,rfl,hpre _ _⟩
end Go.Proofs.YtdiogjgohbbllaaGreatDoor
namespace Go.Ab
open Go
theorem tX {P : Program} {f : FuncId} {args : List AV} {res : AV} (hi : res.idf = true) (h : eT P f args [] (fun r _ => r = res)) : bN P f args [] res [] := by
  refine ⟨h.1,fun ρ S w vs hs ha => (h.2 ρ S w vs hs ha).mono ?_⟩;rintro e w' ⟨r,hout,rfl,y,ρ',S',rfl,h2,h3⟩;have h4 := h2.sub (L := []) (h' := []) rfl trivial bB (WC);exact ⟨y,_,S',rfl,h4,I4 _ _ _ _ hi h3⟩
end Go.Ab
namespace Go.Or
open Go Go.Ab Go.Wr Go.Proofs.YtdiogjgohbbllaaGreatDoor
abbrev PC : List Lo := [(0,9,false)]
abbrev wI : List Bo := [(0,3,0)]
abbrev CI : List Wt := [(0,2,5)]
abbrev WX : Bk := [⟨CI,7,0,[]⟩]
abbrev VP : Bk := [⟨CI,7,1,[[(0,2)]]⟩]
abbrev VO : Bk := [⟨CI,7,1,[[(0,2)]]⟩,⟨CI,9,0,[]⟩]
abbrev XI : Bk := [⟨CI,7,2,[]⟩,⟨CI,9,0,[]⟩]
theorem e1 : zL [] CI 7 = ((0,0),WX) := by decide
theorem e2 : qH PC wI WX 0 = (0,VP) := by decide
theorem e3 : mJ VP 0 = 2 := by decide
theorem e4 : zL VP CI 9 = ((1,0),VO) := by decide
theorem e5 : qH PC wI VO 1 = (22,VO) := by decide
theorem e6 : lZ VO 0 0 2 7 = (0,XI) := by decide
theorem X7 : vZ PC wI := G4 (by decide : zI PC wI = true)
theorem WB : mX WX := by have := C7 (ws := CI) (due := 7) mX.nil;rw [e1] at this;exact this
theorem UU : mX VP := by have := E8 (ls := PC) (sure := wI) (no := 0) WB (by decide);rw [e2] at this;exact this
theorem XD : mX VO := by have := C7 (ws := CI) (due := 9) UU;rw [e4] at this;exact this
end Go.Or
namespace Go.Proofs.YtdiogjgohbbllaaGreatDoor
open Go Go.Ab Go.Or Go.Wr
attribute [local irreducible] VC AW bQ bN eT lF
set_option maxHeartbeats 4000000
def NC (P : Program) (t e : TypeId) : Prop := P.underlying t = some (.pointer e)
theorem OI : NC Tryz.prog 28 93 := by unfold NC;kernel_rfl
section
variable {P : Program} {env : cI} {h : Hp} {d : Option Nat} {ty : TypeId} {pos : String} {af : Array Edge} {g : Option (Nat × Bool)} {t t2 te : TypeId} {x y : Operand} {u z : AV}
theorem S4 (ht : NC P t te) (hx : evu env x = some u) (hz : u.plus 0 = some z) (hy : evu env y = some (.v (.pointer none))) : bQ P ⟨d,.binOp .eql t x y t2,ty,pos,af,g⟩ env h 0 (fun _ => .b false) (fun _ => []) := G5 ht hx hz hy
end
attribute [local irreducible] NC
theorem QL : bN Tryz.prog 41 [] [] (.rowE (bF CI) 3) [] := by
  refine IE (len := 1) rfl rfl ?_;refine dR T Tryz.func41 rfl rfl rfl rfl ?_
  (repeat' (first|refine wS ?_|refine wR ?_|(refine rg 0 (aV ?_))|(refine rg 1 (vV (by exact iG T rfl rfl rfl rfl) ?_);refine dX (by exact cJ T rfl rfl (by decide) (by decide) rfl rfl rfl) rfl ?_;refine aV ?_)|refine nZ ?_));all_goals exact ⟨.inl rfl,[0],_,rfl,rfl,rfl,⟨.inr rfl,trivial⟩,by decide,nX _⟩
theorem OD : eT Tryz.prog 7 [] [] (fun r _ => r = .b true) := by
  refine jN T Tryz.func7 rfl rfl rfl rfl ?_
  (repeat' (first|refine wS ?_|(refine rg 0 (aV ?_))|(refine rg 1 (vV (by exact iG T rfl rfl rfl rfl) ?_);refine dX (by exact cJ T rfl rfl (by decide) (by decide) rfl rfl rfl) rfl ?_;refine aV ?_)|refine nZ ?_));refine EG 1 (es := jE PC) rfl rfl rfl rfl ?_
  (repeat' (first|refine wS ?_|(refine rg 2 (vV (by exact iG T rfl rfl rfl rfl) ?_);refine dX (by exact cJ T rfl rfl (by decide) (by decide) rfl rfl rfl) rfl ?_;refine aV ?_)|refine nZ ?_));refine EG 2 (es := eY wI) rfl rfl rfl rfl ?_
  (repeat' (first|refine wS ?_|refine wK ?_|refine wU ?_|(refine rg 3 (cT [] rfl rfl KM rfl rfl (by decide) trivial (by simp) rfl ?_);refine aV ?_)|(refine rg 4 (mW rfl (vV (by exact S4 OI rfl rfl rfl) ?_)))|refine nZ ?_));all_goals try (exfalso;omega)
  refine xR 2 0 4 rfl rfl (by decide) ?_
  have hB0 : rC ([.gone,.gone,.cells [.sl 3 0 0 4],.arr [] 4] : Hp) 2 [] [2,3] := ⟨3,[],⟨rfl,rfl,fun e he => (nomatch he),by decide⟩,rfl,rfl⟩
  refine hC [(1,.rowE (jE PC) 3),(2,.rowE (eY wI) 3),(3,.ptr 2 0)] [.gone,.gone,.cells [.sl 3 0 0 4],.arr [] 4] (lM.of rfl (by repeat first|exact trivial|refine ⟨rfl,?_⟩)) ?_
  generalize ([.gone,.gone,.cells [.sl 3 0 0 4],.arr [] 4] : Hp) = X0 at *;have c1 := MP hB0 CI 7 (by decide) (by decide)
  rw [e1] at c1
  (repeat' (first|refine wS ?_|(refine rg 6 (mW rfl (vV (kC (QL)) (eI rfl rfl c1 rfl ?_)));rintro _ X1 ⟨rfl,A1,hB1,_⟩;dsimp only [eX];refine mW rfl (xW rfl (xW rfl (nS ?_))))|refine nZ ?_));have c2 := yS hB1 WB.sz PC wI X7 0 _ (.inl rfl)
  rw [e2] at c2
  (repeat' (first|refine wS ?_|(refine rg 7 (fI rfl (mW rfl (eI rfl rfl c2 rfl ?_)));rintro _ X2 ⟨rfl,A2,hB2,_⟩;dsimp only [eX];refine aV ?_)|refine nZ ?_));have c3 := DD VP 0 (by decide) UU.sz.tk UU.sz.sum.bk
  rw [e3] at c3;have hv2 := hB2.view;have c4 := MP hB2 CI 9 (by decide) (by decide)
  rw [e4] at c4
  (repeat' (first|refine wS ?_|(refine rg 8 (mW rfl (vV (by exact gL rfl rfl c3 (.cons hv2 (.cons (.v _) .nil)) rfl rfl) ?_));refine aV ?_)|(refine rg 9 (mW rfl (vV (kC (QL)) (eI rfl rfl c4 rfl ?_)));rintro _ X3 ⟨rfl,A3,hB3,_⟩;dsimp only [eX];refine mW rfl (xW rfl (xW rfl (nS ?_))))|refine nZ ?_));have c5 := yS hB3 XD.sz PC wI X7 1 _ (.inl rfl)
  rw [e5] at c5
  (repeat' (first|refine wS ?_|(refine rg 10 (fI rfl (mW rfl (eI rfl rfl c5 rfl ?_)));rintro _ X4 ⟨rfl,A4,hB4,_⟩;dsimp only [eX];refine aV ?_)|refine nZ ?_));have c6 := EQ hB4 XD.sz 0 0 2 7
  rw [e6] at c6
  (repeat' (first|refine wS ?_|(refine rg 11 (mW rfl (eI rfl rfl c6 rfl ?_));rintro _ X5 ⟨rfl,A5,hB5,_⟩;dsimp only [eX];refine aV ?_)|refine nZ ?_));have c7 := SV hB5 0 (by decide) (by decide)
  rw [show AR XI 0 = .tup [UV ⟨CI,7,2,[]⟩,.b true] from rfl] at c7
  (repeat' (first|refine wS ?_|refine wR ?_|(refine rg 12 (mW rfl (eI rfl rfl c7 rfl ?_));rintro _ X6 ⟨rfl,Z6,rfl⟩;dsimp only [eX];refine mW rfl (xW rfl (xW rfl (dX (cX T rfl) rfl (bH T rfl rfl rfl rfl rfl rfl (by decide) (lN cK rfl rfl) (aV ?_))))))|(refine rg 13 (mW rfl (vV (cO rfl rfl) (mW rfl (yN rfl (yV (cO rfl rfl) (pW rfl (mW rfl (yN rfl (yV (cO rfl rfl) ?_)))))))));refine pW rfl (mW rfl (yN rfl (yV (cO rfl rfl) (pW rfl (mW rfl (yN rfl (yV (cO rfl rfl) (pW rfl (mV ?_)))))))));refine yN rfl (yV (cO rfl rfl) (pW rfl (mW rfl (yN rfl (yV (cO rfl rfl) (pW rfl (mW rfl (yN rfl (yV (cO rfl rfl) ?_)))))))));refine pW rfl (mW rfl (yN rfl (pW rfl (mW rfl (yP T rfl (yV (by exact aY T rfl rfl (cM (fU (by simp))) rfl) ?_))))));refine yV (cO rfl rfl) (pW rfl (aV ?_)))|refine nZ ?_));all_goals first | (exfalso;omega) | exact ⟨.inl rfl,_,rfl,rfl⟩
theorem D8 : bN Tryz.prog 7 [] [] (.b true) [] := tX rfl OD
end Go.Proofs.YtdiogjgohbbllaaGreatDoor
namespace Go.Proofs.YtdiogjgohbbllaaGreatDoor
open Go Go.Ab Go.Or Go.Wr
def CA (P : Program) (t n : Nat) : Prop := qN P t n = true
theorem RJ : CA Tryz.prog 100 3 := by unfold CA;kernel_rfl
section
variable {P : Program} {env : cI} {h : Hp} {d : Option Nat} {ty : TypeId} {pos : String} {af : Array Edge} {g : Option (Nat × Bool)}
theorem LK {t t2 : TypeId} {x y : Operand} {a b c : Int} (ht : CA P t 3) (hx : evu env x = some (.agg [.i a,.i b,.i c])) (hy : evu env y = some (.agg [.i a,.i b,.i c])) : bQ P ⟨d,.binOp .neq t x y t2,ty,pos,af,g⟩ env h 0 (fun _ => .b false) (fun _ => []) := by
  have : bQ P ⟨d,.binOp .neq t x y t2,ty,pos,af,g⟩ env h 0 (fun _ => .b (!decide ([a,b,c] = [a,b,c]))) (fun _ => []) := S8 ht hx hy rfl rfl;simpa using this
end
attribute [local irreducible] VC AW bQ bN eT lF CA
set_option maxHeartbeats 4000000
theorem Y8 (o : Od) (hl : o.ws.length ≤ 1000000) : bN Tryz.prog 16 [UV o,UV o] [] (.b true) [] := by
  have hll := gR o.ws;refine dR T Tryz.func16 rfl rfl rfl rfl ?_
  (repeat' (first|refine wS ?_|(refine rg 0 (dX (gV rfl rfl) rfl (dX (gV rfl rfl) rfl (aV ?_))))|refine nZ ?_));refine iM 2 (cs := [.rowE (bF o.ws) 3,.i o.due,.i o.st]) rfl rfl rfl ?_
  refine iM 3 (cs := [.rowE (bF o.ws) 3,.i o.due,.i o.st]) rfl rfl rfl ?_
  (repeat' (first|refine wS ?_|refine wB ?_|refine wK ?_|refine wU ?_|(refine rg 1 (jP T rfl (jP T rfl (vV (nE rfl rfl rfl) (mW rfl (yP T rfl (yO T rfl (yP T rfl (yO T rfl (yV (nE rfl rfl rfl) ?_)))))))));refine pW rfl (mW rfl (yP T rfl (yO T rfl (gT (qW T rfl (yP T rfl (yO T rfl (gT (qV T ?_)))))))));refine yV (nE rfl rfl rfl) (pV ?_))|(refine rg 3 (aV ?_))|refine nZ ?_));all_goals try first | (exfalso;omega;done) | exact absurd trivial hb
  refine eZ (X := {k : Nat // k ≤ o.ws.length}) (fun k => [(2,.pr [.rowE (bF o.ws) 3,.i o.due,.i o.st] 0),(3,.pr [.rowE (bF o.ws) 3,.i o.due,.i o.st] 0),(5,.i k.1)]) (fun _ => []) (fun k => o.ws.length - k.1) ⟨0,bS _⟩ ⟨[],rfl,by (repeat (first | exact trivial | refine ⟨rfl,?_⟩)),trivial,bB,nX _⟩ ?_
  rintro ⟨k,hk⟩;dsimp only;by_cases hlt : k < o.ws.length
  · have hg := UH hlt;generalize o.ws.getD k (0,0,0) = w at *
    (repeat' (first|refine wS ?_|refine wB ?_|refine wK ?_|refine wU ?_|(refine wC rfl ?_ ?_<;>(intro hb;(try simp only [nm] at hb);try (exfalso;omega)))|(refine rg 4 (mW rfl (jP T rfl (qW T rfl (vV (bC rfl rfl) ?_)))))|(refine eN (id := 6) 45 [[],[0],[],[0,1,2],rN 4,[],[5],[],[5,6,7],rM 5 4,rN 10] (rM 34 11) [[],[],[34,35],[],[],rM 34 5,rM 34 5,rM 34 7,rM 34 5,rM 34 5,[]] fH rfl (by decide +kernel) (dP T rfl (dO T rfl (dN rfl (dV rfl (ix T rfl (by omega) (sW _) hg) (dO T rfl (dP T rfl (dO T rfl (dN rfl (dV rfl (ix T rfl (by omega) (sW _) hg) ?_)))))))));refine dO T rfl (dV rfl (by exact LK RJ rfl rfl) ?_);refine dE ?_)|(refine iA 5 rfl rfl rfl (by omega) (by omega) ?_)|refine nZ ?_));all_goals first | (exfalso;omega) | exact ⟨⟨k + 1,hlt⟩,by dsimp only;omega,[],rfl,by (repeat (first | exact trivial | refine ⟨rfl,?_⟩)),trivial,bB,nX _⟩
  · obtain rfl : k = o.ws.length := by omega
    (repeat' (first|refine wS ?_|refine wR ?_|refine wE ?_|(refine wC rfl ?_ ?_<;>(intro hb;(try simp only [nm] at hb);try (exfalso;omega)))|(refine rg 4 (mW rfl (jP T rfl (qW T rfl (vV (bC rfl rfl) ?_)))))|(refine rg 8 (aV ?_))|refine nZ ?_));all_goals first | (exfalso;omega) | exact rQ
def HF (a b : Int) : Bool := decide ((a = 0 ∧ (b = 1 ∨ b = 4)) ∨ (a = 1 ∧ (b = 2 ∨ b = 3 ∨ b = 4)))
theorem PA (a b : Int) (h : HF a b = true) : bN Tryz.prog 17 [.i a,.i b] [] (.b true) [] := by
  unfold HF at h;rw [decide_eq_true_eq] at h;refine dR T Tryz.func17 rfl rfl rfl rfl ?_;rcases h with ⟨rfl,rfl | rfl⟩ | ⟨rfl,rfl | rfl | rfl⟩
  all_goals
    (repeat' (first|refine wS ?_|refine wK ?_|refine wR ?_|refine wT ?_|refine wU ?_|(refine rg 0 (aV ?_))|(refine rg 1 (mW rfl (vV (cO rfl rfl) ?_)))|(refine rg 2 (mW rfl (vV (cO rfl rfl) (mV ?_)));(all_goals first|(refine gT (mW rfl (gT (vV (cO rfl rfl) ?_))))|(iterate 2 refine gF ?_));(all_goals (refine pW rfl (aV ?_))))|(refine rg 3 (mW rfl (vV (cO rfl rfl) (mW rfl (yN rfl (yV (cO rfl rfl) (yM ?_))))));(all_goals first|(refine gT (mW rfl (gT (vV (cO rfl rfl) ?_))))|(iterate 2 refine gF ?_));(all_goals (refine gT (pW rfl (yM ?_))));(all_goals first|(refine gT (mW rfl (gT (vV (cO rfl rfl) ?_))))|(iterate 2 refine gF ?_));(all_goals (refine gT (pW rfl (pW rfl (aV ?_))))))|refine nZ ?_));all_goals first | (exfalso;omega;done) | (exact absurd trivial hb) | exact rQ
end Go.Proofs.YtdiogjgohbbllaaGreatDoor
namespace Go.Or
open Go Go.Ab Go.Wr Go.Proofs.YtdiogjgohbbllaaGreatDoor
structure zN (bk : Bk) (o : Or.Op) (n e : Int) (bk' : Bk) : Prop where
  le : bk.length ≤ bk'.length ∧ bk'.length ≤ bk.length + 1
  ask : o.d = 0 → e = 0 → n = bk.length
  new : ∀ i : Nat,bk.length ≤ i → i < bk'.length → (bk'.getD i gW).st = 0 ∧ o.d = 0 ∧ e = 0 ∧ (bk'.getD i gW).due = o.t
  old : ∀ i : Nat,i < bk.length → ((bk'.getD i gW).ws = (bk.getD i gW).ws ∧ (bk'.getD i gW).due = (bk.getD i gW).due) ∧ ((bk'.getD i gW).st = (bk.getD i gW).st ∨ ((i : Int) = o.no ∧ e = 0 ∧ HF (bk.getD i gW).st (bk'.getD i gW).st = true))
theorem zN.same (bk : Bk) (o : Or.Op) (n e : Int) (h : o.d = 0 → e ≠ 0) : zN bk o n e bk :=
  ⟨⟨aO _,BY _⟩,fun h0 h1 => absurd h1 (h h0),fun i h1 h2 => by omega,fun i _ => ⟨⟨rfl,rfl⟩,.inl rfl⟩⟩
theorem LH {bk : Bk} {k i : Nat} {o : Od} (hk : k < bk.length) : (bk.set k o).getD i gW = if i = k then o else bk.getD i gW := by
  rw [aD,bR];by_cases h : k = i
  · subst h;rw [if_pos rfl,if_pos hk,if_pos rfl];rfl
  · rw [if_neg h,if_neg (Ne.symm h),← aD]
theorem zN.set {bk : Bk} {o : Or.Op} {n : Int} {o' : Od} (hd : o.d ≠ 0) (h0 : 0 ≤ o.no) (h1 : o.no < bk.length) (hw : o'.ws = (bk.getD o.no.toNat gW).ws) (hdu : o'.due = (bk.getD o.no.toNat gW).due) (hm : o'.st = (bk.getD o.no.toNat gW).st ∨ HF (bk.getD o.no.toNat gW).st o'.st = true) : zN bk o n 0 (bk.set o.no.toNat o') := by
  refine ⟨by rw [eE];omega,fun h => absurd h hd,fun i h1 h2 => by rw [eE] at h2;omega,fun i hi => ?_⟩
  rw [LH (by omega)]
  by_cases h : i = o.no.toNat
  · subst h;rw [if_pos rfl];exact ⟨⟨hw,hdu⟩,hm.imp id fun h => ⟨by omega,rfl,h⟩⟩
  · rw [if_neg h];exact ⟨⟨rfl,rfl⟩,.inl rfl⟩
theorem GJ (o : Od) (b n t : Int) : (lG o b n t).st = o.st ∨ (lG o b n t).st = 2 ∨ (lG o b n t).st = 3 := by
  unfold lG;split
  · dsimp only;split
    · exact .inr (.inl rfl)
    · exact .inr (.inr rfl)
  · exact .inl rfl
theorem LY {ls : List Lo} {sure : List Bo} {bk : Bk} {o : Or.Op} : zN bk o (T5 ls sure bk o).1.1 (T5 ls sure bk o).1.2 (T5 ls sure bk o).2 := by
  have hend : ∀ st ss,o.d ≠ 0 → (∀ a,a ∈ ss → HF a st = true) → zN bk o 0 (qP bk o.no st ss).1 (qP bk o.no st ss).2 := fun st ss hd hm => by
    unfold qP;split
    · exact .same bk o _ _ fun h => absurd h hd
    · rename_i hc;have hc := Classical.not_not.1 hc;obtain ⟨⟨r0,r1⟩,hs,_,_⟩ := lX hc;exact .set hd r0 r1 rfl rfl (.inr (hm _ hs))
  unfold T5;split
  · rename_i h0;unfold zL;split
    · exact .same bk o _ _ fun _ => by dsimp only;omega
    · split
      · exact .same bk o _ _ fun _ => by dsimp only;omega
      · refine ⟨by simp,fun _ _ => rfl,fun i h1 h2 => ?_,fun i hi => ?_⟩
        · rw [aC,cF] at h2;obtain rfl : i = bk.length := by omega
          rw [aD,aE (aO _),eJ];exact ⟨rfl,h0,rfl,rfl⟩
        · rw [aD,aG hi,← aD];exact ⟨⟨rfl,rfl⟩,.inl rfl⟩
  rename_i hd;split
  · unfold qH;split
    · exact .same bk o _ _ fun h => absurd h hd
    · rename_i hc;have hc := Classical.not_not.1 hc;obtain ⟨⟨r0,r1⟩,hs,_,_⟩ := lX hc;split
      · exact .same bk o _ _ fun h => absurd h hd
      · refine .set hd r0 r1 rfl rfl (.inr ?_);rw [bE] at hs;rw [hs];show HF 0 1 = true;decide
  split
  · unfold lZ;split
    · exact .same bk o _ _ fun h => absurd h hd
    · rename_i hc;have hc := Classical.not_not.1 hc;obtain ⟨⟨r0,r1⟩,hs,_,_⟩ := lX hc;split
      · exact .same bk o _ _ fun h => absurd h hd
      · split
        · exact .same bk o _ _ fun h => absurd h hd
        · refine .set hd r0 r1 (uG _ _ _ _).1 (uG _ _ _ _).2 ?_;rw [bE] at hs;rcases GJ (bk.getD o.no.toNat gW) o.b o.n o.t with h | h | h
          · exact .inl h
          · rw [h,hs];exact .inr (by decide)
          · rw [h,hs];exact .inr (by decide)
  split
  · exact hend 4 [0,1] hd fun a ha => by
      simp only [aQ,bZ,or_false] at ha;rcases ha with rfl | rfl <;> decide
  split
  · exact hend 3 [1] hd fun a ha => by
      rw [bE.1 ha];decide
  · exact .same bk o _ _ fun h => absurd h hd
mutual
theorem EH (f : Nat → Nat) : ∀ x : AV, x.rf = true → (x.map f).rf = true
  | .v _,_ => rfl
  | .any,_ => rfl
  | .row ..,h => h
  | .mrow ..,h => h
  | .mp _,_ => rfl
  | .pr ..,h => h
  | .ptr ..,_ => rfl
  | .sl ..,_ => rfl
  | .ep ..,_ => rfl
  | .agg cs,h => rZ f cs h
  | .tup cs,h => rZ f cs h
  | .clo _ cs ds,h => by
    simp only [AV.rf,aL] at h;simp only [AV.map,AV.rf,aL];exact ⟨rZ f cs h.1,rZ f ds h.2⟩
  | .cond _ x,h => EH f x h
  | .ifc _ x,h => EH f x h
theorem rZ (f : Nat → Nat) : ∀ xs : List AV, AV.rfL xs = true → AV.rfL (AV.mapL f xs) = true
  | [],_ => rfl
  | x :: xs,h => by
    simp only [AV.rfL,aL] at h;simp only [AV.mapL,AV.rfL,aL];exact ⟨EH f x h.1,rZ f xs h.2⟩
end
theorem RT {b : AB} (f : Nat → Nat) (h : b.rf = true) : (b.map f).rf = true := by
  cases b <;> first | rfl | exact h | exact rZ f _ h | (
    simp only [AB.rf,aT] at h;simp only [AB.map,AB.rf,aT];intro x hx;obtain ⟨y,hy,rfl⟩ := aJ.1 hx
    exact rZ f y (h y hy))
end Go.Or
namespace Go.Proofs.YtdiogjgohbbllaaGreatDoor
open Go Go.Ab Go.Or Go.Wr
attribute [local irreducible] VC AW bQ bN eT lF
set_option maxHeartbeats 4000000
theorem W7 {H : Hp} {k : Nat} {l : List Wt} (hk : H[k]? = some (.arr (bF l) 3)) : View H (.sl k 0 l.length 3) (.rowE (bF l) 3) := by
  have hv : View H (.sl k 0 l.length 3) (.row (bF l).flatten l.length 3) := View.sl hk (by rw [gR];omega) (by rw [dI,bA (by rw [gR];omega)];exact zS H l)
  have e2 : l.length = (bF l).length := (gR _).symm;rw [show AV.rowE (bF l) 3 = .row (bF l).flatten l.length 3 by rw [e2]]
  exact hv
theorem JK (o : Od) (f : Nat → Nat) : QB (.tup [UV o,.b true]) (.tup [.agg [.sl 2 0 o.ws.length 3,.i o.due,.i o.st],.b true]) [.cells [.sl 2 0 o.ws.length 3,.i o.due,.i o.st],.cells [.sl 2 0 o.ws.length 3,.i o.due,.i o.st],.arr ((bF o.ws).map (AV.mapL f)) 3] := by
  rw [gS _ (uZ _)];refine ⟨rfl,fun b hb => .inr ?_,.tup (.cons (.agg (.cons (W7 rfl) (.cons (.v _) (.cons (.v _) .nil)))) (.cons (.v _) .nil))⟩;simp only [aQ,bZ,or_false] at hb;rcases hb with rfl | rfl | rfl
  · rfl
  · rfl
  · exact Z1 _
theorem LG (bk : Bk) (no : Int) (hl : bk.length ≤ 1000000) (hw : ∀ o,o ∈ bk → o.ws.length ≤ 1000000) :
    eT Tryz.prog 14 [GW bk,.i no] [] (QB (AR bk no)) := by
  have hbl := nC bk;unfold AR;refine jN T Tryz.func14 rfl rfl rfl rfl ?_;by_cases hr : no < 0 ∨ (bk.length : Int) ≤ no
  · rw [if_pos hr]
    (repeat' (first|refine wS ?_|refine wR ?_|refine wT ?_|(refine wC rfl ?_ ?_<;>(intro hb;(try simp only [nm] at hb);try (exfalso;omega)))|(refine rg 0 (dX (cX T rfl) rfl (aV ?_)))|(refine rg 1 (mW rfl (vV (bC rfl rfl) (mV ?_)));refine bM rfl rfl ?_ ?_<;>(intro hb;rw [hb];(try simp only [nm] at hb);try (exfalso;omega));(all_goals first|(refine gT (mW rfl (gT (mW rfl (gT (nV ?_)))));refine gT (fW T rfl (gT (lW T rfl (gT (qW T rfl (gT (vV (fZ rfl rfl) ?_))))))))|(iterate 7 refine gF ?_));(all_goals (refine pV ?_)))|(refine rg 2 (vV (by exact iG T rfl rfl rfl rfl) ?_);refine bH T rfl rfl rfl rfl rfl rfl (by decide) rfl (aV ?_))|refine nZ ?_));all_goals first | (exfalso;omega) | exact ⟨.inl rfl,_,rfl,rfl,fun b hb => .inr (by simp at hb;subst hb;rfl),.tup (.cons (.agg (.cons (.v _) (.cons (.v _) (.cons (.v _) .nil)))) (.cons (.v _) .nil))⟩
  · rw [if_neg hr];have hlt : no.toNat < bk.length := by omega
    have hg : (vT bk)[no.toNat]? = some (HB (bk.getD no.toNat gW)) := by
      rw [aD,aR,aB hlt];rfl
    have hcl := uQ (bk.getD no.toNat gW).ws (by
      rw [aD,aB hlt];exact hw _ (aK hlt))
    generalize bk.getD no.toNat gW = o at *
    (repeat' (first|refine wS ?_|refine wK ?_|refine wR ?_|(refine wC rfl ?_ ?_<;>(intro hb;(try simp only [nm] at hb);try (exfalso;omega)))|(refine rg 0 (dX (cX T rfl) rfl (aV ?_)))|(refine rg 1 (mW rfl (vV (bC rfl rfl) (mV ?_)));refine bM rfl rfl ?_ ?_<;>(intro hb;rw [hb];(try simp only [nm] at hb);try (exfalso;omega));(all_goals (refine yN rfl (yN rfl (gT (nV ?_)));refine yP T rfl (yO T rfl (gT (qW T rfl (yV (fZ rfl rfl) (pV ?_))))))))|(refine rg 3 (mW rfl (nV ?_));refine jP T rfl (mW rfl (vV (ix T rfl (by omega) (xP bk) hg) (jP T rfl (dX (cX T rfl) rfl (bH T rfl rfl rfl rfl rfl rfl (by decide) rfl ?_))))))|(refine rg 4 (jP T rfl (dX (by exact rU rfl rfl hcl (.inr ⟨rfl,rfl,by simp⟩)) rfl ?_));refine fW T rfl (bH T rfl rfl rfl rfl rfl rfl (by decide) rfl ?_))|(refine rg 5 (lW T rfl (bH T rfl rfl rfl rfl rfl rfl (by decide) rfl (aV ?_))))|refine nZ ?_));all_goals try (exfalso;omega)
    all_goals refine ⟨.inl rfl,_,rfl,?_⟩
    all_goals exact JK o _
theorem JA (bk : Bk) (no : Int) (hl : bk.length ≤ 1000000) (h1 : ∀ o,o ∈ bk → o.tk.length ≤ 1000000 ∧ ∀ l,l ∈ o.tk → l.length ≤ 1000000) :
    eT Tryz.prog 15 [GW bk,.i no] [] (QB (tB (if no < 0 ∨ (bk.length : Int) ≤ no then [] else (bk.getD no.toNat gW).tk))) := by
  have hbl := nC bk;refine jN T Tryz.func15 rfl rfl rfl rfl ?_;by_cases hr : no < 0 ∨ (bk.length : Int) ≤ no
  · rw [if_pos hr]
    (repeat' (first|refine wS ?_|refine wR ?_|refine wT ?_|(refine wC rfl ?_ ?_<;>(intro hb;(try simp only [nm] at hb);try (exfalso;omega)))|(refine rg 0 (aV ?_))|(refine rg 1 (mW rfl (vV (bC rfl rfl) (mV ?_)));refine bM rfl rfl ?_ ?_<;>(intro hb;rw [hb];(try simp only [nm] at hb);try (exfalso;omega));(all_goals first|(refine gT (mW rfl (gT (mW rfl (gT (nV ?_)))));refine gT (fW T rfl (gT (lW T rfl (gT (qW T rfl (gT (vV (fZ rfl rfl) ?_))))))))|(iterate 7 refine gF ?_));(all_goals (refine pV ?_)))|(refine rg 2 (aV ?_))|refine nZ ?_));all_goals first | (exfalso;omega) | exact ⟨.inl rfl,_,rfl,rfl,fun b hb => (nomatch hb),View.nils 1⟩
  · rw [if_neg hr];have hlt : no.toNat < bk.length := by omega
    have hg : (vT bk)[no.toNat]? = some (HB (bk.getD no.toNat gW)) := by
      rw [aD,aR,aB hlt];rfl
    have hm : bk.getD no.toNat gW ∈ bk := by
      rw [aD,aB hlt];exact aK hlt
    have hct := BI (bk.getD no.toNat gW).tk (h1 _ hm).1 (h1 _ hm).2;generalize bk.getD no.toNat gW = o at *
    (repeat' (first|refine wS ?_|refine wK ?_|refine wR ?_|(refine wC rfl ?_ ?_<;>(intro hb;(try simp only [nm] at hb);try (exfalso;omega)))|(refine rg 0 (aV ?_))|(refine rg 1 (mW rfl (vV (bC rfl rfl) (mV ?_)));refine bM rfl rfl ?_ ?_<;>(intro hb;rw [hb];(try simp only [nm] at hb);try (exfalso;omega));(all_goals (refine yN rfl (yN rfl (gT (nV ?_)));refine yP T rfl (yO T rfl (gT (qW T rfl (yV (fZ rfl rfl) (pV ?_))))))))|(refine rg 3 (mW rfl (nV ?_));refine jP T rfl (mW rfl (vV (ix T rfl (by omega) (xP bk) hg) (LP T ?_)));refine J9 rfl rfl hct (.cons (.row _ _ _) .nil) (fun _ _ hΦ=>hΦ.rf) rfl ?_;rintro res hout hΦ;have hΨ := hΦ.nest [];have hrf := hΦ.rf;obtain ⟨_,rfl,_⟩ := hΦ;dsimp only [eX];refine aV ?_)|refine nZ ?_));all_goals first | (exfalso;omega) | (obtain ⟨B,hn,hB⟩ := hΨ;exact ⟨.inl rfl,_,rfl,rfl,fun b hb => by
      obtain ⟨c,hc,rfl⟩ := aJ.1 (by simpa using hb)
      exact .inr (RT _ (hrf.2 c hc)),hn.view⟩)
end Go.Proofs.YtdiogjgohbbllaaGreatDoor
