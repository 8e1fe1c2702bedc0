/-
  Texts of the logic and of the layer,in one module (part 6).
-/
import Derived.Test.YtdiogjgohbbllaaGreatDoorK5
set_option linter.unusedVariables false
set_option linter.unusedSimpArgs false
set_option linter.unnecessarySimpa false
namespace Go.Or
open Go Go.Ab Go.Wr Go.Proofs.YtdiogjgohbbllaaGreatDoor
abbrev rG (s : St) : AB := .cells [.s (s.getD []),.b s.isNone]
def CG (s : St) (r : AV) (o : Hp) : Prop := match kW s with
  | none => ∃ ws due st x,r = .tup [.agg [.rowE (bZ ws) 3,.i due,.i st,x],.b false] ∧ (x = .nils ∨ ∃ p m,x = .sl p 0 m 1)
  | some (od,s') => ∃ x B,r = .tup [.agg (iY od x),.b true] ∧ o[0]? = some (rG s') ∧ kG o x od.tk B ∧ ∀ k,k ∈ B → 1 ≤ k
theorem CG.fail {s : St} {o : Hp} (h : kW s = none) (ws : List Wt) (due st : Int) (x : AV) (hx : x = .nils ∨ ∃ p m,x = .sl p 0 m 1) : CG s (.tup [.agg [.rowE (bZ ws) 3,.i due,.i st,x],.b false]) o := by
  unfold CG;rw [h];exact ⟨ws,due,st,x,rfl,hx⟩
theorem CG.ok {s s' : St} {o : Hp} {od : Od} {x : AV} {B : List Nat} (h : kW s = some (od,s')) (h0 : o[0]? = some (rG s')) (hn : kG o x od.tk B) (hB : ∀ k,k ∈ B → 1 ≤ k) : CG s (.tup [.agg (iY od x),.b true]) o := by
  unfold CG;rw [h];exact ⟨x,B,rfl,h0,hn,hB⟩
theorem mD {s : St} : ((dB s).2.getD []).length ≤ (s.getD []).length := oT s 59 (-9223372036854775808)
theorem BC {s : St} (h : 0 < (s.getD []).length) : ((dB s).2.getD []).length + 1 ≤ (s.getD []).length := by
  cases s with
  | none => simp at h
  | some r =>
    rcases LS r with h1 | ⟨r',h1,hr⟩
    · rw [h1];rw [nQ] at h ⊢;simp;omega
    · rw [h1];rw [nQ,nQ];omega
theorem RY (l : List Wt) (w : Wt) : ((bZ l).drop 0).take l.length ++ [[AV.i w.1,AV.i w.2.1,AV.i w.2.2]] = bZ (l ++ [w]) := by
  rw [dI,aX (by simp)];simp
theorem DY (L : List Nat) : ∀ i : Nat,i < 1 → (0 :: L)[i]? = some i := fun i hi => by
  obtain rfl : i = 0 := by omega
  rfl
theorem nM {P : Program} (T : lR P) {env : cJ} {h : Hp} {a t : Nat} {r : List ResultVar} {p : AV} {i : TI} {xs cs : List AV} {off : Nat} {z : AV} (h1 : Ab.look env a = some p) (h2 : T.ti t = some i) (h3 : pU T env h r = some xs) (h4 : fX h p = some (cs,off)) (h5 : lP i cs off = some z) : pU T env h (.cell a t :: r) = some (z :: xs) := by
  simp only [pU,h1,h2,h3,h4,h5]
structure RM (s : St) (C1 C : AB) (N : List (Nat × List Tk)) (p : Nat) (E : List Nat) (X : Hp) : Prop where
  h0 : X[0]? = some (rG s)
  h1 : X[1]? = some C1
  h2 : X[2]? = some C
  hp : X[p]? = some (.arr (kX N) 1)
  hn : qG X N
  nd : (0 :: 1 :: 2 :: p :: (E ++ N.map (·.1))).Nodup
theorem RM.lt {s : St} {C1 C : AB} {N : List (Nat × List Tk)} {p : Nat} {E : List Nat} {X : Hp} (h : RM s C1 C N p E X) : 2 < X.length ∧ p < X.length ∧ ∀ k,k ∈ N.map (·.1) → k < X.length :=
  ⟨(aA.1 h.h2).1,(aA.1 h.hp).1,fun k hk => by
    obtain ⟨e,he,rfl⟩ := aJ.1 hk
    exact (aA.1 (h.hn e he)).1⟩
theorem RM.fr {s s' : St} {C1 C : AB} {N : List (Nat × List Tk)} {p : Nat} {E E' : List Nat} {X X' : Hp} (h : RM s C1 C N p E X) (h0 : X'[0]? = some (rG s')) (hk : ∀ k,k < X.length → k ≠ 0 → k ∉ E → X'[k]? = X[k]?) (hE : ∀ k,k ∈ E' → k ∈ E ∨ X.length ≤ k) (hEn : E'.Nodup) : RM s' C1 C N p E' X' := by
  have hnd := h.nd;obtain ⟨l1,l2,l3⟩ := h.lt;simp only [aL,aR,not_or,bD,dX] at hnd;obtain ⟨⟨a1,a2,a3,a4⟩,⟨b2,b3,b4⟩,⟨c1,c2⟩,⟨d1,d2⟩,e1,e2,e3⟩ := hnd;refine ⟨h0,(hk 1 (by omega) (by decide) b4.1).trans h.h1,(hk 2 l1 (by decide) c2.1).trans h.h2,(hk p l2 (fun e => a3 e.symm) d1).trans h.hp,fun e he => ?_,?_⟩
  · have hm : e.1 ∈ N.map (·.1) := aJ.2 ⟨e,he,rfl⟩;exact (hk e.1 (l3 _ hm) (fun e0 => a4.2 (e0 ▸ hm)) (fun hE => e3 _ hE _ hm rfl)).trans (h.hn e he)
  · simp only [aL,aR,not_or,bD,dX];have hx : ∀ k,k < X.length → k ∉ E → k ∉ E' := fun k hk hn hm => by
      rcases hE k hm with h1 | h1
      · exact hn h1
      · omega
    exact ⟨⟨a1,a2,a3,hx 0 (by omega) a4.1,a4.2⟩,⟨b2,b3,hx 1 (by omega) b4.1,b4.2⟩,⟨c1,hx 2 l1 c2.1,c2.2⟩,⟨hx p l2 d1,d2⟩,hEn,e2,fun a ha b hb e => hx a (e ▸ l3 b hb) (fun h1 => e3 a h1 b hb e) ha⟩
theorem RM.own {s : St} {C1 C : AB} {N : List (Nat × List Tk)} {p q : Nat} {X : Hp} (h : RM s C1 C N p [q] X) : q ≠ 0 ∧ q ≠ 1 ∧ q ≠ 2 ∧ q ≠ p := by
  have hnd := h.nd;simp only [aL,aR,not_or,bD,cG,not_false_eq_true,and_true] at hnd;obtain ⟨⟨a1,a2,a3,a4⟩,⟨b2,b3,b4⟩,⟨c1,c2⟩,⟨d1,d2⟩,_⟩ := hnd;exact ⟨fun e => a4.1 e.symm,fun e => b4.1 e.symm,fun e => c2.1 e.symm,fun e => d1 e.symm⟩
theorem wW {X : Hp} {a : AB} {k : Nat} : (X.set k a).length = X.length := eB
theorem RM.add {s : St} {C1 C C' : AB} {N : List (Nat × List Tk)} {p q : Nat} {X : Hp} {l : List Tk} (h : RM s C1 C N p [q] X) (hq : X[q]? = some (.arr (eO l) 2)) (Z : AB) :
    RM s C1 C' (N ++ [(q,l)]) (X ++ [Z]).length [] ((((X ++ [Z]).set p AB.gone) ++ [AB.arr (kX (N ++ [(q,l)])) 1]).set 2 C') := by
  have hnd := h.nd;obtain ⟨l1,l2,l3⟩ := h.lt;have hql := (aA.1 hq).1;simp only [aL,aR,not_or,bD,dX,cG,not_false_eq_true,and_true] at hnd;obtain ⟨⟨a1,a2,a3,a4⟩,⟨b2,b3,b4⟩,⟨c1,c2⟩,⟨d1,d2⟩,e1,e2,e3⟩ := hnd;have hz : (X ++ [Z]).length = X.length + 1 := by simp
  have keep : ∀ {k : Nat} {b : AB},X[k]? = some b → k ≠ p → k ≠ 2 → ((((X ++ [Z]).set p AB.gone) ++ [AB.arr (kX (N ++ [(q,l)])) 1]).set 2 C')[k]? = some b := fun hk h1 h2 => fZ h2 (bS (fZ h1 (bS hk)));refine ⟨keep h.h0 a3 (by decide),keep h.h1 b3 (by decide),?_,?_,fun e he => ?_,?_⟩
  · exact gA (by simp;omega)
  · refine fZ (by omega) ?_
    have e1 : ((X ++ [Z]).set p AB.gone).length = (X ++ [Z]).length := by simp
    rw [← e1];exact cP
  · rcases bD.1 he with he | he
    · have hm : e.1 ∈ N.map (·.1) := aJ.2 ⟨e,he,rfl⟩;exact keep (h.hn e he) (fun e0 => d2 (e0 ▸ hm)) (fun e0 => c2.2 (e0 ▸ hm))
    · rw [bG.1 he];exact keep hq (fun e0 => d1 e0.symm) (fun e0 => c2.1 e0.symm)
  · rw [cO,hz];simp only [aL,aR,not_or,bD,dX,List.map_cons,List.map_nil,List.nil_append,cG,or_false,bB,not_false_eq_true,and_true];have hx : ∀ k,k ∈ N.map (·.1) → k ≠ X.length + 1 := fun k hk => by have := l3 k hk;omega
    refine ⟨⟨a1,a2,by omega,a4.2,a4.1⟩,⟨b2,by omega,b4.2,b4.1⟩,⟨by omega,c2.2,c2.1⟩,⟨fun hm => hx _ hm rfl,by omega⟩,e2,trivial,fun a ha b hb (e : a = b) => e3 b (.inl hb) a ha e.symm⟩
abbrev C3 (N : List (Nat × List Tk)) : Bool := N.any fun e => !e.2.isEmpty
theorem IM {N : List (Nat × List Tk)} {q : Nat} {l : List Tk} : C3 (N ++ [(q,l)]) = (C3 N || !l.isEmpty) := by simp [C3]
theorem NH {N : List (Nat × List Tk)} : (N.map (·.2)).all (·.isEmpty) = !C3 N := by
  unfold C3;rw [List.not_any_eq_all_not,YP];congr 1;funext e;simp
theorem JP {l : List Tk} {t : Tk} : iN (l ++ [t]) = iN l + t.2 := by unfold iN;simp
theorem PH {t : Tk} (h : ¬ CB t) : CS t := by unfold CB at h;unfold CS;omega
theorem OS {l : List Tk} (h : ∀ t,t ∈ l → CS t) : 0 ≤ iN l ∧ iN l ≤ 20000 * l.length := by
  induction l with
  | nil => decide
  | cons t l ih =>
    have h1 := ih fun t ht => h t (aE _ ht);have h2 := h t aN;unfold CS at h2;unfold iN at *;rw [List.map_cons,jL,List.length_cons];omega
end Go.Or
namespace Go.Proofs.YtdiogjgohbbllaaGreatDoor
open Go Go.Ab Go.Or Go.Wr
attribute [local irreducible] VC AW bR bN eS lE
set_option maxHeartbeats 4000000
theorem T2 (s : St) (hl : (s.getD []).length ≤ 1000000000) : bN Tryz.prog 114 [.ptr 0 0] (FG s) (.i (dB s).1) (FG (dB s).2 ++ [.gone]) := J4 (BB s hl)
theorem DL (ws : List Wt) (due : Int) : bN Tryz.prog 48 [.rowE (bZ ws) 3,.i due] [] (.b (kL ws due)) [] := by
  by_cases hl : ws.length ≤ 20
  · exact N2 ws due (by omega)
  · have hll := gV ws;have h0 : kL ws due = false := by unfold kL;simp;omega
    rw [h0];refine dC T Tryz.func48 rfl rfl rfl rfl ?_
    (repeat' (first|refine wS ?_|refine wR ?_|refine wT ?_|(refine rg 0 (aV ?_))|(refine rg 1 (mW rfl (qW T rfl (vV (bA rfl rfl) (mV ?_))));refine bL rfl rfl ?_ ?_<;>(intro hb;rw [hb];(try simp only [nm] at hb);try (exfalso;omega));(all_goals (refine yN rfl (gT (qW T rfl (yV (gJ rfl rfl) (pW rfl (mV ?_)))));refine bL rfl rfl ?_ ?_<;>(intro hb;rw [hb];(try simp only [nm] at hb);try (exfalso;omega))));(all_goals ((iterate 2 refine gF ?_);refine pW rfl (mV ?_);(iterate 2 refine gF ?_);refine pV ?_)))|(refine rg 2 (aV ?_))|refine nZ ?_));all_goals first | (exfalso;omega) | exact rQ
theorem KF (s0 : St) (hl : (s0.getD []).length ≤ 1000000000) : eS Tryz.prog 84 [.ptr 0 0] (FG s0) (CG s0) := by
  have c0 := KV s0 hl;have hb0 := oT s0 59 0;have hn0 := T9 s0 59;have hn1 := (qY s0 59 0).2;have hhd : kN s0 = jN (jE s0 59 0).1.toNat (jE s0 59 0).2 := rfl;have hro : kW s0 = kW s0 := rfl
  conv at hro => rhs;unfold kW
  refine jO T Tryz.func84 rfl rfl rfl rfl ?_;generalize (jE s0 59 0).1 = n at *;generalize (jE s0 59 0).2 = s2 at *
  (repeat' (first|refine wS ?_|refine wB ?_|(refine rg 0 (cY (cS T rfl) rfl (aV ?_)))|(refine rg 1 (cY (cS T rfl) rfl ?_))|(refine rg 2 (mW rfl (cQ [0] rfl rfl c0 rfl rfl (by decide) ⟨.inr rfl,trivial⟩ (by simp) rfl ?_));refine aV ?_)|refine nZ ?_));refine oP [(0,.ptr 0 0),(2,.ptr 1 0),(4,.ptr 2 0),(5,.i n)] [rG s2,.cells [.nils,.i 0,.i 0,.nils],.cells [.nils,.i 0,.i 0,.nils]] ⟨[0,1,2],rfl,(by repeat first|exact trivial|refine ⟨rfl,?_⟩),⟨.inr rfl,.inr rfl,.inr rfl,trivial⟩,by decide,DY _⟩ ?_
  refine xU 2 0 3 rfl rfl (by decide) ?_
  refine eX (X := {p : Nat × St × List Wt // jN n.toNat s2 = (p.2.2 ++ (jN p.1 p.2.1).1,(jN p.1 p.2.1).2) ∧ (p.1 : Int) + p.2.2.length = n ∧ p.2.2.length + (p.2.1.getD []).length ≤ (s2.getD []).length}) (fun p => [(0,.ptr 0 0),(2,.ptr 1 0),(4,.ptr 2 0),(5,.i p.1.1)]) (fun p => [rG p.1.2.1,.cells [.nils,.i 0,.i 0,.nils],.cells [.sl 3 0 p.1.2.2.length 3,.i 0,.i 0,.nils],.arr (bZ p.1.2.2) 3]) (fun p => p.1.1) ⟨(n.toNat,s2,[]),rfl,by dsimp only;simp;omega,by dsimp only;simp⟩ ⟨[0,1,2,3],rfl,⟨rfl,rfl,rfl,congrArg (fun z : Int => some (AV.i z)) (by dsimp only;omega),trivial⟩,⟨.inr rfl,.inr rfl,.inr rfl,.inr rfl,trivial⟩,by decide,DY _⟩ ?_
  rintro ⟨⟨k,s,L⟩,h1,h2,h3⟩;dsimp only at h1 h2 h3 ⊢;rw [h1] at hhd;have cL := DZ s;have hll := gV L;by_cases hk : 0 < k ∧ 0 < (s.getD []).length
  · obtain ⟨k,rfl⟩ : ∃ k',k = k' + 1 := ⟨k - 1,by omega⟩
    have hz := hk.2;have d1 := T2 s (by omega)
    have e1 := BC hz;have d2 := T2 (dB s).2 (by omega)
    have e2 := mD (s := (dB s).2);have d3 := T2 (dB (dB s).2).2 (by omega)
    have e3 := mD (s := (dB (dB s).2).2);have hrec : jN (k + 1) s = (((dB s).1,(dB (dB s).2).1,(dB (dB (dB s).2).2).1) :: (jN k (dB (dB (dB s).2).2).2).1,(jN k (dB (dB (dB s).2).2).2).2) := by rw [jN,if_neg (by omega)]
    rw [hrec] at h1;clear hhd hro hrec;generalize (dB s).1 = wk at *;generalize (dB s).2 = t1 at *;generalize (dB t1).1 = wc at *;generalize (dB t1).2 = t2 at *;generalize (dB t2).1 = wu at *;generalize (dB t2).2 = t3 at *
    (repeat' (first|refine wS ?_|refine wB ?_|refine wK ?_|refine wT ?_|(refine rg 3 (mW rfl (vV (jW rfl rfl (by omega)) (mW rfl (yN rfl (gT (cQ [0] rfl rfl cL rfl rfl (by decide) ⟨.inr rfl,trivial⟩ (by simp) rfl ?_))))));refine yV (jW rfl rfl (by omega)) (pV ?_))|refine nZ ?_));all_goals try (exfalso;omega)
    refine oP [(0,.ptr 0 0),(2,.ptr 1 0),(4,.ptr 2 0),(5,.i (k + 1 : Nat))] [rG s,.cells [.nils,.i 0,.i 0,.nils],.cells [.sl 3 0 L.length 3,.i 0,.i 0,.nils],.arr (bZ L) 3] ⟨[0,1,2,3],rfl,(by repeat first|exact trivial|refine ⟨rfl,?_⟩),⟨.inr rfl,.inr rfl,.inr rfl,.inr (cM rfl rfl (vH _)),trivial⟩,by decide,DY _⟩ ?_
    (repeat' (first|(refine rB (id := 5) 143 [[],[0],[0,1],[],[3],[],[3,4,5],[],rM 3 5,rM 3 6,rM 3 7,rN 11,rN 12,rN 13,rN 14] (rM 24 14) [[],[],[],[24,25,26],[24,25,26],rM 24 5,[24,25,26],rM 24 7,[24,25,26],[24,25,26],[24,25,26],[],[],[],[]] [(4,0),(6,0),(8,0),(11,3),(14,2)] fK rfl (by decide +kernel) (eW rfl rfl rfl rfl (by exact eE T rfl rfl rfl) ?_);refine eW rfl rfl rfl rfl (by exact eE T rfl rfl rfl) ?_;refine eW rfl rfl rfl rfl (by exact bC T rfl rfl rfl rfl) ?_;refine eW rfl rfl rfl rfl (by exact eQ rfl) ?_;refine vY rfl rfl rfl rfl (aU rfl) (by exact xX [0] rfl rfl (d1) (fun _=>rfl) rfl (by decide) (fun _=>⟨.inr rfl,trivial⟩) (by simp) rfl (fun _ _=>rfl) rfl rfl) ?_;refine eW rfl rfl rfl rfl (by exact eQ rfl) ?_;refine vY rfl rfl rfl rfl (aU rfl) (by exact xX [0] rfl rfl (d2) (fun _=>rfl) rfl (by decide) (fun _=>⟨.inr rfl,trivial⟩) (by simp) rfl (fun _ _=>rfl) rfl rfl) ?_;refine eW rfl rfl rfl rfl (by exact eQ rfl) ?_;refine vY rfl rfl rfl rfl (aU rfl) (by exact xX [0] rfl rfl (d3) (fun _=>rfl) rfl (by decide) (fun _=>⟨.inr rfl,trivial⟩) (by simp) rfl (fun _ _=>rfl) rfl rfl) ?_;refine eW rfl rfl rfl rfl (by exact iG T rfl rfl rfl rfl) ?_;refine MM rfl rfl rfl rfl (by exact cF T rfl rfl (by decide) (by decide) rfl rfl rfl) rfl ?_;refine vY rfl rfl rfl rfl (aU rfl) (by exact zR T rfl rfl rfl rfl rfl rfl (by simp) (kQ.whole rfl rfl) rfl (by simp;omega) (by simp;omega)) ?_;refine eW rfl rfl rfl rfl (by exact eE T rfl rfl rfl) ?_;refine eW rfl rfl rfl rfl (by exact eE T rfl rfl rfl) ?_;refine EM rfl rfl rfl rfl (aU rfl) T rfl rfl rfl rfl rfl rfl (by decide) rfl ?_;refine xO rfl rfl rfl (by exact rfl) ?_)|(refine rg 4 (mW rfl (vV (gN rfl rfl (by omega) (by omega)) (aV ?_))))|refine nZ ?_));all_goals try (exfalso;omega)
    have hln : (L ++ [(wk,wc,wu)]).length = L.length + 1 := by simp
    all_goals exact ⟨⟨(k,t3,L ++ [(wk,wc,wu)]),by dsimp only;rw [h1];simp,by dsimp only;rw [hln];omega,by dsimp only;rw [hln];omega⟩,J7 k,[0,1,2,8],rfl,⟨rfl,rfl,rfl,congrArg (fun z : Int => some (AV.i z)) (by dsimp only;omega),trivial⟩,⟨.inr rfl,.inr rfl,.inr (congrArg (fun n : Nat => some (AB.cells [.sl 8 0 n 3,.i 0,.i 0,.nils])) hln).symm,.inr (cM rfl (RY L (wk,wc,wu)) (vH _)),trivial⟩,by decide,DY _⟩
  · have hrec : jN k s = ([],s) := by
      cases k with
      | zero => rfl
      | succ k => rw [jN,if_pos (by omega)]
    rw [hrec,List.append_nil] at hhd;rw [hhd] at hro;dsimp only at hro;have d1 := BB s (by omega)
    have e1 := mD (s := s);have d2 := BB (dB s).2 (by omega)
    have e2 := mD (s := (dB s).2);have i1 := qY s 59 (-9223372036854775808);have i2 := qY (dB s).2 59 (-9223372036854775808);change _ ≤ (dB s).1 ∧ (dB s).1 ≤ _ at i1;change _ ≤ (dB (dB s).2).1 ∧ (dB (dB s).2).1 ≤ _ at i2;generalize (dB s).1 = due at *;generalize (dB s).2 = t1 at *;generalize (dB t1).1 = st at *;generalize (dB t1).2 = t2 at *;apply xT (I := Unit) (fun _ => [(0,.ptr 0 0),(2,.ptr 1 0),(4,.ptr 2 0)]) (fun _ => [rG s,.cells [.nils,.i 0,.i 0,.nils],.cells [.sl 3 0 L.length 3,.i 0,.i 0,.nils],.arr (bZ L) 3]) (fun _ => True)
    case h1 =>
      intro rest;by_cases hk0 : 0 < k
      · (repeat' (first|refine wS ?_|refine wE ?_|refine jY rfl ?_|(refine rg 3 (mW rfl (vV (jW rfl rfl (by omega)) (mW rfl (yN rfl (gT (cQ [0] rfl rfl cL rfl rfl (by decide) ⟨.inr rfl,trivial⟩ (by simp) rfl ?_))))));refine yV (jX rfl rfl (by omega)) (pV ?_))|(refine nZ ?_)));all_goals try (exfalso;omega)
        all_goals exact oP [(0,.ptr 0 0),(2,.ptr 1 0),(4,.ptr 2 0)] [rG s,.cells [.nils,.i 0,.i 0,.nils],.cells [.sl 3 0 L.length 3,.i 0,.i 0,.nils],.arr (bZ L) 3] ⟨[0,1,2,3],rfl,(by repeat first|exact trivial|refine ⟨rfl,?_⟩),⟨.inr rfl,.inr rfl,.inr rfl,.inr (cM rfl rfl (vH _)),trivial⟩,by decide,DY _⟩ (rest () trivial)
      · (repeat' (first|refine wS ?_|refine wE ?_|refine jY rfl ?_|(refine rg 3 (mW rfl (vV (jX rfl rfl (by omega)) (mV ?_)));(iterate 3 refine gF ?_);refine pV ?_)|(refine nZ ?_)));all_goals try (exfalso;omega)
        all_goals exact oP [(0,.ptr 0 0),(2,.ptr 1 0),(4,.ptr 2 0)] [rG s,.cells [.nils,.i 0,.i 0,.nils],.cells [.sl 3 0 L.length 3,.i 0,.i 0,.nils],.arr (bZ L) 3] ⟨[0,1,2,3],rfl,(by repeat first|exact trivial|refine ⟨rfl,?_⟩),⟨.inr rfl,.inr rfl,.inr rfl,.inr (cM rfl rfl (vH _)),trivial⟩,by decide,DY _⟩ (rest () trivial)
    rintro _ _
    (repeat' (first|refine wS ?_|(refine rg 6 (mW rfl (cQ [0] rfl rfl d1 rfl rfl (by decide) ⟨.inr rfl,trivial⟩ (by simp) rfl ?_));refine mW rfl (cQ [0] rfl rfl d2 rfl rfl (by decide) ⟨.inr rfl,trivial⟩ (by simp) rfl ?_);refine fW T rfl (fW T rfl (bE T rfl rfl rfl rfl rfl rfl (by decide) rfl (fW T rfl (fW T rfl (bE T rfl rfl rfl rfl rfl rfl (by decide) rfl ?_))))))|refine nZ ?_));refine MW 2 0 rfl rfl rfl hll.symm (R0 L) ?_
    have hL2 : L.length ≤ 1000000000 := by omega
    have hrw := DL L due;refine oP [(0,.ptr 0 0),(2,.ptr 1 0),(4,.ptr 2 0)] [rG t2,.cells [.nils,.i 0,.i 0,.nils],.cells [.rowE (bZ L) 3,.i due,.i st,.nils]] ⟨[0,1,2],rfl,(by repeat first|exact trivial|refine ⟨rfl,?_⟩),⟨.inr rfl,.inr rfl,.inr rfl,trivial⟩,by decide,DY _⟩ ?_
    have hsl : (t2.getD []).length ≤ 1000000000 := by omega
    clear hhd h1 h2 h3 d1 d2 cL c0;cases hr : kL L due with
    | false =>
      rw [hr] at hrw hro;rw [if_pos (.inl rfl)] at hro
      (repeat' (first|refine wS ?_|refine wR ?_|refine wT ?_|(refine rg 7 (fW T rfl (jH T rfl (fW T rfl (jH T rfl (vV (kC (hrw)) (vV (eI rfl) (mV ?_)))))));(iterate 4 refine gF ?_);refine pW rfl (mV ?_);(iterate 4 refine gF ?_);refine pV ?_)|(refine rg 8 (lW T rfl (bE T rfl rfl rfl rfl rfl rfl (by decide) rfl (aV ?_))))|refine nZ ?_));all_goals first | (exfalso;omega) | exact ⟨.inl rfl,_,rfl,CG.fail hro L due st .nils (.inl rfl)⟩
    | true =>
      rw [hr] at hrw hro;by_cases hst : st < 0 ∨ 5 ≤ st
      · rw [if_pos (.inr hst)] at hro
        (repeat' (first|refine wS ?_|refine wR ?_|refine wT ?_|(refine wC rfl ?_ ?_<;>(intro hb;(try simp only [nm] at hb);try (exfalso;omega)))|(refine rg 7 (fW T rfl (jH T rfl (fW T rfl (jH T rfl (vV (kC (hrw)) (vV (eI rfl) (mW rfl (yP T rfl (yF T ?_)))))))));refine yO T rfl (yV (bA rfl rfl) (pW rfl (mV ?_)));refine bL rfl rfl ?_ ?_<;>(intro hb;rw [hb];(try simp only [nm] at hb);try (exfalso;omega));(all_goals first|(refine gT (fW T rfl (gT (fW T rfl (gT (lW T rfl (gT (vV (eV rfl rfl) ?_))))))))|(iterate 4 refine gF ?_));(all_goals (refine pV ?_)))|(refine rg 8 (lW T rfl (bE T rfl rfl rfl rfl rfl rfl (by decide) rfl (aV ?_))))|refine nZ ?_));all_goals first | (exfalso;omega) | exact ⟨.inl rfl,_,rfl,CG.fail hro L due st .nils (.inl rfl)⟩
      rw [if_neg (by simpa using hst)] at hro
      by_cases h1 : st = 1
      · subst h1;rw [if_neg (by decide)] at hro
        have hr20 := (pA hr).1
        (repeat' (first|refine wS ?_|refine wB ?_|refine wK ?_|refine wU ?_|(refine rg 7 (fW T rfl (jH T rfl (fW T rfl (jH T rfl (vV (kC (hrw)) (vV (eI rfl) (mW rfl (yP T rfl (yF T ?_)))))))));refine yO T rfl (yV (bA rfl rfl) (pW rfl (mW rfl (yP T rfl (yP T rfl (yO T rfl (yV (eV rfl rfl) (pV ?_)))))))))|(refine rg 9 (fW T rfl (jH T rfl (vV (pH rfl rfl) ?_))))|(refine rg 11 (aV ?_))|(refine rg 12 (fW T rfl (jH T rfl (qW T rfl (mV ?_)))))|refine nZ ?_));all_goals try (exfalso;omega)
        refine xU 2 3 1 rfl rfl (by decide) ?_
        refine iT (X := {x : Nat × St × List (Nat × List Tk) × Nat × Hp // x.1 ≤ L.length ∧ x.2.2.1.length = x.1 ∧ kD L t2 = ((kD (L.drop x.1) x.2.1).map fun y => (x.2.2.1.map (·.2) ++ y.1, y.2)) ∧ (x.2.1.getD []).length ≤ 1000000000 ∧ RM x.2.1 (.cells [.nils, .i 0, .i 0, .nils]) (.cells [.rowE (bZ L) 3, .i due, .i 1, .sl x.2.2.2.1 0 x.2.2.1.length 1]) x.2.2.1 x.2.2.2.1 [] x.2.2.2.2}) (fun x => [(0, .ptr 0 0), (2, .ptr 1 0), (4, .ptr 2 0), (6, .b (C3 x.1.2.2.1)), (74, .rowE (bZ L) 3), (75, .i (bZ L).length), (76, .i (x.1.1 : Int))]) (fun x => x.1.2.2.2.2) (fun x => L.length - x.1.1)
          ⟨(0,t2,[],3,[rG t2,.cells [.nils,.i 0,.i 0,.nils],.cells [.rowE (bZ L) 3,.i due,.i 1,.sl 3 0 0 1],.arr [] 1]),⟨bM _,rfl,by dsimp only;rw [dI];cases kD L t2 <;> rfl,hsl,⟨rfl,rfl,rfl,rfl,fun e he => (nomatch he),by simp⟩⟩⟩ (mC.of rfl (by repeat first|exact trivial|refine ⟨rfl,?_⟩)) ?_
        rintro ⟨⟨i,s,N,p,X⟩,o1,o2,o3,o4,o5⟩;dsimp only at o1 o2 o3 o4 o5 ⊢;subst o2;by_cases hil : N.length < L.length
        · have hg := FB hil;have hdr : kD (L.drop N.length) s = kD (L[N.length] :: L.drop (N.length + 1)) s := by rw [← aS hil]
          rw [kD] at hdr;have c0 := KV s o4;have hb0 := oT s 59 0;have hn0 := T9 s 59;have hn1 := (qY s 59 0).2;generalize (jE s 59 0).1 = n at *;generalize (jE s 59 0).2 = s3 at *;have hwb := (pA hr).2.2 _ (aI hil);generalize L[N.length] = w at *;obtain ⟨wk,wc,wu⟩ := w;dsimp only at hg hdr hwb
          (repeat' (first|refine wS ?_|refine wB ?_|refine wK ?_|(refine wC rfl ?_ ?_<;>(intro hb;(try simp only [nm] at hb);try (exfalso;omega)))|(refine rg 13 (vV (bA rfl rfl) ?_))|(refine rg 14 (vV (ix T rfl (by omega) (vG L) hg) (lW T rfl (cY (cS T rfl) rfl (bE T rfl rfl rfl rfl rfl rfl (by decide) (nH cP rfl rfl) ?_)))))|refine nZ ?_));all_goals try (exfalso;omega)
          refine gP 8 (cs := [.i wk,.i wc,.i wu]) rfl (gA (by simp)) rfl ?_
          rw [yS]
          (repeat' (first|refine wS ?_|(refine rg 15 (aV ?_))|refine nZ ?_));refine I7 9 2 rfl (by decide) ?_
          have hr1 : RM s (.cells [.nils,.i 0,.i 0,.nils]) (.cells [.rowE (bZ L) 3,.i due,.i 1,.sl p 0 N.length 1]) N p [(X ++ [AB.gone]).length] (X ++ [AB.gone] ++ [AB.arr [] 2]) := o5.fr (bS (bS o5.h0)) (fun k hk _ _ => by rw [iP (by rw [aC];omega),iP hk]) (fun k hk => .inr (by rw [bG.1 hk,aC];omega)) (by simp)
          have hq1 : (X ++ [AB.gone] ++ [AB.arr [] 2])[(X ++ [AB.gone]).length]? = some (.arr (eO []) 2) := cP;generalize (X ++ [AB.gone]).length = q at *;generalize X ++ [AB.gone] ++ [AB.arr [] 2] = X1 at *
          (repeat' (first|refine wS ?_|refine wB ?_|(refine rg 16 (aV ?_))|(refine rg 17 (mW rfl (cQ [0] rfl rfl c0 rfl rfl (aL.2 ⟨cG,bB⟩) ⟨.inr hr1.h0,trivial⟩ (by simp) rfl ?_));refine aV ?_)|refine nZ ?_));have hz0 : 0 < X1.length := (aA.1 hr1.h0).1
          have hq0 := hr1.own.1;have hr2 : RM s3 (.cells [.nils,.i 0,.i 0,.nils]) (.cells [.rowE (bZ L) 3,.i due,.i 1,.sl p 0 N.length 1]) N p [q] (X1.set 0 (rG s3)) := hr1.fr (gA hz0) (fun k hk h0 _ => eK h0) (fun k hk => .inl hk) (by simp)
          have hq2 : (X1.set 0 (rG s3))[q]? = some (.arr (eO []) 2) := fZ hq0 hq1;refine iT (X := {y : Nat × St × List Tk × Nat × Hp // kV n.toNat s3 = ((kV y.1 y.2.1).map fun z => (y.2.2.1 ++ z.1, z.2)) ∧ (y.1 : Int) + y.2.2.1.length = n ∧ y.2.2.1.length + (y.2.1.getD []).length ≤ (s3.getD []).length ∧ (∀ t, t ∈ y.2.2.1 → CS t) ∧ RM y.2.1 (.cells [.nils, .i 0, .i 0, .nils]) (.cells [.rowE (bZ L) 3, .i due, .i 1, .sl p 0 N.length 1]) N p [y.2.2.2.1] y.2.2.2.2 ∧ y.2.2.2.2[y.2.2.2.1]? = some (.arr (eO y.2.2.1) 2)}) (fun y => [(0, .ptr 0 0), (2, .ptr 1 0), (4, .ptr 2 0), (6, .b (C3 N)), (8, .pr [.i wk, .i wc, .i wu] 0), (9, .sl y.1.2.2.2.1 0 y.1.2.2.1.length 2), (10, .i (iN y.1.2.2.1)), (11, .i (y.1.1 : Int)), (74, .rowE (bZ L) 3), (75, .i (bZ L).length), (76, .i (N.length : Int))]) (fun y => y.1.2.2.2.2) (fun y => y.1.1)
            ⟨(n.toNat,s3,[],q,X1.set 0 (rG s3)),by dsimp only;cases kV n.toNat s3 <;> rfl,by dsimp only;simp;omega,by dsimp only;simp,fun t ht => (nomatch ht),hr2,hq2⟩ (mC.of (List.append_nil _) ⟨rfl,rfl,rfl,rfl,rfl,rfl,rfl,congrArg (fun z : Int => some (AV.i z)) (by dsimp only;omega),rfl,rfl,rfl,trivial⟩) ?_
          clear hr1 hq1 hr2 hq2 hg o5;rintro ⟨⟨j,s,l,q,Y⟩,g1,g2,g3,g4,g5,g6⟩;dsimp only at g1 g2 g3 g4 g5 g6 ⊢;have hll2 := oR l;have hsn := OS g4;have hy0 : 0 < Y.length := (aA.1 g5.h0).1;have cL := DZ s;have hso := D0 g5.h0;by_cases hk2 : 0 < j ∧ 0 < (s.getD []).length
          · obtain ⟨j,rfl⟩ : ∃ j',j = j' + 1 := ⟨j - 1,by omega⟩
            have d1 := BB s (by omega)
            have e1 := BC hk2.2;have d2 := BB (dB s).2 (by omega)
            have e2 := mD (s := (dB s).2);have hrt : kV (j + 1) s = if CB ((dB s).1,(dB (dB s).2).1) then none else (kV j (dB (dB s).2).2).map fun x => (((dB s).1,(dB (dB s).2).1) :: x.1,x.2) := by rw [kV,if_neg (by omega)]
            generalize (dB s).1 = ta at *;generalize (dB s).2 = u1 at *;generalize (dB u1).1 = tn at *;generalize (dB u1).2 = u2 at *
            (repeat' (first|refine wS ?_|refine wB ?_|refine wK ?_|refine wT ?_|(refine rg 18 (mW rfl (vV (jW rfl rfl (by omega)) (mW rfl (yN rfl (gT (cQ [0] rfl rfl cL rfl rfl (aL.2 ⟨cG,bB⟩) ⟨.inr g5.h0,trivial⟩ (by simp) rfl ?_))))));refine yV (jW rfl rfl (by omega)) (pV ?_))|refine nZ ?_));all_goals try (exfalso;omega)
            refine jJ [(0,.ptr 0 0),(2,.ptr 1 0),(4,.ptr 2 0),(6,.b (C3 N)),(8,.pr [.i wk,.i wc,.i wu] 0),(9,.sl q 0 l.length 2),(10,.i (iN l)),(11,.i ((j + 1 : Nat) : Int)),(74,.rowE (bZ L) 3),(75,.i (bZ L).length),(76,.i (N.length : Int))] Y (mC.of ((List.append_nil _).trans hso) (by repeat first|exact trivial|refine ⟨rfl,?_⟩)) ?_
            (repeat' (first|refine wS ?_|(refine rg 20 (mW rfl (cQ [0] rfl rfl d1 rfl rfl (aL.2 ⟨cG,bB⟩) ⟨.inr g5.h0,trivial⟩ (by simp) rfl ?_));refine mW rfl (cQ [0] rfl rfl d2 rfl rfl (aL.2 ⟨cG,bB⟩) ⟨.inr (bS (gA hy0)),trivial⟩ (by simp) rfl ?_);refine vV (by exact iG T rfl rfl rfl rfl) ?_;refine cY (cS T rfl) rfl (bE T rfl rfl rfl rfl rfl rfl (by decide) (nH cP rfl rfl) ?_))|refine nZ ?_));all_goals try (exfalso;omega)
            refine gP 12 (cs := [.i ta,.i tn]) rfl (gA (by simp [fA])) rfl ?_
            refine jJ [(0,.ptr 0 0),(2,.ptr 1 0),(4,.ptr 2 0),(6,.b (C3 N)),(8,.pr [.i wk,.i wc,.i wu] 0),(9,.sl q 0 l.length 2),(10,.i (iN l)),(11,.i ((j + 1 : Nat) : Int)),(12,.pr [.i ta,.i tn] 0),(74,.rowE (bZ L) 3),(75,.i (bZ L).length),(76,.i (N.length : Int))] (Y.set 0 (rG u2) ++ [.gone]) (mC.of (by
              show List.set (List.set ((List.set (List.set Y 0 (rG u1) ++ []) 0 (rG u2) ++ []) ++ [_]) (List.length (List.set (List.set Y 0 (rG u1) ++ []) 0 (rG u2) ++ [])) _) (List.length (List.set (List.set Y 0 (rG u1) ++ []) 0 (rG u2) ++ [])) AB.gone = _
              rw [yS,List.append_nil,List.append_nil,gY]) (by repeat first|exact trivial|refine ⟨rfl,?_⟩)) ?_
            have hr2 : RM u2 (.cells [.nils,.i 0,.i 0,.nils]) (.cells [.rowE (bZ L) 3,.i due,.i 1,.sl p 0 N.length 1]) N p [q] (Y.set 0 (rG u2) ++ [AB.gone]) := g5.fr (bS (gA hy0)) (fun k hk h0 _ => by rw [iP (by rw [wW];exact hk),eK h0]) (fun k hk => .inl hk) (by simp)
            have hq2 : (Y.set 0 (rG u2) ++ [AB.gone])[q]? = some (.arr (eO l) 2) := bS (fZ g5.own.1 g6);clear g5 g6 hso hy0;generalize Y.set 0 (rG u2) ++ [AB.gone] = Y2 at *;by_cases hbd : CB (ta,tn)
            · rw [if_pos hbd] at hrt;rw [hrt] at g1;have hno : kW s0 = none := by rw [hro,o3,hdr,g1];rfl
              have hbd2 : ta < 0 ∨ 3000 ≤ ta ∨ tn < 1 ∨ 20000 < tn := hbd
              (repeat' (first|refine wS ?_|refine wR ?_|refine wT ?_|(refine wC rfl ?_ ?_<;>(intro hb;(try simp only [nm] at hb);try (exfalso;omega)))|(refine rg 21 (fW T rfl (vV (bC T rfl rfl rfl rfl) (vV (bA rfl rfl) (mV ?_))));refine bL rfl rfl ?_ ?_<;>(intro hb;rw [hb];(try simp only [nm] at hb);try (exfalso;omega));(all_goals first|(refine gT (fW T rfl (gT (vV (bC T rfl rfl rfl rfl) (gT (vV (eV rfl rfl) ?_))))))|(iterate 3 refine gF ?_));(all_goals (refine pW rfl (mV ?_)));(all_goals first|(refine gK ?_)|(refine bL rfl rfl ?_ ?_<;>(intro hb;rw [hb];(try simp only [nm] at hb);try (exfalso;omega))));(all_goals first|(refine gT (fW T rfl (gT (vV (bC T rfl rfl rfl rfl) (gT (vV (bA rfl rfl) ?_))))))|(iterate 3 refine gF ?_));(all_goals (refine pW rfl (mV ?_)));(all_goals first|(refine gK ?_)|(refine bL rfl rfl ?_ ?_<;>(intro hb;rw [hb];(try simp only [nm] at hb);try (exfalso;omega))));(all_goals first|(refine gT (fW T rfl (gT (vV (bC T rfl rfl rfl rfl) (gT (vV (gJ rfl rfl) ?_))))))|(iterate 3 refine gF ?_));(all_goals (refine pV ?_)))|(refine rg 22 (vV (by exact bC T rfl rfl (dU hr2.h2) rfl) ?_);refine bE T rfl rfl rfl rfl rfl rfl (by decide) (nH hr2.h1 rfl rfl) (aV ?_))|refine nZ ?_));all_goals first | (exfalso;omega) | exact ⟨.inl rfl,_,nM T rfl rfl rfl (dU (gA (aA.1 hr2.h1).1)) rfl,CG.fail hno L due 1 (.sl p 0 N.length 1) (.inr ⟨p,_,rfl⟩)⟩
            · rw [if_neg hbd] at hrt;rw [hrt] at g1;have hbd2 : ¬ (ta < 0 ∨ 3000 ≤ ta ∨ tn < 1 ∨ 20000 < tn) := hbd;have hta := JL l (ta,tn);dsimp only at hta;have hY2 := hr2.lt.1
              (repeat' (first|refine wS ?_|refine wK ?_|(refine wC rfl ?_ ?_<;>(intro hb;(try simp only [nm] at hb);try (exfalso;omega)))|(refine rg 21 (fW T rfl (vV (bC T rfl rfl rfl rfl) (vV (bA rfl rfl) (mV ?_))));refine bL rfl rfl ?_ ?_<;>(intro hb;rw [hb];(try simp only [nm] at hb);try (exfalso;omega));(all_goals (refine yP T rfl (yV (bC T rfl rfl rfl rfl) (yV (eV rfl rfl) (pW rfl (mV ?_))));refine bL rfl rfl ?_ ?_<;>(intro hb;rw [hb];(try simp only [nm] at hb);try (exfalso;omega))));(all_goals (refine yP T rfl (yV (bC T rfl rfl rfl rfl) (yV (bA rfl rfl) (pW rfl (mV ?_))));refine bL rfl rfl ?_ ?_<;>(intro hb;rw [hb];(try simp only [nm] at hb);try (exfalso;omega))));(all_goals (refine yP T rfl (yV (bC T rfl rfl rfl rfl) (yV (gJ rfl rfl) (pV ?_))))))|(refine rg 23 (mW rfl (fW T rfl (vV (bC T rfl rfl rfl rfl) (vV (dS rfl rfl (by omega) (by omega)) (aV ?_))))))|(refine rg 24 (mW rfl (vV (bC T rfl rfl rfl rfl) (cY (by exact cF T rfl rfl (by decide) (by decide) rfl rfl rfl) rfl ?_)));refine hY T rfl rfl rfl rfl rfl (bS hq2) (by simp) (kQ.whole cP rfl) rfl (by simp;omega) (by simp;omega) rfl ?_;refine aV ?_)|(refine rg 19 (mW rfl (vV (gN rfl rfl (by omega) (by omega)) (aV ?_))))|refine nZ ?_));all_goals try (exfalso;omega)
              have hok := PH hbd;have hln : (l ++ [(ta,tn)]).length = l.length + 1 := by simp
              have hsu : iN (l ++ [(ta,tn)]) = iN l + tn := JP;have hYl : ((Y2 ++ [AB.arr [[AV.i ta,AV.i tn]] 2]).set q .gone).length = (Y2 ++ [AB.arr [[AV.i ta,AV.i tn]] 2]).length := wW;have hr3 : RM u2 (.cells [.nils,.i 0,.i 0,.nils]) (.cells [.rowE (bZ L) 3,.i due,.i 1,.sl p 0 N.length 1]) N p [(Y2 ++ [AB.arr [[AV.i ta,AV.i tn]] 2]).length] ((Y2 ++ [AB.arr [[AV.i ta,AV.i tn]] 2]).set q AB.gone ++ [AB.arr (eO (l ++ [(ta,tn)])) 2]) :=
                hr2.fr (bS (fZ (fun e => hr2.own.1 e.symm) (bS hr2.h0))) (fun k hk h0 hE => by rw [iP (by rw [hYl,aC];omega),eK (fun e => hE (bG.2 e)),iP hk]) (fun k hk => .inr (by rw [bG.1 hk,aC];omega)) (by simp)
              have hq3 : ((Y2 ++ [AB.arr [[AV.i ta,AV.i tn]] 2]).set q AB.gone ++ [AB.arr (eO (l ++ [(ta,tn)])) 2])[(Y2 ++ [AB.arr [[AV.i ta,AV.i tn]] 2]).length]? = some (.arr (eO (l ++ [(ta,tn)])) 2) := by rw [← hYl];exact cP
              all_goals exact ⟨⟨(j,u2,l ++ [(ta,tn)],_,_),by dsimp only;rw [g1,Option.map_map];congr 1;funext z;simp,by dsimp only;rw [hln];omega,by dsimp only;rw [hln];omega,fun t ht => (by
                rcases bD.1 ht with ht | ht
                · exact g4 t ht
                · rw [bG.1 ht];exact hok),hr3,hq3⟩,J7 j,mC.of (by dsimp only;rw [← hta];rfl) ⟨rfl,rfl,rfl,rfl,rfl,(by dsimp only;rw [hln];rfl),(by dsimp only;rw [hsu];rfl),congrArg (fun z : Int => some (AV.i z)) (by dsimp only;omega),rfl,rfl,rfl,trivial⟩⟩
          · have hrt : kV j s = some ([],s) := by
              cases j with
              | zero => rfl
              | succ j => rw [kV,if_pos (by omega)]
            rw [hrt] at g1;have g1' : kV n.toNat s3 = some (l,s) := by rw [g1];simp
            rw [g1'] at hdr;dsimp only [Option.bind_some] at hdr;apply xT (I := Unit) (fun _ => [(0,.ptr 0 0),(2,.ptr 1 0),(4,.ptr 2 0),(6,.b (C3 N)),(8,.pr [.i wk,.i wc,.i wu] 0),(9,.sl q 0 l.length 2),(10,.i (iN l)),(74,.rowE (bZ L) 3),(75,.i (bZ L).length),(76,.i (N.length : Int))]) (fun _ => Y) (fun _ => True)
            case h1 =>
              intro rest;by_cases hj0 : 0 < j
              · (repeat' (first|refine wS ?_|refine wE ?_|refine jY rfl ?_|(refine rg 18 (mW rfl (vV (jW rfl rfl (by omega)) (mW rfl (yN rfl (gT (cQ [0] rfl rfl cL rfl rfl (aL.2 ⟨cG,bB⟩) ⟨.inr g5.h0,trivial⟩ (by simp) rfl ?_))))));refine yV (jX rfl rfl (by omega)) (pV ?_))|(refine nZ ?_)));all_goals try (exfalso;omega)
                all_goals exact jJ _ _ (mC.of ((List.append_nil _).trans hso) (by repeat first|exact trivial|refine ⟨rfl,?_⟩)) (rest () trivial)
              · (repeat' (first|refine wS ?_|refine wE ?_|refine jY rfl ?_|(refine rg 18 (mW rfl (vV (jX rfl rfl (by omega)) (mV ?_)));(iterate 3 refine gF ?_);refine pV ?_)|(refine nZ ?_)));all_goals try (exfalso;omega)
                all_goals exact jJ _ _ (mC.of rfl (by repeat first|exact trivial|refine ⟨rfl,?_⟩)) (rest () trivial)
            rintro _ _;by_cases hcnt : wc < iN l
            · rw [if_pos hcnt] at hdr;have hno : kW s0 = none := by rw [hro,o3,hdr];rfl
              (repeat' (first|refine wS ?_|refine wR ?_|refine wT ?_|(refine rg 25 (mW rfl (fW T rfl (vV (bC T rfl rfl rfl rfl) (vV (jW rfl rfl (by omega)) ?_)))))|(refine rg 26 (vV (by exact bC T rfl rfl (dU g5.h2) rfl) ?_);refine bE T rfl rfl rfl rfl rfl rfl (by decide) (nH g5.h1 rfl rfl) (aV ?_))|refine nZ ?_));all_goals first | (exfalso;omega) | exact ⟨.inl rfl,_,nM T rfl rfl rfl (dU (gA (aA.1 g5.h1).1)) rfl,CG.fail hno L due 1 (.sl p 0 N.length 1) (.inr ⟨p,_,rfl⟩)⟩
            · rw [if_neg hcnt] at hdr;have hoa := FJ N q l;have h2p := g5.lt.1;have hpp := g5.hp;have hp2 : p ≠ 2 := fun e => by
                have := g5.nd;rw [e] at this;simp at this
              have hRA := g5.add (C' := .cells [.rowE (bZ L) 3,.i due,.i 1,.sl (Y ++ [AB.arr [[AV.sl q 0 l.length 2]] 1]).length 0 (N.length + 1) 1]) g6 (AB.arr [[AV.sl q 0 l.length 2]] 1);have hNl : (N ++ [(q,l)]).length = N.length + 1 := by simp
              have hxx : kD L t2 = ((kD (L.drop (N.length + 1)) s).map fun y => ((N ++ [(q,l)]).map (·.2) ++ y.1,y.2)) := by rw [o3,hdr,Option.map_map];congr 1;funext z;simp
              have hAN := IM (N := N) (q := q) (l := l);rw [LD l] at hAN;rw [← hNl] at hRA;cases han : C3 N with
              | true =>
                (repeat' (first|refine wS ?_|refine wK ?_|refine wU ?_|(refine rg 25 (mW rfl (fW T rfl (vV (bC T rfl rfl rfl rfl) (vV (jX rfl rfl (by omega)) ?_)))))|(refine rg 27 (XG ?_);(iterate 3 refine gF ?_);refine pW rfl (aV ?_))|(refine rg 28 (fW T rfl (vV (by exact bC T rfl rfl (dU g5.h2) rfl) ?_));refine mW rfl (cY (by exact cF T rfl rfl (by decide) (by decide) rfl rfl rfl) rfl ?_);refine hY T rfl rfl rfl rfl rfl (bS hpp) (by simp) (kQ.whole cP rfl) rfl (by simp;omega) (by simp;omega) rfl ?_;refine fV T ?_;refine bE T rfl rfl rfl rfl rfl rfl (by decide) (nH (bS (fZ (fun e=>hp2 e.symm) (bS g5.h2))) rfl rfl) ?_)|(refine rg 29 (vV (dS rfl rfl (by omega) (by omega)) (mV ?_)))|refine nZ ?_));all_goals try (exfalso;omega)
                rw [han,Bool.true_or] at hAN
                all_goals exact ⟨⟨(N.length + 1,s,N ++ [(q,l)],_,_),hil,hNl,hxx,by dsimp only;omega,hRA⟩,by dsimp only;omega,mC.of (by dsimp only;rw [← hoa,hNl];rfl) (by dsimp only;rw [hAN];(repeat (first | exact trivial | refine ⟨rfl,?_⟩)))⟩
              | false =>
                rw [han,Bool.false_or] at hAN
                (repeat' (first|refine wS ?_|refine wK ?_|refine wU ?_|(refine rg 25 (mW rfl (fW T rfl (vV (bC T rfl rfl rfl rfl) (vV (jX rfl rfl (by omega)) ?_)))))|(refine rg 27 (fF rfl (yN rfl (gT (qW T rfl (yV (gJ rfl rfl) (pW rfl (aV ?_))))))))|(refine rg 28 (fW T rfl (vV (by exact bC T rfl rfl (dU g5.h2) rfl) ?_));refine mW rfl (cY (by exact cF T rfl rfl (by decide) (by decide) rfl rfl rfl) rfl ?_);refine hY T rfl rfl rfl rfl rfl (bS hpp) (by simp) (kQ.whole cP rfl) rfl (by simp;omega) (by simp;omega) rfl ?_;refine fV T ?_;refine bE T rfl rfl rfl rfl rfl rfl (by decide) (nH (bS (fZ (fun e=>hp2 e.symm) (bS g5.h2))) rfl rfl) ?_)|(refine rg 29 (vV (dS rfl rfl (by omega) (by omega)) (mV ?_)))|refine nZ ?_));all_goals try (exfalso;omega)
                all_goals exact ⟨⟨(N.length + 1,s,N ++ [(q,l)],_,_),hil,hNl,hxx,by dsimp only;omega,hRA⟩,by dsimp only;omega,mC.of (by dsimp only;rw [← hoa,hNl];rfl) (by dsimp only;rw [hAN];(repeat (first | exact trivial | refine ⟨rfl,?_⟩)))⟩
        · have hrn : kD L t2 = some (N.map (·.2),s) := by
            rw [o3,dJ (by omega)]
            simp [kD]
          rw [hrn] at hro;dsimp only [Option.bind_some] at hro;rw [NH] at hro;have h1l := (aA.1 o5.h1).1;have hnd := o5.nd;simp only [aL,aR,not_or,List.nil_append] at hnd;cases han : C3 N with
          | false =>
            rw [han,Bool.not_false,if_pos rfl] at hro
            (repeat' (first|refine wS ?_|refine wR ?_|refine wE ?_|(refine wC rfl ?_ ?_<;>(intro hb;(try simp only [nm] at hb);try (exfalso;omega)))|(refine rg 13 (vV (bA rfl rfl) ?_))|(refine rg 30 (vV (by exact bC T rfl rfl (dU o5.h2) rfl) ?_);refine mW rfl (bE T rfl rfl rfl rfl rfl rfl (by decide) (nH o5.h1 rfl rfl) (aV ?_)))|refine nZ ?_));all_goals first | (exfalso;omega) | exact ⟨.inl rfl,_,nM T rfl rfl rfl (dU (gA h1l)) rfl,CG.fail hro L due 1 (.sl p 0 N.length 1) (.inr ⟨p,_,rfl⟩)⟩
          | true =>
            rw [han,Bool.not_true,if_neg (by decide)] at hro
            have key : ∀ c,CG s0 (.tup [.agg (iY ⟨L,due,1,N.map (·.2)⟩ (.sl p 0 N.length 1)),.b true]) (X.set 1 c) := fun c =>
              CG.ok (B := p :: N.map (·.1)) hro (fZ (by decide) o5.h0) (.inr ⟨p,N,rfl,fZ (fun e => hnd.2.1.2.1 e.symm) o5.hp,fun e he => fZ (fun e1 => hnd.2.1.2.2 (e1 ▸ aJ.2 ⟨e,he,rfl⟩)) (o5.hn e he),rfl,rfl,aL.2 hnd.2.2.2⟩) (fun k hk => by
                rcases aR.1 hk with rfl | hk
                · have := hnd.1.2.2.1;omega
                · have : k ≠ 0 := fun e => hnd.1.2.2.2 (e ▸ hk)
                  omega)
            (repeat' (first|refine wS ?_|refine wR ?_|refine wE ?_|(refine wC rfl ?_ ?_<;>(intro hb;(try simp only [nm] at hb);try (exfalso;omega)))|(refine rg 13 (vV (bA rfl rfl) ?_))|(refine rg 30 (vV (by exact bC T rfl rfl (dU o5.h2) rfl) ?_);refine mW rfl (bE T rfl rfl rfl rfl rfl rfl (by decide) (nH o5.h1 rfl rfl) (aV ?_)))|refine nZ ?_));all_goals first | (exfalso;omega) | exact ⟨.inl rfl,_,nM T rfl rfl rfl (dU (gA h1l)) rfl,key _⟩
      · rw [if_pos h1] at hro
        (repeat' (first|refine wS ?_|refine wK ?_|refine wR ?_|refine wT ?_|(refine wC rfl ?_ ?_<;>(intro hb;(try simp only [nm] at hb);try (exfalso;omega)))|(refine rg 7 (fW T rfl (jH T rfl (fW T rfl (jH T rfl (vV (kC (hrw)) (vV (eI rfl) (mW rfl (yP T rfl (yF T ?_)))))))));refine yO T rfl (yV (bA rfl rfl) (pW rfl (mV ?_)));refine bL rfl rfl ?_ ?_<;>(intro hb;rw [hb];(try simp only [nm] at hb);try (exfalso;omega));(all_goals (refine yP T rfl (yP T rfl (yO T rfl (yV (eV rfl rfl) (pV ?_)))))))|(refine rg 9 (fW T rfl (jH T rfl (vV (U6 rfl rfl h1) ?_))))|(refine rg 10 (lW T rfl (bE T rfl rfl rfl rfl rfl rfl (by decide) rfl (aV ?_))))|refine nZ ?_));all_goals first | (exfalso;omega) | exact ⟨.inl rfl,_,rfl,CG.ok hro rfl (.inl ⟨rfl,rfl,rfl⟩) (fun k hk => nomatch hk)⟩
end Go.Proofs.YtdiogjgohbbllaaGreatDoor
namespace Go.Or
open Go Go.Ab Go.Wr Go.Proofs.YtdiogjgohbbllaaGreatDoor
theorem kG.ren {o o' : Hp} {θ : Nat → Nat} {x : AV} {tk : List (List Tk)} {B : List Nat} (h : kG o x tk B) (hg : ∀ k,k ∈ B → ∀ b,o[k]? = some b → o'[θ k]? = some (b.map θ)) (hi : ∀ a,a ∈ B → ∀ b,b ∈ B → θ a = θ b → a = b) : kG o' (x.map θ) tk (B.map θ) := by
  rcases h with ⟨rfl,rfl,rfl⟩ | ⟨p,N,rfl,h2,h3,rfl,rfl,h6⟩
  · exact .inl ⟨rfl,rfl,rfl⟩
  · refine .inr ⟨θ p,N.map fun e => (θ e.1,e.2),?_,?_,fun e he => ?_,by simp [Function.comp_def],by simp [Function.comp_def],?_⟩
    · show AV.sl (θ p) 0 N.length 1 = _;rw [bI]
    · rw [hg p aN _ h2];show some (AB.arr ((kX N).map (AV.mapL θ)) 1) = _;simp only [kX,mP,Function.comp_def];rfl
    · obtain ⟨f,hf,rfl⟩ := aJ.1 he;have h4 := hg f.1 (aE _ (aJ.2 ⟨f,hf,rfl⟩)) _ (h3 f hf);dsimp only;rw [h4];show some (AB.arr ((eO f.2).map (AV.mapL θ)) 2) = _;rw [gW _ (nX _)]
    · unfold List.Nodup;rw [NS];exact List.Pairwise.imp_of_mem (fun ha hb h e => h (hi _ ha _ hb e)) h6
theorem jC.ren {o o' : Hp} {θ : Nat → Nat} {pb po : Nat} {L : OL} (h : jC o pb po L) (hg : ∀ k,k ∈ vU pb po L → ∀ b,o[k]? = some b → o'[θ k]? = some (b.map θ)) (hi : ∀ a,a ∈ vU pb po L → ∀ b,b ∈ vU pb po L → θ a = θ b → a = b) :
    jC o' (θ pb) (θ po) (L.map fun e => (e.1,e.2.1.map θ,e.2.2.map θ)) := by
  have hm : ∀ {e : Od × AV × List Nat},e ∈ L → ∀ k,k ∈ e.2.2 → k ∈ vU pb po L := fun he k hk => aE _ (aE _ (dK.2 ⟨_,he,hk⟩));refine ⟨?_,?_,fun e he => ?_,?_⟩
  · rw [hg pb (by simp) _ h.b,bI];rfl
  · rw [hg po (by simp) _ h.o]
    show some (AB.arr ((L.map fun e => iY e.1 e.2.1).map (AV.mapL θ)) 4) = _;rw [mP,mP];rfl
  · obtain ⟨f,hf,rfl⟩ := aJ.1 he;exact (h.n f hf).ren (fun k hk => hg k (hm hf k hk)) fun a ha b hb => hi a (hm hf a ha) b (hm hf b hb)
  · have e : θ pb :: θ po :: (L.map fun e => (e.1,e.2.1.map θ,e.2.2.map θ)).flatMap (·.2.2) = (vU pb po L).map θ := by
      simp only [List.map_cons,List.flatMap_map,List.map_flatMap]
    rw [e];unfold List.Nodup;rw [NS];exact List.Pairwise.imp_of_mem (fun ha hb h e => h (hi _ ha _ hb e)) h.nd
theorem HW {H o : Hp} {k : Nat} {b : AB} (hk : o[k]? = some b) : (H ++ o.map (AB.map (· + H.length)))[k + H.length]? = some (b.map (· + H.length)) := by
  rw [aF (by omega),IT,aO,hk];rfl
theorem uL.shift {H o : Hp} {pb : Nat} {bk : Bk} {A : List Nat} (h : uL o pb bk A) : ∃ A',uL (H ++ o.map (AB.map (· + H.length))) (pb + H.length) bk A' ∧ ∀ k,k ∈ A' → H.length ≤ k := by
  obtain ⟨po,L,h1,rfl,rfl⟩ := h;have hr := h1.ren (o' := H ++ o.map (AB.map (· + H.length))) (θ := (· + H.length)) (fun k _ b hb => HW hb) (fun a _ b _ e => by omega)
  refine ⟨_,⟨_,_,hr,by simp [Function.comp_def],rfl⟩,fun k hk => ?_⟩
  rcases aR.1 hk with rfl | hk
  · omega
  rcases aR.1 hk with rfl | hk
  · omega
  obtain ⟨e,he,hk⟩ := dK.1 hk;obtain ⟨f,_,rfl⟩ := aJ.1 he;obtain ⟨m,_,rfl⟩ := aJ.1 hk;omega
theorem jC.addN {H H' : Hp} {pb po po' : Nat} {L : OL} (h : jC H pb po L) (o' : Od) (x' : AV) (B : List Nat) (hpo' : H.length ≤ po')
    (hpb : H'[pb]? = some (.cells [.sl po' 0 (L.length + 1) 4])) (hpo : H'[po']? = some (.arr ((L.map fun e => iY e.1 e.2.1) ++ [iY o' x']) 4)) (hk : ∀ k,k < H.length → k ≠ po → k ≠ pb → H'[k]? = H[k]?)
    (hn : kG H' x' o'.tk B) (hB : ∀ k,k ∈ B → k ∉ vU pb po L ∧ k ≠ po') : jC H' pb po' (L ++ [(o',x',B)]) := by
  have hnd := h.nd;have hlt := h.lt;simp only [aL,aR,not_or] at hnd;obtain ⟨⟨n1,n2⟩,n3,n4⟩ := hnd;have hpbl := hlt pb (by simp)
  have hfl : ∀ k,k ∈ L.flatMap (·.2.2) → k < H.length := fun k hk => hlt k (aE _ (aE _ hk));refine ⟨by rw [hpb,aC,cK],by rw [hpo];simp,fun f hf => ?_,?_⟩
  · rcases bD.1 hf with hf | hf
    · refine (h.n f hf).frame fun k hkf => ?_
      have hm : k ∈ L.flatMap (·.2.2) := dK.2 ⟨f,hf,hkf⟩;exact hk k (hfl k hm) (fun e1 => n3 (e1 ▸ hm)) (fun e1 => n2 (e1 ▸ hm))
    · rw [bG.1 hf];exact hn
  · rw [fB];simp only [fH,jQ,List.append_nil,aL,aR,not_or,bD,dX];have hx : ∀ k,k ∈ B → k ≠ pb ∧ k ∉ L.flatMap (·.2.2) := fun k hk => by
      have := (hB k hk).1;simp only [aR,not_or] at this;exact ⟨this.1,this.2.2⟩
    exact ⟨⟨by omega,n2,fun hm => (hx pb hm).1 rfl⟩,⟨fun hm => by have := hfl _ hm;omega,fun hm => (hB _ hm).2 rfl⟩,n4,hn.nd,fun a ha b hb e => (hx b hb).2 (e ▸ ha)⟩
theorem HU {o : Hp} {b : AB} (h : o[0]? = some b) : o = b :: o.drop 1 := by
  cases o with
  | nil => simp at h
  | cons c o => simp at h;rw [h];rfl
theorem uW {N k : Nat} (h : 1 ≤ k) : fM [0] N 1 k = N + (k - 1) := by
  unfold fM;rw [bO (by simp;omega)]
theorem SI {X Z : Hp} {s s' : St} {po : Nat} {L : OL} (h0 : X[0]? = some (rG s)) (g7 : jC X 1 po L) (g8 : 0 ∉ vU 1 po L) {x : AV} {tk : List (List Tk)} {B : List Nat} (hn : kG (rG s' :: Z) x tk B) (hB : ∀ k,k ∈ B → 1 ≤ k) :
    jC (X.set 0 (rG s') ++ Z.map (AB.map (fM [0] X.length 1))) 1 po L ∧ kG (X.set 0 (rG s') ++ Z.map (AB.map (fM [0] X.length 1))) (x.map (fM [0] X.length 1)) tk (B.map (fM [0] X.length 1)) ∧ (∀ k,k ∈ B.map (fM [0] X.length 1) → X.length ≤ k) ∧ (X.set 0 (rG s') ++ Z.map (AB.map (fM [0] X.length 1)))[0]? = some (rG s') := by
  have hx0 : 0 < X.length := (aA.1 h0).1;refine ⟨g7.frame fun k hk => ?_,hn.ren (fun k hk b hb => ?_) (fun a ha b hb e => ?_),fun k hk => ?_,bS (gA hx0)⟩
  · rw [iP (by rw [wW];exact g7.lt k hk),eK (fun e : k = 0 => g8 (e ▸ hk))]
  · have h1 := hB k hk;rw [uW h1];obtain ⟨k,rfl⟩ : ∃ k',k = k' + 1 := ⟨k - 1,by omega⟩
    rw [aF (by rw [wW];omega),wW,show X.length + (k + 1 - 1) - X.length = k by omega,aO]
    rw [fE] at hb;rw [hb];rfl
  · rw [uW (hB a ha),uW (hB b hb)] at e;have := hB a ha;have := hB b hb;omega
  · obtain ⟨m,hm,rfl⟩ := aJ.1 hk;rw [uW (hB m hm)];omega
abbrev NM (X : Hp) (po : Nat) (L : OL) (o : Od) (x : AV) (n : Nat) : Hp := ((X.set po .gone).set 1 (.cells [.sl n 0 (L.length + 1) 4])) ++ [.arr [iY o x] 4,.arr ((L.map fun e => iY e.1 e.2.1) ++ [iY o x]) 4]
theorem OY {X : Hp} {s : St} {po : Nat} {L : OL} {o : Od} {x : AV} {B : List Nat} (b1 : jC X 1 po L) (b2 : kG X x o.tk B) (b3 : X[0]? = some (rG s)) (hft : ∀ k,k ∈ B → k ∉ vU 1 po L) (g8 : 0 ∉ vU 1 po L) (hB0 : 0 ∉ B) :
    jC (NM X po L o x (X.length + 1)) 1 (X.length + 1) (L ++ [(o,x,B)]) ∧ (NM X po L o x (X.length + 1))[0]? = some (rG s) ∧ 0 ∉ vU 1 (X.length + 1) (L ++ [(o,x,B)]) := by
  have h1l := b1.lt 1 (by simp)
  have h0 : 0 ≠ po ∧ (0 : Nat) ≠ 1 := ⟨fun e => g8 (by rw [e];simp),by decide⟩
  have hk : ∀ k,k < X.length → k ≠ po → k ≠ 1 → (NM X po L o x (X.length + 1))[k]? = X[k]? := fun k hk h1 h2 => by
    rw [aG (by simpa using hk),eK h2,eK h1]
  have hBx : ∀ k,k ∈ B → k ≠ po ∧ k ≠ 1 := fun k hk => by
    have := hft k hk;simp only [aR,not_or] at this;exact ⟨this.2.1,this.1⟩
  refine ⟨b1.addN o x B (CM _) (bS (gA (by simpa using h1l))) (by rw [aF (by simp)];simp) hk (b2.frame fun k hkB => hk k (b2.lt k hkB) (hBx k hkB).1 (hBx k hkB).2) (fun k hkB => ⟨hft k hkB,by have := b2.lt k hkB;omega⟩),?_,?_⟩
  · rw [hk 0 (by omega) h0.1 h0.2];exact b3
  · simp only [aR,not_or] at g8;show 0 ∉ 1 :: (X.length + 1) :: (L ++ [(o,x,B)]).flatMap (·.2.2);rw [fB];simp only [aR,not_or,bD,fH,jQ,List.append_nil];exact ⟨by decide,by omega,g8.2.2,hB0⟩
theorem N7 : ∀ (k : Nat) (s : St), ((jN k s).2.getD []).length ≤ (s.getD []).length
  | 0,s => aQ _
  | k + 1,s => by
    rw [jN];split
    · exact aQ _
    · have h1 := mD (s := s);have h2 := mD (s := (dB s).2);have h3 := mD (s := (dB (dB s).2).2);have h4 := N7 k (dB (dB (dB s).2).2).2;dsimp only;omega
theorem O0 : ∀ (k : Nat) (s : St) {l : List Tk} {s' : St}, kV k s = some (l, s') → (s'.getD []).length ≤ (s.getD []).length
  | 0,s,l,s',h => by cases h;exact aQ _
  | k + 1,s,l,s',h => by
    rw [kV] at h;split at h
    · cases h;exact aQ _
    · split at h
      · cases h
      · obtain ⟨⟨l2,s2⟩,h2,h3⟩ := bY.1 h;cases h3;have h1 := mD (s := s);have h3 := mD (s := (dB s).2);have h4 := O0 k _ h2;dsimp only;omega
theorem O4 : ∀ (ws : List Wt) (s : St) {tk : List (List Tk)} {s' : St}, kD ws s = some (tk, s') → (s'.getD []).length ≤ (s.getD []).length
  | [],s,tk,s',h => by cases h;exact aQ _
  | w :: ws,s,tk,s',h => by
    rw [kD] at h;obtain ⟨⟨l,s1⟩,h1,h2⟩ := mA.1 h;dsimp only at h2;split at h2
    · cases h2
    · obtain ⟨⟨tk2,s2⟩,h3,h4⟩ := bY.1 h2;cases h4;have a1 := O0 _ _ h1;have a2 := O4 ws s1 h3;have a3 := oT s 59 0;dsimp only;omega
theorem HG {s s' : St} {o : Od} (h : kW s = some (o,s')) : (s'.getD []).length ≤ (s.getD []).length := by
  unfold kW at h;have a1 := oT s 59 0;have a2 := N7 (jE s 59 0).1.toNat (jE s 59 0).2;change ((kN s).2.getD []).length ≤ _ at a2;have a3 := mD (s := (kN s).2);have a4 := mD (s := (dB (kN s).2).2);split at h
  · cases h
  · split at h
    · cases h;omega
    · obtain ⟨⟨tk,s3⟩,h2,h3⟩ := mA.1 h;dsimp only at h3;split at h3
      · cases h3
      · cases h3;have := O4 _ _ h2;omega
def rC (l : List UInt8) (r : AV) (o : Hp) : Prop := match O5 l with
  | some bk => ∃ A,r = .tup [.ptr 1 0,.b true] ∧ uL o 1 bk A
  | none => r = .tup [.v (.pointer none),.b false]
theorem wQ {α : Type} (f : α → List UInt8) (n : Nat) : ∀ l : List α, (∀ x, x ∈ l → (f x).length ≤ n) → (l.map f).flatten.length ≤ l.length * n
  | [],_ => by simp
  | x :: l,h => by
    have h1 := h x aN;have h2 := wQ f n l fun x hx => h x (aE _ hx);rw [List.map_cons,bJ,aC,List.length_cons,dA,CL];omega
theorem PK {o : Od} (h : nN o) (hI : WS o) : (Y7 o).length ≤ 17601826 := by
  have hf := h.few;have hw := (pA h.ws).1;have w1 := wQ JD 66 o.ws fun w hw => by
    obtain ⟨a,b,c⟩ := hI.ws w hw;have := lA a;have := lA b;have := lA c;unfold JD;simp only [aC];omega
  have t1 := wQ JB 880022 o.tk fun l hl => by
    have hl2 := hf.2 l hl;have := lA (n := (l.length : Int)) ⟨by omega,by omega⟩
    have t2 := wQ OC 44 l fun t ht => by
      obtain ⟨a,b⟩ := hI.tk l hl t ht;have := lA a;have := lA b;unfold OC;simp only [aC];omega
    have : l.length * 44 ≤ 20000 * 44 := eJ _ hl2;unfold JB rK;simp only [aC];omega
  have : o.ws.length * 66 ≤ 20 * 66 := eJ _ hw.2;have : o.tk.length * 880022 ≤ 20 * 880022 := eJ _ hf.1;have := lA (n := (o.ws.length : Int)) ⟨by omega,by omega⟩
  have := lA hI.due;have := lA hI.st;unfold Y7 RJ;simp only [aC];have e1 : (rH o.ws).length = (o.ws.map JD).flatten.length := rfl;have e2 : (kY o.tk).length = (o.tk.map JB).flatten.length := rfl;omega
theorem R1 {bk : Bk} (h : ∀ o,o ∈ bk → nN o ∧ ∀ w,w ∈ o.ws → sY w.1) (hl : bk.length ≤ 1000000) : (pL bk).length ≤ 22 + bk.length * 17601826 := by
  have h1 := wQ Y7 17601826 bk fun o ho => PK (h o ho).1 ((h o ho).1.odI (h o ho).2);have := lA (n := (bk.length : Int)) ⟨by omega,by omega⟩
  unfold pL;rw [aC];have e1 : (vR bk).length = (bk.map Y7).flatten.length := rfl;omega
end Go.Or
namespace Go.Proofs.YtdiogjgohbbllaaGreatDoor
open Go Go.Ab Go.Or Go.Wr
attribute [local irreducible] VC AW bR bN eS lE
set_option maxHeartbeats 4000000
theorem SH (l : List UInt8) (hl : l.length ≤ 1000000000) : eS Tryz.prog 39 [.s l] [] (rC l) := by
  have c0 := SL l;have c1 := KV (some l) (by rw [nQ];exact hl)
  have hb0 := oT (some l) 59 0;have hn0 := T9 (some l) 59;have hn1 := (qY (some l) 59 0).2;rw [nQ] at hb0;have hro : O5 l = (mT (jE (some l) 59 0).1.toNat (jE (some l) 59 0).2 []).bind fun x => if x.2 = some [] ∧ pL x.1 = l then some x.1 else none := rfl
  generalize (jE (some l) 59 0).1 = n at *;generalize (jE (some l) 59 0).2 = s2 at *;refine jO T Tryz.func39 rfl rfl rfl rfl ?_
  (repeat' (first|refine wS ?_|refine wB ?_|(refine rg 0 (oC ?_))|(refine rg 1 (mW rfl (cQ [] rfl rfl c0 rfl rfl (by decide) trivial (by simp) rfl ?_));refine aV ?_)|(refine rg 2 (cQ [] rfl rfl LC rfl rfl (by decide) trivial (by simp) rfl ?_);refine aV ?_)|(refine rg 3 (mW rfl (cQ [0] rfl rfl c1 rfl rfl (by decide) ⟨.inr rfl,trivial⟩ (by simp) rfl ?_));refine aV ?_)|refine nZ ?_));refine xU 1 0 4 rfl rfl (by decide) ?_
  refine iT (X := {x : Nat × St × OL × Nat × Hp // mT n.toNat s2 [] = mT x.1 x.2.1 (x.2.2.1.map (·.1)) ∧ (x.1 : Int) ≤ n ∧ (x.2.1.getD []).length ≤ 1000000000 ∧ x.2.2.1.length ≤ 1000 ∧ (∀ o, o ∈ x.2.2.1.map (·.1) → nN o ∧ ∀ w, w ∈ o.ws → sY w.1) ∧ x.2.2.2.2[0]? = some (rG x.2.1) ∧ jC x.2.2.2.2 1 x.2.2.2.1 x.2.2.1 ∧ 0 ∉ vU 1 x.2.2.2.1 x.2.2.1}) (fun x => [(0, .s l), (4, .ptr 0 0), (5, .ptr 1 0), (6, .i (x.1.1 : Int))]) (fun x => x.1.2.2.2.2) (fun x => x.1.1)
    ⟨(n.toNat,s2,[],2,[rG s2,.cells [.sl 2 0 0 4],.arr [] 4]),rfl,by dsimp only;omega,by dsimp only;omega,bM _,fun o ho => (nomatch ho),rfl,⟨rfl,rfl,fun e he => (nomatch he),by simp⟩,by simp⟩ (mC.of rfl ⟨rfl,rfl,rfl,congrArg (fun z : Int => some (AV.i z)) (by dsimp only;omega),trivial⟩) ?_
  rintro ⟨⟨k,s,L,po,X⟩,g1,g2,g3,g4,g5,g6,g7,g8⟩;dsimp only at g1 g2 g3 g4 g5 g6 g7 g8 ⊢;have cL := DZ s;have hso := D0 g6;have hx0 : 0 < X.length := (aA.1 g6).1;by_cases hk2 : 0 < k ∧ 0 < (s.getD []).length
  · obtain ⟨k,rfl⟩ : ∃ k',k = k' + 1 := ⟨k - 1,by omega⟩
    have hrb : mT (k + 1) s (L.map (·.1)) = (kW s).bind fun x => if 1000 ≤ (L.map (·.1)).length then none else mT k x.2 (L.map (·.1) ++ [x.1]) := by rw [mT,if_neg (by omega)]
    have hcr := KF s g3
    (repeat' (first|refine wS ?_|refine wB ?_|refine wK ?_|refine wT ?_|(refine rg 4 (mW rfl (vV (jW rfl rfl (by omega)) (mW rfl (yN rfl (gT (cQ [0] rfl rfl cL rfl rfl (aL.2 ⟨cG,bB⟩) ⟨.inr g6,trivial⟩ (by simp) rfl ?_))))));refine yV (jW rfl rfl (by omega)) (pV ?_))|refine nZ ?_));all_goals try (exfalso;omega)
    refine jJ [(0,.s l),(4,.ptr 0 0),(5,.ptr 1 0),(6,.i ((k + 1 : Nat) : Int))] X (mC.of ((List.append_nil _).trans hso) (by repeat first|exact trivial|refine ⟨rfl,?_⟩)) ?_
    cases hod : kW s with
    | none =>
      have hro2 : O5 l = none := by rw [hro,g1,hrb,hod];rfl
      have key : ∀ o,rC l (.tup [.v (.pointer none),.b false]) o := fun o => by unfold rC;rw [hro2]
      (repeat' (first|refine wS ?_|refine wR ?_|refine wT ?_|(refine rg 6 (mV ?_);(refine uM [0] rfl rfl hcr rfl rfl (aL.2 ⟨cG,bB⟩) ⟨.inr g6,trivial⟩ (by simp) rfl ?_;rintro res hout hΦ;unfold CG at hΦ;rw [hod] at hΦ;dsimp only at hΦ;obtain ⟨ws,due,st,x,rfl,hx⟩ := hΦ;rcases hx with rfl|⟨px,mx,rfl⟩<;>dsimp only [fC]);(all_goals (refine mW rfl (xW rfl (xW rfl (cY (cS T rfl) rfl (bE T rfl rfl rfl rfl rfl rfl (by decide) (nH cP rfl rfl) (aV ?_))))))))|(refine rg 7 (mW rfl (vV (eI rfl) (mV ?_)));(iterate 6 refine gF ?_);refine pV ?_)|(refine rg 8 (oC ?_))|refine nZ ?_));all_goals first | (exfalso;omega) | exact ⟨.inl rfl,_,rfl,key _⟩
    | some y =>
      obtain ⟨o,s'⟩ := y;obtain ⟨WP,VI⟩ := HE hod;have hrb2 : mT (k + 1) s (L.map (·.1)) = if 1000 ≤ L.length then none else mT k s' (L.map (·.1) ++ [o]) := by rw [hrb,hod,bI];rfl
      have hbx := fun {Z : Hp} {x : AV} {B : List Nat} (hn : kG (rG s' :: Z) x o.tk B) (hB : ∀ k,k ∈ B → 1 ≤ k) => SI g6 g7 g8 hn hB;apply xT (I := AV × List Nat × Hp) (fun y => [(0,.s l),(4,.ptr 0 0),(5,.ptr 1 0),(6,.i ((k + 1 : Nat) : Int)),(7,.ptr y.2.2.length 0),(8,.b true)]) (fun y => y.2.2 ++ [.cells (iY o y.1)]) (fun y => jC y.2.2 1 po L ∧ kG y.2.2 y.1 o.tk y.2.1 ∧ (∀ k,k ∈ y.2.1 → X.length ≤ k) ∧ y.2.2[0]? = some (rG s'))
      case h1 =>
        intro rest
        (repeat' (first|refine wS ?_|(refine rg 6 (mV ?_);(refine uM [0] rfl rfl hcr rfl rfl (aL.2 ⟨cG,bB⟩) ⟨.inr g6,trivial⟩ (by simp) rfl ?_;rintro res hout hΦ;unfold CG at hΦ;rw [hod] at hΦ;dsimp only at hΦ;obtain ⟨x,B,rfl,h0,hn,hB⟩ := hΦ;have hh := HU h0;generalize hout.drop 1 = Z at hh;subst hh;clear h0;have hM := hbx hn hB;rcases hn.form with rfl|⟨px,mx,rfl⟩<;>dsimp only [fC]);(all_goals (refine mW rfl (xW rfl (xW rfl (cY (cS T rfl) rfl (bE T rfl rfl rfl rfl rfl rfl (by decide) (nH cP rfl rfl) (aV ?_))))))))|refine nZ ?_));all_goals
          refine jJ _ _ ?_ (rest (_,_,_) hM);exact mC.of (by rw [iL];rfl) ⟨rfl,rfl,rfl,rfl,rfl,rfl,trivial⟩
      rintro ⟨x,B,W⟩ ⟨m1,m2,m3,m4⟩;dsimp only at m1 m2 m3 m4 ⊢;have hft : ∀ k,k ∈ B → k ∉ vU 1 po L := fun k hk hm => by
        have := g7.lt k hm;have := m3 k hk;omega
      have hBw := m2.lt;have b1 : jC (W ++ [AB.cells (iY o x)]) 1 po L := m1.more fun k hk => iP hk
      have b2 : kG (W ++ [AB.cells (iY o x)]) x o.tk B := m2.frame fun k hk => iP (hBw k hk);have b3 : (W ++ [AB.cells (iY o x)])[0]? = some (rG s') := bS m4;have b4 : (W ++ [AB.cells (iY o x)])[W.length]? = some (.cells (iY o x)) := cP;have hcl : W.length + 1 = (W ++ [AB.cells (iY o x)]).length := by simp
      have hB0 : 0 ∉ B := fun hm => by have := m3 0 hm;omega
      clear m1 m2 m3 m4 hbx;generalize hX2 : W ++ [AB.cells (iY o x)] = X2 at *;generalize W.length = c at *;have hpol := (aA.1 b1.o).1;have hpbl := (aA.1 b1.b).1;by_cases hbig : 1000 ≤ L.length
      · rw [if_pos hbig] at hrb2;have hro2 : O5 l = none := by rw [hro,g1,hrb2];rfl
        have key : ∀ o,rC l (.tup [.v (.pointer none),.b false]) o := fun o => by unfold rC;rw [hro2]
        (repeat' (first|refine wS ?_|refine wR ?_|(refine wC rfl ?_ ?_<;>(intro hb;(try simp only [nm] at hb);try (exfalso;omega)))|(refine rg 7 (mW rfl (vV (eI rfl) (mW rfl (yN rfl (gT (nV ?_))))));refine yP T rfl (yV (by exact bC T rfl rfl (dU b1.b) rfl) ?_);refine gT (qW T rfl (yV (eV rfl rfl) (pV ?_))))|(refine rg 8 (oC ?_))|refine nZ ?_));all_goals first | (exfalso;omega) | exact ⟨.inl rfl,_,rfl,key _⟩
      · rw [if_neg hbig] at hrb2;rw [hrb2] at g1
        (repeat' (first|refine wK ?_|(refine wC rfl ?_ ?_<;>(intro hb;(try simp only [nm] at hb);try (exfalso;omega)))|(refine rg 7 (mW rfl (vV (eI rfl) (mW rfl (yN rfl (gT (nV ?_))))));refine yP T rfl (yV (by exact bC T rfl rfl (dU b1.b) rfl) ?_);refine gT (qW T rfl (yV (eV rfl rfl) (pV ?_))))|refine nZ ?_));all_goals try (exfalso;omega)
        have hta : List.take L.length (List.drop 0 (L.map fun e => iY e.1 e.2.1)) = L.map fun e => iY e.1 e.2.1 := by rw [dI,aX (by simp)]
        have hlen : ∀ b : AB,(X2 ++ [b]).length = X2.length + 1 := fun b => by simp
        have hnx := OY b1 b2 b3 hft g8 hB0;have hLn : (L ++ [(o,x,B)]).length = L.length + 1 := by simp
        have hLm : (L ++ [(o,x,B)]).map (·.1) = L.map (·.1) ++ [o] := by simp
        have g5' : ∀ z,z ∈ L.map (·.1) ++ [o] → nN z ∧ ∀ w,w ∈ z.ws → sY w.1 := fun z hz => by
          rcases bD.1 hz with hz | hz
          · exact g5 z hz
          · rw [bG.1 hz];exact ⟨WP,VI⟩
        rw [← hLm] at g1 g5';have hs'l : (s'.getD []).length ≤ 1000000000 := cC (HG hod) g3;rcases b2.form with rfl | ⟨px,mx,rfl⟩
        all_goals
          (repeat' (first|(refine rB (id := 9) 58 [[],[],[1],[1,2],[1,2,3],[],[5],rM 1 6,rN 8,rN 9,rN 10] (rM 38 10) [[],[38],[38],[38],[38],rM 38 5,rM 38 5,[38],[],[],[]] [(7,po),(10,1)] fK rfl (BZ (by decide +kernel) rfl rfl rfl rfl) (eW rfl rfl rfl rfl (by exact eQ rfl) ?_);refine eW rfl rfl rfl rfl (by exact eQ rfl) ?_;refine eW rfl rfl rfl rfl (by exact dQ rfl rfl) ?_;refine eW rfl rfl rfl rfl (by exact eE T rfl rfl rfl) ?_;refine eW rfl rfl rfl rfl (by exact bC T rfl rfl (dU (bS b1.b)) rfl) ?_;refine eW rfl rfl rfl rfl (by exact bC T rfl rfl (dU (bS b4)) rfl) ?_;refine MM rfl rfl rfl rfl (by exact cF T rfl rfl (by decide) (by decide) rfl rfl rfl) rfl ?_;refine vY rfl rfl rfl rfl hpol (zR T rfl rfl rfl rfl rfl (bS b1.o) (by simp) (kQ.whole Q3 rfl) rfl (by simp;omega) (by simp;omega)) ?_;refine eW rfl rfl rfl rfl (by exact dQ rfl rfl) ?_;refine eW rfl rfl rfl rfl (by exact eE T rfl rfl rfl) ?_;refine EM rfl rfl rfl rfl hpbl T rfl rfl rfl rfl rfl rfl (by decide) (JI (bS (fZ b1.ne b1.b)) rfl) ?_;refine xO rfl rfl rfl (by exact rfl) ?_)|(refine rg 5 (mW rfl (vV (gN rfl rfl (by omega) (by omega)) (aV ?_))))|refine nZ ?_));all_goals try (exfalso;omega)
          all_goals exact ⟨⟨(k,s',L ++ [(o,_,B)],X2.length + 1,_),g1,by dsimp only;omega,hs'l,by dsimp only;omega,g5',hnx.2.1,hnx.1,hnx.2.2⟩,J7 k,mC.of (Eq.trans (by unfold NM;(conv => rhs;rw [← hta]);rfl) (congrArg (NM X2 po L o _) (hlen (AB.arr [iY o _] 4)))) ⟨rfl,rfl,rfl,congrArg (fun z : Int => some (AV.i z)) (by dsimp only;omega),trivial⟩⟩
  · have hrb : mT k s (L.map (·.1)) = some (L.map (·.1),s) := by
      cases k with
      | zero => rfl
      | succ k => rw [mT,if_pos (by omega)]
    rw [g1,hrb] at hro;dsimp only [Option.bind_some] at hro;have hbl := R1 g5 (by rw [bI];omega)
    rw [bI] at hbl;have hby := GB (L.map (·.1)) (by rw [bI];omega) (fun o ho => (g5 o ho).1.odI (g5 o ho).2) (by omega)
    have hv : View (X.set 0 (rG s) ++ []) (.ptr 1 0) (FI (L.map (·.1))) := by rw [List.append_nil,hso];exact g7.view
    have cD := TQ s;apply xT (I := Unit) (fun _ => [(0,.s l),(4,.ptr 0 0),(5,.ptr 1 0)]) (fun _ => X) (fun _ => True)
    case h1 =>
      intro rest;by_cases hk0 : 0 < k
      · (repeat' (first|refine wS ?_|refine wE ?_|refine jY rfl ?_|(refine rg 4 (mW rfl (vV (jW rfl rfl (by omega)) (mW rfl (yN rfl (gT (cQ [0] rfl rfl cL rfl rfl (aL.2 ⟨cG,bB⟩) ⟨.inr g6,trivial⟩ (by simp) rfl ?_))))));refine yV (jX rfl rfl (by omega)) (pV ?_))|(refine nZ ?_)));all_goals try (exfalso;omega)
        all_goals exact jJ _ _ (mC.of ((List.append_nil _).trans hso) (by repeat first|exact trivial|refine ⟨rfl,?_⟩)) (rest () trivial)
      · (repeat' (first|refine wS ?_|refine wE ?_|refine jY rfl ?_|(refine rg 4 (mW rfl (vV (jX rfl rfl (by omega)) (mV ?_)));(iterate 3 refine gF ?_);refine pV ?_)|(refine nZ ?_)));all_goals try (exfalso;omega)
        all_goals exact jJ _ _ (mC.of rfl (by repeat first|exact trivial|refine ⟨rfl,?_⟩)) (rest () trivial)
    rintro _ _;generalize hbk : L.map (·.1) = bk at *;by_cases hs : s = some []
    · rw [decide_eq_true hs] at cD;by_cases hbe : pL bk = l
      · rw [if_pos ⟨hs,hbe⟩] at hro;have key : rC l (.tup [.ptr 1 0,.b true]) X := by unfold rC;rw [hro];exact ⟨_,rfl,po,L,g7,hbk.symm,rfl⟩
        have key2 : rC l (.tup [.ptr 1 0,.b true]) (X.set 0 (rG s) ++ []) := by rw [List.append_nil,hso];exact key
        (repeat' (first|refine wS ?_|refine wK ?_|refine wR ?_|refine wU ?_|(refine rg 10 (mW rfl (cQ [0] rfl rfl cD rfl rfl (aL.2 ⟨cG,bB⟩) ⟨.inr g6,trivial⟩ (by simp) rfl ?_));refine vV (eI rfl) (mW rfl (yN rfl (yV (by exact iB rfl rfl hby (.cons hv .nil) rfl rfl) ?_)));refine yN rfl (yV (H7 rfl rfl hbe) (pV ?_)))|(refine rg 12 (mW rfl (oC ?_)))|refine nZ ?_));all_goals first | (exfalso;omega) | exact ⟨.inl rfl,_,rfl,key2⟩
      · rw [if_neg (fun h => hbe h.2)] at hro;have key : ∀ o,rC l (.tup [.v (.pointer none),.b false]) o := fun o => by unfold rC;rw [hro]
        (repeat' (first|refine wS ?_|refine wR ?_|refine wT ?_|(refine rg 10 (mW rfl (cQ [0] rfl rfl cD rfl rfl (aL.2 ⟨cG,bB⟩) ⟨.inr g6,trivial⟩ (by simp) rfl ?_));refine vV (eI rfl) (mW rfl (yN rfl (yV (by exact iB rfl rfl hby (.cons hv .nil) rfl rfl) ?_)));refine yN rfl (yV (BK rfl rfl hbe) (pV ?_)))|(refine rg 11 (oC ?_))|refine nZ ?_));all_goals first | (exfalso;omega) | exact ⟨.inl rfl,_,rfl,key _⟩
    · rw [decide_eq_false hs] at cD;rw [if_neg (fun h => hs h.1)] at hro;have key : ∀ o,rC l (.tup [.v (.pointer none),.b false]) o := fun o => by unfold rC;rw [hro]
      (repeat' (first|refine wS ?_|refine wR ?_|refine wT ?_|(refine rg 10 (mW rfl (cQ [0] rfl rfl cD rfl rfl (aL.2 ⟨cG,bB⟩) ⟨.inr g6,trivial⟩ (by simp) rfl ?_));refine vV (eI rfl) (mV ?_);(iterate 4 refine gF ?_);refine pV ?_)|(refine rg 11 (oC ?_))|refine nZ ?_));all_goals first | (exfalso;omega) | exact ⟨.inl rfl,_,rfl,key _⟩
end Go.Proofs.YtdiogjgohbbllaaGreatDoor
namespace Go.Or
open Go Go.Ab Go.Wr Go.Proofs.YtdiogjgohbbllaaGreatDoor
theorem Z5 : ∀ {l : List Tk} {b : Int}, (∀ t, t ∈ l → 1 ≤ t.2) → eD l b ≤ iN l
  | [],_,_ => uK _
  | t :: l,b,h => by
    have ih := Z5 (l := l) (b := b) fun t ht => h t (aE _ ht);have h1 := h t aN;unfold iN at ih ⊢;simp only [eD,List.map_cons,jL];split <;> omega
theorem M3 (a b : List Tk) : iN (a ++ b) = iN a + iN b := by unfold iN;rw [cO,List.sum_append]
theorem M2 : ∀ {tk : List (List Tk)}, (∀ l, l ∈ tk → iN l ≤ 20000) → iN tk.flatten ≤ 20000 * tk.length
  | [],_ => by decide
  | l :: tk,h => by
    have ih := M2 fun l hl => h l (aE _ hl);have h1 := h l aN;rw [bJ,M3,List.length_cons];omega
theorem nN.units {o : Od} (h : nN o) : iN o.tk.flatten ≤ 400000 := by
  have hr := pA h.ws;have hf := h.few;have := M2 (tk := o.tk) fun l hlm => by
    by_cases h1 : o.st = 1
    · have hl := h.len h1;obtain ⟨i,hi⟩ := bT.1 hlm;have hil := (aA.1 hi).1;have hs := h.sum i _ l (aB (by omega : i < o.ws.length)) hi
      have h2 := hr.2.2 _ (aI (by omega : i < o.ws.length))
      omega
    · rw [h.tk0 h1] at hlm;cases hlm
  omega
theorem J1 : ∀ {bk : Bk}, (∀ o, o ∈ bk → nN o) → iN (gR bk) ≤ 400000 * bk.length
  | [],_ => by decide
  | o :: bk,h => by
    have ih := J1 fun o ho => h o (aE _ ho);have h1 := (h o aN).units;unfold gR at ih ⊢;rw [fH,M3,List.length_cons];omega
theorem nF.sz {bk : Bk} (h : nF bk) : UR bk := by
  have hall : ∀ t,t ∈ gR bk → CS t := fun t ht => by
    obtain ⟨o,ho,ht⟩ := dK.1 ht;obtain ⟨l,hl,ht⟩ := oE.1 ht;exact (h.od o ho).ok l hl t ht
  refine ⟨h.le,fun o ho => ⟨by have := (h.od o ho).few.1;omega,fun l hl => by have := (h.od o ho).few.2 l hl;omega⟩,⟨fun t ht => ⟨(hall t ht).1,by have := (hall t ht).2.2.1;omega⟩,fun b => ?_⟩,fun o ho => by have := (pA (h.od o ho).ws).1;omega⟩
  have h1 := Z5 (l := gR bk) (b := b) fun t ht => (hall t ht).2.2.1;have h2 := J1 h.od;have h3 := h.le;omega
theorem NV.getD {bk : Bk} (h : NV bk) (i : Nat) : ∀ w,w ∈ (bk.getD i fY).ws → sY w.1 := fun w hw => by
  rw [aD] at hw;cases e : bk[i]? with
  | none => rw [e] at hw;cases hw
  | some o => rw [e] at hw;exact h o (aH e) w hw
theorem NV.set {bk : Bk} (h : NV bk) {i : Nat} {o : Od} (ho : ∀ w,w ∈ o.ws → sY w.1) : NV (bk.set i o) := fun x hx => by
  rcases rO hx with rfl | hx
  · exact ho
  · exact h x hx
theorem TR {ls : List Lo} {sure : List Bo} {bk : Bk} {o : Or.Op} (h : NV bk) (ho : ∀ w,w ∈ o.ws → sY w.1) : NV (BU ls sure bk o).2 := by
  unfold BU;split
  · unfold wF;split
    · exact h
    · split
      · exact h
      · intro x hx;rcases bD.1 hx with hx | hx
        · exact h x hx
        · rw [bG.1 hx];exact ho
  split
  · unfold pY;split
    · exact h
    · split
      · exact h
      · exact h.set (h.getD _)
  split
  · unfold kB;split
    · exact h
    · split
      · exact h
      · split
        · exact h
        · exact h.set (by rw [(M8 _ _ _ _).1];exact h.getD _)
  have he : ∀ st ss,NV (rY bk o.no st ss).2 := fun st ss => by
    unfold rY;split
    · exact h
    · exact h.set (h.getD _)
  split
  · exact he _ _
  split
  · exact he _ _
  · exact h
theorem QH {ls : List Lo} {sure : List Bo} {bk : Bk} {o : Or.Op} : bk.length ≤ (BU ls sure bk o).2.length ∧ (BU ls sure bk o).2.length ≤ bk.length + 1 := by
  have he : ∀ st ss,(rY bk o.no st ss).2.length = bk.length := fun st ss => by
    unfold rY;split <;> simp
  have hp : (pY ls sure bk o.no).2.length = bk.length := by
    unfold pY;split
    · rfl
    · split <;> simp
  have hs : (kB bk o.no o.b o.n o.t).2.length = bk.length := by
    unfold kB;split
    · rfl
    · split
      · rfl
      · split <;> simp
  have ha : bk.length ≤ (wF bk o.ws o.t).2.length ∧ (wF bk o.ws o.t).2.length ≤ bk.length + 1 := by
    unfold wF;split
    · simp
    · split <;> simp
  unfold BU;split
  · exact ha
  split
  · dsimp only;omega
  split
  · dsimp only;omega
  split
  · rw [he];omega
  split
  · rw [he];omega
  · dsimp only;omega
abbrev WO (o : Or.Op) : List AV := [.i o.d,.i o.no,.i o.b,.i o.n,.i o.t,.rowE (bZ o.ws) 3]
def WT (H : Hp) (A : List Nat) (a b : Int) (bk : Bk) (r : AV) (o : Hp) : Prop := ∃ pb A',r = .tup [.ptr pb 0,.i a,.i b] ∧ uL o pb bk A' ∧ Fr H A o A'
end Go.Or
namespace Go.Proofs.YtdiogjgohbbllaaGreatDoor
open Go Go.Ab Go.Or Go.Wr
attribute [local irreducible] VC AW bR bN eS lE
set_option maxHeartbeats 4000000
theorem XM {H : Hp} {pb : Nat} {bk : Bk} {A : List Nat} (hB : uL H pb bk A) (ok : nF bk) (kn : NV bk) (hlen : bk.length ≤ 50) (ls : List Lo) (sure : List Bo) (hs : pM ls sure) (o : Or.Op) (hw : o.ws.length ≤ 1000000) (u : AV) (hsu : CF H u sure) :
    eS Tryz.prog 12 [.ptr pb 0,.agg (WO o),.rowE (jF ls) 3,u] H (WT H A (BU ls sure bk o).1.1 (BU ls sure bk o).1.2 (BU ls sure bk o).2) := by
  obtain ⟨d,no,b,n,t,ws⟩ := o;dsimp only at hw;have hB1 := hB.app [.gone];have hz := ok.sz;have hsu1 : CF (H ++ [.gone]) u sure := hsu.imp id fun ⟨k,h,hk⟩ => ⟨k,h,bS hk⟩
  have hform : u = .rowE (eR sure) 3 ∨ ∃ k,u = .sl k 0 sure.length 3 := hsu.imp id fun ⟨k,h,_⟩ => ⟨k,h⟩
  have fin : ∀ {a c : Int} {bk' : Bk} {o : Hp},(∃ A',uL o pb bk' A' ∧ Fr (H ++ [.gone]) A o A') → WT H A a c bk' (.tup [.ptr pb 0,.i a,.i c]) o := fun {a c bk' o} ⟨A',h1,h2⟩ => ⟨pb,A',rfl,h1,(Fr.app H _ A).trans h2⟩;have hask := ND hB1 ws t (by omega) hw
  have hpro := yX hB1 hz ls sure hs no u hsu1;have hsrv := T1 hB1 hz no b n t;have hwdr := CW hB1 no (by omega)
  have hgiv := LY hB1 no (by omega)
  have hcpy := TT hB1 (by omega) hz.tk (fun o ho => by have := hz.ws o ho;omega)
  have hbb := R1 (fun o ho => ⟨ok.od o ho,kn o ho⟩) (by omega : bk.length ≤ 1000000)
  have hbl : (pL bk).length ≤ 1000000000 := by omega
  have hby := GB bk (by omega) (fun o ho => (ok.od o ho).odI (kn o ho)) (by omega)
  have hrd := SH (pL bk) hbl;have hrf := KG ok kn;have hvw := hB1.view;have hid : WT H A 0 0 bk (.tup [.ptr pb 0,.i 0,.i 0]) (H ++ [.gone]) := fin ⟨A,hB1,Fr.refl _ _⟩;refine jO T Tryz.func12 rfl rfl rfl rfl ?_;unfold BU;dsimp only;rcases hform with rfl | ⟨ku,rfl⟩
  all_goals
    (repeat' (first|refine wS ?_|(refine rg 0 (cY (fG rfl rfl) rfl (OE rfl (aV ?_))))|refine nZ ?_));refine gP 5 (cs := [.i d,.i no,.i b,.i n,.i t,.rowE (bZ ws) 3]) rfl cP rfl ?_
    rw [iL];by_cases h0 : d = 0
    · rw [if_pos h0]
      (repeat' (first|refine wS ?_|refine wB ?_|refine wR ?_|(refine wC rfl ?_ ?_<;>(intro hb;(try simp only [nm] at hb);try (exfalso;omega)))|(refine rg 1 (MH T ?_))|(refine rg 2 (vV (cT rfl rfl) (aV ?_)))|(refine rg 3 (mW rfl (jH T rfl (jH T rfl (eH rfl rfl hask rfl ?_))));rintro _ _ ⟨rfl,hq⟩;dsimp only [fC];refine mW rfl (xW rfl (xW rfl (oC ?_))))|(refine rg 4 (fF rfl (mW rfl (OE rfl (aV ?_)))))|refine nZ ?_));all_goals first | (exfalso;omega) | exact ⟨.inl rfl,_,rfl,fin hq⟩
    rw [if_neg h0];by_cases h1 : d = 1
    · rw [if_pos h1]
      (repeat' (first|refine wS ?_|refine wB ?_|refine wR ?_|(refine wC rfl ?_ ?_<;>(intro hb;(try simp only [nm] at hb);try (exfalso;omega)))|(refine rg 1 (MH T ?_))|(refine rg 2 (vV (cT rfl rfl) (aV ?_)))|(refine rg 5 (vV (cT rfl rfl) (aV ?_)))|(refine rg 6 (fF rfl (jH T rfl (fF rfl (eH rfl rfl hpro rfl ?_))));rintro _ _ ⟨rfl,hq⟩;dsimp only [fC];refine OE rfl (aV ?_))|refine nZ ?_));all_goals first | (exfalso;omega) | exact ⟨.inl rfl,_,rfl,fin hq⟩
    rw [if_neg h1];by_cases h2 : d = 2
    · rw [if_pos h2]
      (repeat' (first|refine wS ?_|refine wB ?_|refine wR ?_|(refine wC rfl ?_ ?_<;>(intro hb;(try simp only [nm] at hb);try (exfalso;omega)))|(refine rg 1 (MH T ?_))|(refine rg 2 (vV (cT rfl rfl) (aV ?_)))|(refine rg 5 (vV (cT rfl rfl) (aV ?_)))|(refine rg 7 (vV (cT rfl rfl) (aV ?_)))|(refine rg 8 (fF rfl (jH T rfl (jH T rfl (jH T rfl (jH T rfl (eH rfl rfl hsrv rfl ?_))))));rintro _ _ ⟨rfl,hq⟩;dsimp only [fC];refine OE rfl (aV ?_))|refine nZ ?_));all_goals first | (exfalso;omega) | exact ⟨.inl rfl,_,rfl,fin hq⟩
    rw [if_neg h2];by_cases h3 : d = 3
    · rw [if_pos h3]
      (repeat' (first|refine wS ?_|refine wB ?_|refine wR ?_|(refine wC rfl ?_ ?_<;>(intro hb;(try simp only [nm] at hb);try (exfalso;omega)))|(refine rg 1 (MH T ?_))|(refine rg 2 (vV (cT rfl rfl) (aV ?_)))|(refine rg 5 (vV (cT rfl rfl) (aV ?_)))|(refine rg 7 (vV (cT rfl rfl) (aV ?_)))|(refine rg 9 (vV (cT rfl rfl) (aV ?_)))|(refine rg 10 (fF rfl (jH T rfl (eH rfl rfl hwdr rfl ?_)));rintro _ _ ⟨rfl,hq⟩;dsimp only [fC];refine OE rfl (aV ?_))|refine nZ ?_));all_goals first | (exfalso;omega) | exact ⟨.inl rfl,_,rfl,fin hq⟩
    rw [if_neg h3];by_cases h4 : d = 4
    · rw [if_pos h4]
      (repeat' (first|refine wS ?_|refine wB ?_|refine wR ?_|(refine wC rfl ?_ ?_<;>(intro hb;(try simp only [nm] at hb);try (exfalso;omega)))|(refine rg 1 (MH T ?_))|(refine rg 2 (vV (cT rfl rfl) (aV ?_)))|(refine rg 5 (vV (cT rfl rfl) (aV ?_)))|(refine rg 7 (vV (cT rfl rfl) (aV ?_)))|(refine rg 9 (vV (cT rfl rfl) (aV ?_)))|(refine rg 11 (vV (cT rfl rfl) (aV ?_)))|(refine rg 12 (fF rfl (jH T rfl (eH rfl rfl hgiv rfl ?_)));rintro _ _ ⟨rfl,hq⟩;dsimp only [fC];refine OE rfl (aV ?_))|refine nZ ?_));all_goals first | (exfalso;omega) | exact ⟨.inl rfl,_,rfl,fin hq⟩
    rw [if_neg h4];by_cases h5 : d = 5
    · (repeat' (first|refine wS ?_|refine wB ?_|refine wR ?_|(refine wC rfl (fun hb => ?_) (fun hb => ?_) <;> (((try simp only [nm] at hb);try (exfalso;omega))))|(refine rg 1 (MH T ?_))|(refine rg 2 (vV (cT rfl rfl) (aV ?_)))|(refine rg 5 (vV (cT rfl rfl) (aV ?_)))|(refine rg 7 (vV (cT rfl rfl) (aV ?_)))|(refine rg 9 (vV (cT rfl rfl) (aV ?_)))|(refine rg 11 (vV (cT rfl rfl) (aV ?_)))|(refine rg 13 (vV (cT rfl rfl) (aV ?_)))|(refine rg 14 (mW rfl (eH rfl rfl hcpy rfl ?_));rintro _ _ ⟨pb2,A2,rfl,hq1,hq2,hq3,hq4⟩;dsimp only [fC];refine OE rfl (aV ?_))|(refine nZ ?_)));all_goals first | (exfalso;omega) | exact ⟨.inl rfl,_,rfl,pb2,A2,rfl,hq1,(Fr.app H [.gone] A).trans ⟨hq3,fun k hk _ => hq4 k hk,fun k hk => .inr (hq2 k hk)⟩⟩
    by_cases h6 : d = 6
    · (repeat' (first|refine wS ?_|refine wB ?_|(refine wC rfl (fun hb => ?_) (fun hb => ?_) <;> (((try simp only [nm] at hb);try (exfalso;omega))))|(refine rg 1 (MH T ?_))|(refine rg 2 (vV (cT rfl rfl) (aV ?_)))|(refine rg 5 (vV (cT rfl rfl) (aV ?_)))|(refine rg 7 (vV (cT rfl rfl) (aV ?_)))|(refine rg 9 (vV (cT rfl rfl) (aV ?_)))|(refine rg 11 (vV (cT rfl rfl) (aV ?_)))|(refine rg 13 (vV (cT rfl rfl) (aV ?_)))|(refine rg 15 (vV (cT rfl rfl) (aV ?_)))|(refine rg 16 (mW rfl (vV (by exact iB rfl rfl hby (.cons hvw .nil) rfl rfl) ?_));refine uM [] rfl rfl hrd rfl rfl bB trivial (by simp) rfl ?_;rintro res hout hΦ;unfold rC at hΦ;rw [hrf] at hΦ;dsimp only at hΦ;obtain ⟨A2,rfl,hq⟩ := hΦ;dsimp only [fC];refine mW rfl (xW rfl (xW rfl (oC ?_))))|(refine nZ ?_)));all_goals try (exfalso;omega)
      all_goals
        obtain ⟨A3,hq3,hq4⟩ := hq.shift (H := H ++ [.gone]);refine jJ [(13,.ptr (1 + (H ++ [AB.gone]).length) 0),(14,.b true)] ((H ++ [AB.gone]) ++ hout.map (AB.map (· + (H ++ [AB.gone]).length))) (mC.of (by rw [sC,dI];rfl) ⟨by rw [sC];rfl,rfl,trivial⟩) ?_
        have key : WT H A 0 0 bk (.tup [.ptr (1 + (H ++ [AB.gone]).length) 0,.i 0,.i 0]) ((H ++ [AB.gone]) ++ hout.map (AB.map (· + (H ++ [AB.gone]).length))) := ⟨_,A3,rfl,hq3,(Fr.app H [.gone] A).trans ⟨by rw [@aC _ (H ++ [AB.gone]) _];exact fD _ _,fun k hk _ => iP hk,fun k hk => .inr (hq4 k hk)⟩⟩
        (repeat' (first|refine wS ?_|refine wK ?_|refine wR ?_|refine wU ?_|(refine rg 17 (mW rfl (vV (eI rfl) ?_)))|(refine rg 19 (mW rfl (OE rfl (aV ?_))))|refine nZ ?_));all_goals first | (exfalso;omega) | exact ⟨.inl rfl,_,rfl,key⟩
    · (repeat' (first|refine wS ?_|refine wB ?_|refine wK ?_|refine wR ?_|(refine wC rfl (fun hb => ?_) (fun hb => ?_) <;> (((try simp only [nm] at hb);try (exfalso;omega))))|(refine rg 1 (MH T ?_))|(refine rg 2 (vV (cT rfl rfl) (aV ?_)))|(refine rg 5 (vV (cT rfl rfl) (aV ?_)))|(refine rg 7 (vV (cT rfl rfl) (aV ?_)))|(refine rg 9 (vV (cT rfl rfl) (aV ?_)))|(refine rg 11 (vV (cT rfl rfl) (aV ?_)))|(refine rg 13 (vV (cT rfl rfl) (aV ?_)))|(refine rg 15 (vV (cT rfl rfl) (aV ?_)))|(refine rg 20 (mW rfl (OE rfl (aV ?_))))|(refine nZ ?_)));all_goals first | (exfalso;omega) | exact ⟨.inl rfl,_,rfl,hid⟩
end Go.Proofs.YtdiogjgohbbllaaGreatDoor
namespace Go.Or
open Go Go.Ab Go.Wr Go.Proofs.YtdiogjgohbbllaaGreatDoor
def K7 (b : Bo) (n : Int) : Bool := decide ((0 ≤ b.2.2 ∧ b.2.2 ≤ 1000000) ∧ (-1 ≤ b.1 ∧ b.1 ≤ n - 1) ∧ (0 ≤ b.2.1 ∧ b.2.1 ≤ 20000) ∧ (0 ≤ b.1 ∨ b.2.1 = 0))
def KT (l : Lo) (n : Int) : Bool := decide ((0 ≤ l.1 ∧ l.1 ≤ n - 1) ∧ (0 ≤ l.2.1 ∧ l.2.1 ≤ 20000))
def qH (l : List Bo) : Int := (l.map (·.2.1)).sum
def T4 (n : Nat) (ls : List Lo) (bs : List Bo) : Bool := decide (ls.length ≤ 2000 ∧ bs.length ≤ 3000) && (ls.all (KT · n) && (bs.all (K7 · ls.length) && decide (qH bs ≤ 20000)))
theorem DA {l : List Bo} {k : Nat} (h : k < l.length) : qH (l.take (k + 1)) = qH (l.take k) + l[k].2.1 := by
  unfold qH;rw [aY h,cO,List.sum_append];simp
theorem JJ {l : List Bo} (h : ∀ b,b ∈ l → 0 ≤ b.2.1 ∧ b.2.1 ≤ 20000) : 0 ≤ qH l ∧ qH l ≤ 20000 * l.length := by
  induction l with
  | nil => decide
  | cons b l ih =>
    have h1 := ih fun b hb => h b (aE _ hb);have h2 := h b aN;unfold qH at h1 ⊢;rw [List.map_cons,jL,List.length_cons];omega
abbrev Kd := List UInt8 × Int
abbrev xJ (l : List Kd) : List (List AV) := l.map fun k => [AV.s k.1,AV.i k.2]
theorem LO (l : List Kd) : ∀ e,e ∈ xJ l → e.length = 2 := by intro e he;obtain ⟨n,_,rfl⟩ := aJ.1 he;rfl
theorem zI (l : List Kd) : (xJ l).length = l.length := bI _
theorem LP {l : List Kd} {k : Nat} (h : k < l.length) : (xJ l)[(k : Int).toNat]? = some [AV.s l[k].1,AV.i l[k].2] := by simp [h]
abbrev kS (s : List UInt8) : Value := .string ⟨s.toArray⟩
theorem TC {a b : List UInt8} (h : kS a = kS b) : a = b := by
  have := Value.string.inj h;simpa using this
abbrev UU (l : List Kd) : List Value := l.map fun k => kS k.1
abbrev VR (l : List Kd) : List AV := l.map fun _ => AV.b true
structure NW (l : List Kd) : Prop where
  le : l.length ≤ 500
  nd : (l.map (·.1)).Nodup
  ok : ∀ k,k ∈ l → (1 ≤ k.1.length ∧ k.1.length ≤ 20) ∧ (1 ≤ k.2 ∧ k.2 ≤ 10000)
theorem EC (s : List UInt8) : MapKept.IsKey .string (kS s) := trivial
theorem RH (s : List UInt8) : IX (.s s) (kS s) := IX.v _
theorem LN (l : List Kd) : ∀ q,q ∈ UU l → MapKept.IsKey .string q := by
  intro q hq;obtain ⟨e,_,rfl⟩ := aJ.1 hq;exact EC _
theorem TB {l : List Kd} {s : List UInt8} (h : s ∉ l.map (·.1)) : kS s ∉ UU l := fun hm => by
  obtain ⟨e,he,e1⟩ := aJ.1 hm;exact h (aJ.2 ⟨e,he,TC e1⟩)
theorem PT (l : List Kd) : AV.idfL (VR l) = true := by
  induction l with
  | nil => rfl
  | cons e m ih => exact ih
theorem NW.new {l : List Kd} (h : NW l) {k : Nat} (hk : k < l.length) : l[k].1 ∉ (l.take k).map (·.1) := fun hm => by
  have hnd := h.nd;have e := congrArg (List.map (·.1)) (bX k l).symm;rw [aS hk,cO,List.map_cons] at e;rw [e,dX] at hnd;exact hnd.2.2 _ hm _ aN rfl
theorem WX (S : Nat → Prop) (w : World) (ρ : Pl) : R S w (.b false) ρ (.bool false) := by simp [R]
abbrev k3 : List Kd := [([97],1),([98],1),([99],1)]
theorem VS : NW k3 := ⟨by decide,by decide,by decide⟩
def zM (ls : List Lo) (bs : List Bo) : Bool := decide (ls.length ≤ 20 ∧ bs.length ≤ 20) && T4 3 ls bs
theorem H5 {ls : List Lo} {bs : List Bo} (h : zM ls bs = true) : pM ls bs := by
  unfold zM T4 at h;simp only [aM,decide_eq_true_eq,aT] at h;obtain ⟨⟨h1,h2⟩,_,h3,h4,h5⟩ := h;have hb : ∀ b,b ∈ bs → (0 ≤ b.2.1 ∧ b.2.1 ≤ 20000) ∧ (-1 ≤ b.1 ∧ b.1 < ls.length) := fun b hb => by
    have := h4 b hb;unfold K7 at this;rw [decide_eq_true_eq] at this;exact ⟨this.2.2.1,by omega,by omega⟩
  have hg : ∀ i,i < bs.length → bs.getD i (0,0,0) ∈ bs := fun i hi => by
    rw [aD,aB hi];exact aI hi
  refine ⟨by omega,h2,fun i hi => (hb _ (hg i hi)).2,fun b hb0 => ?_⟩
  unfold cnt;by_cases hbl : b.toNat < bs.length
  · exact (hb _ (hg _ hbl)).1
  · rw [aD,bO (by omega)];decide
theorem J0 {α : Type} {p : α → Bool} {l : List α} {k : Nat} (hk : k < l.length) (h : ∀ x,x ∈ l.take k → p x = true) (h2 : p l[k] = true) : ∀ x,x ∈ l.take (k + 1) → p x = true := fun x hx => by
  rw [aY hk] at hx;rcases bD.1 hx with hx | hx
  · exact h x hx
  · rw [bG.1 hx];exact h2
theorem W6 {α : Type} {p : α → Bool} {l : List α} {x : α} (hx : x ∈ l) (h : p x = false) : l.all p = false := by
  rw [List.all_eq_false];exact ⟨x,hx,by rw [h];decide⟩
end Go.Or
namespace Go.Proofs.YtdiogjgohbbllaaGreatDoor
open Go Go.Ab Go.Or Go.Wr
attribute [local irreducible] VC AW bR bN eS lE
set_option maxHeartbeats 4000000
theorem I3 (n l h : Int) : bN Tryz.prog 58 [.i n,.i l,.i h] [] (.b (decide (l ≤ n ∧ n ≤ h))) [] := by
  refine dC T Tryz.func58 rfl rfl rfl rfl ?_;by_cases h1 : l ≤ n
  · by_cases h2 : n ≤ h
    · rw [decide_eq_true ⟨h1,h2⟩]
      (repeat' (first|refine wS ?_|refine wR ?_|(refine rg 0 (aV ?_))|(refine rg 1 (fF rfl (vV (eV rfl rfl) (mV ?_)));refine bL rfl rfl ?_ ?_<;>(intro hb;rw [hb];(try simp only [nm] at hb);try (exfalso;omega));(all_goals (refine yN rfl (yN rfl (yV (iR rfl rfl) (pW rfl (aV ?_)))))))|refine nZ ?_));all_goals first | (exfalso;omega) | exact dZ (.inl rfl) rfl (by first | rfl | (simp [h1,h2];rfl) | (rw [decide_eq_true h2];rfl))
    · rw [decide_eq_false (fun h => h2 h.2)]
      (repeat' (first|refine wS ?_|refine wR ?_|(refine rg 0 (aV ?_))|(refine rg 1 (fF rfl (vV (eV rfl rfl) (mV ?_)));refine bL rfl rfl ?_ ?_<;>(intro hb;rw [hb];(try simp only [nm] at hb);try (exfalso;omega));(all_goals (refine yN rfl (yN rfl (yV (iR rfl rfl) (pW rfl (aV ?_)))))))|refine nZ ?_));all_goals first | (exfalso;omega) | exact dZ (.inl rfl) rfl (by first | rfl | (rw [decide_eq_false h2];rfl))
  · rw [decide_eq_false (fun h => h1 h.1)]
    (repeat' (first|refine wS ?_|refine wR ?_|(refine rg 0 (aV ?_))|(refine rg 1 (fF rfl (vV (eV rfl rfl) (mV ?_)));refine bL rfl rfl ?_ ?_<;>(intro hb;rw [hb];(try simp only [nm] at hb);try (exfalso;omega));(all_goals ((iterate 3 refine gF ?_);refine pW rfl (aV ?_))))|refine nZ ?_));all_goals first | (exfalso;omega) | exact dZ (.inl rfl) rfl (by first | rfl | (rw [decide_eq_false h1];rfl))
theorem DM (b : Bo) (n : Nat) (hn : n ≤ 1000000) : bN Tryz.prog 94 [.agg [.i b.1,.i b.2.1,.i b.2.2],.i n] [] (.b (K7 b n)) [] := by
  obtain ⟨l,c,t⟩ := b;have b1 := I3 t 0 1000000;have b2 := I3 l (-1) ((n : Int) - 1);have b3 := I3 c 0 20000;unfold K7;dsimp only;refine dC T Tryz.func94 rfl rfl rfl rfl ?_;by_cases h1 : 0 ≤ t ∧ t ≤ 1000000
  · rw [decide_eq_true h1] at b1;by_cases h2 : -1 ≤ l ∧ l ≤ (n : Int) - 1
    · rw [decide_eq_true h2] at b2;by_cases h3 : 0 ≤ c ∧ c ≤ 20000
      · rw [decide_eq_true h3] at b3;by_cases h4 : 0 ≤ l
        · rw [decide_eq_true ⟨h1,h2,h3,.inl h4⟩]
          (repeat' (first|refine wS ?_|refine wR ?_|(refine rg 0 (cY (fG rfl rfl) rfl (aV ?_)))|(refine rg 1 (jH T rfl (vV (by exact cN rfl rfl b1 rfl rfl rfl) ?_));refine mW rfl (yP T rfl (yO T rfl (yN rfl (yV (gN rfl rfl (by omega) (by omega)) (yV (by exact cN rfl rfl b2 rfl rfl rfl) ?_)))));refine pW rfl (mW rfl (yP T rfl (yO T rfl (yV (by exact cN rfl rfl b3 rfl rfl rfl) ?_))));refine pW rfl (mW rfl (yP T rfl (yO T rfl (yV (eV rfl rfl) (yM ?_)))));refine bL rfl rfl ?_ ?_<;>(intro hb;rw [hb];(try simp only [nm] at hb);try (exfalso;omega));(all_goals ((iterate 3 refine gF ?_);refine gT (pW rfl (pW rfl (aV ?_))))))|refine nZ ?_));all_goals first | (exfalso;omega) | exact dZ (.inl rfl) rfl (by first | rfl | (rw [decide_eq_true h4];rfl))
        · by_cases h5 : c = 0
          · rw [decide_eq_true ⟨h1,h2,h3,.inr h5⟩]
            (repeat' (first|refine wS ?_|refine wR ?_|(refine rg 0 (cY (fG rfl rfl) rfl (aV ?_)))|(refine rg 1 (jH T rfl (vV (by exact cN rfl rfl b1 rfl rfl rfl) ?_));refine mW rfl (yP T rfl (yO T rfl (yN rfl (yV (gN rfl rfl (by omega) (by omega)) (yV (by exact cN rfl rfl b2 rfl rfl rfl) ?_)))));refine pW rfl (mW rfl (yP T rfl (yO T rfl (yV (by exact cN rfl rfl b3 rfl rfl rfl) ?_))));refine pW rfl (mW rfl (yP T rfl (yO T rfl (yV (eV rfl rfl) (yM ?_)))));refine bL rfl rfl ?_ ?_<;>(intro hb;rw [hb];(try simp only [nm] at hb);try (exfalso;omega));(all_goals (refine yP T rfl (yO T rfl (yV (cT rfl rfl) (gT (pW rfl (pW rfl (aV ?_)))))))))|refine nZ ?_));all_goals first | (exfalso;omega) | exact dZ (.inl rfl) rfl (by first | rfl | (rw [decide_eq_true h5];rfl))
          · rw [decide_eq_false (fun h => h.2.2.2.elim h4 h5)]
            (repeat' (first|refine wS ?_|refine wR ?_|(refine rg 0 (cY (fG rfl rfl) rfl (aV ?_)))|(refine rg 1 (jH T rfl (vV (by exact cN rfl rfl b1 rfl rfl rfl) ?_));refine mW rfl (yP T rfl (yO T rfl (yN rfl (yV (gN rfl rfl (by omega) (by omega)) (yV (by exact cN rfl rfl b2 rfl rfl rfl) ?_)))));refine pW rfl (mW rfl (yP T rfl (yO T rfl (yV (by exact cN rfl rfl b3 rfl rfl rfl) ?_))));refine pW rfl (mW rfl (yP T rfl (yO T rfl (yV (eV rfl rfl) (yM ?_)))));refine bL rfl rfl ?_ ?_<;>(intro hb;rw [hb];(try simp only [nm] at hb);try (exfalso;omega));(all_goals (refine yP T rfl (yO T rfl (yV (cT rfl rfl) (gT (pW rfl (pW rfl (aV ?_)))))))))|refine nZ ?_));all_goals first | (exfalso;omega) | exact dZ (.inl rfl) rfl (by first | rfl | (rw [decide_eq_false h5];rfl))
      · rw [decide_eq_false h3] at b3;rw [decide_eq_false (fun h => h3 h.2.2.1)]
        (repeat' (first|refine wS ?_|refine wR ?_|(refine rg 0 (cY (fG rfl rfl) rfl (aV ?_)))|(refine rg 1 (jH T rfl (vV (by exact cN rfl rfl b1 rfl rfl rfl) ?_));refine mW rfl (yP T rfl (yO T rfl (yN rfl (yV (gN rfl rfl (by omega) (by omega)) (yV (by exact cN rfl rfl b2 rfl rfl rfl) ?_)))));refine pW rfl (mW rfl (yP T rfl (yO T rfl (yV (by exact cN rfl rfl b3 rfl rfl rfl) ?_))));refine pW rfl (mV ?_);(iterate 4 refine gF ?_);(iterate 3 refine gU ?_);refine gF (pW rfl (aV ?_)))|refine nZ ?_));all_goals first | (exfalso;omega) | exact rQ
    · rw [decide_eq_false h2] at b2;rw [decide_eq_false (fun h => h2 h.2.1)]
      (repeat' (first|refine wS ?_|refine wR ?_|(refine rg 0 (cY (fG rfl rfl) rfl (aV ?_)))|(refine rg 1 (jH T rfl (vV (by exact cN rfl rfl b1 rfl rfl rfl) ?_));refine mW rfl (yP T rfl (yO T rfl (yN rfl (yV (gN rfl rfl (by omega) (by omega)) (yV (by exact cN rfl rfl b2 rfl rfl rfl) ?_)))));refine pW rfl (mV ?_);(iterate 3 refine gF ?_);refine pW rfl (mV ?_);(iterate 4 refine gF ?_);(iterate 3 refine gU ?_);refine gF (pW rfl (aV ?_)))|refine nZ ?_));all_goals first | (exfalso;omega) | exact rQ
  · rw [decide_eq_false h1] at b1;rw [decide_eq_false (fun h => h1 h.1)]
    (repeat' (first|refine wS ?_|refine wR ?_|(refine rg 0 (cY (fG rfl rfl) rfl (aV ?_)))|(refine rg 1 (jH T rfl (vV (by exact cN rfl rfl b1 rfl rfl rfl) ?_));refine mV ?_;(iterate 5 refine gF ?_);refine pW rfl (mV ?_);(iterate 3 refine gF ?_);refine pW rfl (mV ?_);(iterate 4 refine gF ?_);(iterate 3 refine gU ?_);refine gF (pW rfl (aV ?_)))|refine nZ ?_));all_goals first | (exfalso;omega) | exact rQ
theorem OM (l : List Bo) (hl : l.length ≤ 1000000) (h : ∀ b,b ∈ l → 0 ≤ b.2.1 ∧ b.2.1 ≤ 20000) : bN Tryz.prog 95 [.rowE (eR l) 3] [] (.i (qH l)) [] := by
  have hll := gX l;refine dC T Tryz.func95 rfl rfl rfl rfl ?_
  (repeat' (first|refine wS ?_|refine wB ?_|(refine rg 0 (aV ?_))|(refine rg 1 (aV ?_))|(refine rg 2 (mW rfl (qW T rfl (mV ?_))))|refine nZ ?_));refine eX (X := {k : Nat // k ≤ l.length}) (fun k => [(3,.i (qH (l.take k.1))),(6,.rowE (eR l) 3),(7,.i (eR l).length),(8,.i k.1)]) (fun _ => []) (fun k => l.length - k.1) ⟨0,bM _⟩ ⟨[],rfl,by (repeat (first | exact trivial | refine ⟨rfl,?_⟩)),trivial,bB,nP _⟩ ?_
  rintro ⟨k,hk⟩;dsimp only;by_cases hlt : k < l.length
  · have hg := V8 hlt;have hu := DA hlt;have h1 := JJ (l := l.take k) fun b hb => h b (gD hb);have h2 := h _ (aI hlt);have hgd : l.getD k (0,0,0) = l[k] := by rw [aD,aB hlt];rfl
    rw [hgd] at hg;rw [bU] at h1;generalize l[k] = b at *;obtain ⟨b1,b2,b3⟩ := b;dsimp only at *;generalize qH (l.take k) = u at *
    (repeat' (first|refine wS ?_|refine wB ?_|refine wK ?_|(refine wC rfl ?_ ?_<;>(intro hb;(try simp only [nm] at hb);try (exfalso;omega)))|(refine rg 3 (vV (bA rfl rfl) ?_))|(refine rg 4 (vV (ix T rfl (by omega) (lB _) hg) (lW T rfl (cY (cS T rfl) rfl (bE T rfl rfl rfl rfl rfl rfl (by decide) rfl ?_)))))|(refine rg 5 (mW rfl (jH T rfl (vV (dS rfl rfl (by omega) (by omega)) (aV ?_)))))|(refine rg 6 (vV (dS rfl rfl (by omega) (by omega)) (mV ?_)))|refine nZ ?_));all_goals first | (exfalso;omega) | exact ⟨⟨k + 1,hlt⟩,by dsimp only;omega,[],rfl,by dsimp only;rw [hu];(repeat (first | exact trivial | refine ⟨rfl,?_⟩)),trivial,bB,nP _⟩
  · obtain rfl : k = l.length := by omega
    rw [dY]
    (repeat' (first|refine wS ?_|refine wR ?_|refine wE ?_|(refine wC rfl ?_ ?_<;>(intro hb;(try simp only [nm] at hb);try (exfalso;omega)))|(refine rg 3 (vV (bA rfl rfl) ?_))|(refine rg 7 (mW rfl (aV ?_)))|refine nZ ?_));all_goals first | (exfalso;omega) | exact rQ
theorem RG : Tryz.prog.underlying 158 = some (.map 9 4) := by kernel_rfl
theorem QZ : oK Tryz.prog 9 (MapKept.IsKey .string) := oK.plain (by kernel_rfl)
theorem YA : ∀ w,(zeroValue 4).run Tryz.prog w = .ok (.bool false) w := Y9 (by kernel_rfl)
theorem T3 (l : List Kd) (h : NW l) : bN Tryz.prog 93 [.rowE (xJ l) 2] [] (.b true) [] := by
  have hll := zI l;have hle := h.le;refine dC T Tryz.func93 rfl rfl rfl rfl ?_
  (repeat' (first|refine wS ?_|refine wB ?_|(refine rg 0 (aV ?_))|(refine rg 1 (cY (by exact Q5) rfl ?_);refine aV ?_)|(refine rg 2 (mW rfl (qW T rfl (mV ?_))))|refine nZ ?_));refine eX (X := {k : Nat // k ≤ l.length}) (fun k => [(0,.rowE (xJ l) 2),(3,.mp 0),(7,.rowE (xJ l) 2),(8,.i (xJ l).length),(9,.i k.1)]) (fun k => [.mapO (UU (l.take k.1)) (VR (l.take k.1))]) (fun k => l.length - k.1) ⟨0,bM _⟩ ⟨[0],rfl,by (repeat (first | exact trivial | refine ⟨rfl,?_⟩)),⟨.inr rfl,trivial⟩,by decide,nP _⟩ ?_
  rintro ⟨k,hk⟩;dsimp only;by_cases hlt : k < l.length
  · have hg := LP hlt;have hn := TB (h.new hlt);obtain ⟨o1,o2⟩ := h.ok _ (aI hlt);have e1 : UU (l.take (k + 1)) = UU (l.take k) ++ [kS l[k].1] := by rw [UU,aY hlt,cO];rfl
    have e2 : VR (l.take (k + 1)) = VR (l.take k) ++ [.b true] := by rw [VR,aY hlt,cO];rfl
    have hgo := LN (l.take k);generalize l[k] = x at *;obtain ⟨knm,wt⟩ := x;dsimp only at *;have b1 := I3 knm.length 1 20;have b2 := I3 wt 1 10000;rw [decide_eq_true ⟨by omega,by omega⟩] at b1
    rw [decide_eq_true o2] at b2
    (repeat' (first|refine wS ?_|refine wB ?_|refine wK ?_|(refine wC rfl ?_ ?_<;>(intro hb;(try simp only [nm] at hb);try (exfalso;omega)))|(refine rg 3 (vV (bA rfl rfl) ?_))|(refine rg 4 (vV (ix T rfl (by omega) (LO _) hg) (lW T rfl (cY (cS T rfl) rfl (bE T rfl rfl rfl rfl rfl rfl (by decide) rfl ?_)))))|refine nZ ?_));all_goals try (exfalso;omega)
    refine gP 5 (cs := [.s knm,.i wt]) rfl rfl rfl ?_
    (repeat' (first|refine wK ?_|refine wU ?_|(refine rg 5 (jH T rfl (vV (nB jK rfl) (vV (by exact cN rfl rfl b1 rfl rfl rfl) ?_)));refine vV (eI rfl) (mW rfl (yP T rfl (yO T rfl (yV (by exact cN rfl rfl b2 rfl rfl rfl) ?_))));refine yV (eI rfl) (pW rfl (mW rfl (yN rfl (yP T rfl (yO T rfl (yV (by exact B2 (zA := .b false) RG QZ YA WX rfl rfl (RH _) rfl hgo (EC _) hn) ?_))))));refine pV ?_)|(refine rg 7 (mW rfl (jH T rfl (L6 RG QZ rfl rfl (RH _) rfl rfl hgo (EC _) hn ?_))))|(refine rg 8 (vV (dS rfl rfl (by omega) (by omega)) (mV ?_)))|refine nZ ?_));all_goals try (exfalso;omega)
    all_goals exact ⟨⟨k + 1,hlt⟩,by dsimp only;omega,[0],rfl,by (repeat (first | exact trivial | refine ⟨rfl,?_⟩)),⟨.inr (kR rfl e1.symm e2.symm (PT _)),trivial⟩,by decide,nP _⟩
  · obtain rfl : k = l.length := by omega
    (repeat' (first|refine wS ?_|refine wR ?_|refine wE ?_|(refine wC rfl ?_ ?_<;>(intro hb;(try simp only [nm] at hb);try (exfalso;omega)))|(refine rg 3 (vV (bA rfl rfl) ?_))|(refine rg 9 (mW rfl (qW T rfl (vV (iR rfl rfl) (aV ?_)))))|refine nZ ?_));all_goals first | (exfalso;omega) | exact dZ (.inl rfl) rfl (by first | rfl | (rw [decide_eq_true (by omega)];rfl))
theorem S8 (ks : List Kd) (ls : List Lo) (bs : List Bo) (hk : NW ks) (hl : ls.length ≤ 1000000) (hbs : bs.length ≤ 1000000) : bN Tryz.prog 43 [.rowE (xJ ks) 2,.rowE (jF ls) 3,.rowE (eR bs) 3] [] (.b (T4 ks.length ls bs)) [] := by
  have hkl := zI ks;have hll := oU ls;have hbl := gX bs;have hk5 := hk.le;have hrk := T3 ks hk;unfold T4;refine dC T Tryz.func43 rfl rfl rfl rfl ?_;by_cases hA : ls.length ≤ 2000 ∧ bs.length ≤ 3000
  case neg =>
    rw [decide_eq_false hA,iI]
    (repeat' (first|refine wS ?_|refine wR ?_|refine wT ?_|(refine rg 0 (aV ?_))|(refine rg 1 (mW rfl (qW T rfl (vV (gJ rfl rfl) (mV ?_))));refine bL rfl rfl ?_ ?_<;>(intro hb;rw [hb];(try simp only [nm] at hb);try (exfalso;omega));(all_goals first|(refine gT (mW rfl (gT (qW T rfl (gT (vV (gJ rfl rfl) ?_))))))|(iterate 3 refine gF ?_));(all_goals (refine pW rfl (mV ?_)));(all_goals first|(refine gK ?_)|(refine bL rfl rfl ?_ ?_<;>(intro hb;rw [hb];(try simp only [nm] at hb);try (exfalso;omega))));(all_goals ((iterate 3 refine gF ?_);refine pV ?_)))|(refine rg 2 (aV ?_))|refine nZ ?_));all_goals first | (exfalso;omega) | exact rQ
  rw [decide_eq_true hA,jM]
  (repeat' (first|refine wS ?_|refine wB ?_|refine wK ?_|refine wU ?_|(refine rg 0 (aV ?_))|(refine rg 1 (mW rfl (qW T rfl (vV (gJ rfl rfl) (mV ?_))));refine bL rfl rfl ?_ ?_<;>(intro hb;rw [hb];(try simp only [nm] at hb);try (exfalso;omega));(all_goals (refine yN rfl (gT (qW T rfl (yV (gJ rfl rfl) (pW rfl (mV ?_)))));refine bL rfl rfl ?_ ?_<;>(intro hb;rw [hb];(try simp only [nm] at hb);try (exfalso;omega))));(all_goals (refine yN rfl (yV (kC (hrk)) (yV (eI rfl) (pV ?_))))))|(refine rg 3 (mW rfl (qW T rfl (mV ?_))))|refine nZ ?_));all_goals try (exfalso;omega)
  refine eX (X := {k : Nat // k ≤ ls.length ∧ ∀ x,x ∈ ls.take k → KT x ks.length = true}) (fun k => [(0,.rowE (xJ ks) 2),(1,.rowE (jF ls) 3),(2,.rowE (eR bs) 3),(24,.rowE (jF ls) 3),(25,.i (jF ls).length),(26,.i k.1)]) (fun _ => []) (fun k => ls.length - k.1) ⟨0,bM _,fun x hx => by simp at hx⟩ ⟨[],rfl,by (repeat (first | exact trivial | refine ⟨rfl,?_⟩)),trivial,bB,nP _⟩ ?_
  rintro ⟨k,hk1,hk2⟩;dsimp only;by_cases hlt : k < ls.length
  · have hg : (jF ls)[(k : Int).toNat]? = some [AV.i ls[k].1,AV.i ls[k].2.1,AV.b ls[k].2.2] := by simp [hlt]
    have hnx := J0 (p := (KT · ks.length)) hlt hk2;have hno := W6 (p := (KT · ks.length)) (aI hlt)
    try dsimp only at hnx hno
    generalize ls[k] = x at *;obtain ⟨x1,x2,x3⟩ := x;dsimp only at *;have b1 := I3 x1 0 ((ks.length : Int) - 1);have b2 := I3 x2 0 20000;rw [← hkl] at b1;by_cases h1 : 0 ≤ x1 ∧ x1 ≤ ((xJ ks).length : Int) - 1
    · rw [decide_eq_true h1] at b1;rw [hkl] at h1;by_cases h2 : 0 ≤ x2 ∧ x2 ≤ 20000
      · rw [decide_eq_true h2] at b2;have hny := hnx (decide_eq_true ⟨h1,h2⟩)
        (repeat' (first|refine wS ?_|refine wB ?_|refine wK ?_|(refine wC rfl ?_ ?_<;>(intro hb;(try simp only [nm] at hb);try (exfalso;omega)))|(refine rg 4 (vV (bA rfl rfl) ?_))|(refine rg 5 (vV (ix T rfl (by omega) (tT _) hg) (lW T rfl (cY (cS T rfl) rfl (bE T rfl rfl rfl rfl rfl rfl (by decide) rfl ?_)))))|refine nZ ?_));all_goals try (exfalso;omega)
        refine gP 8 (cs := [.i x1,.i x2,.b x3]) rfl rfl rfl ?_
        (repeat' (first|refine wK ?_|refine wU ?_|(refine rg 6 (jH T rfl (mW rfl (qW T rfl (vV (gN rfl rfl (by omega) (by omega)) (vV (by exact cN rfl rfl b1 rfl rfl rfl) ?_)))));refine vV (eI rfl) (mW rfl (yP T rfl (yO T rfl (yV (by exact cN rfl rfl b2 rfl rfl rfl) ?_))));refine yV (eI rfl) (pV ?_))|(refine rg 8 (vV (dS rfl rfl (by omega) (by omega)) (mV ?_)))|refine nZ ?_));all_goals first | (exfalso;omega) | exact ⟨⟨k + 1,hlt,hny⟩,by dsimp only;omega,[],rfl,by (repeat (first | exact trivial | refine ⟨rfl,?_⟩)),trivial,bB,nP _⟩
      · rw [decide_eq_false h2] at b2;rw [hno (decide_eq_false (fun h => h2 h.2)),iI]
        (repeat' (first|refine wS ?_|refine wB ?_|refine wK ?_|(refine wC rfl ?_ ?_<;>(intro hb;(try simp only [nm] at hb);try (exfalso;omega)))|(refine rg 4 (vV (bA rfl rfl) ?_))|(refine rg 5 (vV (ix T rfl (by omega) (tT _) hg) (lW T rfl (cY (cS T rfl) rfl (bE T rfl rfl rfl rfl rfl rfl (by decide) rfl ?_)))))|refine nZ ?_));all_goals try (exfalso;omega)
        refine gP 8 (cs := [.i x1,.i x2,.b x3]) rfl rfl rfl ?_
        (repeat' (first|refine wS ?_|refine wR ?_|refine wT ?_|(refine rg 6 (jH T rfl (mW rfl (qW T rfl (vV (gN rfl rfl (by omega) (by omega)) (vV (by exact cN rfl rfl b1 rfl rfl rfl) ?_)))));refine vV (eI rfl) (mW rfl (yP T rfl (yO T rfl (yV (by exact cN rfl rfl b2 rfl rfl rfl) ?_))));refine yV (eI rfl) (pV ?_))|(refine rg 7 (aV ?_))|refine nZ ?_));all_goals first | (exfalso;omega) | exact rQ
    · rw [decide_eq_false h1] at b1;rw [hkl] at h1;rw [hno (decide_eq_false (fun h => h1 h.1)),iI]
      (repeat' (first|refine wS ?_|refine wB ?_|refine wK ?_|(refine wC rfl ?_ ?_<;>(intro hb;(try simp only [nm] at hb);try (exfalso;omega)))|(refine rg 4 (vV (bA rfl rfl) ?_))|(refine rg 5 (vV (ix T rfl (by omega) (tT _) hg) (lW T rfl (cY (cS T rfl) rfl (bE T rfl rfl rfl rfl rfl rfl (by decide) rfl ?_)))))|refine nZ ?_));all_goals try (exfalso;omega)
      refine gP 8 (cs := [.i x1,.i x2,.b x3]) rfl rfl rfl ?_
      (repeat' (first|refine wS ?_|refine wR ?_|refine wT ?_|(refine rg 6 (jH T rfl (mW rfl (qW T rfl (vV (gN rfl rfl (by omega) (by omega)) (vV (by exact cN rfl rfl b1 rfl rfl rfl) ?_)))));refine vV (eI rfl) (mV ?_);(iterate 4 refine gF ?_);refine pV ?_)|(refine rg 7 (aV ?_))|refine nZ ?_));all_goals first | (exfalso;omega) | exact rQ
  · obtain rfl : k = ls.length := by omega
    rw [dY] at hk2;rw [show ls.all (KT · ks.length) = true from aT.2 hk2,jM]
    (repeat' (first|refine wS ?_|refine wB ?_|refine wE ?_|(refine wC rfl ?_ ?_<;>(intro hb;(try simp only [nm] at hb);try (exfalso;omega)))|(refine rg 4 (vV (bA rfl rfl) ?_))|(refine rg 9 (mW rfl (qW T rfl (mV ?_))))|refine nZ ?_));all_goals try (exfalso;omega)
    refine eX (X := {k : Nat // k ≤ bs.length ∧ ∀ x,x ∈ bs.take k → K7 x ls.length = true}) (fun k => [(0,.rowE (xJ ks) 2),(1,.rowE (jF ls) 3),(2,.rowE (eR bs) 3),(44,.rowE (eR bs) 3),(45,.i (eR bs).length),(46,.i k.1)]) (fun _ => []) (fun k => bs.length - k.1) ⟨0,bM _,fun x hx => by simp at hx⟩ ⟨[],rfl,by (repeat (first | exact trivial | refine ⟨rfl,?_⟩)),trivial,bB,nP _⟩ ?_
    rintro ⟨k,hk1,hk3⟩;dsimp only;by_cases hlt2 : k < bs.length
    · have hg : (eR bs)[(k : Int).toNat]? = some [AV.i bs[k].1,AV.i bs[k].2.1,AV.i bs[k].2.2] := by simp [hlt2]
      have hnx := J0 (p := (K7 · ls.length)) hlt2 hk3;have hno := W6 (p := (K7 · ls.length)) (aI hlt2);have b1 := DM bs[k] ls.length (by omega)
      generalize bs[k] = x at *;obtain ⟨x1,x2,x3⟩ := x;rw [← hll] at b1;cases ho : K7 (x1,x2,x3) ls.length with
      | true =>
        rw [hll,ho] at b1;rw [← hll] at b1;have hny := hnx ho
        (repeat' (first|refine wS ?_|refine wB ?_|refine wK ?_|(refine wC rfl ?_ ?_<;>(intro hb;(try simp only [nm] at hb);try (exfalso;omega)))|(refine rg 10 (vV (bA rfl rfl) ?_))|(refine rg 11 (vV (ix T rfl (by omega) (lB _) hg) (lW T rfl (cY (cS T rfl) rfl (bE T rfl rfl rfl rfl rfl rfl (by decide) rfl ?_)))))|refine nZ ?_));all_goals try (exfalso;omega)
        refine gP 10 (cs := [.i x1,.i x2,.i x3]) rfl rfl rfl ?_
        (repeat' (first|refine wK ?_|refine wU ?_|(refine rg 12 (lW T rfl (mW rfl (qW T rfl (vV (by exact cN rfl rfl b1 rfl rfl rfl) ?_))));refine vV (eI rfl) ?_)|(refine rg 14 (vV (dS rfl rfl (by omega) (by omega)) (mV ?_)))|refine nZ ?_));all_goals first | (exfalso;omega) | exact ⟨⟨k + 1,hlt2,hny⟩,by dsimp only;omega,[],rfl,by (repeat (first | exact trivial | refine ⟨rfl,?_⟩)),trivial,bB,nP _⟩
      | false =>
        rw [hll,ho] at b1;rw [← hll] at b1;rw [hno ho,iI]
        (repeat' (first|refine wS ?_|refine wB ?_|refine wK ?_|(refine wC rfl ?_ ?_<;>(intro hb;(try simp only [nm] at hb);try (exfalso;omega)))|(refine rg 10 (vV (bA rfl rfl) ?_))|(refine rg 11 (vV (ix T rfl (by omega) (lB _) hg) (lW T rfl (cY (cS T rfl) rfl (bE T rfl rfl rfl rfl rfl rfl (by decide) rfl ?_)))))|refine nZ ?_));all_goals try (exfalso;omega)
        refine gP 10 (cs := [.i x1,.i x2,.i x3]) rfl rfl rfl ?_
        (repeat' (first|refine wS ?_|refine wR ?_|refine wT ?_|(refine rg 12 (lW T rfl (mW rfl (qW T rfl (vV (by exact cN rfl rfl b1 rfl rfl rfl) ?_))));refine vV (eI rfl) ?_)|(refine rg 13 (aV ?_))|refine nZ ?_));all_goals first | (exfalso;omega) | exact rQ
    · obtain rfl : k = bs.length := by omega
      rw [dY] at hk3;rw [show bs.all (K7 · ls.length) = true from aT.2 hk3,jM]
      have hu := OM bs hbs fun b hb => by
        have := hk3 b hb;unfold K7 at this;rw [decide_eq_true_eq] at this;exact this.2.2.1
      (repeat' (first|refine wS ?_|refine wR ?_|refine wE ?_|(refine wC rfl ?_ ?_<;>(intro hb;(try simp only [nm] at hb);try (exfalso;omega)))|(refine rg 10 (vV (bA rfl rfl) ?_))|(refine rg 15 (mW rfl (vV (by exact cN rfl rfl hu rfl rfl rfl) ?_));refine vV (iR rfl rfl) (aV ?_))|refine nZ ?_));all_goals first | (exfalso;omega) | exact rQ
end Go.Proofs.YtdiogjgohbbllaaGreatDoor
namespace Go.Or
open Go Go.Ab Go.Wr Go.Proofs.YtdiogjgohbbllaaGreatDoor
abbrev K6 (l : List Or.Op) : List (List AV) := l.map WO
theorem qK (l : List Or.Op) : ∀ e,e ∈ K6 l → e.length = 6 := by intro e he;obtain ⟨n,_,rfl⟩ := aJ.1 he;rfl
theorem O7 (l : List Or.Op) : (K6 l).length = l.length := bI _
theorem KS {l : List Or.Op} {k : Nat} (h : k < l.length) : (K6 l)[(k : Int).toNat]? = some (WO l[k]) := by simp [h]
def FZ (l : List Or.Op) (n : Nat) : Bool := l.all (fun o => decide (o.ws.length ≤ 6)) && decide (l.length ≤ n)
end Go.Or
namespace Go.Proofs.YtdiogjgohbbllaaGreatDoor
open Go Go.Ab Go.Or Go.Wr
attribute [local irreducible] VC AW bR bN eS lE
set_option maxHeartbeats 4000000
theorem QE (ks : List Kd) (ls : List Lo) (bs : List Bo) (n : Nat) (hk : ∀ k,k ∈ ks → k.1.length ≤ 30) (hkn : ks.length ≤ n) (hn : n ≤ 1000000) (hl : ls.length ≤ 9223372036854775807) (hbs : bs.length ≤ 9223372036854775807) :
    bN Tryz.prog 42 [.rowE (xJ ks) 2,.rowE (jF ls) 3,.rowE (eR bs) 3,.i n] [] (.b (decide (ls.length ≤ n ∧ bs.length ≤ n))) [] := by
  have hkl := zI ks;have hll := oU ls;have hbl := gX bs;refine dC T Tryz.func42 rfl rfl rfl rfl ?_
  (repeat' (first|refine wS ?_|refine wB ?_|(refine rg 0 (aV ?_))|(refine rg 1 (aV ?_))|refine nZ ?_));refine eX (X := {k : Nat // k ≤ ks.length}) (fun k => [(0,.rowE (xJ ks) 2),(1,.rowE (jF ls) 3),(2,.rowE (eR bs) 3),(3,.i n),(9,.i k.1)]) (fun _ => []) (fun k => ks.length - k.1) ⟨0,bM _⟩ ⟨[],rfl,by (repeat (first | exact trivial | refine ⟨rfl,?_⟩)),trivial,bB,nP _⟩ ?_
  rintro ⟨k,hk1⟩;dsimp only;by_cases hlt : k < ks.length
  · have hg := LP hlt;have hx := hk _ (aI hlt);generalize ks[k] = x at *;obtain ⟨knm,wt⟩ := x;dsimp only at *
    (repeat' (first|refine wS ?_|refine wB ?_|refine wK ?_|(refine wC rfl ?_ ?_<;>(intro hb;(try simp only [nm] at hb);try (exfalso;omega)))|(refine rg 2 (fF rfl (vV (Q6 T rfl rfl) (vV (bA rfl rfl) (mV ?_))));refine bL rfl rfl ?_ ?_<;>(intro hb;rw [hb];(try simp only [nm] at hb);try (exfalso;omega));(all_goals (refine yN rfl (yN rfl (yV (iR rfl rfl) (pV ?_))))))|(refine rg 4 (fF rfl (vV (ix T rfl (by omega) (LO _) hg) (jH T rfl (vV (nB jK rfl) (vV (gJ rfl rfl) ?_))))))|(refine iA 3 rfl rfl rfl (by omega) (by omega) ?_)|refine nZ ?_));all_goals first | (exfalso;omega) | exact ⟨⟨k + 1,hlt⟩,by dsimp only;omega,[],rfl,by (repeat (first | exact trivial | refine ⟨rfl,?_⟩)),trivial,bB,nP _⟩
  · obtain rfl : k = ks.length := by omega
    by_cases h1 : ls.length ≤ n
    · by_cases h2 : bs.length ≤ n
      · rw [decide_eq_true ⟨h1,h2⟩]
        (repeat' (first|refine wS ?_|refine wR ?_|refine wE ?_|refine wU ?_|(refine rg 2 (fF rfl (qW T rfl (vV (bA rfl rfl) (mV ?_))));refine bL rfl rfl ?_ ?_<;>(intro hb;rw [hb];(try simp only [nm] at hb);try (exfalso;omega));(all_goals ((iterate 3 refine gF ?_);refine pV ?_)))|(refine rg 6 (mW rfl (qW T rfl (mW rfl (vV (iR rfl rfl) (mV ?_)))));refine bL rfl rfl ?_ ?_<;>(intro hb;rw [hb];(try simp only [nm] at hb);try (exfalso;omega));(all_goals (refine yN rfl (gT (qW T rfl (yN rfl (yV (iR rfl rfl) (pW rfl (mV ?_))))));refine bL rfl rfl ?_ ?_<;>(intro hb;rw [hb];(try simp only [nm] at hb);try (exfalso;omega))));(all_goals (refine yN rfl (gT (qW T rfl (yN rfl (yV (iR rfl rfl) (pW rfl (aV ?_)))))))))|refine nZ ?_));all_goals first | (exfalso;omega) | exact dZ (.inl rfl) rfl (by first | rfl | (rw [decide_eq_true (by omega)];rfl))
      · rw [decide_eq_false (fun h => h2 h.2)]
        (repeat' (first|refine wS ?_|refine wR ?_|refine wE ?_|refine wU ?_|(refine rg 2 (fF rfl (qW T rfl (vV (bA rfl rfl) (mV ?_))));refine bL rfl rfl ?_ ?_<;>(intro hb;rw [hb];(try simp only [nm] at hb);try (exfalso;omega));(all_goals ((iterate 3 refine gF ?_);refine pV ?_)))|(refine rg 6 (mW rfl (qW T rfl (mW rfl (vV (iR rfl rfl) (mV ?_)))));refine bL rfl rfl ?_ ?_<;>(intro hb;rw [hb];(try simp only [nm] at hb);try (exfalso;omega));(all_goals (refine yN rfl (gT (qW T rfl (yN rfl (yV (iR rfl rfl) (pW rfl (mV ?_))))));refine bL rfl rfl ?_ ?_<;>(intro hb;rw [hb];(try simp only [nm] at hb);try (exfalso;omega))));(all_goals (refine yN rfl (gT (qW T rfl (yN rfl (yV (iR rfl rfl) (pW rfl (aV ?_)))))))))|refine nZ ?_));all_goals first | (exfalso;omega) | exact dZ (.inl rfl) rfl (by first | rfl | (rw [decide_eq_false (by omega)];rfl))
    · rw [decide_eq_false (fun h => h1 h.1)]
      (repeat' (first|refine wS ?_|refine wR ?_|refine wE ?_|refine wU ?_|(refine rg 2 (fF rfl (qW T rfl (vV (bA rfl rfl) (mV ?_))));refine bL rfl rfl ?_ ?_<;>(intro hb;rw [hb];(try simp only [nm] at hb);try (exfalso;omega));(all_goals ((iterate 3 refine gF ?_);refine pV ?_)))|(refine rg 6 (mW rfl (qW T rfl (mW rfl (vV (iR rfl rfl) (mV ?_)))));refine bL rfl rfl ?_ ?_<;>(intro hb;rw [hb];(try simp only [nm] at hb);try (exfalso;omega));(all_goals (refine yN rfl (gT (qW T rfl (yN rfl (yV (iR rfl rfl) (pW rfl (mV ?_))))));refine bL rfl rfl ?_ ?_<;>(intro hb;rw [hb];(try simp only [nm] at hb);try (exfalso;omega))));(all_goals ((iterate 4 refine gF ?_);refine pW rfl (aV ?_))))|refine nZ ?_));all_goals first | (exfalso;omega) | exact dZ (.inl rfl) rfl (by first | rfl | (rw [decide_eq_false (by omega)];rfl))
theorem QD (l : List Or.Op) (n : Nat) (hl : l.length ≤ 9223372036854775807) : bN Tryz.prog 8 [.rowE (K6 l) 6,.i n] [] (.b (FZ l n)) [] := by
  have hll := O7 l;unfold FZ;refine dC T Tryz.func8 rfl rfl rfl rfl ?_
  (repeat' (first|refine wS ?_|refine wB ?_|(refine rg 0 (aV ?_))|(refine rg 1 (aV ?_))|refine nZ ?_));refine eX (X := {k : Nat // k ≤ l.length ∧ ∀ o,o ∈ l.take k → decide (o.ws.length ≤ 6) = true}) (fun k => [(0,.rowE (K6 l) 6),(1,.i n),(5,.i k.1)]) (fun _ => []) (fun k => l.length - k.1) ⟨0,bM _,fun x hx => by simp at hx⟩ ⟨[],rfl,by (repeat (first | exact trivial | refine ⟨rfl,?_⟩)),trivial,bB,nP _⟩ ?_
  rintro ⟨k,hk1,hk2⟩;dsimp only;by_cases hlt : k < l.length
  · have hg := KS hlt;have hnx := J0 (p := fun o : Or.Op => decide (o.ws.length ≤ 6)) hlt hk2;have hno := W6 (p := fun o : Or.Op => decide (o.ws.length ≤ 6)) (aI hlt);generalize l[k] = o at *;have hwl := gV o.ws;by_cases h6 : o.ws.length ≤ 6
    · have hny := hnx (decide_eq_true h6)
      (repeat' (first|refine wS ?_|refine wB ?_|refine wK ?_|(refine wC rfl ?_ ?_<;>(intro hb;(try simp only [nm] at hb);try (exfalso;omega)))|(refine rg 2 (fF rfl (qW T rfl (vV (bA rfl rfl) ?_))))|(refine rg 4 (fF rfl (vV (ix T rfl (by omega) (qK _) hg) (jH T rfl (qW T rfl (vV (gJ rfl rfl) ?_))))))|(refine iA 3 rfl rfl rfl (by omega) (by omega) ?_)|refine nZ ?_));all_goals first | (exfalso;omega) | exact ⟨⟨k + 1,hlt,hny⟩,by dsimp only;omega,[],rfl,by (repeat (first | exact trivial | refine ⟨rfl,?_⟩)),trivial,bB,nP _⟩
    · rw [hno (decide_eq_false h6),iI]
      (repeat' (first|refine wS ?_|refine wB ?_|refine wK ?_|refine wR ?_|(refine wC rfl ?_ ?_<;>(intro hb;(try simp only [nm] at hb);try (exfalso;omega)))|(refine rg 2 (fF rfl (qW T rfl (vV (bA rfl rfl) ?_))))|(refine rg 4 (fF rfl (vV (ix T rfl (by omega) (qK _) hg) (jH T rfl (qW T rfl (vV (gJ rfl rfl) ?_))))))|(refine rg 5 (aV ?_))|refine nZ ?_));all_goals first | (exfalso;omega) | exact rQ
  · obtain rfl : k = l.length := by omega
    rw [dY] at hk2;rw [show l.all (fun o => decide (o.ws.length ≤ 6)) = true from aT.2 hk2,jM]
    by_cases h2 : l.length ≤ n
    · rw [decide_eq_true h2]
      (repeat' (first|refine wS ?_|refine wR ?_|refine wE ?_|(refine wC rfl ?_ ?_<;>(intro hb;(try simp only [nm] at hb);try (exfalso;omega)))|(refine rg 2 (fF rfl (qW T rfl (vV (bA rfl rfl) ?_))))|(refine rg 6 (mW rfl (qW T rfl (mW rfl (vV (iR rfl rfl) (aV ?_))))))|refine nZ ?_));all_goals first | (exfalso;omega) | exact dZ (.inl rfl) rfl (by first | rfl | (rw [decide_eq_true (by omega)];rfl))
    · rw [decide_eq_false h2]
      (repeat' (first|refine wS ?_|refine wR ?_|refine wE ?_|(refine wC rfl ?_ ?_<;>(intro hb;(try simp only [nm] at hb);try (exfalso;omega)))|(refine rg 2 (fF rfl (qW T rfl (vV (bA rfl rfl) ?_))))|(refine rg 6 (mW rfl (qW T rfl (mW rfl (vV (iR rfl rfl) (aV ?_))))))|refine nZ ?_));all_goals first | (exfalso;omega) | exact dZ (.inl rfl) rfl (by first | rfl | (rw [decide_eq_false (by omega)];rfl))
theorem PY (ls : List Lo) (bs : List Bo) (hl : ls.length ≤ 9223372036854775807) (hbs : bs.length ≤ 9223372036854775807) : bN Tryz.prog 9 [.rowE (jF ls) 3,.rowE (eR bs) 3] [] (.b (zM ls bs)) [] := by
  have c1 := QE k3 ls bs 20 (by decide) (by decide) (by decide) (by omega) (by omega)
  have c2 := fun (h : ls.length ≤ 20 ∧ bs.length ≤ 20) => S8 k3 ls bs VS (by omega) (by omega)
  rw [show k3.length = 3 from rfl] at c2
  unfold zM;refine dC T Tryz.func9 rfl rfl rfl rfl ?_
  (repeat' (first|refine wS ?_|(refine rg 0 (aV ?_))|(refine rg 1 (vV (by exact iG T rfl rfl rfl rfl) ?_);refine vV (by exact iG T rfl rfl rfl rfl) ?_;refine vV (by exact iG T rfl rfl rfl rfl) ?_;refine cY (by exact cF T rfl rfl (by decide) (by decide) rfl rfl rfl) rfl ?_;refine aV ?_)|refine nZ ?_));refine EU 5 (es := xJ k3) rfl rfl rfl rfl ?_
  by_cases h : ls.length ≤ 20 ∧ bs.length ≤ 20
  · have c2 := c2 h;rw [decide_eq_true h] at c1 ⊢;rw [jM]
    (repeat' (first|refine wR ?_|(refine rg 2 (fF rfl (mW rfl (vV (by exact cN rfl rfl c1 rfl rfl rfl) ?_)));refine mW rfl (yN rfl (yN rfl (yN rfl (yV (by exact cN rfl rfl c2 rfl rfl rfl) ?_))));refine pW rfl (aV ?_))|refine nZ ?_));all_goals first | (exfalso;omega) | exact rQ
  · rw [decide_eq_false h] at c1 ⊢;rw [iI]
    (repeat' (first|refine wR ?_|(refine rg 2 (fF rfl (mW rfl (vV (by exact cN rfl rfl c1 rfl rfl rfl) ?_)));refine mV ?_;(iterate 4 refine gF ?_);refine pW rfl (aV ?_))|refine nZ ?_));all_goals first | (exfalso;omega) | exact rQ
end Go.Proofs.YtdiogjgohbbllaaGreatDoor
namespace Go.Or
open Go Go.Ab Go.Wr Go.Proofs.YtdiogjgohbbllaaGreatDoor
theorem mS {X : Hp} {a b : AB} : (X ++ [a]).set X.length b = X ++ [b] := by simp
end Go.Or
namespace Go.Proofs.YtdiogjgohbbllaaGreatDoor
open Go Go.Ab Go.Or Go.Wr
attribute [local irreducible] VC AW bR bN eS lE
set_option maxHeartbeats 4000000
def EE (bk : Bk) (no : Int) : AV := if no < 0 ∨ (bk.length : Int) ≤ no then .tup [.agg [.nils,.i 0,.i 0],.b false] else .tup [XF (bk.getD no.toNat fY),.b true]
theorem TF {H : Hp} {pb : Nat} {bk : Bk} {A : List Nat} (hB : uL H pb bk A) (no : Int) (hl : bk.length ≤ 1000000) (hw : ∀ o,o ∈ bk → o.ws.length ≤ 1000000) :
    eS Tryz.prog 14 [.ptr pb 0,.i no] H (fun r o => r = EE bk no ∧ ∃ Z,o = H ++ Z) := by
  obtain ⟨po,L,h,rfl,rfl⟩ := hB;rw [bI] at hl;have hbk := h.b;have ho := h.o;unfold EE;refine jO T Tryz.func14 rfl rfl rfl rfl ?_;by_cases hr : no < 0 ∨ (L.length : Int) ≤ no
  · rw [if_pos (by simpa using hr)]
    (repeat' (first|refine wS ?_|refine wR ?_|refine wT ?_|(refine wC rfl ?_ ?_<;>(intro hb;(try simp only [nm] at hb);try (exfalso;omega)))|(refine rg 0 (cY (cS T rfl) rfl (aV ?_)))|(refine rg 1 (mW rfl (vV (bA rfl rfl) (mV ?_)));refine bL rfl rfl ?_ ?_<;>(intro hb;rw [hb];(try simp only [nm] at hb);try (exfalso;omega));(all_goals first|(refine gT (mW rfl (gT (mW rfl (gT (nV ?_)))));refine gT (fW T rfl (gT (vV (by exact bC T rfl rfl (dU (bS hbk)) rfl) ?_)));refine gT (qW T rfl (gT (vV (eV rfl rfl) ?_))))|(iterate 7 refine gF ?_));(all_goals (refine pV ?_)))|(refine rg 2 (vV (by exact iG T rfl rfl rfl rfl) ?_);refine bE T rfl rfl rfl rfl rfl rfl (by decide) (nH cP rfl rfl) (aV ?_))|refine nZ ?_));all_goals first | (exfalso;omega) | exact ⟨.inl rfl,_,nM T rfl rfl rfl (dU (gA (by simp))) rfl,rfl,_,mS⟩
  · obtain ⟨e,he,hge⟩ := G1 (L := L) (i := no.toNat) (by omega)
    rw [if_neg (by simpa using hr),hge]
    have hg := xD he;have hcl := uU e.1.ws (hw _ (aJ.2 ⟨e,aH he,rfl⟩))
    (repeat' (first|refine wS ?_|refine wK ?_|(refine wC rfl ?_ ?_<;>(intro hb;(try simp only [nm] at hb);try (exfalso;omega)))|(refine rg 0 (cY (cS T rfl) rfl (aV ?_)))|(refine rg 1 (mW rfl (vV (bA rfl rfl) (mV ?_)));refine bL rfl rfl ?_ ?_<;>(intro hb;rw [hb];(try simp only [nm] at hb);try (exfalso;omega));(all_goals (refine yN rfl (yN rfl (gT (nV ?_)));refine yP T rfl (yV (by exact bC T rfl rfl (dU (bS hbk)) rfl) ?_);refine gT (qW T rfl (yV (eV rfl rfl) (pV ?_))))))|(refine rg 3 (mW rfl (nV ?_));refine fW T rfl (vV (by exact bC T rfl rfl (dU (bS hbk)) rfl) ?_);refine mW rfl (vV (by exact cI T rfl rfl rfl rfl rfl (by omega) (by omega)) ?_);refine fW T rfl (vV (by exact bC T rfl rfl (eF (bS ho) hg) rfl) ?_);refine cY (cS T rfl) rfl (bE T rfl rfl rfl rfl rfl rfl (by decide) (nH cP rfl rfl) ?_))|refine nZ ?_));all_goals try (exfalso;omega)
    rw [mS];generalize hX : H ++ [AB.cells (List.map AV.v [Value.slice none 0 0,Value.int IntKind.i64 0,Value.int IntKind.i64 0])] = X1;have hX1 : X1[H.length]? = some (.cells [.nils,.i 0,.i 0]) := by rw [← hX];exact cP
    have hlen : H.length ≠ X1.length := by rw [← hX];simp
    have hpre : ∀ c d,∃ Z,(X1 ++ [AB.cells c]).set H.length (.cells d) = H ++ Z := fun c d => ⟨[.cells d,.cells c],by rw [← hX,bF,sQ _ _ (aQ _)];simp⟩
    (repeat' (first|refine wS ?_|(refine rg 4 (fW T rfl (vV (by exact bC T rfl rfl (dU cP) rfl) ?_));refine vV (by exact nW rfl rfl hcl (.cons (.row _ _ _) .nil) (gV _).symm (AH _) (R0 _)) ?_;refine fW T rfl (bE T rfl rfl rfl rfl rfl rfl (by decide) (nH cP rfl rfl) ?_))|refine nZ ?_));rw [mS]
    refine jJ [(4,.ptr H.length 0),(6,.ptr X1.length 0)] (X1 ++ [.cells [.rowE (bZ e.1.ws) 3,.i e.1.due,.i e.1.st]]) (mC.of rfl ⟨rfl,rfl,trivial⟩) ?_
    (repeat' (first|refine wR ?_|(refine rg 5 (vV (by exact bC T rfl rfl (dU cP) rfl) ?_);refine bE T rfl rfl rfl rfl rfl rfl (by decide) (nH (bS hX1) rfl rfl) (aV ?_))|refine nZ ?_));all_goals exact ⟨.inl rfl,_,nM T rfl rfl rfl (dU (gA (by rw [aC,← hX];simp;omega))) rfl,rfl,hpre _ _⟩
end Go.Proofs.YtdiogjgohbbllaaGreatDoor
namespace Go.Ab
open Go
theorem uD {P : Program} {f : FuncId} {args : List AV} {res : AV} (hi : res.idf = true) (h : eS P f args [] (fun r _ => r = res)) : bN P f args [] res [] := by
  refine ⟨h.1,fun ρ S w vs hs ha => (h.2 ρ S w vs hs ha).mono ?_⟩;rintro e w' ⟨r,hout,rfl,y,ρ',S',rfl,h2,h3⟩;have h4 := h2.sub (L := []) (h' := []) rfl trivial bB (WQ);exact ⟨y,_,S',rfl,h4,B5 _ _ _ _ hi h3⟩
end Go.Ab
namespace Go.Or
open Go Go.Ab Go.Wr Go.Proofs.YtdiogjgohbbllaaGreatDoor
abbrev PR : List Lo := [(0,9,false)]
abbrev wP : List Bo := [(0,3,0)]
abbrev FC : List Wt := [(0,2,5)]
abbrev GC : Bk := [⟨FC,7,0,[]⟩]
abbrev OD : Bk := [⟨FC,7,1,[[(0,2)]]⟩]
abbrev UB : Bk := [⟨FC,7,1,[[(0,2)]]⟩,⟨FC,9,0,[]⟩]
abbrev WR : Bk := [⟨FC,7,2,[]⟩,⟨FC,9,0,[]⟩]
theorem e1 : wF [] FC 7 = ((0,0),GC) := by decide
theorem e2 : pY PR wP GC 0 = (0,OD) := by decide
theorem e3 : lU OD 0 = 2 := by decide
theorem e4 : wF OD FC 9 = ((1,0),UB) := by decide
theorem e5 : pY PR wP UB 1 = (22,UB) := by decide
theorem e6 : kB UB 0 0 2 7 = (0,WR) := by decide
theorem Z4 : pM PR wP := H5 (by decide : zM PR wP = true)
theorem WP : nF GC := by have := W3 (ws := FC) (due := 7) nF.nil;rw [e1] at this;exact this
theorem VI : nF OD := by have := AK (ls := PR) (sure := wP) (no := 0) WP (by decide);rw [e2] at this;exact this
theorem XS : nF UB := by have := W3 (ws := FC) (due := 9) VI;rw [e4] at this;exact this
end Go.Or
namespace Go.Proofs.YtdiogjgohbbllaaGreatDoor
open Go Go.Ab Go.Or Go.Wr
attribute [local irreducible] VC AW bR bN eS lE
set_option maxHeartbeats 4000000
def IR (P : Program) (t e : TypeId) : Prop := P.underlying t = some (.pointer e)
theorem SJ : IR Tryz.prog 28 93 := by unfold IR;kernel_rfl
section
variable {P : Program} {env : cJ} {h : Hp} {d : Option Nat} {ty : TypeId} {pos : String} {af : Array Edge} {g : Option (Nat × Bool)} {t t2 te : TypeId} {x y : Operand} {u z : AV}
theorem EG (ht : IR P t te) (hx : evu env x = some u) (hz : u.plus 0 = some z) (hy : evu env y = some (.v (.pointer none))) : bR P ⟨d,.binOp .eql t x y t2,ty,pos,af,g⟩ env h 0 (fun _ => .b false) (fun _ => []) := H6 ht hx hz hy
end
attribute [local irreducible] IR
theorem RE : bN Tryz.prog 41 [] [] (.rowE (bZ FC) 3) [] := by
  refine IQ (len := 1) rfl rfl ?_;refine dC T Tryz.func41 rfl rfl rfl rfl ?_
  (repeat' (first|refine wS ?_|refine wR ?_|(refine rg 0 (aV ?_))|(refine rg 1 (vV (by exact iG T rfl rfl rfl rfl) ?_);refine cY (by exact cF T rfl rfl (by decide) (by decide) rfl rfl rfl) rfl ?_;refine aV ?_)|refine nZ ?_));all_goals exact ⟨.inl rfl,[0],_,rfl,rfl,rfl,⟨.inr rfl,trivial⟩,by decide,nP _⟩
theorem OU : eS Tryz.prog 7 [] [] (fun r _ => r = .b true) := by
  refine jO T Tryz.func7 rfl rfl rfl rfl ?_
  (repeat' (first|refine wS ?_|(refine rg 0 (aV ?_))|(refine rg 1 (vV (by exact iG T rfl rfl rfl rfl) ?_);refine cY (by exact cF T rfl rfl (by decide) (by decide) rfl rfl rfl) rfl ?_;refine aV ?_)|refine nZ ?_));refine EU 1 (es := jF PR) rfl rfl rfl rfl ?_
  (repeat' (first|refine wS ?_|(refine rg 2 (vV (by exact iG T rfl rfl rfl rfl) ?_);refine cY (by exact cF T rfl rfl (by decide) (by decide) rfl rfl rfl) rfl ?_;refine aV ?_)|refine nZ ?_));refine EU 2 (es := eR wP) rfl rfl rfl rfl ?_
  (repeat' (first|refine wS ?_|refine wK ?_|refine wU ?_|(refine rg 3 (cQ [] rfl rfl LC rfl rfl (by decide) trivial (by simp) rfl ?_);refine aV ?_)|(refine rg 4 (mW rfl (vV (by exact EG SJ rfl rfl rfl) ?_)))|refine nZ ?_));all_goals try (exfalso;omega)
  refine xU 2 0 4 rfl rfl (by decide) ?_
  have hB0 : uL ([.gone,.gone,.cells [.sl 3 0 0 4],.arr [] 4] : Hp) 2 [] [2,3] := ⟨3,[],⟨rfl,rfl,fun e he => (nomatch he),by decide⟩,rfl,rfl⟩
  refine jJ [(1,.rowE (jF PR) 3),(2,.rowE (eR wP) 3),(3,.ptr 2 0)] [.gone,.gone,.cells [.sl 3 0 0 4],.arr [] 4] (mC.of rfl (by repeat first|exact trivial|refine ⟨rfl,?_⟩)) ?_
  generalize ([.gone,.gone,.cells [.sl 3 0 0 4],.arr [] 4] : Hp) = X0 at *;have c1 := ND hB0 FC 7 (by decide) (by decide)
  rw [e1] at c1
  (repeat' (first|refine wS ?_|(refine rg 6 (mW rfl (vV (kC (RE)) (eH rfl rfl c1 rfl ?_)));rintro _ X1 ⟨rfl,A1,hB1,_⟩;dsimp only [fC];refine mW rfl (xW rfl (xW rfl (oC ?_))))|refine nZ ?_));have c2 := yX hB1 WP.sz PR wP Z4 0 _ (.inl rfl)
  rw [e2] at c2
  (repeat' (first|refine wS ?_|(refine rg 7 (fF rfl (mW rfl (eH rfl rfl c2 rfl ?_)));rintro _ X2 ⟨rfl,A2,hB2,_⟩;dsimp only [fC];refine aV ?_)|refine nZ ?_));have c3 := F5 OD 0 (by decide) VI.sz.tk VI.sz.sum.bk
  rw [e3] at c3;have hv2 := hB2.view;have c4 := ND hB2 FC 9 (by decide) (by decide)
  rw [e4] at c4
  (repeat' (first|refine wS ?_|(refine rg 8 (mW rfl (vV (by exact iB rfl rfl c3 (.cons hv2 (.cons (.v _) .nil)) rfl rfl) ?_));refine aV ?_)|(refine rg 9 (mW rfl (vV (kC (RE)) (eH rfl rfl c4 rfl ?_)));rintro _ X3 ⟨rfl,A3,hB3,_⟩;dsimp only [fC];refine mW rfl (xW rfl (xW rfl (oC ?_))))|refine nZ ?_));have c5 := yX hB3 XS.sz PR wP Z4 1 _ (.inl rfl)
  rw [e5] at c5
  (repeat' (first|refine wS ?_|(refine rg 10 (fF rfl (mW rfl (eH rfl rfl c5 rfl ?_)));rintro _ X4 ⟨rfl,A4,hB4,_⟩;dsimp only [fC];refine aV ?_)|refine nZ ?_));have c6 := T1 hB4 XS.sz 0 0 2 7
  rw [e6] at c6
  (repeat' (first|refine wS ?_|(refine rg 11 (mW rfl (eH rfl rfl c6 rfl ?_));rintro _ X5 ⟨rfl,A5,hB5,_⟩;dsimp only [fC];refine aV ?_)|refine nZ ?_));have c7 := TF hB5 0 (by decide) (by decide)
  rw [show EE WR 0 = .tup [XF ⟨FC,7,2,[]⟩,.b true] from rfl] at c7
  (repeat' (first|refine wS ?_|refine wR ?_|(refine rg 12 (mW rfl (eH rfl rfl c7 rfl ?_));rintro _ X6 ⟨rfl,Z6,rfl⟩;dsimp only [fC];refine mW rfl (xW rfl (xW rfl (cY (cS T rfl) rfl (bE T rfl rfl rfl rfl rfl rfl (by decide) (nH cP rfl rfl) (aV ?_))))))|(refine rg 13 (mW rfl (vV (cT rfl rfl) (mW rfl (yN rfl (yV (cT rfl rfl) (pW rfl (mW rfl (yN rfl (yV (cT rfl rfl) ?_)))))))));refine pW rfl (mW rfl (yN rfl (yV (cT rfl rfl) (pW rfl (mW rfl (yN rfl (yV (cT rfl rfl) (pW rfl (mV ?_)))))))));refine yN rfl (yV (cT rfl rfl) (pW rfl (mW rfl (yN rfl (yV (cT rfl rfl) (pW rfl (mW rfl (yN rfl (yV (cT rfl rfl) ?_)))))))));refine pW rfl (mW rfl (yN rfl (pW rfl (mW rfl (yP T rfl (yV (by exact bC T rfl rfl (dU (gA (by simp))) rfl) ?_))))));refine yV (cT rfl rfl) (pW rfl (aV ?_)))|refine nZ ?_));all_goals first | (exfalso;omega) | exact ⟨.inl rfl,_,rfl,rfl⟩
theorem E5 : bN Tryz.prog 7 [] [] (.b true) [] := uD rfl OU
end Go.Proofs.YtdiogjgohbbllaaGreatDoor
namespace Go.Proofs.YtdiogjgohbbllaaGreatDoor
open Go Go.Ab Go.Or Go.Wr
def NY (P : Program) (t n : Nat) : Prop := HR P t n = true
section
variable {P : Program} {env : cJ} {h : Hp} {d : Option Nat} {ty : TypeId} {pos : String} {af : Array Edge} {g : Option (Nat × Bool)}
end
attribute [local irreducible] VC AW bR bN eS lE NY
set_option maxHeartbeats 4000000
def VJ (a b : Int) : Bool := decide ((a = 0 ∧ (b = 1 ∨ b = 4)) ∨ (a = 1 ∧ (b = 2 ∨ b = 3 ∨ b = 4)))
end Go.Proofs.YtdiogjgohbbllaaGreatDoor
namespace Go.Or
open Go Go.Ab Go.Wr Go.Proofs.YtdiogjgohbbllaaGreatDoor
structure X7 (bk : Bk) (o : Or.Op) (n e : Int) (bk' : Bk) : Prop where
  le : bk.length ≤ bk'.length ∧ bk'.length ≤ bk.length + 1
  ask : o.d = 0 → e = 0 → n = bk.length
  new : ∀ i : Nat,bk.length ≤ i → i < bk'.length → (bk'.getD i fY).st = 0 ∧ o.d = 0 ∧ e = 0 ∧ (bk'.getD i fY).due = o.t
  old : ∀ i : Nat,i < bk.length → ((bk'.getD i fY).ws = (bk.getD i fY).ws ∧ (bk'.getD i fY).due = (bk.getD i fY).due) ∧ ((bk'.getD i fY).st = (bk.getD i fY).st ∨ ((i : Int) = o.no ∧ e = 0 ∧ VJ (bk.getD i fY).st (bk'.getD i fY).st = true))
theorem X7.same (bk : Bk) (o : Or.Op) (n e : Int) (h : o.d = 0 → e ≠ 0) : X7 bk o n e bk :=
  ⟨⟨aQ _,CM _⟩,fun h0 h1 => absurd h1 (h h0),fun i h1 h2 => by omega,fun i _ => ⟨⟨rfl,rfl⟩,.inl rfl⟩⟩
theorem MA {bk : Bk} {k i : Nat} {o : Od} (hk : k < bk.length) : (bk.set k o).getD i fY = if i = k then o else bk.getD i fY := by
  rw [aD,bQ];by_cases h : k = i
  · subst h;rw [if_pos rfl,if_pos hk,if_pos rfl];rfl
  · rw [if_neg h,if_neg (Ne.symm h),← aD]
theorem X7.set {bk : Bk} {o : Or.Op} {n : Int} {o' : Od} (hd : o.d ≠ 0) (h0 : 0 ≤ o.no) (h1 : o.no < bk.length) (hw : o'.ws = (bk.getD o.no.toNat fY).ws) (hdu : o'.due = (bk.getD o.no.toNat fY).due) (hm : o'.st = (bk.getD o.no.toNat fY).st ∨ VJ (bk.getD o.no.toNat fY).st o'.st = true) : X7 bk o n 0 (bk.set o.no.toNat o') := by
  refine ⟨by rw [eB];omega,fun h => absurd h hd,fun i h1 h2 => by rw [eB] at h2;omega,fun i hi => ?_⟩
  rw [MA (by omega)]
  by_cases h : i = o.no.toNat
  · subst h;rw [if_pos rfl];exact ⟨⟨hw,hdu⟩,hm.imp id fun h => ⟨by omega,rfl,h⟩⟩
  · rw [if_neg h];exact ⟨⟨rfl,rfl⟩,.inl rfl⟩
mutual
theorem EV (f : Nat → Nat) : ∀ x : AV, x.rf = true → (x.map f).rf = true
  | .v _,_ => rfl
  | .any,_ => rfl
  | .row ..,h => h
  | .mrow ..,h => h
  | .mp _,_ => rfl
  | .pr ..,h => h
  | .ptr ..,_ => rfl
  | .sl ..,_ => rfl
  | .ep ..,_ => rfl
  | .agg cs,h => sD f cs h
  | .tup cs,h => sD f cs h
  | .clo _ cs ds,h => by
    simp only [AV.rf,aM] at h;simp only [AV.map,AV.rf,aM];exact ⟨sD f cs h.1,sD f ds h.2⟩
  | .cond _ x,h => EV f x h
  | .ifc _ x,h => EV f x h
theorem sD (f : Nat → Nat) : ∀ xs : List AV, AV.rfL xs = true → AV.rfL (AV.mapL f xs) = true
  | [],_ => rfl
  | x :: xs,h => by
    simp only [AV.rfL,aM] at h;simp only [AV.mapL,AV.rfL,aM];exact ⟨EV f x h.1,sD f xs h.2⟩
end
theorem SF {b : AB} (f : Nat → Nat) (h : b.rf = true) : (b.map f).rf = true := by
  cases b <;> first | rfl | exact h | exact sD f _ h | (
    simp only [AB.rf,aT] at h;simp only [AB.map,AB.rf,aT];intro x hx;obtain ⟨y,hy,rfl⟩ := aJ.1 hx
    exact sD f y (h y hy))
end Go.Or
namespace Go.Proofs.YtdiogjgohbbllaaGreatDoor
open Go Go.Ab Go.Or Go.Wr
attribute [local irreducible] VC AW bR bN eS lE
set_option maxHeartbeats 4000000
theorem Z1 {H : Hp} {k : Nat} {l : List Wt} (hk : H[k]? = some (.arr (bZ l) 3)) : View H (.sl k 0 l.length 3) (.rowE (bZ l) 3) := by
  have hv : View H (.sl k 0 l.length 3) (.row (bZ l).flatten l.length 3) := View.sl hk (by rw [gV];omega) (by rw [dI,aX (by rw [gV];omega)];exact zW H l)
  have e2 : l.length = (bZ l).length := (gV _).symm;rw [show AV.rowE (bZ l) 3 = .row (bZ l).flatten l.length 3 by rw [e2]]
  exact hv
theorem KA (o : Od) (f : Nat → Nat) : QS (.tup [XF o,.b true]) (.tup [.agg [.sl 2 0 o.ws.length 3,.i o.due,.i o.st],.b true]) [.cells [.sl 2 0 o.ws.length 3,.i o.due,.i o.st],.cells [.sl 2 0 o.ws.length 3,.i o.due,.i o.st],.arr ((bZ o.ws).map (AV.mapL f)) 3] := by
  rw [gW _ (vH _)];refine ⟨rfl,fun b hb => .inr ?_,.tup (.cons (.agg (.cons (Z1 rfl) (.cons (.v _) (.cons (.v _) .nil)))) (.cons (.v _) .nil))⟩;simp only [aR,cG,or_false] at hb;rcases hb with rfl | rfl | rfl
  · rfl
  · rfl
  · exact AH _
theorem LZ (bk : Bk) (no : Int) (hl : bk.length ≤ 1000000) (hw : ∀ o,o ∈ bk → o.ws.length ≤ 1000000) :
    eS Tryz.prog 14 [FI bk,.i no] [] (QS (EE bk no)) := by
  have hbl := mI bk;unfold EE;refine jO T Tryz.func14 rfl rfl rfl rfl ?_;by_cases hr : no < 0 ∨ (bk.length : Int) ≤ no
  · rw [if_pos hr]
    (repeat' (first|refine wS ?_|refine wR ?_|refine wT ?_|(refine wC rfl ?_ ?_<;>(intro hb;(try simp only [nm] at hb);try (exfalso;omega)))|(refine rg 0 (cY (cS T rfl) rfl (aV ?_)))|(refine rg 1 (mW rfl (vV (bA rfl rfl) (mV ?_)));refine bL rfl rfl ?_ ?_<;>(intro hb;rw [hb];(try simp only [nm] at hb);try (exfalso;omega));(all_goals first|(refine gT (mW rfl (gT (mW rfl (gT (nV ?_)))));refine gT (fW T rfl (gT (lW T rfl (gT (qW T rfl (gT (vV (eV rfl rfl) ?_))))))))|(iterate 7 refine gF ?_));(all_goals (refine pV ?_)))|(refine rg 2 (vV (by exact iG T rfl rfl rfl rfl) ?_);refine bE T rfl rfl rfl rfl rfl rfl (by decide) rfl (aV ?_))|refine nZ ?_));all_goals first | (exfalso;omega) | exact ⟨.inl rfl,_,rfl,rfl,fun b hb => .inr (by simp at hb;subst hb;rfl),.tup (.cons (.agg (.cons (.v _) (.cons (.v _) (.cons (.v _) .nil)))) (.cons (.v _) .nil))⟩
  · rw [if_neg hr];have hlt : no.toNat < bk.length := by omega
    have hg : (uB bk)[no.toNat]? = some (CU (bk.getD no.toNat fY)) := by
      rw [aD,aO,aB hlt];rfl
    have hcl := uU (bk.getD no.toNat fY).ws (by
      rw [aD,aB hlt];exact hw _ (aI hlt))
    generalize bk.getD no.toNat fY = o at *
    (repeat' (first|refine wS ?_|refine wK ?_|refine wR ?_|(refine wC rfl ?_ ?_<;>(intro hb;(try simp only [nm] at hb);try (exfalso;omega)))|(refine rg 0 (cY (cS T rfl) rfl (aV ?_)))|(refine rg 1 (mW rfl (vV (bA rfl rfl) (mV ?_)));refine bL rfl rfl ?_ ?_<;>(intro hb;rw [hb];(try simp only [nm] at hb);try (exfalso;omega));(all_goals (refine yN rfl (yN rfl (gT (nV ?_)));refine yP T rfl (yO T rfl (gT (qW T rfl (yV (eV rfl rfl) (pV ?_))))))))|(refine rg 3 (mW rfl (nV ?_));refine jH T rfl (mW rfl (vV (ix T rfl (by omega) (uV bk) hg) (jH T rfl (cY (cS T rfl) rfl (bE T rfl rfl rfl rfl rfl rfl (by decide) rfl ?_))))))|(refine rg 4 (jH T rfl (cY (by exact qC rfl rfl hcl (.inr ⟨rfl,rfl,by simp⟩)) rfl ?_));refine fW T rfl (bE T rfl rfl rfl rfl rfl rfl (by decide) rfl ?_))|(refine rg 5 (lW T rfl (bE T rfl rfl rfl rfl rfl rfl (by decide) rfl (aV ?_))))|refine nZ ?_));all_goals try (exfalso;omega)
    all_goals refine ⟨.inl rfl,_,rfl,?_⟩
    all_goals exact KA o _
theorem JN (bk : Bk) (no : Int) (hl : bk.length ≤ 1000000) (h1 : ∀ o,o ∈ bk → o.tk.length ≤ 1000000 ∧ ∀ l,l ∈ o.tk → l.length ≤ 1000000) :
    eS Tryz.prog 15 [FI bk,.i no] [] (QS (pS (if no < 0 ∨ (bk.length : Int) ≤ no then [] else (bk.getD no.toNat fY).tk))) := by
  have hbl := mI bk;refine jO T Tryz.func15 rfl rfl rfl rfl ?_;by_cases hr : no < 0 ∨ (bk.length : Int) ≤ no
  · rw [if_pos hr]
    (repeat' (first|refine wS ?_|refine wR ?_|refine wT ?_|(refine wC rfl ?_ ?_<;>(intro hb;(try simp only [nm] at hb);try (exfalso;omega)))|(refine rg 0 (aV ?_))|(refine rg 1 (mW rfl (vV (bA rfl rfl) (mV ?_)));refine bL rfl rfl ?_ ?_<;>(intro hb;rw [hb];(try simp only [nm] at hb);try (exfalso;omega));(all_goals first|(refine gT (mW rfl (gT (mW rfl (gT (nV ?_)))));refine gT (fW T rfl (gT (lW T rfl (gT (qW T rfl (gT (vV (eV rfl rfl) ?_))))))))|(iterate 7 refine gF ?_));(all_goals (refine pV ?_)))|(refine rg 2 (aV ?_))|refine nZ ?_));all_goals first | (exfalso;omega) | exact ⟨.inl rfl,_,rfl,rfl,fun b hb => (nomatch hb),View.nils 1⟩
  · rw [if_neg hr];have hlt : no.toNat < bk.length := by omega
    have hg : (uB bk)[no.toNat]? = some (CU (bk.getD no.toNat fY)) := by
      rw [aD,aO,aB hlt];rfl
    have hm : bk.getD no.toNat fY ∈ bk := by
      rw [aD,aB hlt];exact aI hlt
    have hct := BY (bk.getD no.toNat fY).tk (h1 _ hm).1 (h1 _ hm).2;generalize bk.getD no.toNat fY = o at *
    (repeat' (first|refine wS ?_|refine wK ?_|refine wR ?_|(refine wC rfl ?_ ?_<;>(intro hb;(try simp only [nm] at hb);try (exfalso;omega)))|(refine rg 0 (aV ?_))|(refine rg 1 (mW rfl (vV (bA rfl rfl) (mV ?_)));refine bL rfl rfl ?_ ?_<;>(intro hb;rw [hb];(try simp only [nm] at hb);try (exfalso;omega));(all_goals (refine yN rfl (yN rfl (gT (nV ?_)));refine yP T rfl (yO T rfl (gT (qW T rfl (yV (eV rfl rfl) (pV ?_))))))))|(refine rg 3 (mW rfl (nV ?_));refine jH T rfl (mW rfl (vV (ix T rfl (by omega) (uV bk) hg) (MH T ?_)));refine L5 rfl rfl hct (.cons (.row _ _ _) .nil) (fun _ _ hΦ=>hΦ.rf) rfl ?_;rintro res hout hΦ;have hΨ := hΦ.nest [];have hrf := hΦ.rf;obtain ⟨_,rfl,_⟩ := hΦ;dsimp only [fC];refine aV ?_)|refine nZ ?_));all_goals first | (exfalso;omega) | (obtain ⟨B,hn,hB⟩ := hΨ;exact ⟨.inl rfl,_,rfl,rfl,fun b hb => by
      obtain ⟨c,hc,rfl⟩ := aJ.1 (by simpa using hb)
      exact .inr (SF _ (hrf.2 c hc)),hn.view⟩)
end Go.Proofs.YtdiogjgohbbllaaGreatDoor
namespace Go.Proofs.YtdiogjgohbbllaaGreatDoor
open Go Go.Ab Go.Or Go.Wr
attribute [local irreducible] VC AW bR bN eS lE IR NY RW
set_option maxHeartbeats 4000000
end Go.Proofs.YtdiogjgohbbllaaGreatDoor
namespace Go.Or
theorem E8 (b : Int) : ∀ {l : List Tk}, (∀ t, t ∈ l → 1 ≤ t.2) → iK b 0 l = (0, l)
  | [],_ => rfl
  | t :: l,h => by
    have h1 := h t aN;have ih := E8 b (l := l) fun u hu => h u (aE _ hu);have hm : min 0 t.2 = 0 := by omega
    unfold iK;rw [hm,YQ,YQ,ih];by_cases hb : t.1 = b
    · rw [if_pos hb,if_neg (by omega)]
    · rw [if_neg hb,if_neg (by omega)]
theorem AD (b : Int) : ∀ {tk : List (List Tk)}, (∀ t, t ∈ tk.flatten → 1 ≤ t.2) → iJ b 0 tk = tk
  | [],_ => rfl
  | l :: r,h => by
    have h1 := E8 b (l := l) fun t ht => h t (by rw [bJ];exact iW _ ht)
    have ih := AD b (tk := r) fun t ht => h t (by rw [bJ];exact nG _ ht)
    unfold iJ;rw [h1,ih]
theorem wX (t : Tk) : ∀ {tk : List (List Tk)} {rest : List Tk}, (∀ t, t ∈ tk.flatten → 1 ≤ t.2) → tk.flatten = t :: rest → (iJ t.1 t.2 tk).flatten = rest
  | [],_,_,e => by simp at e
  | [] :: r,rest,h,e => by
    rw [bJ,List.nil_append] at e h;have ih := wX t h e;unfold iJ iK;rw [bJ,List.nil_append];exact ih
  | (u :: l) :: r,rest,h,e => by
    rw [bJ,List.cons_append] at e h;injection e with e1 e2;subst e1;have h1 := E8 u.1 (l := l) fun t ht => h t (aE _ (iW _ ht));have h2 := AD u.1 (tk := r) fun t ht => h t (aE _ (nG _ ht));unfold iJ iK;rw [if_pos rfl,Int.min_self,Int.sub_self,if_pos rfl,h1];dsimp only;rw [h2,bJ,e2]
theorem DE {t : Tk} {l : List Tk} (h : ∀ u,u ∈ t :: l → 1 ≤ u.2) : t.2 ≤ eD (t :: l) t.1 := by
  have := pT (l := l) (b := t.1) fun u hu => h u (aE _ hu);simp only [eD,if_true];omega
structure wI (o0 : Od) (m : Nat) (o : Od) : Prop where
  due : o.due = o0.due
  some : m < o0.tk.flatten.length → o.st = 1 ∧ o.tk.flatten = o0.tk.flatten.drop m
  none : o0.tk.flatten.length ≤ m → o.st = 2
theorem wI.start {o : Od} (h : nN o) (h1 : o.st = 1) : wI o 0 o :=
  ⟨rfl,fun _ => ⟨h1,rfl⟩,fun h2 => absurd (bV (by omega)) (h.ne h1)⟩
theorem DG {bk : Bk} (hk : nF bk) {o0 : Od} {no m : Nat} (hno : no < bk.length) (h : wI o0 m (bk.getD no fY)) (hm : m < o0.tk.flatten.length) :
    ∃ bk',kB bk no o0.tk.flatten[m].1 o0.tk.flatten[m].2 o0.due = (0,bk') ∧ bk'.length = bk.length ∧ wI o0 (m + 1) (bk'.getD no fY) := by
  obtain ⟨h1,h2⟩ := h.some hm;have hmem : bk.getD no fY ∈ bk := by rw [aD,aB hno];exact aI hno
  have ho := hk.od _ hmem;have hpos := ho.posF;have hdrop := aS hm;generalize hot : o0.tk.flatten[m] = t at *;rw [hdrop] at h2;have hsum := DE (t := t) (l := o0.tk.flatten.drop (m + 1)) (by rw [← h2];exact hpos)
  have hf := wX t hpos h2;have ht1 : 1 ≤ t.2 := hpos t (by rw [h2];exact aN)
  have hnn : (no : Int).toNat = no := bK no;have hfi : kO bk (no : Int) [1] = 0 := by
    unfold kO;rw [if_neg (by omega),hnn,if_pos (by rw [h1];simp)]
  refine ⟨bk.set no (lO (bk.getD no fY) t.1 t.2 o0.due),?_,eB,?_⟩
  · unfold kB;rw [if_neg (by rw [hfi];simp),if_neg (by omega),hnn,h2,if_neg (by omega)]
  · have hg : (bk.set no (lO (bk.getD no fY) t.1 t.2 o0.due)).getD no fY = lO (bk.getD no fY) t.1 t.2 o0.due := by
      rw [aD,eP hno];rfl
    rw [hg];generalize bk.getD no fY = o at *;have hd := h.due;have hfl : ((iJ t.1 t.2 o.tk).all (·.isEmpty) = true) ↔ o0.tk.flatten.drop (m + 1) = [] := by rw [H8,hf]
    unfold lO;by_cases he : o0.tk.flatten.drop (m + 1) = []
    · rw [if_pos (hfl.2 he),if_pos (by omega)]
      have hl : o0.tk.flatten.length ≤ m + 1 := uJ.1 he;exact ⟨hd,fun h3 => by omega,fun _ => rfl⟩
    · rw [if_neg (fun h3 => he (hfl.1 h3))];have hl : ¬ o0.tk.flatten.length ≤ m + 1 := fun h3 => he (uJ.2 h3);exact ⟨hd,fun _ => ⟨h1,hf⟩,fun h3 => absurd h3 hl⟩
end Go.Or
