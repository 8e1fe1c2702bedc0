/-
  Texts of the logic and of the layer,in one module (part 7).
-/
import Derived.Test.YtdfmhddmddgniaaGreatDoorM6
set_option linter.unusedVariables false
set_option linter.unusedSimpArgs false
set_option linter.unnecessarySimpa false
namespace Go.Or
open Go Go.Ab Go.Wr Go.Proofs.YtdfmhddmddgniaaGreatDoor
abbrev A8 (l : List Or.Op) : List (List AV) := l.map zJ0
theorem lN (l : List Or.Op) : ∀ e,e ∈ A8 l → e.length = 6 := by intro e he;obtain ⟨n,_,rfl⟩ := aK.1 he;rfl
theorem BS (l : List Or.Op) : (A8 l).length = l.length := bF _
theorem SI {l : List Or.Op} {k : Nat} (h : k < l.length) : (A8 l)[(k : Int).toNat]? = some (zJ0 l[k]) := by simp [h]
def NE (l : List Or.Op) (n : Nat) : Bool := l.all (fun o => decide (o.ws.length ≤ 6)) && decide (l.length ≤ n)
end Go.Or
namespace Go.Proofs.YtdfmhddmddgniaaGreatDoor
open Go Go.Ab Go.Or Go.Wr
attribute [local irreducible] VC AW bJ bI eO jT
set_option maxHeartbeats 4000000
theorem YK (ks : List Kd) (ls : List Lo) (bs : List Bo) (n : Nat) (hk : ∀ k,k ∈ ks → k.1.length ≤ 30) (hkn : ks.length ≤ n) (hn : n ≤ 1000000) (hl : ls.length ≤ 9223372036854775807) (hbs : bs.length ≤ 9223372036854775807) :
    bI Tryz.prog 40 [.rowE (F0 ks) 2,.rowE (iX ls) 3,.rowE (eY bs) 3,.i n] [] (.b (decide (ls.length ≤ n ∧ bs.length ≤ n))) [] := by
  have hkl := K1 ks;have hll := pJ ls;have hbl := fM bs;refine dA T Tryz.func40 rfl rfl rfl rfl ?_
  (repeat' (first|refine wS ?_|refine wB ?_|(refine rg 0 (aV ?_))|(refine rg 1 (aV ?_))|refine nZ ?_));refine dR (X := {k : Nat // k ≤ ks.length}) (fun k => [(0,.rowE (F0 ks) 2),(1,.rowE (iX ls) 3),(2,.rowE (eY bs) 3),(3,.i n),(9,.i k.1)]) (fun _ => []) (fun k => ks.length - k.1) ⟨0,bG _⟩ ⟨[],rfl,by (repeat (first | exact trivial | refine ⟨rfl,?_⟩)),trivial,aI,iK _⟩ ?_
  rintro ⟨k,hk1⟩;dsimp only;by_cases hlt : k < ks.length
  · have hg := TE hlt;have hx := hk _ (aH hlt);generalize ks[k] = x at *;obtain ⟨knm,wt⟩ := x;dsimp only at *
    (repeat' (first|refine wS ?_|refine wB ?_|refine wK ?_|(refine wC rfl ?_ ?_<;>(intro hb;(try simp only [nm] at hb);try (exfalso;omega)))|(refine rg 2 (dS rfl (vV (CJ T rfl rfl) (vV (bE rfl rfl) (mV ?_))));refine bP rfl rfl ?_ ?_<;>(intro hb;rw [hb];(try simp only [nm] at hb);try (exfalso;omega));(all_goals (refine yN rfl (yN rfl (yV (kQ rfl rfl) (pV ?_))))))|(refine rg 4 (dS rfl (vV (ix T rfl (by omega) (TD _) hg) (eT T rfl (vV (fF eK rfl) (vV (gH rfl rfl) ?_))))))|(refine iA 3 rfl rfl rfl (by omega) (by omega) ?_)|refine nZ ?_));all_goals first | (exfalso;omega) | exact ⟨⟨k + 1,hlt⟩,by dsimp only;omega,[],rfl,by (repeat (first | exact trivial | refine ⟨rfl,?_⟩)),trivial,aI,iK _⟩
  · obtain rfl : k = ks.length := by omega
    by_cases h1 : ls.length ≤ n
    · by_cases h2 : bs.length ≤ n
      · rw [decide_eq_true ⟨h1,h2⟩]
        (repeat' (first|refine wS ?_|refine wR ?_|refine wE ?_|refine wU ?_|(refine rg 2 (dS rfl (qW T rfl (vV (bE rfl rfl) (mV ?_))));refine bP rfl rfl ?_ ?_<;>(intro hb;rw [hb];(try simp only [nm] at hb);try (exfalso;omega));(all_goals ((iterate 3 refine gF ?_);refine pV ?_)))|(refine rg 6 (mW rfl (qW T rfl (mW rfl (vV (kQ rfl rfl) (mV ?_)))));refine bP rfl rfl ?_ ?_<;>(intro hb;rw [hb];(try simp only [nm] at hb);try (exfalso;omega));(all_goals (refine yN rfl (gT (qW T rfl (yN rfl (yV (kQ rfl rfl) (pW rfl (mV ?_))))));refine bP rfl rfl ?_ ?_<;>(intro hb;rw [hb];(try simp only [nm] at hb);try (exfalso;omega))));(all_goals (refine yN rfl (gT (qW T rfl (yN rfl (yV (kQ rfl rfl) (pW rfl (aV ?_)))))))))|refine nZ ?_));all_goals first | (exfalso;omega) | exact eP (.inl rfl) rfl (by first | rfl | (rw [decide_eq_true (by omega)];rfl))
      · rw [decide_eq_false (fun h => h2 h.2)]
        (repeat' (first|refine wS ?_|refine wR ?_|refine wE ?_|refine wU ?_|(refine rg 2 (dS rfl (qW T rfl (vV (bE rfl rfl) (mV ?_))));refine bP rfl rfl ?_ ?_<;>(intro hb;rw [hb];(try simp only [nm] at hb);try (exfalso;omega));(all_goals ((iterate 3 refine gF ?_);refine pV ?_)))|(refine rg 6 (mW rfl (qW T rfl (mW rfl (vV (kQ rfl rfl) (mV ?_)))));refine bP rfl rfl ?_ ?_<;>(intro hb;rw [hb];(try simp only [nm] at hb);try (exfalso;omega));(all_goals (refine yN rfl (gT (qW T rfl (yN rfl (yV (kQ rfl rfl) (pW rfl (mV ?_))))));refine bP rfl rfl ?_ ?_<;>(intro hb;rw [hb];(try simp only [nm] at hb);try (exfalso;omega))));(all_goals (refine yN rfl (gT (qW T rfl (yN rfl (yV (kQ rfl rfl) (pW rfl (aV ?_)))))))))|refine nZ ?_));all_goals first | (exfalso;omega) | exact eP (.inl rfl) rfl (by first | rfl | (rw [decide_eq_false (by omega)];rfl))
    · rw [decide_eq_false (fun h => h1 h.1)]
      (repeat' (first|refine wS ?_|refine wR ?_|refine wE ?_|refine wU ?_|(refine rg 2 (dS rfl (qW T rfl (vV (bE rfl rfl) (mV ?_))));refine bP rfl rfl ?_ ?_<;>(intro hb;rw [hb];(try simp only [nm] at hb);try (exfalso;omega));(all_goals ((iterate 3 refine gF ?_);refine pV ?_)))|(refine rg 6 (mW rfl (qW T rfl (mW rfl (vV (kQ rfl rfl) (mV ?_)))));refine bP rfl rfl ?_ ?_<;>(intro hb;rw [hb];(try simp only [nm] at hb);try (exfalso;omega));(all_goals (refine yN rfl (gT (qW T rfl (yN rfl (yV (kQ rfl rfl) (pW rfl (mV ?_))))));refine bP rfl rfl ?_ ?_<;>(intro hb;rw [hb];(try simp only [nm] at hb);try (exfalso;omega))));(all_goals ((iterate 4 refine gF ?_);refine pW rfl (aV ?_))))|refine nZ ?_));all_goals first | (exfalso;omega) | exact eP (.inl rfl) rfl (by first | rfl | (rw [decide_eq_false (by omega)];rfl))
theorem YJ (l : List Or.Op) (n : Nat) (hl : l.length ≤ 9223372036854775807) : bI Tryz.prog 6 [.rowE (A8 l) 6,.i n] [] (.b (NE l n)) [] := by
  have hll := BS l;unfold NE;refine dA T Tryz.func6 rfl rfl rfl rfl ?_
  (repeat' (first|refine wS ?_|refine wB ?_|(refine rg 0 (aV ?_))|(refine rg 1 (aV ?_))|refine nZ ?_));refine dR (X := {k : Nat // k ≤ l.length ∧ ∀ o,o ∈ l.take k → decide (o.ws.length ≤ 6) = true}) (fun k => [(0,.rowE (A8 l) 6),(1,.i n),(5,.i k.1)]) (fun _ => []) (fun k => l.length - k.1) ⟨0,bG _,fun x hx => by simp at hx⟩ ⟨[],rfl,by (repeat (first | exact trivial | refine ⟨rfl,?_⟩)),trivial,aI,iK _⟩ ?_
  rintro ⟨k,hk1,hk2⟩;dsimp only;by_cases hlt : k < l.length
  · have hg := SI hlt;have hnx := X8 (p := fun o : Or.Op => decide (o.ws.length ≤ 6)) hlt hk2;have hno := EN (p := fun o : Or.Op => decide (o.ws.length ≤ 6)) (aH hlt);generalize l[k] = o at *;have hwl := gD o.ws;by_cases h6 : o.ws.length ≤ 6
    · have hny := hnx (decide_eq_true h6)
      (repeat' (first|refine wS ?_|refine wB ?_|refine wK ?_|(refine wC rfl ?_ ?_<;>(intro hb;(try simp only [nm] at hb);try (exfalso;omega)))|(refine rg 2 (dS rfl (qW T rfl (vV (bE rfl rfl) ?_))))|(refine rg 4 (dS rfl (vV (ix T rfl (by omega) (lN _) hg) (eT T rfl (qW T rfl (vV (gH rfl rfl) ?_))))))|(refine iA 3 rfl rfl rfl (by omega) (by omega) ?_)|refine nZ ?_));all_goals first | (exfalso;omega) | exact ⟨⟨k + 1,hlt,hny⟩,by dsimp only;omega,[],rfl,by (repeat (first | exact trivial | refine ⟨rfl,?_⟩)),trivial,aI,iK _⟩
    · rw [hno (decide_eq_false h6),jQ]
      (repeat' (first|refine wS ?_|refine wB ?_|refine wK ?_|refine wR ?_|(refine wC rfl ?_ ?_<;>(intro hb;(try simp only [nm] at hb);try (exfalso;omega)))|(refine rg 2 (dS rfl (qW T rfl (vV (bE rfl rfl) ?_))))|(refine rg 4 (dS rfl (vV (ix T rfl (by omega) (lN _) hg) (eT T rfl (qW T rfl (vV (gH rfl rfl) ?_))))))|(refine rg 5 (aV ?_))|refine nZ ?_));all_goals first | (exfalso;omega) | exact rQ
  · obtain rfl : k = l.length := by omega
    rw [dJ] at hk2;rw [show l.all (fun o => decide (o.ws.length ≤ 6)) = true from bD.2 hk2,kK]
    by_cases h2 : l.length ≤ n
    · rw [decide_eq_true h2]
      (repeat' (first|refine wS ?_|refine wR ?_|refine wE ?_|(refine wC rfl ?_ ?_<;>(intro hb;(try simp only [nm] at hb);try (exfalso;omega)))|(refine rg 2 (dS rfl (qW T rfl (vV (bE rfl rfl) ?_))))|(refine rg 6 (mW rfl (qW T rfl (mW rfl (vV (kQ rfl rfl) (aV ?_))))))|refine nZ ?_));all_goals first | (exfalso;omega) | exact eP (.inl rfl) rfl (by first | rfl | (rw [decide_eq_true (by omega)];rfl))
    · rw [decide_eq_false h2]
      (repeat' (first|refine wS ?_|refine wR ?_|refine wE ?_|(refine wC rfl ?_ ?_<;>(intro hb;(try simp only [nm] at hb);try (exfalso;omega)))|(refine rg 2 (dS rfl (qW T rfl (vV (bE rfl rfl) ?_))))|(refine rg 6 (mW rfl (qW T rfl (mW rfl (vV (kQ rfl rfl) (aV ?_))))))|refine nZ ?_));all_goals first | (exfalso;omega) | exact eP (.inl rfl) rfl (by first | rfl | (rw [decide_eq_false (by omega)];rfl))
theorem XW (ls : List Lo) (bs : List Bo) (hl : ls.length ≤ 9223372036854775807) (hbs : bs.length ≤ 9223372036854775807) : bI Tryz.prog 7 [.rowE (iX ls) 3,.rowE (eY bs) 3] [] (.b (K5 ls bs)) [] := by
  have c1 := YK k3 ls bs 20 (by decide) (by decide) (by decide) (by omega) (by omega)
  have c2 := fun (h : ls.length ≤ 20 ∧ bs.length ≤ 20) => CX k3 ls bs zK2 (by omega) (by omega)
  rw [show k3.length = 3 from rfl] at c2
  unfold K5;refine dA T Tryz.func7 rfl rfl rfl rfl ?_
  (repeat' (first|refine wS ?_|(refine rg 0 (aV ?_))|(refine rg 1 (vV (by exact gS T rfl rfl rfl rfl) ?_);refine vV (by exact gS T rfl rfl rfl rfl) ?_;refine vV (by exact gS T rfl rfl rfl rfl) ?_;refine dQ (by exact bO T rfl rfl (by decide) (by decide) rfl rfl rfl) rfl ?_;refine aV ?_)|refine nZ ?_));refine L2 5 (es := F0 k3) rfl rfl rfl rfl ?_
  by_cases h : ls.length ≤ 20 ∧ bs.length ≤ 20
  · have c2 := c2 h;rw [decide_eq_true h] at c1 ⊢;rw [kK]
    (repeat' (first|refine wR ?_|(refine rg 2 (dS rfl (mW rfl (vV (by exact dB rfl rfl c1 rfl rfl rfl) ?_)));refine mW rfl (yN rfl (yN rfl (yN rfl (yV (by exact dB rfl rfl c2 rfl rfl rfl) ?_))));refine pW rfl (aV ?_))|refine nZ ?_));all_goals first | (exfalso;omega) | exact rQ
  · rw [decide_eq_false h] at c1 ⊢;rw [jQ]
    (repeat' (first|refine wR ?_|(refine rg 2 (dS rfl (mW rfl (vV (by exact dB rfl rfl c1 rfl rfl rfl) ?_)));refine mV ?_;(iterate 4 refine gF ?_);refine pW rfl (aV ?_))|refine nZ ?_));all_goals first | (exfalso;omega) | exact rQ
end Go.Proofs.YtdfmhddmddgniaaGreatDoor
namespace Go.Or
open Go Go.Ab Go.Wr Go.Proofs.YtdfmhddmddgniaaGreatDoor
theorem jU {X : Hp} {a b : AB} : (X ++ [a]).set X.length b = X ++ [b] := by simp
end Go.Or
namespace Go.Proofs.YtdfmhddmddgniaaGreatDoor
open Go Go.Ab Go.Or Go.Wr
attribute [local irreducible] VC AW bJ bI eO jT
set_option maxHeartbeats 4000000
def KW (bk : Bk) (no : Int) : AV := if no < 0 ∨ (bk.length : Int) ≤ no then .tup [.agg [.nils,.i 0,.i 0],.b false] else .tup [zJ2 (bk.getD no.toNat jC),.b true]
theorem zD1 {H : Hp} {pb : Nat} {bk : Bk} {A : List Nat} (hB : zR H pb bk A) (no : Int) (hl : bk.length ≤ 1000000) (hw : ∀ o,o ∈ bk → o.ws.length ≤ 1000000) :
    eO Tryz.prog 12 [.ptr pb 0,.i no] H (fun r o => r = KW bk no ∧ ∃ Z,o = H ++ Z) := by
  obtain ⟨po,L,h,rfl,rfl⟩ := hB;rw [bF] at hl;have hbk := h.b;have ho := h.o;unfold KW;refine jS T Tryz.func12 rfl rfl rfl rfl ?_;by_cases hr : no < 0 ∨ (L.length : Int) ≤ no
  · rw [if_pos (by simpa using hr)]
    (repeat' (first|refine wS ?_|refine wR ?_|refine wT ?_|(refine wC rfl ?_ ?_<;>(intro hb;(try simp only [nm] at hb);try (exfalso;omega)))|(refine rg 0 (dQ (dC T rfl) rfl (aV ?_)))|(refine rg 1 (mW rfl (vV (bE rfl rfl) (mV ?_)));refine bP rfl rfl ?_ ?_<;>(intro hb;rw [hb];(try simp only [nm] at hb);try (exfalso;omega));(all_goals first|(refine gT (mW rfl (gT (mW rfl (gT (nV ?_)))));refine gT (fW T rfl (gT (vV (by exact aX T rfl rfl (bW (bL hbk)) rfl) ?_)));refine gT (qW T rfl (gT (vV (eN rfl rfl) ?_))))|(iterate 7 refine gF ?_));(all_goals (refine pV ?_)))|(refine rg 2 (vV (by exact gS T rfl rfl rfl rfl) ?_);refine bA T rfl rfl rfl rfl rfl rfl (by decide) (oC bY rfl rfl) (aV ?_))|refine nZ ?_));all_goals first | (exfalso;omega) | exact ⟨.inl rfl,_,qL T rfl rfl rfl (bW (gE (by simp))) rfl,rfl,_,jU⟩
  · obtain ⟨e,he,hge⟩ := T6 (L := L) (i := no.toNat) (by omega)
    rw [if_neg (by simpa using hr),hge]
    have hg := E4 he;have hcl := zK e.1.ws (hw _ (aK.2 ⟨e,aJ he,rfl⟩))
    (repeat' (first|refine wS ?_|refine wK ?_|(refine wC rfl ?_ ?_<;>(intro hb;(try simp only [nm] at hb);try (exfalso;omega)))|(refine rg 0 (dQ (dC T rfl) rfl (aV ?_)))|(refine rg 1 (mW rfl (vV (bE rfl rfl) (mV ?_)));refine bP rfl rfl ?_ ?_<;>(intro hb;rw [hb];(try simp only [nm] at hb);try (exfalso;omega));(all_goals (refine yN rfl (yN rfl (gT (nV ?_)));refine yP T rfl (yV (by exact aX T rfl rfl (bW (bL hbk)) rfl) ?_);refine gT (qW T rfl (yV (eN rfl rfl) (pV ?_))))))|(refine rg 3 (mW rfl (nV ?_));refine fW T rfl (vV (by exact aX T rfl rfl (bW (bL hbk)) rfl) ?_);refine mW rfl (vV (by exact bQ T rfl rfl rfl rfl rfl (by omega) (by omega)) ?_);refine fW T rfl (vV (by exact aX T rfl rfl (eJ (bL ho) hg) rfl) ?_);refine dQ (dC T rfl) rfl (bA T rfl rfl rfl rfl rfl rfl (by decide) (oC bY rfl rfl) ?_))|refine nZ ?_));all_goals try (exfalso;omega)
    rw [jU];generalize hX : H ++ [AB.cells (List.map AV.v [Value.slice none 0 0,Value.int IntKind.i64 0,Value.int IntKind.i64 0])] = X1;have hX1 : X1[H.length]? = some (.cells [.nils,.i 0,.i 0]) := by rw [← hX];exact bY
    have hlen : H.length ≠ X1.length := by rw [← hX];simp
    have hpre : ∀ c d,∃ Z,(X1 ++ [AB.cells c]).set H.length (.cells d) = H ++ Z := fun c d => ⟨[.cells d,.cells c],by rw [← hX,aY,xF _ _ (aU _)];simp⟩
    (repeat' (first|refine wS ?_|(refine rg 4 (fW T rfl (vV (by exact aX T rfl rfl (bW bY) rfl) ?_));refine vV (by exact kX rfl rfl hcl (.cons (.row _ _ _) .nil) (gD _).symm (GD _) (N7 _)) ?_;refine fW T rfl (bA T rfl rfl rfl rfl rfl rfl (by decide) (oC bY rfl rfl) ?_))|refine nZ ?_));rw [jU]
    refine jH [(4,.ptr H.length 0),(6,.ptr X1.length 0)] (X1 ++ [.cells [.rowE (bV e.1.ws) 3,.i e.1.due,.i e.1.st]]) (mP.of rfl ⟨rfl,rfl,trivial⟩) ?_
    (repeat' (first|refine wR ?_|(refine rg 5 (vV (by exact aX T rfl rfl (bW bY) rfl) ?_);refine bA T rfl rfl rfl rfl rfl rfl (by decide) (oC (bL hX1) rfl rfl) (aV ?_))|refine nZ ?_));all_goals exact ⟨.inl rfl,_,qL T rfl rfl rfl (bW (gE (by rw [aB,← hX];simp;omega))) rfl,rfl,hpre _ _⟩
end Go.Proofs.YtdfmhddmddgniaaGreatDoor
namespace Go.Ab
open Go
theorem yJ {P : Program} {f : FuncId} {args : List AV} {res : AV} (hi : res.idf = true) (h : eO P f args [] (fun r _ => r = res)) : bI P f args [] res [] := by
  refine ⟨h.1,fun ρ S w vs hs ha => (h.2 ρ S w vs hs ha).mono ?_⟩;rintro e w' ⟨r,hout,rfl,y,ρ',S',rfl,h2,h3⟩;have h4 := h2.sub (L := []) (h' := []) rfl trivial aI (VU);exact ⟨y,_,S',rfl,h4,H0 _ _ _ _ hi h3⟩
end Go.Ab
namespace Go.Or
open Go Go.Ab Go.Wr Go.Proofs.YtdfmhddmddgniaaGreatDoor
abbrev XP : List Lo := [(0,9,false)]
abbrev C7 : List Bo := [(0,3,0)]
abbrev LW : List Wt := [(0,2,5)]
abbrev zO4 : Bk := [⟨LW,7,0,[]⟩]
abbrev YO : Bk := [⟨LW,7,1,[[(0,2)]]⟩]
abbrev zL4 : Bk := [⟨LW,7,1,[[(0,2)]]⟩,⟨LW,9,0,[]⟩]
abbrev zP6 : Bk := [⟨LW,7,2,[]⟩,⟨LW,9,0,[]⟩]
theorem e1 : wQ [] LW 7 = ((0,0),zO4) := by decide
theorem e2 : qU XP C7 zO4 0 = (0,YO) := by decide
theorem e3 : lO YO 0 = 2 := by decide
theorem e4 : wQ YO LW 9 = ((1,0),zL4) := by decide
theorem e5 : qU XP C7 zL4 1 = (22,zL4) := by decide
theorem e6 : mC zL4 0 0 2 7 = (0,zP6) := by decide
theorem FK : wW XP C7 := U9 (by decide : K5 XP C7 = true)
theorem zM3 : oS zO4 := by have := Q0 (ws := LW) (due := 7) oS.nil;rw [e1] at this;exact this
theorem zJ1 : oS YO := by have := T3 (ls := XP) (sure := C7) (no := 0) zM3 (by decide);rw [e2] at this;exact this
theorem zP1 : oS zL4 := by have := Q0 (ws := LW) (due := 9) zJ1;rw [e4] at this;exact this
end Go.Or
namespace Go.Proofs.YtdfmhddmddgniaaGreatDoor
open Go Go.Ab Go.Or Go.Wr
attribute [local irreducible] VC AW bJ bI eO jT
set_option maxHeartbeats 4000000
def rZ (P : Program) (t e : TypeId) : Prop := P.underlying t = some (.pointer e)
theorem KG : rZ Tryz.prog 28 100 := by unfold rZ;kernel_rfl
section
variable {P : Program} {env : dD} {h : Hp} {d : Option Nat} {ty : TypeId} {pos : String} {af : Array Edge} {g : Option (Nat × Bool)} {t t2 te : TypeId} {x y : Operand} {u z : AV}
theorem V1 (ht : rZ P t te) (hx : evu env x = some u) (hz : u.plus 0 = some z) (hy : evu env y = some (.v (.pointer none))) : bJ P ⟨d,.binOp .eql t x y t2,ty,pos,af,g⟩ env h 0 (fun _ => .b false) (fun _ => []) := V0 ht hx hz hy
theorem zD4 (ht : rZ P t te) (hx : evu env x = some (.v (.pointer none))) (hy : evu env y = some (.v (.pointer none))) : bJ P ⟨d,.binOp .eql t x y t2,ty,pos,af,g⟩ env h 0 (fun _ => .b true) (fun _ => []) := KZ ht hx hy
end
attribute [local irreducible] rZ
theorem ZH : bI Tryz.prog 37 [] [] (.rowE (bV LW) 3) [] := by
  refine QA (len := 1) rfl rfl ?_;refine dA T Tryz.func37 rfl rfl rfl rfl ?_
  (repeat' (first|refine wS ?_|refine wR ?_|(refine rg 0 (aV ?_))|(refine rg 1 (vV (by exact gS T rfl rfl rfl rfl) ?_);refine dQ (by exact bO T rfl rfl (by decide) (by decide) rfl rfl rfl) rfl ?_;refine aV ?_)|refine nZ ?_));all_goals exact ⟨.inl rfl,[0],_,rfl,rfl,rfl,⟨.inr rfl,trivial⟩,by decide,iK _⟩
theorem WL : eO Tryz.prog 5 [] [] (fun r _ => r = .b true) := by
  refine jS T Tryz.func5 rfl rfl rfl rfl ?_
  (repeat' (first|refine wS ?_|(refine rg 0 (aV ?_))|(refine rg 1 (vV (by exact gS T rfl rfl rfl rfl) ?_);refine dQ (by exact bO T rfl rfl (by decide) (by decide) rfl rfl rfl) rfl ?_;refine aV ?_)|refine nZ ?_));refine L2 1 (es := iX XP) rfl rfl rfl rfl ?_
  (repeat' (first|refine wS ?_|(refine rg 2 (vV (by exact gS T rfl rfl rfl rfl) ?_);refine dQ (by exact bO T rfl rfl (by decide) (by decide) rfl rfl rfl) rfl ?_;refine aV ?_)|refine nZ ?_));refine L2 2 (es := eY C7) rfl rfl rfl rfl ?_
  (repeat' (first|refine wS ?_|refine wK ?_|refine wU ?_|(refine rg 3 (bR [] rfl rfl SR rfl rfl (by decide) trivial (by simp) rfl ?_);refine aV ?_)|(refine rg 4 (mW rfl (vV (by exact V1 KG rfl rfl rfl) ?_)))|refine nZ ?_));all_goals try (exfalso;omega)
  refine rY 2 0 4 rfl rfl (by decide) ?_
  have hB0 : zR ([.gone,.gone,.cells [.sl 3 0 0 4],.arr [] 4] : Hp) 2 [] [2,3] := ⟨3,[],⟨rfl,rfl,fun e he => (nomatch he),by decide⟩,rfl,rfl⟩
  refine jH [(1,.rowE (iX XP) 3),(2,.rowE (eY C7) 3),(3,.ptr 2 0)] [.gone,.gone,.cells [.sl 3 0 0 4],.arr [] 4] (mP.of rfl (by repeat first|exact trivial|refine ⟨rfl,?_⟩)) ?_
  generalize ([.gone,.gone,.cells [.sl 3 0 0 4],.arr [] 4] : Hp) = X0 at *;have c1 := UU hB0 LW 7 (by decide) (by decide)
  rw [e1] at c1
  (repeat' (first|refine wS ?_|(refine rg 6 (mW rfl (vV (kC (ZH)) (eU rfl rfl c1 rfl ?_)));rintro _ X1 ⟨rfl,A1,hB1,_⟩;dsimp only [fR];refine mW rfl (xW rfl (xW rfl (kJ ?_))))|refine nZ ?_));have c2 := J4 hB1 zM3.sz XP C7 FK 0 _ (.inl rfl)
  rw [e2] at c2
  (repeat' (first|refine wS ?_|(refine rg 7 (dS rfl (mW rfl (eU rfl rfl c2 rfl ?_)));rintro _ X2 ⟨rfl,A2,hB2,_⟩;dsimp only [fR];refine aV ?_)|refine nZ ?_));have c3 := R7 YO 0 (by decide) zJ1.sz.tk zJ1.sz.sum.bk
  rw [e3] at c3;have hv2 := hB2.view;have c4 := UU hB2 LW 9 (by decide) (by decide)
  rw [e4] at c4
  (repeat' (first|refine wS ?_|(refine rg 8 (mW rfl (vV (by exact cM rfl rfl c3 (.cons hv2 (.cons (.v _) .nil)) rfl rfl) ?_));refine aV ?_)|(refine rg 9 (mW rfl (vV (kC (ZH)) (eU rfl rfl c4 rfl ?_)));rintro _ X3 ⟨rfl,A3,hB3,_⟩;dsimp only [fR];refine mW rfl (xW rfl (xW rfl (kJ ?_))))|refine nZ ?_));have c5 := J4 hB3 zP1.sz XP C7 FK 1 _ (.inl rfl)
  rw [e5] at c5
  (repeat' (first|refine wS ?_|(refine rg 10 (dS rfl (mW rfl (eU rfl rfl c5 rfl ?_)));rintro _ X4 ⟨rfl,A4,hB4,_⟩;dsimp only [fR];refine aV ?_)|refine nZ ?_));have c6 := MC hB4 zP1.sz 0 0 2 7
  rw [e6] at c6
  (repeat' (first|refine wS ?_|(refine rg 11 (mW rfl (eU rfl rfl c6 rfl ?_));rintro _ X5 ⟨rfl,A5,hB5,_⟩;dsimp only [fR];refine aV ?_)|refine nZ ?_));have c7 := zD1 hB5 0 (by decide) (by decide)
  rw [show KW zP6 0 = .tup [zJ2 ⟨LW,7,2,[]⟩,.b true] from rfl] at c7
  (repeat' (first|refine wS ?_|refine wR ?_|(refine rg 12 (mW rfl (eU rfl rfl c7 rfl ?_));rintro _ X6 ⟨rfl,Z6,rfl⟩;dsimp only [fR];refine mW rfl (xW rfl (xW rfl (dQ (dC T rfl) rfl (bA T rfl rfl rfl rfl rfl rfl (by decide) (oC bY rfl rfl) (aV ?_))))))|(refine rg 13 (mW rfl (vV (cW rfl rfl) (mW rfl (yN rfl (yV (cW rfl rfl) (pW rfl (mW rfl (yN rfl (yV (cW rfl rfl) ?_)))))))));refine pW rfl (mW rfl (yN rfl (yV (cW rfl rfl) (pW rfl (mW rfl (yN rfl (yV (cW rfl rfl) (pW rfl (mV ?_)))))))));refine yN rfl (yV (cW rfl rfl) (pW rfl (mW rfl (yN rfl (yV (cW rfl rfl) (pW rfl (mW rfl (yN rfl (yV (cW rfl rfl) ?_)))))))));refine pW rfl (mW rfl (yN rfl (pW rfl (mW rfl (yP T rfl (yV (by exact aX T rfl rfl (bW (gE (by simp))) rfl) ?_))))));refine yV (cW rfl rfl) (pW rfl (aV ?_)))|refine nZ ?_));all_goals first | (exfalso;omega) | exact ⟨.inl rfl,_,rfl,rfl⟩
theorem D0 : bI Tryz.prog 5 [] [] (.b true) [] := yJ rfl WL
end Go.Proofs.YtdfmhddmddgniaaGreatDoor
namespace Go.Proofs.YtdfmhddmddgniaaGreatDoor
open Go Go.Ab Go.Or Go.Wr
def nB (P : Program) (t n : Nat) : Prop := vM P t n = true
theorem ZW : nB Tryz.prog 89 3 := by unfold nB;kernel_rfl
theorem zL3 : nB Tryz.prog 79 3 := by unfold nB;kernel_rfl
theorem zA2 : nB Tryz.prog 86 2 := by unfold nB;kernel_rfl
section
variable {P : Program} {env : dD} {h : Hp} {d : Option Nat} {ty : TypeId} {pos : String} {af : Array Edge} {g : Option (Nat × Bool)}
theorem HK {t t2 : TypeId} {x y : Operand} {a b c : Int} (ht : nB P t 3) (hx : evu env x = some (.agg [.i a,.i b,.i c])) (hy : evu env y = some (.agg [.i a,.i b,.i c])) : bJ P ⟨d,.binOp .neq t x y t2,ty,pos,af,g⟩ env h 0 (fun _ => .b false) (fun _ => []) := by
  have : bJ P ⟨d,.binOp .neq t x y t2,ty,pos,af,g⟩ env h 0 (fun _ => .b (!decide ([a,b,c] = [a,b,c]))) (fun _ => []) := F6 ht hx hy rfl rfl;simpa using this
theorem TO {t t2 : TypeId} {x y : Operand} {a b : Int} (ht : nB P t 2) (hx : evu env x = some (.agg [.i a,.i b])) (hy : evu env y = some (.agg [.i a,.i b])) : bJ P ⟨d,.binOp .neq t x y t2,ty,pos,af,g⟩ env h 0 (fun _ => .b false) (fun _ => []) := by
  have : bJ P ⟨d,.binOp .neq t x y t2,ty,pos,af,g⟩ env h 0 (fun _ => .b (!decide ([a,b] = [a,b]))) (fun _ => []) := F6 ht hx hy rfl rfl;simpa using this
end
attribute [local irreducible] VC AW bJ bI eO jT nB
set_option maxHeartbeats 4000000
theorem FW (o : Od) (hl : o.ws.length ≤ 1000000) : bI Tryz.prog 18 [zJ2 o,zJ2 o] [] (.b true) [] := by
  have hll := gD o.ws;refine dA T Tryz.func18 rfl rfl rfl rfl ?_
  (repeat' (first|refine wS ?_|(refine rg 0 (dQ (fE rfl rfl) rfl (dQ (fE rfl rfl) rfl (aV ?_))))|refine nZ ?_));refine fK 2 (cs := [.rowE (bV o.ws) 3,.i o.due,.i o.st]) rfl rfl rfl ?_
  refine fK 3 (cs := [.rowE (bV o.ws) 3,.i o.due,.i o.st]) rfl rfl rfl ?_
  (repeat' (first|refine wS ?_|refine wB ?_|refine wK ?_|refine wU ?_|(refine rg 1 (eT T rfl (eT T rfl (vV (iC rfl rfl rfl) (mW rfl (yP T rfl (yO T rfl (yP T rfl (yO T rfl (yV (iC rfl rfl rfl) ?_)))))))));refine pW rfl (mW rfl (yP T rfl (yO T rfl (gT (qW T rfl (yP T rfl (yO T rfl (gT (qV T ?_)))))))));refine yV (iC rfl rfl rfl) (pV ?_))|(refine rg 3 (aV ?_))|refine nZ ?_));all_goals try first | (exfalso;omega;done) | exact absurd trivial hb
  refine dR (X := {k : Nat // k ≤ o.ws.length}) (fun k => [(2,.pr [.rowE (bV o.ws) 3,.i o.due,.i o.st] 0),(3,.pr [.rowE (bV o.ws) 3,.i o.due,.i o.st] 0),(5,.i k.1)]) (fun _ => []) (fun k => o.ws.length - k.1) ⟨0,bG _⟩ ⟨[],rfl,by (repeat (first | exact trivial | refine ⟨rfl,?_⟩)),trivial,aI,iK _⟩ ?_
  rintro ⟨k,hk⟩;dsimp only;by_cases hlt : k < o.ws.length
  · have hg := QK hlt;generalize o.ws.getD k (0,0,0) = w at *
    (repeat' (first|refine wS ?_|refine wB ?_|refine wK ?_|refine wU ?_|(refine wC rfl ?_ ?_<;>(intro hb;(try simp only [nm] at hb);try (exfalso;omega)))|(refine rg 4 (mW rfl (eT T rfl (qW T rfl (vV (bE rfl rfl) ?_)))))|(refine cS (id := 6) 45 [[],[0],[],[0,1,2],rN 4,[],[5],[],[5,6,7],rM 5 4,rN 10] (rM 34 11) [[],[],[34,35],[],[],rM 34 5,rM 34 5,rM 34 7,rM 34 5,rM 34 5,[]] dZ rfl (by decide +kernel) (dP T rfl (dO T rfl (dN rfl (dV rfl (ix T rfl (by omega) (jW _) hg) (dO T rfl (dP T rfl (dO T rfl (dN rfl (dV rfl (ix T rfl (by omega) (jW _) hg) ?_)))))))));refine dO T rfl (dV rfl (by exact HK ZW rfl rfl) ?_);refine dE ?_)|(refine iA 5 rfl rfl rfl (by omega) (by omega) ?_)|refine nZ ?_));all_goals first | (exfalso;omega) | exact ⟨⟨k + 1,hlt⟩,by dsimp only;omega,[],rfl,by (repeat (first | exact trivial | refine ⟨rfl,?_⟩)),trivial,aI,iK _⟩
  · obtain rfl : k = o.ws.length := by omega
    (repeat' (first|refine wS ?_|refine wR ?_|refine wE ?_|(refine wC rfl ?_ ?_<;>(intro hb;(try simp only [nm] at hb);try (exfalso;omega)))|(refine rg 4 (mW rfl (eT T rfl (qW T rfl (vV (bE rfl rfl) ?_)))))|(refine rg 8 (aV ?_))|refine nZ ?_));all_goals first | (exfalso;omega) | exact rQ
theorem FX (l : List Bo) (hl : l.length ≤ 1000000) : bI Tryz.prog 21 [.rowE (eY l) 3,.rowE (eY l) 3] [] (.b true) [] := by
  have hll := fM l;refine dA T Tryz.func21 rfl rfl rfl rfl ?_
  (repeat' (first|refine wS ?_|refine wB ?_|refine wK ?_|refine wU ?_|(refine rg 0 (aV ?_))|(refine rg 1 (mW rfl (qW T rfl (mW rfl (qW T rfl (vV (iC rfl rfl rfl) ?_))))))|(refine rg 3 (aV ?_))|refine nZ ?_));all_goals try first | (exfalso;omega;done) | exact absurd trivial hb
  refine dR (X := {k : Nat // k ≤ l.length}) (fun k => [(0,.rowE (eY l) 3),(1,.rowE (eY l) 3),(5,.i k.1)]) (fun _ => []) (fun k => l.length - k.1) ⟨0,bG _⟩ ⟨[],rfl,by (repeat (first | exact trivial | refine ⟨rfl,?_⟩)),trivial,aI,iK _⟩ ?_
  rintro ⟨k,hk⟩;dsimp only;by_cases hlt : k < l.length
  · have hg := zN hlt;generalize l.getD k (0,0,0) = w at *
    (repeat' (first|refine wS ?_|refine wB ?_|refine wK ?_|refine wU ?_|(refine wC rfl ?_ ?_<;>(intro hb;(try simp only [nm] at hb);try (exfalso;omega)))|(refine rg 4 (dS rfl (qW T rfl (vV (bE rfl rfl) ?_))))|(refine cS (id := 6) 26 zS9 (rM 17 9) zT0 dZ rfl (by decide +kernel) (dN rfl (dN rfl (dV rfl (ix T rfl (by omega) (fZ _) hg) (dO T rfl (dN rfl (dN rfl (dV rfl (ix T rfl (by omega) (fZ _) hg) (dO T rfl (dV rfl (by exact HK zL3 rfl rfl) ?_)))))))));refine dE ?_)|(refine iA 5 rfl rfl rfl (by omega) (by omega) ?_)|refine nZ ?_));all_goals first | (exfalso;omega) | exact ⟨⟨k + 1,hlt⟩,by dsimp only;omega,[],rfl,by (repeat (first | exact trivial | refine ⟨rfl,?_⟩)),trivial,aI,iK _⟩
  · obtain rfl : k = l.length := by omega
    (repeat' (first|refine wS ?_|refine wR ?_|refine wE ?_|(refine wC rfl ?_ ?_<;>(intro hb;(try simp only [nm] at hb);try (exfalso;omega)))|(refine rg 4 (dS rfl (qW T rfl (vV (bE rfl rfl) ?_))))|(refine rg 8 (aV ?_))|refine nZ ?_));all_goals first | (exfalso;omega) | exact rQ
theorem FU (l : List Tk) (hl : l.length ≤ 1000000) : bI Tryz.prog 58 [.rowE (eZ l) 2,.rowE (eZ l) 2] [] (.b true) [] := by
  have hll := kT l;refine dA T Tryz.func58 rfl rfl rfl rfl ?_
  (repeat' (first|refine wS ?_|refine wB ?_|refine wK ?_|refine wU ?_|(refine rg 0 (aV ?_))|(refine rg 1 (mW rfl (qW T rfl (mW rfl (qW T rfl (vV (iC rfl rfl rfl) ?_))))))|(refine rg 3 (aV ?_))|refine nZ ?_));all_goals try first | (exfalso;omega;done) | exact absurd trivial hb
  refine dR (X := {k : Nat // k ≤ l.length}) (fun k => [(0,.rowE (eZ l) 2),(1,.rowE (eZ l) 2),(5,.i k.1)]) (fun _ => []) (fun k => l.length - k.1) ⟨0,bG _⟩ ⟨[],rfl,by (repeat (first | exact trivial | refine ⟨rfl,?_⟩)),trivial,aI,iK _⟩ ?_
  rintro ⟨k,hk⟩;dsimp only;by_cases hlt : k < l.length
  · have hg := xO hlt;generalize l[k] = w at *
    (repeat' (first|refine wS ?_|refine wB ?_|refine wK ?_|refine wU ?_|(refine wC rfl ?_ ?_<;>(intro hb;(try simp only [nm] at hb);try (exfalso;omega)))|(refine rg 4 (dS rfl (qW T rfl (vV (bE rfl rfl) ?_))))|(refine cS (id := 6) 26 zS9 (rM 17 9) zT0 dZ rfl (by decide +kernel) (dN rfl (dN rfl (dV rfl (ix T rfl (by omega) (nD _) hg) (dO T rfl (dN rfl (dN rfl (dV rfl (ix T rfl (by omega) (nD _) hg) (dO T rfl (dV rfl (by exact TO zA2 rfl rfl) ?_)))))))));refine dE ?_)|(refine iA 5 rfl rfl rfl (by omega) (by omega) ?_)|refine nZ ?_));all_goals first | (exfalso;omega) | exact ⟨⟨k + 1,hlt⟩,by dsimp only;omega,[],rfl,by (repeat (first | exact trivial | refine ⟨rfl,?_⟩)),trivial,aI,iK _⟩
  · obtain rfl : k = l.length := by omega
    (repeat' (first|refine wS ?_|refine wR ?_|refine wE ?_|(refine wC rfl ?_ ?_<;>(intro hb;(try simp only [nm] at hb);try (exfalso;omega)))|(refine rg 4 (dS rfl (qW T rfl (vV (bE rfl rfl) ?_))))|(refine rg 8 (aV ?_))|refine nZ ?_));all_goals first | (exfalso;omega) | exact rQ
theorem FV (tk : List (List Tk)) (hl : tk.length ≤ 1000000) (h2 : ∀ l,l ∈ tk → l.length ≤ 1000000) : bI Tryz.prog 19 [mA tk,mA tk] [] (.b true) [] := by
  have hll := kD tk;refine dA T Tryz.func19 rfl rfl rfl rfl ?_
  (repeat' (first|refine wS ?_|refine wB ?_|refine wK ?_|refine wU ?_|(refine rg 0 (aV ?_))|(refine rg 1 (mW rfl (qW T rfl (mW rfl (qW T rfl (vV (iC rfl rfl rfl) ?_))))))|(refine rg 3 (aV ?_))|refine nZ ?_));all_goals try first | (exfalso;omega;done) | exact absurd trivial hb
  refine dR (X := {k : Nat // k ≤ tk.length}) (fun k => [(0,mA tk),(1,mA tk),(5,.i k.1)]) (fun _ => []) (fun k => tk.length - k.1) ⟨0,bG _⟩ ⟨[],rfl,by (repeat (first | exact trivial | refine ⟨rfl,?_⟩)),trivial,aI,iK _⟩ ?_
  rintro ⟨k,hk⟩;dsimp only;by_cases hlt : k < tk.length
  · have hg := tV hlt;have hs := FU tk[k] (h2 _ (aH hlt));generalize tk[k] = w at *
    (repeat' (first|refine wS ?_|refine wB ?_|refine wK ?_|refine wU ?_|(refine wC rfl ?_ ?_<;>(intro hb;(try simp only [nm] at hb);try (exfalso;omega)))|(refine rg 4 (dS rfl (qW T rfl (vV (bE rfl rfl) ?_))))|(refine cS (id := 6) 27 [[],[],[0,1],[0,1,2],[],[],[4,5],[4,5,6],rN 8,rN 9] (rM 17 10) [[],[17],[],[],rM 17 4,rM 17 5,rM 17 4,rM 17 4,[],[]] dZ rfl (by decide +kernel) (dN rfl (dN rfl (dV rfl (ix T rfl (by omega) (gJ _) hg) (dO T rfl (dN rfl (dN rfl (dV rfl (ix T rfl (by omega) (gJ _) hg) (dO T rfl (dV rfl (kC (hs)) ?_)))))))));refine dV rfl (cV rfl) (dE ?_))|(refine iA 5 rfl rfl rfl (by omega) (by omega) ?_)|refine nZ ?_));all_goals first | (exfalso;omega) | exact ⟨⟨k + 1,hlt⟩,by dsimp only;omega,[],rfl,by (repeat (first | exact trivial | refine ⟨rfl,?_⟩)),trivial,aI,iK _⟩
  · obtain rfl : k = tk.length := by omega
    (repeat' (first|refine wS ?_|refine wR ?_|refine wE ?_|(refine wC rfl ?_ ?_<;>(intro hb;(try simp only [nm] at hb);try (exfalso;omega)))|(refine rg 4 (dS rfl (qW T rfl (vV (bE rfl rfl) ?_))))|(refine rg 8 (aV ?_))|refine nZ ?_));all_goals first | (exfalso;omega) | exact rQ
def zJ3 (a b : Int) : Bool := decide ((a = 0 ∧ (b = 1 ∨ b = 4)) ∨ (a = 1 ∧ (b = 2 ∨ b = 3 ∨ b = 4)))
end Go.Proofs.YtdfmhddmddgniaaGreatDoor
namespace Go.Or
open Go Go.Ab Go.Wr Go.Proofs.YtdfmhddmddgniaaGreatDoor
structure ER (bk : Bk) (o : Or.Op) (n e : Int) (bk' : Bk) : Prop where
  le : bk.length ≤ bk'.length ∧ bk'.length ≤ bk.length + 1
  ask : o.d = 0 → e = 0 → n = bk.length
  new : ∀ i : Nat,bk.length ≤ i → i < bk'.length → (bk'.getD i jC).st = 0 ∧ o.d = 0 ∧ e = 0 ∧ (bk'.getD i jC).due = o.t
  old : ∀ i : Nat,i < bk.length → ((bk'.getD i jC).ws = (bk.getD i jC).ws ∧ (bk'.getD i jC).due = (bk.getD i jC).due) ∧ ((bk'.getD i jC).st = (bk.getD i jC).st ∨ ((i : Int) = o.no ∧ e = 0 ∧ zJ3 (bk.getD i jC).st (bk'.getD i jC).st = true))
theorem ER.same (bk : Bk) (o : Or.Op) (n e : Int) (h : o.d = 0 → e ≠ 0) : ER bk o n e bk :=
  ⟨⟨aU _,IW _⟩,fun h0 h1 => absurd h1 (h h0),fun i h1 h2 => by omega,fun i _ => ⟨⟨rfl,rfl⟩,.inl rfl⟩⟩
theorem TM {bk : Bk} {k i : Nat} {o : Od} (hk : k < bk.length) : (bk.set k o).getD i jC = if i = k then o else bk.getD i jC := by
  rw [aD,cK];by_cases h : k = i
  · subst h;rw [if_pos rfl,if_pos hk,if_pos rfl];rfl
  · rw [if_neg h,if_neg (Ne.symm h),← aD]
theorem ER.set {bk : Bk} {o : Or.Op} {n : Int} {o' : Od} (hd : o.d ≠ 0) (h0 : 0 ≤ o.no) (h1 : o.no < bk.length) (hw : o'.ws = (bk.getD o.no.toNat jC).ws) (hdu : o'.due = (bk.getD o.no.toNat jC).due) (hm : o'.st = (bk.getD o.no.toNat jC).st ∨ zJ3 (bk.getD o.no.toNat jC).st o'.st = true) : ER bk o n 0 (bk.set o.no.toNat o') := by
  refine ⟨by rw [eC];omega,fun h => absurd h hd,fun i h1 h2 => by rw [eC] at h2;omega,fun i hi => ?_⟩
  rw [TM (by omega)]
  by_cases h : i = o.no.toNat
  · subst h;rw [if_pos rfl];exact ⟨⟨hw,hdu⟩,hm.imp id fun h => ⟨by omega,rfl,h⟩⟩
  · rw [if_neg h];exact ⟨⟨rfl,rfl⟩,.inl rfl⟩
mutual
theorem LN (f : Nat → Nat) : ∀ x : AV, x.rf = true → (x.map f).rf = true
  | .v _,_ => rfl
  | .any,_ => rfl
  | .row ..,h => h
  | .mrow ..,h => h
  | .mp _,_ => rfl
  | .pr ..,h => h
  | .ptr ..,_ => rfl
  | .sl ..,_ => rfl
  | .ep ..,_ => rfl
  | .agg cs,h => wP f cs h
  | .tup cs,h => wP f cs h
  | .clo _ cs ds,h => by
    simp only [AV.rf,aN] at h;simp only [AV.map,AV.rf,aN];exact ⟨wP f cs h.1,wP f ds h.2⟩
  | .cond _ x,h => LN f x h
  | .ifc _ x,h => LN f x h
theorem wP (f : Nat → Nat) : ∀ xs : List AV, AV.rfL xs = true → AV.rfL (AV.mapL f xs) = true
  | [],_ => rfl
  | x :: xs,h => by
    simp only [AV.rfL,aN] at h;simp only [AV.mapL,AV.rfL,aN];exact ⟨LN f x h.1,wP f xs h.2⟩
end
theorem zA6 {b : AB} (f : Nat → Nat) (h : b.rf = true) : (b.map f).rf = true := by
  cases b <;> first | rfl | exact h | exact wP f _ h | (
    simp only [AB.rf,bD] at h;simp only [AB.map,AB.rf,bD];intro x hx;obtain ⟨y,hy,rfl⟩ := aK.1 hx
    exact wP f y (h y hy))
end Go.Or
namespace Go.Proofs.YtdfmhddmddgniaaGreatDoor
open Go Go.Ab Go.Or Go.Wr
attribute [local irreducible] VC AW bJ bI eO jT
set_option maxHeartbeats 4000000
theorem FE {H : Hp} {k : Nat} {l : List Wt} (hk : H[k]? = some (.arr (bV l) 3)) : View H (.sl k 0 l.length 3) (.rowE (bV l) 3) := by
  have hv : View H (.sl k 0 l.length 3) (.row (bV l).flatten l.length 3) := View.sl hk (by rw [gD];omega) (by rw [cP,aQ (by rw [gD];omega)];exact M0 H l)
  have e2 : l.length = (bV l).length := (gD _).symm;rw [show AV.rowE (bV l) 3 = .row (bV l).flatten l.length 3 by rw [e2]]
  exact hv
theorem RG (o : Od) (f : Nat → Nat) : VH (.tup [zJ2 o,.b true]) (.tup [.agg [.sl 2 0 o.ws.length 3,.i o.due,.i o.st],.b true]) [.cells [.sl 2 0 o.ws.length 3,.i o.due,.i o.st],.cells [.sl 2 0 o.ws.length 3,.i o.due,.i o.st],.arr ((bV o.ws).map (AV.mapL f)) 3] := by
  rw [jI _ (oV _)];refine ⟨rfl,fun b hb => .inr ?_,.tup (.cons (.agg (.cons (FE rfl) (.cons (.v _) (.cons (.v _) .nil)))) (.cons (.v _) .nil))⟩;simp only [aT,cG,or_false] at hb;rcases hb with rfl | rfl | rfl
  · rfl
  · rfl
  · exact GD _
theorem zD0 (bk : Bk) (no : Int) (hl : bk.length ≤ 1000000) (hw : ∀ o,o ∈ bk → o.ws.length ≤ 1000000) :
    eO Tryz.prog 12 [xX bk,.i no] [] (VH (KW bk no)) := by
  have hbl := jG bk;unfold KW;refine jS T Tryz.func12 rfl rfl rfl rfl ?_;by_cases hr : no < 0 ∨ (bk.length : Int) ≤ no
  · rw [if_pos hr]
    (repeat' (first|refine wS ?_|refine wR ?_|refine wT ?_|(refine wC rfl ?_ ?_<;>(intro hb;(try simp only [nm] at hb);try (exfalso;omega)))|(refine rg 0 (dQ (dC T rfl) rfl (aV ?_)))|(refine rg 1 (mW rfl (vV (bE rfl rfl) (mV ?_)));refine bP rfl rfl ?_ ?_<;>(intro hb;rw [hb];(try simp only [nm] at hb);try (exfalso;omega));(all_goals first|(refine gT (mW rfl (gT (mW rfl (gT (nV ?_)))));refine gT (fW T rfl (gT (lW T rfl (gT (qW T rfl (gT (vV (eN rfl rfl) ?_))))))))|(iterate 7 refine gF ?_));(all_goals (refine pV ?_)))|(refine rg 2 (vV (by exact gS T rfl rfl rfl rfl) ?_);refine bA T rfl rfl rfl rfl rfl rfl (by decide) rfl (aV ?_))|refine nZ ?_));all_goals first | (exfalso;omega) | exact ⟨.inl rfl,_,rfl,rfl,fun b hb => .inr (by simp at hb;subst hb;rfl),.tup (.cons (.agg (.cons (.v _) (.cons (.v _) (.cons (.v _) .nil)))) (.cons (.v _) .nil))⟩
  · rw [if_neg hr];have hlt : no.toNat < bk.length := by omega
    have hg : (uW bk)[no.toNat]? = some (zU (bk.getD no.toNat jC)) := by
      rw [aD,aS,aC hlt];rfl
    have hcl := zK (bk.getD no.toNat jC).ws (by
      rw [aD,aC hlt];exact hw _ (aH hlt))
    generalize bk.getD no.toNat jC = o at *
    (repeat' (first|refine wS ?_|refine wK ?_|refine wR ?_|(refine wC rfl ?_ ?_<;>(intro hb;(try simp only [nm] at hb);try (exfalso;omega)))|(refine rg 0 (dQ (dC T rfl) rfl (aV ?_)))|(refine rg 1 (mW rfl (vV (bE rfl rfl) (mV ?_)));refine bP rfl rfl ?_ ?_<;>(intro hb;rw [hb];(try simp only [nm] at hb);try (exfalso;omega));(all_goals (refine yN rfl (yN rfl (gT (nV ?_)));refine yP T rfl (yO T rfl (gT (qW T rfl (yV (eN rfl rfl) (pV ?_))))))))|(refine rg 3 (mW rfl (nV ?_));refine eT T rfl (mW rfl (vV (ix T rfl (by omega) (kR bk) hg) (eT T rfl (dQ (dC T rfl) rfl (bA T rfl rfl rfl rfl rfl rfl (by decide) rfl ?_))))))|(refine rg 4 (eT T rfl (dQ (by exact uF rfl rfl hcl (.inr ⟨rfl,rfl,by simp⟩)) rfl ?_));refine fW T rfl (bA T rfl rfl rfl rfl rfl rfl (by decide) rfl ?_))|(refine rg 5 (lW T rfl (bA T rfl rfl rfl rfl rfl rfl (by decide) rfl (aV ?_))))|refine nZ ?_));all_goals try (exfalso;omega)
    all_goals refine ⟨.inl rfl,_,rfl,?_⟩
    all_goals exact RG o _
theorem QW (bk : Bk) (no : Int) (hl : bk.length ≤ 1000000) (h1 : ∀ o,o ∈ bk → o.tk.length ≤ 1000000 ∧ ∀ l,l ∈ o.tk → l.length ≤ 1000000) :
    eO Tryz.prog 20 [xX bk,.i no] [] (VH (mA (if no < 0 ∨ (bk.length : Int) ≤ no then [] else (bk.getD no.toNat jC).tk))) := by
  have hbl := jG bk;refine jS T Tryz.func20 rfl rfl rfl rfl ?_;by_cases hr : no < 0 ∨ (bk.length : Int) ≤ no
  · rw [if_pos hr]
    (repeat' (first|refine wS ?_|refine wR ?_|refine wT ?_|(refine wC rfl ?_ ?_<;>(intro hb;(try simp only [nm] at hb);try (exfalso;omega)))|(refine rg 0 (aV ?_))|(refine rg 1 (mW rfl (vV (bE rfl rfl) (mV ?_)));refine bP rfl rfl ?_ ?_<;>(intro hb;rw [hb];(try simp only [nm] at hb);try (exfalso;omega));(all_goals first|(refine gT (mW rfl (gT (mW rfl (gT (nV ?_)))));refine gT (fW T rfl (gT (lW T rfl (gT (qW T rfl (gT (vV (eN rfl rfl) ?_))))))))|(iterate 7 refine gF ?_));(all_goals (refine pV ?_)))|(refine rg 2 (aV ?_))|refine nZ ?_));all_goals first | (exfalso;omega) | exact ⟨.inl rfl,_,rfl,rfl,fun b hb => (nomatch hb),View.nils 1⟩
  · rw [if_neg hr];have hlt : no.toNat < bk.length := by omega
    have hg : (uW bk)[no.toNat]? = some (zU (bk.getD no.toNat jC)) := by
      rw [aD,aS,aC hlt];rfl
    have hm : bk.getD no.toNat jC ∈ bk := by
      rw [aD,aC hlt];exact aH hlt
    have hct := IG (bk.getD no.toNat jC).tk (h1 _ hm).1 (h1 _ hm).2;generalize bk.getD no.toNat jC = o at *
    (repeat' (first|refine wS ?_|refine wK ?_|refine wR ?_|(refine wC rfl ?_ ?_<;>(intro hb;(try simp only [nm] at hb);try (exfalso;omega)))|(refine rg 0 (aV ?_))|(refine rg 1 (mW rfl (vV (bE rfl rfl) (mV ?_)));refine bP rfl rfl ?_ ?_<;>(intro hb;rw [hb];(try simp only [nm] at hb);try (exfalso;omega));(all_goals (refine yN rfl (yN rfl (gT (nV ?_)));refine yP T rfl (yO T rfl (gT (qW T rfl (yV (eN rfl rfl) (pV ?_))))))))|(refine rg 3 (mW rfl (nV ?_));refine eT T rfl (mW rfl (vV (ix T rfl (by omega) (kR bk) hg) (IA T ?_)));refine AK rfl rfl hct (.cons (.row _ _ _) .nil) (fun _ _ hΦ=>hΦ.rf) rfl ?_;rintro res hout hΦ;have hΨ := hΦ.nest [];have hrf := hΦ.rf;obtain ⟨_,rfl,_⟩ := hΦ;dsimp only [fR];refine aV ?_)|refine nZ ?_));all_goals first | (exfalso;omega) | (obtain ⟨B,hn,hB⟩ := hΨ;exact ⟨.inl rfl,_,rfl,rfl,fun b hb => by
      obtain ⟨c,hc,rfl⟩ := aK.1 (by simpa using hb)
      exact .inr (zA6 _ (hrf.2 c hc)),hn.view⟩)
end Go.Proofs.YtdfmhddmddgniaaGreatDoor
namespace Go.Proofs.YtdfmhddmddgniaaGreatDoor
open Go Go.Ab Go.Or Go.Wr
theorem zL : qB Tryz.prog 4 := by unfold qB;kernel_rfl
attribute [local irreducible] VC AW bJ bI eO jT rZ nB qB
set_option maxHeartbeats 4000000
end Go.Proofs.YtdfmhddmddgniaaGreatDoor
namespace Go.Or
structure VG (o0 : Od) (m : Nat) (o : Od) : Prop where
  due : o.due = o0.due
  some : m < o0.tk.flatten.length → o.st = 1 ∧ o.tk.flatten = o0.tk.flatten.drop m
  none : o0.tk.flatten.length ≤ m → o.st = 2
theorem VG.start {o : Od} (h : pC o) (h1 : o.st = 1) : VG o 0 o :=
  ⟨rfl,fun _ => ⟨h1,rfl⟩,fun h2 => absurd (cF (by omega)) (h.ne h1)⟩
def SB : List Tk → List Bo → Option (List Bo)
  | [],bs => some bs
  | t :: l,bs => if cnt bs t.1 < t.2 then none else SB l (qE bs t.1 t.2)
end Go.Or
namespace Go.Or
open Go Go.Ab Go.Wr Go.Proofs.YtdfmhddmddgniaaGreatDoor
theorem zA0 {ts : List Tk} {q : Tk → Bool} (h : ∀ t,t ∈ ts → q t = false) : ts.any q = false := by
  rw [kP];intro t ht;rw [h t ht];simp
end Go.Or
namespace Go.Proofs.YtdfmhddmddgniaaGreatDoor
open Go Go.Ab Go.Or Go.Wr
attribute [local irreducible] VC AW bJ bI eO jT rZ nB qB
set_option maxHeartbeats 4000000
structure VL (out : List Bo) (ts : List Tk) (n : Nat) (k : Nat) (left : List Bo) : Prop where
  kl : k ≤ ts.length
  eq : SB (ts.drop k) left = some out
  len : left.length = n
  cn : ∀ b : Int,0 ≤ b → 0 ≤ cnt left b ∧ cnt left b ≤ 20000
theorem VL.next {out : List Bo} {ts : List Tk} {n k : Nat} {left : List Bo} (h : VL out ts n k left) (hk : k < ts.length) (hr : 0 ≤ ts[k].1 ∧ ts[k].1 < n) (h1 : 1 ≤ ts[k].2) : ts[k].2 ≤ cnt left ts[k].1 ∧ VL out ts n (k + 1) (qE left ts[k].1 ts[k].2) := by
  have he := h.eq;rw [aO hk,SB] at he;split at he
  · cases he
  · rename_i hc;have hl := h.len;refine ⟨by omega,hk,he,by rw [vR];exact h.len,fun b hb => ?_⟩
    rw [vS hr.1 (by omega) hb]
    have := h.cn b hb;have := h.cn _ hr.1;split <;> omega
end Go.Proofs.YtdfmhddmddgniaaGreatDoor
namespace Go.Or
theorem OZ {k : Int → Int} {x : Int} : ∀ l : List Int, (mS k x l).headD (-1) = match l with | [] => x | y :: _ => if k x < k y then x else y
  | [] => rfl
  | y :: l => by
    simp only [mS];split <;> rfl
theorem FQ {k : Int → Int} {l : List Int} {x : Int} : jZ k (l ++ [x]) = mS k x (jZ k l) := by
  unfold jZ;rw [qG];rfl
def iL (ls : List Lo) (bs : List Bo) (w : Wt) : Nat → Int
  | 0 => -1
  | n + 1 => if decide (0 < cnt bs n) && lJ ls (bs.getD n (0,0,0)) w then (if iL ls bs w n < 0 then (n : Int) else if rS ls bs n < rS ls bs (iL ls bs w n) then (n : Int) else iL ls bs w n) else iL ls bs w n
theorem OV (n : Nat) : zP (n + 1) = zP n ++ [(n : Int)] := by unfold zP;rw [CU,dI];rfl
theorem OC (ls : List Lo) (bs : List Bo) (w : Wt) (n : Nat) : oK ls bs w (n + 1) = if decide (0 < cnt bs n) && lJ ls (bs.getD n (0,0,0)) w then oK ls bs w n ++ [(n : Int)] else oK ls bs w n := by
  unfold oK;rw [OV,H8];simp only [jD,zG7,bN];split
  · rfl
  · rw [List.append_nil]
theorem wM (ls : List Lo) (bs : List Bo) (w : Wt) : ∀ n : Nat, iL ls bs w n = (jZ (rS ls bs) (oK ls bs w n)).headD (-1)
  | 0 => rfl
  | n + 1 => by
    have ih := wM ls bs w n;rw [OC];unfold iL;split
    · rw [FQ,OZ];have hnn : ∀ y,y ∈ jZ (rS ls bs) (oK ls bs w n) → 0 ≤ y := fun y hy => (vI.1 (tR.1 (sC.1 hy)).1).1;cases h : jZ (rS ls bs) (oK ls bs w n) with
      | nil =>
        rw [h] at ih;rw [ih];rfl
      | cons y l =>
        rw [h] at ih hnn;have := hnn y aL;have hy : iL ls bs w n = y := ih;rw [hy,if_neg (show ¬ y < 0 by omega)]
    · exact ih
abbrev LQ (k : Int → Int) (l : List Int) : Prop := l.Pairwise fun a b => k a ≤ k b
theorem U5 {k : Int → Int} {x : Int} : ∀ {l : List Int}, LQ k l → LQ k (mS k x l)
  | [],_ => by simp [mS,LQ]
  | y :: l,h => by
    have h' := mN.1 h;simp only [mS];split
    · rename_i hc;refine mN.2 ⟨fun z hz => ?_,h⟩
      rcases aT.1 hz with rfl | hz
      · omega
      · have := h'.1 z hz;omega
    · rename_i hc;refine mN.2 ⟨fun z hz => ?_,U5 h'.2⟩
      rcases F4.1 hz with rfl | hz
      · omega
      · exact h'.1 z hz
theorem M9 {k : Int → Int} {x : Int} (q : Int → Bool) : ∀ {l : List Int}, LQ k l → (mS k x l).filter q = if q x then mS k x (l.filter q) else l.filter q
  | [],_ => by
    simp only [mS,jD,zG7]
  | y :: l,h => by
    have h' := mN.1 h;have ih := M9 (x := x) q h'.2;simp only [mS];by_cases hc : k x < k y
    · rw [if_pos hc,jD];by_cases hx : q x = true
      · rw [if_pos hx,if_pos hx];have key : ∀ m : List Int,(∀ z,z ∈ m → k x < k z) → mS k x m = x :: m := fun m hm => by
          cases m with
          | nil => rfl
          | cons z m => simp only [mS];rw [if_pos (hm z aL)]
        rw [key _ fun z hz => ?_]
        rcases aT.1 (tR.1 hz).1 with rfl | hz
        · exact hc
        · have := h'.1 z hz;omega
      · rw [if_neg hx,if_neg hx]
    · rw [if_neg hc,jD,jD,ih];by_cases hy : q y = true
      · rw [if_pos hy,if_pos hy];by_cases hx : q x = true
        · rw [if_pos hx,if_pos hx];simp only [mS];rw [if_neg hc]
        · rw [if_neg hx,if_neg hx]
      · rw [if_neg hy,if_neg hy]
theorem PK {k : Int → Int} : ∀ {l a : List Int}, LQ k a → LQ k (l.foldl (fun a x => mS k x a) a)
  | [],_,h => h
  | x :: l,a,h => PK (l := l) (U5 h)
theorem G1 {k : Int → Int} (q : Int → Bool) : ∀ {l a : List Int}, LQ k a → (l.foldl (fun a x => mS k x a) a).filter q = (l.filter q).foldl (fun a x => mS k x a) (a.filter q)
  | [],_,_ => rfl
  | x :: l,a,h => by
    rw [lQ,G1 q (U5 h),M9 q h,jD];split
    · rw [lQ]
    · rfl
theorem DA {k : Int → Int} (q : Int → Bool) (l : List Int) : (jZ k l).filter q = jZ k (l.filter q) := G1 q .nil
theorem CF {k : Int → Int} {x : Int} : ∀ l : List Int, (mS k x l).Perm (x :: l)
  | [] => .refl _
  | y :: l => by
    simp only [mS];split
    · exact .refl _
    · exact ((CF l).cons y).trans (.swap x y l)
theorem V3 {k : Int → Int} : ∀ l a : List Int, (l.foldl (fun a x => mS k x a) a).Perm (l ++ a)
  | [],_ => .refl _
  | x :: l,a => by
    rw [lQ];exact (V3 l _).trans (((CF a).append_left l).trans List.perm_middle)
theorem KJ (ls : List Lo) (bs : List Bo) (w : Wt) : (oH ls bs w).Nodup := by
  have h1 : (oH ls bs w).Perm (oK ls bs w bs.length) := by
    have := V3 (k := rS ls bs) (oK ls bs w bs.length) [];rw [List.append_nil] at this;exact this
  refine h1.nodup_iff.2 (List.Nodup.sublist List.filter_sublist ?_);unfold zP;exact List.Pairwise.map _ (fun a b h e => h (by omega)) List.nodup_range
theorem TA {ls : List Lo} {bs : List Bo} {i n : Int} (h0 : 0 ≤ i) (h1 : i < bs.length) : rS ls (qE bs i n) = rS ls bs := by
  funext j;have := vQ (n := n) h0 h1 (j := (j.toNat : Int)) (by omega)
  rw [bN] at this;unfold rS;rw [this]
theorem XA {ls : List Lo} {bs : List Bo} {w : Wt} {i : Int} {l : List Int} (h : oH ls bs w = i :: l) : oH ls (qE bs i (cnt bs i)) w = l := by
  have hi := (sT (ls := ls) (bs := bs) (w := w) (i := i)).1 (by rw [h];exact aL)
  obtain ⟨⟨h0,h1⟩,h2,h3⟩ := hi;have hnd := KJ ls bs w;rw [h] at hnd;have hs : oK ls (qE bs i (cnt bs i)) w (qE bs i (cnt bs i)).length = (oK ls bs w bs.length).filter (fun x => !decide (x = i)) := by
    unfold oK;rw [vR,List.filter_filter];refine List.filter_congr fun x hx => ?_
    obtain ⟨x0,x1⟩ := vI.1 hx;rw [vS h0 h1 x0,vP (vQ h0 h1 x0)];by_cases e : x = i
    · subst e;simp
    · rw [if_neg e];simp [e]
  unfold oH at h ⊢;rw [TA h0 h1,hs,← DA,h,jD,if_neg (by simp)]
  refine LU.2 fun x hx => ?_
  have := (aP.1 hnd).1;simp only [nS,decide_eq_false_iff_not];intro e;exact this (e ▸ hx)
end Go.Or
namespace Go.Or
open Go Go.Ab Go.Wr Go.Proofs.YtdfmhddmddgniaaGreatDoor
theorem PM {ls : List Lo} {bs : List Bo} {w : Wt} {n : Nat} (h : 0 ≤ iL ls bs w n) : iL ls bs w n < n ∧ 0 < cnt bs (iL ls bs w n) ∧ lJ ls (bs.getD (iL ls bs w n).toNat (0,0,0)) w = true := by
  have hh := wM ls bs w n;cases ho : jZ (rS ls bs) (oK ls bs w n) with
  | nil => rw [ho] at hh;rw [hh] at h;simp at h
  | cons i l =>
    have hm : i ∈ oK ls bs w n := sC.1 (by rw [ho];exact aL)
    rw [ho] at hh;simp only [List.headD_cons] at hh;rw [hh];unfold oK at hm;rw [tR,aN,decide_eq_true_eq] at hm;exact ⟨(vI.1 hm.1).2,hm.2.1,hm.2.2⟩
theorem IB {ls : List Lo} {b : Bo} {w : Wt} (h : lJ ls b w = true) : 0 ≤ b.1 := by
  unfold lJ at h;rw [aN,decide_eq_true_eq] at h;exact h.1
theorem TY (ls : List Lo) (bs : List Bo) (w : Wt) (n : Nat) : -1 ≤ iL ls bs w n := by
  have hh := wM ls bs w n;cases ho : jZ (rS ls bs) (oK ls bs w n) with
  | nil => rw [ho] at hh;rw [hh];decide
  | cons i l =>
    have hm : i ∈ oK ls bs w n := sC.1 (by rw [ho];exact aL)
    rw [ho] at hh;simp only [List.headD_cons] at hh;have := (vI.1 (tR.1 hm).1).1;omega
end Go.Or
namespace Go.Proofs.YtdfmhddmddgniaaGreatDoor
open Go Go.Ab Go.Or Go.Wr
attribute [local irreducible] VC AW bJ bI eO jT rZ nB qB
set_option maxHeartbeats 4000000
section
variable {P : Program} {env : dD} {h : Hp} {d : Option Nat} {ty : TypeId} {pos : String} {af : Array Edge} {g : Option (Nat × Bool)} {t t2 : TypeId} {x y : Operand} {a b : Int}
theorem mM (hx : evu env x = some (.i a)) (hy : evu env y = some (.i b)) (e : a ≤ b) : bJ P ⟨d,.binOp .leq t x y t2,ty,pos,af,g⟩ env h 0 (fun _ => .b true) (fun _ => []) := by
  have := kQ (P := P) (d := d) (ty := ty) (pos := pos) (af := af) (g := g) (h := h) (t := t) (t2 := t2) hx hy
  rwa [decide_eq_true e] at this
theorem sX (hx : evu env x = some (.i a)) (hy : evu env y = some (.i b)) (e : b < a) : bJ P ⟨d,.binOp .leq t x y t2,ty,pos,af,g⟩ env h 0 (fun _ => .b false) (fun _ => []) := by
  have := kQ (P := P) (d := d) (ty := ty) (pos := pos) (af := af) (g := g) (h := h) (t := t) (t2 := t2) hx hy
  rwa [decide_eq_false (by omega : ¬ a ≤ b)] at this
end
theorem MD (w : Wt) : bI Tryz.prog 112 [.agg [.i w.1,.i w.2.1,.i w.2.2]] [] (.b (!kU w)) [] := by
  obtain ⟨a,b,c⟩ := w;refine dA T Tryz.func112 rfl rfl rfl rfl ?_
  (repeat' (first|refine wS ?_|(refine rg 0 (dQ (fE rfl rfl) rfl (aV ?_)))|refine nZ ?_));refine fK 1 (cs := [.i a,.i b,.i c]) rfl rfl rfl ?_
  by_cases h1 : a < 0
  · rw [show kU (a,b,c) = true by simp [kU,h1]]
    (repeat' (first|refine wR ?_|(refine rg 1 (eT T rfl (vV (pU rfl rfl (by omega)) (mV ?_)));(iterate 3 refine gF ?_);refine pW rfl (mV ?_);(iterate 3 refine gF ?_);refine pW rfl (mV ?_);(iterate 3 refine gF ?_);refine pW rfl (mV ?_);(iterate 3 refine gF ?_);refine pW rfl (aV ?_))|refine nZ ?_));all_goals first | (exfalso;omega) | exact rQ
  by_cases h2 : b < 1
  · rw [show kU (a,b,c) = true by simp [kU,h2]]
    (repeat' (first|refine wR ?_|(refine rg 1 (eT T rfl (vV (jN rfl rfl (by omega)) (mW rfl (yP T rfl (yO T rfl (yV (pU rfl rfl (by omega)) (pW rfl (mV ?_))))))));(iterate 3 refine gF ?_);refine pW rfl (mV ?_);(iterate 3 refine gF ?_);refine pW rfl (mV ?_);(iterate 3 refine gF ?_);refine pW rfl (aV ?_))|refine nZ ?_));all_goals first | (exfalso;omega) | exact rQ
  by_cases h3 : 20000 < b
  · rw [show kU (a,b,c) = true by simp [kU,h3]]
    (repeat' (first|refine wR ?_|(refine rg 1 (eT T rfl (vV (jN rfl rfl (by omega)) (mW rfl (yP T rfl (yO T rfl (yV (jN rfl rfl (by omega)) (pW rfl (mW rfl (yF T ?_)))))))));refine yO T rfl (yV (sX rfl rfl (by omega)) (pW rfl (mV ?_)));(iterate 3 refine gF ?_);refine pW rfl (mV ?_);(iterate 3 refine gF ?_);refine pW rfl (aV ?_))|refine nZ ?_));all_goals first | (exfalso;omega) | exact rQ
  by_cases h4 : c < 0
  · rw [show kU (a,b,c) = true by simp [kU,h4]]
    (repeat' (first|refine wR ?_|(refine rg 1 (eT T rfl (vV (jN rfl rfl (by omega)) (mW rfl (yP T rfl (yO T rfl (yV (jN rfl rfl (by omega)) (pW rfl (mW rfl (yF T ?_)))))))));refine yO T rfl (yV (mM rfl rfl (by omega)) (pW rfl (mW rfl (yP T rfl (yO T rfl (yV (pU rfl rfl (by omega)) (pW rfl (mV ?_))))))));(iterate 3 refine gF ?_);refine pW rfl (aV ?_))|refine nZ ?_));all_goals first | (exfalso;omega) | exact rQ
  by_cases h5 : 20000 < c
  · rw [show kU (a,b,c) = true by simp [kU,h5]]
    (repeat' (first|refine wR ?_|(refine rg 1 (eT T rfl (vV (jN rfl rfl (by omega)) (mW rfl (yP T rfl (yO T rfl (yV (jN rfl rfl (by omega)) (pW rfl (mW rfl (yF T ?_)))))))));refine yO T rfl (yV (mM rfl rfl (by omega)) (pW rfl (mW rfl (yP T rfl (yO T rfl (yV (jN rfl rfl (by omega)) (pW rfl (mW rfl (yF T ?_)))))))));refine yO T rfl (yV (sX rfl rfl (by omega)) (pW rfl (aV ?_))))|refine nZ ?_));all_goals first | (exfalso;omega) | exact rQ
  · rw [show kU (a,b,c) = false by simp [kU,h1,h2,h3,h4,h5]]
    (repeat' (first|refine wR ?_|(refine rg 1 (eT T rfl (vV (jN rfl rfl (by omega)) (mW rfl (yP T rfl (yO T rfl (yV (jN rfl rfl (by omega)) (pW rfl (mW rfl (yF T ?_)))))))));refine yO T rfl (yV (mM rfl rfl (by omega)) (pW rfl (mW rfl (yP T rfl (yO T rfl (yV (jN rfl rfl (by omega)) (pW rfl (mW rfl (yF T ?_)))))))));refine yO T rfl (yV (mM rfl rfl (by omega)) (pW rfl (aV ?_))))|refine nZ ?_));all_goals first | (exfalso;omega) | exact rQ
theorem WQ (l : Lo) (w : Wt) : bI Tryz.prog 91 [.agg [.i l.1,.i l.2.1,.b l.2.2],.agg [.i w.1,.i w.2.1,.i w.2.2]] [] (.b (CN l w)) [] := by
  obtain ⟨a,b,c⟩ := l;obtain ⟨x,y,z⟩ := w;refine dA T Tryz.func91 rfl rfl rfl rfl ?_
  (repeat' (first|refine wS ?_|(refine rg 0 (dQ (fE rfl rfl) rfl (dQ (fE rfl rfl) rfl (aV ?_))))|refine nZ ?_));refine fK 2 (cs := [.i a,.i b,.b c]) rfl rfl rfl ?_
  refine fK 3 (cs := [.i x,.i y,.i z]) rfl rfl rfl ?_;unfold CN;by_cases h1 : a = x
  · cases c with
    | false =>
      (repeat' (first|refine wR ?_|(refine rg 1 (eT T rfl (eT T rfl (vV (lS rfl rfl h1) (mW rfl (yP T rfl (yO T rfl (yV (cV rfl) (pW rfl (mV ?_)))))))));refine yP T rfl (yO T rfl (yP T rfl (yO T rfl (yV (eN rfl rfl) (pW rfl (aV ?_)))))))|refine nZ ?_));all_goals first | (exfalso;omega) | exact eP (.inl rfl) rfl (by simp [h1];rfl)
    | true =>
      (repeat' (first|refine wR ?_|(refine rg 1 (eT T rfl (eT T rfl (vV (lS rfl rfl h1) (mW rfl (yP T rfl (yO T rfl (yV (cV rfl) (pW rfl (mV ?_)))))))));(iterate 5 refine gF ?_);refine pW rfl (aV ?_))|refine nZ ?_));all_goals first | (exfalso;omega) | exact eP (.inl rfl) rfl (by simp [h1];rfl)
  · (repeat' (first|refine wR ?_|(refine rg 1 (eT T rfl (eT T rfl (vV (oT rfl rfl h1) (mV ?_))));(iterate 3 refine gF ?_);refine pW rfl (mV ?_);(iterate 5 refine gF ?_);refine pW rfl (aV ?_))|(refine nZ ?_)));all_goals first | (exfalso;omega) | exact eP (.inl rfl) rfl (by simp [h1];rfl)
theorem RP (ls : List Lo) (b : Bo) (w : Wt) (hl : ls.length ≤ 1000000) (hb : b.1 < ls.length) : bI Tryz.prog 35 [.rowE (iX ls) 3,.agg [.i b.1,.i b.2.1,.i b.2.2],.agg [.i w.1,.i w.2.1,.i w.2.2]] [] (.b (lJ ls b w)) [] := by
  have hll := pJ ls;refine dA T Tryz.func35 rfl rfl rfl rfl ?_
  (repeat' (first|refine wS ?_|(refine rg 0 (dQ (fE rfl rfl) rfl (dQ (fE rfl rfl) rfl (aV ?_))))|refine nZ ?_));refine fK 4 (cs := [.i b.1,.i b.2.1,.i b.2.2]) rfl rfl rfl ?_
  refine fK 5 (cs := [.i w.1,.i w.2.1,.i w.2.2]) rfl rfl rfl ?_;unfold lJ;by_cases h0 : b.1 < 0
  · rw [show decide (0 ≤ b.1) = false by simp;omega]
    (repeat' (first|refine wS ?_|refine wR ?_|refine wT ?_|(refine rg 1 (eT T rfl (vV (cJ rfl rfl (by omega)) (mV ?_)));(iterate 5 refine gF ?_);refine pV ?_)|(refine rg 2 (aV ?_))|refine nZ ?_));all_goals first | (exfalso;omega) | exact rQ
  · rw [show decide (0 ≤ b.1) = true by simp;omega]
    have hg := MS (l := ls) (j := b.1) (by omega) hb
    have hf := WQ (ls.getD b.1.toNat (0,0,false)) w;generalize ls.getD b.1.toNat (0,0,false) = lo at *
    (repeat' (first|refine wS ?_|refine wK ?_|refine wR ?_|refine wU ?_|(refine rg 1 (eT T rfl (vV (cX rfl rfl (by omega)) (mW rfl (yP T rfl (yO T rfl (yN rfl (gT (qW T rfl (yV (pU rfl rfl (by omega)) ?_)))))))));refine pV ?_)|(refine cS (id := 3) 24 [[],[],[1],[0,1,2],rN 4,[],rN 6] (rM 17 7) [[],[17],[17],[],[],rM 17 5,[]] dZ rfl (by decide +kernel) (dN rfl (dP T rfl (dO T rfl (dV rfl (ix T rfl (by omega) (pA _) hg) (dO T rfl (dO T rfl (dV rfl (kC (hf)) (dE ?_))))))));refine aV ?_)|refine nZ ?_));all_goals first | (exfalso;omega) | exact rQ
theorem zI5 (n : Int) : bI Tryz.prog 195 [.nils,.i n] [] (.b false) [] := by
  refine dA T Tryz.func195 rfl rfl rfl rfl ?_
  (repeat' (first|refine wS ?_|refine wB ?_|(refine rg 0 (aV ?_))|(refine rg 1 (aV ?_))|refine nZ ?_));refine dR (X := Unit) (fun _ => [(0,.nils),(1,.i n),(5,.i 0)]) (fun _ => []) (fun _ => 0) () ⟨[],rfl,by (repeat (first | exact trivial | refine ⟨rfl,?_⟩)),trivial,aI,iK _⟩ ?_
  rintro ⟨⟩
  (repeat' (first|refine wS ?_|refine wR ?_|refine wE ?_|refine wU ?_|(refine rg 2 (dS rfl (vV (PG T rfl rfl) (vV (cX rfl rfl (by decide)) ?_))))|(refine rg 6 (aV ?_))|refine nZ ?_));all_goals first | (exfalso;omega) | exact rQ
theorem RQ (ls : List Lo) (bs : List Bo) (w : Wt) (hl : ls.length ≤ 1000000) (hb : bs.length ≤ 1000000) (hk : yS ls bs) (hc : ∀ b : Int,0 ≤ b → 0 ≤ cnt bs b) :
    bI Tryz.prog 141 [.rowE (iX ls) 3,.rowE (eY bs) 3,.agg [.i w.1,.i w.2.1,.i w.2.2],.nils] [] (.i (iL ls bs w bs.length)) [] := by
  have hll := pJ ls;have hbl := fM bs;refine dA T Tryz.func141 rfl rfl rfl rfl ?_
  (repeat' (first|refine wS ?_|(refine rg 0 (dQ (fE rfl rfl) rfl (aV ?_)))|refine nZ ?_));refine fK 6 (cs := [.i w.1,.i w.2.1,.i w.2.2]) rfl rfl rfl ?_
  (repeat' (first|refine wS ?_|refine wB ?_|(refine rg 1 (aV ?_))|(refine rg 2 (aV ?_))|refine nZ ?_));refine dR (X := {k : Nat // k ≤ bs.length}) (fun k => [(0,.rowE (iX ls) 3),(1,.rowE (eY bs) 3),(3,.nils),(6,.pr [.i w.1,.i w.2.1,.i w.2.2] 0),(9,.i (iL ls bs w k.1)),(10,.i (k.1 : Int))]) (fun _ => []) (fun k => bs.length - k.1) ⟨0,bG _⟩ ⟨[],rfl,by (repeat (first | exact trivial | refine ⟨rfl,?_⟩)),trivial,aI,iK _⟩ ?_
  rintro ⟨k,hk2⟩;dsimp only;by_cases hlt : k < bs.length
  · have hg : (eY bs)[(k : Int).toNat]? = some [AV.i (bs.getD k (0,0,0)).1,AV.i (cnt bs k),AV.i (bs.getD k (0,0,0)).2.2] := zN hlt;have hlk := hk k hlt;have hh := RP ls (bs.getD k (0,0,0)) w hl hlk.2;have hin := zI5 k;have hcn := hc k (by omega)
    have hcc : (bs.getD k (0,0,0)).2.1 = cnt bs k := rfl;rw [hcc] at hh;have hge := TY ls bs w k;have hmem := fun h => PM (ls := ls) (bs := bs) (w := w) (n := k) h;have hnx : iL ls bs w (k + 1) = if decide (0 < cnt bs k) && lJ ls (bs.getD k (0,0,0)) w then (if iL ls bs w k < 0 then (k : Int) else if rS ls bs k < rS ls bs (iL ls bs w k) then (k : Int) else iL ls bs w k) else iL ls bs w k := rfl
    have hkn : bs.getD (k : Int).toNat (0,0,0) = bs.getD k (0,0,0) := by rw [bN]
    have hky : rS ls bs k = (ls.getD (bs.getD k (0,0,0)).1.toNat (0,0,false)).2.1 := by unfold rS;rw [hkn]
    generalize hq : bs.getD k (0,0,0) = bx at *;cases hfb : lJ ls bx w with
    | false =>
      rw [hfb] at hh hnx;rw [Bool.and_false,if_neg (by simp)] at hnx
      generalize iL ls bs w k = m at *
      (repeat' (first|refine wS ?_|refine wB ?_|refine wK ?_|refine wE ?_|refine wT ?_|(refine rg 3 (dS rfl (qW T rfl (vV (cJ rfl rfl (by omega)) ?_))))|(refine cS (id := 5) 62 zT1 (rM 17 21) zT2 dZ rfl (by decide +kernel) (dN rfl (dN rfl (dN rfl (dV rfl (ix T rfl (by omega) (fZ _) hg) (dO T rfl (dO T rfl (dV rfl (kC (hh)) (dV rfl (cV rfl) (dM ?_)))))))));refine tG rfl (tG rfl (tG rfl (tG rfl (tG rfl (tG rfl (dV rfl (kM rfl rfl) (dN rfl (tG rfl (dG ?_)))))))));refine tG rfl (dV rfl (kM rfl rfl) (dE ?_)))|(refine iA 4 rfl rfl rfl (by omega) (by omega) ?_)|refine nZ ?_));all_goals try (exfalso;omega)
      all_goals exact ⟨⟨k + 1,hlt⟩,by dsimp only;omega,[],rfl,by dsimp only;rw [hnx];(repeat (first | exact trivial | refine ⟨rfl,?_⟩)),trivial,aI,iK _⟩
    | true =>
      rw [hfb] at hh hnx;have hlo := IB hfb;have hgl := MS (l := ls) (j := bx.1) hlo hlk.2;rw [← hky] at hgl;by_cases hc0 : cnt bs k = 0
      · rw [decide_eq_false (by omega),jQ,if_neg (by simp)] at hnx
        generalize iL ls bs w k = m at *
        (repeat' (first|refine wS ?_|refine wB ?_|refine wK ?_|refine wE ?_|refine wT ?_|(refine rg 3 (dS rfl (qW T rfl (vV (cJ rfl rfl (by omega)) ?_))))|(refine cS (id := 5) 62 zT1 (rM 17 21) zT2 dZ rfl (by decide +kernel) (dN rfl (dN rfl (dN rfl (dV rfl (ix T rfl (by omega) (fZ _) hg) (dO T rfl (dO T rfl (dV rfl (kC (hh)) (dV rfl (cV rfl) (dM ?_)))))))));refine tN rfl (tN rfl (dT rfl (ix T rfl (by omega) (fZ _) hg) (tP T rfl (tO T rfl (dT rfl (lS rfl rfl (by omega)) (dV rfl (fS rfl rfl) (dN rfl (tG rfl (dG ?_)))))))));refine tG rfl (dV rfl (kM rfl rfl) (dE ?_)))|(refine iA 4 rfl rfl rfl (by omega) (by omega) ?_)|refine nZ ?_));all_goals try (exfalso;omega)
        all_goals exact ⟨⟨k + 1,hlt⟩,by dsimp only;omega,[],rfl,by dsimp only;rw [hnx];(repeat (first | exact trivial | refine ⟨rfl,?_⟩)),trivial,aI,iK _⟩
      · rw [decide_eq_true (by omega),kK,if_pos rfl] at hnx
        by_cases hm0 : iL ls bs w k < 0
        · rw [if_pos hm0] at hnx;generalize rS ls bs k = ky at *;generalize iL ls bs w k = m at *
          (repeat' (first|refine wS ?_|refine wB ?_|refine wK ?_|refine wT ?_|refine wU ?_|(refine rg 3 (dS rfl (qW T rfl (vV (cJ rfl rfl (by omega)) ?_))))|(refine cS (id := 5) 62 zT1 (rM 17 21) zT2 dZ rfl (by decide +kernel) (dN rfl (dN rfl (dN rfl (dV rfl (ix T rfl (by omega) (fZ _) hg) (dO T rfl (dO T rfl (dV rfl (kC (hh)) (dV rfl (cV rfl) (dM ?_)))))))));refine tN rfl (tN rfl (dT rfl (ix T rfl (by omega) (fZ _) hg) (tP T rfl (tO T rfl (dT rfl (oT rfl rfl (by omega)) (dV rfl (fS rfl rfl) (dN rfl (tN rfl (tM ?_)))))))));refine dT rfl (kC (hin)) (dV rfl (fS rfl rfl) (dE ?_)))|(refine rg 6 (mW rfl (vV (cJ rfl rfl (by omega)) ?_)))|(refine rg 7 (mW rfl (aV ?_)))|(refine cS (id := 8) 62 zS1 (rM 41 19) zT3 dZ rfl (by decide +kernel) (dN rfl (dN rfl (dN rfl (dV rfl (ix T rfl (by omega) (fZ _) hg) (dP T rfl (dO T rfl (dV rfl (ix T rfl (by omega) (pA _) hgl) (dP T rfl (dL T ?_)))))))));refine dN rfl (dN rfl (dN rfl (dV rfl (ix T rfl (by omega) (fZ _) hg) (dP T rfl (dO T rfl (dV rfl (ix T rfl (by omega) (pA _) hgl) (dP T rfl (dO T rfl (dV rfl (cX rfl rfl (by omega)) ?_)))))))));refine dE ?_)|(refine iA 4 rfl rfl rfl (by omega) (by omega) ?_)|refine nZ ?_));all_goals try (exfalso;omega)
          all_goals exact ⟨⟨k + 1,hlt⟩,by dsimp only;omega,[],rfl,by dsimp only;rw [hnx];(repeat (first | exact trivial | refine ⟨rfl,?_⟩)),trivial,aI,iK _⟩
        · rw [if_neg hm0] at hnx;obtain ⟨m1,m2,m3⟩ := hmem (by omega)
          have hgm := UM (l := bs) (j := iL ls bs w k) (by omega) (by omega)
          have hlm := hk (iL ls bs w k).toNat (by omega)
          have hlo2 := IB m3;have hgl2 := MS (l := ls) (j := (bs.getD (iL ls bs w k).toNat (0,0,0)).1) hlo2 hlm.2;rw [show (ls.getD (bs.getD (iL ls bs w k).toNat (0,0,0)).1.toNat (0,0,false)).2.1 = rS ls bs (iL ls bs w k) from rfl] at hgl2
          generalize rS ls bs (iL ls bs w k) = km at *;generalize rS ls bs k = ky at *;generalize bs.getD (iL ls bs w k).toNat (0,0,0) = bm at *;generalize iL ls bs w k = m at *;by_cases hcmp : ky < km
          · rw [if_pos hcmp] at hnx
            (repeat' (first|refine wS ?_|refine wB ?_|refine wK ?_|refine wT ?_|refine wU ?_|(refine rg 3 (dS rfl (qW T rfl (vV (cJ rfl rfl (by omega)) ?_))))|(refine cS (id := 5) 62 zT1 (rM 17 21) zT2 dZ rfl (by decide +kernel) (dN rfl (dN rfl (dN rfl (dV rfl (ix T rfl (by omega) (fZ _) hg) (dO T rfl (dO T rfl (dV rfl (kC (hh)) (dV rfl (cV rfl) (dM ?_)))))))));refine tN rfl (tN rfl (dT rfl (ix T rfl (by omega) (fZ _) hg) (tP T rfl (tO T rfl (dT rfl (oT rfl rfl (by omega)) (dV rfl (fS rfl rfl) (dN rfl (tN rfl (tM ?_)))))))));refine dT rfl (kC (hin)) (dV rfl (fS rfl rfl) (dE ?_)))|(refine rg 6 (mW rfl (vV (cX rfl rfl (by omega)) ?_)))|(refine cS (id := 8) 62 zS1 (rM 41 19) zT3 dZ rfl (by decide +kernel) (dN rfl (dN rfl (dN rfl (dV rfl (ix T rfl (by omega) (fZ _) hg) (dP T rfl (dO T rfl (dV rfl (ix T rfl (by omega) (pA _) hgl) (dP T rfl (dL T ?_)))))))));refine dN rfl (dN rfl (dN rfl (dV rfl (ix T rfl (by omega) (fZ _) hgm) (dP T rfl (dO T rfl (dV rfl (ix T rfl (by omega) (pA _) hgl2) (dP T rfl (dO T rfl (dV rfl (cJ rfl rfl (by omega)) ?_)))))))));refine dE ?_)|(refine rg 9 (mW rfl (aV ?_)))|(refine iA 4 rfl rfl rfl (by omega) (by omega) ?_)|refine nZ ?_));all_goals try (exfalso;omega)
            all_goals exact ⟨⟨k + 1,hlt⟩,by dsimp only;omega,[],rfl,by dsimp only;rw [hnx];(repeat (first | exact trivial | refine ⟨rfl,?_⟩)),trivial,aI,iK _⟩
          · rw [if_neg hcmp] at hnx
            (repeat' (first|refine wS ?_|refine wB ?_|refine wK ?_|refine wT ?_|refine wU ?_|(refine rg 3 (dS rfl (qW T rfl (vV (cJ rfl rfl (by omega)) ?_))))|(refine cS (id := 5) 62 zT1 (rM 17 21) zT2 dZ rfl (by decide +kernel) (dN rfl (dN rfl (dN rfl (dV rfl (ix T rfl (by omega) (fZ _) hg) (dO T rfl (dO T rfl (dV rfl (kC (hh)) (dV rfl (cV rfl) (dM ?_)))))))));refine tN rfl (tN rfl (dT rfl (ix T rfl (by omega) (fZ _) hg) (tP T rfl (tO T rfl (dT rfl (oT rfl rfl (by omega)) (dV rfl (fS rfl rfl) (dN rfl (tN rfl (tM ?_)))))))));refine dT rfl (kC (hin)) (dV rfl (fS rfl rfl) (dE ?_)))|(refine rg 6 (mW rfl (vV (cX rfl rfl (by omega)) ?_)))|(refine cS (id := 8) 62 zS1 (rM 41 19) zT3 dZ rfl (by decide +kernel) (dN rfl (dN rfl (dN rfl (dV rfl (ix T rfl (by omega) (fZ _) hg) (dP T rfl (dO T rfl (dV rfl (ix T rfl (by omega) (pA _) hgl) (dP T rfl (dL T ?_)))))))));refine dN rfl (dN rfl (dN rfl (dV rfl (ix T rfl (by omega) (fZ _) hgm) (dP T rfl (dO T rfl (dV rfl (ix T rfl (by omega) (pA _) hgl2) (dP T rfl (dO T rfl (dV rfl (cX rfl rfl (by omega)) ?_)))))))));refine dE ?_)|(refine iA 4 rfl rfl rfl (by omega) (by omega) ?_)|refine nZ ?_));all_goals try (exfalso;omega)
            all_goals exact ⟨⟨k + 1,hlt⟩,by dsimp only;omega,[],rfl,by dsimp only;rw [hnx];(repeat (first | exact trivial | refine ⟨rfl,?_⟩)),trivial,aI,iK _⟩
  · obtain rfl : k = bs.length := by omega
    (repeat' (first|refine wS ?_|refine wR ?_|refine wE ?_|refine wU ?_|(refine rg 3 (dS rfl (qW T rfl (vV (cX rfl rfl (by omega)) ?_))))|(refine rg 10 (mW rfl (aV ?_)))|refine nZ ?_));all_goals first | (exfalso;omega) | exact rQ
end Go.Proofs.YtdfmhddmddgniaaGreatDoor
namespace Go.Or
open Go Go.Ab Go.Wr Go.Proofs.YtdfmhddmddgniaaGreatDoor
theorem NR.start2 {ls : List Lo} {bs : List Bo} {ws : List Wt} {k : Nat} {left : List Bo} {N : List (Nat × List Tk)} {p : Nat} {X : Hp} {ord : List Int} {w : Wt} (h : L6 ls bs ws k left N p X) (hw : 0 ≤ w.2.1 ∧ w.2.1 ≤ 20000) :
    NR left ord w.2.1 N p (X ++ [.arr [] 2]) 0 left [] w.2.1 X.length := by
  have hnd := h.nd;simp only [aP,aT,not_or] at hnd;obtain ⟨⟨a1,a3⟩,a4,a5⟩ := hnd;have hpl := (aA.1 h.hp).1;have h0l := (aA.1 h.h0).1;have hnl : ∀ e,e ∈ N → e.1 < X.length := fun e he => by
    have h1 := h.hn e he;exact (aA.1 h1).1
  refine ⟨bG _,by simp,rfl,h.nn,fun b hb => rfl,hw,aU _,bL h.h0,bL h.hp,h.hn.more fun e he b hb => bL hb,bY,?_,wG h.rf (uP rfl)⟩
  simp only [aP,aT,not_or];refine ⟨⟨a1,by omega,a3⟩,⟨by omega,a4⟩,fun hm => ?_,a5⟩
  obtain ⟨e,he,e1⟩ := aK.1 hm;have := hnl e he;omega
theorem PC {l : List Int} {j : Nat} (h : j < l.length) : (l.drop j).headD (-1) = l[j] := by
  rw [aO h];rfl
end Go.Or
namespace Go.Proofs.YtdfmhddmddgniaaGreatDoor
open Go Go.Ab Go.Or Go.Wr
attribute [local irreducible] VC AW bJ bI eO jT rZ nB qB
set_option maxHeartbeats 4000000
theorem WP (ls : List Lo) (bs : List Bo) (ws : List Wt) (hl : ls.length ≤ 1000000) (hb : bs.length ≤ 20) (hk : yS ls bs) (hw : ws.length ≤ 1000) (hc : ∀ b : Int,0 ≤ b → 0 ≤ cnt bs b ∧ cnt bs b ≤ 20000) :
    eO Tryz.prog 100 [.rowE (iX ls) 3,.rowE (eY bs) 3,.rowE (bV ws) 3] [] (ZS ls bs ws) := by
  have hbb := fM bs;have hww := gD ws;refine jS T Tryz.func100 rfl rfl rfl rfl ?_
  (repeat' (first|refine wS ?_|refine wB ?_|(refine rg 0 (kJ ?_))|(refine rg 1 (aV ?_))|refine nZ ?_));refine dR (X := {k : Nat // k ≤ ws.length ∧ ∀ w,w ∈ ws.take k → kU w = false}) (fun k => [(0,.rowE (iX ls) 3),(1,.rowE (eY bs) 3),(2,.rowE (bV ws) 3),(8,.i (k.1 : Int))]) (fun _ => []) (fun k => ws.length - k.1) ⟨0,bG _,fun w hw => by simp at hw⟩ ⟨[],rfl,by (repeat (first | exact trivial | refine ⟨rfl,?_⟩)),trivial,aI,iK _⟩ ?_
  rintro ⟨k,hk1,hk2⟩;dsimp only;by_cases hlt : k < ws.length
  · have hg := yX hlt;have hr := MD ws[k];have htk : ∀ w,w ∈ ws.take (k + 1) → kU ws[k] = false → kU w = false := fun w hm hb => by
      rw [bB hlt] at hm;rcases bH.1 hm with hm | hm
      · exact hk2 w hm
      · rw [bK.1 hm];exact hb
    have hany : kU ws[k] = true → ws.any kU = true := fun h => jE.2 ⟨_,aH hlt,h⟩
    generalize ws[k] = w at *;cases hbw : kU w with
    | true =>
      rw [hbw] at hr;have hbad := hany hbw
      (repeat' (first|refine wS ?_|refine wB ?_|refine wK ?_|refine wR ?_|refine wT ?_|(refine rg 2 (dS rfl (qW T rfl (vV (cJ rfl rfl (by omega)) ?_))))|(refine rg 4 (dS rfl (vV (ix T rfl (by omega) (jW _) hg) (lW T rfl (vV (kC (hr)) (vV (cV rfl) ?_))))))|(refine rg 5 (kJ ?_))|refine nZ ?_));all_goals first | (exfalso;omega) | exact ⟨.inl rfl,_,rfl,.nils,[],by unfold oM;rw [if_pos hbad];rfl,.inl ⟨rfl,by unfold oM;rw [if_pos hbad],rfl⟩,rfl,fun b hb => by cases hb⟩
    | false =>
      rw [hbw] at hr
      (repeat' (first|refine wS ?_|refine wB ?_|refine wK ?_|refine wT ?_|refine wU ?_|(refine rg 2 (dS rfl (qW T rfl (vV (cJ rfl rfl (by omega)) ?_))))|(refine rg 4 (dS rfl (vV (ix T rfl (by omega) (jW _) hg) (lW T rfl (vV (kC (hr)) (vV (cV rfl) ?_))))))|(refine iA 3 rfl rfl rfl (by omega) (by omega) ?_)|refine nZ ?_));all_goals first | (exfalso;omega) | exact ⟨⟨k + 1,hlt,fun w hm => htk w hm hbw⟩,by dsimp only;omega,[],rfl,by (repeat (first | exact trivial | refine ⟨rfl,?_⟩)),trivial,aI,iK _⟩
  rw [aQ (by omega)] at hk2
  have hbad : ws.any kU = false := by
    rw [kP];intro w hw;rw [hk2 w hw];simp
  have hpf : oM ls bs ws = match qF ls bs ws with
    | none => (22,[])
    | some t => (0,t) := by unfold oM;rw [if_neg (by rw [hbad];simp)];rfl
  clear hk2
  (repeat' (first|refine wS ?_|refine wE ?_|refine wU ?_|(refine rg 2 (dS rfl (qW T rfl (vV (cX rfl rfl (by omega)) ?_))))|(refine rg 6 (dQ (by exact bO T rfl rfl (by decide) (by decide) rfl rfl rfl) rfl ?_);refine mW rfl (fH T rfl rfl rfl rfl rfl rfl (by decide) (.row (fZ bs)) (LL bs) (by simp;omega) (by simp;omega) rfl ?_);refine aV ?_)|(refine rg 7 (aV ?_))|refine nZ ?_));all_goals try (exfalso;omega)
  refine pY 10 1 rfl (by decide) ?_
  (repeat' (first|refine wB ?_|(refine rg 8 (aV ?_))|refine nZ ?_));refine UN (env' := [(0,.rowE (iX ls) 3),(2,.rowE (bV ws) 3),(9,.sl 0 0 bs.length 3),(10,.sl 1 0 0 1),(11,.i 0)]) (h' := [.arr (eY bs) 3,.arr [] 1]) ⟨[1,2],rfl,⟨rfl,rfl,by rw [show bs.length = 0 + (eY bs).length by rw [hbb,Nat.zero_add]];rfl,rfl,rfl,trivial⟩,⟨.inr (bM rfl rfl (uV _)),.inr rfl,trivial⟩,by decide,iK _⟩ ?_
  refine lK (X := {x : Nat × List Bo × List (Nat × List Tk) × Nat × Hp // L6 ls bs ws x.1 x.2.1 x.2.2.1 x.2.2.2.1 x.2.2.2.2}) (fun x => [(0, .rowE (iX ls) 3), (2, .rowE (bV ws) 3), (9, .sl 0 0 bs.length 3), (10, .sl x.1.2.2.2.1 0 x.1.1 1), (11, .i (x.1.1 : Int))]) (fun x => x.1.2.2.2.2) (fun x => ws.length - x.1.1)
    ⟨(0,bs,[],1,[.arr (eY bs) 3,.arr [] 1]),⟨bG _,by simp,rfl,rfl,hc,fun b hb => rfl,rfl,rfl,fun e he => (by cases he),(by simp),wG (uP (xR bs)) (uP rfl)⟩⟩ (mP.of rfl (by repeat first|exact trivial|refine ⟨rfl,?_⟩)) ?_
  rintro ⟨⟨k,left,N,p,X⟩,ho⟩;dsimp only at ho ⊢;have hnl := ho.nl;subst hnl;by_cases hlt : N.length < ws.length
  · have hg := yX hlt;have hwb := NH hbad (aH hlt);have hin := NR.start2 (ord := oH ls left ws[N.length]) (w := ws[N.length]) ho hwb;have hlk : ∀ left' : List Bo,left'.length = left.length → (∀ b : Int,0 ≤ b → (left'.getD b.toNat (0,0,0)).1 = (left.getD b.toNat (0,0,0)).1) → yS ls left' := fun left' e1 e2 i hi => by
      have h0 := e2 i (by omega)
      have h1 := ho.lot i (by omega)
      rw [bN] at h0 h1;rw [h0,h1];exact hk i (by rw [← ho.len,← e1];exact hi)
    have hom : ∀ i,i ∈ oH ls left ws[N.length] → 0 ≤ i ∧ i < left.length := fun i hi => (sT.1 hi).1;have hol := GN (ls := ls) (bs := left) (w := ws[N.length]);have hleft := ho.len;have nx := @L6.next ls bs ws N.length left N p X ho hlt
    have fl := @L6.fail ls bs ws N.length left N p X ho hlt;have hor : 0 < ws[N.length].2.1 → oH ls left ws[N.length] = (oH ls left ws[N.length]).drop 0 := fun _ => rfl
    generalize ws[N.length] = w at *;generalize hord : oH ls left w = ord at *
    (repeat' (first|refine wS ?_|refine wB ?_|refine wK ?_|refine wT ?_|(refine rg 9 (dS rfl (qW T rfl (vV (cJ rfl rfl (by omega)) ?_))))|(refine rg 11 (aV ?_))|refine nZ ?_));all_goals try (exfalso;omega)
    refine pY 12 2 rfl (by decide) ?_
    (repeat' (first|refine wS ?_|refine wB ?_|(refine rg 12 (dS rfl (vV (ix T rfl (by omega) (jW ws) hg) (eT T rfl (aV ?_)))))|refine nZ ?_));all_goals try (exfalso;omega)
    refine lK (X := {x : Nat × List Bo × List Tk × Int × Nat × Hp // NR left ord w.2.1 N p x.2.2.2.2.2 x.1 x.2.1 x.2.2.1 x.2.2.2.1 x.2.2.2.2.1 ∧ (0 < x.2.2.2.1 → oH ls x.2.1 w = ord.drop x.1)}) (fun x => [(0, .rowE (iX ls) 3), (2, .rowE (bV ws) 3), (9, .sl 0 0 bs.length 3), (10, .sl p 0 N.length 1), (11, .i (N.length : Int)), (12, .sl x.1.2.2.2.2.1 0 x.1.2.2.1.length 2), (13, .i x.1.2.2.2.1)]) (fun x => x.1.2.2.2.2.2) (fun x => ord.length - x.1.1)
      ⟨(0,left,[],w.2.1,_,_),hin,fun h => by rw [hord];rfl⟩ (mP.of rfl (by repeat first|exact trivial|refine ⟨rfl,?_⟩)) ?_
    clear hin;rintro ⟨⟨j,left',tk,need,q,Y⟩,g,gor⟩;dsimp only at g gor ⊢;have hll := g.len;have hn0 := g.n0;have htl := g.tl;by_cases hn : 0 < need
    · have gor := gor hn;have hlk2 := hlk left' hll g.lot;have hfr := RQ ls left' w hl (by omega) hlk2 fun b hb => (g.nn b hb).1
      have hfh : iL ls left' w left'.length = (oH ls left' w).headD (-1) := wM ls left' w left'.length;rw [gor] at hfh;have g0 := g.h0;have vl := wD (n := bs.length) g0 (by rw [fM];omega) (EH _)
      by_cases hj : j < ord.length
      · rw [PC hj] at hfh;rw [hfh] at hfr;have hjm : ord[j] ∈ oH ls left' w := by rw [gor,aO hj];exact aL
        obtain ⟨⟨i0,i1⟩,i2,_⟩ := sT.1 hjm;have hm : min need (cnt left' ord[j]) ≠ 0 := by omega
        have gn := g.next hj hom hm
        have gor2 : 0 < need - min need (cnt left' ord[j]) → oH ls (qE left' ord[j] (min need (cnt left' ord[j]))) w = ord.drop (j + 1) := fun h => by
          rw [aO hj] at gor;have e1 : min need (cnt left' ord[j]) = cnt left' ord[j] := by omega
          rw [e1];exact XA gor
        have hbo := P8 (bs := left') i0 (by omega)
        have hcc := g.nn _ i0;have gq := g.hq;have hds := NF (bs := left') (j := ord[j]) (n := min need (cnt left' ord[j]));have hnd := g.nd;simp only [aP,aT,not_or] at hnd;have n0q : 0 ≠ q := fun e => hnd.1.2.1 e
        have hta := I5 tk (ord[j],min need (cnt left' ord[j]));dsimp only at hta;clear hlk hlk2 gor hfh hjm nx fl hom;generalize ord[j] = i at *;generalize (left'.getD i.toNat (0,0,0)).1 = x1 at *;generalize (left'.getD i.toNat (0,0,0)).2.2 = x3 at *;generalize qE left' i (min need (cnt left' i)) = left2 at *;generalize cnt left' i = c at *
        (repeat' (first|refine wS ?_|refine wB ?_|refine wK ?_|refine wT ?_|refine wU ?_|(refine rg 13 (mW rfl (vV (iE rfl rfl (by omega)) ?_)))|(refine rg 14 (dS rfl (dS rfl (vV (ix T rfl (by omega) (jW ws) hg) (vV (aX T rfl rfl rfl rfl) (vV (by exact cM rfl rfl hfr (.cons (.row _ _ _) (.cons vl (.cons (wA _ rfl) (.cons (.v _) .nil)))) rfl rfl) ?_)))));refine aV ?_)|(refine rg 15 (mW rfl (vV (cX rfl rfl (by omega)) ?_)))|(refine rg 17 (dS rfl (mW rfl (vV (by exact bQ T rfl rfl rfl rfl rfl (by omega) (by omega)) ?_)));refine fW T rfl (vV (by exact aX T rfl rfl (eJ g0 hbo) rfl) ?_);refine vV (rF rfl rfl) (aV ?_))|(refine rg 18 (dS rfl (mW rfl (vV (by exact gS T rfl rfl rfl rfl) ?_)));refine dQ (by exact bO T rfl rfl (by decide) (by decide) rfl rfl rfl) rfl ?_;refine fH T rfl rfl rfl rfl rfl (bL gq) (by simp) (jA.whole bY rfl) rfl (by simp;omega) (by simp;omega) rfl ?_;refine aV ?_)|(refine rg 19 (dS rfl (dS rfl (vV (by exact bQ T rfl rfl rfl rfl rfl (by omega) (by omega)) ?_)));refine fW T rfl (vV (by exact aX T rfl rfl (eJ (bL (fO n0q (bL g0))) hbo) rfl) ?_);refine mW rfl (vV (fX rfl rfl (by omega) (by omega)) (vV (by exact bQ T rfl rfl rfl rfl rfl (by omega) (by omega)) ?_));refine fW T rfl (bA T rfl rfl rfl rfl rfl rfl (by decide) (lT (bL (fO n0q (bL g0))) hbo rfl rfl) ?_))|(refine rg 20 (dS rfl (vV (fX rfl rfl (by omega) (by omega)) (aV ?_))))|refine nZ ?_));all_goals try (exfalso;omega)
        all_goals exact ⟨⟨(j + 1,left2,tk ++ [(i,min need c)],need - min need c,_,_),gn,gor2⟩,by dsimp only;omega,mP.of (by dsimp only;rw [← hta,← hds];rfl) ⟨rfl,rfl,rfl,rfl,rfl,by dsimp only;rw [show (tk ++ [(i,min need c)]).length = tk.length + 1 by simp];rfl,rfl,trivial⟩⟩
      · rw [dH (by omega)] at hfh
        rw [show iL ls left' w left'.length = -1 from hfh] at hfr
        have fl2 := fl (need := need) (g.fin fun hj2 => absurd hj2 hj) hn;have hpf2 := hpf;rw [fl2] at hpf2
        (repeat' (first|refine wS ?_|refine wB ?_|refine wK ?_|refine wR ?_|refine wT ?_|(refine rg 13 (mW rfl (vV (iE rfl rfl (by omega)) ?_)))|(refine rg 14 (dS rfl (dS rfl (vV (ix T rfl (by omega) (jW ws) hg) (lW T rfl (vV (by exact cM rfl rfl hfr (.cons (.row _ _ _) (.cons vl (.cons (wA _ rfl) (.cons (.v _) .nil)))) rfl rfl) ?_)))));refine aV ?_)|(refine rg 15 (mW rfl (vV (cJ rfl rfl (by decide)) ?_)))|(refine rg 16 (kJ ?_))|refine nZ ?_));all_goals try (exfalso;omega)
        all_goals exact ⟨.inl rfl,_,rfl,.nils,[],by rw [hpf2];rfl,.inl ⟨rfl,by rw [hpf2],rfl⟩,rfl,g.rf⟩
    · have hf := g.fin fun hj2 => by
        have := (g.nn _ (hom _ (aH hj2)).1).1;omega
      have no := nx (need := need) g hf hn;have oa := DL N q tk;have gp := g.hp
      (repeat' (first|refine wS ?_|refine wE ?_|refine wU ?_|(refine rg 13 (mW rfl (vV (iU rfl rfl (by omega)) ?_)))|(refine rg 21 (dS rfl (dQ (by exact bO T rfl rfl (by decide) (by decide) rfl rfl rfl) rfl ?_));refine fH T rfl rfl rfl rfl rfl (bL gp) (by simp) (jA.whole bY rfl) rfl (by simp;omega) (by simp;omega) rfl ?_;refine aV ?_)|(refine iA 10 rfl rfl rfl (by omega) (by omega) ?_)|refine nZ ?_));all_goals try (exfalso;omega)
      all_goals exact ⟨⟨(N.length + 1,left',N ++ [(q,tk)],_,_),no⟩,by dsimp only;omega,mP.of (by dsimp only;rw [← oa];rfl) (by dsimp only;(repeat (first | exact trivial | refine ⟨rfl,?_⟩)))⟩
  · have heq := ho.eq;rw [dH (by omega)] at heq
    have hpn : qF ls bs ws = some (N.map (·.2)) := by rw [heq];simp [qF]
    rw [hpn] at hpf;have hnd := ho.nd
    (repeat' (first|refine wS ?_|refine wR ?_|refine wE ?_|refine wU ?_|(refine rg 9 (dS rfl (qW T rfl (vV (cX rfl rfl (by omega)) ?_))))|(refine rg 22 (mW rfl (kJ ?_)))|refine nZ ?_));all_goals try (exfalso;omega)
    all_goals exact ⟨.inl rfl,_,rfl,.sl p 0 N.length 1,p :: N.map (·.1),by rw [hpf];rfl,.inr ⟨p,N,rfl,ho.hp,ho.hn,by rw [hpf],rfl,(aP.1 hnd).2⟩,rfl,ho.rf⟩
end Go.Proofs.YtdfmhddmddgniaaGreatDoor
namespace Go.Ab
open Go
set_option maxHeartbeats 1000000
section
variable {P : Program} {env : dD} {h : Hp} {d : Option Nat} {ty : TypeId} {pos : String} {af : Array Edge} {g : Option (Nat × Bool)}
theorem SZ {ρ : Pl} {S : Nat → Prop} {a : Act} {w : World} {k sz : Nat} {y : Value} (p : Y9 ρ S env h a w) (hkk : h[k]? = some (.lit [] sz)) (hy : R S w (.sl k 0 0 sz) ρ y) : ∃ a1,y = .slice a1 0 0 := by
  have hB := p.blk k _ hkk;simp only [RB] at hB;obtain ⟨hes,hs0,b,ys,h1,⟨c,e,h2,h3,h4⟩,h5⟩ := hB;simp only [R] at hy;obtain ⟨a1,cap,rfl,hc,hy⟩ := hy;rcases hy with ⟨_,rfl⟩ | ⟨b',o',h6,rfl,h7,c',e',fz,h8,h9⟩
  · exact ⟨a1,rfl⟩
  · rw [h1] at h6;cases h6;rw [h2] at h8;cases h8;have hcap : cap = 0 := by
      rw [h3] at h9;simp only [Nat.zero_add,List.length_nil] at h9;have := Nat.le_of_mul_le_mul_right h9 hs0;omega
    subst hcap;exact ⟨_,rfl⟩
end
end Go.Ab
namespace Go.Ab
open Go
section
variable {P : Program} {env : dD} {h : Hp} {d : Option Nat} {ty : TypeId} {pos : String} {af : Array Edge} {g : Option (Nat × Bool)}
theorem YC {o : Oper} {u : AV} (hu : u.idf = true) (hrun : ∀ ρ S a w,Y9 ρ S env h a w → ∃ (c : Array Value) (e : TypeId) (y : Value) (dr : Bool),(execOp a.eval o).run P w = .ok (.value y) ((if dr then w.drew else w).alloc (.cells c e)) ∧
      ∀ w',(w'.heap[w.heap.size]? = some (.cells c e (0,0))) → hY ρ ρ S S w w' → R (fun b => S b ∨ b = w.heap.size) w' u ρ y) :
    bJ P o env h 0 (fun _ => u) (fun _ => []) := by
  intro ρ S a w p pos hp K Q hk;obtain ⟨c,e,y,dr,h1,h2⟩ := hrun ρ S a w p;unfold Oper.wp;rw [h1];have hw : (if dr then w.drew else w).heap = w.heap := by cases dr <;> rfl
  have hsz : (if dr then w.drew else w).heap.size = w.heap.size := by rw [hw]
  have hx : lM (fun _ => False) w ((if dr then w.drew else w).alloc (.cells c e)) := by
    cases dr
    · exact lY _ _ _
    · exact (lM.drew1 w).trans (lY _ _ (fun _ => False)) (fun _ h => h.elim)
  have hl : hY ρ ρ S S w ((if dr then w.drew else w).alloc (.cells c e)) :=
    ⟨fun k q hq => hq,fun _ h => h,fun b hb => hx.same b (p.stab b hb) (by simp),fun _ _ _ _ _ hr => hx.room hr⟩
  have hat : ((if dr then w.drew else w).alloc (.cells c e)).heap[w.heap.size]? = some (.cells c e (0,0)) := by
    have := heap_alloc_new (if dr then w.drew else w) (.cells c e)
    rwa [hsz] at this
  have hlt : w.heap.size < ((if dr then w.drew else w).alloc (.cells c e)).heap.size := (aR.1 hat).1
  refine hk y ρ (fun b => S b ∨ b = w.heap.size) _ ⟨hx,rfl,fun _ _ => rfl,fun _ h => .inl h,fun b hb => ?_,fun k p h1 h2 => by omega,fun k k' p p' h1 h2 => by omega,h2 _ hat hl,fun j b hb => by simp at hb⟩
  rcases hb with hb | rfl
  · exact .inl hb
  · exact .inr ⟨aU _,hlt⟩
theorem AF (T : oA P) {t e k sz : Nat} {i : TI} {x y : Operand} {v : AV} {news : List (List AV)} (hx : evu env x = some (.sl k 0 0 sz)) (hy : evu env y = some v) (ht : T.elem t = some e) (he : T.ti e = some i) (hs : i.size = sz) (hs0 : 0 < sz)
    (hkk : h[k]? = some (.lit [] sz)) (hnw : news ≠ []) (hn : jA h v news sz) (hi : AV.idfL news.flatten = true) (hb : (0 + news.length) * i.bytes ≤ 140737488355328) (h63 : 0 + news.length ≤ 9223372036854775807) :
    bJ P ⟨d,.call { callee := .builtin .append,args := #[x,y],argTypes := #[t,t] },ty,pos,af,g⟩ env h 0 (fun _ => .rowE news sz) (fun _ => []) := by
  refine YC rfl fun ρ S a w p => ?_
  obtain ⟨a1,x1⟩ := SZ p hkk (p.evu hx);obtain ⟨a2,c2,zs,y1,y2,y3,y4,y5,y6,y7⟩ := qN p.blk (p.evu hy) hn;obtain ⟨inf,z,t1,t2,t3,t4,t5,t6,t7⟩ := T.tiOk e i he;have hnl : ∀ q,q ∈ news → q.length = sz := by
    cases hn with
    | sl hk2 _ =>
      have := p.blk _ _ hk2;simp only [RB] at this;exact fun q hq => this.1 q (hC (gB hq))
    | row h => exact h
    | nil => exact fun q hq => by cases hq
  have hn0 : 0 < news.length := jK.2 hnw;have hr := sN (P := P) (w := w) (t := t) (ty := ty) (c2 := c2) (a := a1) (len := 0) (cap := 0) (m := news.length) (ys := []) (T.elemOk _ _ ht) t1 t4 (by simp) (.inl rfl) (by rw [t2,hs];exact y5) y7 (by omega) (by rw [t3];exact hb) h63
  have hgc := grownCap_ge w (0 + news.length) 0 e;have hgm := grownCap_le_maxLen w (0 + news.length) 0 e (by simp only [maxLen];omega)
  have hzs : z.cells.size = sz := by rw [← hs,← t6,← t5];simp
  obtain ⟨g1,g2⟩ := uD (ys := []) (len := 0) hzs (by simp) y5 hgc
  refine ⟨(([] : List Value).toArray ++ zs.toArray ++ Builtin.zeroCells z.cells (grownCap w (0 + news.length) 0 e - (0 + news.length))),e,.slice (some ⟨w.heap.size,0,none⟩) (0 + news.length) (grownCap w (0 + news.length) 0 e),true,?_,fun w' hw' lt => ?_⟩
  · rw [← x1,← y1] at hr;simp [execOp,resolve,invoke,builtin,hr]
  · have h1 : RB S w' (Pl.with (fun _ => none) 0 (w.heap.size,0)) ((Pl.with (fun _ => none) 0 (w.heap.size,0)) 0) (.arr news sz) := by
      simp only [RB];exact ⟨hnl,hs0,.inr ⟨w.heap.size,0,zs,rfl,⟨_,e,hw',fun j u hj => by have := g2 j u hj;simpa using this⟩,tJ ρ _ _ _ hi (y6.later lt)⟩⟩
    have h2 : R S w' (.sl 0 0 news.length sz) (Pl.with (fun _ => none) 0 (w.heap.size,0)) (.slice (some ⟨w.heap.size,0,none⟩) (0 + news.length) (grownCap w (0 + news.length) 0 e)) := by
      simp only [R];exact ⟨_,_,by rw [Nat.zero_add],hgm,.inr ⟨w.heap.size,0,by simp [Pl.with],by simp,by omega,_,e,_,hw',by rw [Nat.zero_add,Nat.zero_add];exact g1⟩⟩
    have h3 := H0 _ ρ _ _ rfl (G0 hi h1 h2);refine lD (fun b hb => ?_) (fun _ _ => rfl) _ ρ ρ _ (fun _ _ h => h) (fun _ _ _ _ _ h => h) h3;rcases hb with hb | ⟨o,ho⟩
    · exact .inl hb
    · simp only [Pl.with,if_true,Option.some.injEq,Prod.mk.injEq] at ho;exact .inr ho.1.symm
end
end Go.Ab
namespace Go.Or
open Go Go.Ab Go.Wr Go.Proofs.YtdfmhddmddgniaaGreatDoor
abbrev NO := List (Od × AV)
def zH4 (e : Od × AV) : Prop := e.2 = mA e.1.tk ∨ (e.2 = .nils ∧ e.1.tk = [])
structure G9 (H : Hp) (pb po : Nat) (L : NO) : Prop where
  b : H[pb]? = some (.cells [.sl po 0 L.length 4])
  o : H[po]? = some (.arr (L.map fun e => iT e.1 e.2) 4)
  t : ∀ e,e ∈ L → zH4 e
def G8 (H : Hp) (pb po : Nat) (bk : Bk) : Prop := ∃ L : NO,G9 H pb po L ∧ bk = L.map (·.1)
theorem G9.ne {H : Hp} {pb po : Nat} {L : NO} (h : G9 H pb po L) : pb ≠ po := fun e => by
  have h1 := h.b;have h2 := h.o;rw [e,h2] at h1;cases h1
theorem LY {H : Hp} : ∀ {L : NO}, (∀ e, e ∈ L → zH4 e) → iH H (L.map fun e => iT e.1 e.2).flatten (uW (L.map (·.1))).flatten
  | [],_ => .nil
  | e :: L,h => by
    have ih := LY (H := H) (L := L) fun e he => h e (aF _ he);have h1 := h e aL;refine .cons (.row _ _ _) (.cons (.v _) (.cons (.v _) (.cons ?_ ih)));rcases h1 with h1 | ⟨h1,h2⟩
    · rw [h1];exact .row _ _ _
    · rw [h1,h2];exact View.nils 1
theorem G9.view {H : Hp} {pb po : Nat} {L : NO} (h : G9 H pb po L) : View H (.ptr pb 0) (xX (L.map (·.1))) := by
  refine View.ptr h.b (.cons ?_ .nil);have hn : (uW (L.map (·.1))).length = L.length := by simp
  rw [show AV.rowE (uW (L.map (·.1))) 4 = .row (uW (L.map (·.1))).flatten L.length 4 by rw [← hn]]
  refine View.sl h.o (by simp) ?_
  rw [cP,aQ (by simp)]
  exact LY h.t
theorem G8.view {H : Hp} {pb po : Nat} {bk : Bk} (h : G8 H pb po bk) : View H (.ptr pb 0) (xX bk) := by
  obtain ⟨L,h1,rfl⟩ := h;exact h1.view
theorem G9.frame {H H' : Hp} {pb po : Nat} {L : NO} (h : G9 H pb po L) (h1 : H'[pb]? = H[pb]?) (h2 : H'[po]? = H[po]?) : G9 H' pb po L := ⟨by rw [h1];exact h.b,by rw [h2];exact h.o,h.t⟩
theorem G8.frame {H H' : Hp} {pb po : Nat} {bk : Bk} (h : G8 H pb po bk) (h1 : H'[pb]? = H[pb]?) (h2 : H'[po]? = H[po]?) : G8 H' pb po bk := by
  obtain ⟨L,h3,h4⟩ := h;exact ⟨L,h3.frame h1 h2,h4⟩
theorem G8.lt {H : Hp} {pb po : Nat} {bk : Bk} (h : G8 H pb po bk) : ∀ k,k ∈ [pb,po] → k < H.length := fun k hk => by
  obtain ⟨L,h,_⟩ := h;have h1 := (aA.1 h.b).1;have h2 := (aA.1 h.o).1;simp only [aT,cG,or_false] at hk;rcases hk with rfl | rfl
  · exact h1
  · exact h2
theorem G8.app {H : Hp} {pb po : Nat} {bk : Bk} (h : G8 H pb po bk) (Z : Hp) : G8 (H ++ Z) pb po bk := h.frame (fU (h.lt pb (by simp))) (fU (h.lt po (by simp)))
def zG2 (H : Hp) (pb po : Nat) (res : AV) (bk : Bk) (r : AV) (o : Hp) : Prop := r = res ∧ ∃ po',G8 o pb po' bk ∧ Fr H [pb,po] o [pb,po']
theorem R5 {L : NO} {i : Nat} (h : i < L.length) : ∃ e,L[i]? = some e ∧ (L.map (·.1)).getD i jC = e.1 := by
  refine ⟨L[i],aC h,?_⟩;rw [aD,aS,aC h];rfl
theorem T0 {L : NO} {j : Int} {e : Od × AV} (h : L[j.toNat]? = some e) : (L.map fun e => iT e.1 e.2)[0 + j.toNat]? = some (iT e.1 e.2) := by rw [Nat.zero_add,aS,h];rfl
theorem G9.upd {H : Hp} {pb po : Nat} {L : NO} (h : G9 H pb po L) (i : Nat) (o' : Od) (x' : AV) (ht : zH4 (o',x')) (Z : Hp) :
    G8 (H.set po (.arr ((L.map fun e => iT e.1 e.2).set i (iT o' x')) 4) ++ Z) pb po ((L.map (·.1)).set i o') ∧ Fr H [pb,po] (H.set po (.arr ((L.map fun e => iT e.1 e.2).set i (iT o' x')) 4) ++ Z) [pb,po] := by
  have hpl := (aA.1 h.o).1;have hbl := (aA.1 h.b).1;refine ⟨⟨L.set i (o',x'),⟨?_,?_,fun e he => ?_⟩,by rw [nQ]⟩,⟨by simp,fun k hk hA => ?_,fun k hk => .inl hk⟩⟩
  · rw [fU (by simpa using hbl),eX h.ne,h.b,eC]
  · rw [fU (by simpa using hpl),gE hpl,nQ]
  · rcases tW he with rfl | he
    · exact ht
    · exact h.t e he
  · simp only [aT,cG,or_false,not_or] at hA;rw [fU (by simpa using hk),eX hA.2]
def zH1 (bk : Bk) (no : Int) : Int := if no < 0 ∨ (bk.length : Int) ≤ no then -1 else (bk.getD no.toNat jC).st
theorem YP {ws : List Wt} {due : Int} (h : 20 < ws.length) : iW ws due = false := by
  unfold iW;simp [h]
theorem YQ {ws : List Wt} {due : Int} (h : ws.any kU = true) : iW ws due = false := by
  unfold iW;rw [h];simp
theorem OF {ws : List Wt} {due : Int} (h : ws.any kU = false) : iW ws due = decide (1 ≤ ws.length ∧ ws.length ≤ 20 ∧ 0 ≤ due ∧ due ≤ 20000) := by
  unfold iW;rw [h];rw [qD];simp only [Bool.not_false,Bool.and_true,nS,iB,decide_eq_false_iff_not,decide_eq_true_eq];omega
end Go.Or
namespace Go.Proofs.YtdfmhddmddgniaaGreatDoor
open Go Go.Ab Go.Or Go.Wr
attribute [local irreducible] VC AW bJ bI eO jT rZ nB qB
set_option maxHeartbeats 4000000
theorem RN : bI Tryz.prog 9 [] [] (.ptr 0 0) [.cells [.nils]] := by
  refine dA T Tryz.func9 rfl rfl rfl rfl ?_
  (repeat' (first|refine wS ?_|refine wR ?_|(refine rg 0 (aV ?_))|(refine rg 1 (vV (by exact gS T rfl rfl rfl rfl) ?_);refine dQ (fE rfl rfl) rfl (aV ?_))|refine nZ ?_));all_goals exact ⟨.inl rfl,[0],_,rfl,rfl,rfl,⟨.inr rfl,trivial⟩,by decide,iK _⟩
theorem GB (ws : List Wt) (due : Int) (hw : ws.length ≤ 1000000) : bI Tryz.prog 76 [.rowE (bV ws) 3,.i due] [] (.b (iW ws due)) [] := by
  have hww := gD ws;refine dA T Tryz.func76 rfl rfl rfl rfl ?_
  (repeat' (first|refine wS ?_|refine wB ?_|(refine rg 0 (aV ?_))|(refine rg 1 (aV ?_))|refine nZ ?_));refine dR (X := {k : Nat // k ≤ ws.length ∧ k ≤ 21 ∧ ∀ w,w ∈ ws.take k → kU w = false}) (fun k => [(0,.rowE (bV ws) 3),(1,.i due),(5,.i (k.1 : Int))]) (fun _ => []) (fun k => ws.length - k.1) ⟨0,bG _,bG _,fun w hw => by simp at hw⟩ ⟨[],rfl,by (repeat (first | exact trivial | refine ⟨rfl,?_⟩)),trivial,aI,iK _⟩ ?_
  rintro ⟨k,hk1,hk2,hk3⟩;dsimp only;by_cases hlt : k < ws.length ∧ k ≤ 20
  · obtain ⟨hlt,h20⟩ := hlt;have hg := yX hlt;have hr := MD ws[k];have htk : ∀ w,w ∈ ws.take (k + 1) → kU ws[k] = false → kU w = false := fun w hm hb => by
      rw [bB hlt] at hm;rcases bH.1 hm with hm | hm
      · exact hk3 w hm
      · rw [bK.1 hm];exact hb
    have hany : kU ws[k] = true → ws.any kU = true := fun h => jE.2 ⟨_,aH hlt,h⟩
    generalize ws[k] = w at *;cases hbw : kU w with
    | true =>
      rw [hbw] at hr;rw [YQ (hany hbw)]
      (repeat' (first|refine wS ?_|refine wB ?_|refine wK ?_|refine wR ?_|refine wT ?_|(refine rg 2 (dS rfl (qW T rfl (vV (cJ rfl rfl (by omega)) (mW rfl (yN rfl (yV (mM rfl rfl (by omega)) (pV ?_))))))))|(refine rg 4 (dS rfl (vV (ix T rfl (by omega) (jW _) hg) (lW T rfl (vV (kC (hr)) (vV (cV rfl) ?_))))))|(refine rg 5 (aV ?_))|refine nZ ?_));all_goals first | (exfalso;omega) | exact rQ
    | false =>
      rw [hbw] at hr
      (repeat' (first|refine wS ?_|refine wB ?_|refine wK ?_|refine wT ?_|refine wU ?_|(refine rg 2 (dS rfl (qW T rfl (vV (cJ rfl rfl (by omega)) (mW rfl (yN rfl (yV (mM rfl rfl (by omega)) (pV ?_))))))))|(refine rg 4 (dS rfl (vV (ix T rfl (by omega) (jW _) hg) (lW T rfl (vV (kC (hr)) (vV (cV rfl) ?_))))))|(refine iA 3 rfl rfl rfl (by omega) (by omega) ?_)|refine nZ ?_));all_goals first | (exfalso;omega) | exact ⟨⟨k + 1,hlt,by omega,fun w hm => htk w hm hbw⟩,by dsimp only;omega,[],rfl,by (repeat (first | exact trivial | refine ⟨rfl,?_⟩)),trivial,aI,iK _⟩
  · by_cases h20 : 20 < ws.length
    · rw [YP h20]
      (repeat' (first|refine wS ?_|refine wR ?_|refine wE ?_|refine wU ?_|(refine rg 2 (dS rfl (qW T rfl (vV (bE rfl rfl) (mV ?_))));refine bP rfl rfl ?_ ?_<;>(intro hb;rw [hb];(try simp only [nm] at hb);try (exfalso;omega));(all_goals first|(refine gT (mW rfl (gT (vV (sX rfl rfl (by omega)) ?_))))|(iterate 2 refine gF ?_));(all_goals (refine pV ?_)))|(refine rg 6 (mW rfl (qW T rfl (vV (jN rfl rfl (by omega)) (mW rfl (yN rfl (gT (qW T rfl (yV (sX rfl rfl (by omega)) (pV ?_)))))))));refine mV ?_;(iterate 2 refine gF ?_);refine pW rfl (mV ?_);(iterate 2 refine gF ?_);refine pW rfl (aV ?_))|refine nZ ?_));all_goals first | (exfalso;omega) | exact rQ
    · rw [aQ (by omega)] at hk3
      have hbad : ws.any kU = false := by
        rw [kP];intro w hw;rw [hk3 w hw];simp
      rw [OF hbad];by_cases h1 : 1 ≤ ws.length
      · by_cases h2 : 0 ≤ due
        · by_cases h3 : due ≤ 20000
          · rw [decide_eq_true ⟨h1,by omega,h2,h3⟩]
            (repeat' (first|refine wS ?_|refine wR ?_|refine wE ?_|refine wU ?_|(refine rg 2 (dS rfl (qW T rfl (vV (cX rfl rfl (by omega)) (mV ?_))));(iterate 2 refine gF ?_);refine pV ?_)|(refine rg 6 (mW rfl (qW T rfl (vV (jN rfl rfl (by omega)) (mW rfl (yN rfl (gT (qW T rfl (yV (mM rfl rfl (by omega)) (pV ?_)))))))));refine mW rfl (yN rfl (yV (jN rfl rfl (by omega)) (pW rfl (mW rfl (yN rfl (yV (mM rfl rfl (by omega)) (pW rfl (aV ?_)))))))))|refine nZ ?_));all_goals first | (exfalso;omega) | exact rQ
          · rw [decide_eq_false (fun h => h3 h.2.2.2)]
            (repeat' (first|refine wS ?_|refine wR ?_|refine wE ?_|refine wU ?_|(refine rg 2 (dS rfl (qW T rfl (vV (cX rfl rfl (by omega)) (mV ?_))));(iterate 2 refine gF ?_);refine pV ?_)|(refine rg 6 (mW rfl (qW T rfl (vV (jN rfl rfl (by omega)) (mW rfl (yN rfl (gT (qW T rfl (yV (mM rfl rfl (by omega)) (pV ?_)))))))));refine mW rfl (yN rfl (yV (jN rfl rfl (by omega)) (pW rfl (mW rfl (yN rfl (yV (sX rfl rfl (by omega)) (pW rfl (aV ?_)))))))))|refine nZ ?_));all_goals first | (exfalso;omega) | exact rQ
        · rw [decide_eq_false (fun h => h2 h.2.2.1)]
          (repeat' (first|refine wS ?_|refine wR ?_|refine wE ?_|refine wU ?_|(refine rg 2 (dS rfl (qW T rfl (vV (cX rfl rfl (by omega)) (mV ?_))));(iterate 2 refine gF ?_);refine pV ?_)|(refine rg 6 (mW rfl (qW T rfl (vV (jN rfl rfl (by omega)) (mW rfl (yN rfl (gT (qW T rfl (yV (mM rfl rfl (by omega)) (pV ?_)))))))));refine mW rfl (yN rfl (yV (pU rfl rfl (by omega)) (pW rfl (mV ?_))));(iterate 2 refine gF ?_);refine pW rfl (aV ?_))|refine nZ ?_));all_goals first | (exfalso;omega) | exact rQ
      · rw [decide_eq_false (fun h => h1 h.1)]
        (repeat' (first|refine wS ?_|refine wR ?_|refine wE ?_|refine wU ?_|(refine rg 2 (dS rfl (qW T rfl (vV (cX rfl rfl (by omega)) (mV ?_))));(iterate 2 refine gF ?_);refine pV ?_)|(refine rg 6 (mW rfl (qW T rfl (vV (pU rfl rfl (by omega)) (mV ?_))));(iterate 3 refine gF ?_);refine pW rfl (mV ?_);(iterate 2 refine gF ?_);refine pW rfl (mV ?_);(iterate 2 refine gF ?_);refine pW rfl (aV ?_))|refine nZ ?_));all_goals first | (exfalso;omega) | exact rQ
theorem D7 (bk : Bk) (no : Int) (hl : bk.length ≤ 1000000) : bI Tryz.prog 99 [xX bk,.i no] [] (.i (zH1 bk no)) [] := by
  have hbl := jG bk;unfold zH1;refine dA T Tryz.func99 rfl rfl rfl rfl ?_;by_cases hr : no < 0 ∨ (bk.length : Int) ≤ no
  · rw [if_pos hr]
    (repeat' (first|refine wS ?_|refine wR ?_|refine wT ?_|(refine wC rfl ?_ ?_<;>(intro hb;(try simp only [nm] at hb);try (exfalso;omega)))|(refine rg 0 (aV ?_))|(refine rg 1 (mW rfl (vV (bE rfl rfl) (mV ?_)));refine bP rfl rfl ?_ ?_<;>(intro hb;rw [hb];(try simp only [nm] at hb);try (exfalso;omega));(all_goals first|(refine gT (mW rfl (gT (mW rfl (gT (nV ?_)))));refine gT (fW T rfl (gT (lW T rfl (gT (qW T rfl (gT (vV (eN rfl rfl) ?_))))))))|(iterate 7 refine gF ?_));(all_goals (refine pV ?_)))|(refine rg 2 (aV ?_))|refine nZ ?_));all_goals first | (exfalso;omega) | exact rQ
  · rw [if_neg hr];have hlt : no.toNat < bk.length := by omega
    have hg : (uW bk)[no.toNat]? = some (zU (bk.getD no.toNat jC)) := by
      rw [aD,aS,aC hlt];rfl
    generalize bk.getD no.toNat jC = o at *
    (repeat' (first|refine wS ?_|refine wK ?_|refine wR ?_|(refine wC rfl ?_ ?_<;>(intro hb;(try simp only [nm] at hb);try (exfalso;omega)))|(refine rg 0 (aV ?_))|(refine rg 1 (mW rfl (vV (bE rfl rfl) (mV ?_)));refine bP rfl rfl ?_ ?_<;>(intro hb;rw [hb];(try simp only [nm] at hb);try (exfalso;omega));(all_goals (refine yN rfl (yN rfl (gT (nV ?_)));refine yP T rfl (yO T rfl (gT (qW T rfl (yV (eN rfl rfl) (pV ?_))))))))|(refine rg 3 (mW rfl (nV ?_));refine eT T rfl (mW rfl (vV (ix T rfl (by omega) (kR bk) hg) (fW T rfl (eT T rfl (aV ?_))))))|refine nZ ?_));all_goals first | (exfalso;omega) | exact rQ
end Go.Proofs.YtdfmhddmddgniaaGreatDoor
namespace Go.Or
open Go Go.Ab Go.Wr Go.Proofs.YtdfmhddmddgniaaGreatDoor
theorem NY {bk : Bk} {sure : List Bo} {k : Nat} (h : k < sure.length) : (gY bk sure).take (k + 1) = (gY bk sure).take k ++ [((sure.getD k (0,0,0)).1,max 0 (cnt sure k - lO bk k),(sure.getD k (0,0,0)).2.2)] := by
  have e : (gY bk sure)[k]? = some ((sure.getD k (0,0,0)).1,max 0 (cnt sure k - lO bk k),(sure.getD k (0,0,0)).2.2) := by
    unfold gY cnt;rw [gC,aD,aC h,bN,aD,aC h];rfl
  rw [List.take_add_one,e];rfl
end Go.Or
namespace Go.Proofs.YtdfmhddmddgniaaGreatDoor
open Go Go.Ab Go.Or Go.Wr
attribute [local irreducible] VC AW bJ bI eO jT rZ nB qB
set_option maxHeartbeats 4000000
theorem MF (o : Od) (body : Int) (h1 : o.tk.length ≤ 1000000) (h2 : ∀ l,l ∈ o.tk → l.length ≤ 1000000) (hs : VF o.tk.flatten) :
    bI Tryz.prog 51 [.agg (zU o),.i body] [] (.i (eW o.tk.flatten body)) [] := by
  have htl := kD o.tk;refine dA T Tryz.func51 rfl rfl rfl rfl ?_
  (repeat' (first|refine wS ?_|(refine rg 0 (dQ (fE rfl rfl) rfl (aV ?_)))|refine nZ ?_));refine fK 2 (cs := zU o) rfl rfl rfl ?_
  (repeat' (first|refine wS ?_|refine wB ?_|(refine rg 1 (aV ?_))|(refine rg 2 (aV ?_))|refine nZ ?_));refine dR (X := {i : Nat // i ≤ o.tk.length}) (fun i => [(1,.i body),(2,.pr (zU o) 0),(5,.i (eW (o.tk.flatten.take (o.tk.take i.1).flatten.length) body)),(6,.i (i.1 : Int))]) (fun _ => []) (fun i => o.tk.length - i.1) ⟨0,bG _⟩ ⟨[],rfl,by (repeat (first | exact trivial | refine ⟨rfl,?_⟩)),trivial,aI,iK _⟩ ?_
  rintro ⟨i,hi⟩;dsimp only;by_cases hil : i < o.tk.length
  · have hg := tV hil;have hft := sH hil;have hfa := fun {k : Nat} (h : k < o.tk[i].length) => NB hil h;have hlb := h2 _ (aH hil);generalize o.tk[i] = li at *;have hll := kT li
    (repeat' (first|refine wS ?_|refine wB ?_|refine wK ?_|refine wT ?_|(refine rg 3 (mW rfl (eT T rfl (qW T rfl (vV (cJ rfl rfl (by omega)) ?_)))))|(refine rg 5 (aV ?_))|refine nZ ?_));all_goals try (exfalso;omega)
    refine dR (X := {k : Nat // k ≤ li.length}) (fun k => [(1,.i body),(2,.pr (zU o) 0),(5,.i (eW (o.tk.flatten.take ((o.tk.take i).flatten.length + k.1)) body)),(6,.i (i : Int)),(7,.i (k.1 : Int))]) (fun _ => []) (fun k => li.length - k.1) ⟨0,bG _⟩ ⟨[],rfl,by (repeat (first | exact trivial | refine ⟨rfl,?_⟩)),trivial,aI,iK _⟩ ?_
    rintro ⟨k,hk⟩;dsimp only;by_cases hkl : k < li.length
    · obtain ⟨hm,he⟩ := hfa hkl;have hst := AR (b := body) hm;rw [he] at hst;have hb1 := hs body ((o.tk.take i).flatten.length + k);have hb2 := hs body ((o.tk.take i).flatten.length + k + 1);have hgk := xO hkl;generalize li[k] = t at *;have hn0 : t.1 = body → eW (o.tk.flatten.take ((o.tk.take i).flatten.length + k + 1)) body = eW (o.tk.flatten.take ((o.tk.take i).flatten.length + k)) body + t.2 := fun e => by rw [hst,if_pos e]
      have hn1 : t.1 ≠ body → eW (o.tk.flatten.take ((o.tk.take i).flatten.length + k + 1)) body = eW (o.tk.flatten.take ((o.tk.take i).flatten.length + k)) body := fun e => by rw [hst,if_neg e];omega
      clear hst he;generalize hs0 : eW (o.tk.flatten.take ((o.tk.take i).flatten.length + k)) body = s0 at *;by_cases hbd : t.1 = body
      · have e0 := hn0 hbd;rw [e0] at hb2
        (repeat' (first|refine wS ?_|refine wB ?_|refine wK ?_|refine wT ?_|(refine rg 6 (mW rfl (eT T rfl (mW rfl (vV (ix T rfl (by omega) (gJ _) hg) (lW T rfl (qW T rfl (vV (cJ rfl rfl (by omega)) ?_))))))))|(refine rg 8 (eT T rfl (mW rfl (vV (ix T rfl (by omega) (gJ _) hg) (lW T rfl (mW rfl (vV (ix T rfl (by omega) (nD _) hgk) (eT T rfl (mW rfl (vV (lS rfl rfl (by omega)) ?_))))))))))|(refine rg 9 (mW rfl (eT T rfl (mW rfl (vV (ix T rfl (by omega) (gJ _) hg) (lW T rfl (mW rfl (vV (ix T rfl (by omega) (nD _) hgk) (eT T rfl (vV (eD rfl rfl (by omega) (by omega)) ?_)))))))));refine aV ?_)|(refine iA 7 rfl rfl rfl (by omega) (by omega) ?_)|refine nZ ?_));all_goals first | (exfalso;omega) | exact ⟨⟨k + 1,hkl⟩,by dsimp only;omega,[],rfl,by dsimp only;rw [← eG,e0];(repeat (first | exact trivial | refine ⟨rfl,?_⟩)),trivial,aI,iK _⟩
      · have e0 := hn1 hbd
        (repeat' (first|refine wS ?_|refine wB ?_|refine wK ?_|refine wT ?_|refine wU ?_|(refine rg 6 (mW rfl (eT T rfl (mW rfl (vV (ix T rfl (by omega) (gJ _) hg) (lW T rfl (qW T rfl (vV (cJ rfl rfl (by omega)) ?_))))))))|(refine rg 8 (eT T rfl (mW rfl (vV (ix T rfl (by omega) (gJ _) hg) (lW T rfl (mW rfl (vV (ix T rfl (by omega) (nD _) hgk) (eT T rfl (mW rfl (vV (oT rfl rfl (by omega)) ?_))))))))))|(refine iA 7 rfl rfl rfl (by omega) (by omega) ?_)|refine nZ ?_));all_goals first | (exfalso;omega) | exact ⟨⟨k + 1,hkl⟩,by dsimp only;omega,[],rfl,by dsimp only;rw [← eG,e0];(repeat (first | exact trivial | refine ⟨rfl,?_⟩)),trivial,aI,iK _⟩
    · obtain rfl : k = li.length := by omega
      rw [← hft]
      (repeat' (first|refine wS ?_|refine wE ?_|refine wU ?_|(refine rg 6 (mW rfl (eT T rfl (mW rfl (vV (ix T rfl (by omega) (gJ _) hg) (lW T rfl (qW T rfl (vV (cX rfl rfl (by omega)) ?_))))))))|(refine iA 4 rfl rfl rfl (by omega) (by omega) ?_)|refine nZ ?_));all_goals first | (exfalso;omega) | exact ⟨⟨i + 1,hil⟩,by dsimp only;omega,[],rfl,by (repeat (first | exact trivial | refine ⟨rfl,?_⟩)),trivial,aI,iK _⟩
  · rw [aQ (by omega : o.tk.length ≤ i),dJ]
    (repeat' (first|refine wS ?_|refine wR ?_|refine wE ?_|refine wU ?_|(refine rg 3 (mW rfl (eT T rfl (qW T rfl (vV (cX rfl rfl (by omega)) ?_)))))|(refine rg 10 (mW rfl (aV ?_)))|refine nZ ?_));all_goals first | (exfalso;omega) | exact rQ
theorem xQ (bk : Bk) (body : Int) (hl : bk.length ≤ 1000000) (h1 : ∀ o,o ∈ bk → o.tk.length ≤ 1000000 ∧ ∀ l,l ∈ o.tk → l.length ≤ 1000000) (hs : CT bk) :
    bI Tryz.prog 15 [xX bk,.i body] [] (.i (lO bk body)) [] := by
  have hbl := jG bk;refine dA T Tryz.func15 rfl rfl rfl rfl ?_
  (repeat' (first|refine wS ?_|refine wB ?_|(refine rg 0 (aV ?_))|(refine rg 1 (aV ?_))|(refine rg 2 (aV ?_))|refine nZ ?_));refine dR (X := {k : Nat // k ≤ bk.length}) (fun k => [(0,xX bk),(1,.i body),(5,.i (lO (bk.take k.1) body)),(6,.i (k.1 : Int))]) (fun _ => []) (fun k => bk.length - k.1) ⟨0,bG _⟩ (qO []) ?_
  rintro ⟨k,hk⟩;dsimp only;by_cases hlt : k < bk.length
  · have hg := rX hlt;have hm := aH hlt;have hf := MF bk[k] body (h1 _ hm).1 (h1 _ hm).2 (hs.1 _ hm);have hrt := BF (b := body) hlt;have hb1 := hs.2 body k;have hb2 := hs.2 body (k + 1);rw [hrt] at hb2;generalize lO (bk.take k) body = r0 at *;generalize bk[k] = o at *;generalize eW o.tk.flatten body = r1 at *
    (repeat' (first|refine wS ?_|refine wB ?_|refine wK ?_|refine wT ?_|(refine rg 3 (dS rfl (nV ?_));refine eT T rfl (qW T rfl (vV (cJ rfl rfl (by omega)) ?_)))|(refine rg 5 (dS rfl (nV ?_));refine eT T rfl (mW rfl (vV (ix T rfl (by omega) (kR _) hg) (lW T rfl (mW rfl (vV (kC (hf)) (vV (eD rfl rfl (by omega) (by omega)) (aV ?_))))))))|(refine iA 4 rfl rfl rfl (by omega) (by omega) ?_)|refine nZ ?_));all_goals first | (exfalso;omega) | exact ⟨⟨k + 1,hlt⟩,by dsimp only;omega,[],rfl,by dsimp only;rw [hrt];(repeat (first | exact trivial | refine ⟨rfl,?_⟩)),trivial,aI,iK _⟩
  · rw [aQ (by omega)]
    (repeat' (first|refine wS ?_|refine wR ?_|refine wE ?_|refine wU ?_|(refine rg 3 (dS rfl (nV ?_));refine eT T rfl (qW T rfl (vV (cX rfl rfl (by omega)) ?_)))|(refine rg 6 (mW rfl (aV ?_)))|refine nZ ?_));all_goals first | (exfalso;omega) | exact rQ
theorem GA (bk : Bk) (sure : List Bo) (hl : bk.length ≤ 1000000) (h1 : ∀ o,o ∈ bk → o.tk.length ≤ 1000000 ∧ ∀ l,l ∈ o.tk → l.length ≤ 1000000) (hs : CT bk) (hn : ∀ b : Int,0 ≤ lO bk b ∧ lO bk b ≤ 1000000000000) (hsl : sure.length ≤ 1000000) (hc : ∀ b : Int,0 ≤ b → 0 ≤ cnt sure b ∧ cnt sure b ≤ 20000) :
    bI Tryz.prog 23 [xX bk,.rowE (eY sure) 3] [] (.sl 0 0 (gY bk sure).length 3) [.arr (eY (gY bk sure)) 3] := by
  have hbl := fM sure;rw [kE];refine dA T Tryz.func23 rfl rfl rfl rfl ?_
  (repeat' (first|refine wS ?_|(refine rg 0 (aV ?_))|(refine rg 1 (aV ?_))|refine nZ ?_));refine pY 5 3 rfl (by decide) ?_
  (repeat' (first|refine wB ?_|(refine rg 2 (aV ?_))|refine nZ ?_));refine dR (X := {k : Nat // k ≤ sure.length}) (fun k => [(0,xX bk),(1,.rowE (eY sure) 3),(5,.sl 0 0 k.1 3),(6,.i (k.1 : Int))]) (fun k => [.arr (eY ((gY bk sure).take k.1)) 3]) (fun k => sure.length - k.1) ⟨0,bG _⟩ ⟨[0],rfl,by (repeat (first | exact trivial | refine ⟨rfl,?_⟩)),⟨.inr rfl,trivial⟩,by decide,iK _⟩ ?_
  rintro ⟨k,hk⟩;dsimp only;by_cases hlt : k < sure.length
  · have hg : (eY sure)[(k : Int).toNat]? = some [AV.i (sure.getD k (0,0,0)).1,AV.i (cnt sure k),AV.i (sure.getD k (0,0,0)).2.2] := zN hlt;have hr := xQ bk k hl h1 hs;have hcn := hc k (by omega)
    have hnn := hn k;have hsg := NY (bk := bk) hlt;have hbt : (eY ((gY bk sure).take k)).length = k := by rw [fM,bT,kE];omega
    have htk : List.take k (List.drop 0 (eY ((gY bk sure).take k))) = eY ((gY bk sure).take k) := by rw [cP,aQ (by omega)]
    generalize (sure.getD k (0,0,0)).1 = x1 at *;generalize (sure.getD k (0,0,0)).2.2 = x3 at *;generalize lO bk (k : Int) = r at *;generalize cnt sure (k : Int) = c at *;generalize (gY bk sure).take k = F at *
    (repeat' (first|refine wS ?_|refine wB ?_|refine wK ?_|refine wT ?_|(refine rg 3 (dS rfl (qW T rfl (vV (cJ rfl rfl (by omega)) ?_))))|(refine rg 5 (dS rfl (vV (ix T rfl (by omega) (fZ _) hg) (lW T rfl (dQ (dC T rfl) rfl (bA T rfl rfl rfl rfl rfl rfl (by decide) rfl ?_))))))|(refine G5 (id := 6) 7 31 [[],[0],[],[],[2,3],rN 5,rN 6,rN 7,rN 8] [[],[0],[],[],[2,3],rN 5,rN 6] (rM 18 7) [[],[],[18,19],[18,19,20],[18,19],[],[]] dZ rfl (by decide +kernel) (by decide +kernel) ?_;(dsimp only [List.take,List.drop]);refine dP T rfl (dO T rfl (dN rfl (dN rfl (dV rfl (kC (hr)) (dV rfl (fX rfl rfl (by omega) (by omega)) (dV rfl (TR rfl rfl) (dE ?_)))))));refine uN ?_;refine fW T rfl (bA T rfl rfl rfl rfl rfl rfl (by decide) rfl ?_))|(refine rg 7 (mW rfl (lW T rfl (dQ (by exact bO T rfl rfl (by decide) (by decide) rfl rfl rfl) rfl ?_)));refine fH T rfl rfl rfl rfl rfl rfl (by omega) (jA.whole rfl rfl) rfl (by simp;omega) (by simp;omega) rfl ?_;refine aV ?_)|(refine iA 4 rfl rfl rfl (by omega) (by omega) ?_)|refine nZ ?_));all_goals try (exfalso;omega)
    all_goals exact ⟨⟨k + 1,hlt⟩,by dsimp only;omega,[3],rfl,by (repeat (first | exact trivial | refine ⟨rfl,?_⟩)),⟨.inr (bM rfl (by dsimp only;rw [htk,hsg];simp) (uV _)),trivial⟩,by decide,iK _⟩
  · rw [aQ (by rw [kE];omega)]
    obtain rfl : k = sure.length := by omega
    (repeat' (first|refine wS ?_|refine wR ?_|refine wE ?_|refine wU ?_|(refine rg 3 (dS rfl (qW T rfl (vV (cX rfl rfl (by omega)) ?_))))|(refine rg 8 (mW rfl (aV ?_)))|refine nZ ?_));all_goals first | (exfalso;omega) | exact ⟨.inl rfl,[0],_,rfl,rfl,rfl,⟨.inr (bM rfl rfl (uV _)),trivial⟩,by decide,iK _⟩
end Go.Proofs.YtdfmhddmddgniaaGreatDoor
namespace Go.Or
open Go Go.Ab Go.Wr Go.Proofs.YtdfmhddmddgniaaGreatDoor
theorem P3 {bk : Bk} {no : Int} {ss : List Int} (h : no < 0 ∨ (bk.length : Int) ≤ no) : zH1 bk no = -1 ∧ kB bk no ss = 4 := ⟨by unfold zH1;rw [if_pos h],by unfold kB;rw [if_pos h]⟩
theorem CY {bk : Bk} {no : Int} {ss : List Int} (h : ¬ (no < 0 ∨ (bk.length : Int) ≤ no)) : zH1 bk no = (bk.getD no.toNat jC).st ∧ kB bk no ss = if (bk.getD no.toNat jC).st ∈ ss then 0 else 7 := ⟨by unfold zH1;rw [if_neg h],by unfold kB;rw [if_neg h]⟩
theorem PE {X : Hp} {a b : AB} : (X ++ [a,b])[(X ++ [a]).length]? = some b := by simp
end Go.Or
namespace Go.Proofs.YtdfmhddmddgniaaGreatDoor
open Go Go.Ab Go.Or Go.Wr
attribute [local irreducible] VC AW bJ bI eO jT rZ nB qB
set_option maxHeartbeats 4000000
theorem FY {H : Hp} {pb po : Nat} {bk : Bk} (hB : G8 H pb po bk) (no : Int) (hl : bk.length ≤ 1000) (hst : ∀ o,o ∈ bk → 0 ≤ o.st) :
    eO Tryz.prog 47 [.ptr pb 0,.i no] H (zG2 H pb po (.i (rG bk no 4 [0,1]).1) (rG bk no 4 [0,1]).2) := by
  have hv := hB.view;have hsc := D7 bk no (by omega)
  have hB0 := hB;obtain ⟨L,h,rfl⟩ := hB;rw [bF] at hl;have hbk := h.b;have hne := h.ne;unfold rG;refine jS T Tryz.func47 rfl rfl rfl rfl ?_;by_cases hr : no < 0 ∨ ((L.map (·.1)).length : Int) ≤ no
  · obtain ⟨e1,e2⟩ := P3 (ss := [0,1]) hr;rw [e1] at hsc;rw [e2,if_pos (by decide)]
    (repeat' (first|refine wS ?_|refine wR ?_|refine wT ?_|(refine rg 0 (aV ?_))|(refine rg 1 (dS rfl (vV (by exact cM rfl rfl hsc (.cons hv (.cons (.v _) .nil)) rfl rfl) ?_));refine vV (cJ rfl rfl (by omega)) ?_)|(refine rg 2 (aV ?_))|refine nZ ?_));all_goals first | (exfalso;omega) | exact ⟨.inl rfl,_,rfl,rfl,po,hB0,Fr.refl _ _⟩
  · obtain ⟨e1,e2⟩ := CY (ss := [0,1]) hr;rw [bF] at hr;obtain ⟨e,he,hge⟩ := R5 (L := L) (i := no.toNat) (by omega)
    have hs0 := hst e.1 (aK.2 ⟨e,aJ he,rfl⟩);rw [hge] at e1 e2;rw [e1] at hsc;have hg := T0 he;have hpol := (aA.1 h.o).1;have hnl : no.toNat < L.length := by omega
    by_cases hin : e.1.st = 0 ∨ e.1.st = 1
    · have e3 : kB (L.map (·.1)) no [0,1] = 0 := by rw [e2];exact if_pos (by simpa using hin)
      rw [e3,if_neg (by decide),hge]
      have hU := h.upd no.toNat { e.1 with st := 4,tk := [] } .nils (.inr ⟨rfl,rfl⟩) [];rw [List.append_nil] at hU
      (repeat' (first|refine wS ?_|refine wK ?_|refine wR ?_|refine wU ?_|(refine rg 0 (aV ?_))|(refine rg 1 (dS rfl (vV (by exact cM rfl rfl hsc (.cons hv (.cons (.v _) .nil)) rfl rfl) ?_));refine vV (cX rfl rfl (by omega)) ?_)|(refine rg 3 (dS rfl (vV (by exact cM rfl rfl hsc (.cons hv (.cons (.v _) .nil)) rfl rfl) ?_));refine vV (pS rfl rfl) (mV ?_);refine bP rfl rfl ?_ ?_<;>(intro hb;rw [hb];(try simp only [nm] at hb);try (exfalso;omega));(all_goals first|(refine gT (mW rfl (gT (mW rfl (gT (vV (by exact cM rfl rfl hsc (.cons hv (.cons (.v _) .nil)) rfl rfl) ?_)))));refine gT (vV (iC rfl rfl (by omega)) ?_))|(iterate 4 refine gF ?_));(all_goals (refine pV ?_)))|(refine rg 5 (mW rfl (nV ?_));refine fW T rfl (vV (by exact aX T rfl rfl (bW hbk) rfl) ?_);refine mW rfl (vV (by exact bQ T rfl rfl rfl rfl rfl (by omega) (by omega)) ?_);refine fW T rfl (fW T rfl (bA T rfl rfl rfl rfl rfl rfl (by decide) (lT h.o hg rfl rfl) ?_)))|(refine rg 6 (mW rfl (nV ?_));refine fW T rfl (vV (by exact aX T rfl rfl (bW (fO hne hbk)) rfl) ?_);refine mW rfl (vV (by exact bQ T rfl rfl rfl rfl rfl (by omega) (by omega)) ?_);refine fV T ?_;refine bA T rfl rfl rfl rfl rfl rfl (by decide) (lT (gE hpol) (by rw [dY (by simpa using hnl)]) rfl rfl) ?_)|(refine rg 7 (aV ?_))|refine nZ ?_));all_goals first | (exfalso;omega;done) | skip
      all_goals exact ⟨.inl rfl,_,rfl,rfl,po,by rw [fG,Nat.zero_add,fG];exact hU⟩
    · have e3 : kB (L.map (·.1)) no [0,1] = 7 := by rw [e2];exact if_neg (by simpa using hin)
      rw [e3,if_pos (by decide)]
      (repeat' (first|refine wS ?_|refine wK ?_|refine wR ?_|refine wT ?_|refine wU ?_|(refine rg 0 (aV ?_))|(refine rg 1 (dS rfl (vV (by exact cM rfl rfl hsc (.cons hv (.cons (.v _) .nil)) rfl rfl) ?_));refine vV (cX rfl rfl (by omega)) ?_)|(refine rg 3 (dS rfl (vV (by exact cM rfl rfl hsc (.cons hv (.cons (.v _) .nil)) rfl rfl) ?_));refine vV (qQ rfl rfl (by omega)) (mW rfl (yN rfl (yN rfl (yV (by exact cM rfl rfl hsc (.cons hv (.cons (.v _) .nil)) rfl rfl) ?_))));refine yV (qQ rfl rfl (by omega)) (pV ?_))|(refine rg 4 (aV ?_))|refine nZ ?_));all_goals first | (exfalso;omega) | exact ⟨.inl rfl,_,rfl,rfl,po,hB0,Fr.refl _ _⟩
theorem OH {H : Hp} {pb po : Nat} {bk : Bk} (hB : G8 H pb po bk) (no : Int) (hl : bk.length ≤ 1000) (hst : ∀ o,o ∈ bk → 0 ≤ o.st) :
    eO Tryz.prog 48 [.ptr pb 0,.i no] H (zG2 H pb po (.i (rG bk no 3 [1]).1) (rG bk no 3 [1]).2) := by
  have hv := hB.view;have hsc := D7 bk no (by omega)
  have hB0 := hB;obtain ⟨L,h,rfl⟩ := hB;rw [bF] at hl;have hbk := h.b;have hne := h.ne;unfold rG;refine jS T Tryz.func48 rfl rfl rfl rfl ?_;by_cases hr : no < 0 ∨ ((L.map (·.1)).length : Int) ≤ no
  · obtain ⟨e1,e2⟩ := P3 (ss := [1]) hr;rw [e1] at hsc;rw [e2,if_pos (by decide)]
    (repeat' (first|refine wS ?_|refine wR ?_|refine wT ?_|(refine rg 0 (aV ?_))|(refine rg 1 (dS rfl (vV (by exact cM rfl rfl hsc (.cons hv (.cons (.v _) .nil)) rfl rfl) ?_));refine vV (cJ rfl rfl (by omega)) ?_)|(refine rg 2 (aV ?_))|refine nZ ?_));all_goals first | (exfalso;omega) | exact ⟨.inl rfl,_,rfl,rfl,po,hB0,Fr.refl _ _⟩
  · obtain ⟨e1,e2⟩ := CY (ss := [1]) hr;rw [bF] at hr;obtain ⟨e,he,hge⟩ := R5 (L := L) (i := no.toNat) (by omega)
    have hs0 := hst e.1 (aK.2 ⟨e,aJ he,rfl⟩);rw [hge] at e1 e2;rw [e1] at hsc;have hg := T0 he;have hpol := (aA.1 h.o).1;have hnl : no.toNat < L.length := by omega
    by_cases hin : e.1.st = 1
    · have e3 : kB (L.map (·.1)) no [1] = 0 := by rw [e2];exact if_pos (by simpa using hin)
      rw [e3,if_neg (by decide),hge]
      have hU := h.upd no.toNat { e.1 with st := 3,tk := [] } .nils (.inr ⟨rfl,rfl⟩) [];rw [List.append_nil] at hU
      (repeat' (first|refine wS ?_|refine wK ?_|refine wR ?_|refine wU ?_|(refine rg 0 (aV ?_))|(refine rg 1 (dS rfl (vV (by exact cM rfl rfl hsc (.cons hv (.cons (.v _) .nil)) rfl rfl) ?_));refine vV (cX rfl rfl (by omega)) ?_)|(refine rg 3 (dS rfl (vV (by exact cM rfl rfl hsc (.cons hv (.cons (.v _) .nil)) rfl rfl) ?_));refine vV (iC rfl rfl (by omega)) ?_)|(refine rg 5 (mW rfl (nV ?_));refine fW T rfl (vV (by exact aX T rfl rfl (bW hbk) rfl) ?_);refine mW rfl (vV (by exact bQ T rfl rfl rfl rfl rfl (by omega) (by omega)) ?_);refine fW T rfl (fW T rfl (bA T rfl rfl rfl rfl rfl rfl (by decide) (lT h.o hg rfl rfl) ?_)))|(refine rg 6 (mW rfl (nV ?_));refine fW T rfl (vV (by exact aX T rfl rfl (bW (fO hne hbk)) rfl) ?_);refine mW rfl (vV (by exact bQ T rfl rfl rfl rfl rfl (by omega) (by omega)) ?_);refine fV T ?_;refine bA T rfl rfl rfl rfl rfl rfl (by decide) (lT (gE hpol) (by rw [dY (by simpa using hnl)]) rfl rfl) ?_)|(refine rg 7 (aV ?_))|refine nZ ?_));all_goals first | (exfalso;omega;done) | skip
      all_goals exact ⟨.inl rfl,_,rfl,rfl,po,by rw [fG,Nat.zero_add,fG];exact hU⟩
    · have e3 : kB (L.map (·.1)) no [1] = 7 := by rw [e2];exact if_neg (by simpa using hin)
      rw [e3,if_pos (by decide)]
      (repeat' (first|refine wS ?_|refine wK ?_|refine wR ?_|refine wT ?_|refine wU ?_|(refine rg 0 (aV ?_))|(refine rg 1 (dS rfl (vV (by exact cM rfl rfl hsc (.cons hv (.cons (.v _) .nil)) rfl rfl) ?_));refine vV (cX rfl rfl (by omega)) ?_)|(refine rg 3 (dS rfl (vV (by exact cM rfl rfl hsc (.cons hv (.cons (.v _) .nil)) rfl rfl) ?_));refine vV (qQ rfl rfl (by omega)) ?_)|(refine rg 4 (aV ?_))|refine nZ ?_));all_goals first | (exfalso;omega) | exact ⟨.inl rfl,_,rfl,rfl,po,hB0,Fr.refl _ _⟩
theorem zA9 {H : Hp} {pb po : Nat} {bk : Bk} (hB : G8 H pb po bk) (ws : List Wt) (due : Int) (hl : bk.length ≤ 1000) (hw : ws.length ≤ 1000000) :
    eO Tryz.prog 44 [.ptr pb 0,.rowE (bV ws) 3,.i due] H (zG2 H pb po (.tup [.i (wQ bk ws due).1.1,.i (wQ bk ws due).1.2]) (wQ bk ws due).2) := by
  have hcr := GB ws due hw;have hww := gD ws;have hB0 := hB;obtain ⟨L,h,rfl⟩ := hB;rw [bF] at hl;have hbk := h.b;have hne := h.ne;unfold wQ;refine jS T Tryz.func44 rfl rfl rfl rfl ?_;cases hr : iW ws due with
  | false =>
    rw [hr] at hcr
    (repeat' (first|refine wS ?_|refine wR ?_|refine wT ?_|(refine rg 0 (kJ ?_))|(refine rg 1 (dS rfl (vV (kC (hcr)) (vV (cV rfl) ?_))))|(refine rg 2 (kJ ?_))|refine nZ ?_));all_goals exact ⟨.inl rfl,_,rfl,rfl,_,hB0,Fr.refl _ _⟩
  | true =>
    rw [hr] at hcr;rw [if_neg (by decide : ¬ (!true) = true)]
    by_cases h1000 : 1000 ≤ L.length
    · rw [if_pos (by simpa using h1000)]
      (repeat' (first|refine wS ?_|refine wK ?_|refine wR ?_|refine wU ?_|(refine wC rfl ?_ ?_<;>(intro hb;(try simp only [nm] at hb);try (exfalso;omega)))|(refine rg 0 (kJ ?_))|(refine rg 1 (dS rfl (vV (kC (hcr)) (vV (cV rfl) ?_))))|(refine rg 3 (mW rfl (nV ?_));refine fW T rfl (vV (by exact aX T rfl rfl (bW hbk) rfl) ?_);refine qW T rfl (vV (eN rfl rfl) ?_))|(refine rg 4 (kJ ?_))|refine nZ ?_));all_goals first | (exfalso;omega) | exact ⟨.inl rfl,_,rfl,rfl,_,hB0,Fr.refl _ _⟩
    · rw [if_neg (by simpa using h1000)]
      have hw1 := (tX hr).1;have hw2 := (tX hr).2.1;have hwne : bV ws ≠ [] := fun e => by rw [e] at hww;simp at hww;omega
      (repeat' (first|refine wS ?_|refine wK ?_|refine wU ?_|(refine wC rfl ?_ ?_<;>(intro hb;(try simp only [nm] at hb);try (exfalso;omega)))|(refine rg 0 (kJ ?_))|(refine rg 1 (dS rfl (vV (kC (hcr)) (vV (cV rfl) ?_))))|(refine rg 3 (mW rfl (nV ?_));refine fW T rfl (vV (by exact aX T rfl rfl (bW hbk) rfl) ?_);refine qW T rfl (vV (eN rfl rfl) ?_))|refine nZ ?_));all_goals try (exfalso;omega)
      have hpol := (aA.1 h.o).1;have hpbl := (aA.1 hbk).1
      (repeat' (first|refine wS ?_|(refine pM (id := 5) 39 [[],[],[1],[1,2],[1,2,3],[],[],[5,6],[],rM 5 4,rM 5 5,rM 5 6,rM 1 11,rN 13,rN 14,rN 15] (rM 18 15) [[],[18],[18],[18],[18],rM 18 5,rM 18 6,rM 18 5,rM 18 8,rM 18 5,rM 18 5,rM 18 5,[18],[],[],[]] [(12,po),(15,pb)] dZ rfl (W1 (by decide +kernel) rfl rfl rfl rfl) (eI rfl rfl rfl rfl (by exact fD rfl) ?_);refine eI rfl rfl rfl rfl (by exact fD rfl) ?_;refine eI rfl rfl rfl rfl (by exact cO rfl rfl) ?_;refine eI rfl rfl rfl rfl (by exact eA T rfl rfl rfl) ?_;refine eI rfl rfl rfl rfl (by exact aX T rfl rfl (bW (bL hbk)) rfl) ?_;refine V9 rfl rfl rfl rfl (by exact HW (len := 0) T rfl rfl (by decide) (by decide) rfl rfl rfl) rfl ?_;refine eI rfl rfl rfl rfl (by exact fD rfl) ?_;refine eI rfl rfl rfl rfl (by exact AF T rfl rfl rfl rfl rfl (by decide) K7 hwne (.row (jW ws)) (N7 ws) (by simp;omega) (by simp;omega)) ?_;refine eI rfl rfl rfl rfl (by exact fD rfl) ?_;refine eI rfl rfl rfl rfl (by exact gS T rfl rfl rfl rfl) ?_;refine eI rfl rfl rfl rfl (by exact gS T rfl rfl rfl rfl) ?_;refine V9 rfl rfl rfl rfl (by exact bO T rfl rfl (by decide) (by decide) rfl rfl rfl) rfl ?_;refine uU rfl rfl rfl rfl hpol (sK T rfl rfl rfl rfl rfl (bL h.o) (by simp) (jA.whole PE rfl) rfl (by simp;omega) (by simp;omega)) ?_;refine eI rfl rfl rfl rfl (by exact cO rfl rfl) ?_;refine eI rfl rfl rfl rfl (by exact eA T rfl rfl rfl) ?_;refine L1 rfl rfl rfl rfl hpbl T rfl rfl rfl rfl rfl rfl (by decide) (JI (bL (fO hne hbk)) rfl) ?_;refine uG rfl rfl rfl (by exact rfl) ?_)|refine nZ ?_));have hta : List.take L.length (List.drop 0 (L.map fun e => iT e.1 e.2)) = L.map fun e => iT e.1 e.2 := by rw [cP,aQ (by simp)]
      refine jH [(0,.ptr pb 0)] ((H.set po .gone).set pb (.cells [.sl (H ++ [AB.lit [] 3,AB.arr [iT ⟨ws,due,0,[]⟩ .nils] 4]).length 0 (L.length + 1) 4]) ++ [AB.lit [] 3,AB.arr [iT ⟨ws,due,0,[]⟩ .nils] 4,AB.arr ((L.map fun e => iT e.1 e.2) ++ [iT ⟨ws,due,0,[]⟩ .nils]) 4]) (mP.of (by (conv => rhs;rw [← hta]);rfl) (by repeat first|exact trivial|refine ⟨rfl,?_⟩)) ?_
      have hlen : (H ++ [AB.lit [] 3,AB.arr [iT ⟨ws,due,0,[]⟩ .nils] 4]).length = H.length + 2 := by simp
      rw [hlen];have hpbl2 : pb < (H.set po .gone).length := by simpa using hpbl
      have g1 : ((H.set po .gone).set pb (.cells [.sl (H.length + 2) 0 (L.length + 1) 4]) ++ [AB.lit [] 3,AB.arr [iT ⟨ws,due,0,[]⟩ .nils] 4,AB.arr ((L.map fun e => iT e.1 e.2) ++ [iT ⟨ws,due,0,[]⟩ .nils]) 4])[pb]? = some (.cells [.sl (H.length + 2) 0 (L.length + 1) 4]) := bL (gE hpbl2);have g2 : ((H.set po .gone).set pb (.cells [.sl (H.length + 2) 0 (L.length + 1) 4]) ++ [AB.lit [] 3,AB.arr [iT ⟨ws,due,0,[]⟩ .nils] 4,AB.arr ((L.map fun e => iT e.1 e.2) ++ [iT ⟨ws,due,0,[]⟩ .nils]) 4])[H.length + 2]? = some (.arr ((L.map fun e => iT e.1 e.2) ++ [iT ⟨ws,due,0,[]⟩ .nils]) 4) := by
        rw [aE (by simp)];simp
      have g3 : ∀ k,k < H.length → k ≠ po → k ≠ pb → ((H.set po .gone).set pb (.cells [.sl (H.length + 2) 0 (L.length + 1) 4]) ++ [AB.lit [] 3,AB.arr [iT ⟨ws,due,0,[]⟩ .nils] 4,AB.arr ((L.map fun e => iT e.1 e.2) ++ [iT ⟨ws,due,0,[]⟩ .nils]) 4])[k]? = H[k]? := fun k hk h1 h2 => by
        rw [aG (by simpa using hk),eX h2,eX h1]
      have g4 : H.length ≤ ((H.set po .gone).set pb (.cells [.sl (H.length + 2) 0 (L.length + 1) 4]) ++ [AB.lit [] 3,AB.arr [iT ⟨ws,due,0,[]⟩ .nils] 4,AB.arr ((L.map fun e => iT e.1 e.2) ++ [iT ⟨ws,due,0,[]⟩ .nils]) 4]).length := by simp
      generalize ((H.set po .gone).set pb (.cells [.sl (H.length + 2) 0 (L.length + 1) 4]) ++ [AB.lit [] 3,AB.arr [iT ⟨ws,due,0,[]⟩ .nils] 4,AB.arr ((L.map fun e => iT e.1 e.2) ++ [iT ⟨ws,due,0,[]⟩ .nils]) 4]) = H1 at *
      have hadd : G8 H1 pb (H.length + 2) (L.map (·.1) ++ [⟨ws,due,0,[]⟩]) := ⟨L ++ [(⟨ws,due,0,[]⟩,.nils)],⟨by rw [g1];simp,by rw [g2];simp,fun e he => by
        rcases bH.1 he with he | he
        · exact h.t e he
        · rw [bK.1 he];exact .inr ⟨rfl,rfl⟩⟩,by simp⟩
      have hfr : Fr H [pb,po] H1 [pb,H.length + 2] := ⟨g4,fun k hk hA => by
        simp only [aT,cG,or_false,not_or] at hA;exact g3 k hk hA.2 hA.1,fun k hk => by
        simp only [aT,cG,or_false] at hk ⊢;rcases hk with rfl | rfl
        · exact .inl (.inl rfl)
        · exact .inr (gA _ _)⟩
      (repeat' (first|refine wR ?_|(refine rg 6 (mW rfl (nV ?_));refine fW T rfl (vV (by exact aX T rfl rfl (bW g1) rfl) ?_);refine qW T rfl (vV (fX rfl rfl (by omega) (by omega)) (kJ ?_)))|refine nZ ?_));all_goals try (exfalso;omega)
      all_goals exact ⟨.inl rfl,_,rfl,by show AV.tup [AV.i _,AV.i _] = AV.tup [AV.i _,AV.i _];rw [bF,show (((L.length + 1 : Nat) : Int) - 1) = (L.length : Int) by omega],_,hadd,hfr⟩
end Go.Proofs.YtdfmhddmddgniaaGreatDoor
namespace Go.Or
open Go Go.Ab Go.Wr Go.Proofs.YtdfmhddmddgniaaGreatDoor
theorem G7.bd {bk : Bk} (h : G7 bk) (b : Int) : 0 ≤ lO bk b ∧ lO bk b ≤ 1000000000000 := ⟨h.nnr b,h.le b⟩
end Go.Or
namespace Go.Proofs.YtdfmhddmddgniaaGreatDoor
open Go Go.Ab Go.Or Go.Wr
attribute [local irreducible] VC AW bJ bI eO jT rZ nB qB
set_option maxHeartbeats 4000000
theorem RK (ls : List Lo) (bs : List Bo) (ws : List Wt) (hl : ls.length ≤ 1000000) (hb : bs.length ≤ 20) (hk : yS ls bs) (hw : ws.length ≤ 1000) (hc : ∀ b : Int,0 ≤ b → 0 ≤ cnt bs b ∧ cnt bs b ≤ 20000) :
    eO Tryz.prog 100 [.rowE (iX ls) 3,.rowE (eY bs) 3,.rowE (bV ws) 3] [] (VH (.tup [mA (oM ls bs ws).2,.i (oM ls bs ws).1])) :=
  (WP ls bs ws hl hb hk hw hc).mono fun r o h => by
    obtain ⟨x,A,rfl,h2,h3,h4⟩ := h;exact ⟨h3,h4,.tup (.cons h2.view (.cons (.v _) .nil))⟩
theorem JW {H : Hp} {pb po : Nat} {bk : Bk} (hB : G8 H pb po bk) (hz : ZC bk) (hst : ∀ o,o ∈ bk → 0 ≤ o.st) (ls : List Lo) (sure : List Bo) (hs : wW ls sure) (no : Int) :
    eO Tryz.prog 45 [.ptr pb 0,.i no,.rowE (iX ls) 3,.rowE (eY sure) 3] H (zG2 H pb po (.i (qU ls sure bk no).1) (qU ls sure bk no).2) := by
  have hv := hB.view;have hle := hz.le;have hsc := D7 bk no (by omega)
  have hB0 := hB;have hsl := hs.sl;have hsp := GA bk sure (by omega) hz.tk hz.sum.bk (fun b => hz.sum.bd b) (by omega) hs.cn
  have hso := hs.spare (bk := bk) (fun b _ => hz.sum.nnr b);obtain ⟨bef,hbef⟩ : ∃ bef,gY bk sure = bef := ⟨_,rfl⟩;obtain ⟨L,h,rfl⟩ := hB;rw [bF] at hle;have hbk := h.b;have hne := h.ne;unfold qU;rw [hbef] at hsp hso ⊢;have hbl := fM bef;refine jS T Tryz.func45 rfl rfl rfl rfl ?_;by_cases hr : no < 0 ∨ ((L.map (·.1)).length : Int) ≤ no
  · obtain ⟨e1,e2⟩ := P3 (ss := [0]) hr;rw [e1] at hsc;rw [e2,if_pos (by decide)]
    (repeat' (first|refine wS ?_|refine wR ?_|refine wT ?_|(refine rg 0 (aV ?_))|(refine rg 1 (dS rfl (vV (by exact cM rfl rfl hsc (.cons hv (.cons (.v _) .nil)) rfl rfl) ?_));refine vV (cJ rfl rfl (by omega)) ?_)|(refine rg 2 (aV ?_))|refine nZ ?_));all_goals first | (exfalso;omega) | exact ⟨.inl rfl,_,rfl,rfl,po,hB0,Fr.refl _ _⟩
  · obtain ⟨e1,e2⟩ := CY (ss := [0]) hr;rw [bF] at hr;obtain ⟨e,he,hge⟩ := R5 (L := L) (i := no.toNat) (by omega)
    have hme : e.1 ∈ L.map (·.1) := aK.2 ⟨e,aJ he,rfl⟩;have hs0 := hst e.1 hme;have hws := hz.ws _ hme;rw [hge] at e1 e2;rw [e1] at hsc;have hg := T0 he;have hpol := (aA.1 h.o).1;have hnl : no.toNat < L.length := by omega
    by_cases hin : e.1.st = 0
    · have e3 : kB (L.map (·.1)) no [0] = 0 := by rw [e2];exact if_pos (by simpa using hin)
      rw [e3,if_neg (by decide),hge]
      have hpl := RK ls bef e.1.ws hso.ll hso.sl hso.lot hws hso.cn;obtain ⟨pf,hpf⟩ : ∃ pf,oM ls bef e.1.ws = pf := ⟨_,rfl⟩;rw [hpf] at hpl ⊢;obtain ⟨pe,tk⟩ := pf;dsimp only at hpl ⊢;have hU := h.upd no.toNat { e.1 with st := 1,tk := tk } (mA tk) (.inl rfl) [];rw [List.append_nil] at hU;by_cases hpe : pe = 0
      · subst hpe;rw [if_neg (by decide)]
        (repeat' (first|refine wS ?_|refine wK ?_|refine wR ?_|refine wU ?_|(refine rg 0 (aV ?_))|(refine rg 1 (dS rfl (vV (by exact cM rfl rfl hsc (.cons hv (.cons (.v _) .nil)) rfl rfl) ?_));refine vV (cX rfl rfl (by omega)) ?_)|(refine rg 3 (dS rfl (vV (by exact cM rfl rfl hsc (.cons hv (.cons (.v _) .nil)) rfl rfl) ?_));refine vV (iC rfl rfl (by omega)) ?_)|(refine cS (id := 5) 55 zT4 [20,21,22,23,24,25,26,27,28,29,30,31,32,33,19,34,35,9] zT5 dZ rfl (by decide +kernel) (dN rfl (dN rfl (dN rfl (dV rfl (by exact kX rfl rfl hsp (.cons (Go.Or.View.more hv _) (.cons (.row _ _ _) .nil)) (fM _).symm (xR _) (V5 _)) ?_))));refine dN rfl (dV rfl (by exact cO rfl rfl) ?_);refine dP T rfl (dV rfl (by exact aX T rfl rfl (bW (bL hbk)) rfl) ?_);refine dN rfl (dV rfl (by exact bQ T rfl rfl rfl rfl rfl (by omega) (by omega)) ?_);refine dP T rfl (dP T rfl (dV rfl (by exact aX T rfl rfl (eJ (bL h.o) hg) rfl) ?_));refine dV rfl (by exact sF rfl rfl hpl (.cons (.row _ _ _) (.cons (.row _ _ _) (.cons (.row _ _ _) .nil)))) ?_;refine dN rfl (dV rfl (by exact nN rfl rfl) ?_);refine dV rfl (by exact nN rfl rfl) ?_;refine dV rfl (jJ rfl) (dE ?_);refine aV ?_)|(refine rg 6 (mW rfl (vV (iC rfl rfl (by omega)) ?_)))|(refine rg 8 (mW rfl (nV ?_));refine fW T rfl (vV (by exact aX T rfl rfl (bW (bL hbk)) rfl) ?_);refine mW rfl (vV (by exact bQ T rfl rfl rfl rfl rfl (by omega) (by omega)) ?_);refine fW T rfl (fW T rfl (bA T rfl rfl rfl rfl rfl rfl (by decide) (lT (bL h.o) hg rfl rfl) ?_)))|(refine rg 9 (mW rfl (nV ?_));refine fW T rfl (vV (by exact aX T rfl rfl (bW (fO hne (bL hbk))) rfl) ?_);refine dS rfl (vV (by exact bQ T rfl rfl rfl rfl rfl (by omega) (by omega)) ?_);refine fV T ?_;refine bA T rfl rfl rfl rfl rfl rfl (by decide) (lT (gE (by simpa using hpol)) (by rw [dY (by simpa using hnl)]) rfl rfl) ?_)|(refine rg 10 (aV ?_))|refine nZ ?_));all_goals first | (exfalso;omega;done) | skip
        all_goals exact ⟨.inl rfl,_,rfl,rfl,po,by rw [List.append_nil,fG,Nat.zero_add,fG];exact hU⟩
      · rw [if_pos hpe]
        (repeat' (first|refine wS ?_|refine wK ?_|refine wR ?_|refine wT ?_|refine wU ?_|(refine rg 0 (aV ?_))|(refine rg 1 (dS rfl (vV (by exact cM rfl rfl hsc (.cons hv (.cons (.v _) .nil)) rfl rfl) ?_));refine vV (cX rfl rfl (by omega)) ?_)|(refine rg 3 (dS rfl (vV (by exact cM rfl rfl hsc (.cons hv (.cons (.v _) .nil)) rfl rfl) ?_));refine vV (iC rfl rfl (by omega)) ?_)|(refine cS (id := 5) 55 zT4 [20,21,22,23,24,25,26,27,28,29,30,31,32,33,19,34,35,9] zT5 dZ rfl (by decide +kernel) (dN rfl (dN rfl (dN rfl (dV rfl (by exact kX rfl rfl hsp (.cons (Go.Or.View.more hv _) (.cons (.row _ _ _) .nil)) (fM _).symm (xR _) (V5 _)) ?_))));refine dN rfl (dV rfl (by exact cO rfl rfl) ?_);refine dP T rfl (dV rfl (by exact aX T rfl rfl (bW (bL hbk)) rfl) ?_);refine dN rfl (dV rfl (by exact bQ T rfl rfl rfl rfl rfl (by omega) (by omega)) ?_);refine dP T rfl (dP T rfl (dV rfl (by exact aX T rfl rfl (eJ (bL h.o) hg) rfl) ?_));refine dV rfl (by exact sF rfl rfl hpl (.cons (.row _ _ _) (.cons (.row _ _ _) (.cons (.row _ _ _) .nil)))) ?_;refine dN rfl (dV rfl (by exact nN rfl rfl) ?_);refine dV rfl (by exact nN rfl rfl) ?_;refine dV rfl (jJ rfl) (dE ?_);refine aV ?_)|(refine rg 6 (mW rfl (vV (qQ rfl rfl hpe) ?_)))|(refine rg 7 (mW rfl (aV ?_)))|refine nZ ?_));all_goals first | (exfalso;omega) | exact ⟨.inl rfl,_,rfl,rfl,po,by rw [List.append_nil];exact ⟨hB0,Fr.refl _ _⟩⟩
    · have e3 : kB (L.map (·.1)) no [0] = 7 := by rw [e2];exact if_neg (by simpa using hin)
      rw [e3,if_pos (by decide)]
      (repeat' (first|refine wS ?_|refine wK ?_|refine wR ?_|refine wT ?_|refine wU ?_|(refine rg 0 (aV ?_))|(refine rg 1 (dS rfl (vV (by exact cM rfl rfl hsc (.cons hv (.cons (.v _) .nil)) rfl rfl) ?_));refine vV (cX rfl rfl (by omega)) ?_)|(refine rg 3 (dS rfl (vV (by exact cM rfl rfl hsc (.cons hv (.cons (.v _) .nil)) rfl rfl) ?_));refine vV (qQ rfl rfl (by omega)) ?_)|(refine rg 4 (aV ?_))|refine nZ ?_));all_goals first | (exfalso;omega) | exact ⟨.inl rfl,_,rfl,rfl,po,hB0,Fr.refl _ _⟩
end Go.Proofs.YtdfmhddmddgniaaGreatDoor
