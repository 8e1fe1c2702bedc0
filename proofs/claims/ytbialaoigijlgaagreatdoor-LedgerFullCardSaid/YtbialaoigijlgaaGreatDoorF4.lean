/-
  Texts of the logic and of the layer,in one module (part 4).
-/
import Derived.Test.YtbialaoigijlgaaGreatDoorF3
set_option linter.unusedVariables false
set_option linter.unusedSimpArgs false
set_option linter.unnecessarySimpa false
namespace Go.Proofs.YtbialaoigijlgaaGreatDoor
open Go Go.Ab
attribute [local irreducible] VC AW bT aQ
abbrev jT (f t : Int) : AV := .agg [.i f,.i t]
def vQ (f t : Int) : Bool := decide (max f 0 < min t 20001)
def AD (f t : Int) : Int := if vQ f t then max f 0 else 0
def cutT (f t : Int) : Int := if vQ f t then min t 20001 else 0
theorem DP (f t : Int) : (vQ f t = true ∧ AD f t = max f 0 ∧ cutT f t = min t 20001 ∧ max f 0 < min t 20001) ∨ (vQ f t = false ∧ AD f t = 0 ∧ cutT f t = 0 ∧ min t 20001 ≤ max f 0) := by
  by_cases h : max f 0 < min t 20001
  · left;simp [vQ,AD,cutT,h]
  · right;simp only [vQ,AD,cutT,h];simp;omega
theorem MR {a b c d : Int} {e e' : Bool} (h1 : a = c) (h2 : b = d) (h3 : e = e') : AV.tup [jT a b,.b e] = AV.tup [jT c d,.b e'] := by rw [h1,h2,h3]
theorem W6 (f t : Int) : aQ Tryz.prog 112 [jT f t] [] (.tup [jT (AD f t) (cutT f t),.b (vQ f t)]) [] := by
  refine bK T Tryz.func112 rfl rfl rfl rfl ?_
  (repeat' (first|(first|(refine eJ ?_)|(refine nM ?_)|(refine rI ?_)|(refine oE ?_))|(first|(refine vV (by first|exact fA rfl|exact bV T rfl rfl rfl|exact aS T rfl rfl rfl rfl|exact kR rfl rfl|exact vM rfl rfl|exact M7 rfl rfl|exact eH T rfl rfl rfl rfl) ?_)|(refine aR T rfl rfl rfl rfl rfl rfl (by decide) rfl ?_)|(refine fT ?_)|(refine bS (by first|exact bH T rfl|exact cW rfl rfl) rfl ?_))|((refine pU rfl (fun hb=>?_) (fun hb=>?_)<;>(try simp only [nm] at hb)))));all_goals
    refine eC (.inl rfl) rfl ?_;rcases DP f t with ⟨h1,h2,h3,h4⟩ | ⟨h1,h2,h3,h4⟩
    all_goals (first | (exfalso;omega) | (rw [h1,h2,h3];refine MR ?_ ?_ ?_ <;> first | rfl | omega))
def DD (f t n : Int) : Bool := decide (f ≤ n) && decide (n < t)
theorem HF (f t n : Int) : aQ Tryz.prog 57 [jT f t,.i n] [] (.b (DD f t n)) [] := by
  refine bK T Tryz.func57 rfl rfl rfl rfl ?_
  (repeat' (first|(first|(refine eJ ?_)|(refine nM ?_)|(refine oE ?_))|(first|(refine vV (by first|exact bU rfl|exact fA rfl|exact bV T rfl rfl rfl|exact aS T rfl rfl rfl rfl|exact jM rfl rfl|exact jA rfl rfl|exact aN rfl rfl|exact oC rfl rfl) ?_)|(refine fT ?_)|(refine R2 rfl rfl ?_ rfl)|(refine R3 rfl rfl ?_ rfl)|(refine qD rfl rfl (fun hb=>?_) (fun hb=>?_) rfl<;>(rw [hb];(try simp only [nm] at hb)))|(refine bS (cW rfl rfl) rfl ?_))));all_goals
    refine eC (.inl rfl) rfl (sO ?_);simp [DD];try omega
theorem TR (a b c d : Int) : aQ Tryz.prog 80 [jT a b,jT c d] [] (.tup [jT (AD (max a c) (min b d)) (cutT (max a c) (min b d)),.b (vQ (max a c) (min b d))]) [] := by
  refine bK T Tryz.func80 rfl rfl rfl rfl ?_
  (repeat' (first|(first|(refine eJ ?_)|(refine nM ?_)|(refine oE ?_))|(first|(refine vV (by first|exact fA rfl|exact bV T rfl rfl rfl|exact aS T rfl rfl rfl rfl|exact iL rfl rfl|exact vM rfl rfl|exact M7 rfl rfl|exact eH T rfl rfl rfl rfl|exact eS rfl rfl (W6 _ _) rfl rfl rfl) ?_)|(refine aR T rfl rfl rfl rfl rfl rfl (by decide) rfl ?_)|(refine fT ?_)|(refine bS (by first|exact bH T rfl|exact cW rfl rfl) rfl ?_))));refine rQ
theorem XB (a b c d : Int) : aQ Tryz.prog 52 [jT a b,jT c d] [] (jT (min a c) (max b d)) [] := by
  refine bK T Tryz.func52 rfl rfl rfl rfl ?_
  (repeat' (first|(first|(refine eJ ?_)|(refine nM ?_)|(refine oE ?_))|(first|(refine vV (by first|exact bV T rfl rfl rfl|exact aS T rfl rfl rfl rfl|exact vM rfl rfl|exact M7 rfl rfl|exact eH T rfl rfl rfl rfl) ?_)|(refine aR T rfl rfl rfl rfl rfl rfl (by decide) rfl ?_)|(refine fT ?_)|(refine bS (by first|exact bH T rfl|exact cW rfl rfl) rfl ?_))));refine rQ
theorem ST : aQ Tryz.prog 111 [] [] (jT 0 20001) [] := by
  refine bK T Tryz.func111 rfl rfl rfl rfl ?_
  (repeat' (first|(first|(refine eJ ?_)|(refine nM ?_)|(refine oE ?_))|(first|(refine vV (by exact eH T rfl rfl rfl rfl) ?_)|(refine aR T rfl rfl rfl rfl rfl rfl (by decide) rfl ?_)|(refine fT ?_)|(refine bS (bH T rfl) rfl ?_))));refine rQ
def sK (l : List Int) : Bool := l.all fun n => decide (0 ≤ n) && decide (n ≤ 1099511627776)
theorem FV (l : List Int) (k : Nat) (h : k < l.length) : sK (l.drop k) = (decide (0 ≤ l[k]) && decide (l[k] ≤ 1099511627776) && sK (l.drop (k + 1))) := by
  rw [aT h];rfl
theorem yW (l : List Int) (hm : l.length ≤ 1000) : aQ Tryz.prog 110 [.rowE (ints l) 1] [] (.b (sK l)) [] := by
  refine bK T Tryz.func110 rfl rfl rfl rfl ?_
  (repeat' (first|(first|(refine eJ ?_)|(refine nM ?_)|(refine sQ ?_))|(first|(refine vV (by first|exact bU rfl|exact fA rfl|exact fS T rfl rfl) ?_)|(refine fT ?_))));refine cT (X := {k : Nat // k ≤ (ints l).length ∧ sK l = sK (l.drop k)}) (fun k => [(5,.rowE (ints l) 1),(6,.i (ints l).length),(7,.i k.1)]) (fun _ => []) (fun k => (ints l).length - k.1) ⟨0,by simp,rfl⟩ (gO []) ?_
  rintro ⟨k,hk,hf⟩;dsimp only;have hlen : (ints l).length = l.length := by simp
  repeat' (first|(first|(refine eJ ?_)|(refine nM ?_)|(refine sQ ?_)|(refine rI ?_)|(refine oE ?_)|(refine IL ?_))|(first|(refine vV (by first|exact fA rfl|exact aN rfl rfl) ?_)|(refine fT ?_))|((refine pU rfl (fun hb=>?_) (fun hb=>?_)<;>(try simp only [nm] at hb))))
  · have hlt : k < l.length := by omega
    have hs := FV l k hlt;refine uM (zM T rfl rfl rfl rfl rfl (by omega) (cP l) (lU hlt)) rfl ?_
    (repeat' (first|(first|(refine eJ ?_)|(refine nM ?_)|(refine rI ?_)|(refine oE ?_))|(first|(refine vV (by first|exact bU rfl|exact fA rfl|exact aS T rfl rfl rfl rfl|exact jM rfl rfl|exact jA rfl rfl|exact bF rfl rfl (by omega) (by omega)|exact aN rfl rfl|exact gN rfl rfl) ?_)|(refine fT ?_)|(refine R2 rfl rfl ?_ rfl)|(refine R3 rfl rfl ?_ rfl)|(refine qD rfl rfl (fun hb=>?_) (fun hb=>?_) rfl<;>(rw [hb];(try simp only [nm] at hb))))|(first|(refine wT ?_)|(refine pU rfl (fun hb=>?_) (fun hb=>?_)<;>(try simp only [nm] at hb)))));all_goals first
      | (refine eC (.inl rfl) rfl (sO ?_);rw [hf,hs];simp;omega)
      | (refine ⟨⟨k + 1,by omega,?_⟩,by simp;omega,gO []⟩;rw [hf,hs];simp;omega)
  · refine eC (.inl rfl) rfl (sO ?_);rw [hf,cQ (by omega)];rfl
theorem PI {a b : Int} (h : 0 ≤ a ∧ a ≤ 1099511627776 ∧ 0 ≤ b ∧ b ≤ 1099511627776) : sK [a,b] = true := by simp [sK];omega
theorem PK {a b : Int} (h : ¬ (0 ≤ a ∧ a ≤ 1099511627776 ∧ 0 ≤ b ∧ b ≤ 1099511627776)) : sK [a,b] = false := by
  rw [← eF];simp [sK];omega
theorem PH {a b c d : Int} (h : 0 ≤ a ∧ a ≤ 1099511627776 ∧ 0 ≤ b ∧ b ≤ 1099511627776 ∧ 0 ≤ c ∧ c ≤ 1099511627776 ∧ 0 ≤ d ∧ d ≤ 1099511627776) : sK [a,b,c,d] = true := by simp [sK];omega
theorem PJ {a b c d : Int} (h : ¬ (0 ≤ a ∧ a ≤ 1099511627776 ∧ 0 ≤ b ∧ b ≤ 1099511627776 ∧ 0 ≤ c ∧ c ≤ 1099511627776 ∧ 0 ≤ d ∧ d ≤ 1099511627776)) : sK [a,b,c,d] = false := by
  rw [← eF];simp [sK];omega
theorem UJ {a b : Int} (h : 0 ≤ a ∧ a ≤ 1099511627776 ∧ 0 ≤ b ∧ b ≤ 1099511627776) : aQ Tryz.prog 110 [.rowE (ints [a,b]) 1] [] (.b true) [] := PI h ▸ yW [a,b] (by simp)
theorem UL {a b : Int} (h : ¬ (0 ≤ a ∧ a ≤ 1099511627776 ∧ 0 ≤ b ∧ b ≤ 1099511627776)) : aQ Tryz.prog 110 [.rowE (ints [a,b]) 1] [] (.b false) [] := PK h ▸ yW [a,b] (by simp)
theorem Z4 {a b c d : Int} (h : 0 ≤ a ∧ a ≤ 1099511627776 ∧ 0 ≤ b ∧ b ≤ 1099511627776 ∧ 0 ≤ c ∧ c ≤ 1099511627776 ∧ 0 ≤ d ∧ d ≤ 1099511627776) : aQ Tryz.prog 110 [.rowE (ints [a,b,c,d]) 1] [] (.b true) [] := PH h ▸ yW [a,b,c,d] (by simp)
theorem UK {a b c d : Int} (h : ¬ (0 ≤ a ∧ a ≤ 1099511627776 ∧ 0 ≤ b ∧ b ≤ 1099511627776 ∧ 0 ≤ c ∧ c ≤ 1099511627776 ∧ 0 ≤ d ∧ d ≤ 1099511627776)) : aQ Tryz.prog 110 [.rowE (ints [a,b,c,d]) 1] [] (.b false) [] := PJ h ▸ yW [a,b,c,d] (by simp)
theorem JL (f t n s : Int) (hf : 0 ≤ f ∧ f ≤ 20001 ∧ 0 ≤ t ∧ t ≤ 20001) (h : 0 ≤ n ∧ n ≤ 1099511627776 ∧ 0 ≤ s ∧ s ≤ 1099511627776) : aQ Tryz.prog 81 [jT f t,.i n,.i s] [] (.tup [jT (AD (f - n - s) (t - max (n - s) 0)) (cutT (f - n - s) (t - max (n - s) 0)),.b (vQ (f - n - s) (t - max (n - s) 0))]) [] := by
  refine bK T Tryz.func81 rfl rfl rfl rfl ?_
  (repeat' (first|(first|(refine eJ ?_)|(refine nM ?_)|(refine rI ?_)|(refine oE ?_))|(first|(refine vV (by first|exact bU rfl|exact fA rfl|exact bV T rfl rfl rfl|exact aS T rfl rfl rfl rfl|exact cJ rfl rfl (by omega) (by omega)|exact fB rfl|exact iL rfl rfl|exact vM rfl rfl|exact eH T rfl rfl rfl rfl|exact eS rfl rfl (W6 _ _) rfl rfl rfl|exact eI rfl rfl (UJ h) (by ((repeat (first|exact .nil|exact .v _|refine .cons ?_ ?_|refine .sl rfl (by simp) ?_));done)) rfl rfl) ?_)|(refine aR T rfl rfl rfl rfl rfl rfl (by decide) rfl ?_)|(refine fT ?_)|(refine bS (by first|exact bH T rfl|exact cW rfl rfl|exact bC T rfl rfl (by decide) (by decide) rfl rfl rfl) rfl ?_))|((refine wU ?_))));exact rQ
theorem FJ (f t n s : Int) (h : ¬ (0 ≤ n ∧ n ≤ 1099511627776 ∧ 0 ≤ s ∧ s ≤ 1099511627776)) : aQ Tryz.prog 81 [jT f t,.i n,.i s] [] (.tup [jT 0 0,.b false]) [] := by
  refine bK T Tryz.func81 rfl rfl rfl rfl ?_
  (repeat' (first|(first|(refine eJ ?_)|(refine nM ?_)|(refine oE ?_))|(first|(refine vV (by first|exact bU rfl|exact fA rfl|exact fB rfl|exact eH T rfl rfl rfl rfl|exact eI rfl rfl (UL h) (by ((repeat (first|exact .nil|exact .v _|refine .cons ?_ ?_|refine .sl rfl (by simp) ?_));done)) rfl rfl) ?_)|(refine aR T rfl rfl rfl rfl rfl rfl (by decide) rfl ?_)|(refine fT ?_)|(refine bS (by first|exact bH T rfl|exact cW rfl rfl|exact bC T rfl rfl (by decide) (by decide) rfl rfl rfl) rfl ?_))|((refine wT ?_))));exact rQ
def Z5 (a b c d : Int) : Prop := 0 ≤ a ∧ a ≤ 1099511627776 ∧ 0 ≤ b ∧ b ≤ 1099511627776 ∧ 0 ≤ c ∧ c ≤ 1099511627776 ∧ 0 ≤ d ∧ d ≤ 1099511627776
theorem EW (t u w e : Int) (h : ¬ Z5 t u w e) : aQ Tryz.prog 78 [.i t,.i u,.i w,.i e] [] (.tup [jT 0 0,.b false]) [] := by
  refine bK T Tryz.func78 rfl rfl rfl rfl ?_
  (repeat' (first|(first|(refine eJ ?_)|(refine nM ?_)|(refine oE ?_))|(first|(refine vV (by first|exact bU rfl|exact fA rfl|exact fB rfl|exact eH T rfl rfl rfl rfl|exact eI rfl rfl (UK h) (by ((repeat (first|exact .nil|exact .v _|refine .cons ?_ ?_|refine .sl rfl (by simp) ?_));done)) rfl rfl) ?_)|(refine aR T rfl rfl rfl rfl rfl rfl (by decide) rfl ?_)|(refine fT ?_)|(refine bS (by first|exact bH T rfl|exact bC T rfl rfl (by decide) (by decide) rfl rfl rfl) rfl ?_))|((refine wT ?_))));exact rQ
theorem BI (t u w e : Int) (h : Z5 t u w e) (h1 : w + e - t < 0 ∨ u = 0 ∧ 0 < w - e - t) : aQ Tryz.prog 78 [.i t,.i u,.i w,.i e] [] (.tup [jT 0 0,.b false]) [] := by
  have h' := h;unfold Z5 at h';refine bK T Tryz.func78 rfl rfl rfl rfl ?_
  (repeat' (first|(first|(refine eJ ?_)|(refine nM ?_)|(refine sQ ?_)|(refine rI ?_)|(refine oE ?_))|(first|(refine vV (by first|exact bU rfl|exact fA rfl|exact jM rfl rfl|exact jA rfl rfl|exact bF rfl rfl (by omega) (by omega)|exact cJ rfl rfl (by omega) (by omega)|exact aN rfl rfl|exact gN rfl rfl|exact fC rfl rfl|exact fB rfl|exact eH T rfl rfl rfl rfl|exact eI rfl rfl (Z4 h) (by ((repeat (first|exact .nil|exact .v _|refine .cons ?_ ?_|refine .sl rfl (by simp) ?_));done)) rfl rfl) ?_)|(refine aR T rfl rfl rfl rfl rfl rfl (by decide) rfl ?_)|(refine fT ?_)|(refine R2 rfl rfl ?_ rfl)|(refine R3 rfl rfl ?_ rfl)|(refine GU rfl rfl ?_ rfl)|(refine qD rfl rfl (fun hb=>?_) (fun hb=>?_) rfl<;>(rw [hb];(try simp only [nm] at hb)))|(refine bS (by first|exact bH T rfl|exact bC T rfl rfl (by decide) (by decide) rfl rfl rfl) rfl ?_))|(first|(refine wT ?_)|(refine wU ?_)|(refine pU rfl (fun hb=>?_) (fun hb=>?_)<;>(try simp only [nm] at hb)))));all_goals first | (exfalso;omega) | exact rQ | skip
theorem BJ (t u w e : Int) (h : Z5 t u w e) (h1 : 0 ≤ w + e - t) (h2 : u = 0) (h3 : w - e - t ≤ 0) : aQ Tryz.prog 78 [.i t,.i u,.i w,.i e] [] (.tup [jT 0 20001,.b true]) [] := by
  have h' := h;unfold Z5 at h';refine bK T Tryz.func78 rfl rfl rfl rfl ?_
  (repeat' (first|(first|(refine eJ ?_)|(refine nM ?_)|(refine sQ ?_)|(refine rI ?_)|(refine oE ?_))|(first|(refine vV (by first|exact bU rfl|exact fA rfl|exact jM rfl rfl|exact jA rfl rfl|exact bF rfl rfl (by omega) (by omega)|exact cJ rfl rfl (by omega) (by omega)|exact aN rfl rfl|exact gN rfl rfl|exact fC rfl rfl|exact fB rfl|exact eH T rfl rfl rfl rfl|exact eI rfl rfl (Z4 h) (by ((repeat (first|exact .nil|exact .v _|refine .cons ?_ ?_|refine .sl rfl (by simp) ?_));done)) rfl rfl|exact kC (ST)) ?_)|(refine aR T rfl rfl rfl rfl rfl rfl (by decide) rfl ?_)|(refine fT ?_)|(refine R2 rfl rfl ?_ rfl)|(refine R3 rfl rfl ?_ rfl)|(refine GU rfl rfl ?_ rfl)|(refine qD rfl rfl (fun hb=>?_) (fun hb=>?_) rfl<;>(rw [hb];(try simp only [nm] at hb)))|(refine bS (by first|exact bH T rfl|exact bC T rfl rfl (by decide) (by decide) rfl rfl rfl) rfl ?_))|(first|(refine wT ?_)|(refine wU ?_)|(refine pU rfl (fun hb=>?_) (fun hb=>?_)<;>(try simp only [nm] at hb)))));all_goals first | exact rQ | (exfalso;omega)
def zB6 (t u w e : Int) : Int := (max (w - e - t) 0 + u - 1) / u
def zB5 (t u w e : Int) : Int := (w + e - t) / u + 1
set_option maxHeartbeats 1000000 in
theorem EX (t u w e : Int) (h : Z5 t u w e) (h1 : 0 ≤ w + e - t) (h2 : 0 < u) : aQ Tryz.prog 78 [.i t,.i u,.i w,.i e] [] (.tup [jT (AD (zB6 t u w e) (zB5 t u w e)) (cutT (zB6 t u w e) (zB5 t u w e)),.b (vQ (zB6 t u w e) (zB5 t u w e))]) [] := by
  have h' := h;unfold Z5 at h';have q1 := Int.ediv_nonneg h1 (Int.le_of_lt h2);have q2 := Int.ediv_le_self u h1;refine bK T Tryz.func78 rfl rfl rfl rfl ?_
  (repeat' (first|(first|(refine eJ ?_)|(refine nM ?_)|(refine sQ ?_)|(refine rI ?_)|(refine oE ?_))|(first|(refine vV (by first|exact bU rfl|exact fA rfl|exact jM rfl rfl|exact jA rfl rfl|exact bF rfl rfl (by omega) (by omega)|exact cJ rfl rfl (by omega) (by omega)|exact aN rfl rfl|exact gN rfl rfl|exact fC rfl rfl|exact fB rfl|exact eH T rfl rfl rfl rfl|exact eI rfl rfl (Z4 h) (by ((repeat (first|exact .nil|exact .v _|refine .cons ?_ ?_|refine .sl rfl (by simp) ?_));done)) rfl rfl) ?_)|(refine aR T rfl rfl rfl rfl rfl rfl (by decide) rfl ?_)|(refine fT ?_)|(refine R2 rfl rfl ?_ rfl)|(refine R3 rfl rfl ?_ rfl)|(refine GU rfl rfl ?_ rfl)|(refine qD rfl rfl (fun hb=>?_) (fun hb=>?_) rfl<;>(rw [hb];(try simp only [nm] at hb)))|(refine bS (by first|exact bH T rfl|exact bC T rfl rfl (by decide) (by decide) rfl rfl rfl) rfl ?_))|(first|(refine dV rfl (by first|exact bU rfl|exact bF rfl rfl (by omega) (by omega)|exact cJ rfl rfl (by omega) (by omega)|exact TY rfl rfl (by omega) (by omega) (by omega)|exact iL rfl rfl|exact vM rfl rfl|exact eH T rfl rfl rfl rfl|exact eS rfl rfl (W6 _ _) rfl rfl rfl) ?_)|(refine AA rfl rfl (by (dsimp only [List.nil_append,List.cons_append,kK,List.append_nil];done)) ?_))|(refine ED (id := 8) [[],[0],[],[0,1,2],rN 4,[],rN 6,[],[],[7,8],[7,8,9],rN 11,rN 12,rN 13,rN 13] (rM 46 15) [[],[],[46,47],[],[],rM 46 5,[],rM 46 7,rM 46 8,rM 46 7,rM 46 7,[],[],[],[59]] cM (by decide +kernel) ?_)|(first|(refine wT ?_)|(refine wU ?_)|(refine pU rfl (fun hb=>?_) (fun hb=>?_)<;>(try simp only [nm] at hb)))));all_goals first | (exfalso;omega) | exact rQ
end Go.Proofs.YtbialaoigijlgaaGreatDoor
namespace Go.Ld
open Go.Ab Go.Proofs.YtbialaoigijlgaaGreatDoor
abbrev SP := Int × Int
abbrev W := List Int × Int × List SP
abbrev G := List Int × List W
abbrev eO (l : List SP) : List (List AV) := l.map fun p => [AV.i p.1,AV.i p.2]
abbrev wA (w : W) : List AV := [.rowE (Go.Proofs.YtbialaoigijlgaaGreatDoor.ints w.1) 1,.i w.2.1,.rowE (eO w.2.2) 2]
abbrev eW (l : List W) : List (List AV) := l.map wA
abbrev gA (g : G) : List AV := [.rowE (Go.Proofs.YtbialaoigijlgaaGreatDoor.ints g.1) 1,.rowE (eW g.2) 3]
abbrev gZ (l : List G) : List (List AV) := l.map gA
def cI (a b : Int) : Int := if a < b then -1 else if b < a then 1 else 0
def E3 (a b : Int) : Int := if a = 0 then b else a
def cL : List Int → List Int → Int
  | [],[] => 0
  | [],_ :: _ => -1
  | _ :: _,[] => 1
  | x :: a,y :: b => E3 (cI x y) (cL a b)
def cS (x y : SP) : Int := E3 (cI x.1 y.1) (cI x.2 y.2)
def cB : List SP → List SP → Int
  | [],[] => 0
  | [],_ :: _ => -1
  | _ :: _,[] => 1
  | x :: a,y :: b => E3 (cS x y) (cB a b)
def mT (a b : W) : Int := E3 (cL a.1 b.1) (cB a.2.2 b.2.2)
def eE (a b : W) : Int := E3 (mT a b) (cI a.2.1 b.2.1)
structure V6 {α : Type} (c : α → α → Int) : Prop where
  eq : ∀ a b,c a b = 0 ↔ a = b
  neg : ∀ a b,c a b = - c b a
  tr : ∀ a b d,c a b < 0 → c b d < 0 → c a d < 0
theorem V6.rfl' {α : Type} {c : α → α → Int} (h : V6 c) (a : α) : c a a = 0 := (h.eq a a).2 rfl
theorem V6.le_tr {α : Type} {c : α → α → Int} (h : V6 c) {a b d : α} (h1 : c a b ≤ 0) (h2 : c b d ≤ 0) : c a d ≤ 0 := by
  by_cases e : c a b = 0
  · rw [(h.eq _ _).1 e];exact h2
  · by_cases e' : c b d = 0
    · rw [← (h.eq _ _).1 e'];exact h1
    · have := h.tr a b d (by omega) (by omega);omega
theorem oD : V6 cI where
  eq a b := by unfold cI;split <;> (try split) <;> omega
  neg a b := by unfold cI;split <;> split <;> (try split) <;> omega
  tr a b d := by unfold cI; repeat' split
                 all_goals omega
theorem X6 {a b : Int} : E3 a b = 0 ↔ a = 0 ∧ b = 0 := by unfold E3;split <;> omega
theorem X5 {a b : Int} : E3 (-a) (-b) = - E3 a b := by unfold E3;split <;> split <;> omega
theorem FN {a b : Int} : E3 a b < 0 ↔ a < 0 ∨ a = 0 ∧ b < 0 := by unfold E3;split <;> omega
theorem V6.lex {α β γ : Type} {c : α → α → Int} {d : β → β → Int} (hc : V6 c) (hd : V6 d) (f : γ → α) (g : γ → β) (inj : ∀ x y, f x = f y → g x = g y → x = y) : V6 fun x y => E3 (c (f x) (f y)) (d (g x) (g y)) where
  eq a b := by
    rw [X6,hc.eq,hd.eq];exact ⟨fun h => inj _ _ h.1 h.2,fun h => by rw [h];exact ⟨rfl,rfl⟩⟩
  neg a b := by rw [hc.neg,hd.neg,X5]
  tr a b e h1 h2 := by
    simp only [FN] at *;rcases h1 with h1 | ⟨h1,h1'⟩
    · rcases h2 with h2 | ⟨h2,h2'⟩
      · exact .inl (hc.tr _ _ _ h1 h2)
      · rw [(hc.eq _ _).1 h2] at h1;exact .inl h1
    · rw [(hc.eq _ _).1 h1];rcases h2 with h2 | ⟨h2,h2'⟩
      · exact .inl h2
      · exact .inr ⟨h2,hd.tr _ _ _ h1' h2'⟩
theorem QC : V6 cL where
  eq := fun a => by
    induction a with
    | nil => intro b;cases b <;> simp [cL]
    | cons x a ih => intro b; cases b with
      | nil => simp [cL]
      | cons y b => simp only [cL,X6,oD.eq,ih,List.cons.injEq]
  neg := fun a => by
    induction a with
    | nil => intro b;cases b <;> simp [cL]
    | cons x a ih => intro b; cases b with
      | nil => simp [cL]
      | cons y b => simp only [cL];rw [oD.neg,ih,X5]
  tr := fun a => by
    induction a with
    | nil => intro b d;cases b <;> cases d <;> simp [cL]
    | cons x a ih =>
      intro b d h1 h2;cases b with
      | nil => simp [cL] at h1
      | cons y b => cases d with
        | nil => simp [cL] at h2
        | cons z d =>
          simp only [cL,FN] at *;rcases h1 with h1 | ⟨h1,h1'⟩
          · rcases h2 with h2 | ⟨h2,h2'⟩
            · exact .inl (oD.tr _ _ _ h1 h2)
            · rw [(oD.eq _ _).1 h2] at h1;exact .inl h1
          · rw [(oD.eq _ _).1 h1];rcases h2 with h2 | ⟨h2,h2'⟩
            · exact .inl h2
            · exact .inr ⟨h2,ih _ _ h1' h2'⟩
theorem N8 : V6 cS := V6.lex oD oD (·.1) (·.2) fun x y h1 h2 => Prod.ext h1 h2
theorem QD : V6 cB where
  eq := fun a => by
    induction a with
    | nil => intro b;cases b <;> simp [cB]
    | cons x a ih => intro b; cases b with
      | nil => simp [cB]
      | cons y b => simp only [cB,X6,N8.eq,ih,List.cons.injEq]
  neg := fun a => by
    induction a with
    | nil => intro b;cases b <;> simp [cB]
    | cons x a ih => intro b; cases b with
      | nil => simp [cB]
      | cons y b => simp only [cB];rw [N8.neg,ih,X5]
  tr := fun a => by
    induction a with
    | nil => intro b d;cases b <;> cases d <;> simp [cB]
    | cons x a ih =>
      intro b d h1 h2;cases b with
      | nil => simp [cB] at h1
      | cons y b => cases d with
        | nil => simp [cB] at h2
        | cons z d =>
          simp only [cB,FN] at *;rcases h1 with h1 | ⟨h1,h1'⟩
          · rcases h2 with h2 | ⟨h2,h2'⟩
            · exact .inl (N8.tr _ _ _ h1 h2)
            · rw [(N8.eq _ _).1 h2] at h1;exact .inl h1
          · rw [(N8.eq _ _).1 h1];rcases h2 with h2 | ⟨h2,h2'⟩
            · exact .inl h2
            · exact .inr ⟨h2,ih _ _ h1' h2'⟩
theorem CP : V6 (fun x y : List Int × List SP => E3 (cL x.1 y.1) (cB x.2 y.2)) := V6.lex QC QD (·.1) (·.2) fun x y h1 h2 => Prod.ext h1 h2
theorem iF : V6 eE := V6.lex CP oD (fun w : W => (w.1,w.2.2)) (fun w => w.2.1) fun x y h1 h2 => by
  obtain ⟨a,b,c⟩ := x;obtain ⟨a',b',c'⟩ := y;simp at h1 h2;obtain ⟨h1,h3⟩ := h1;rw [h1,h2,h3]
theorem nF {a b : W} : mT a b = 0 ↔ a.1 = b.1 ∧ a.2.2 = b.2.2 := by unfold mT;rw [X6,QC.eq,QD.eq]
def Q4 {α : Type} (c : α → α → Int) (w : α) : List α → List α
  | [] => [w]
  | x :: l => if c w x ≤ 0 then w :: x :: l else x :: Q4 c w l
def dK {α : Type} (c : α → α → Int) : List α → List α
  | [] => []
  | x :: l => Q4 c x (dK c l)
theorem wO {α : Type} (c : α → α → Int) (w : α) : ∀ l, (Q4 c w l).Perm (w :: l)
  | [] => .refl _
  | x :: l => by
    unfold Q4;split
    · exact .refl _
    · exact ((wO c w l).cons x).trans (.swap _ _ _)
theorem dJ {α : Type} (c : α → α → Int) : ∀ l, (dK c l).Perm l
  | [] => .refl _
  | x :: l => (wO c x _).trans ((dJ c l).cons x)
theorem HX {α : Type} {c : α → α → Int} (h : V6 c) (w : α) : ∀ {l : List α}, l.Pairwise (fun a b => c a b ≤ 0) → (Q4 c w l).Pairwise (fun a b => c a b ≤ 0)
  | [],_ => kH _ _
  | x :: l,hl => by
    rw [eQ] at hl;unfold Q4;split
    · rename_i hw;rw [eQ,eQ];refine ⟨fun y hy => ?_,hl⟩
      rcases bY.1 hy with rfl | hy
      · exact hw
      · exact h.le_tr hw (hl.1 y hy)
    · rename_i hw;rw [eQ];refine ⟨fun y hy => ?_,HX h w hl.2⟩
      rcases bY.1 ((wO c w l).mem_iff.1 hy) with rfl | hy
      · have := h.neg x y;omega
      · exact hl.1 y hy
theorem jX {α : Type} {c : α → α → Int} (h : V6 c) : ∀ l, (dK c l).Pairwise (fun a b => c a b ≤ 0)
  | [] => .nil
  | x :: l => HX h x (jX h l)
theorem xN {α : Type} {c : α → α → Int} (h : V6 c) {l m : List α} (hp : m.Perm l) (hm : m.Pairwise (fun a b => c a b ≤ 0)) : m = dK c l :=
  List.Perm.eq_of_pairwise (le := fun a b => c a b ≤ 0) (fun a b _ _ h1 h2 => (h.eq a b).1 (by have := h.neg a b;omega)) hm (jX h l) (hp.trans (dJ c l).symm)
def jB {α : Type} (e : α → α → Bool) (p : α) : List α → List α
  | [] => []
  | y :: l => if e y p then jB e y l else y :: jB e y l
def vR {α : Type} (e : α → α → Bool) : List α → List α
  | [] => []
  | x :: l => x :: jB e x l
def xI (a b : W) : Bool := decide (mT a b = 0)
def iB (l : List W) : List W := vR xI (dK eE l)
structure Cx where
  m : Int
  st : Int
  er : Int
  sl : Int
  ks : List KD
  ls : List LT
  bs : List BX
structure Ev where
  k : Int
  a : Int
  b : Int
  n : Int
  ids : List Int
def gP (w : W) (i : Nat) : Int := w.1.getD i 0
def gC (w : W) (i : Nat) : SP := w.2.2.getD i (0,0)
def sC (w : W) (i : Nat) (r : SP) : W := (w.1,w.2.1,w.2.2.set i r)
def Q6 (f t : Int) : SP × Bool := ((AD f t,cutT f t),vQ f t)
def ID (a b c d : Int) : Bool := decide (0 ≤ a ∧ a ≤ 1099511627776 ∧ 0 ≤ b ∧ b ≤ 1099511627776 ∧ 0 ≤ c ∧ c ≤ 1099511627776 ∧ 0 ≤ d ∧ d ≤ 1099511627776)
def YS (t u w e : Int) : SP × Bool := if ID t u w e = true then (if w + e - t < 0 ∨ u = 0 ∧ 0 < w - e - t then ((0,0),false) else if u = 0 then ((0,20001),true) else Q6 (zB6 t u w e) (zB5 t u w e)) else ((0,0),false)
def J2 (t u w e : Int) (r : SP) : SP × Bool := let q := YS t u w e;if q.2 then Q6 (max r.1 q.1.1) (min r.2 q.1.2) else q
def yX (r : SP) (n s : Int) : SP × Bool := if 0 ≤ n ∧ n ≤ 1099511627776 ∧ 0 ≤ s ∧ s ≤ 1099511627776 then Q6 (r.1 - n - s) (r.2 - max (n - s) 0) else ((0,0),false)
def jN (c : Cx) (w : W) (i : Nat) (s : Ev) : W × Bool :=
  if s.k = 0 then (if gP w i ∈ s.ids then (w,decide ((s.ids.length : Int) - 1 ≤ c.st)) else ((w.1,w.2.1 + 1,w.2.2),decide ((s.ids.length : Int) ≤ c.st)))
  else if s.k = 1 then
    let b := c.bs.getD (gP w i).toNat (0,0,0)
    let q := J2 b.2.2 (rX c.ks c.ls b.1) s.n c.er (gC w i)
    (sC w i q.1,q.2)
  else if s.k = 2 then let q := yX (gC w i) s.n c.sl;(sC w i q.1,q.2)
  else if s.k = 3 then (sC w i (s.n,s.n + 1),DD (gC w i).1 (gC w i).2 s.n)
  else if s.k = 5 then (w,decide (gP w i = s.n))
  else (w,true)
def C6 (w : W) (i k : Nat) : W := ((w.1.set i (gP w k)).set k (gP w i),w.2.1,(w.2.2.set i (gC w k)).set k (gC w i))
def mZ (l : List G) (b : Int) : Int := match l.findIdx? fun g => decide (b ∈ g.1) with
  | some i => i
  | none => -1
def L4 (a b : G) (x y : W) (l : List Int) : W := (l.map (fun k => if k ∈ a.1 then gP x (a.1.idxOf k) else gP y (b.1.idxOf k)),x.2.1 + y.2.1,l.map (fun k => if k ∈ a.1 then gC x (a.1.idxOf k) else gC y (b.1.idxOf k)))
def nI (a b : G) (l : List Int) : List W := a.2.flatMap fun x => b.2.map fun y => L4 a b x y l
def mP (l : List G) (i : Nat) : G := l.getD i ([],[])
def oY (x y : G) : G := let bodies := dK cI (x.1 ++ y.1);(bodies,nI x y bodies)
def join (l : List G) (a b : Int) : Option (List G) :=
  let i := mZ l a;let k := mZ l b
  if i = k then some l else
  let x := mP l i.toNat;let y := mP l k.toNat
  if 6 < x.1.length + y.1.length ∨ 1000 < x.2.length * y.2.length then none else
  some ((l.set (min i k).toNat (oY x y)).eraseIdx (max i k).toNat)
def jL (g : G) : Int := match g.2 with
  | [] => 0
  | w :: l => l.foldl (fun m x => if x.2.1 < m then x.2.1 else m) w.2.1
def uW (g : G) (i : Nat) : Bool := match g.2 with
  | [] => false
  | f :: l => (f :: l).all fun w => decide (gP w i = gP f i ∧ gC w i = gC f i)
def gQ (g : G) : Option Nat := if g.1.length < 2 ∨ g.2 = [] then none else (List.range g.1.length).find? (uW g)
def iD (g : G) : W := g.2.headD ([],0,[])
def mM (g : G) (k : Nat) : G := ([g.1.getD k 0],[([gP (iD g) k],0,[gC (iD g) k])])
def jK (g : G) (k : Nat) : G := (g.1.eraseIdx k,iB (g.2.map fun w => (w.1.eraseIdx k,w.2.1,w.2.2.eraseIdx k)))
def mD : Nat → G → List G
  | 0,g => [g]
  | n + 1, g => match gQ g with
    | none => [g]
    | some k => mM g k :: mD n (jK g k)
def cG (a b : G) : Int := cI (a.1.headD 0) (b.1.headD 0)
def xH (l : List G) : List G := dK cG (l.flatMap fun g => mD g.1.length g)
def tB (l : List G) : Int := (l.map jL).sum
def paid (c : Cx) (all : List G) : List G := all.map fun g => (g.1,g.2.filter fun w => decide (w.2.1 + (tB all - jL g) ≤ c.m))
def J6 (c : Cx) (all : List G) : List G := xH (paid c all)
def oW (c : Cx) (s : Ev) (g : G) : List W :=
  let i := g.1.idxOf s.a
  g.2.flatMap fun w => (if (jN c w i s).2 then [(jN c w i s).1] else []) ++ (if s.k = 4 then [C6 w i (g.1.idxOf s.b)] else [])
def VG (l : List Int) (n : Int) : Bool := (List.range l.length).all fun i => decide (0 ≤ l.getD i 0 ∧ l.getD i 0 ≤ n - 1 ∧ (0 < i → l.getD (i - 1) 0 < l.getD i 0))
def lR (n : Int) (s : Ev) : Bool := decide (0 ≤ s.a ∧ s.a ≤ n - 1) && decide (s.k = 0 ∨ s.ids.length = 0) && decide (s.k = 4 ∨ s.b = 0) &&
  (if s.k = 0 then decide (s.n = 0) && VG s.ids n else if s.k = 1 ∨ s.k = 2 ∨ s.k = 3 then decide (0 ≤ s.n ∧ s.n ≤ 1099511627776) else if s.k = 4 then decide (s.n = 0 ∧ s.a + 1 ≤ s.b ∧ s.b ≤ n - 1) else if s.k = 5 then decide (0 ≤ s.n ∧ s.n ≤ n - 1) else false)
def H0 (c : Cx) (l all : List G) (s : Ev) : Int × List G :=
  let at_ := (mZ all s.a).toNat
  let g := mP all at_
  let ws := iB (oW c s g)
  if ws = [] then (26,l) else if 1000 < ws.length then (6,l) else
  let out := J6 c (all.set at_ (g.1,ws))
  if out.any (fun g => g.2.isEmpty) then (26,l) else (0,out)
def qG (c : Cx) (l : List G) (s : Ev) : Int × List G :=
  if lR c.bs.length s then
    (if s.k = 4 then (match join l s.a s.b with
      | none => (6,l)
      | some all => H0 c l all s)
    else H0 c l l s)
  else (1,l)
def rL (c : Cx) : List G := (List.range c.bs.length).map fun (i : Nat) => ([(i : Int)],[([(i : Int)],0,[((c.bs.getD i (0,0,0)).2.1,(c.bs.getD i (0,0,0)).2.1 + 1)])])
theorem TE {a b d : W} (h1 : mT a b < 0) (h2 : mT b d < 0) : mT a d < 0 := CP.tr (a.1,a.2.2) (b.1,b.2.2) (d.1,d.2.2) h1 h2
theorem FL {a b d : W} (h : mT b a = 0) : mT a d = mT b d := by
  obtain ⟨h1,h2⟩ := nF.1 h;unfold mT;rw [h1,h2]
theorem IG {a b : W} (h : eE a b ≤ 0) : mT a b < 0 ∨ mT a b = 0 ∧ a.2.1 ≤ b.2.1 := by
  unfold eE E3 at h;split at h
  · rename_i e;refine .inr ⟨e,?_⟩;unfold cI at h;split at h <;> (try split at h) <;> omega
  · omega
theorem tW {α : Type} (e : α → α → Bool) : ∀ (p : α) (l : List α), (jB e p l).Sublist l
  | _,[] => .slnil
  | p,y :: l => by
    unfold jB;split
    · exact (tW e y l).cons _
    · exact (tW e y l).cons_cons _
theorem U5 {α : Type} (e : α → α → Bool) : ∀ (l : List α), (vR e l).Sublist l
  | [] => .slnil
  | x :: l => (tW e x l).cons_cons _
theorem vE {l : List W} {w : W} (h : w ∈ iB l) : w ∈ l := (dJ eE l).mem_iff.1 ((U5 _ _).mem h)
theorem vG (l : List W) : (iB l).length ≤ l.length := by
  have := (U5 xI (dK eE l)).length_le;rw [(dJ eE l).length_eq] at this;exact this
theorem rT : ∀ (l : List W) (q p : W), (p :: l).Pairwise (fun a b => eE a b ≤ 0) → mT q p = 0 → q.2.1 ≤ p.2.1 → ∀ w, w ∈ p :: l → ∃ v, v ∈ q :: jB xI p l ∧ mT v w = 0 ∧ v.2.1 ≤ w.2.1
  | [],q,p,hs,h1,h2,w,hw => by
    rcases bY.1 hw with rfl | hw
    · exact ⟨q,bB,h1,h2⟩
    · cases hw
  | y :: l,q,p,hs,h1,h2,w,hw => by
    have hs' := eQ.1 hs;rcases bY.1 hw with rfl | hw
    · exact ⟨q,bB,h1,h2⟩
    · unfold jB;by_cases e : xI y p = true
      · rw [if_pos e];have e' : mT y p = 0 := by unfold xI at e;simpa using e
        have hpy : mT p y = 0 := by obtain ⟨a,b⟩ := nF.1 e';exact nF.2 ⟨a.symm,b.symm⟩
        rcases IG (hs'.1 y bB) with hl | ⟨_,hl⟩
        · omega
        · refine rT l q y hs'.2 ?_ (by omega) w hw
          obtain ⟨a,b⟩ := nF.1 h1;obtain ⟨a',b'⟩ := nF.1 hpy;exact nF.2 ⟨a.trans a',b.trans b'⟩
      · rw [if_neg e];obtain ⟨v,hv,h3,h4⟩ := rT l y y hs'.2 (nF.2 ⟨rfl,rfl⟩) (iI _) w hw;exact ⟨v,aY _ hv,h3,h4⟩
theorem X4 {l : List W} {w : W} (h : w ∈ l) : ∃ v,v ∈ iB l ∧ v.1 = w.1 ∧ v.2.2 = w.2.2 ∧ v.2.1 ≤ w.2.1 := by
  have hs := jX iF l;have hw := (dJ eE l).mem_iff.2 h;unfold iB;generalize dK eE l = m at *;cases m with
  | nil => cases hw
  | cons x m =>
    obtain ⟨v,hv,h1,h2⟩ := rT m x x hs (nF.2 ⟨rfl,rfl⟩) (iI _) w hw;exact ⟨v,hv,(nF.1 h1).1,(nF.1 h1).2,h2⟩
theorem F6 : ∀ (l : List W) (p : W), (p :: l).Pairwise (fun a b => eE a b ≤ 0) → (∀ z, z ∈ jB xI p l → mT p z < 0) ∧ (jB xI p l).Pairwise (fun a b => mT a b < 0)
  | [],p,_ => ⟨fun z hz => (by cases hz),.nil⟩
  | y :: l,p,hs => by
    have hs' := eQ.1 hs;obtain ⟨h1,h2⟩ := F6 l y hs'.2;unfold jB;by_cases e : xI y p = true
    · rw [if_pos e];have e' : mT y p = 0 := by unfold xI at e;simpa using e
      exact ⟨fun z hz => by rw [FL e'];exact h1 z hz,h2⟩
    · rw [if_neg e];have e' : mT p y < 0 := by
        rcases IG (hs'.1 y bB) with hl | ⟨hl,_⟩
        · exact hl
        · exfalso;apply e;unfold xI;obtain ⟨a,b⟩ := nF.1 hl;simp [nF.2 ⟨a.symm,b.symm⟩]
      refine ⟨fun z hz => ?_,eQ.2 ⟨h1,h2⟩⟩
      rcases bY.1 hz with rfl | hz
      · exact e'
      · exact TE e' (h1 z hz)
theorem L5 (l : List W) : (iB l).Pairwise (fun a b => mT a b < 0) := by
  have hs := jX iF l;unfold iB;generalize dK eE l = m at *;cases m with
  | nil => exact .nil
  | cons x m => exact eQ.2 (F6 m x hs)
theorem E2 {l : List W} : iB l = [] ↔ l = [] := by
  constructor
  · intro h;cases l with
    | nil => rfl
    | cons x l => obtain ⟨v,hv,_⟩ := X4 (l := x :: l) (w := x) bB;rw [h] at hv;cases hv
  · rintro rfl;rfl
abbrev As := Int → Int × SP
def zB4 (bs : List Int) (w : W) (f : As) : Prop := w.1 = bs.map (fun b => (f b).1) ∧ w.2.2 = bs.map (fun b => (f b).2)
def zC4 (g : G) (f : As) (m : Int) : Prop := ∃ w,w ∈ g.2 ∧ zB4 g.1 w f ∧ w.2.1 ≤ m
def Sem : List G → As → Int → Prop
  | [],_,M => 0 ≤ M
  | g :: gs,f,M => ∃ m,zC4 g f m ∧ Sem gs f (M - m)
theorem zC4.mono {g : G} {f : As} {m m' : Int} (h : zC4 g f m) (hm : m ≤ m') : zC4 g f m' := by
  obtain ⟨w,h1,h2,h3⟩ := h;exact ⟨w,h1,h2,by omega⟩
theorem Sem.mono : ∀ {gs : List G} {f : As} {M M' : Int}, Sem gs f M → M ≤ M' → Sem gs f M'
  | [],f,M,M',h,hm => by unfold Sem at *;omega
  | g :: gs,f,M,M',⟨m,h1,h2⟩,hm => ⟨m,h1,h2.mono (by omega)⟩
def RF (r : SP) : Prop := 0 ≤ r.1 ∧ r.1 < r.2 ∧ r.2 ≤ 20001
structure AR (n k : Nat) (w : W) : Prop where
  pl : w.1.length = k
  cl : w.2.2.length = k
  pr : ∀ x,x ∈ w.1 → 0 ≤ x ∧ x < n
  nd : w.1.Nodup
  m0 : 0 ≤ w.2.1
  m1 : w.2.1 ≤ 4000000
  sp : ∀ r,r ∈ w.2.2 → RF r
structure G6 (n : Nat) (g : G) : Prop where
  ne : g.1 ≠ []
  up : g.1.Pairwise (· < ·)
  rg : ∀ b,b ∈ g.1 → 0 ≤ b ∧ b < n
  ln : g.1.length ≤ 6
  ws : ∀ w,w ∈ g.2 → AR n g.1.length w
  same : ∀ w v,w ∈ g.2 → v ∈ g.2 → w.1.Perm v.1
theorem G6.nd {n : Nat} {g : G} (h : G6 n g) : g.1.Nodup := h.up.imp (fun h => by omega)
theorem U3 : ∀ (l : List W) (a : Int), l.foldl (fun m x => if x.2.1 < m then x.2.1 else m) a ≤ a ∧ (∀ x, x ∈ l → l.foldl (fun m x => if x.2.1 < m then x.2.1 else m) a ≤ x.2.1) ∧ (l.foldl (fun m x => if x.2.1 < m then x.2.1 else m) a = a ∨ ∃ x, x ∈ l ∧ l.foldl (fun m x => if x.2.1 < m then x.2.1 else m) a = x.2.1)
  | [],a => ⟨iI _,fun x hx => (by cases hx),.inl rfl⟩
  | y :: l,a => by
    rw [V3];obtain ⟨h1,h2,h3⟩ := U3 l (if y.2.1 < a then y.2.1 else a)
    generalize l.foldl (fun m x => if x.2.1 < m then x.2.1 else m) (if y.2.1 < a then y.2.1 else a) = q at *
    refine ⟨by split at h1 <;> omega,fun x hx => ?_,?_⟩
    · rcases bY.1 hx with rfl | hx
      · split at h1 <;> omega
      · exact h2 x hx
    · rcases h3 with h3 | ⟨x,hx,h3⟩
      · split at h3
        · exact .inr ⟨y,bB,h3⟩
        · exact .inl h3
      · exact .inr ⟨x,aY _ hx,h3⟩
theorem JZ {g : G} (h : g.2 ≠ []) : ∃ w,w ∈ g.2 ∧ w.2.1 = jL g := by
  unfold jL;cases hg : g.2 with
  | nil => exact absurd hg h
  | cons x l =>
    obtain ⟨h1,h2,h3⟩ := U3 l x.2.1;rcases h3 with h3 | ⟨y,hy,h3⟩
    · exact ⟨x,bB,h3.symm⟩
    · exact ⟨y,aY _ hy,h3.symm⟩
def YU (k : Nat) (w : W) : W := (w.1.eraseIdx k,w.2.1,w.2.2.eraseIdx k)
theorem FE {g : G} {i : Nat} (hne : g.2 ≠ []) : uW g i = true ↔ ∀ w,w ∈ g.2 → gP w i = gP (iD g) i ∧ gC w i = gC (iD g) i := by
  unfold uW iD;cases hg : g.2 with
  | nil => exact absurd hg hne
  | cons f l => simp
theorem jF {g : G} {k : Nat} (h : gQ g = some k) : 2 ≤ g.1.length ∧ g.2 ≠ [] ∧ k < g.1.length ∧ ∀ w,w ∈ g.2 → gP w k = gP (iD g) k ∧ gC w k = gC (iD g) k := by
  unfold gQ at h;split at h
  · cases h
  · rename_i hc;have hne : g.2 ≠ [] := fun e => hc (.inr e)
    have h1 := List.find?_some h;have h2 := List.mem_of_find?_eq_some h;rw [fF] at h2;exact ⟨by omega,hne,h2,(FE hne).1 h1⟩
theorem iM {g : G} (h : g.2 ≠ []) : iD g ∈ g.2 := by
  unfold iD;cases hg : g.2 with
  | nil => exact absurd hg h
  | cons f l => simp
theorem rO {α : Type} {l : List α} {k : Nat} {x : α} (h : x ∈ l.eraseIdx k) : x ∈ l := (BC l k).mem h
theorem AR.erase {n k : Nat} {w : W} (h : AR n k w) {i : Nat} (hi : i < k) : AR n (k - 1) (YU i w) where
  pl := by show (w.1.eraseIdx i).length = _;rw [fK,h.pl,if_pos hi]
  cl := by show (w.2.2.eraseIdx i).length = _;rw [fK,h.cl,if_pos hi]
  pr x hx := h.pr x (rO hx)
  nd := h.nd.sublist (BC _ _)
  m0 := h.m0
  m1 := h.m1
  sp r hr := h.sp r (rO hr)
theorem iN {α : Type} : ∀ (l : List α) (i : Nat) (x : α), i < l.length → (l.getD i x :: l.eraseIdx i).Perm l
  | [],i,x,h => by simp at h
  | y :: l,0,x,h => by simp
  | y :: l,i + 1,x,h => by
    simp only [List.getD_cons_succ,List.eraseIdx_cons_succ];exact (List.Perm.swap _ _ _).trans ((iN l i x (by simpa using h)).cons y)
theorem AR.at {n k : Nat} {w : W} (h : AR n k w) {i : Nat} (hi : i < k) : 0 ≤ gP w i ∧ gP w i < n ∧ RF (gC w i) := by
  unfold gP gC;have h1 : i < w.1.length := by rw [h.pl];exact hi
  have h2 : i < w.2.2.length := by rw [h.cl];exact hi
  simp only [List.getD,aB h1,aB h2,uO];exact ⟨(h.pr _ (aK h1)).1,(h.pr _ (aK h1)).2,h.sp _ (aK h2)⟩
theorem G6.one {n : Nat} {g : G} (h : G6 n g) {k : Nat} (hc : gQ g = some k) : G6 n (mM g k) := by
  obtain ⟨h1,hne,hk,hs⟩ := jF hc;have hf := h.ws _ (iM hne);have ha := hf.at hk;refine ⟨by simp [mM],by simp [mM],?_,by simp [mM],?_,?_⟩
  · intro b hb;simp only [mM,dS] at hb;subst hb;simp only [List.getD,aB hk,uO];exact h.rg _ (aK hk)
  · intro w hw;simp only [mM,dS] at hw;subst hw;exact ⟨rfl,rfl,by intro x hx;simp at hx;subst hx;exact ⟨ha.1,ha.2.1⟩,by simp,by simp,by simp,by intro r hr;simp at hr;subst hr;exact ha.2.2⟩
  · intro w v hw hv;simp only [mM,dS] at hw hv;subst hw;subst hv;exact .refl _
theorem G6.rest {n : Nat} {g : G} (h : G6 n g) {k : Nat} (hc : gQ g = some k) : G6 n (jK g k) := by
  obtain ⟨h1,hne,hk,hs⟩ := jF hc;have hl : (g.1.eraseIdx k).length = g.1.length - 1 := by rw [fK,if_pos hk]
  have hm : ∀ w,w ∈ (jK g k).2 → ∃ v,v ∈ g.2 ∧ w = YU k v := by
    intro w hw;obtain ⟨v,hv,rfl⟩ := bL.1 (vE hw);exact ⟨v,hv,rfl⟩
  refine ⟨?_,h.up.sublist (BC _ _),fun b hb => h.rg b (rO hb),?_,?_,?_⟩
  · intro e;have : (g.1.eraseIdx k).length = 0 := by rw [show g.1.eraseIdx k = [] from e];rfl
    omega
  · show (g.1.eraseIdx k).length ≤ 6;have := h.ln;omega
  · intro w hw;obtain ⟨v,hv,rfl⟩ := hm w hw;show AR n (g.1.eraseIdx k).length _;rw [hl];exact (h.ws v hv).erase hk
  · intro w v hw hv;obtain ⟨w,hw',rfl⟩ := hm w hw;obtain ⟨v,hv',rfl⟩ := hm v hv;clear hw hv;have hw := hw';have hv := hv';have h3 := h.same w v hw hv;have e1 := iN w.1 k 0 (by rw [(h.ws w hw).pl];exact hk)
    have e2 := iN v.1 k 0 (by rw [(h.ws v hv).pl];exact hk)
    have e3 : w.1.getD k 0 = v.1.getD k 0 := ((hs w hw).1).trans ((hs v hv).1).symm;rw [e3] at e1;exact (List.perm_cons _).1 (e1.trans (h3.trans e2.symm))
theorem X3 {n : Nat} : ∀ (m : Nat) {g : G}, G6 n g → ∀ x, x ∈ mD m g → G6 n x
  | 0,g,h,x,hx => by simp [mD] at hx;subst hx;exact h
  | m + 1,g,h,x,hx => by
    unfold mD at hx;split at hx
    · simp at hx;subst hx;exact h
    · rename_i k hc;rcases bY.1 hx with rfl | hx
      · exact h.one hc
      · exact X3 m (h.rest hc) x hx
theorem S7 {n : Nat} : ∀ (m : Nat) {g : G}, G6 n g → g.1.length ≤ m → ∀ x, x ∈ mD m g → gQ x = none
  | 0,g,h,hl,x,hx => by exact absurd (fG.1 (Nat.le_zero.1 hl)) h.ne
  | m + 1,g,h,hl,x,hx => by
    unfold mD at hx;split at hx
    · rename_i hc;simp at hx;subst hx;exact hc
    · rename_i k hc;obtain ⟨h1,hne,hk,hs⟩ := jF hc;rcases bY.1 hx with rfl | hx
      · simp [gQ,mM]
      · refine S7 m (h.rest hc) ?_ x hx;show (g.1.eraseIdx k).length ≤ m;rw [fK,if_pos hk];omega
theorem vD {n : Nat} : ∀ (m : Nat) {g : G}, G6 n g → ((mD m g).flatMap (·.1)).Perm g.1
  | 0,g,h => by simp [mD]
  | m + 1,g,h => by
    unfold mD;split
    · simp
    · rename_i k hc;obtain ⟨h1,hne,hk,hs⟩ := jF hc;rw [bZ];exact (List.Perm.append_left _ (vD m (h.rest hc))).trans (iN g.1 k 0 hk)
theorem TB {m : Nat} : ∀ {g : G},g.2 ≠ [] → ∀ x,x ∈ mD m g → x.2 ≠ [] := by
  induction m with
  | zero => intro g h x hx;simp [mD] at hx;subst hx;exact h
  | succ m ih =>
    intro g h x hx;unfold mD at hx;split at hx
    · simp at hx;subst hx;exact h
    · rename_i k hc;rcases bY.1 hx with rfl | hx
      · simp [mM]
      · refine ih ?_ x hx;show iB _ ≠ [];rw [Ne,E2,kU];exact h
theorem NQ {g : G} (h : g.2 = []) : ∀ m, mD m g = [g]
  | 0 => rfl
  | m + 1 => by unfold mD;rw [show gQ g = none by unfold gQ;rw [if_pos (.inr h)]]
theorem CN {m : Nat} : ∀ {g : G} {K : Nat},1 ≤ K → g.2.length ≤ K → ∀ x,x ∈ mD m g → x.2.length ≤ K := by
  induction m with
  | zero => intro g K _ h x hx;simp [mD] at hx;subst hx;exact h
  | succ m ih =>
    intro g K h1 h x hx;unfold mD at hx;split at hx
    · simp at hx;subst hx;exact h
    · rename_i k hc;rcases bY.1 hx with rfl | hx
      · simpa [mM] using h1
      · refine ih h1 ?_ x hx;exact bX (vG _) (by rw [bN];exact h)
def upd (f : As) (a : Int) (x : Int × SP) : As := fun b => if b = a then x else f b
def zB7 (f : As) (a b : Int) : As := fun x => if x = a then f b else if x = b then f a else f x
theorem Y6 {bs : List Int} {a : Int} (ha : a ∈ bs) : ∃ h : bs.idxOf a < bs.length,bs[bs.idxOf a] = a := by
  have h := kX ha;exact ⟨h,List.getElem_idxOf h⟩
end Go.Ld
namespace Go.Proofs.YtbialaoigijlgaaGreatDoor
open Go Go.Ab
section
variable {P : Program} {env : dI} {h : Hp} {d : Option Nat} {ty : TypeId} {pos : String} {af : Array Edge} {g : Option (Nat × Bool)}
theorem UD {t t2 : TypeId} {x y : Operand} {a b : Int} (hx : evu env x = some (.i a)) (hy : evu env y = some (.i b)) (e : b < a) : bT P ⟨d,.binOp .gtr t x y t2,ty,pos,af,g⟩ env h 0 (fun _ => .b true) (fun _ => []) := by
  have := gN (P := P) (d := d) (ty := ty) (pos := pos) (af := af) (g := g) (h := h) (t := t) (t2 := t2) hx hy;simpa [show decide (a > b) = true from decide_eq_true (by omega)] using this
theorem Z2 {t t2 : TypeId} {x y : Operand} {a b : Int} (hx : evu env x = some (.i a)) (hy : evu env y = some (.i b)) (e : a ≤ b) : bT P ⟨d,.binOp .gtr t x y t2,ty,pos,af,g⟩ env h 0 (fun _ => .b false) (fun _ => []) := by
  have := gN (P := P) (d := d) (ty := ty) (pos := pos) (af := af) (g := g) (h := h) (t := t) (t2 := t2) hx hy;simpa [show decide (a > b) = false from decide_eq_false (by omega)] using this
theorem pO {t t2 : TypeId} {x y : Operand} {a b : Int} (hx : evu env x = some (.i a)) (hy : evu env y = some (.i b)) (e : a < b) : bT P ⟨d,.binOp .lss t x y t2,ty,pos,af,g⟩ env h 0 (fun _ => .b true) (fun _ => []) := by
  have := aN (P := P) (d := d) (ty := ty) (pos := pos) (af := af) (g := g) (h := h) (t := t) (t2 := t2) hx hy;simpa [show decide (a < b) = true from decide_eq_true (by omega)] using this
theorem zL {t t2 : TypeId} {x y : Operand} {a b : Int} (hx : evu env x = some (.i a)) (hy : evu env y = some (.i b)) (e : b ≤ a) : bT P ⟨d,.binOp .lss t x y t2,ty,pos,af,g⟩ env h 0 (fun _ => .b false) (fun _ => []) := by
  have := aN (P := P) (d := d) (ty := ty) (pos := pos) (af := af) (g := g) (h := h) (t := t) (t2 := t2) hx hy;simpa [show decide (a < b) = false from decide_eq_false (by omega)] using this
end
end Go.Proofs.YtbialaoigijlgaaGreatDoor
namespace Go.Proofs.YtbialaoigijlgaaGreatDoor
open Go Go.Ab Go.Ld
attribute [local irreducible] VC AW bT aQ
set_option maxHeartbeats 4000000
theorem T3 (x : Int) : aQ Tryz.prog 117 [.i x] [] (.b false) [] := by
  refine bK T Tryz.func117 rfl rfl rfl rfl ?_
  (repeat' (first|refine wS ?_|refine wR ?_|(refine rg 0 (aV ?_))|(refine rg 1 (eG rfl (vV (fL rfl rfl) (aV ?_))))|refine nZ ?_));all_goals first | (exfalso;omega) | exact eC (.inl rfl) rfl (sO (by simp))
theorem U6 (x y : Int) : aQ Tryz.prog 87 [.i x,.i y] [] (.i (cI x y)) [] := by
  by_cases h1 : x < y
  · rw [show cI x y = -1 by unfold cI;rw [if_pos h1]]
    refine bK T Tryz.func87 rfl rfl rfl rfl ?_
    (repeat' (first|refine wS ?_|refine wK ?_|refine wR ?_|refine wU ?_|(refine wC rfl ?_ ?_<;>(intro hb;(try simp only [nm] at hb);try (exfalso;omega)))|(refine rg 0 (aV ?_))|(refine rg 1 (mW rfl (vV (kC (T3 x)) (aV ?_))))|(refine rg 2 (mW rfl (vV (kC (T3 y)) (aV ?_))))|(refine rg 3 (mV ?_))|(refine rg 7 (mV ?_))|(refine rg 9 (eG rfl (vV (aN rfl rfl) ?_)))|(refine rg 10 (aV ?_))|refine nZ ?_));all_goals first | (exfalso;omega) | exact rQ
  · by_cases h2 : y < x
    · rw [show cI x y = 1 by unfold cI;rw [if_neg h1,if_pos h2]]
      refine bK T Tryz.func87 rfl rfl rfl rfl ?_
      (repeat' (first|refine wS ?_|refine wK ?_|refine wR ?_|refine wU ?_|(refine wC rfl ?_ ?_<;>(intro hb;(try simp only [nm] at hb);try (exfalso;omega)))|(refine rg 0 (aV ?_))|(refine rg 1 (mW rfl (vV (kC (T3 x)) (aV ?_))))|(refine rg 2 (mW rfl (vV (kC (T3 y)) (aV ?_))))|(refine rg 3 (mV ?_))|(refine rg 7 (mV ?_))|(refine rg 9 (eG rfl (vV (aN rfl rfl) ?_)))|(refine rg 11 (eG rfl (vV (gN rfl rfl) ?_)))|(refine rg 12 (aV ?_))|refine nZ ?_));all_goals first | (exfalso;omega) | exact rQ
    · rw [show cI x y = 0 by unfold cI;rw [if_neg h1,if_neg h2]]
      refine bK T Tryz.func87 rfl rfl rfl rfl ?_
      (repeat' (first|refine wS ?_|refine wK ?_|refine wR ?_|refine wU ?_|(refine wC rfl ?_ ?_<;>(intro hb;(try simp only [nm] at hb);try (exfalso;omega)))|(refine rg 0 (aV ?_))|(refine rg 1 (mW rfl (vV (kC (T3 x)) (aV ?_))))|(refine rg 2 (mW rfl (vV (kC (T3 y)) (aV ?_))))|(refine rg 3 (mV ?_))|(refine rg 7 (mV ?_))|(refine rg 9 (eG rfl (vV (aN rfl rfl) ?_)))|(refine rg 11 (eG rfl (vV (gN rfl rfl) ?_)))|(refine rg 13 (aV ?_))|refine nZ ?_));all_goals first | (exfalso;omega) | exact rQ
theorem ZL (x y : Int) : aQ Tryz.prog 85 [.rowE (ints [x,y]) 1] [] (.i (E3 x y)) [] := by
  have hlen : (ints [x,y]).length = 2 := rfl;refine bK T Tryz.func85 rfl rfl rfl rfl ?_
  (repeat' (first|refine wS ?_|refine wB ?_|(refine rg 0 (aV ?_))|(refine rg 1 (aV ?_))|(refine rg 2 (mW rfl (qW T rfl (mV ?_))))|refine nZ ?_));refine cT (X := {k : Nat // k ≤ 2 ∧ (1 ≤ k → x = 0) ∧ (2 ≤ k → y = 0)}) (fun k => [(0,.rowE (ints [x,y]) 1),(3,.i 0),(6,.rowE (ints [x,y]) 1),(7,.i (ints [x,y]).length),(8,.i k.1)]) (fun _ => []) (fun k => 2 - k.1) ⟨0,by omega,by omega,by omega⟩ (gO []) ?_
  rintro ⟨k,hk,h1,h2⟩;dsimp only;by_cases hlt : k < 2
  · have hg : ∃ z,(ints [x,y])[k]? = some [AV.i z] ∧ (k = 0 → z = x) ∧ (k = 1 → z = y) := by
      rcases (by omega : k = 0 ∨ k = 1) with rfl | rfl
      · exact ⟨x,rfl,fun _ => rfl,by omega⟩
      · exact ⟨y,rfl,by omega,fun _ => rfl⟩
    obtain ⟨z,hg,hz1,hz2⟩ := hg;by_cases h0 : z = 0
    · (repeat' (first|refine wS ?_|refine wB ?_|refine wK ?_|(refine wC rfl (fun hb => ?_) (fun hb => ?_) <;> (((try simp only [nm] at hb);try (exfalso;omega))))|(refine rg 3 (vV (aN rfl rfl) ?_))|(refine rg 4 (vV (ix T rfl (by omega) (cP [x,y]) hg) (lW T rfl (aV ?_))))|(refine rg 5 (eG rfl (vV (fL rfl rfl) ?_)))|(refine rg 7 (vV (bF rfl rfl (by omega) (by omega)) (mV ?_)))|(refine nZ ?_)));all_goals first | (exfalso;omega) | exact ⟨⟨k + 1,by omega,by omega,by omega⟩,by dsimp only;omega,gO []⟩
    · (repeat' (first|refine wS ?_|refine wB ?_|refine wK ?_|refine wR ?_|(refine wC rfl (fun hb => ?_) (fun hb => ?_) <;> (((try simp only [nm] at hb);try (exfalso;omega))))|(refine rg 3 (vV (aN rfl rfl) ?_))|(refine rg 4 (vV (ix T rfl (by omega) (cP [x,y]) hg) (lW T rfl (aV ?_))))|(refine rg 5 (eG rfl (vV (fL rfl rfl) ?_)))|(refine rg 6 (mW rfl (aV ?_)))|(refine nZ ?_)));all_goals first | (exfalso;omega) | exact eC (.inl rfl) rfl (by rw [show E3 x y = z by unfold E3;split <;> omega];rfl)
  · (repeat' (first|refine wS ?_|refine wR ?_|refine wE ?_|(refine wC rfl (fun hb => ?_) (fun hb => ?_) <;> (((try simp only [nm] at hb);try (exfalso;omega))))|(refine rg 3 (vV (aN rfl rfl) ?_))|(refine rg 8 (mW rfl (aV ?_)))|(refine nZ ?_)));all_goals first | (exfalso;omega) | exact eC (.inl rfl) rfl (by rw [show E3 x y = 0 by unfold E3;split <;> omega];rfl)
theorem zA6 {a b : List Int} {k : Nat} (h1 : k < a.length) (h2 : k < b.length) : cL (a.drop k) (b.drop k) = E3 (cI a[k] b[k]) (cL (a.drop (k + 1)) (b.drop (k + 1))) := by
  rw [aT h1,aT h2];rfl
theorem UZ {a b : List Int} {k : Nat} (h1 : k < a.length) (h2 : k = b.length) : cL (a.drop k) (b.drop k) = 1 := by
  rw [aT h1,cQ (l := b) (by omega)];rfl
theorem UY {a b : List Int} {k : Nat} (h1 : k = a.length) (h2 : k < b.length) : cL (a.drop k) (b.drop k) = -1 := by
  rw [cQ (l := a) (by omega),aT h2];rfl
theorem UX {a b : List Int} {k : Nat} (h1 : k = a.length) (h2 : k = b.length) : cL (a.drop k) (b.drop k) = 0 := by
  rw [cQ (l := a) (by omega),cQ (l := b) (by omega)];rfl
theorem NY (b : Int) : E3 0 b = b := rfl
theorem FM {a b : Int} (h : ¬ a = 0) : E3 a b = a := by unfold E3;rw [if_neg h]
theorem LB (a b : List Int) (ha : a.length ≤ 9223372036854775807) (hb : b.length ≤ 9223372036854775807) : aQ Tryz.prog 114 [.rowE (ints a) 1,.rowE (ints b) 1] [] (.i (cL a b)) [] := by
  have hla : (ints a).length = a.length := by simp
  have hlb : (ints b).length = b.length := by simp
  refine bK T Tryz.func114 rfl rfl rfl rfl ?_
  (repeat' (first|refine wS ?_|refine wB ?_|(refine rg 0 (aV ?_))|(refine rg 1 (mW rfl (qW T rfl (mV ?_))))|refine nZ ?_));refine cT (X := {k : Nat // k ≤ a.length ∧ k ≤ b.length ∧ cL a b = cL (a.drop k) (b.drop k)}) (fun k => [(0,.rowE (ints a) 1),(1,.rowE (ints b) 1),(9,.rowE (ints a) 1),(10,.i (ints a).length),(11,.i k.1)]) (fun _ => []) (fun k => a.length - k.1) ⟨0,by omega,by omega,rfl⟩ (gO []) ?_
  rintro ⟨k,hk,hkb,he⟩;dsimp only;by_cases h1 : k < a.length
  · have g1 := lU h1;by_cases h2 : k < b.length
    · have g2 := lU h2;have e1 := zA6 h1 h2;have hc := U6 a[k] b[k];generalize a[k] = x at *;generalize b[k] = y at *;by_cases h0 : cI x y = 0
      · rw [h0] at hc e1;rw [NY] at e1
        (repeat' (first|refine wS ?_|refine wB ?_|refine wK ?_|refine wU ?_|(refine wC rfl ?_ ?_<;>(intro hb;(try simp only [nm] at hb);try (exfalso;omega)))|(refine rg 2 (vV (aN rfl rfl) ?_))|(refine rg 3 (mW rfl (vV (ix T rfl (by omega) (cP a) g1) (lW T rfl (pG ?_)))))|(refine rg 4 (eG rfl (qW T rfl (vV (kR rfl rfl) ?_))))|(refine rg 6 (eG rfl (vV (ix T rfl (by omega) (cP b) g2) (lW T rfl (aV ?_)))))|(refine rg 7 (eG rfl (vV (kC (hc)) (aV ?_))))|(refine rg 8 (mW rfl (vV (fL rfl rfl) ?_)))|(refine rg 10 (vV (bF rfl rfl (by omega) (by omega)) (mV ?_)))|refine nZ ?_));all_goals first | (exfalso;omega) | exact ⟨⟨k + 1,by omega,by omega,he.trans e1⟩,by dsimp only;omega,gO []⟩
      · rw [FM h0] at e1;generalize cI x y = q at *
        (repeat' (first|refine wS ?_|refine wB ?_|refine wK ?_|refine wR ?_|(refine wC rfl ?_ ?_<;>(intro hb;(try simp only [nm] at hb);try (exfalso;omega)))|(refine rg 2 (vV (aN rfl rfl) ?_))|(refine rg 3 (mW rfl (vV (ix T rfl (by omega) (cP a) g1) (lW T rfl (pG ?_)))))|(refine rg 4 (eG rfl (qW T rfl (vV (kR rfl rfl) ?_))))|(refine rg 6 (eG rfl (vV (ix T rfl (by omega) (cP b) g2) (lW T rfl (aV ?_)))))|(refine rg 7 (eG rfl (vV (kC (hc)) (aV ?_))))|(refine rg 8 (mW rfl (vV (fL rfl rfl) ?_)))|(refine rg 9 (mW rfl (aV ?_)))|refine nZ ?_));all_goals first | (exfalso;omega) | exact eC (.inl rfl) rfl (by rw [he,e1];rfl)
    · have e1 := UZ h1 (show k = b.length by omega)
      (repeat' (first|refine wS ?_|refine wB ?_|refine wK ?_|refine wR ?_|(refine wC rfl ?_ ?_<;>(intro hb;(try simp only [nm] at hb);try (exfalso;omega)))|(refine rg 2 (vV (aN rfl rfl) ?_))|(refine rg 3 (mW rfl (vV (ix T rfl (by omega) (cP a) g1) (lW T rfl (pG ?_)))))|(refine rg 4 (eG rfl (qW T rfl (vV (kR rfl rfl) ?_))))|(refine rg 5 (aV ?_))|refine nZ ?_));all_goals first | (exfalso;omega) | exact eC (.inl rfl) rfl (by rw [he,e1];rfl)
  · by_cases h2 : k < b.length
    · have e1 := UY (show k = a.length by omega) h2
      (repeat' (first|refine wS ?_|refine wR ?_|refine wE ?_|(refine wC rfl ?_ ?_<;>(intro hb;(try simp only [nm] at hb);try (exfalso;omega)))|(refine rg 2 (vV (aN rfl rfl) ?_))|(refine rg 11 (mW rfl (qW T rfl (mW rfl (qW T rfl (vV (aN rfl rfl) ?_))))))|(refine rg 12 (aV ?_))|refine nZ ?_));all_goals first | (exfalso;omega) | exact eC (.inl rfl) rfl (by rw [he,e1];rfl)
    · have e1 := UX (show k = a.length by omega) (show k = b.length by omega)
      (repeat' (first|refine wS ?_|refine wK ?_|refine wR ?_|refine wE ?_|(refine wC rfl ?_ ?_<;>(intro hb;(try simp only [nm] at hb);try (exfalso;omega)))|(refine rg 2 (vV (aN rfl rfl) ?_))|(refine rg 11 (mW rfl (qW T rfl (mW rfl (qW T rfl (vV (aN rfl rfl) ?_))))))|(refine rg 13 (aV ?_))|refine nZ ?_));all_goals first | (exfalso;omega) | exact eC (.inl rfl) rfl (by rw [he,e1];rfl)
theorem gW (l : List SP) : ∀ e,e ∈ eO l → e.length = 2 := by intro e he;obtain ⟨n,_,rfl⟩ := bL.1 he;rfl
theorem R7 {l : List SP} {k : Nat} (h : k < l.length) : (eO l)[k]? = some [AV.i l[k].1,AV.i l[k].2] := by simp [h]
theorem NX (x y : SP) : aQ Tryz.prog 116 [jT x.1 x.2,jT y.1 y.2] [] (.i (cS x y)) [] := by
  have h1 := U6 x.1 y.1;have h2 := U6 x.2 y.2;have h3 := ZL (cI x.1 y.1) (cI x.2 y.2);refine bK T Tryz.func116 rfl rfl rfl rfl ?_
  (repeat' (first|refine wS ?_|refine wR ?_|(refine rg 0 (bS (cW rfl rfl) rfl (bS (cW rfl rfl) rfl (aV ?_))))|(refine cK (id := 1) 17 [[],[0],[],[2],rN 4,[],[5],[],[7],rN 9,rN 10,rN 11] (rM 5 12) [[],[],[5,6],[5,6],[],rM 5 5,rM 5 5,rM 5 7,rM 5 7,[],[],[]] cM rfl (by decide +kernel) (dP T rfl (dO T rfl (dP T rfl (dO T rfl (dV rfl (kC (h1)) (dP T rfl (dO T rfl (dP T rfl (dL T ?_)))))))));refine dV rfl (kC (h2)) (xU rfl rfl rfl (by exact bC T rfl rfl (by decide) (by decide) rfl rfl rfl) rfl ?_);refine dV rfl (by exact eI rfl rfl (h3) (by ((repeat (first|exact .nil|exact .v _|refine .cons ?_ ?_|refine .sl rfl (by simp) ?_));done)) rfl rfl) ?_;(all_goals (refine dE ?_;refine aV ?_)))|refine nZ ?_));all_goals first | (exfalso;omega) | exact rQ
theorem zA7 {a b : List SP} {k : Nat} (h1 : k < a.length) (h2 : k < b.length) : cB (a.drop k) (b.drop k) = E3 (cS a[k] b[k]) (cB (a.drop (k + 1)) (b.drop (k + 1))) := by
  rw [aT h1,aT h2];rfl
theorem VD {a b : List SP} {k : Nat} (h1 : k < a.length) (h2 : k = b.length) : cB (a.drop k) (b.drop k) = 1 := by
  rw [aT h1,cQ (l := b) (by omega)];rfl
theorem VB {a b : List SP} {k : Nat} (h1 : k = a.length) (h2 : k < b.length) : cB (a.drop k) (b.drop k) = -1 := by
  rw [cQ (l := a) (by omega),aT h2];rfl
theorem VA {a b : List SP} {k : Nat} (h1 : k = a.length) (h2 : k = b.length) : cB (a.drop k) (b.drop k) = 0 := by
  rw [cQ (l := a) (by omega),cQ (l := b) (by omega)];rfl
abbrev ZO : AV := .clo (.func 116) [] []
theorem FY (a b : List SP) (ha : a.length ≤ 9223372036854775807) (hb : b.length ≤ 9223372036854775807) : aQ Tryz.prog 115 [.rowE (eO a) 2,.rowE (eO b) 2,ZO] [] (.i (cB a b)) [] := by
  have hla : (eO a).length = a.length := by simp
  have hlb : (eO b).length = b.length := by simp
  refine bK T Tryz.func115 rfl rfl rfl rfl ?_
  (repeat' (first|refine wS ?_|refine wB ?_|(refine rg 0 (aV ?_))|(refine rg 1 (mW rfl (qW T rfl (mV ?_))))|refine nZ ?_));refine cT (X := {k : Nat // k ≤ a.length ∧ k ≤ b.length ∧ cB a b = cB (a.drop k) (b.drop k)}) (fun k => [(0,.rowE (eO a) 2),(1,.rowE (eO b) 2),(2,ZO),(11,.rowE (eO a) 2),(12,.i (eO a).length),(13,.i k.1)]) (fun _ => []) (fun k => a.length - k.1) ⟨0,by omega,by omega,rfl⟩ (gO []) ?_
  rintro ⟨k,hk,hkb,he⟩;dsimp only;by_cases h1 : k < a.length
  · have g1 := R7 h1;by_cases h2 : k < b.length
    · have g2 := R7 h2;have e1 := zA7 h1 h2;have hc := NX a[k] b[k];generalize a[k] = x at *;generalize b[k] = y at *;by_cases h0 : cS x y = 0
      · rw [h0] at hc e1;rw [NY] at e1
        (repeat' (first|refine wS ?_|refine wB ?_|refine wK ?_|refine wU ?_|(refine wC rfl ?_ ?_<;>(intro hb;(try simp only [nm] at hb);try (exfalso;omega)))|(refine rg 2 (vV (aN rfl rfl) ?_))|(refine rg 3 (mW rfl (vV (ix T rfl (by omega) (gW a) g1) (lW T rfl (bS (bH T rfl) rfl (aW rfl (aR T rfl rfl rfl rfl rfl rfl (by decide) rfl ?_)))))))|(refine rg 4 (eG rfl (qW T rfl (vV (kR rfl rfl) ?_))))|(refine rg 6 (eG rfl (vV (ix T rfl (by omega) (gW b) g2) (lW T rfl (bS (bH T rfl) rfl (aR T rfl rfl rfl rfl rfl rfl (by decide) rfl ?_))))))|(refine rg 7 (mW rfl (lW T rfl (lW T rfl (vV (kC (hc)) (aV ?_))))))|(refine rg 8 (mW rfl (vV (fL rfl rfl) ?_)))|(refine rg 10 (vV (bF rfl rfl (by omega) (by omega)) (mV ?_)))|refine nZ ?_));all_goals first | (exfalso;omega) | exact ⟨⟨k + 1,by omega,by omega,he.trans e1⟩,by dsimp only;omega,gO []⟩
      · rw [FM h0] at e1;generalize cS x y = q at *
        (repeat' (first|refine wS ?_|refine wB ?_|refine wK ?_|refine wR ?_|(refine wC rfl ?_ ?_<;>(intro hb;(try simp only [nm] at hb);try (exfalso;omega)))|(refine rg 2 (vV (aN rfl rfl) ?_))|(refine rg 3 (mW rfl (vV (ix T rfl (by omega) (gW a) g1) (lW T rfl (bS (bH T rfl) rfl (aW rfl (aR T rfl rfl rfl rfl rfl rfl (by decide) rfl ?_)))))))|(refine rg 4 (eG rfl (qW T rfl (vV (kR rfl rfl) ?_))))|(refine rg 6 (eG rfl (vV (ix T rfl (by omega) (gW b) g2) (lW T rfl (bS (bH T rfl) rfl (aR T rfl rfl rfl rfl rfl rfl (by decide) rfl ?_))))))|(refine rg 7 (mW rfl (lW T rfl (lW T rfl (vV (kC (hc)) (aV ?_))))))|(refine rg 8 (mW rfl (vV (fL rfl rfl) ?_)))|(refine rg 9 (mW rfl (aV ?_)))|refine nZ ?_));all_goals first | (exfalso;omega) | exact eC (.inl rfl) rfl (by rw [he,e1];rfl)
    · have e1 := VD h1 (show k = b.length by omega)
      (repeat' (first|refine wS ?_|refine wB ?_|refine wK ?_|refine wR ?_|(refine wC rfl ?_ ?_<;>(intro hb;(try simp only [nm] at hb);try (exfalso;omega)))|(refine rg 2 (vV (aN rfl rfl) ?_))|(refine rg 3 (mW rfl (vV (ix T rfl (by omega) (gW a) g1) (lW T rfl (bS (bH T rfl) rfl (aW rfl (aR T rfl rfl rfl rfl rfl rfl (by decide) rfl ?_)))))))|(refine rg 4 (eG rfl (qW T rfl (vV (kR rfl rfl) ?_))))|(refine rg 5 (aV ?_))|refine nZ ?_));all_goals first | (exfalso;omega) | exact eC (.inl rfl) rfl (by rw [he,e1];rfl)
  · by_cases h2 : k < b.length
    · have e1 := VB (show k = a.length by omega) h2
      (repeat' (first|refine wS ?_|refine wR ?_|refine wE ?_|(refine wC rfl ?_ ?_<;>(intro hb;(try simp only [nm] at hb);try (exfalso;omega)))|(refine rg 2 (vV (aN rfl rfl) ?_))|(refine rg 11 (mW rfl (qW T rfl (mW rfl (qW T rfl (vV (aN rfl rfl) ?_))))))|(refine rg 12 (aV ?_))|refine nZ ?_));all_goals first | (exfalso;omega) | exact eC (.inl rfl) rfl (by rw [he,e1];rfl)
    · have e1 := VA (show k = a.length by omega) (show k = b.length by omega)
      (repeat' (first|refine wS ?_|refine wK ?_|refine wR ?_|refine wE ?_|(refine wC rfl ?_ ?_<;>(intro hb;(try simp only [nm] at hb);try (exfalso;omega)))|(refine rg 2 (vV (aN rfl rfl) ?_))|(refine rg 11 (mW rfl (qW T rfl (mW rfl (qW T rfl (vV (aN rfl rfl) ?_))))))|(refine rg 13 (aV ?_))|refine nZ ?_));all_goals first | (exfalso;omega) | exact eC (.inl rfl) rfl (by rw [he,e1];rfl)
abbrev P7 (w : W) : AV := .agg (wA w)
def zU (w : W) : Prop := w.1.length ≤ 1000000 ∧ w.2.2.length ≤ 1000000
theorem HL (a b : W) (ha : zU a) (hb : zU b) : aQ Tryz.prog 86 [P7 a,P7 b] [] (.i (mT a b)) [] := by
  obtain ⟨p,m,c⟩ := a;obtain ⟨p',m',c'⟩ := b;unfold zU at ha hb;dsimp only at ha hb;have h1 := LB p p' (by omega) (by omega)
  have h2 := FY c c' (by omega) (by omega)
  have e : mT (p,m,c) (p',m',c') = E3 (cL p p') (cB c c') := rfl;rw [e];generalize cL p p' = x at *;generalize cB c c' = y at *;by_cases h0 : x = 0
  · subst h0;rw [NY];refine bK T Tryz.func86 rfl rfl rfl rfl ?_
    (repeat' (first|refine wS ?_|refine wK ?_|refine wR ?_|refine wU ?_|(refine rg 0 (bS (cW rfl rfl) rfl (bS (cW rfl rfl) rfl (aV ?_))))|(refine rg 1 (iX T rfl (iX T rfl (vV (kC (h1)) (aV ?_)))))|(refine rg 2 (mW rfl (vV (fL rfl rfl) ?_)))|(refine rg 4 (iX T rfl (iX T rfl (vV (kC (h2)) (aV ?_)))))|refine nZ ?_));all_goals first | (exfalso;omega) | exact rQ
  · rw [FM h0];refine bK T Tryz.func86 rfl rfl rfl rfl ?_
    (repeat' (first|refine wS ?_|refine wR ?_|(refine wC rfl ?_ ?_<;>(intro hb;(try simp only [nm] at hb);try (exfalso;omega)))|(refine rg 0 (bS (cW rfl rfl) rfl (bS (cW rfl rfl) rfl (aV ?_))))|(refine rg 1 (iX T rfl (iX T rfl (vV (kC (h1)) (aV ?_)))))|(refine rg 2 (mW rfl (vV (fL rfl rfl) ?_)))|(refine rg 3 (mW rfl (aV ?_)))|refine nZ ?_));all_goals first | (exfalso;omega) | exact rQ
theorem tD (a b : W) (ha : zU a) (hb : zU b) : aQ Tryz.prog 84 [P7 a,P7 b] [] (.i (eE a b)) [] := by
  have h1 := HL a b ha hb;have h2 := U6 a.2.1 b.2.1;have h3 := ZL (mT a b) (cI a.2.1 b.2.1);refine bK T Tryz.func84 rfl rfl rfl rfl ?_
  (repeat' (first|refine wS ?_|refine wR ?_|(refine rg 0 (bS (cW rfl rfl) rfl (bS (cW rfl rfl) rfl (aV ?_))))|(refine cK (id := 1) 15 [[],[],[0,1],[],[3],[],[5],rN 7,rN 8,rN 9] (rM 5 10) [[],[5],[],[5,6,7],[5,6,7],rM 5 5,rM 5 5,[],[],[]] cM rfl (by decide +kernel) (dO T rfl (dO T rfl (dV rfl (kC (h1)) (dP T rfl (dO T rfl (dP T rfl (dO T rfl (dV rfl (kC (h2)) (xU rfl rfl rfl (by exact bC T rfl rfl (by decide) (by decide) rfl rfl rfl) rfl ?_)))))))));refine dV rfl (by exact eI rfl rfl (h3) (by ((repeat (first|exact .nil|exact .v _|refine .cons ?_ ?_|refine .sl rfl (by simp) ?_));done)) rfl rfl) ?_;(all_goals (refine dE ?_;refine aV ?_)))|refine nZ ?_));all_goals first | (exfalso;omega) | exact rQ
theorem L6 (a b : W) (ha : zU a) (hb : zU b) : aQ Tryz.prog 89 [P7 a,P7 b] [] (.b (xI a b)) [] := by
  have h1 := HL a b ha hb;refine bK T Tryz.func89 rfl rfl rfl rfl ?_
  (repeat' (first|refine wS ?_|refine wR ?_|(refine rg 0 (bS (cW rfl rfl) rfl (bS (cW rfl rfl) rfl (aV ?_))))|(refine rg 1 (lW T rfl (lW T rfl (vV (kC (h1)) (vV (fC rfl rfl) (aV ?_))))))|refine nZ ?_));all_goals first | (exfalso;omega) | exact rQ
end Go.Proofs.YtbialaoigijlgaaGreatDoor
namespace Go.Ld
open Go.Ab Go.Proofs.YtbialaoigijlgaaGreatDoor
theorem jE (l : List W) : ∀ e,e ∈ eW l → e.length = 3 := by intro e he;obtain ⟨n,_,rfl⟩ := bL.1 he;rfl
theorem eB (l : List W) : (eW l).length = l.length := bN _
theorem nP {L : List W} {j : Int} {i : Nat} {x : W} (h : L[i]? = some x) (e : j = i) : (eW L)[0 + j.toNat]? = some (wA x) := by
  subst e;simp [h]
theorem sX {L : List W} {j : Int} {i : Nat} {x : W} (e : j = i) : (eW L).set (0 + j.toNat) (wA x) = eW (L.set i x) := by
  subst e;simp [eW,Q9]
theorem lY {α : Type} (A B : List α) (x : α) {n : Nat} (h : n = A.length) : (A ++ x :: B)[n]? = some x := by subst h;simp
theorem mC {α : Type} (A B : List α) (x y : α) {n : Nat} (h : n = A.length) : (A ++ x :: B).set n y = A ++ y :: B := by subst h;simp
abbrev Up (l : List W) : Prop := l.Pairwise (fun a b => eE a b ≤ 0)
theorem I0 {l : List W} (h : Up l) : dK eE l = l := (xN iF (.refl _) h).symm
theorem yS {l m : List W} (hp : m.Perm l) (h : Up m) : dK eE l = m := (xN iF hp h).symm
theorem wW {a b : W} (h : eE a b < 0) : eE a b ≤ 0 := by omega
theorem EY {S1 S2 : List W} {x : W} (h : Up (S1 ++ S2)) (h1 : ∀ y,y ∈ S1 → eE y x ≤ 0) (h2 : ∀ y,y ∈ S2 → eE x y ≤ 0) : Up (S1 ++ x :: S2) := by
  obtain ⟨a,b,c⟩ := eU.1 h;refine eU.2 ⟨a,eQ.2 ⟨h2,b⟩,fun p hp q hq => ?_⟩
  rcases bY.1 hq with rfl | hq
  · exact h1 p hp
  · exact c p hp q hq
theorem WI {A B : List W} (h1 : Up A) (h2 : Up B) (h3 : ∀ a b,a ∈ A → b ∈ B → eE a b ≤ 0) : Up (A ++ B) := eU.2 ⟨h1,h2,fun a ha b hb => h3 a b ha hb⟩
theorem GX {A : List W} {y : W} (h : Up (A ++ [y])) : ∀ z,z ∈ A ++ [y] → eE z y ≤ 0 := by
  intro z hz;obtain ⟨a,b,c⟩ := eU.1 h;rcases bQ.1 hz with hz | hz
  · exact c z hz y (by simp)
  · rw [dS.1 hz,iF.rfl'];exact iI _
theorem SB {B : List W} {y : W} (h : Up (y :: B)) : ∀ z,z ∈ y :: B → eE y z ≤ 0 := by
  intro z hz;rcases bY.1 hz with rfl | hz
  · rw [iF.rfl'];exact iI _
  · exact (eQ.1 h).1 z hz
theorem zC1 {a b : W} (h : ¬ eE a b < 0) : eE b a ≤ 0 := by have := iF.neg a b;omega
def LS (l : List W) (a b : Nat) : List W := l.take a ++ (dK eE ((l.drop a).take (b - a)) ++ l.drop b)
theorem gX {l : List W} : (dK eE l).length = l.length := (dJ eE l).length_eq
theorem MP {l : List W} {a : Nat} (h : a ≤ l.length) : LS l a a = l := by unfold LS;simp [dK]
theorem SM {l : List W} {a : Nat} (h : a < l.length) : LS l a (a + 1) = l := by
  unfold LS;rw [show a + 1 - a = 1 by omega,aT h]
  simp only [mQ,lF,dK,Q4];rw [List.singleton_append,← aT h,bG]
structure WE (l : List W) (a i : Nat) (x : W) (q : List W × List W) : Prop where
  eq : q.1 ++ q.2 = dK eE ((l.drop a).take (i - a))
  gt : ∀ y,y ∈ q.2 → eE x y < 0
def sI (l : List W) (a i : Nat) (x : W) (q : List W × List W) : List W := (l.take a ++ q.1) ++ x :: (q.2 ++ l.drop (i + 1))
theorem KH {l : List W} {a i : Nat} {x : W} (h1 : a < i) (h2 : i < l.length) (hx : l[i]? = some x) : WE l a i x (dK eE ((l.drop a).take (i - a)),[]) ∧ LS l a i = sI l a i x (dK eE ((l.drop a).take (i - a)),[]) := by
  refine ⟨⟨by simp,fun y hy => by cases hy⟩,?_⟩
  unfold LS sI;have : l.drop i = x :: l.drop (i + 1) := by
    rw [aB h2] at hx;rw [aT h2];cases hx;rfl
  simp [this]
theorem HW {l : List W} {a i : Nat} {x : W} {q : List W × List W} (h : WE l a i x q) (h1 : a < i) (h2 : i < l.length) : q.1.length + q.2.length = i - a := by
  have := congrArg List.length h.eq;simp only [aD,gX,aU,dB] at this;omega
theorem OR {l : List W} {a i : Nat} {x : W} {q : List W × List W} (h : WE l a i x q) (h1 : a < i) (h2 : i < l.length) : (sI l a i x q).length = l.length := by
  have := HW h h1 h2;unfold sI;simp only [aD,List.length_cons,aU,dB];omega
theorem OO {l : List W} {a i : Nat} {x : W} {q : List W × List W} (h : WE l a i x q) (h1 : a < i) (h2 : i < l.length) (hx : l[i]? = some x) (hs : ∀ y,y ∈ q.1 → eE y x ≤ 0) : sI l a i x q = LS l a (i + 1) := by
  unfold sI LS;have e : (l.drop a).take (i + 1 - a) = (l.drop a).take (i - a) ++ [x] := by
    rw [show i + 1 - a = (i - a) + 1 by omega,RP]
    rw [eA,show a + (i - a) = i by omega,hx];rfl
  rw [e];have hp : (q.1 ++ x :: q.2).Perm ((l.drop a).take (i - a) ++ [x]) := by
    refine List.perm_middle.trans ?_;rw [h.eq];exact ((dJ eE _).cons x).trans (zX _ _).symm
  have hu : Up (q.1 ++ x :: q.2) := EY (by rw [h.eq];exact jX iF _) hs (fun y hy => wW (h.gt y hy))
  rw [yS hp hu];simp
theorem TS {l : List W} {a i : Nat} {x y : W} {S : List W} {q : List W × List W} (h : WE l a i x q) (e : q.1 = S ++ [y]) (hc : ¬ eE x y < 0) : ∀ z,z ∈ q.1 → eE z x ≤ 0 := by
  have hu : Up (q.1 ++ q.2) := by rw [h.eq];exact jX iF _
  have hu1 : Up q.1 := (eU.1 hu).1;rw [e] at hu1;intro z hz;rw [e] at hz;exact iF.le_tr (GX hu1 z hz) (zC1 hc)
theorem OP {l : List W} {a i : Nat} {x y : W} {S : List W} {q : List W × List W} (h : WE l a i x q) (e : q.1 = S ++ [y]) (hc : eE x y < 0) : WE l a i x (S,y :: q.2) := by
  refine ⟨?_,fun z hz => ?_⟩
  · rw [← h.eq,e];simp
  · rcases bY.1 hz with rfl | hz
    · exact hc
    · exact h.gt z hz
end Go.Ld
namespace Go.Proofs.YtbialaoigijlgaaGreatDoor
open Go Go.Ab Go.Ld
attribute [local irreducible] VC AW bT aQ
set_option maxHeartbeats 4000000
theorem WF (l : List W) : (eW l).flatten.all AV.one = true := by
  induction l with
  | nil => rfl
  | cons x l ih => simp only [List.map_cons,dU,List.all_append,ih];rfl
theorem bD (l : List W) : ∀ e,e ∈ eW l → AV.idfL e = true := by
  intro e he;obtain ⟨x,_,rfl⟩ := bL.1 he;rfl
theorem kI : ∀ i : Nat,i < 1 → ([0] : List Nat)[i]? = some i := by decide
abbrev pA : AV := .clo (.func 84) [] []
theorem CY (l : List W) (a b : Nat) (hab : a ≤ b) (hb : b ≤ l.length) (hl : l.length ≤ 100000) (hw : ∀ w,w ∈ l → zU w) :
    aQ Tryz.prog 139 [.sl 0 0 l.length 3,.i a,.i b,pA] [.arr (eW l) 3] (.tup []) [.arr (eW (LS l a b)) 3] := by
  rcases gS a b with hlt | hge
  · refine bK T Tryz.func139 rfl rfl rfl rfl ?_
    (repeat' (first|refine wS ?_|refine wB ?_|(refine iA 0 rfl rfl rfl (by omega) (by omega) ?_)|refine nZ ?_));refine cT (X := {i : Nat // a + 1 ≤ i ∧ i ≤ b}) (fun i => [(0,.sl 0 0 l.length 3),(1,.i a),(2,.i b),(3,pA),(8,.i i.1)]) (fun i => [.arr (eW (LS l a i.1)) 3]) (fun i => b - i.1) ⟨a + 1,by omega,by omega⟩ ⟨[0],rfl,by (repeat (first | exact trivial | refine ⟨rfl,?_⟩)),⟨.inr (aG rfl (by dsimp only;rw [SM (by omega)]) (bD _)),trivial⟩,by decide,kI⟩ ?_
    rintro ⟨i,h1,h2⟩;dsimp only;by_cases hi : i < b
    · (repeat' (first|refine wS ?_|refine wB ?_|refine wK ?_|(refine wC rfl (fun hb => ?_) (fun hb => ?_) <;> (((try simp only [nm] at hb);try (exfalso;omega))))|(refine rg 1 (eG rfl (vV (aN rfl rfl) ?_)))|(refine rg 3 (mW rfl (aV ?_)))|(refine nZ ?_)));all_goals try (exfalso;omega)
      have hil : i < l.length := by omega
      obtain ⟨x,hx⟩ : ∃ x,l[i]? = some x := ⟨_,aB hil⟩;obtain ⟨s1,s2⟩ := KH (a := a) (by omega) hil hx
      refine cT (X := {q : List W × List W // WE l a i x q}) (fun q => [(0,.sl 0 0 l.length 3),(1,.i a),(2,.i b),(3,pA),(8,.i i),(9,.i ((a + q.1.1.length : Nat) : Int))]) (fun q => [.arr (eW (sI l a i x q.1)) 3]) (fun q => q.1.1.length) ⟨_,s1⟩ ⟨[0],rfl,⟨rfl,rfl,rfl,rfl,rfl,by dsimp only;rw [gX,aU,dB,show a + min (i - a) (l.length - a) = i by omega];rfl,trivial⟩,⟨.inr (aG rfl (by dsimp only;rw [s2]) (bD _)),trivial⟩,by decide,kI⟩ ?_
      rintro ⟨⟨S1,S2⟩,hq⟩;dsimp only;have hln := HW hq (by omega) hil
      dsimp only at hln;have hwx : zU x := hw x (aJ hx);have hal : (l.take a).length = a := by rw [aU];omega
      rcases List.eq_nil_or_concat S1 with rfl | ⟨S,y,rfl⟩
      · have ee := OO hq (by omega) hil hx (fun y hy => by cases hy)
        have hJ : ((a + ([] : List W).length : Nat) : Int) = a := by simp
        generalize ((a + ([] : List W).length : Nat) : Int) = J at *;generalize sI l a i x ([],S2) = L at *
        (repeat' (first|refine wS ?_|refine wE ?_|refine wU ?_|(refine cK (id := 4) 53 zI9 (rM 18 17) zJ0 cM rfl (by decide +kernel) (dN rfl (dN rfl (dV rfl (Z2 rfl rfl (by omega)) (dN rfl (tG rfl (tG rfl (tG rfl (tG rfl (dG ?_)))))))));refine tG rfl (tG rfl (tG rfl (tG rfl (tG rfl (tG rfl (tG rfl (dV rfl (jA rfl rfl) (dE ?_)))))))))|(refine iA 2 rfl rfl rfl (by omega) (by omega) ?_)|refine nZ ?_));all_goals first | (exfalso;omega) | exact ⟨⟨i + 1,by omega,by omega⟩,by dsimp only;omega,⟨[0],rfl,by (repeat (first | exact trivial | refine ⟨rfl,?_⟩)),⟨.inr (aG rfl (by dsimp only;rw [ee]) (bD _)),trivial⟩,by decide,kI⟩⟩
      · rw [List.concat_eq_append] at *;have hy : y ∈ l := by
          have h3 : y ∈ dK eE ((l.drop a).take (i - a)) := by rw [← hq.eq];simp
          exact eV (eD ((dJ _ _).mem_iff.1 h3))
        have hc := tD x y hwx (hw y hy);have hL : sI l a i x (S ++ [y],S2) = (l.take a ++ S) ++ y :: x :: (S2 ++ l.drop (i + 1)) := by unfold sI;simp
        have hJ : ((a + (S ++ [y]).length : Nat) : Int) = ((a + S.length + 1 : Nat) : Int) := by simp;omega
        have hAl : a + S.length = (l.take a ++ S).length := by rw [aD,hal]
        have hlen := OR hq (by omega) hil
        by_cases h0 : eE x y < 0
        · have ee := OP hq rfl h0;have q1 := nP (L := sI l a i x (S ++ [y],S2)) (j := ((a + (S ++ [y]).length : Nat) : Int)) (i := a + S.length + 1) (x := x) (by rw [hL,show (l.take a ++ S) ++ y :: x :: (S2 ++ l.drop (i + 1)) = ((l.take a ++ S) ++ [y]) ++ x :: (S2 ++ l.drop (i + 1)) by simp];exact lY _ _ _ (by simp;omega)) hJ
          have q2 := nP (L := sI l a i x (S ++ [y],S2)) (j := ((a + (S ++ [y]).length : Nat) : Int) - 1) (i := a + S.length) (x := y) (by rw [hL];exact lY _ _ _ hAl) (by omega)
          have t1 := sX (L := sI l a i x (S ++ [y],S2)) (j := ((a + (S ++ [y]).length : Nat) : Int)) (i := a + S.length + 1) (x := y) hJ;have e1 : (sI l a i x (S ++ [y],S2)).set (a + S.length + 1) y = (l.take a ++ S) ++ y :: y :: (S2 ++ l.drop (i + 1)) := by
            rw [hL,show (l.take a ++ S) ++ y :: x :: (S2 ++ l.drop (i + 1)) = ((l.take a ++ S) ++ [y]) ++ x :: (S2 ++ l.drop (i + 1)) by simp,mC _ _ _ _ (by simp;omega)];simp
          rw [e1] at t1;have q3 := nP (L := (l.take a ++ S) ++ y :: y :: (S2 ++ l.drop (i + 1))) (j := ((a + (S ++ [y]).length : Nat) : Int) - 1) (i := a + S.length) (x := y) (lY _ _ _ hAl) (by omega)
          have t2 := sX (L := (l.take a ++ S) ++ y :: y :: (S2 ++ l.drop (i + 1))) (j := ((a + (S ++ [y]).length : Nat) : Int) - 1) (i := a + S.length) (x := x) (by omega)
          rw [mC _ _ _ _ hAl,show (l.take a ++ S) ++ x :: y :: (S2 ++ l.drop (i + 1)) = sI l a i x (S,y :: S2) by unfold sI;simp,← t1] at t2
          rw [← t1] at q3;have hJ2 : ((a + (S ++ [y]).length : Nat) : Int) - 1 = ((a + S.length : Nat) : Int) := by omega
          have hJ3 : ((a + (S ++ [y]).length : Nat) : Int) < l.length := by omega
          have hJ4 : (a : Int) < ((a + (S ++ [y]).length : Nat) : Int) := by omega
          clear hJ hL;generalize ((a + (S ++ [y]).length : Nat) : Int) = J at *;generalize eE x y = z at *;generalize sI l a i x (S ++ [y],S2) = L at *
          (repeat' (first|refine wS ?_|refine wB ?_|refine wK ?_|(refine wC rfl ?_ ?_<;>(intro hb;(try simp only [nm] at hb);try (exfalso;omega)))|(refine cK (id := 4) 53 zI9 (rM 18 17) zJ0 cM rfl (by decide +kernel) (dN rfl (dN rfl (dV rfl (gN rfl rfl) (dM ?_))));refine qN rfl rfl rfl rfl ?_ ?_<;>(intro hb;rw [hb];(try simp only [nm] at hb);try (exfalso;omega))<;>(refine tM ?_);(all_goals (refine tN rfl (tN rfl (dT rfl (by exact aL T rfl rfl rfl rfl rfl (by omega) (by omega)) ?_));refine dT rfl (by exact aS T rfl rfl (bI rfl q1) rfl) ?_;refine tN rfl (tN rfl (dT rfl (cJ rfl rfl (by omega) (by omega)) (dT rfl (by exact aL T rfl rfl rfl rfl rfl (by omega) (by omega)) ?_)));refine dT rfl (by exact aS T rfl rfl (bI rfl q2) rfl) ?_;refine dT rfl (kC (hc)) (dT rfl (aN rfl rfl) (dV rfl (jM rfl rfl) (dE ?_))))))|(refine mH (id := 6) 53 zJ1 (rM 37 15) zJ2 [(15,0)] cM rfl (by decide +kernel) (cE rfl rfl rfl rfl (by exact bU rfl) ?_);refine cE rfl rfl rfl rfl (by exact bU rfl) ?_;refine cE rfl rfl rfl rfl (by exact bU rfl) ?_;refine cE rfl rfl rfl rfl (by exact bU rfl) ?_;refine cE rfl rfl rfl rfl (by exact cJ rfl rfl (by omega) (by omega)) ?_;refine cE rfl rfl rfl rfl (by exact bU rfl) ?_;refine cE rfl rfl rfl rfl (by exact bU rfl) ?_;refine cE rfl rfl rfl rfl (by exact cJ rfl rfl (by omega) (by omega)) ?_;refine cE rfl rfl rfl rfl (by exact aL T rfl rfl rfl rfl rfl (by omega) (by omega)) ?_;refine cE rfl rfl rfl rfl (by exact aS T rfl rfl (bI rfl q2) rfl) ?_;refine cE rfl rfl rfl rfl (by exact bU rfl) ?_;refine cE rfl rfl rfl rfl (by exact bU rfl) ?_;refine cE rfl rfl rfl rfl (by exact aL T rfl rfl rfl rfl rfl (by omega) (by omega)) ?_;refine cE rfl rfl rfl rfl (by exact aS T rfl rfl (bI rfl q1) rfl) ?_;refine cE rfl rfl rfl rfl (by exact aL T rfl rfl rfl rfl rfl (by omega) (by omega)) ?_;refine tU rfl rfl rfl rfl (aM rfl) T rfl rfl rfl rfl rfl rfl (by decide) (tA rfl q1 rfl) ?_;refine pS rfl rfl rfl (by exact rfl) ?_;refine vV (by exact aL T rfl rfl rfl rfl rfl (by omega) (by omega)) ?_;refine aR T rfl rfl rfl rfl rfl rfl (by decide) (lJ rfl q3 rfl) ?_)|(refine rg 5 (mW rfl (vV (cJ rfl rfl (by omega) (by omega)) (aV ?_))))|refine nZ ?_));all_goals first | (exfalso;omega) | exact ⟨⟨_,ee⟩,by dsimp only;simp,⟨[0],rfl,⟨rfl,rfl,rfl,rfl,rfl,by dsimp only;rw [← hJ2];try rfl,trivial⟩,⟨.inr (aG rfl (by dsimp only;rw [← t2];try rfl) (bD _)),trivial⟩,by decide,kI⟩⟩
        · have ee := OO hq (by omega) hil hx (TS hq rfl h0)
          have q1 := nP (L := sI l a i x (S ++ [y],S2)) (j := ((a + (S ++ [y]).length : Nat) : Int)) (i := a + S.length + 1) (x := x) (by rw [hL,show (l.take a ++ S) ++ y :: x :: (S2 ++ l.drop (i + 1)) = ((l.take a ++ S) ++ [y]) ++ x :: (S2 ++ l.drop (i + 1)) by simp];exact lY _ _ _ (by simp;omega)) hJ
          have q2 := nP (L := sI l a i x (S ++ [y],S2)) (j := ((a + (S ++ [y]).length : Nat) : Int) - 1) (i := a + S.length) (x := y) (by rw [hL];exact lY _ _ _ hAl) (by omega)
          have hJ3 : ((a + (S ++ [y]).length : Nat) : Int) < l.length := by omega
          have hJ4 : (a : Int) < ((a + (S ++ [y]).length : Nat) : Int) := by omega
          clear hJ hL;generalize ((a + (S ++ [y]).length : Nat) : Int) = J at *;generalize eE x y = z at *;generalize sI l a i x (S ++ [y],S2) = L at *
          (repeat' (first|refine wS ?_|refine wE ?_|(refine wC rfl ?_ ?_<;>(intro hb;(try simp only [nm] at hb);try (exfalso;omega)))|(refine cK (id := 4) 53 zI9 (rM 18 17) zJ0 cM rfl (by decide +kernel) (dN rfl (dN rfl (dV rfl (gN rfl rfl) (dM ?_))));refine qN rfl rfl rfl rfl ?_ ?_<;>(intro hb;rw [hb];(try simp only [nm] at hb);try (exfalso;omega))<;>(refine tM ?_);(all_goals (refine tN rfl (tN rfl (dT rfl (by exact aL T rfl rfl rfl rfl rfl (by omega) (by omega)) ?_));refine dT rfl (by exact aS T rfl rfl (bI rfl q1) rfl) ?_;refine tN rfl (tN rfl (dT rfl (cJ rfl rfl (by omega) (by omega)) (dT rfl (by exact aL T rfl rfl rfl rfl rfl (by omega) (by omega)) ?_)));refine dT rfl (by exact aS T rfl rfl (bI rfl q2) rfl) ?_;refine dT rfl (kC (hc)) (dT rfl (aN rfl rfl) (dV rfl (jM rfl rfl) (dE ?_))))))|(refine iA 2 rfl rfl rfl (by omega) (by omega) ?_)|refine nZ ?_));all_goals first | (exfalso;omega) | exact ⟨⟨i + 1,by omega,by omega⟩,by dsimp only;omega,⟨[0],rfl,by (repeat (first | exact trivial | refine ⟨rfl,?_⟩)),⟨.inr (aG rfl (by dsimp only;rw [ee]) (bD _)),trivial⟩,by decide,kI⟩⟩
    · obtain rfl : i = b := by omega
      (repeat' (first|refine wS ?_|refine wE ?_|(refine wC rfl ?_ ?_<;>(intro hb;(try simp only [nm] at hb);try (exfalso;omega)))|(refine rg 1 (eG rfl (vV (aN rfl rfl) ?_)))|refine nZ ?_));all_goals first | (exfalso;omega) | exact ⟨.inl rfl,[0],_,rfl,rfl,rfl,⟨.inr (aG rfl rfl (bD _)),trivial⟩,by decide,kI⟩ | exact ⟨.inr rfl,[0],_,rfl,rfl,rfl,⟨.inr (aG rfl rfl (bD _)),trivial⟩,by decide,kI⟩
  · obtain rfl : a = b := by omega
    rw [MP hb];refine bK T Tryz.func139 rfl rfl rfl rfl ?_
    (repeat' (first|refine wS ?_|refine wB ?_|(refine iA 0 rfl rfl rfl (by omega) (by omega) ?_)|refine nZ ?_));refine cT (X := Unit) (fun _ => [(0,.sl 0 0 l.length 3),(1,.i a),(2,.i a),(3,pA),(8,.i ((a : Int) + 1))]) (fun _ => [.arr (eW l) 3]) (fun _ => 0) () ⟨[0],rfl,by (repeat (first | exact trivial | refine ⟨rfl,?_⟩)),⟨.inr (aG rfl rfl (bD _)),trivial⟩,by decide,kI⟩ ?_
    intro _;dsimp only
    (repeat' (first|refine wS ?_|refine wE ?_|(refine wC rfl ?_ ?_<;>(intro hb;(try simp only [nm] at hb);try (exfalso;omega)))|(refine rg 1 (eG rfl (vV (aN rfl rfl) ?_)))|refine nZ ?_));all_goals first | (exfalso;omega) | exact ⟨.inl rfl,[0],_,rfl,rfl,rfl,⟨.inr (aG rfl rfl (bD _)),trivial⟩,by decide,kI⟩ | exact ⟨.inr rfl,[0],_,rfl,rfl,rfl,⟨.inr (aG rfl rfl (bD _)),trivial⟩,by decide,kI⟩
end Go.Proofs.YtbialaoigijlgaaGreatDoor
namespace Go.Ld
open Go.Ab Go.Proofs.YtbialaoigijlgaaGreatDoor
def BR (P X Q Y R : List W) (k : Nat) : List W := P ++ ((Y.take k ++ X.drop k) ++ (Q ++ ((X.take k ++ Y.drop k) ++ R)))
theorem ZD (P X Q Y R : List W) : BR P X Q Y R 0 = P ++ (X ++ (Q ++ (Y ++ R))) := by simp [BR]
theorem ZC {P X Q Y R : List W} {n : Nat} (h1 : X.length = n) (h2 : Y.length = n) : BR P X Q Y R n = P ++ (Y ++ (Q ++ (X ++ R))) := by
  unfold BR;rw [cF (by omega),cF (by omega),cQ (by omega),cQ (by omega)];simp
theorem zD2 {X1 X2 : List W} {x : W} {k : Nat} (h : X1.length = k) : (X1 ++ x :: X2).take k = X1 ∧ (X1 ++ x :: X2).drop k = x :: X2 ∧ (X1 ++ x :: X2).take (k + 1) = X1 ++ [x] ∧ (X1 ++ x :: X2).drop (k + 1) = X2 := by
  subst h;refine ⟨sT,sV,?_,?_⟩
  · rw [show X1 ++ x :: X2 = (X1 ++ [x]) ++ X2 by simp,show X1.length + 1 = (X1 ++ [x]).length by simp,sT]
  · rw [show X1 ++ x :: X2 = (X1 ++ [x]) ++ X2 by simp,show X1.length + 1 = (X1 ++ [x]).length by simp,sV]
theorem FA {X : List W} {k : Nat} (h : k < X.length) : ∃ X1 x X2,X = X1 ++ x :: X2 ∧ X1.length = k := ⟨X.take k,X[k],X.drop (k + 1),by simp,by simp;omega⟩
theorem MI {P X Q Y R : List W} {n k : Nat} (h1 : X.length = n) (h2 : Y.length = n) (hk : k < n) : ∃ x y,x ∈ X ∧ y ∈ Y ∧ (BR P X Q Y R k)[P.length + k]? = some x ∧ (BR P X Q Y R k)[P.length + n + Q.length + k]? = some y ∧
    ((BR P X Q Y R k).set (P.length + k) y)[P.length + n + Q.length + k]? = some y ∧ ((BR P X Q Y R k).set (P.length + k) y).set (P.length + n + Q.length + k) x = BR P X Q Y R (k + 1) := by
  obtain ⟨X1,x,X2,rfl,hx⟩ := FA (show k < X.length by omega)
  obtain ⟨Y1,y,Y2,rfl,hy⟩ := FA (show k < Y.length by omega)
  obtain ⟨a1,a2,a3,a4⟩ := zD2 (x := x) (X2 := X2) hx;obtain ⟨b1,b2,b3,b4⟩ := zD2 (x := y) (X2 := Y2) hy;simp only [aD,List.length_cons] at h1 h2;have e : BR P (X1 ++ x :: X2) Q (Y1 ++ y :: Y2) R k = (P ++ Y1) ++ x :: (X2 ++ (Q ++ (X1 ++ y :: (Y2 ++ R)))) := by
    unfold BR;rw [a1,a2,b1,b2];simp
  have e1 : (BR P (X1 ++ x :: X2) Q (Y1 ++ y :: Y2) R k).set (P.length + k) y = ((P ++ Y1) ++ y :: (X2 ++ (Q ++ X1))) ++ y :: (Y2 ++ R) := by
    rw [e,mC _ _ _ _ (by simp;omega)];simp
  have l1 : P.length + n + Q.length + k = ((P ++ Y1) ++ y :: (X2 ++ (Q ++ X1))).length := by
    simp only [aD,List.length_cons];omega
  refine ⟨x,y,by simp,by simp,?_,?_,?_,?_⟩
  · rw [e];exact lY _ _ _ (by simp;omega)
  · rw [e,show (P ++ Y1) ++ x :: (X2 ++ (Q ++ (X1 ++ y :: (Y2 ++ R)))) = ((P ++ Y1) ++ x :: (X2 ++ (Q ++ X1))) ++ y :: (Y2 ++ R) by simp]
    exact lY _ _ _ (by simp only [aD,List.length_cons];omega)
  · rw [e1];exact lY _ _ _ l1
  · rw [e1,mC _ _ _ _ l1];unfold BR;rw [a3,a4,b3,b4];simp
end Go.Ld
namespace Go.Proofs.YtbialaoigijlgaaGreatDoor
open Go Go.Ab Go.Ld
attribute [local irreducible] VC AW bT aQ
set_option maxHeartbeats 4000000
theorem V9 (P X Q Y R : List W) {n a b N : Nat} (h1 : X.length = n) (h2 : Y.length = n) (ha : a = P.length) (hb : b = P.length + n + Q.length) (hN : N = P.length + (n + (Q.length + (n + R.length)))) (hl : N ≤ 100000) :
    aQ Tryz.prog 167 [.sl 0 0 N 3,.i a,.i b,.i n,pA] [.arr (eW (P ++ (X ++ (Q ++ (Y ++ R))))) 3] (.tup []) [.arr (eW (P ++ (Y ++ (Q ++ (X ++ R))))) 3] := by
  refine bK T Tryz.func167 rfl rfl rfl rfl ?_
  (repeat' (first|refine wS ?_|refine wB ?_|(refine rg 0 (aV ?_))|refine nZ ?_));refine cT (X := {k : Nat // k ≤ n}) (fun k => [(0,.sl 0 0 N 3),(1,.i a),(2,.i b),(3,.i n),(4,pA),(10,.i k.1)]) (fun k => [.arr (eW (BR P X Q Y R k.1)) 3]) (fun k => n - k.1) ⟨0,by omega⟩ ⟨[0],rfl,by (repeat (first | exact trivial | refine ⟨rfl,?_⟩)),⟨.inr (aG rfl (by dsimp only;rw [ZD]) (bD _)),trivial⟩,by decide,kI⟩ ?_
  rintro ⟨k,hk⟩;dsimp only;by_cases hlt : k < n
  · obtain ⟨x,y,_,_,p1,p2,p3,p4⟩ := MI (P := P) (Q := Q) (R := R) h1 h2 hlt;have q1 := nP (j := (a : Int) + (k : Int)) p1 (by omega)
    have q2 := nP (j := (b : Int) + (k : Int)) p2 (by omega)
    have t1 := sX (L := BR P X Q Y R k) (j := (a : Int) + (k : Int)) (i := P.length + k) (x := y) (by omega)
    have q3 := nP (j := (b : Int) + (k : Int)) p3 (by omega)
    have t2 := sX (L := (BR P X Q Y R k).set (P.length + k) y) (j := (b : Int) + (k : Int)) (i := P.length + n + Q.length + k) (x := x) (by omega)
    rw [← t1] at q3 t2;rw [p4] at t2;clear p1 p2 p3 p4 t1;generalize BR P X Q Y R k = L at *
    (repeat' (first|refine wS ?_|refine wB ?_|refine wK ?_|(refine wC rfl ?_ ?_<;>(intro hb;(try simp only [nm] at hb);try (exfalso;omega)))|(refine rg 1 (eG rfl (vV (aN rfl rfl) ?_)))|(refine mH (id := 3) 38 [[],[],[],[1,2],[],[],[],[5,6],[],[],[],[9,10],rM 8 4,rM 8 5,[],[],[],[15,16],rM 14 4,rM 14 5,[0,1,2,3,8,9,10,11,12,13,14,15,16,17,18,19],[0,1,2,3,8,9,10,11,12,13,14,15,16,17,18,19,20]] (rM 16 21) [[],[16],[16,17],[16],rM 16 4,rM 16 5,rM 16 6,rM 16 5,rM 16 8,rM 16 9,rM 16 10,rM 16 9,rM 16 8,rM 16 8,rM 16 14,rM 16 15,rM 16 16,rM 16 15,rM 16 14,rM 16 14,rM 20 4,rM 20 4] [(21,0)] cM rfl (by decide +kernel) (cE rfl rfl rfl rfl (by exact bU rfl) ?_);refine cE rfl rfl rfl rfl (by exact bU rfl) ?_;refine cE rfl rfl rfl rfl (by exact bU rfl) ?_;refine cE rfl rfl rfl rfl (by exact bF rfl rfl (by omega) (by omega)) ?_;refine cE rfl rfl rfl rfl (by exact bU rfl) ?_;refine cE rfl rfl rfl rfl (by exact bU rfl) ?_;refine cE rfl rfl rfl rfl (by exact bU rfl) ?_;refine cE rfl rfl rfl rfl (by exact bF rfl rfl (by omega) (by omega)) ?_;refine cE rfl rfl rfl rfl (by exact bU rfl) ?_;refine cE rfl rfl rfl rfl (by exact bU rfl) ?_;refine cE rfl rfl rfl rfl (by exact bU rfl) ?_;refine cE rfl rfl rfl rfl (by exact bF rfl rfl (by omega) (by omega)) ?_;refine cE rfl rfl rfl rfl (by exact aL T rfl rfl rfl rfl rfl (by omega) (by omega)) ?_;refine cE rfl rfl rfl rfl (by exact aS T rfl rfl (bI rfl q2) rfl) ?_;refine cE rfl rfl rfl rfl (by exact bU rfl) ?_;refine cE rfl rfl rfl rfl (by exact bU rfl) ?_;refine cE rfl rfl rfl rfl (by exact bU rfl) ?_;refine cE rfl rfl rfl rfl (by exact bF rfl rfl (by omega) (by omega)) ?_;refine cE rfl rfl rfl rfl (by exact aL T rfl rfl rfl rfl rfl (by omega) (by omega)) ?_;refine cE rfl rfl rfl rfl (by exact aS T rfl rfl (bI rfl q1) rfl) ?_;refine cE rfl rfl rfl rfl (by exact aL T rfl rfl rfl rfl rfl (by omega) (by omega)) ?_;refine tU rfl rfl rfl rfl (aM rfl) T rfl rfl rfl rfl rfl rfl (by decide) (tA rfl q1 rfl) ?_;refine pS rfl rfl rfl (by exact rfl) ?_;refine vV (by exact aL T rfl rfl rfl rfl rfl (by omega) (by omega)) ?_;refine aR T rfl rfl rfl rfl rfl rfl (by decide) (lJ rfl q3 rfl) ?_)|(refine iA 2 rfl rfl rfl (by omega) (by omega) ?_)|refine nZ ?_));all_goals first | (exfalso;omega) | exact ⟨⟨k + 1,by omega⟩,by dsimp only;omega,⟨[0],rfl,by (repeat (first | exact trivial | refine ⟨rfl,?_⟩)),⟨.inr (aG rfl (by dsimp only;rw [← t2];try rfl) (bD _)),trivial⟩,by decide,kI⟩⟩
  · obtain rfl : k = n := by omega
    have e := ZC (P := P) (Q := Q) (R := R) h1 h2
    (repeat' (first|refine wS ?_|refine wE ?_|(refine wC rfl ?_ ?_<;>(intro hb;(try simp only [nm] at hb);try (exfalso;omega)))|(refine rg 1 (eG rfl (vV (aN rfl rfl) ?_)))|refine nZ ?_));all_goals first | (exfalso;omega) | exact ⟨.inl rfl,[0],_,rfl,rfl,rfl,⟨.inr (aG rfl (by rw [e]) (bD _)),trivial⟩,by decide,kI⟩ | exact ⟨.inr rfl,[0],_,rfl,rfl,rfl,⟨.inr (aG rfl (by rw [e]) (bD _)),trivial⟩,by decide,kI⟩
theorem MX (P X Y R : List W) {a m b N : Nat} (ha : a = P.length) (hm : m = P.length + X.length) (hb : b = P.length + X.length + Y.length) (hN : N = b + R.length) (hl : N ≤ 100000) (hX : 0 < X.length) (hY : 0 < Y.length) :
    aQ Tryz.prog 158 [.sl 0 0 N 3,.i a,.i m,.i b,pA] [.arr (eW (P ++ (X ++ (Y ++ R)))) 3] (.tup []) [.arr (eW (P ++ (Y ++ (X ++ R)))) 3] := by
  refine bK T Tryz.func158 rfl rfl rfl rfl ?_
  (repeat' (first|refine wS ?_|refine wB ?_|(refine rg 0 (eG rfl (vV (cJ rfl rfl (by omega) (by omega)) (aV ?_))))|(refine rg 1 (eG rfl (vV (cJ rfl rfl (by omega) (by omega)) (aV ?_))))|refine nZ ?_));refine cT (X := {q : List W × List W × List W × List W // q.1 ++ (q.2.2.1 ++ (q.2.1 ++ q.2.2.2)) = P ++ (Y ++ (X ++ R)) ∧ q.1.length + q.2.1.length = m ∧ m + q.2.2.1.length + q.2.2.2.length = N ∧ 0 < q.2.1.length ∧ 0 < q.2.2.1.length})
    (fun q => [(0,.sl 0 0 N 3),(1,.i a),(2,.i m),(3,.i b),(4,pA),(10,.i q.1.2.1.length),(11,.i q.1.2.2.1.length)]) (fun q => [.arr (eW (q.1.1 ++ (q.1.2.1 ++ (q.1.2.2.1 ++ q.1.2.2.2)))) 3]) (fun q => q.1.2.1.length + q.1.2.2.1.length) ⟨(P,X,Y,R),by dsimp only;exact ⟨rfl,by omega,by omega,hX,hY⟩⟩
    ⟨[0],rfl,⟨rfl,rfl,rfl,rfl,rfl,by dsimp only;rw [show (X.length : Int) = (m : Int) - (a : Int) by omega];rfl,by dsimp only;rw [show (Y.length : Int) = (b : Int) - (m : Int) by omega];rfl,trivial⟩,⟨.inr (aG rfl rfl (bD _)),trivial⟩,by decide,kI⟩ ?_
  rintro ⟨⟨P1,X1,Y1,R1⟩,h1,h2,h3,h4,h5⟩;dsimp only at h1 h2 h3 h4 h5 ⊢;have hsb : ((P1.length : Nat) : Int) = (m : Int) - (X1.length : Int) := by omega
  by_cases hij : X1.length = Y1.length
  · have hc := V9 P1 X1 [] Y1 R1 (n := X1.length) (a := P1.length) (b := m) (N := N) rfl hij.symm rfl (by simp;omega) (by simp;omega) hl
    rw [List.nil_append,List.nil_append,hsb,h1] at hc
    (repeat' (first|refine wS ?_|refine wE ?_|refine wU ?_|(refine rg 2 (eG rfl (vV (jY rfl rfl (by omega)) ?_)))|(refine rg 8 (eG rfl (mW rfl (vV (cJ rfl rfl (by omega) (by omega)) (eG rfl (mW rfl (dW [0] rfl rfl (hc) rfl rfl (by decide) ⟨.inr (aG rfl rfl (bD _)),trivial⟩ (by simp) rfl ?_)))))))|refine nZ ?_));all_goals first | (exfalso;omega) | exact ⟨.inl rfl,[0],_,rfl,rfl,rfl,⟨.inr (aG rfl (cC _ (bD _)) (bD _)),trivial⟩,by decide,kI⟩ | exact ⟨.inr rfl,[0],_,rfl,rfl,rfl,⟨.inr (aG rfl (cC _ (bD _)) (bD _)),trivial⟩,by decide,kI⟩
  · by_cases hgt : Y1.length < X1.length
    · -- a part of the left side goes to the end
      obtain ⟨A,B,rfl,hA⟩ : ∃ A B,X1 = A ++ B ∧ A.length = Y1.length := ⟨X1.take Y1.length,X1.drop Y1.length,by simp,by simp;omega⟩
      rw [aD] at *;have hc := V9 P1 A B Y1 R1 (n := Y1.length) (a := P1.length) (b := m) (N := N) hA rfl rfl (by omega) (by omega) hl
      rw [hsb] at hc;rw [bE]
      (repeat' (first|refine wS ?_|refine wB ?_|refine wK ?_|refine wT ?_|(refine rg 2 (eG rfl (vV (tJ rfl rfl (by omega)) ?_)))|(refine rg 3 (eG rfl (vV (UD rfl rfl (by omega)) ?_)))|(refine rg 4 (eG rfl (mW rfl (vV (cJ rfl rfl (by omega) (by omega)) (eG rfl (mW rfl (dW [0] rfl rfl (hc) rfl rfl (by decide) ⟨.inr (aG rfl rfl (bD _)),trivial⟩ (by simp) rfl ?_)))))))|(refine rg 5 (eG rfl (vV (cJ rfl rfl (by omega) (by omega)) (aV ?_))))|refine nZ ?_));all_goals first | (exfalso;omega) | skip
      refine ⟨⟨(P1 ++ Y1,B,A,R1),by dsimp only;refine ⟨by rw [← h1];simp,?_,?_,?_,?_⟩ <;> (try simp only [aD]) <;> omega⟩,by dsimp only;omega,⟨[0],rfl,⟨rfl,rfl,rfl,rfl,rfl,by dsimp only;rw [show (B.length : Int) = ((A.length + B.length : Nat) : Int) - (Y1.length : Int) by omega];rfl,by dsimp only;rw [hA];rfl,trivial⟩,⟨.inr (aG rfl (by rw [cC _ (bD _)];simp) (bD _)),trivial⟩,by decide,kI⟩⟩
    · -- a part of the right side goes to the front
      obtain ⟨A,B,rfl,hA⟩ : ∃ A B,Y1 = A ++ B ∧ B.length = X1.length := ⟨Y1.take (Y1.length - X1.length),Y1.drop (Y1.length - X1.length),by simp,by simp;omega⟩
      rw [aD] at *;have hc := V9 P1 X1 A B R1 (n := X1.length) (a := P1.length) (b := m + A.length) (N := N) rfl hA rfl (by omega) (by omega) hl
      rw [hsb,show ((m + A.length : Nat) : Int) = (m : Int) + ((A.length + B.length : Nat) : Int) - (X1.length : Int) by omega] at hc
      rw [bE]
      (repeat' (first|refine wS ?_|refine wB ?_|refine wK ?_|refine wT ?_|refine wU ?_|(refine rg 2 (eG rfl (vV (tJ rfl rfl (by omega)) ?_)))|(refine rg 3 (eG rfl (vV (Z2 rfl rfl (by omega)) ?_)))|(refine rg 6 (eG rfl (mW rfl (vV (cJ rfl rfl (by omega) (by omega)) (eG rfl (vV (bF rfl rfl (by omega) (by omega)) (mW rfl (vV (cJ rfl rfl (by omega) (by omega)) (eG rfl (dW [0] rfl rfl (hc) rfl rfl (by decide) ⟨.inr (aG rfl rfl (bD _)),trivial⟩ (by simp) rfl ?_))))))))))|(refine rg 7 (eG rfl (vV (cJ rfl rfl (by omega) (by omega)) (aV ?_))))|refine nZ ?_));all_goals first | (exfalso;omega) | skip
      refine ⟨⟨(P1,B,A,X1 ++ R1),by dsimp only;refine ⟨by rw [← h1];simp,?_,?_,?_,?_⟩ <;> (try simp only [aD]) <;> omega⟩,by dsimp only;omega,⟨[0],rfl,⟨rfl,rfl,rfl,rfl,rfl,by dsimp only;rw [hA];rfl,by dsimp only;rw [show (A.length : Int) = ((A.length + B.length : Nat) : Int) - (X1.length : Int) by omega];rfl,trivial⟩,⟨.inr (aG rfl (by rw [cC _ (bD _)]) (bD _)),trivial⟩,by decide,kI⟩⟩
end Go.Proofs.YtbialaoigijlgaaGreatDoor
namespace Go.Ld
open Go.Ab Go.Proofs.YtbialaoigijlgaaGreatDoor
theorem IZ {V : List W} {i : Nat} {z : W} (h0 : 0 < i) (h : V[i - 1]? = some z) : V.take i = V.take (i - 1) ++ [z] := by
  conv => lhs;rw [show i = (i - 1) + 1 by omega]
  rw [RP,h];rfl
theorem UQ {V : List W} {i : Nat} {z : W} (h : V[i]? = some z) : V.drop i = z :: V.drop (i + 1) := by
  obtain ⟨hi,e⟩ := aA.1 h;rw [aT hi,e]
theorem GW {V : List W} {i : Nat} (hu : Up V) {x y z : W} (h0 : 0 < i) (h : V[i - 1]? = some z) (hy : y ∈ V.take i) (hz : eE z x ≤ 0) : eE y x ≤ 0 := by
  have h1 : Up (V.take i) := hu.sublist (List.take_sublist _ _);rw [IZ h0 h] at h1 hy;exact iF.le_tr (GX h1 y hy) hz
theorem GY {V : List W} {i : Nat} (hu : Up V) {x y z : W} (h : V[i]? = some z) (hy : y ∈ V.drop i) (hz : eE x z ≤ 0) : eE x y ≤ 0 := by
  have h1 : Up (V.drop i) := hu.sublist (List.drop_sublist _ _);rw [UQ h] at h1 hy;exact iF.le_tr hz (SB h1 y hy)
theorem pN {V : List W} {i : Nat} {y : W} (h : y ∈ V.take i) (hi : i ≤ V.length) : 0 < i ∧ ∃ z,V[i - 1]? = some z := by
  have : 0 < i := by
    rcases zW i with rfl | h0
    · simp at h
    · exact h0
  exact ⟨this,_,aB (by omega)⟩
theorem rC {V : List W} {i : Nat} {y : W} (h : y ∈ V.drop i) : ∃ z,V[i]? = some z := by
  have : i < V.length := by
    rcases gS i V.length with h0 | h0
    · exact h0
    · rw [cQ h0] at h;cases h
  exact ⟨_,aB this⟩
theorem WW {u : W} {V : List W} {i : Nat} (hi : i ≤ V.length) (hu : Up V) (h1 : ∀ z,0 < i → V[i - 1]? = some z → eE z u < 0) (h2 : ∀ z,V[i]? = some z → ¬ eE z u < 0) : dK eE ([u] ++ V) = V.take i ++ u :: V.drop i := by
  refine yS ?_ (EY (by rw [bG];exact hu) (fun y hy => ?_) (fun y hy => ?_))
  · refine List.perm_middle.trans ?_;rw [bG];exact .refl _
  · obtain ⟨h0,z,hz⟩ := pN hy hi;exact GW hu h0 hz hy (wW (h1 z h0 hz))
  · obtain ⟨z,hz⟩ := rC hy;exact GY hu hz hy (zC1 (h2 z hz))
theorem WV {v : W} {U : List W} {i : Nat} (hi : i ≤ U.length) (hu : Up U) (h1 : ∀ z,0 < i → U[i - 1]? = some z → ¬ eE v z < 0) (h2 : ∀ z,U[i]? = some z → eE v z < 0) : dK eE (U ++ [v]) = U.take i ++ v :: U.drop i := by
  refine yS ?_ (EY (by rw [bG];exact hu) (fun y hy => ?_) (fun y hy => ?_))
  · refine List.perm_middle.trans ?_;rw [bG];exact (zX _ _).symm
  · obtain ⟨h0,z,hz⟩ := pN hy hi;exact GW hu h0 hz hy (zC1 (h1 z h0 hz))
  · obtain ⟨z,hz⟩ := rC hy;exact GY hu hz hy (wW (h2 z hz))
theorem zA5 {U V : List W} {i e : Nat} (hU : Up U) (hV : Up V) (hi : i ≤ U.length) (he : e ≤ V.length) (h1 : ∀ x y,0 < i → U[i - 1]? = some x → V[e]? = some y → ¬ eE y x < 0) (h2 : ∀ x y,0 < e → U[i]? = some x → V[e - 1]? = some y → eE y x < 0) :
    dK eE (U ++ V) = dK eE (U.take i ++ V.take e) ++ dK eE (U.drop i ++ V.drop e) := by
  have hU1 : Up (U.take i ++ U.drop i) := by rw [bG];exact hU
  have hV1 : Up (V.take e ++ V.drop e) := by rw [bG];exact hV
  have cU := (eU.1 hU1).2.2;have cV := (eU.1 hV1).2.2;refine yS ?_ (WI (jX iF _) (jX iF _) fun x y hx hy => ?_)
  · refine ((dJ _ _).append (dJ _ _)).trans ?_;have e1 : (U.take i ++ V.take e ++ (U.drop i ++ V.drop e)).Perm (U.take i ++ U.drop i ++ (V.take e ++ V.drop e)) := by
      rw [bE,bE];refine List.Perm.append_left _ ?_;rw [← bE,← bE];exact List.perm_append_comm.append_right _
    rw [bG,bG] at e1;exact e1
  · have hx := (dJ _ _).mem_iff.1 hx;have hy := (dJ _ _).mem_iff.1 hy;rcases bQ.1 hx with hx | hx <;> rcases bQ.1 hy with hy | hy
    · exact cU x hx y hy
    · obtain ⟨h0,z,hz⟩ := pN hx hi;obtain ⟨q,hq⟩ := rC hy;exact GY hV hq hy (GW hU h0 hz hx (zC1 (h1 z q h0 hz hq)))
    · obtain ⟨h0,z,hz⟩ := pN hx he;obtain ⟨q,hq⟩ := rC hy;exact GY hU hq hy (GW hV h0 hz hx (wW (h2 q z h0 hq hz)))
    · exact cV x hx y hy
def zZ (P V : List W) (u : W) (R : List W) (k : Nat) : List W := (P ++ V.take k) ++ u :: (V.drop k ++ R)
theorem BN {P V : List W} {u : W} {R : List W} {k : Nat} (h : k < V.length) : ∃ y,(zZ P V u R k)[P.length + k]? = some u ∧ (zZ P V u R k)[P.length + k + 1]? = some y ∧
    ((zZ P V u R k).set (P.length + k) y)[P.length + k + 1]? = some y ∧ ((zZ P V u R k).set (P.length + k) y).set (P.length + k + 1) u = zZ P V u R (k + 1) ∧
    (zZ P V u R (k + 1))[P.length + k + 1]? = some u ∧ (zZ P V u R (k + 1))[P.length + k]? = some y ∧ ((zZ P V u R (k + 1)).set (P.length + k + 1) y)[P.length + k]? = some y ∧ ((zZ P V u R (k + 1)).set (P.length + k + 1) y).set (P.length + k) u = zZ P V u R k := by
  obtain ⟨V1,y,V2,rfl,hk⟩ := FA h;obtain ⟨a1,a2,a3,a4⟩ := zD2 (x := y) (X2 := V2) hk;have e : zZ P (V1 ++ y :: V2) u R k = (P ++ V1) ++ u :: y :: (V2 ++ R) := by unfold zZ;rw [a1,a2];simp
  have e' : zZ P (V1 ++ y :: V2) u R (k + 1) = (P ++ V1) ++ y :: u :: (V2 ++ R) := by unfold zZ;rw [a3,a4];simp
  have l0 : P.length + k = (P ++ V1).length := by simp;omega
  have s1 : ∀ (p q : W),((P ++ V1) ++ p :: q :: (V2 ++ R))[P.length + k + 1]? = some q := fun p q => by
    rw [show (P ++ V1) ++ p :: q :: (V2 ++ R) = ((P ++ V1) ++ [p]) ++ q :: (V2 ++ R) by simp];exact lY _ _ _ (by simp;omega)
  have s2 : ∀ (p q z : W),((P ++ V1) ++ p :: q :: (V2 ++ R)).set (P.length + k + 1) z = (P ++ V1) ++ p :: z :: (V2 ++ R) := fun p q z => by
    rw [show (P ++ V1) ++ p :: q :: (V2 ++ R) = ((P ++ V1) ++ [p]) ++ q :: (V2 ++ R) by simp,mC _ _ _ _ (by simp;omega)];simp
  rw [e,e'];refine ⟨y,lY _ _ _ l0,s1 _ _,?_,?_,s1 _ _,lY _ _ _ l0,?_,?_⟩
  · rw [mC _ _ _ _ l0];exact s1 _ _
  · rw [mC _ _ _ _ l0,s2]
  · rw [s2];exact lY _ _ _ l0
  · rw [s2,mC _ _ _ _ l0]
theorem QO {P U V R : List W} {i k : Nat} (h : i = P.length + U.length + k) (hk : k < V.length) : (P ++ (U ++ (V ++ R)))[i]? = V[k]? := by
  subst h;rw [aE (by omega),aE (by omega),aF (by omega)]
  congr 1;omega
theorem QP {P U V R : List W} {i k : Nat} (h : i = P.length + k) (hk : k < U.length) : (P ++ (U ++ (V ++ R)))[i]? = U[k]? := by
  subst h;rw [aE (by omega),aF (by omega)]
  congr 1;omega
end Go.Ld
namespace Go.Proofs.YtbialaoigijlgaaGreatDoor
open Go Go.Ab Go.Ld
attribute [local irreducible] VC AW bT aQ
set_option maxHeartbeats 4000000
theorem uN : D3 Tryz.prog 3 .i64 := by unfold D3;kernel_rfl
theorem oS : D3 Tryz.prog 146 .u64 := by unfold D3;kernel_rfl
attribute [local irreducible] D3
theorem WM (P : List W) (u : W) (V R : List W) {a m b N : Nat} (ha : a = P.length) (hm : m = a + 1) (hb : b = m + V.length) (hN : N = b + R.length) (hl : N ≤ 100000) (hV : Up V) (hu : zU u) (hw : ∀ w,w ∈ V → zU w) :
    aQ Tryz.prog 140 [.sl 0 0 N 3,.i a,.i m,.i b,pA] [.arr (eW (P ++ ([u] ++ (V ++ R)))) 3] (.tup []) [.arr (eW (P ++ (dK eE ([u] ++ V) ++ R))) 3] := by
  refine bK T Tryz.func140 rfl rfl rfl rfl ?_
  (repeat' (first|refine wS ?_|refine wB ?_|refine wT ?_|(refine rg 0 (eG rfl (vV (cJ rfl rfl (by omega) (by omega)) (vV (jZ rfl rfl (by omega)) ?_))))|(refine rg 1 (mW rfl (aV ?_)))|(refine rg 2 (mW rfl (aV ?_)))|refine nZ ?_));refine cT (X := {q : Nat × Nat // m ≤ q.1 ∧ q.1 ≤ q.2 ∧ q.2 ≤ b ∧ (∀ z, 0 < q.1 - m → V[q.1 - m - 1]? = some z → eE z u < 0) ∧ (∀ z, V[q.2 - m]? = some z → ¬ eE z u < 0)})
    (fun q => [(0,.sl 0 0 N 3),(1,.i a),(4,pA),(10,.i q.1.1),(11,.i q.1.2)]) (fun _ => [.arr (eW (P ++ ([u] ++ (V ++ R)))) 3]) (fun q => q.1.2 - q.1.1) ⟨(m,b),by dsimp only;exact ⟨by omega,by omega,by omega,fun z h => by omega,fun z h => by rw [cD (by omega)] at h;cases h⟩⟩
    ⟨[0],rfl,by (repeat (first | exact trivial | refine ⟨rfl,?_⟩)),⟨.inr (aG rfl rfl (bD _)),trivial⟩,by decide,kI⟩ ?_
  rintro ⟨⟨i,j⟩,h1,h2,h3,h4,h5⟩;dsimp only at h1 h2 h3 h4 h5 ⊢;by_cases hij : i < j
  · have hP : ((i : Int) + j) / 2 ^ (1 : Int).toNat = (((i + j) / 2 : Nat) : Int) := by rw [show (2 : Int) ^ (1 : Int).toNat = 2 from rfl];omega
    have hw1 : IntKind.u64.wrap ((i : Int) + j) = (i : Int) + j := BH (by omega) (by omega)
    have hw2 : IntKind.i64.wrap (((i + j) / 2 : Nat) : Int) = (((i + j) / 2 : Nat) : Int) := IntWalk.i64_in _ (by omega)
    have hh : i ≤ (i + j) / 2 ∧ (i + j) / 2 < j := by omega
    generalize hq : (i + j) / 2 = q at *;obtain ⟨z,hz⟩ : ∃ z,V[q - m]? = some z := ⟨_,aB (by omega)⟩
    have q1 := nP (L := P ++ ([u] ++ (V ++ R))) (j := (q : Int)) (i := q) (x := z) (by rw [QO (k := q - m) (by simp;omega) (by omega)];exact hz) rfl
    have q2 := nP (L := P ++ ([u] ++ (V ++ R))) (j := (a : Int)) (i := a) (x := u) (by rw [QP (k := 0) (by omega) (by simp)];rfl) rfl
    have hc := tD z u (hw z (aJ hz)) hu;by_cases h0 : eE z u < 0
    · generalize hx : eE z u = x at *
      (repeat' (first|refine wS ?_|refine wB ?_|refine wK ?_|(refine wC rfl ?_ ?_<;>(intro hb;(try simp only [nm] at hb);try (exfalso;omega)))|(refine rg 3 (eG rfl (vV (aN rfl rfl) ?_)))|(refine rg 4 (eG rfl (vV (bF rfl rfl (by omega) (by omega)) (vV (iC uN oS rfl hw1) (vV (by exact hP ▸ rE rfl rfl (by decide) (by decide)) ?_))));refine vV (iC oS uN rfl hw2) (aV ?_))|(refine cK (id := 5) 220 zJ3 (rM 40 11) zJ4 cM rfl (by decide +kernel) (dN rfl (dN rfl (dN rfl (dV rfl (by exact aL T rfl rfl rfl rfl rfl (by omega) (by omega)) ?_))));refine dV rfl (by exact aS T rfl rfl (bI rfl q1) rfl) ?_;refine dN rfl (dN rfl (dV rfl (by exact aL T rfl rfl rfl rfl rfl (by omega) (by omega)) ?_));refine dV rfl (by exact aS T rfl rfl (bI rfl q2) rfl) ?_;refine dV rfl (kC (hc)) (dV rfl (aN rfl rfl) (dE ?_)))|(refine iA 6 rfl rfl rfl (by omega) (by omega) ?_)|refine nZ ?_));all_goals first | (exfalso;omega) | skip
      exact ⟨⟨(q + 1,j),by dsimp only;exact ⟨by omega,by omega,by omega,fun z' _ hz' => by rw [show q + 1 - m - 1 = q - m by omega,hz] at hz';cases hz';omega,h5⟩⟩,by dsimp only;omega,⟨[0],rfl,by (repeat (first | exact trivial | refine ⟨rfl,?_⟩)),⟨.inr (aG rfl rfl (bD _)),trivial⟩,by decide,kI⟩⟩
    · generalize hx : eE z u = x at *
      (repeat' (first|refine wS ?_|refine wB ?_|refine wK ?_|(refine wC rfl ?_ ?_<;>(intro hb;(try simp only [nm] at hb);try (exfalso;omega)))|(refine rg 3 (eG rfl (vV (aN rfl rfl) ?_)))|(refine rg 4 (eG rfl (vV (bF rfl rfl (by omega) (by omega)) (vV (iC uN oS rfl hw1) (vV (by exact hP ▸ rE rfl rfl (by decide) (by decide)) ?_))));refine vV (iC oS uN rfl hw2) (aV ?_))|(refine cK (id := 5) 220 zJ3 (rM 40 11) zJ4 cM rfl (by decide +kernel) (dN rfl (dN rfl (dN rfl (dV rfl (by exact aL T rfl rfl rfl rfl rfl (by omega) (by omega)) ?_))));refine dV rfl (by exact aS T rfl rfl (bI rfl q1) rfl) ?_;refine dN rfl (dN rfl (dV rfl (by exact aL T rfl rfl rfl rfl rfl (by omega) (by omega)) ?_));refine dV rfl (by exact aS T rfl rfl (bI rfl q2) rfl) ?_;refine dV rfl (kC (hc)) (dV rfl (aN rfl rfl) (dE ?_)))|(refine rg 7 (mW rfl (aV ?_)))|refine nZ ?_));all_goals first | (exfalso;omega) | skip
      exact ⟨⟨(i,q),by dsimp only;exact ⟨by omega,by omega,by omega,h4,fun z' hz' => by rw [hz] at hz';cases hz';omega⟩⟩,by dsimp only;omega,⟨[0],rfl,by (repeat (first | exact trivial | refine ⟨rfl,?_⟩)),⟨.inr (aG rfl rfl (bD _)),trivial⟩,by decide,kI⟩⟩
  · obtain rfl : i = j := by omega
    have hmg := WW (u := u) (i := i - m) (by omega) hV h4 h5
    (repeat' (first|refine wS ?_|refine wB ?_|refine wE ?_|(refine wC rfl ?_ ?_<;>(intro hb;(try simp only [nm] at hb);try (exfalso;omega)))|(refine rg 3 (eG rfl (vV (aN rfl rfl) ?_)))|(refine rg 8 (mW rfl (aV ?_)))|refine nZ ?_));all_goals first | (exfalso;omega) | skip
    refine cT (X := {t : Nat // t ≤ i - m}) (fun t => [(0,.sl 0 0 N 3),(10,.i i),(13,.i ((a + t.1 : Nat) : Int))]) (fun t => [.arr (eW (zZ P V u R t.1)) 3]) (fun t => i - m - t.1) ⟨0,by omega⟩ ⟨[0],rfl,⟨rfl,rfl,by dsimp only;rfl,trivial⟩,⟨.inr (aG rfl (by dsimp only;unfold zZ;simp) (bD _)),trivial⟩,by decide,kI⟩ ?_
    rintro ⟨t,ht⟩;dsimp only;by_cases hlt : t < i - m
    · obtain ⟨y,p1,p2,p3,p4,_⟩ := BN (P := P) (u := u) (R := R) (show t < V.length by omega)
      have q1 := nP (j := ((a + t : Nat) : Int)) p1 (by omega)
      have q2 := nP (j := ((a + t : Nat) : Int) + 1) p2 (by omega)
      have t1 := sX (L := zZ P V u R t) (j := ((a + t : Nat) : Int)) (i := P.length + t) (x := y) (by omega)
      have q3 := nP (j := ((a + t : Nat) : Int) + 1) p3 (by omega)
      have t2 := sX (L := (zZ P V u R t).set (P.length + t) y) (j := ((a + t : Nat) : Int) + 1) (i := P.length + t + 1) (x := u) (by omega)
      rw [← t1] at q3 t2;rw [p4] at t2;have hJ : ((a + t : Nat) : Int) + 1 = ((a + (t + 1) : Nat) : Int) := by omega
      have hJ1 : ((a + t : Nat) : Int) < (i : Int) - 1 := by omega
      have hJ2 : 0 ≤ ((a + t : Nat) : Int) := by omega
      clear p1 p2 p3 p4 t1;generalize ((a + t : Nat) : Int) = J at *;generalize zZ P V u R t = L at *
      (repeat' (first|refine wS ?_|refine wB ?_|refine wK ?_|(refine wC rfl ?_ ?_<;>(intro hb;(try simp only [nm] at hb);try (exfalso;omega)))|(refine rg 9 (eG rfl (vV (cJ rfl rfl (by omega) (by omega)) (vV (aN rfl rfl) ?_))))|(refine mH (id := 11) 220 zJ1 (rM 61 15) [[],[61],[61,62],[61,62,63],[61,62,63],rM 61 5,rM 61 6,rM 61 6,rM 61 5,rM 61 5,rM 61 10,rM 61 11,rM 61 10,rM 61 10,[63,64,65],[63,64,65]] [(15,0)] cM rfl (by decide +kernel) (cE rfl rfl rfl rfl (by exact bU rfl) ?_);refine cE rfl rfl rfl rfl (by exact bU rfl) ?_;refine cE rfl rfl rfl rfl (by exact bU rfl) ?_;refine cE rfl rfl rfl rfl (by exact bU rfl) ?_;refine cE rfl rfl rfl rfl (by exact bF rfl rfl (by omega) (by omega)) ?_;refine cE rfl rfl rfl rfl (by exact bU rfl) ?_;refine cE rfl rfl rfl rfl (by exact bU rfl) ?_;refine cE rfl rfl rfl rfl (by exact bF rfl rfl (by omega) (by omega)) ?_;refine cE rfl rfl rfl rfl (by exact aL T rfl rfl rfl rfl rfl (by omega) (by omega)) ?_;refine cE rfl rfl rfl rfl (by exact aS T rfl rfl (bI rfl q2) rfl) ?_;refine cE rfl rfl rfl rfl (by exact bU rfl) ?_;refine cE rfl rfl rfl rfl (by exact bU rfl) ?_;refine cE rfl rfl rfl rfl (by exact aL T rfl rfl rfl rfl rfl (by omega) (by omega)) ?_;refine cE rfl rfl rfl rfl (by exact aS T rfl rfl (bI rfl q1) rfl) ?_;refine cE rfl rfl rfl rfl (by exact aL T rfl rfl rfl rfl rfl (by omega) (by omega)) ?_;refine tU rfl rfl rfl rfl (aM rfl) T rfl rfl rfl rfl rfl rfl (by decide) (tA rfl q1 rfl) ?_;refine pS rfl rfl rfl (by exact rfl) ?_;refine vV (by exact aL T rfl rfl rfl rfl rfl (by omega) (by omega)) ?_;refine aR T rfl rfl rfl rfl rfl rfl (by decide) (lJ rfl q3 rfl) ?_)|(refine iA 10 rfl rfl rfl (by omega) (by omega) ?_)|refine nZ ?_));all_goals first | (exfalso;omega) | skip
      exact ⟨⟨t + 1,by omega⟩,by dsimp only;omega,⟨[0],rfl,⟨rfl,rfl,by dsimp only;rw [← hJ];try rfl,trivial⟩,⟨.inr (aG rfl (by dsimp only;rw [← t2];try rfl) (bD _)),trivial⟩,by decide,kI⟩⟩
    · obtain rfl : t = i - m := by omega
      have ee : zZ P V u R (i - m) = P ++ (dK eE ([u] ++ V) ++ R) := by rw [hmg];unfold zZ;simp
      have hJ1 : ¬ ((a + (i - m) : Nat) : Int) < (i : Int) - 1 := by omega
      generalize ((a + (i - m) : Nat) : Int) = J at *
      (repeat' (first|refine wS ?_|refine wR ?_|refine wE ?_|(refine wC rfl ?_ ?_<;>(intro hb;(try simp only [nm] at hb);try (exfalso;omega)))|(refine rg 9 (eG rfl (vV (cJ rfl rfl (by omega) (by omega)) (vV (aN rfl rfl) ?_))))|refine nZ ?_));all_goals first | (exfalso;omega) | exact ⟨.inl rfl,[0],_,rfl,rfl,rfl,⟨.inr (aG rfl (by rw [ee]) (bD _)),trivial⟩,by decide,kI⟩ | exact ⟨.inr rfl,[0],_,rfl,rfl,rfl,⟨.inr (aG rfl (by rw [ee]) (bD _)),trivial⟩,by decide,kI⟩
theorem WL (P U : List W) (v : W) (R : List W) {a m b N : Nat} (ha : a = P.length) (hm : m = a + U.length) (hb : b = m + 1) (hN : N = b + R.length) (hl : N ≤ 100000) (hU2 : 2 ≤ U.length) (hU : Up U) (hv : zU v) (hw : ∀ w,w ∈ U → zU w) :
    aQ Tryz.prog 140 [.sl 0 0 N 3,.i a,.i m,.i b,pA] [.arr (eW (P ++ (U ++ ([v] ++ R)))) 3] (.tup []) [.arr (eW (P ++ (dK eE (U ++ [v]) ++ R))) 3] := by
  refine bK T Tryz.func140 rfl rfl rfl rfl ?_
  (repeat' (first|refine wS ?_|refine wB ?_|refine wK ?_|refine wT ?_|refine wU ?_|(refine rg 0 (eG rfl (vV (cJ rfl rfl (by omega) (by omega)) (vV (fX rfl rfl (by omega)) ?_))))|(refine rg 12 (eG rfl (vV (cJ rfl rfl (by omega) (by omega)) (vV (jZ rfl rfl (by omega)) ?_))))|(refine rg 13 (mW rfl (aV ?_)))|(refine rg 14 (mW rfl (aV ?_)))|refine nZ ?_));refine cT (X := {q : Nat × Nat // a ≤ q.1 ∧ q.1 ≤ q.2 ∧ q.2 ≤ m ∧ (∀ z, 0 < q.1 - a → U[q.1 - a - 1]? = some z → ¬ eE v z < 0) ∧ (∀ z, U[q.2 - a]? = some z → eE v z < 0)})
    (fun q => [(0,.sl 0 0 N 3),(2,.i m),(4,pA),(14,.i q.1.1),(15,.i q.1.2)]) (fun _ => [.arr (eW (P ++ (U ++ ([v] ++ R)))) 3]) (fun q => q.1.2 - q.1.1) ⟨(a,m),by dsimp only;exact ⟨by omega,by omega,by omega,fun z h => by omega,fun z h => by rw [cD (by omega)] at h;cases h⟩⟩
    ⟨[0],rfl,by (repeat (first | exact trivial | refine ⟨rfl,?_⟩)),⟨.inr (aG rfl rfl (bD _)),trivial⟩,by decide,kI⟩ ?_
  rintro ⟨⟨i,j⟩,h1,h2,h3,h4,h5⟩;dsimp only at h1 h2 h3 h4 h5 ⊢;by_cases hij : i < j
  · have hP : ((i : Int) + j) / 2 ^ (1 : Int).toNat = (((i + j) / 2 : Nat) : Int) := by rw [show (2 : Int) ^ (1 : Int).toNat = 2 from rfl];omega
    have hw1 : IntKind.u64.wrap ((i : Int) + j) = (i : Int) + j := BH (by omega) (by omega)
    have hw2 : IntKind.i64.wrap (((i + j) / 2 : Nat) : Int) = (((i + j) / 2 : Nat) : Int) := IntWalk.i64_in _ (by omega)
    have hh : i ≤ (i + j) / 2 ∧ (i + j) / 2 < j := by omega
    generalize hq : (i + j) / 2 = q at *;obtain ⟨z,hz⟩ : ∃ z,U[q - a]? = some z := ⟨_,aB (by omega)⟩
    have q1 := nP (L := P ++ (U ++ ([v] ++ R))) (j := (m : Int)) (i := m) (x := v) (by rw [QO (k := 0) (by omega) (by simp)];rfl) rfl
    have q2 := nP (L := P ++ (U ++ ([v] ++ R))) (j := (q : Int)) (i := q) (x := z) (by rw [QP (k := q - a) (by omega) (by omega)];exact hz) rfl
    have hc := tD v z hv (hw z (aJ hz));by_cases h0 : eE v z < 0
    · generalize hx : eE v z = x at *
      (repeat' (first|refine wS ?_|refine wB ?_|refine wK ?_|(refine wC rfl ?_ ?_<;>(intro hb;(try simp only [nm] at hb);try (exfalso;omega)))|(refine rg 15 (eG rfl (vV (aN rfl rfl) ?_)))|(refine rg 16 (eG rfl (vV (bF rfl rfl (by omega) (by omega)) (vV (iC uN oS rfl hw1) (vV (by exact hP ▸ rE rfl rfl (by decide) (by decide)) ?_))));refine vV (iC oS uN rfl hw2) (aV ?_))|(refine cK (id := 17) 220 zJ5 (rM 92 12) zJ6 cM rfl (by decide +kernel) (dN rfl (dN rfl (dN rfl (dV rfl (by exact aL T rfl rfl rfl rfl rfl (by omega) (by omega)) ?_))));refine dV rfl (by exact aS T rfl rfl (bI rfl q1) rfl) ?_;refine dN rfl (dN rfl (dV rfl (by exact aL T rfl rfl rfl rfl rfl (by omega) (by omega)) ?_));refine dV rfl (by exact aS T rfl rfl (bI rfl q2) rfl) ?_;refine dV rfl (kC (hc)) (dV rfl (aN rfl rfl) (dV rfl (fB rfl) (dE ?_))))|(refine rg 19 (mW rfl (aV ?_)))|refine nZ ?_));all_goals first | (exfalso;omega) | skip
      exact ⟨⟨(i,q),by dsimp only;exact ⟨by omega,by omega,by omega,h4,fun z' hz' => by rw [hz] at hz';cases hz';omega⟩⟩,by dsimp only;omega,⟨[0],rfl,by (repeat (first | exact trivial | refine ⟨rfl,?_⟩)),⟨.inr (aG rfl rfl (bD _)),trivial⟩,by decide,kI⟩⟩
    · generalize hx : eE v z = x at *
      (repeat' (first|refine wS ?_|refine wB ?_|refine wK ?_|(refine wC rfl ?_ ?_<;>(intro hb;(try simp only [nm] at hb);try (exfalso;omega)))|(refine rg 15 (eG rfl (vV (aN rfl rfl) ?_)))|(refine rg 16 (eG rfl (vV (bF rfl rfl (by omega) (by omega)) (vV (iC uN oS rfl hw1) (vV (by exact hP ▸ rE rfl rfl (by decide) (by decide)) ?_))));refine vV (iC oS uN rfl hw2) (aV ?_))|(refine cK (id := 17) 220 zJ5 (rM 92 12) zJ6 cM rfl (by decide +kernel) (dN rfl (dN rfl (dN rfl (dV rfl (by exact aL T rfl rfl rfl rfl rfl (by omega) (by omega)) ?_))));refine dV rfl (by exact aS T rfl rfl (bI rfl q1) rfl) ?_;refine dN rfl (dN rfl (dV rfl (by exact aL T rfl rfl rfl rfl rfl (by omega) (by omega)) ?_));refine dV rfl (by exact aS T rfl rfl (bI rfl q2) rfl) ?_;refine dV rfl (kC (hc)) (dV rfl (aN rfl rfl) (dV rfl (fB rfl) (dE ?_))))|(refine iA 18 rfl rfl rfl (by omega) (by omega) ?_)|refine nZ ?_));all_goals first | (exfalso;omega) | skip
      exact ⟨⟨(q + 1,j),by dsimp only;exact ⟨by omega,by omega,by omega,fun z' _ hz' => by rw [show q + 1 - a - 1 = q - a by omega,hz] at hz';cases hz';omega,h5⟩⟩,by dsimp only;omega,⟨[0],rfl,by (repeat (first | exact trivial | refine ⟨rfl,?_⟩)),⟨.inr (aG rfl rfl (bD _)),trivial⟩,by decide,kI⟩⟩
  · obtain rfl : i = j := by omega
    have hmg := WV (v := v) (i := i - a) (by omega) hU h4 h5
    (repeat' (first|refine wS ?_|refine wB ?_|refine wE ?_|(refine wC rfl ?_ ?_<;>(intro hb;(try simp only [nm] at hb);try (exfalso;omega)))|(refine rg 15 (eG rfl (vV (aN rfl rfl) ?_)))|(refine rg 20 (mW rfl (aV ?_)))|refine nZ ?_));all_goals first | (exfalso;omega) | skip
    refine cT (X := {t : Nat // i - a ≤ t ∧ t ≤ U.length}) (fun t => [(0,.sl 0 0 N 3),(14,.i i),(17,.i ((a + t.1 : Nat) : Int))]) (fun t => [.arr (eW (zZ P U v R t.1)) 3]) (fun t => t.1) ⟨U.length,by omega⟩ ⟨[0],rfl,⟨rfl,rfl,by dsimp only;rw [← hm];rfl,trivial⟩,⟨.inr (aG rfl (by dsimp only;unfold zZ;simp) (bD _)),trivial⟩,by decide,kI⟩ ?_
    rintro ⟨t,ht,ht2⟩;dsimp only;by_cases hlt : i - a < t
    · obtain ⟨t,rfl⟩ : ∃ t',t = t' + 1 := ⟨t - 1,by omega⟩
      obtain ⟨y,_,_,_,_,p1,p2,p3,p4⟩ := BN (P := P) (u := v) (R := R) (show t < U.length by omega)
      have q1 := nP (j := ((a + (t + 1) : Nat) : Int)) p1 (by omega)
      have q2 := nP (j := ((a + (t + 1) : Nat) : Int) - 1) p2 (by omega)
      have t1 := sX (L := zZ P U v R (t + 1)) (j := ((a + (t + 1) : Nat) : Int)) (i := P.length + t + 1) (x := y) (by omega)
      have q3 := nP (j := ((a + (t + 1) : Nat) : Int) - 1) p3 (by omega)
      have t2 := sX (L := (zZ P U v R (t + 1)).set (P.length + t + 1) y) (j := ((a + (t + 1) : Nat) : Int) - 1) (i := P.length + t) (x := v) (by omega)
      rw [← t1] at q3 t2;rw [p4] at t2;have hJ : ((a + (t + 1) : Nat) : Int) - 1 = ((a + t : Nat) : Int) := by omega
      have hJ1 : ((a + (t + 1) : Nat) : Int) > (i : Int) := by omega
      have hJ2 : 1 ≤ ((a + (t + 1) : Nat) : Int) := by omega
      have hJ3 : ((a + (t + 1) : Nat) : Int) < N := by omega
      clear p1 p2 p3 p4 t1;generalize ((a + (t + 1) : Nat) : Int) = J at *;generalize zZ P U v R (t + 1) = L at *
      (repeat' (first|refine wS ?_|refine wB ?_|refine wK ?_|(refine wC rfl ?_ ?_<;>(intro hb;(try simp only [nm] at hb);try (exfalso;omega)))|(refine rg 21 (eG rfl (vV (gN rfl rfl) ?_)))|(refine mH (id := 23) 220 zJ1 (rM 113 15) [[],[113],[113,114],[113,114,115],[113,114,115],rM 113 5,rM 113 6,rM 113 6,rM 113 5,rM 113 5,rM 113 10,rM 113 11,rM 113 10,rM 113 10,[115,116,117],[115,116,117]] [(15,0)] cM rfl (by decide +kernel) (cE rfl rfl rfl rfl (by exact bU rfl) ?_);refine cE rfl rfl rfl rfl (by exact bU rfl) ?_;refine cE rfl rfl rfl rfl (by exact bU rfl) ?_;refine cE rfl rfl rfl rfl (by exact bU rfl) ?_;refine cE rfl rfl rfl rfl (by exact cJ rfl rfl (by omega) (by omega)) ?_;refine cE rfl rfl rfl rfl (by exact bU rfl) ?_;refine cE rfl rfl rfl rfl (by exact bU rfl) ?_;refine cE rfl rfl rfl rfl (by exact cJ rfl rfl (by omega) (by omega)) ?_;refine cE rfl rfl rfl rfl (by exact aL T rfl rfl rfl rfl rfl (by omega) (by omega)) ?_;refine cE rfl rfl rfl rfl (by exact aS T rfl rfl (bI rfl q2) rfl) ?_;refine cE rfl rfl rfl rfl (by exact bU rfl) ?_;refine cE rfl rfl rfl rfl (by exact bU rfl) ?_;refine cE rfl rfl rfl rfl (by exact aL T rfl rfl rfl rfl rfl (by omega) (by omega)) ?_;refine cE rfl rfl rfl rfl (by exact aS T rfl rfl (bI rfl q1) rfl) ?_;refine cE rfl rfl rfl rfl (by exact aL T rfl rfl rfl rfl rfl (by omega) (by omega)) ?_;refine tU rfl rfl rfl rfl (aM rfl) T rfl rfl rfl rfl rfl rfl (by decide) (tA rfl q1 rfl) ?_;refine pS rfl rfl rfl (by exact rfl) ?_;refine vV (by exact aL T rfl rfl rfl rfl rfl (by omega) (by omega)) ?_;refine aR T rfl rfl rfl rfl rfl rfl (by decide) (lJ rfl q3 rfl) ?_)|(refine rg 22 (mW rfl (vV (cJ rfl rfl (by omega) (by omega)) (aV ?_))))|refine nZ ?_));all_goals first | (exfalso;omega) | skip
      exact ⟨⟨t,by omega⟩,by dsimp only;omega,⟨[0],rfl,⟨rfl,rfl,by dsimp only;rw [← hJ];try rfl,trivial⟩,⟨.inr (aG rfl (by dsimp only;rw [← t2];try rfl) (bD _)),trivial⟩,by decide,kI⟩⟩
    · obtain rfl : t = i - a := by omega
      have ee : zZ P U v R (i - a) = P ++ (dK eE (U ++ [v]) ++ R) := by rw [hmg];unfold zZ;simp
      have hJ1 : ¬ ((a + (i - a) : Nat) : Int) > (i : Int) := by omega
      generalize ((a + (i - a) : Nat) : Int) = J at *
      (repeat' (first|refine wS ?_|refine wR ?_|refine wE ?_|(refine wC rfl ?_ ?_<;>(intro hb;(try simp only [nm] at hb);try (exfalso;omega)))|(refine rg 21 (eG rfl (vV (gN rfl rfl) ?_)))|refine nZ ?_));all_goals first | (exfalso;omega) | exact ⟨.inl rfl,[0],_,rfl,rfl,rfl,⟨.inr (aG rfl (by rw [ee]) (bD _)),trivial⟩,by decide,kI⟩ | exact ⟨.inr rfl,[0],_,rfl,rfl,rfl,⟨.inr (aG rfl (by rw [ee]) (bD _)),trivial⟩,by decide,kI⟩
end Go.Proofs.YtbialaoigijlgaaGreatDoor
namespace Go.Ab
open Go
set_option maxHeartbeats 1000000
theorem nY {z : Array Value} {zs : List Value} (hz : z.toList = zs) (hn : zs ≠ []) (m : Nat) : (∀ v,v ∈ (Builtin.zeroCells z m).toList → v ∈ zs) ∧ (Builtin.zeroCells z m).toList.length = m * zs.length := by
  subst hz;have h0 : 0 < z.size := by
    rcases zW z.size with h | h
    · exact absurd (by simpa using Array.size_eq_zero_iff.1 h) hn
    · exact h
  unfold Builtin.zeroCells;constructor
  · intro v hv;simp only [bL,Array.toList_ofFn,List.mem_ofFn,Array.toList_map,Array.toList_range] at hv;rcases hv with ⟨i,hi⟩
    first
      | (have hlt := Nat.mod_lt i.1 h0;rw [getElem!_pos z _ hlt] at hi;rw [← hi];exact Array.mem_toList_iff.2 (Array.getElem_mem _))
      | (have hlt := Nat.mod_lt i h0;rw [getElem!_pos z _ hlt] at hi;rw [← hi.2];exact Array.mem_toList_iff.2 (Array.getElem_mem _))
  · simp
section
variable {P : Program} {env : dI} {h : Hp} {n : Nat × Nat} {ops : Array Oper} {rest : List Oper} {K : dI → Hp → Prop} {ty : TypeId} {pos : String} {af : Array Edge}
theorem A4 (T : nN P) {t e k off len sz : Nat} {i : TI} {x : Operand} {es : List (List AV)} (hx : evu env x = some (.sl k off len sz)) (ht : T.elem t = some e) (he : T.ti e = some i) (hz : i.zero.length = sz ∧ i.zero.all Value.oneCell' = true ∧ 0 < sz) (hkk : h[k]? = some (.arr es sz)) (hle : off + len ≤ es.length)
    (hk : VC P n ops rest env (h.set k (.arr (es.take off) sz)) K) : VC P n ops (⟨none,.call { callee := .builtin .clear,args := #[x],argTypes := #[t] },ty,pos,af,none⟩ :: rest) env h K := by
  intro c ρ S a w Q s hQ;refine wpList_plain rfl fun K' hK' => ?_
  have p := s.pre;have hxv := p.evu hx;simp only [R] at hxv;obtain ⟨ad,cap,hev,_,hxv⟩ := hxv;obtain ⟨inf,z,t1,t2,t3,t4,t5,t6,t7⟩ := T.tiOk e i he;have hund : P.underlying t = some (.slice e) := T.elemOk _ _ ht;have hzv : ∀ w,(zeroValue e).run P w = .ok z w := fun w => by simp [zeroValue,typeInfo,t1,t4]
  obtain ⟨hz1,hz2,hz3⟩ := hz;have hzc := nY (z := z.cells) t5 (fun h0 => by rw [h0] at hz1;simp at hz1;omega)
  have ev1 : ∀ r w',(Builtin.clear_ #[t] ty #[a.eval x]).run P w = .ok r w' → (execOp a.eval ⟨none,.call { callee := .builtin .clear,args := #[x],argTypes := #[t] },ty,pos,af,none⟩).run P w = .ok (.value r) w' := fun r w' hr => by
    simp [execOp,resolve,invoke,builtin,hr]
  have fin : ∀ {r : Value} {w' : World},(Builtin.clear_ #[t] ty #[a.eval x]).run P w = .ok r w' → HS c ρ S (h.set k (.arr (es.take off) sz)) w' ∧ gM ρ ρ S S w w' → Oper.wp P ⟨none,.call { callee := .builtin .clear,args := #[x],argTypes := #[t] },ty,pos,af,none⟩ a w K' Q := fun {r w'} hr ⟨g1,g2⟩ => by
    unfold Oper.wp;rw [ev1 r w' hr];exact hK' _ _ (hk c ρ S _ _ Q ⟨by rw [kN];exact s.size,by rw [iO];exact s.defers.later g2,fun tt uu huu => (s.env tt uu huu).later g2,g1,s.cm⟩ hQ)
  have stay : HS c ρ S (h.set k (.arr (es.take off) sz)) w ∧ gM ρ ρ S S w w := ⟨s.hs.alter hkk (AX off) (by simp),⟨fun _ _ h => h,fun _ h => h,fun _ _ => rfl,fun _ _ _ _ _ h => h⟩⟩
  cases len with
  | zero =>
    refine fin (r := .tuple #[]) ?_ stay;rw [hev];cases ad <;> simp [Builtin.clear_,run_underlying hund]
  | succ m =>
    rcases hxv with ⟨h0,_⟩ | ⟨b,o,hp,ha,hlc,hroom⟩
    · cases h0
    · have hB := p.blk k _ hkk;obtain ⟨hes,hs0,hB⟩ := hB;rcases hB with hB | ⟨b',o',ys,h4,⟨cc,ct,h5,h6⟩,h7⟩
      · obtain ⟨hB,_⟩ := hB;subst hB;simp at hle
      rw [hp] at h4;cases h4;have hyl := fH h7;have hfl := eZ hes;have hmul : (off + (m + 1)) * sz ≤ es.length * sz := gL _ hle;rw [eL] at hmul;have hpos : 0 < (m + 1) * sz := Nat.mul_pos (by omega) hz3
      have hlast := h6 (ys.length - 1) (ys[ys.length - 1]'(by omega)) (aB _)
      have hsz := (aH.1 hlast).1;obtain ⟨hzm,hzl⟩ := hzc (m + 1);rw [hz1] at hzl;generalize hZ : (Builtin.zeroCells z.cells (m + 1)).toList = Z at *;have hst := run_storeCells_at P b (o + off * sz) ct Z 0 cc w h5 (by rw [hzl];omega) (by intro v hv;exact (bA.1 hz2) v (hzm v hv))
      subst ha;refine fin (r := .tuple #[]) (w' := w.setRow b (cc.toList.take (o + off * sz + 0) ++ Z ++ cc.toList.drop (o + off * sz + 0 + Z.length)).toArray) ?_ (s.hs.upd hkk (by simp) hp (nL h5 ?_) fun l => ?_)
      · rw [hev];simp only [Builtin.clear_];simp [run_underlying hund,hzv,hZ,hst]
      · simp;omega
      · refine ⟨fun e he => hes e (eD he),hz3,.inr ⟨b,o,ys.take (off * sz),rfl,⟨_,ct,setRow_heap w b cc _ ct _ h5,fun j y hj => ?_⟩,?_⟩⟩
        · rw [bM] at hj;split at hj
          · rename_i hjo;have := h6 j y hj;have hjl := (aH.1 this).1;rw [fZ,bE,aF (by simp;omega),bM,if_pos (by omega)]
            simpa using this
          · cases hj
        · rw [mF hes];exact oR (h7.later l) _
end
end Go.Ab
namespace Go.Ld
open Go.Ab Go.Proofs.YtbialaoigijlgaaGreatDoor
theorem SJ {P U V R : List W} {a m b mid n lo hi s : Nat} (ha : a = P.length) (hm : m = a + U.length) (hb : b = m + V.length) (hmid : mid = (a + b) / 2) (hn : n = mid + m) (hU : Up U) (hV : Up V)
    (hc : mid < m ∧ lo = n - b ∧ hi = mid ∨ m ≤ mid ∧ lo = a ∧ hi = m) (hs1 : lo ≤ s) (hs2 : s ≤ hi)
    (h1 : ∀ x y,lo < s → (P ++ (U ++ (V ++ R)))[s - 1]? = some x → (P ++ (U ++ (V ++ R)))[n - s]? = some y → ¬ eE y x < 0)
    (h2 : ∀ x y,s < hi → (P ++ (U ++ (V ++ R)))[s]? = some x → (P ++ (U ++ (V ++ R)))[n - 1 - s]? = some y → eE y x < 0) :
    ∃ X1 X2 Y1 Y2,U = X1 ++ X2 ∧ V = Y1 ++ Y2 ∧ s = a + X1.length ∧ n = (m + Y1.length) + s ∧ mid = a + X1.length + Y1.length ∧ dK eE (U ++ V) = dK eE (X1 ++ Y1) ++ dK eE (X2 ++ Y2) := by
  have f1 : a ≤ s ∧ s ≤ m ∧ m + s ≤ n ∧ n ≤ b + s := by rcases hc with ⟨c1,c2,c3⟩ | ⟨c1,c2,c3⟩ <;> omega
  obtain ⟨f1,f2,f3,f4⟩ := f1;refine ⟨U.take (s - a),U.drop (s - a),V.take (n - s - m),V.drop (n - s - m),by simp,by simp,by rw [aU];omega,by rw [aU];omega,by rw [aU,aU];omega,?_⟩
  refine zA5 hU hV (by omega) (by omega) (fun x y h0 hx hy => ?_) (fun x y h0 hx hy => ?_)
  · have i1 := (aA.1 hy).1;refine h1 x y (by rcases hc with ⟨c1,c2,c3⟩ | ⟨c1,c2,c3⟩ <;> omega) ?_ ?_
    · rw [QP (k := s - a - 1) (by omega) (by omega)];exact hx
    · rw [QO (k := n - s - m) (by omega) (by omega)];exact hy
  · have i1 := (aA.1 hx).1;refine h2 x y (by rcases hc with ⟨c1,c2,c3⟩ | ⟨c1,c2,c3⟩ <;> omega) ?_ ?_
    · rw [QP (k := s - a) (by omega) (by omega)];exact hx
    · rw [QO (k := n - s - m - 1) (by omega) (by omega)];exact hy
theorem YZ {A B : List W} (h : Up (A ++ B)) : Up A := (eU.1 h).1
theorem YY {A B : List W} (h : Up (A ++ B)) : Up B := (eU.1 h).2.1
def bs (k : Nat) (l : List W) : List W := if h : l.length ≤ k ∨ k = 0 then dK eE l else dK eE (l.take k) ++ bs k (l.drop k)
  termination_by l.length
  decreasing_by simp only [dB];omega
theorem F7 {k : Nat} {l : List W} (h : l.length ≤ k) : bs k l = dK eE l := by unfold bs;rw [dif_pos (.inl h)]
theorem zB0 {k : Nat} {l : List W} (h : k < l.length) (h0 : 0 < k) : bs k l = dK eE (l.take k) ++ bs k (l.drop k) := by rw [bs,dif_neg (by omega)]
theorem N9 {k : Nat} {a b : List W} (h : a.length = k) (h0 : 0 < k) : bs k (a ++ b) = dK eE a ++ bs k b := by
  subst h;cases b with
  | nil => rw [List.append_nil,F7 (aX _),F7 (bW _)];simp [dK]
  | cons x b => rw [zB0 (by simp) h0,sT,sV]
theorem YE (k : Nat) (l : List W) : (bs k l).length = l.length := by
  induction hn : l.length using Nat.strongRecOn generalizing l with
  | _ n ih =>
    unfold bs;split
    · rw [gX,hn]
    · rw [aD,gX,aU,ih (l.drop k).length (by rw [dB];omega) _ rfl,dB];omega
theorem BV (a b : List W) : dK eE (dK eE a ++ dK eE b) = dK eE (a ++ b) :=
  yS ((dJ _ _).trans ((dJ _ _).append (dJ _ _)).symm) (jX iF _)
end Go.Ld
namespace Go.Proofs.YtbialaoigijlgaaGreatDoor
open Go Go.Ab Go.Ld
attribute [local irreducible] VC AW bT aQ D3
set_option maxHeartbeats 4000000
theorem VP : ∀ (k : Nat) (P U V R : List W) {a m b N : Nat},b - a ≤ k → 0 < U.length → 0 < V.length → a = P.length → m = a + U.length → b = m + V.length → N = b + R.length → N ≤ 100000 → Up U → Up V → (∀ w,w ∈ U → zU w) → (∀ w,w ∈ V → zU w) →
    aQ Tryz.prog 140 [.sl 0 0 N 3,.i a,.i m,.i b,pA] [.arr (eW (P ++ (U ++ (V ++ R)))) 3] (.tup []) [.arr (eW (P ++ (dK eE (U ++ V) ++ R))) 3] := by
  intro k
  induction k with
  | zero => intros;exfalso;omega
  | succ k ih =>
    intro P U V R a m b N hk hU0 hV0 ha hm hb hN hl hU hV hwU hwV;by_cases hu1 : U.length = 1
    · obtain ⟨u,rfl⟩ := List.length_eq_one_iff.1 hu1;exact WM P u V R ha hm hb hN hl hV (hwU u (by simp)) hwV
    by_cases hv1 : V.length = 1
    · obtain ⟨v,rfl⟩ := List.length_eq_one_iff.1 hv1;exact WL P U v R ha hm hb hN hl (by omega) hU (hwV v (by simp)) hwU
    have hP : ((a : Int) + b) / 2 ^ (1 : Int).toNat = (((a + b) / 2 : Nat) : Int) := by rw [show (2 : Int) ^ (1 : Int).toNat = 2 from rfl];omega
    have hw1 : IntKind.u64.wrap ((a : Int) + b) = (a : Int) + b := BH (by omega) (by omega)
    have hw2 : IntKind.i64.wrap (((a + b) / 2 : Nat) : Int) = (((a + b) / 2 : Nat) : Int) := IntWalk.i64_in _ (by omega)
    obtain ⟨mid,hmid⟩ : ∃ mid,mid = (a + b) / 2 := ⟨_,rfl⟩;rw [← hmid] at hP hw2;have hD1 : ∀ i,a ≤ i → i < m → (P ++ (U ++ (V ++ R)))[i]? = U[i - a]? := fun i h1 h2 => QP (by omega) (by omega)
    have hD2 : ∀ i,m ≤ i → i < b → (P ++ (U ++ (V ++ R)))[i]? = V[i - m]? := fun i h1 h2 => QO (by omega) (by omega)
    have hcut : ∀ {lo hi s : Nat},_ := @SJ P U V R a m b mid (mid + m);generalize hDe : P ++ (U ++ (V ++ R)) = D at *;refine bK T Tryz.func140 rfl rfl rfl rfl ?_;apply Go.Ab.cutT (T := ∀ lo hi : Nat,(mid < m ∧ lo = mid + m - b ∧ hi = mid ∨ m ≤ mid ∧ lo = a ∧ hi = m) → _)
    · intro rest;by_cases h : mid < m
      · obtain ⟨lo,hlo⟩ : ∃ lo : Nat,lo = mid + m - b := ⟨_,rfl⟩;obtain ⟨hi,hhi⟩ : ∃ hi : Nat,hi = mid := ⟨_,rfl⟩
        (repeat' (first|refine wS ?_|refine wB ?_|refine wK ?_|refine wU ?_|(refine wC rfl ?_ ?_<;>(intro hb;(try simp only [nm] at hb);try (exfalso;omega)))|(refine rg 0 (eG rfl (vV (cJ rfl rfl (by omega) (by omega)) (vV (fX rfl rfl (by omega)) ?_))))|(refine rg 12 (eG rfl (vV (cJ rfl rfl (by omega) (by omega)) (vV (fX rfl rfl (by omega)) ?_))))|(refine rg 24 (eG rfl (vV (bF rfl rfl (by omega) (by omega)) (vV (iC uN oS rfl hw1) (vV (by exact hP ▸ rE rfl rfl (by decide) (by decide)) ?_))));refine vV (iC oS uN rfl hw2) (aV ?_))|(refine rg 25 (eG rfl (vV (bF rfl rfl (by omega) (by omega)) (aV ?_))))|(refine rg 26 (pG ?_))|(refine rg 27 (eG rfl (vV (gN rfl rfl) ?_)))|(refine rg 28 (eG rfl (vV (cJ rfl rfl (by omega) (by omega)) (aV ?_))))|(refine rg 29 (mW rfl (aV ?_)))|(refine rg 32 (mW rfl (vV (cJ rfl rfl (by omega) (by omega)) (aV ?_))))|refine nZ ?_));all_goals first | (exfalso;omega) | exact eM [(0,.sl 0 0 N 3),(1,.i a),(2,.i m),(3,.i b),(4,pA),(18,.i mid),(19,.i ((mid : Int) + m)),(20,.i lo),(21,.i hi),(22,.i ((mid : Int) + m - 1))] [.arr (eW D) 3] ⟨[0],rfl,⟨rfl,rfl,rfl,rfl,rfl,rfl,rfl,by rw [show (lo : Int) = (mid : Int) + m - b by omega];rfl,by rw [hhi];rfl,rfl,trivial⟩,⟨.inr (aG rfl rfl (bD _)),trivial⟩,by decide,kI⟩ (rest.get lo hi (by omega))
      · obtain ⟨lo,hlo⟩ : ∃ lo : Nat,lo = a := ⟨_,rfl⟩;obtain ⟨hi,hhi⟩ : ∃ hi : Nat,hi = m := ⟨_,rfl⟩
        (repeat' (first|refine wS ?_|refine wB ?_|refine wK ?_|refine wU ?_|(refine wC rfl ?_ ?_<;>(intro hb;(try simp only [nm] at hb);try (exfalso;omega)))|(refine rg 0 (eG rfl (vV (cJ rfl rfl (by omega) (by omega)) (vV (fX rfl rfl (by omega)) ?_))))|(refine rg 12 (eG rfl (vV (cJ rfl rfl (by omega) (by omega)) (vV (fX rfl rfl (by omega)) ?_))))|(refine rg 24 (eG rfl (vV (bF rfl rfl (by omega) (by omega)) (vV (iC uN oS rfl hw1) (vV (by exact hP ▸ rE rfl rfl (by decide) (by decide)) ?_))));refine vV (iC oS uN rfl hw2) (aV ?_))|(refine rg 25 (eG rfl (vV (bF rfl rfl (by omega) (by omega)) (aV ?_))))|(refine rg 26 (pG ?_))|(refine rg 27 (eG rfl (vV (gN rfl rfl) ?_)))|(refine rg 30 (mW rfl (aV ?_)))|(refine rg 31 (mW rfl (aV ?_)))|(refine rg 32 (mW rfl (vV (cJ rfl rfl (by omega) (by omega)) (aV ?_))))|refine nZ ?_));all_goals first | (exfalso;omega) | exact eM [(0,.sl 0 0 N 3),(1,.i a),(2,.i m),(3,.i b),(4,pA),(18,.i mid),(19,.i ((mid : Int) + m)),(20,.i lo),(21,.i hi),(22,.i ((mid : Int) + m - 1))] [.arr (eW D) 3] ⟨[0],rfl,⟨rfl,rfl,rfl,rfl,rfl,rfl,rfl,by rw [hlo];rfl,by rw [hhi];rfl,rfl,trivial⟩,⟨.inr (aG rfl rfl (bD _)),trivial⟩,by decide,kI⟩ (rest.get lo hi (by omega))
    intro lo hi hc;have hcut := fun s => @hcut lo hi s ha hm hb hmid rfl hU hV hc
    refine cT (X := {q : Nat × Nat // lo ≤ q.1 ∧ q.1 ≤ q.2 ∧ q.2 ≤ hi ∧ (∀ x y, lo < q.1 → D[q.1 - 1]? = some x → D[mid + m - q.1]? = some y → ¬ eE y x < 0) ∧ (∀ x y, q.2 < hi → D[q.2]? = some x → D[mid + m - 1 - q.2]? = some y → eE y x < 0)})
      (fun q => [(0,.sl 0 0 N 3),(1,.i a),(2,.i m),(3,.i b),(4,pA),(18,.i mid),(19,.i ((mid : Int) + m)),(20,.i q.1.1),(21,.i q.1.2),(22,.i ((mid : Int) + m - 1))]) (fun _ => [.arr (eW D) 3]) (fun q => q.1.2 - q.1.1) ⟨(lo,hi),by dsimp only;exact ⟨by omega,by omega,by omega,fun x y h => by omega,fun x y h => by omega⟩⟩
      ⟨[0],rfl,by (repeat (first | exact trivial | refine ⟨rfl,?_⟩)),⟨.inr (aG rfl rfl (bD _)),trivial⟩,by decide,kI⟩ ?_
    rintro ⟨⟨i,j⟩,h1,h2,h3,h4,h5⟩;dsimp only at h1 h2 h3 h4 h5 ⊢;have hlo : a ≤ lo ∧ hi ≤ m ∧ m ≤ mid + m - hi ∧ mid + m - lo ≤ b ∧ lo ≤ mid + m := by omega
    by_cases hij : i < j
    · clear hP hw1 hw2;have hP : ((i : Int) + j) / 2 ^ (1 : Int).toNat = (((i + j) / 2 : Nat) : Int) := by rw [show (2 : Int) ^ (1 : Int).toNat = 2 from rfl];omega
      have hw1 : IntKind.u64.wrap ((i : Int) + j) = (i : Int) + j := BH (by omega) (by omega)
      have hw2 : IntKind.i64.wrap (((i + j) / 2 : Nat) : Int) = (((i + j) / 2 : Nat) : Int) := IntWalk.i64_in _ (by omega)
      have hh : i ≤ (i + j) / 2 ∧ (i + j) / 2 < j := by omega
      generalize hq : (i + j) / 2 = q at *;obtain ⟨x,hx⟩ : ∃ x,U[q - a]? = some x := ⟨_,aB (by omega)⟩
      obtain ⟨y,hy⟩ : ∃ y,V[mid + m - 1 - q - m]? = some y := ⟨_,aB (by omega)⟩
      have wx := hwU x (aJ hx);have wy := hwV y (aJ hy);rw [← hD1 q (by omega) (by omega)] at hx
      rw [← hD2 (mid + m - 1 - q) (by omega) (by omega)] at hy
      have q1 := nP (j := (mid : Int) + m - 1 - q) hy (by omega)
      have q2 := nP (j := (q : Int)) hx rfl;have hc' := tD y x wy wx;by_cases h0 : eE y x < 0
      · generalize hz : eE y x = z at *
        (repeat' (first|refine wS ?_|refine wB ?_|refine wK ?_|(refine wC rfl ?_ ?_<;>(intro hb;(try simp only [nm] at hb);try (exfalso;omega)))|(refine rg 33 (eG rfl (vV (aN rfl rfl) ?_)))|(refine rg 34 (eG rfl (vV (bF rfl rfl (by omega) (by omega)) (vV (iC uN oS rfl hw1) (vV (by exact hP ▸ rE rfl rfl (by decide) (by decide)) ?_))));refine vV (iC oS uN rfl hw2) (aV ?_))|(refine cK (id := 35) 220 zJ7 (rM 158 14) zJ8 cM rfl (by decide +kernel) (dN rfl (dN rfl (dN rfl (dN rfl (dV rfl (cJ rfl rfl (by omega) (by omega)) (dV rfl (by exact aL T rfl rfl rfl rfl rfl (by omega) (by omega)) ?_))))));refine dV rfl (by exact aS T rfl rfl (bI rfl q1) rfl) ?_;refine dN rfl (dN rfl (dV rfl (by exact aL T rfl rfl rfl rfl rfl (by omega) (by omega)) ?_));refine dV rfl (by exact aS T rfl rfl (bI rfl q2) rfl) ?_;refine dV rfl (kC (hc')) (dV rfl (aN rfl rfl) (dV rfl (fB rfl) (dE ?_))))|(refine rg 37 (mW rfl (aV ?_)))|refine nZ ?_));all_goals first | (exfalso;omega) | skip
        exact ⟨⟨(i,q),by dsimp only;exact ⟨by omega,by omega,by omega,h4,fun x' y' _ hx' hy' => by rw [hx] at hx';rw [hy] at hy';cases hx';cases hy';omega⟩⟩,by dsimp only;omega,⟨[0],rfl,by (repeat (first | exact trivial | refine ⟨rfl,?_⟩)),⟨.inr (aG rfl rfl (bD _)),trivial⟩,by decide,kI⟩⟩
      · generalize hz : eE y x = z at *
        (repeat' (first|refine wS ?_|refine wB ?_|refine wK ?_|(refine wC rfl ?_ ?_<;>(intro hb;(try simp only [nm] at hb);try (exfalso;omega)))|(refine rg 33 (eG rfl (vV (aN rfl rfl) ?_)))|(refine rg 34 (eG rfl (vV (bF rfl rfl (by omega) (by omega)) (vV (iC uN oS rfl hw1) (vV (by exact hP ▸ rE rfl rfl (by decide) (by decide)) ?_))));refine vV (iC oS uN rfl hw2) (aV ?_))|(refine cK (id := 35) 220 zJ7 (rM 158 14) zJ8 cM rfl (by decide +kernel) (dN rfl (dN rfl (dN rfl (dN rfl (dV rfl (cJ rfl rfl (by omega) (by omega)) (dV rfl (by exact aL T rfl rfl rfl rfl rfl (by omega) (by omega)) ?_))))));refine dV rfl (by exact aS T rfl rfl (bI rfl q1) rfl) ?_;refine dN rfl (dN rfl (dV rfl (by exact aL T rfl rfl rfl rfl rfl (by omega) (by omega)) ?_));refine dV rfl (by exact aS T rfl rfl (bI rfl q2) rfl) ?_;refine dV rfl (kC (hc')) (dV rfl (aN rfl rfl) (dV rfl (fB rfl) (dE ?_))))|(refine iA 36 rfl rfl rfl (by omega) (by omega) ?_)|refine nZ ?_));all_goals first | (exfalso;omega) | skip
        exact ⟨⟨(q + 1,j),by dsimp only;exact ⟨by omega,by omega,by omega,fun x' y' _ hx' hy' => by rw [show q + 1 - 1 = q by omega,hx] at hx';rw [show mid + m - (q + 1) = mid + m - 1 - q by omega,hy] at hy';cases hx';cases hy';omega,h5⟩⟩,by dsimp only;omega,⟨[0],rfl,by (repeat (first | exact trivial | refine ⟨rfl,?_⟩)),⟨.inr (aG rfl rfl (bD _)),trivial⟩,by decide,kI⟩⟩
    · obtain rfl : i = j := by omega
      obtain ⟨X1,X2,Y1,Y2,rfl,rfl,e1,e2,e3,hsrt⟩ := hcut i (by omega) (by omega) h4 h5
      clear hcut h4 h5 hD1 hD2 hP hw1 hw2;rw [hsrt];obtain ⟨e,he⟩ : ∃ e,e = m + Y1.length := ⟨_,rfl⟩;simp only [aD] at hm hb hU0 hV0 hu1 hv1;have uX1 := YZ hU;have uX2 := YY hU;have uY1 := YZ hV;have uY2 := YY hV;have w1 := ih P X1 Y1 (X2 ++ (Y2 ++ R)) (a := a) (m := i) (b := mid) (N := N);have w2 := ih (P ++ dK eE (X1 ++ Y1)) X2 Y2 R (a := mid) (m := e) (b := b) (N := N);have hsl : (dK eE (X1 ++ Y1)).length = X1.length + Y1.length := by rw [gX,aD]
      have w0 := MX (P ++ X1) X2 Y1 (Y2 ++ R) (a := i) (m := m) (b := e) (N := N);simp only [aD,hsl] at w0 w1 w2;have c0 : i < m → m < e → _ := fun h h' => w0 (by omega) (by omega) (by omega) (by omega) hl (by omega) (by omega)
      have c1 : a < i → i < mid → _ := fun h h' => w1 (by omega) (by omega) (by omega) ha (by omega) (by omega) (by omega) hl uX1 uY1 (fun w hw => hwU w (by simp [hw])) (fun w hw => hwV w (by simp [hw]))
      have c2 : mid < e → e < b → _ := fun h h' => w2 (by omega) (by omega) (by omega) (by omega) (by omega) (by omega) (by omega) hl uX2 uY2 (fun w hw => hwU w (by simp [hw])) (fun w hw => hwV w (by simp [hw]))
      have d0 : ¬ (i < m ∧ m < e) → D = P ++ (X1 ++ (Y1 ++ (X2 ++ (Y2 ++ R)))) := fun h => by
        rw [← hDe];by_cases h' : X2.length = 0
        · rw [bP h'];simp
        · rw [bP (show Y1.length = 0 by omega)];simp
      have d1 : ¬ (a < i ∧ i < mid) → P ++ (X1 ++ (Y1 ++ (X2 ++ (Y2 ++ R)))) = P ++ (dK eE (X1 ++ Y1) ++ (X2 ++ (Y2 ++ R))) := fun h => by
        by_cases h' : X1.length = 0
        · rw [bP h',List.nil_append,List.nil_append,I0 uY1]
        · rw [bP (show Y1.length = 0 by omega),List.nil_append,List.append_nil,I0 uX1]
      have d2 : ¬ (mid < e ∧ e < b) → P ++ (dK eE (X1 ++ Y1) ++ (X2 ++ (Y2 ++ R))) = P ++ (dK eE (X1 ++ Y1) ++ dK eE (X2 ++ Y2) ++ R) := fun h => by
        by_cases h' : X2.length = 0
        · rw [bP h',List.nil_append,List.nil_append,I0 uY2];simp
        · rw [bP (show Y2.length = 0 by omega),List.nil_append,List.append_nil,I0 uX2];simp
      have g0 : (P ++ X1) ++ (X2 ++ (Y1 ++ (Y2 ++ R))) = D := by rw [← hDe];simp
      have g1 : (P ++ X1) ++ (Y1 ++ (X2 ++ (Y2 ++ R))) = P ++ (X1 ++ (Y1 ++ (X2 ++ (Y2 ++ R)))) := by simp
      have g2 : (P ++ dK eE (X1 ++ Y1)) ++ (X2 ++ (Y2 ++ R)) = P ++ (dK eE (X1 ++ Y1) ++ (X2 ++ (Y2 ++ R))) := by simp
      have g3 : (P ++ dK eE (X1 ++ Y1)) ++ (dK eE (X2 ++ Y2) ++ R) = P ++ (dK eE (X1 ++ Y1) ++ dK eE (X2 ++ Y2) ++ R) := by simp
      rw [g0,g1] at c0;rw [g2,g3] at c2;clear w0 w1 w2 ih g0 g1 g2 g3 hDe hwU hwV;generalize P ++ (dK eE (X1 ++ Y1) ++ dK eE (X2 ++ Y2) ++ R) = A3 at *;generalize P ++ (dK eE (X1 ++ Y1) ++ (X2 ++ (Y2 ++ R))) = A2 at *;generalize P ++ (X1 ++ (Y1 ++ (X2 ++ (Y2 ++ R)))) = A1 at *;apply Go.Ab.cutT
      · intro rest;by_cases h : i < m ∧ m < e
        · have hc' := c0 h.1 h.2;rw [show (e : Int) = (mid : Int) + m - i by omega] at hc'
          (repeat' (first|refine wS ?_|refine wE ?_|(refine wC rfl ?_ ?_<;>(intro hb;(try simp only [nm] at hb);try (exfalso;omega)))|(refine rg 33 (eG rfl (vV (aN rfl rfl) ?_)))|(refine rg 38 (eG rfl (vV (cJ rfl rfl (by omega) (by omega)) (aV ?_))))|(refine rg 39 (eG rfl (vV (aN rfl rfl) (mV ?_)));refine eN rfl rfl ?_ ?_<;>(intro hb;rw [hb];(try simp only [nm] at hb);try (exfalso;omega));(all_goals (refine yN rfl (yN rfl (yV (aN rfl rfl) (pV ?_))))))|(refine rg 40 (eG rfl (eG rfl (mW rfl (dW [0] rfl rfl (hc') rfl rfl (by decide) ⟨.inr (aG rfl rfl (bD _)),trivial⟩ (by simp) rfl ?_)))))|refine nZ ?_));all_goals first | (exfalso;omega) | exact eM [(0,.sl 0 0 N 3),(1,.i a),(3,.i b),(4,pA),(18,.i mid),(20,.i i),(24,.i e)] [.arr (eW A1) 3] ⟨[0],rfl,⟨rfl,rfl,rfl,rfl,rfl,rfl,by rw [show (e : Int) = (mid : Int) + m - i by omega];rfl,trivial⟩,⟨.inr (aG rfl (cC _ (bD _)) (bD _)),trivial⟩,by decide,kI⟩ rest.get
        · obtain rfl := d0 h
          (repeat' (first|refine wS ?_|refine wK ?_|refine wE ?_|refine wU ?_|(refine wC rfl ?_ ?_<;>(intro hb;(try simp only [nm] at hb);try (exfalso;omega)))|(refine rg 33 (eG rfl (vV (aN rfl rfl) ?_)))|(refine rg 38 (eG rfl (vV (cJ rfl rfl (by omega) (by omega)) (aV ?_))))|(refine rg 39 (eG rfl (vV (aN rfl rfl) (mV ?_)));refine eN rfl rfl ?_ ?_<;>(intro hb;rw [hb];(try simp only [nm] at hb);try (exfalso;omega));(all_goals first|(refine gT (mW rfl (gT (mW rfl (gT (vV (aN rfl rfl) ?_))))))|(iterate 3 refine gF ?_));(all_goals (refine pV ?_)))|refine nZ ?_));all_goals first | (exfalso;omega) | exact eM [(0,.sl 0 0 N 3),(1,.i a),(3,.i b),(4,pA),(18,.i mid),(20,.i i),(24,.i e)] [.arr (eW D) 3] ⟨[0],rfl,⟨rfl,rfl,rfl,rfl,rfl,rfl,by rw [show (e : Int) = (mid : Int) + m - i by omega];rfl,trivial⟩,⟨.inr (aG rfl rfl (bD _)),trivial⟩,by decide,kI⟩ rest.get
      clear c0 d0;apply Go.Ab.cutT
      · intro rest;by_cases h : a < i ∧ i < mid
        · have hc' := c1 h.1 h.2
          (repeat' (first|refine wS ?_|(refine wC rfl ?_ ?_<;>(intro hb;(try simp only [nm] at hb);try (exfalso;omega)))|(refine rg 41 (eG rfl (vV (aN rfl rfl) (mV ?_)));refine eN rfl rfl ?_ ?_<;>(intro hb;rw [hb];(try simp only [nm] at hb);try (exfalso;omega));(all_goals (refine yN rfl (yN rfl (yV (aN rfl rfl) (pV ?_))))))|(refine rg 42 (eG rfl (eG rfl (mW rfl (dW [0] rfl rfl (hc') rfl rfl (by decide) ⟨.inr (aG rfl rfl (bD _)),trivial⟩ (by simp) rfl ?_)))))|refine nZ ?_));all_goals first | (exfalso;omega) | exact eM [(0,.sl 0 0 N 3),(1,.i a),(3,.i b),(4,pA),(18,.i mid),(24,.i e)] [.arr (eW A2) 3] ⟨[0],rfl,(by repeat first|exact trivial|refine ⟨rfl,?_⟩),⟨.inr (aG rfl (cC _ (bD _)) (bD _)),trivial⟩,by decide,kI⟩ rest.get
        · obtain rfl := d1 h
          (repeat' (first|refine wS ?_|refine wK ?_|refine wU ?_|(refine wC rfl ?_ ?_<;>(intro hb;(try simp only [nm] at hb);try (exfalso;omega)))|(refine rg 41 (eG rfl (vV (aN rfl rfl) (mV ?_)));refine eN rfl rfl ?_ ?_<;>(intro hb;rw [hb];(try simp only [nm] at hb);try (exfalso;omega));(all_goals first|(refine gT (mW rfl (gT (mW rfl (gT (vV (aN rfl rfl) ?_))))))|(iterate 3 refine gF ?_));(all_goals (refine pV ?_)))|refine nZ ?_));all_goals first | (exfalso;omega) | exact eM [(0,.sl 0 0 N 3),(1,.i a),(3,.i b),(4,pA),(18,.i mid),(24,.i e)] [.arr (eW A1) 3] ⟨[0],rfl,(by repeat first|exact trivial|refine ⟨rfl,?_⟩),⟨.inr (aG rfl rfl (bD _)),trivial⟩,by decide,kI⟩ rest.get
      clear c1 d1;by_cases h : mid < e ∧ e < b
      · have hc' := c2 h.1 h.2
        (repeat' (first|(refine wC rfl ?_ ?_<;>(intro hb;(try simp only [nm] at hb);try (exfalso;omega)))|(refine rg 43 (eG rfl (vV (aN rfl rfl) (mV ?_)));refine eN rfl rfl ?_ ?_<;>(intro hb;rw [hb];(try simp only [nm] at hb);try (exfalso;omega));(all_goals (refine yN rfl (yN rfl (yV (aN rfl rfl) (pV ?_))))))|(refine rg 44 (eG rfl (eG rfl (mW rfl (dW [0] rfl rfl (hc') rfl rfl (by decide) ⟨.inr (aG rfl rfl (bD _)),trivial⟩ (by simp) rfl ?_)))))|refine nZ ?_));all_goals first | (exfalso;omega) | exact ⟨.inl rfl,[0],_,rfl,rfl,rfl,⟨.inr (aG rfl (cC _ (bD _)) (bD _)),trivial⟩,by decide,kI⟩ | exact ⟨.inr rfl,[0],_,rfl,rfl,rfl,⟨.inr (aG rfl (cC _ (bD _)) (bD _)),trivial⟩,by decide,kI⟩
      · obtain rfl := d2 h
        (repeat' (first|refine wK ?_|refine wU ?_|(refine wC rfl ?_ ?_<;>(intro hb;(try simp only [nm] at hb);try (exfalso;omega)))|(refine rg 43 (eG rfl (vV (aN rfl rfl) (mV ?_)));refine eN rfl rfl ?_ ?_<;>(intro hb;rw [hb];(try simp only [nm] at hb);try (exfalso;omega));(all_goals first|(refine gT (mW rfl (gT (mW rfl (gT (vV (aN rfl rfl) ?_))))))|(iterate 3 refine gF ?_));(all_goals (refine pV ?_)))|refine nZ ?_));all_goals first | (exfalso;omega) | exact ⟨.inl rfl,[0],_,rfl,rfl,rfl,⟨.inr (aG rfl rfl (bD _)),trivial⟩,by decide,kI⟩ | exact ⟨.inr rfl,[0],_,rfl,rfl,rfl,⟨.inr (aG rfl rfl (bD _)),trivial⟩,by decide,kI⟩
end Go.Proofs.YtbialaoigijlgaaGreatDoor
namespace Go.Ld
open Go.Ab Go.Proofs.YtbialaoigijlgaaGreatDoor
theorem HC {Q r1 r2 : List W} {a b : Nat} (ha : a = Q.length) (hb : b = a + r1.length) : LS (Q ++ (r1 ++ r2)) a b = Q ++ (dK eE r1 ++ r2) := by
  subst ha hb;unfold LS;rw [sT,sV,show Q.length + r1.length - Q.length = r1.length by omega,sT,← EQ,sV,sV]
theorem HP {Q r1 r2 : List W} {w : W} (h : w ∈ (Q ++ dK eE r1) ++ r2) : w ∈ Q ++ (r1 ++ r2) := by
  rw [bE] at h;rcases bQ.1 h with h | h
  · exact bQ.2 (.inl h)
  · rcases bQ.1 h with h | h
    · exact bQ.2 (.inr (bQ.2 (.inl ((dJ _ _).mem_iff.1 h))))
    · exact bQ.2 (.inr (bQ.2 (.inr h)))
end Go.Ld
namespace Go.Proofs.YtbialaoigijlgaaGreatDoor
open Go Go.Ab Go.Ld
attribute [local irreducible] VC AW bT aQ
set_option maxHeartbeats 4000000
theorem MO (l : List W) {N : Nat} (hN : N = l.length) (hl : N ≤ 100000) (hw : ∀ w,w ∈ l → zU w) :
    aQ Tryz.prog 113 [.sl 0 0 N 3,.i N,pA] [.arr (eW l) 3] (.tup []) [.arr (eW (dK eE l)) 3] := by
  refine bK T Tryz.func113 rfl rfl rfl rfl ?_;apply Go.Ab.cutT
  · intro rest
    (repeat' (first|refine wS ?_|refine wB ?_|(refine rg 0 (aV ?_))|(refine rg 1 (mW rfl (pG ?_)))|refine nZ ?_));refine cT (X := {q : Nat × List W × List W // q.2.1.length = q.1 ∧ q.1 + q.2.2.length = N ∧ bs 20 l = q.2.1 ++ bs 20 q.2.2 ∧ ∀ w, w ∈ q.2.1 ++ q.2.2 → w ∈ l})
      (fun q => [(0,.sl 0 0 N 3),(1,.i N),(2,pA),(6,.i 20),(7,.i q.1.1),(8,.i ((q.1.1 : Int) + 20))]) (fun q => [.arr (eW (q.1.2.1 ++ q.1.2.2)) 3]) (fun q => q.1.2.2.length) ⟨(0,[],l),by simp;omega⟩
      ⟨[0],rfl,by (repeat (first | exact trivial | refine ⟨rfl,?_⟩)),⟨.inr (aG rfl rfl (bD _)),trivial⟩,by decide,kI⟩ ?_
    rintro ⟨⟨a,Q,r⟩,h1,h2,h3,h4⟩;dsimp only at h1 h2 h3 h4 ⊢;by_cases hlt : a + 20 ≤ N
    · obtain ⟨r1,r2,rfl,hr⟩ : ∃ r1 r2,r = r1 ++ r2 ∧ r1.length = 20 := ⟨r.take 20,r.drop 20,by simp,by simp;omega⟩
      rw [aD] at h2;have hc := CY (Q ++ (r1 ++ r2)) a (a + 20) (by omega) (by simp;omega) (by simp;omega) (fun w hw' => hw w (h4 w hw'))
      rw [HC h1.symm (by omega),show (Q ++ (r1 ++ r2)).length = N by simp;omega,show ((a + 20 : Nat) : Int) = (a : Int) + 20 by omega] at hc
      rw [N9 hr (by omega)] at h3
      (repeat' (first|refine wS ?_|refine wB ?_|refine wK ?_|(refine wC rfl ?_ ?_<;>(intro hb;(try simp only [nm] at hb);try (exfalso;omega)))|(refine rg 2 (eG rfl (vV (oC rfl rfl) ?_)))|(refine rg 3 (eG rfl (eG rfl (dW [0] rfl rfl (hc) rfl rfl (by decide) ⟨.inr (aG rfl rfl (bD _)),trivial⟩ (by simp) rfl ?_))))|(refine rg 4 (mW rfl (aV ?_)))|(refine rg 5 (eG rfl (vV (bF rfl rfl (by omega) (by omega)) (aV ?_))))|refine nZ ?_));all_goals first | (exfalso;omega) | skip
      exact ⟨⟨(a + 20,Q ++ dK eE r1,r2),by dsimp only;exact ⟨by rw [aD,gX];omega,by omega,by rw [h3];simp,fun w hw' => h4 w (HP hw')⟩⟩,by dsimp only;rw [aD];omega,⟨[0],rfl,by (repeat (first | exact trivial | refine ⟨rfl,?_⟩)),⟨.inr (aG rfl (by rw [cC _ (bD _),bE]) (bD _)),trivial⟩,by decide,kI⟩⟩
    · have hc := CY (Q ++ (r ++ [])) a N (by omega) (by simp;omega) (by simp;omega) (fun w hw' => hw w (h4 w (by simpa using hw')))
      rw [HC h1.symm (by omega),List.append_nil,List.append_nil,show (Q ++ r).length = N by simp;omega,← F7 (k := 20) (by omega),← h3] at hc
      (repeat' (first|refine wS ?_|refine wB ?_|refine wE ?_|(refine wC rfl ?_ ?_<;>(intro hb;(try simp only [nm] at hb);try (exfalso;omega)))|(refine rg 2 (eG rfl (vV (oC rfl rfl) ?_)))|(refine rg 6 (eG rfl (eG rfl (dW [0] rfl rfl (hc) rfl rfl (by decide) ⟨.inr (aG rfl rfl (bD _)),trivial⟩ (by simp) rfl ?_))))|refine nZ ?_));all_goals first | (exfalso;omega) | exact eM [(0,.sl 0 0 N 3),(1,.i N),(2,pA),(6,.i 20)] [.arr (eW (bs 20 l)) 3] ⟨[0],rfl,by (repeat (first | exact trivial | refine ⟨rfl,?_⟩)),⟨.inr (aG rfl (cC _ (bD _)) (bD _)),trivial⟩,by decide,kI⟩ rest.get
  refine cT (X := {k : Nat // 20 ≤ k ∧ k ≤ 200000}) (fun k => [(0, .sl 0 0 N 3), (1, .i N), (2, pA), (6, .i k.1)]) (fun k => [.arr (eW (bs k.1 l)) 3]) (fun k => N - k.1) ⟨20, by omega, by omega⟩
    ⟨[0],rfl,by (repeat (first | exact trivial | refine ⟨rfl,?_⟩)),⟨.inr (aG rfl rfl (bD _)),trivial⟩,by decide,kI⟩ ?_
  rintro ⟨k,hk,hk2⟩;dsimp only;by_cases hkN : k < N
  · (repeat' (first|refine wS ?_|refine wB ?_|refine wK ?_|(refine wC rfl (fun hb => ?_) (fun hb => ?_) <;> (((try simp only [nm] at hb);try (exfalso;omega))))|(refine rg 7 (eG rfl (vV (aN rfl rfl) ?_)))|(refine rg 8 (mW rfl (vV (tK rfl rfl (by omega) (by omega)) (pG ?_))))|(refine nZ ?_)));all_goals try (exfalso;omega)
    refine cT (X := {q : Nat × List W × List W // q.2.1.length = q.1 ∧ q.1 + q.2.2.length = N ∧ bs (2 * k) l = q.2.1 ++ bs (2 * k) q.2.2 ∧ ∀ w, w ∈ q.2.1 ++ q.2.2 → w ∈ l})
      (fun q => [(0,.sl 0 0 N 3),(1,.i N),(2,pA),(6,.i k),(7,.i q.1.1),(8,.i ((q.1.1 : Int) + 2 * k))]) (fun q => [.arr (eW (q.1.2.1 ++ bs k q.1.2.2)) 3]) (fun q => q.1.2.2.length) ⟨(0,[],l),by simp;omega⟩
      ⟨[0],rfl,⟨rfl,rfl,rfl,rfl,rfl,by dsimp only;rw [show ((0 : Nat) : Int) + 2 * (k : Int) = 2 * k by omega];rfl,trivial⟩,⟨.inr (aG rfl rfl (bD _)),trivial⟩,by decide,kI⟩ ?_
    rintro ⟨⟨a,Q,r⟩,h1,h2,h3,h4⟩;dsimp only at h1 h2 h3 h4 ⊢;by_cases hlt : a + 2 * k ≤ N
    · obtain ⟨r1,r2,r3,rfl,hr1,hr2⟩ : ∃ r1 r2 r3,r = r1 ++ (r2 ++ r3) ∧ r1.length = k ∧ r2.length = k := ⟨r.take k,(r.drop k).take k,(r.drop k).drop k,by simp only [bG],by simp;omega,by simp;omega⟩
      simp only [aD] at h2;have hc := VP (2 * k) Q (dK eE r1) (dK eE r2) (bs k r3) (a := a) (m := a + k) (b := a + 2 * k) (N := N) (by omega) (by rw [gX]; omega) (by rw [gX]; omega) h1.symm (by rw [gX]; omega) (by rw [gX]; omega) (by rw [YE]; omega) hl (jX iF _) (jX iF _)
        (fun w hw' => hw w (h4 w (by have := (dJ eE _).mem_iff.1 hw';simp [this]))) (fun w hw' => hw w (h4 w (by have := (dJ eE _).mem_iff.1 hw';simp [this])))
      rw [BV,← N9 hr2 (by omega),← N9 hr1 (by omega),show ((a + 2 * k : Nat) : Int) = (a : Int) + 2 * k by omega,show ((a + k : Nat) : Int) = (a : Int) + k by omega] at hc
      rw [← bE r1,N9 (k := 2 * k) (by rw [aD];omega) (by omega)] at h3
      (repeat' (first|refine wS ?_|refine wB ?_|refine wK ?_|(refine wC rfl ?_ ?_<;>(intro hb;(try simp only [nm] at hb);try (exfalso;omega)))|(refine rg 9 (eG rfl (vV (oC rfl rfl) ?_)))|(refine rg 10 (eG rfl (eG rfl (vV (bF rfl rfl (by omega) (by omega)) (eG rfl (dW [0] rfl rfl (hc) rfl rfl (by decide) ⟨.inr (aG rfl rfl (bD _)),trivial⟩ (by simp) rfl ?_))))))|(refine rg 11 (mW rfl (aV ?_)))|(refine rg 12 (eG rfl (vV (tK rfl rfl (by omega) (by omega)) (vV (bF rfl rfl (by omega) (by omega)) (aV ?_)))))|refine nZ ?_));all_goals first | (exfalso;omega) | skip
      exact ⟨⟨(a + 2 * k,Q ++ dK eE (r1 ++ r2),r3),by dsimp only;exact ⟨by rw [aD,gX,aD];omega,by omega,by rw [h3];simp,fun w hw' => h4 w (by have := HP hw';rwa [bE] at this)⟩⟩,by dsimp only;simp only [aD];omega,⟨[0],rfl,by (repeat (first | exact trivial | refine ⟨rfl,?_⟩)),⟨.inr (aG rfl (by rw [cC _ (bD _),bE]) (bD _)),trivial⟩,by decide,kI⟩⟩
    · by_cases hm : a + k < N
      · obtain ⟨r1,r2,rfl,hr1⟩ : ∃ r1 r2,r = r1 ++ r2 ∧ r1.length = k := ⟨r.take k,r.drop k,by simp,by simp;omega⟩
        simp only [aD] at h2;have hc := VP (2 * k) Q (dK eE r1) (dK eE r2) [] (a := a) (m := a + k) (b := N) (N := N) (by omega) (by rw [gX]; omega) (by rw [gX]; omega) h1.symm (by rw [gX]; omega) (by rw [gX]; omega) (by simp) hl (jX iF _) (jX iF _)
          (fun w hw' => hw w (h4 w (by have := (dJ eE _).mem_iff.1 hw';simp [this]))) (fun w hw' => hw w (h4 w (by have := (dJ eE _).mem_iff.1 hw';simp [this])))
        rw [BV,List.append_nil,List.append_nil,← F7 (k := 2 * k) (l := r1 ++ r2) (by rw [aD];omega),← h3,← F7 (k := k) (l := r2) (by omega),← N9 hr1 (by omega),show ((a + k : Nat) : Int) = (a : Int) + k by omega] at hc
        (repeat' (first|refine wS ?_|refine wE ?_|(refine wC rfl ?_ ?_<;>(intro hb;(try simp only [nm] at hb);try (exfalso;omega)))|(refine rg 9 (eG rfl (vV (oC rfl rfl) ?_)))|(refine rg 13 (eG rfl (vV (bF rfl rfl (by omega) (by omega)) (aV ?_))))|(refine rg 14 (eG rfl (vV (aN rfl rfl) ?_)))|(refine rg 15 (eG rfl (eG rfl (mW rfl (dW [0] rfl rfl (hc) rfl rfl (by decide) ⟨.inr (aG rfl rfl (bD _)),trivial⟩ (by simp) rfl ?_)))))|(refine rg 16 (mW rfl (vV (tK rfl rfl (by omega) (by omega)) (aV ?_))))|refine nZ ?_));all_goals first | (exfalso;omega) | skip
        exact ⟨⟨2 * k,by omega,by omega⟩,by dsimp only;omega,⟨[0],rfl,⟨rfl,rfl,rfl,by dsimp only;rw [show ((2 * k : Nat) : Int) = (k : Int) * 2 by omega];rfl,trivial⟩,⟨.inr (aG rfl (cC _ (bD _)) (bD _)),trivial⟩,by decide,kI⟩⟩
      · rw [F7 (k := 2 * k) (l := r) (by omega),← F7 (k := k) (l := r) (by omega)] at h3
        rw [← h3]
        (repeat' (first|refine wS ?_|refine wK ?_|refine wE ?_|(refine wC rfl ?_ ?_<;>(intro hb;(try simp only [nm] at hb);try (exfalso;omega)))|(refine rg 9 (eG rfl (vV (oC rfl rfl) ?_)))|(refine rg 13 (eG rfl (vV (bF rfl rfl (by omega) (by omega)) (aV ?_))))|(refine rg 14 (eG rfl (vV (aN rfl rfl) ?_)))|(refine rg 16 (mW rfl (vV (tK rfl rfl (by omega) (by omega)) (aV ?_))))|refine nZ ?_));all_goals first | (exfalso;omega) | skip
        exact ⟨⟨2 * k,by omega,by omega⟩,by dsimp only;omega,⟨[0],rfl,⟨rfl,rfl,rfl,by dsimp only;rw [show ((2 * k : Nat) : Int) = (k : Int) * 2 by omega];rfl,trivial⟩,⟨.inr (aG rfl rfl (bD _)),trivial⟩,by decide,kI⟩⟩
  · rw [F7 (k := k) (l := l) (by omega)]
    (repeat' (first|refine wS ?_|refine wE ?_|(refine wC rfl ?_ ?_<;>(intro hb;(try simp only [nm] at hb);try (exfalso;omega)))|(refine rg 7 (eG rfl (vV (aN rfl rfl) ?_)))|refine nZ ?_));all_goals first | (exfalso;omega) | exact ⟨.inl rfl,[0],_,rfl,rfl,rfl,⟨.inr (aG rfl rfl (bD _)),trivial⟩,by decide,kI⟩ | exact ⟨.inr rfl,[0],_,rfl,rfl,rfl,⟨.inr (aG rfl rfl (bD _)),trivial⟩,by decide,kI⟩
theorem SO (l : List W) {N : Nat} (hN : N = l.length) (hl : N ≤ 100000) (hw : ∀ w,w ∈ l → zU w) :
    aQ Tryz.prog 83 [.sl 0 0 N 3,pA] [.arr (eW l) 3] (.tup []) [.arr (eW (dK eE l)) 3] := by
  have hc := MO l hN hl hw;refine bK T Tryz.func83 rfl rfl rfl rfl ?_
  (repeat' (first|(refine rg 0 (eG rfl (qW T rfl (mW rfl (dW [0] rfl rfl (hc) rfl rfl (by decide) ⟨.inr (aG rfl rfl (bD _)),trivial⟩ (by simp) rfl ?_)))))|refine nZ ?_));all_goals first | (exfalso;omega) | exact ⟨.inl rfl,[0],_,rfl,rfl,rfl,⟨.inr (aG rfl (cC _ (bD _)) (bD _)),trivial⟩,by decide,kI⟩ | exact ⟨.inr rfl,[0],_,rfl,rfl,rfl,⟨.inr (aG rfl (cC _ (bD _)) (bD _)),trivial⟩,by decide,kI⟩
end Go.Proofs.YtbialaoigijlgaaGreatDoor
