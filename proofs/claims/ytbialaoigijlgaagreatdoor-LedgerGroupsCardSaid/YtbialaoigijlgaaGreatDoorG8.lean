/-
  Texts of the logic and of the layer,in one module (part 8).
-/
import Derived.Test.YtbialaoigijlgaaGreatDoorG7
import Derived.Test.YtbialaoigijlgaaGreatDoorRows
import Derived.Deep.DeepHandedRow
import Derived.Lib.LaidTab
set_option linter.unusedVariables false
set_option linter.unusedSimpArgs false
set_option linter.unnecessarySimpa false
namespace Go.Proofs.YtbialaoigijlgaaGreatDoor
open Go Go.Ab
attribute [local irreducible] VC AW bV aO
set_option maxHeartbeats 4000000
theorem WN : HH Tryz.prog 9 := by unfold HH;kernel_rfl
theorem zA6 : Tryz.prog.underlying 9 = some .string := by kernel_rfl
theorem zD4 : Tryz.prog.underlying 120 = some (.pointer 5) := by kernel_rfl
theorem zD5 : Tryz.prog.cellsOf 5 = 1 := by kernel_rfl
theorem zH0 : ∀ i : Nat,i < 2 → ([0,1,2] : List Nat)[i]? = some i := by decide
theorem zJ1 : ∀ i : Nat,i < 2 → ([0,1] : List Nat)[i]? = some i := by decide
theorem QS (l : List UInt8) : aO Tryz.prog 69 [.ptr 0 0] [.cells [.ptr 0 0,.sl 1 0 l.length 1],.buf 5 l] (.tup []) [.cells [.ptr 0 0,.sl 1 0 l.length 1],.buf 5 l] := by
  obtain ⟨j,hj,_⟩ := eR.1 WP;refine bK T Tryz.func69 rfl rfl rfl rfl ?_
  (repeat' (first|refine wS ?_|refine wK ?_|refine wU ?_|(refine rg 0 (mW rfl (nV ?_));refine hO T rfl (vV (by exact qM ST rfl rfl rfl) ?_))|(refine rg 2 (mW rfl (nV ?_));refine hO T rfl (mW rfl (vV (by exact GI ST hj rfl rfl) ?_)))|refine nZ ?_));all_goals exact ⟨.inr rfl,[0,1],_,rfl,rfl,rfl,⟨.inr rfl,.inr rfl,trivial⟩,by decide,zJ1⟩
theorem I8 (l s : List UInt8) (hl : l.length + s.length ≤ 100000000000) : aO Tryz.prog 29 [.ptr 0 0,.s s] [.cells [.ptr 0 0,.sl 1 0 l.length 1],.buf 5 l] (.tup [.i s.length,.v .nilIface]) [.cells [.ptr 0 0,.sl 2 0 (l.length + s.length) 1],.gone,.buf 5 (l ++ s)] := by
  refine bK T Tryz.func29 rfl rfl rfl rfl ?_
  (repeat' (first|refine wS ?_|refine wR ?_|(refine rg 0 (qA ?_))|(refine rg 1 (mW rfl (eJ [0,1] rfl rfl (QS l) rfl rfl (by decide) ⟨.inr rfl,.inr rfl,trivial⟩ (by simp) rfl ?_)))|(refine rg 2 (dQ rfl (nV ?_));refine hO T rfl (mW rfl (K4 T (e := 5) zA6 rfl rfl rfl rfl rfl rfl rfl rfl (by omega) rfl ?_));refine nV ?_;refine fW T rfl (aQ T rfl rfl rfl rfl rfl rfl (by decide) rfl ?_))|(refine rg 3 (mW rfl (vV (IQ WN rfl) (qA ?_))))|refine nZ ?_));all_goals exact ⟨.inl rfl,[0,1,2],_,rfl,rfl,rfl,⟨.inr rfl,.inl rfl,.inr rfl,trivial⟩,by decide,zH0⟩
theorem zC0 : ∀ i : Nat,i < 1 → ([0,2] : List Nat)[i]? = some i := by decide
theorem BS (s : List UInt8) (hl : s.length ≤ 100000000000) : aO Tryz.prog 29 [.ptr 0 0,.s s] [.var 79 [.v (.pointer none),.nils]] (.tup [.i s.length,.v .nilIface]) [.cells [.ptr 0 0,.sl 1 0 s.length 1],.buf 5 s] := by
  refine bK T Tryz.func29 rfl rfl rfl rfl ?_
  (repeat' (first|refine wS ?_|(refine rg 0 (qA ?_))|(refine rg 1 (mW rfl (eJ [0] rfl rfl (LW .nils) rfl rfl (by decide) ⟨.inr rfl,trivial⟩ (by simp) rfl ?_)))|refine nZ ?_));refine eP [(0,.ptr 0 0),(1,.s s)] [.cells [.ptr 0 0,.nils]] ⟨[0],rfl,(by repeat first|exact trivial|refine ⟨rfl,?_⟩),(by (repeat (first | exact trivial | refine ⟨Or.inl rfl,?_⟩ | refine ⟨Or.inr rfl,?_⟩))),by decide,R3⟩ ?_
  refine WB 0 1 5 rfl rfl ?_;dsimp only [zL0,zK9,List.append_nil,zK8,zK7,zK6,zK5,zK4,zK3,iW,kY,kO,oT,CB,vB,F0,E8,E7,E9,vA,vD,uZ,vC,Nat.zero_add,zK2,Nat.reduceAdd,zK1,zK0]
  repeat' (first|refine wS ?_|refine wR ?_|(refine rg 2 (dQ rfl (nV ?_));refine hO T rfl (mW rfl (K4 T (e := 5) (lb := []) zA6 rfl rfl rfl rfl rfl rfl rfl rfl (by simp;omega) rfl ?_));refine nV ?_;refine fW T rfl (aQ T rfl rfl rfl rfl rfl rfl (by decide) rfl ?_))|(refine rg 3 (mW rfl (vV (IQ WN rfl) (qA ?_))))|refine nZ ?_)
  simp only [List.length_nil,Nat.zero_add,List.nil_append]
  all_goals exact ⟨.inl rfl,[0,2],_,rfl,rfl,rfl,⟨.inr rfl,.inr rfl,trivial⟩,by decide,zC0⟩
theorem CG (l : List UInt8) (h0 : l ≠ []) (hl : l.length ≤ 100000000000) : aO Tryz.prog 33 [.ptr 0 0] [.cells [.ptr 0 0,.sl 1 0 l.length 1],.buf 5 l] (.s l) [.gone,.gone] := by
  have hpos : 0 < l.length := dY.2 h0;refine bK T Tryz.func33 rfl rfl rfl rfl ?_
  (repeat' (first|refine wS ?_|refine wR ?_|(refine rg 0 (aV ?_))|(refine pY (id := 1) 14 [[],[0],[0,1],[0,1,2],rN 4,[],[5],[5,6],[5,6,7],rM 5 4,rN 10] (rM 3 11) [[],[],[],[],[],rM 3 5,rM 3 5,rM 3 5,rM 3 5,rM 3 5,[]] [(10,1)] cN rfl (by decide +kernel) (eT rfl rfl rfl rfl (by exact bU rfl) ?_);refine eT rfl rfl rfl rfl (by exact eE rfl rfl) ?_;refine eT rfl rfl rfl rfl (by exact bY T rfl rfl rfl) ?_;refine eT rfl rfl rfl rfl (by exact aT T rfl rfl rfl rfl) ?_;refine eT rfl rfl rfl rfl (by exact AE rfl (by omega)) ?_;refine eT rfl rfl rfl rfl (by exact bU rfl) ?_;refine eT rfl rfl rfl rfl (by exact eE rfl rfl) ?_;refine eT rfl rfl rfl rfl (by exact bY T rfl rfl rfl) ?_;refine eT rfl rfl rfl rfl (by exact aT T rfl rfl rfl rfl) ?_;refine eT rfl rfl rfl rfl (by exact V0 T rfl rfl) ?_;refine YT rfl rfl rfl rfl (aN rfl) (by exact I3 zD4 zD5 rfl rfl rfl h0 (by omega) rfl) ?_;refine xH rfl rfl rfl (by exact rfl) ?_;refine aV ?_)|refine nZ ?_));all_goals exact ⟨.inl rfl,[0,1],_,rfl,rfl,rfl,⟨.inl rfl,.inl rfl,trivial⟩,by decide,zJ1⟩
end Go.Proofs.YtbialaoigijlgaaGreatDoor
namespace Go.Proofs.YtbialaoigijlgaaGreatDoor
open Go Go.Ab
theorem KT {l : List Int} {k : Nat} (h : k < l.length) : (ints l)[k]? = some [AV.i l[k]] := by simp [h]
section
variable {P : Program} {env : dK} {h : Hp} {d : Option Nat} {ty : TypeId} {pos : String} {af : Array Edge} {g : Option (Nat × Bool)}
end
attribute [local irreducible] VC AW bV aO
set_option maxHeartbeats 4000000
def Q6 (n : Int) : Prop := -9223372036854775808 ≤ n ∧ n ≤ 9223372036854775807
theorem Z4 : ∀ (k u : Nat), u < 10 ^ (k + 1) → Go.Lib.nDigits u ≤ k + 1
  | 0,u,h => by rw [Go.Lib.nDigits_small (by simpa using h)];exact aX _
  | k + 1,u,h => by
    by_cases hu : u < 10
    · rw [Go.Lib.nDigits_small hu];omega
    · rw [Go.Lib.nDigits_big hu];have := Z4 k (u / 10) (by rw [Nat.div_lt_iff_lt_mul (by decide)];rw [Nat.pow_succ] at h;exact h)
      omega
theorem zM {n : Int} (h : Q6 n) : (Go.Lib.itoa n).length ≤ 21 := by
  obtain ⟨h0,h1⟩ := h;unfold Go.Lib.itoa;split
  · rw [List.length_cons,Go.Lib.decDigits_length]
    have := Z4 19 n.natAbs (by have : (10 : Nat) ^ (19 + 1) = 100000000000000000000 := (by decide);omega)
    omega
  · rw [Go.Lib.decDigits_length]
    have := Z4 19 n.toNat (by have : (10 : Nat) ^ (19 + 1) = 100000000000000000000 := (by decide);omega)
    omega
def oI (n : Int) : List UInt8 := Go.Lib.itoa n ++ [59]
def xL (l : List Int) (k : Nat) : List UInt8 := Go.Lib.itoa l.length ++ [91] ++ ((l.take k).map oI).flatten
def pB (l : List Int) : List UInt8 := xL l l.length ++ [93]
theorem nC {n : Int} (h : Q6 n) : (oI n).length ≤ 22 := by have := zM h;simp [oI];omega
theorem WF (l : List Int) (k : Nat) : xL l k ≠ [] := by simp [xL]
theorem LZ {l : List Int} {k : Nat} (h : k < l.length) : xL l (k + 1) = xL l k ++ oI l[k] := by
  unfold xL;rw [aR h,dB,fQ];simp
theorem EQ {l : List Int} (hw : ∀ x,x ∈ l → Q6 x) (hl : l.length ≤ 1000000) : ∀ k,(xL l k).length ≤ 22 + 22 * l.length := by
  intro k;unfold xL;have h1 := zM (n := (l.length : Int)) ⟨by omega,by omega⟩
  have h2 : ∀ m : List Int,(∀ x,x ∈ m → Q6 x) → ((m.map oI).flatten).length ≤ 22 * m.length := by
    intro m
    induction m with
    | nil => intro _;simp
    | cons x m ih =>
      intro hm;have h3 := nC (hm x bA);have h4 := ih fun y hy => hm y (aY _ hy);simp only [List.map_cons,dZ,aD,List.length_cons];omega
  have h3 := h2 (l.take k) fun x hx => hw x (eG hx);have h4 : (l.take k).length ≤ l.length := by rw [aU];omega
  simp only [aD,List.length_cons,List.length_nil];omega
theorem UK {n : Int} (h : Q6 n) : aO Tryz.prog 107 [.i n] [] (.s (Go.Lib.itoa n)) [] := by
  have hc := PV n h.1 h.2;refine bK T Tryz.func107 rfl rfl rfl rfl ?_
  (repeat' (first|refine wS ?_|refine wR ?_|(refine rg 0 (aV ?_))|(refine rg 1 (mW rfl (vV (kC (hc)) (aV ?_))))|refine nZ ?_));all_goals exact rQ
theorem PC {n : Int} (h : Q6 n) : aO Tryz.prog 71 [.i n] [] (.s (Go.Lib.itoa n)) [] := by
  have hc := UK h;refine bK T Tryz.func71 rfl rfl rfl rfl ?_
  (repeat' (first|refine wS ?_|refine wR ?_|(refine rg 0 (aV ?_))|(refine rg 1 (mW rfl (vV (kC (hc)) (aV ?_))))|refine nZ ?_));all_goals exact rQ
theorem K0 {n : Int} (h : Q6 n) : aO Tryz.prog 32 [.i n] [] (.s (oI n)) [] := by
  have hc := PC h;have hl := zM h;refine bK T Tryz.func32 rfl rfl rfl rfl ?_
  (repeat' (first|refine wS ?_|refine wR ?_|(refine rg 0 (aV ?_))|(refine rg 1 (mW rfl (vV (kC (hc)) (vV (tX rfl rfl (by simp only [aD,List.length_cons,List.length_nil];omega)) ?_)));refine aV ?_)|refine nZ ?_));all_goals exact rQ
theorem XC {n : Int} (h : Q6 n) (h0 : 0 ≤ n) : aO Tryz.prog 31 [.i n] [] (.s (oI n)) [] := by
  have hc := K0 h;refine bK T Tryz.func31 rfl rfl rfl rfl ?_
  (repeat' (first|refine wS ?_|refine wK ?_|refine wR ?_|(refine wC rfl ?_ ?_<;>(intro hb;(try simp only [nm] at hb);try (exfalso;omega)))|(refine rg 0 (aV ?_))|(refine rg 1 (mW rfl (vV (aJ rfl rfl) ?_)))|(refine rg 3 (mW rfl (vV (kC (hc)) (aV ?_))))|refine nZ ?_));all_goals first | (exfalso;omega) | exact rQ
theorem XX {l : List Int} (hw : ∀ x,x ∈ l → Q6 x) (hl : l.length ≤ 1000000) : aO Tryz.prog 70 [.rowE (ints l) 1,.clo (.func 32) [] []] [] (.s (pB l)) [] := by
  have hlen : (ints l).length = l.length := by simp
  have hI : Q6 (l.length : Int) := ⟨by omega,by omega⟩
  have hc : aO Tryz.prog 71 [.i (ints l).length] [] (.s (Go.Lib.itoa l.length)) [] := by rw [hlen];exact PC hI
  have hi := zM hI;have hbl := EQ hw hl;have h00 : xL l 0 = Go.Lib.itoa l.length ++ [91] := by simp [xL]
  refine bK T Tryz.func70 rfl rfl rfl rfl ?_
  (repeat' (first|refine wS ?_|refine wB ?_|(refine rg 0 (aV ?_))|(refine rg 1 (bT (V4 T rfl rfl) rfl ?_))|(refine rg 2 (mW rfl (qW T rfl (vV (kC (hc)) (vV (tX rfl rfl (by simp only [aD,List.length_cons,List.length_nil];omega)) ?_))));refine eJ [0] rfl rfl (BS _ (by simp only [aD,List.length_cons,List.length_nil];omega)) rfl rfl (by decide) ⟨.inr rfl,trivial⟩ (by simp) rfl ?_)|(refine rg 3 (mW rfl (qW T rfl (mV ?_))))|refine nZ ?_));refine cK (X := {k : Nat // k ≤ l.length}) (fun k => [(0,.rowE (ints l) 1),(1,.clo (.func 32) [] []),(5,.ptr 0 0),(13,.rowE (ints l) 1),(14,.i (ints l).length),(15,.i k.1)]) (fun k => [.cells [.ptr 0 0,.sl 1 0 (xL l k.1).length 1],.buf 5 (xL l k.1)]) (fun k => l.length - k.1) ⟨0,by omega⟩ ⟨[0,1],rfl,(by repeat first|exact trivial|refine ⟨rfl,?_⟩),⟨.inr (by rw [h00];rfl),.inr (by rw [h00];rfl),trivial⟩,by decide,I1⟩ ?_
  rintro ⟨k,hk⟩;dsimp only;have hbk := hbl k;by_cases hlt : k < l.length
  · have hIx := hw _ (aI hlt);have hcx := K0 hIx;have hlx := nC hIx;have hnx := LZ hlt;have hbn := hbl (k + 1);have hnl : (xL l (k + 1)).length = (xL l k).length + (oI l[k]).length := by rw [hnx,aD]
    have hg := KT hlt;rw [hnx] at hbn;generalize l[k] = x at *
    (repeat' (first|refine wS ?_|refine wB ?_|refine wK ?_|(refine wC rfl ?_ ?_<;>(intro hb;(try simp only [nm] at hb);try (exfalso;omega)))|(refine rg 4 (vV (aJ rfl rfl) ?_))|(refine rg 5 (vV (ix T rfl (by omega) (bZ _) hg) (lW T rfl (aV ?_))))|(refine rg 6 (dQ rfl (vV (kC (hcx)) (eJ [0,1] rfl rfl (I8 (xL l k) (oI x) (by omega)) rfl rfl (by decide) ⟨.inr rfl,.inr rfl,trivial⟩ (by simp) rfl ?_))))|(refine rg 7 (vV (bS rfl rfl (by omega) (by omega)) (mV ?_)))|refine nZ ?_));all_goals first | (exfalso;omega) | exact ⟨⟨k + 1,hlt⟩,by dsimp only;omega,[0,2],rfl,(by repeat first|exact trivial|refine ⟨rfl,?_⟩),⟨.inr (by dsimp only;rw [hnl];rfl),.inr (by dsimp only;rw [hnx];rfl),trivial⟩,by decide,I1⟩
  · have hkl : k = l.length := by omega
    subst hkl
    (repeat' (first|refine wS ?_|refine wR ?_|refine wE ?_|(refine wC rfl ?_ ?_<;>(intro hb;(try simp only [nm] at hb);try (exfalso;omega)))|(refine rg 4 (vV (aJ rfl rfl) ?_))|(refine rg 8 (eJ [0,1] rfl rfl (CG (xL l l.length) (WF _ _) (by omega)) rfl rfl (by decide) ⟨.inr rfl,.inr rfl,trivial⟩ (by simp) rfl ?_);refine vV (tX rfl rfl (by simp only [List.length_cons,List.length_nil];omega)) ?_;refine aV ?_)|refine nZ ?_));all_goals first | (exfalso;omega) | exact rQ
theorem OP {l : List Int} (hw : ∀ x,x ∈ l → Q6 x) (hl : l.length ≤ 1000000) : aO Tryz.prog 30 [.rowE (ints l) 1] [] (.s (pB l)) [] := by
  have hc := XX hw hl;refine bK T Tryz.func30 rfl rfl rfl rfl ?_
  (repeat' (first|refine wS ?_|refine wR ?_|(refine rg 0 (aV ?_))|(refine rg 1 (mW rfl (vV (kC (hc)) (aV ?_))))|refine nZ ?_));all_goals exact rQ
end Go.Proofs.YtbialaoigijlgaaGreatDoor
namespace Go.Ld
open Go.Ab Go.Proofs.YtbialaoigijlgaaGreatDoor
def F1 (r : SP) : List UInt8 := oI r.1 ++ oI r.2
def oC (l : List SP) : List UInt8 := l.flatMap F1
def B7 (w : W) : List UInt8 := pB w.1 ++ oI w.2.1 ++ oC w.2.2
def lR (l : List W) : List UInt8 := l.flatMap B7
def rR (g : G) : List UInt8 := pB g.1 ++ oI g.2.length ++ lR g.2
def iF (gs : List G) : List UInt8 := gs.flatMap rR
theorem mL {α β : Type} (F : α → List β) {l : List α} {k : Nat} (h : k < l.length) : (l.take (k + 1)).flatMap F = (l.take k).flatMap F ++ F l[k] := by
  rw [aR h,fR];simp
theorem xF {α β : Type} (F : α → List β) (n : Nat) : ∀ l : List α, (∀ x, x ∈ l → (F x).length ≤ n) → (l.flatMap F).length ≤ l.length * n
  | [],_ => by simp
  | x :: l,h => by
    have h1 := h x bA;have h2 := xF F n l fun y hy => h y (aY _ hy);rw [cD,aD,List.length_cons,Nat.succ_mul];omega
structure zI0 (w : W) : Prop where
  p : ∀ x,x ∈ w.1 → Q6 x
  pl : w.1.length ≤ 6
  m : Q6 w.2.1
  c : ∀ r,r ∈ w.2.2 → Q6 r.1 ∧ Q6 r.2
  cl : w.2.2.length ≤ 6
structure zI1 (g : G) : Prop where
  b : ∀ x,x ∈ g.1 → Q6 x
  bl : g.1.length ≤ 6
  w : ∀ w,w ∈ g.2 → zI0 w
  wl : g.2.length ≤ 1000
theorem yC {x : Int} (h0 : -1000000000 ≤ x) (h1 : x ≤ 1000000000) : Q6 x := ⟨by omega,by omega⟩
theorem zA7 {c : Cx} {gs : List G} (h : oU c gs) : ∀ g,g ∈ gs → zI1 g := fun g hg => by
  have og := h.mid.out.ok g hg;have n12 := h.mid.n12;refine ⟨fun x hx => ?_,og.ln,fun w hw => ?_,h.mid.wl g hg⟩
  · obtain ⟨a,b⟩ := og.rg x hx;exact yC (by omega) (by omega)
  · have ow := og.ws w hw;refine ⟨fun x hx => ?_,by rw [ow.pl];exact og.ln,?_,fun r hr => ?_,by rw [ow.cl];exact og.ln⟩
    · obtain ⟨a,b⟩ := ow.pr x hx;exact yC (by omega) (by omega)
    · have := ow.m0;have := ow.m1;exact yC (by omega) (by omega)
    · have := ow.sp r hr;unfold RU at this;exact ⟨yC (by omega) (by omega),yC (by omega) (by omega)⟩
theorem wZ {l : List Int} (hw : ∀ x,x ∈ l → Q6 x) (hl : l.length ≤ 6) : (pB l).length ≤ 155 := by
  have := EQ hw (by omega) l.length
  unfold pB;simp;omega
theorem JP {r : SP} (h : Q6 r.1 ∧ Q6 r.2) : (F1 r).length ≤ 44 := by
  have := nC h.1;have := nC h.2;unfold F1;simp;omega
theorem K7 {l : List SP} (h : ∀ r,r ∈ l → Q6 r.1 ∧ Q6 r.2) (hl : l.length ≤ 6) : (oC l).length ≤ 264 := by
  have := xF F1 44 l fun r hr => JP (h r hr);unfold oC;omega
theorem FG {w : W} (h : zI0 w) : (B7 w).length ≤ 441 := by
  have := wZ h.p h.pl;have := nC h.m;have := K7 h.c h.cl;unfold B7;simp;omega
theorem E6 {l : List W} (h : ∀ w,w ∈ l → zI0 w) (hl : l.length ≤ 1000) : (lR l).length ≤ 441000 := by
  have := xF B7 441 l fun w hw => FG (h w hw);unfold lR;omega
theorem GG {g : G} (h : zI1 g) : (rR g).length ≤ 441177 := by
  have := wZ h.b h.bl;have := E6 h.w h.wl;have hl := h.wl;have : (oI (g.2.length : Int)).length ≤ 22 := nC (yC (by omega) (by omega))
  unfold rR;simp;omega
theorem DO {l : List G} (h : ∀ g,g ∈ l → zI1 g) (hl : l.length ≤ 12) : (iF l).length ≤ 6000000 := by
  have := xF rR 441177 l fun g hg => GG (h g hg);unfold iF;omega
end Go.Ld
namespace Go.Proofs.YtbialaoigijlgaaGreatDoor
open Go Go.Ab Go.Ld
attribute [local irreducible] VC AW bV aO jR
set_option maxHeartbeats 4000000
theorem VR (c : Cx) (gs : List G) (hl : gs.length ≤ 1000) : aO Tryz.prog 17 [.ptr 0 0] [.cells (fT c gs)] (.ptr 1 0) [.cells (fT c gs),.cells (fT c gs)] := by
  have hc := kU (gZ gs).symm (gD (eA gs)) (O6 gs (by omega))
  refine bK T Tryz.func17 rfl rfl rfl rfl ?_
  (repeat' (first|refine wS ?_|refine wR ?_|(refine rg 0 (aV ?_))|(refine rg 1 (mW rfl (nV ?_));refine lW T rfl (bT (bH T rfl) rfl (aQ T rfl rfl rfl rfl rfl rfl (by decide) rfl ?_)))|(refine rg 2 (mW rfl (nV ?_));refine hO T rfl (vV (kC (hc)) (fW T rfl (aQ T rfl rfl rfl rfl rfl rfl (by decide) rfl ?_))))|(refine rg 3 (aV ?_))|refine nZ ?_));all_goals exact ⟨.inl rfl,[0,1],_,rfl,rfl,rfl,⟨.inr rfl,.inr rfl,trivial⟩,by decide,yS _⟩
theorem JG (c : Cx) (gs : List G) (b : Int) (h : oU c gs) {g : G} {i : Nat} (hg : uV gs b = some (g,i)) :
    aO Tryz.prog 10 [.pr (fT c gs) 0,.i b] [] (.rowE (eY g.2) 3) [] := by
  obtain ⟨k0,h1,h2,h3,h4⟩ := sQ hg;have hgm := aM h2;have og := h.mid.out.ok g hgm;have hwl := h.mid.wl g hgm;have hl12 : gs.length ≤ 12 := bW h.mid.out.len h.mid.out.ln;have hgr := J4 c gs b (by omega) (fun x hx => by have := (h.mid.out.ok x hx).ln;omega) hg
  have hln := og.ln;have hcl : ∀ k (h : k < g.2.length),aO Tryz.prog 47 [S6 g.2[k]] [] (S6 g.2[k]) [] := fun k hk => by
    have ow := og.ws _ (aI hk);have e1 := ow.pl;have e2 := ow.cl;exact VS _ ⟨by omega,by omega⟩
  obtain ⟨bs,ws⟩ := g;dsimp only at *;have hwsl : (eY ws).length = ws.length := eD _;refine kU (len := ws.length) hwsl.symm (gD (bE ws)) ?_;refine bK T Tryz.func10 rfl rfl rfl rfl ?_
  (repeat' (first|refine wS ?_|(refine rg 0 (aV ?_))|(refine rg 1 (dQ rfl (vV (kC (hgr)) (mW rfl (xW rfl (xW rfl (xW rfl (bT (bH T rfl) rfl (aQ T rfl rfl rfl rfl rfl rfl (by decide) rfl (qA ?_))))))))))|refine nZ ?_));all_goals try (exfalso;omega)
  refine fC 5 (cs := gA (bs,ws)) rfl rfl rfl ?_
  (repeat' (first|refine wS ?_|(refine rg 2 (vV (fG rfl) (rL 8 3 rfl (by decide) ?_)))|refine nZ ?_));all_goals try (exfalso;omega)
  (repeat' (first|refine wB ?_|(refine rg 3 (hO T rfl (qW T rfl (mV ?_))))|refine nZ ?_));all_goals try (exfalso;omega)
  refine cK (X := {k : Nat // k ≤ ws.length}) (fun k => [(8,.sl 0 0 k.1 3),(19,.rowE (eY ws) 3),(20,.i (eY ws).length),(21,.i k.1)]) (fun k => [.arr (eY (ws.take k.1)) 3]) (fun k => ws.length - k.1) ⟨0,bP _⟩ ⟨[1],rfl,(by repeat first|exact trivial|refine ⟨rfl,?_⟩),⟨.inr rfl,trivial⟩,by decide,jT _⟩ ?_
  rintro ⟨k,hk⟩;dsimp only;by_cases hlt : k < ws.length
  · have hgk := mH hlt;have hc := hcl k hlt;have q4 : (eY (ws.take k)).length = k := by rw [eD,aU];omega
    have q5 : eY (ws.take (k + 1)) = eY (ws.take k) ++ [wA ws[k]] := by rw [aR hlt,eY,dB];rfl
    have q6 := bE (ws.take (k + 1));have q7 := bE (ws.take k);generalize eY (ws.take k) = A at *;generalize ws[k] = w at *;obtain ⟨wp,wm,wc⟩ := w
    try dsimp only at *
    (repeat' (first|refine wS ?_|refine wB ?_|refine wK ?_|(refine wC rfl ?_ ?_<;>(intro hb;(try simp only [nm] at hb);try (exfalso;omega)))|(refine rg 4 (vV (aJ rfl rfl) ?_))|(refine rg 5 (vV (ix T rfl (by omega) (jB _) hgk) (lW T rfl (bT (bH T rfl) rfl (aQ T rfl rfl rfl rfl rfl rfl (by decide) rfl ?_)))))|refine nZ ?_));all_goals try (exfalso;omega)
    refine fC 10 (cs := wA (wp,wm,wc)) rfl rfl rfl ?_
    (repeat' (first|(refine rg 6 (mW rfl (lW T rfl (vV (kC (hc)) (bT (by exact bC T rfl rfl (by decide) (by decide) rfl rfl rfl) rfl ?_))));refine gR T rfl rfl rfl rfl rfl rfl (by omega) (kX.whole rfl rfl) rfl (by simp;omega) (by simp;omega) rfl ?_;refine aV ?_)|(refine rg 7 (vV (bS rfl rfl (by omega) (by omega)) (mV ?_)))|refine nZ ?_));all_goals try (exfalso;omega)
    exact ⟨⟨k + 1,hlt⟩,by dsimp only;omega,⟨[3],rfl,(by repeat first|exact trivial|refine ⟨rfl,?_⟩),⟨.inr (aG rfl (by dsimp only;rw [q5];exact lT q4.symm) q6),trivial⟩,by decide,jT _⟩⟩
  · obtain rfl : k = ws.length := by omega
    rw [dA]
    (repeat' (first|refine wS ?_|refine wR ?_|refine wE ?_|(refine wC rfl ?_ ?_<;>(intro hb;(try simp only [nm] at hb);try (exfalso;omega)))|(refine rg 4 (vV (aJ rfl rfl) ?_))|(refine rg 8 (mW rfl (aV ?_)))|refine nZ ?_));all_goals try (exfalso;omega)
    exact ⟨.inl rfl,[0],_,rfl,rfl,rfl,⟨.inr (aG rfl rfl (bE _)),trivial⟩,by decide,jT _⟩
abbrev ZX (z : List UInt8) : Hp := [AB.cells [.ptr 0 0,.sl 1 0 z.length 1],.buf 5 z]
theorem EJ (c : Cx) (gs : List G) (h : oU c gs) (hn : 0 < gs.length) : aO Tryz.prog 7 [.pr (fT c gs) 0] [] (.s (iF gs)) [] := by
  have hsm := zA7 h;have hl12 : gs.length ≤ 12 := bW h.mid.out.len h.mid.out.ln;have hgl := gZ gs;have hbd : ∀ k,(iF (gs.take k)).length ≤ 6000000 := fun k => DO (fun g hg => hsm g (eG hg)) (by rw [aU];omega)
  refine bK T Tryz.func7 rfl rfl rfl rfl ?_
  (repeat' (first|refine wS ?_|refine wB ?_|(refine rg 0 (aV ?_))|(refine rg 1 (bT (V4 T rfl rfl) rfl ?_))|(refine rg 2 (mW rfl (nV ?_));refine hO T rfl (qW T rfl (mV ?_)))|refine nZ ?_));refine cK (X := {k : Nat // k ≤ gs.length}) (fun k => [(3,.ptr 0 0),(13,.rowE (iB gs) 2),(14,.i (iB gs).length),(15,.i (k.1 : Int))]) (fun k => if k.1 = 0 then [.var 79 [.v (.pointer none),.nils]] else ZX (iF (gs.take k.1))) (fun k => gs.length - k.1) ⟨0,bP _⟩ ⟨[0],rfl,(by repeat first|exact trivial|refine ⟨rfl,?_⟩),⟨.inr rfl,trivial⟩,by decide,jT _⟩ ?_
  rintro ⟨k,hk⟩;dsimp only;by_cases hlt : k < gs.length
  · have hgk := zR hlt;have hs := hsm _ (aI hlt);have hbk := hbd k;have hbk1 := hbd (k + 1);have htk : iF (gs.take (k + 1)) = iF (gs.take k) ++ rR gs[k] := mL rR hlt;generalize gs[k] = g at *;obtain ⟨gb,gw⟩ := g;obtain ⟨sb,sbl,sw,swl⟩ := hs;dsimp only at *;have hwl := eD gw;have hI : Q6 (gw.length : Int) := yC (by omega) (by omega)
    have c1 := OP sb (by omega)
    have c2 : aO Tryz.prog 31 [.i ((eY gw).length : Int)] [] (.s (oI gw.length)) [] := by rw [hwl];exact XC hI (by omega)
    have l1 := wZ sb sbl;have l2 := nC hI;have hz1 : iF (gs.take k) ++ rR (gb,gw) = (iF (gs.take k) ++ (pB gb ++ oI gw.length)) ++ lR gw := by
      show _ ++ (pB gb ++ oI gw.length ++ lR gw) = _;rw [bD (iF (gs.take k))]
    have hz0 : k = 0 → iF (gs.take k) = [] := fun e => by subst e;rfl
    generalize iF (gs.take k) = A at *;generalize hy : pB gb ++ oI (gw.length : Int) = y at *;have hyl : y.length ≤ 177 := by rw [← hy,aD];omega
    apply Go.Ab.cutT
    · intro rest;by_cases k0 : k = 0
      · rw [if_pos k0]
        (repeat' (first|refine wS ?_|refine wB ?_|refine wK ?_|(refine wC rfl ?_ ?_<;>(intro hb;(try simp only [nm] at hb);try (exfalso;omega)))|(refine rg 3 (vV (aJ rfl rfl) ?_))|(refine rg 4 (vV (ix T rfl (by omega) (mS _) hgk) (lW T rfl (bT (bH T rfl) rfl (aQ T rfl rfl rfl rfl rfl rfl (by decide) rfl ?_)))))|refine nZ ?_));all_goals try (exfalso;omega)
        refine fC 5 (cs := gA (gb,gw)) rfl rfl rfl ?_
        (repeat' (first|refine wS ?_|(refine mC (id := 5) 8 62 [[],[0],[0,1],[],[3],[3,4],rN 6,rN 7,rN 8] [[],[0],[0,1],[],[3],[3,4],rN 6,rN 7] (rM 19 8) zP5 cN rfl (by decide +kernel) (by decide +kernel) ?_;(dsimp only [List.take,List.drop]);refine dP T rfl (dO T rfl (dV rfl (kC (c1)) (dP T rfl (dO T rfl (dV rfl (fY T rfl rfl) (dV rfl (kC (c2)) (dV rfl (tX rfl rfl (by omega)) (dE ?_))))))));refine gB ?_;refine eJ [0] rfl rfl (BS (pB gb ++ oI (gw.length : Int)) (by rw [hy];omega)) rfl rfl (by decide) ⟨.inr rfl,trivial⟩ (by simp) rfl ?_)|refine nZ ?_));all_goals try (exfalso;omega)
        exact eP [(3,.ptr 0 0),(5,.pr (gA (gb,gw)) 0),(13,.rowE (iB gs) 2),(14,.i (iB gs).length),(15,.i (k : Int))] (ZX (A ++ y)) ⟨[0,2],rfl,(by repeat first|exact trivial|refine ⟨rfl,?_⟩),⟨.inr (by rw [hz0 k0,← hy];rfl),.inr (by rw [hz0 k0,← hy];rfl),trivial⟩,by decide,jT _⟩ rest.get
      · rw [if_neg k0]
        (repeat' (first|refine wS ?_|refine wB ?_|refine wK ?_|(refine wC rfl ?_ ?_<;>(intro hb;(try simp only [nm] at hb);try (exfalso;omega)))|(refine rg 3 (vV (aJ rfl rfl) ?_))|(refine rg 4 (vV (ix T rfl (by omega) (mS _) hgk) (lW T rfl (bT (bH T rfl) rfl (aQ T rfl rfl rfl rfl rfl rfl (by decide) rfl ?_)))))|refine nZ ?_));all_goals try (exfalso;omega)
        refine fC 5 (cs := gA (gb,gw)) rfl rfl rfl ?_
        (repeat' (first|refine wS ?_|(refine mC (id := 5) 8 62 [[],[0],[0,1],[],[3],[3,4],rN 6,rN 7,rN 8] [[],[0],[0,1],[],[3],[3,4],rN 6,rN 7] (rM 19 8) zP5 cN rfl (by decide +kernel) (by decide +kernel) ?_;(dsimp only [List.take,List.drop]);refine dP T rfl (dO T rfl (dV rfl (kC (c1)) (dP T rfl (dO T rfl (dV rfl (fY T rfl rfl) (dV rfl (kC (c2)) (dV rfl (tX rfl rfl (by omega)) (dE ?_))))))));refine gB ?_;refine eJ [0,1] rfl rfl (I8 A (pB gb ++ oI (gw.length : Int)) (by rw [hy];omega)) rfl rfl (by decide) ⟨.inr rfl,.inr rfl,trivial⟩ (by simp) rfl ?_)|refine nZ ?_));all_goals try (exfalso;omega)
        exact eP [(3,.ptr 0 0),(5,.pr (gA (gb,gw)) 0),(13,.rowE (iB gs) 2),(14,.i (iB gs).length),(15,.i (k : Int))] (ZX (A ++ y)) ⟨[0,3],rfl,(by repeat first|exact trivial|refine ⟨rfl,?_⟩),⟨.inr (by rw [← hy,@aD _ A _];rfl),.inr (by rw [← hy];rfl),trivial⟩,by decide,jT _⟩ rest.get
    have hzl : (A ++ y).length ≤ 6000177 := by rw [aD];omega
    rw [hz1] at htk;generalize A ++ y = z at *;have hwb : ∀ j,(z ++ lR (gw.take j)).length ≤ 7000000 := fun j => by
      have := E6 (l := gw.take j) (fun w hw => sw w (eG hw)) (by rw [aU];omega)
      rw [aD];omega
    (repeat' (first|refine wB ?_|(refine rg 6 (hO T rfl (qW T rfl (mV ?_))))|refine nZ ?_));refine cK (X := {j : Nat // j ≤ gw.length}) (fun j => [(3,.ptr 0 0),(13,.rowE (iB gs) 2),(14,.i (iB gs).length),(15,.i (k : Int)),(29,.rowE (eY gw) 3),(30,.i (eY gw).length),(31,.i (j.1 : Int))]) (fun j => ZX (z ++ lR (gw.take j.1))) (fun j => gw.length - j.1) ⟨0,bP _⟩ ⟨[0,1],rfl,(by repeat first|exact trivial|refine ⟨rfl,?_⟩),⟨.inr (by dsimp only;rw [show z ++ lR (gw.take 0) = z from List.append_nil z];rfl),.inr (by dsimp only;rw [show z ++ lR (gw.take 0) = z from List.append_nil z];rfl),trivial⟩,by decide,jT _⟩ ?_
    rintro ⟨j,hj⟩;dsimp only;by_cases hjt : j < gw.length
    · have hwk := mH hjt;have hw := sw _ (aI hjt);have hb1 := hwb j;have hb2 := hwb (j + 1);have htw : lR (gw.take (j + 1)) = lR (gw.take j) ++ B7 gw[j] := mL B7 hjt;generalize gw[j] = w at *;obtain ⟨wp,wm,wc⟩ := w;obtain ⟨p1,p2,p3,p4,p5⟩ := hw;dsimp only at *;have hcl : (eO wc).length = wc.length := bF _;have d1 := OP p1 (by omega)
      have d2 := K0 p3;have m1 := wZ p1 p2;have m2 := nC p3;have hx1 : z ++ lR (gw.take (j + 1)) = (z ++ lR (gw.take j) ++ (pB wp ++ oI wm)) ++ oC wc := by
        rw [htw];show _ ++ (_ ++ (pB wp ++ oI wm ++ oC wc)) = _;simp only [bD]
      generalize z ++ lR (gw.take j) = B at *;generalize hv : pB wp ++ oI wm = v at *;have hvl : v.length ≤ 177 := by rw [← hv,aD];omega
      (repeat' (first|refine wS ?_|refine wB ?_|refine wK ?_|(refine wC rfl ?_ ?_<;>(intro hb;(try simp only [nm] at hb);try (exfalso;omega)))|(refine rg 7 (vV (aJ rfl rfl) ?_))|(refine rg 8 (vV (ix T rfl (by omega) (jB _) hwk) (lW T rfl (bT (bH T rfl) rfl (aQ T rfl rfl rfl rfl rfl rfl (by decide) rfl ?_)))))|refine nZ ?_));all_goals try (exfalso;omega)
      refine fC 7 (cs := wA (wp,wm,wc)) rfl rfl rfl ?_
      (repeat' (first|refine wS ?_|(refine mC (id := 9) 7 62 [[],[0],[0,1],[],[3],rN 5,rN 6,rN 7] [[],[0],[0,1],[],[3],rN 5,rN 6] (rM 35 7) [[],[],[],[35,36,37],[35,36,37],[],[]] cN rfl (by decide +kernel) (by decide +kernel) ?_;(dsimp only [List.take,List.drop]);refine dP T rfl (dO T rfl (dV rfl (kC (d1)) (dP T rfl (dO T rfl (dV rfl (kC (d2)) (dV rfl (tX rfl rfl (by omega)) (dE ?_)))))));refine gB ?_;refine eJ [0,1] rfl rfl (I8 B (pB wp ++ oI wm) (by rw [hv];omega)) rfl rfl (by decide) ⟨.inr rfl,.inr rfl,trivial⟩ (by simp) rfl ?_)|refine nZ ?_));all_goals try (exfalso;omega)
      refine eP [(3,.ptr 0 0),(13,.rowE (iB gs) 2),(14,.i (iB gs).length),(15,.i (k : Int)),(29,.rowE (eY gw) 3),(30,.i (eY gw).length),(31,.i (j : Int)),(7,.pr (wA (wp,wm,wc)) 0)] (ZX (B ++ v)) ⟨[0,3],rfl,(by repeat first|exact trivial|refine ⟨rfl,?_⟩),⟨.inr (by rw [← hv,@aD _ B _];rfl),.inr (by rw [← hv];rfl),trivial⟩,by decide,jT _⟩ ?_
      have hBl : (B ++ v).length ≤ 7000177 := by rw [aD];omega
      generalize B ++ v = u at *;have hsb : ∀ i,(u ++ oC (wc.take i)).length ≤ 8000000 := fun i => by
        have := K7 (l := wc.take i) (fun r hr => p4 r (eG hr)) (by rw [aU];omega)
        rw [aD];omega
      (repeat' (first|refine wB ?_|(refine rg 10 (hO T rfl (qW T rfl (mV ?_))))|refine nZ ?_));refine cK (X := {i : Nat // i ≤ wc.length}) (fun i => [(3,.ptr 0 0),(13,.rowE (iB gs) 2),(14,.i (iB gs).length),(15,.i (k : Int)),(29,.rowE (eY gw) 3),(30,.i (eY gw).length),(31,.i (j : Int)),(44,.rowE (eO wc) 2),(45,.i (eO wc).length),(46,.i (i.1 : Int))]) (fun i => ZX (u ++ oC (wc.take i.1))) (fun i => wc.length - i.1) ⟨0,bP _⟩ ⟨[0,1],rfl,(by repeat first|exact trivial|refine ⟨rfl,?_⟩),⟨.inr (by dsimp only;rw [show u ++ oC (wc.take 0) = u from List.append_nil u];rfl),.inr (by dsimp only;rw [show u ++ oC (wc.take 0) = u from List.append_nil u];rfl),trivial⟩,by decide,jT _⟩ ?_
      rintro ⟨i,hi⟩;dsimp only;by_cases hit : i < wc.length
      · have hrk : (eO wc)[((i : Int)).toNat]? = some [AV.i (wc[i]).1,AV.i (wc[i]).2] := by
          rw [bR,bI,aB hit];rfl
        have hr := p4 _ (aI hit);have hb3 := hsb i;have hts : u ++ oC (wc.take (i + 1)) = u ++ oC (wc.take i) ++ F1 wc[i] := by
          rw [show oC (wc.take (i + 1)) = oC (wc.take i) ++ F1 wc[i] from mL F1 hit,bD]
        generalize wc[i] = r at *;obtain ⟨r1,r2⟩ := r;dsimp only at *;have f1 := K0 hr.1;have f2 := K0 hr.2;have n1 := nC hr.1;have n2 := nC hr.2;rw [show F1 (r1,r2) = oI r1 ++ oI r2 from rfl] at hts
        generalize u ++ oC (wc.take i) = D at *
        (repeat' (first|refine wS ?_|refine wB ?_|refine wK ?_|(refine wC rfl ?_ ?_<;>(intro hb;(try simp only [nm] at hb);try (exfalso;omega)))|(refine rg 11 (vV (aJ rfl rfl) ?_))|(refine rg 12 (vV (ix T rfl (by omega) (gX _) hrk) (lW T rfl (bT (bH T rfl) rfl (aQ T rfl rfl rfl rfl rfl rfl (by decide) rfl ?_)))))|refine nZ ?_));all_goals try (exfalso;omega)
        refine fC 9 (cs := [.i r1,.i r2]) rfl rfl rfl ?_
        (repeat' (first|(refine mC (id := 13) 7 62 [[],[0],[0,1],[],[3],rN 5,rN 6,rN 7] [[],[0],[0,1],[],[3],rN 5,rN 6] (rM 50 7) [[],[],[],[50,51,52],[50,51,52],[],[]] cN rfl (by decide +kernel) (by decide +kernel) ?_;(dsimp only [List.take,List.drop]);refine dP T rfl (dO T rfl (dV rfl (by exact eQ rfl rfl f1 rfl rfl rfl) ?_));refine dP T rfl (dO T rfl (dV rfl (by exact eQ rfl rfl f2 rfl rfl rfl) ?_));refine dV rfl (tX rfl rfl (by omega)) (dE ?_);refine gB ?_;refine eJ [0,1] rfl rfl (I8 D (oI r1 ++ oI r2) (by rw [aD];omega)) rfl rfl (by decide) ⟨.inr rfl,.inr rfl,trivial⟩ (by simp) rfl ?_)|(refine rg 14 (vV (bS rfl rfl (by omega) (by omega)) (mV ?_)))|refine nZ ?_));all_goals try (exfalso;omega)
        exact ⟨⟨i + 1,hit⟩,by dsimp only;omega,⟨[0,3],rfl,(by repeat first|exact trivial|refine ⟨rfl,?_⟩),⟨.inr (by dsimp only;rw [hts,@aD _ D _];rfl),.inr (by dsimp only;rw [hts];rfl),trivial⟩,by decide,jT _⟩⟩
      · obtain rfl : i = wc.length := by omega
        rw [dA]
        (repeat' (first|refine wS ?_|refine wE ?_|(refine wC rfl ?_ ?_<;>(intro hb;(try simp only [nm] at hb);try (exfalso;omega)))|(refine rg 11 (vV (aJ rfl rfl) ?_))|(refine rg 15 (vV (bS rfl rfl (by omega) (by omega)) (mV ?_)))|refine nZ ?_));all_goals try (exfalso;omega)
        exact ⟨⟨j + 1,hjt⟩,by dsimp only;omega,⟨[0,1],rfl,(by repeat first|exact trivial|refine ⟨rfl,?_⟩),⟨.inr (by dsimp only;rw [hx1];rfl),.inr (by dsimp only;rw [hx1];rfl),trivial⟩,by decide,jT _⟩⟩
    · obtain rfl : j = gw.length := by omega
      rw [dA]
      (repeat' (first|refine wS ?_|refine wE ?_|(refine wC rfl ?_ ?_<;>(intro hb;(try simp only [nm] at hb);try (exfalso;omega)))|(refine rg 7 (vV (aJ rfl rfl) ?_))|(refine rg 16 (vV (bS rfl rfl (by omega) (by omega)) (mV ?_)))|refine nZ ?_));all_goals try (exfalso;omega)
      exact ⟨⟨k + 1,hlt⟩,by dsimp only;omega,⟨[0,1],rfl,(by repeat first|exact trivial|refine ⟨rfl,?_⟩),⟨.inr (by show _ = some (AB.map _ (AB.cells [.ptr 0 0,.sl 1 0 (iF (gs.take (k + 1))).length 1]));rw [htk];rfl),.inr (by show _ = some (AB.map _ (AB.buf 5 (iF (gs.take (k + 1)))));rw [htk];rfl),trivial⟩,by decide,jT _⟩⟩
  · obtain rfl : k = gs.length := by omega
    rw [if_neg (by omega),dA]
    have hne : iF gs ≠ [] := fun e => by
      have h1 : 0 < (pB (gs[0]).1).length := by unfold pB;simp
      have h2 : iF (gs.take 1) = iF (gs.take 0) ++ rR gs[0] := mL rR hn;have h3 : iF gs = iF (gs.take 1) ++ iF (gs.drop 1) := by unfold iF;rw [← fR,bG]
      have h4 := congrArg List.length e;rw [h3,h2] at h4;unfold rR at h4;simp only [aD,List.length_nil] at h4;omega
    have hb := hbd gs.length;rw [dA] at hb
    (repeat' (first|refine wS ?_|refine wR ?_|refine wE ?_|(refine wC rfl ?_ ?_<;>(intro hb;(try simp only [nm] at hb);try (exfalso;omega)))|(refine rg 3 (vV (aJ rfl rfl) ?_))|(refine rg 17 (eJ [0,1] rfl rfl (CG (iF gs) hne (by omega)) rfl rfl (by decide) ⟨.inr rfl,.inr rfl,trivial⟩ (by simp) rfl ?_);refine aV ?_)|refine nZ ?_));all_goals first | (exfalso;omega) | exact rQ
end Go.Proofs.YtbialaoigijlgaaGreatDoor
namespace Go.Ld
open Go.Ab Go.Proofs.YtbialaoigijlgaaGreatDoor
theorem zB7 {l : List Int} (h : l.Nodup) {j k : Nat} (hjk : j < k) (hk : k < l.length) : l.getD j 0 ≠ l.getD k 0 := by
  have := pN.1 h j k (by omega) hk hjk
  rw [aC,aC,aB (by omega),aB hk]
  exact this
structure zD8 (l : List W) (n : Nat) : Prop where
  w : ∀ w,w ∈ l → w.1.length = n ∧ w.2.2.length = n ∧ 0 ≤ w.2.1 ∧ w.1.Nodup
  a : ∀ i (h : i + 1 < l.length),cL (l[i]'(by omega)).1 l[i + 1].1 ≤ 0
theorem ZY {c : Cx} {gs : List G} (h : oU c gs) {g : G} (hg : g ∈ gs) : zD8 g.2 g.1.length := by
  have og := h.mid.out.ok g hg;refine ⟨fun w hw => ?_,fun i hi => ZG (h.asc g hg) (by omega) hi⟩
  have ow := og.ws w hw;exact ⟨ow.pl,ow.cl,ow.m0,ow.nd⟩
end Go.Ld
namespace Go.Proofs.YtbialaoigijlgaaGreatDoor
open Go Go.Ab Go.Ld
attribute [local irreducible] VC AW bV aO jR
set_option maxHeartbeats 4000000
theorem FF (l : List W) (n : Nat) (hl : l.length ≤ 1000) (hn : n ≤ 1000) (h : zD8 l n) : aO Tryz.prog 19 [.rowE (eY l) 3,.i n] [] (.b true) [] := by
  have hll := eD l;obtain ⟨hw,ha⟩ := h;refine bK T Tryz.func19 rfl rfl rfl rfl ?_
  (repeat' (first|refine wS ?_|refine wB ?_|(refine rg 0 (aV ?_))|(refine rg 1 (aV ?_))|refine nZ ?_));refine cK (X := {i : Nat // i ≤ l.length}) (fun i => [(0,.rowE (eY l) 3),(1,.i n),(5,.i (i.1 : Int))]) (fun _ => []) (fun i => l.length - i.1) ⟨0,bP _⟩ (dS []) ?_
  rintro ⟨i,hi⟩;dsimp only;by_cases hlt : i < l.length
  · have hgi := mH hlt;obtain ⟨w1,w2,w3,w4⟩ := hw _ (aI hlt);have hpv : 0 < i → ∃ p : W,(eY l)[(max ((i : Int) - 1) 0).toNat]? = some (wA p) ∧ p.1.length = n ∧ cL p.1 l[i].1 ≤ 0 := fun h0 => by
      refine ⟨l[i - 1],?_,(hw _ (aI (by omega))).1,?_⟩
      · rw [show (max ((i : Int) - 1) 0).toNat = i - 1 by omega]
        have := mH (l := l) (k := i - 1) (by omega)
        rwa [bR] at this
      · have := ha (i - 1) (by omega)
        have e : i - 1 + 1 = i := by omega
        simp only [e] at this;exact this
    generalize l[i] = w at *;obtain ⟨wp,wm,wc⟩ := w;dsimp only at *;have hpl : (ints wp).length = n := by rw [cW,w1]
    have hcl : (eO wc).length = n := by rw [fO,w2]
    have hq : ∀ k,k < n → (ints wp)[((k : Int)).toNat]? = some [.i (wp.getD k 0)] := fun k hk => lD 0 (by omega) rfl
    (repeat' (first|refine wS ?_|refine wB ?_|refine wK ?_|(refine wC rfl ?_ ?_<;>(intro hb;(try simp only [nm] at hb);try (exfalso;omega)))|(refine rg 2 (dQ rfl (qW T rfl (vV (aJ rfl rfl) ?_))))|(refine rg 4 (dQ rfl (vV (ix T rfl (by omega) (jB _) hgi) (lW T rfl (bT (bH T rfl) rfl (aQ T rfl rfl rfl rfl rfl rfl (by decide) rfl ?_))))))|refine nZ ?_));all_goals try (exfalso;omega)
    refine fC 6 (cs := wA (wp,wm,wc)) rfl rfl rfl ?_
    (repeat' (first|refine wS ?_|refine wB ?_|refine wK ?_|refine wU ?_|(refine rg 5 (hO T rfl (qW T rfl (mW rfl (vV (fF rfl rfl) (mV ?_)))));refine cC rfl rfl ?_ ?_<;>(intro hb;rw [hb];(try simp only [nm] at hb);try (exfalso;omega));(all_goals (refine yP T rfl (yO T rfl (gT (qW T rfl (yN rfl (yV (fF rfl rfl) (pW rfl (mV ?_)))))));refine cC rfl rfl ?_ ?_<;>(intro hb;rw [hb];(try simp only [nm] at hb);try (exfalso;omega))));(all_goals (refine yP T rfl (yO T rfl (yV (rE rfl rfl (by omega)) (pV ?_))))))|(refine rg 7 (aV ?_))|refine nZ ?_));all_goals try (exfalso;omega)
    refine cK (X := {k : Nat // k ≤ n}) (fun k => [(0,.rowE (eY l) 3),(1,.i n),(5,.i (i : Int)),(6,.pr (wA (wp,wm,wc)) 0),(7,.i (k.1 : Int))]) (fun _ => []) (fun k => n - k.1) ⟨0,bP _⟩ (dS []) ?_;rintro ⟨k,hk⟩;dsimp only;by_cases hkt : k < n
    · have qk := hq k hkt
      (repeat' (first|refine wS ?_|refine wB ?_|refine wK ?_|(refine wC rfl ?_ ?_<;>(intro hb;(try simp only [nm] at hb);try (exfalso;omega)))|(refine rg 8 (dQ rfl (vV (aJ rfl rfl) ?_)))|(refine rg 10 (aV ?_))|refine nZ ?_));all_goals try (exfalso;omega)
      refine cK (X := {j : Nat // j ≤ k}) (fun j => [(0,.rowE (eY l) 3),(1,.i n),(5,.i (i : Int)),(6,.pr (wA (wp,wm,wc)) 0),(7,.i (k : Int)),(8,.i (j.1 : Int))]) (fun _ => []) (fun j => k - j.1) ⟨0,bP _⟩ (dS []) ?_;rintro ⟨j,hj⟩;dsimp only;by_cases hjt : j < k
      · have qj := hq j (by omega)
        have hne := zB7 w4 hjt (by omega)
        generalize wp.getD j 0 = vj at *;generalize wp.getD k 0 = vk at *
        (repeat' (first|refine wS ?_|refine wB ?_|refine wK ?_|refine wU ?_|(refine wC rfl ?_ ?_<;>(intro hb;(try simp only [nm] at hb);try (exfalso;omega)))|(refine rg 11 (dQ rfl (vV (aJ rfl rfl) ?_)))|(refine cJ (id := 13) 96 zP6 (rM 48 11) [[],[],[48,49],[],[],rM 48 5,rM 48 5,rM 48 7,rM 48 5,rM 48 5,[]] cN rfl (by decide +kernel) (dP T rfl (dO T rfl (dN rfl (dV rfl (ix T rfl (by omega) (bZ _) qj) (dO T rfl (dP T rfl (dO T rfl (dN rfl (dV rfl (ix T rfl (by omega) (bZ _) qk) ?_)))))))));refine dO T rfl (dV rfl (fP rfl rfl hne) (dE ?_)))|(refine iA 12 rfl rfl rfl (by omega) (by omega) ?_)|refine nZ ?_));all_goals try (exfalso;omega)
        exact ⟨⟨j + 1,hjt⟩,by dsimp only;omega,dS []⟩
      · (repeat' (first|refine wS ?_|refine wE ?_|(refine wC rfl (fun hb => ?_) (fun hb => ?_) <;> (((try simp only [nm] at hb);try (exfalso;omega))))|(refine rg 11 (dQ rfl (vV (aJ rfl rfl) ?_)))|(refine iA 9 rfl rfl rfl (by omega) (by omega) ?_)|(refine nZ ?_)));all_goals try (exfalso;omega)
        exact ⟨⟨k + 1,hkt⟩,by dsimp only;omega,dS []⟩
    · (repeat' (first|refine wS ?_|refine wB ?_|refine wE ?_|(refine wC rfl (fun hb => ?_) (fun hb => ?_) <;> (((try simp only [nm] at hb);try (exfalso;omega))))|(refine rg 8 (dQ rfl (vV (aJ rfl rfl) ?_)))|(refine rg 15 (aV ?_))|(refine nZ ?_)));all_goals try (exfalso;omega)
      by_cases hi0 : 0 < i
      · obtain ⟨p,hp1,hp2,hp3⟩ := hpv hi0;obtain ⟨pp,pm,pc⟩ := p;dsimp only at *;have hppl : (ints pp).length = n := by rw [cW,hp2]
        have hqp : ∀ k,k < n → (ints pp)[((k : Int)).toNat]? = some [.i (pp.getD k 0)] := fun k hk => lD 0 (by omega) rfl
        refine cK (X := {x : Nat // x ≤ n ∧ ∀ j,j < x → pp.getD j 0 = wp.getD j 0}) (fun x => [(0,.rowE (eY l) 3),(1,.i n),(5,.i (i : Int)),(6,.pr (wA (wp,wm,wc)) 0),(9,.i (x.1 : Int))]) (fun _ => []) (fun x => n - x.1) ⟨0,bP _,fun j hj => absurd hj (dI _)⟩ (dS []) ?_;rintro ⟨x,hx,he⟩;dsimp only at hx he ⊢;by_cases hxt : x < n
        · have hle := WW (by omega) hp3 x (by omega) he
          have qa := hqp x hxt;have qb := hq x hxt;have hnx : pp.getD x 0 = wp.getD x 0 → ∀ j,j < x + 1 → pp.getD j 0 = wp.getD j 0 := fun e j hj => by
            by_cases h : j = x
            · subst h;exact e
            · exact he j (by omega)
          generalize pp.getD x 0 = va at *;generalize wp.getD x 0 = vb at *
          (repeat' (first|refine wS ?_|refine wB ?_|refine wK ?_|(refine wC rfl ?_ ?_<;>(intro hb;(try simp only [nm] at hb);try (exfalso;omega)))|(refine rg 16 (dQ rfl (vV (aJ rfl rfl) (mV ?_)));refine cC rfl rfl ?_ ?_<;>(intro hb;rw [hb];(try simp only [nm] at hb);try (exfalso;omega));(all_goals (refine yN rfl (yV (fU rfl rfl) (pV ?_)))))|(refine rg 18 (dQ rfl (vV (cO rfl rfl (by omega) (by omega)) (vV (tV rfl rfl) (vV (ix T rfl (by omega) (jB _) hp1) (lW T rfl (bT (bH T rfl) rfl (aQ T rfl rfl rfl rfl rfl rfl (by decide) rfl ?_))))))))|refine nZ ?_));all_goals try (exfalso;omega)
          refine fC 10 (cs := wA (pp,pm,pc)) rfl rfl rfl ?_;by_cases hab : va < vb
          · (repeat' (first|refine wS ?_|refine wK ?_|refine wE ?_|refine qP rfl ?_|refine wI rfl ?_|(refine cJ (id := 19) 96 zP6 (rM 74 11) zP7 cN rfl (by decide +kernel) (dP T rfl (dO T rfl (dN rfl (dV rfl (ix T rfl (by omega) (bZ _) qa) (dO T rfl (dP T rfl (dO T rfl (dN rfl (dV rfl (ix T rfl (by omega) (bZ _) qb) ?_)))))))));refine dO T rfl (dV rfl (rF rfl rfl (by omega)) (dE ?_)))|(refine cJ (id := 21) 96 zP6 (rM 85 11) zP8 cN rfl (by decide +kernel) (dP T rfl (dO T rfl (dN rfl (dV rfl (ix T rfl (by omega) (bZ _) qa) (dO T rfl (dP T rfl (dO T rfl (dN rfl (dV rfl (ix T rfl (by omega) (bZ _) qb) ?_)))))))));refine dO T rfl (dV rfl (tW rfl rfl hab) (dE ?_)))|(refine iA 3 rfl rfl rfl (by omega) (by omega) ?_)|(refine nZ ?_)));all_goals try (exfalso;omega)
            all_goals exact ⟨⟨i + 1,hlt⟩,by dsimp only;omega,dS []⟩
          · (repeat' (first|refine wS ?_|refine wK ?_|refine wI rfl ?_|(refine cJ (id := 19) 96 zP6 (rM 74 11) zP7 cN rfl (by decide +kernel) (dP T rfl (dO T rfl (dN rfl (dV rfl (ix T rfl (by omega) (bZ _) qa) (dO T rfl (dP T rfl (dO T rfl (dN rfl (dV rfl (ix T rfl (by omega) (bZ _) qb) ?_)))))))));refine dO T rfl (dV rfl (rF rfl rfl (by omega)) (dE ?_)))|(refine cJ (id := 21) 96 zP6 (rM 85 11) zP8 cN rfl (by decide +kernel) (dP T rfl (dO T rfl (dN rfl (dV rfl (ix T rfl (by omega) (bZ _) qa) (dO T rfl (dP T rfl (dO T rfl (dN rfl (dV rfl (ix T rfl (by omega) (bZ _) qb) ?_)))))))));refine dO T rfl (dV rfl (rE rfl rfl (by omega)) (dE ?_)))|(refine iA 17 rfl rfl rfl (by omega) (by omega) ?_)|(refine nZ ?_)));all_goals try (exfalso;omega)
            all_goals exact ⟨⟨x + 1,hxt,hnx (by omega)⟩,by dsimp only;omega,dS []⟩
        · (repeat' (first|refine wS ?_|refine wE ?_|refine wI rfl ?_|(refine rg 16 (dQ rfl (vV (aJ rfl rfl) (mV ?_)));refine cC rfl rfl (fun hb => ?_) (fun hb => ?_) <;> ((rw [hb];(try simp only [nm] at hb);try ((exfalso;omega);done)));(all_goals ((iterate 2 refine gF ?_);refine pV ?_)))|(refine iA 3 rfl rfl rfl (by omega) (by omega) ?_)|(refine nZ ?_)));all_goals try (exfalso;omega)
          all_goals exact ⟨⟨i + 1,hlt⟩,by dsimp only;omega,dS []⟩
      · refine cK (X := Unit) (fun _ => [(0,.rowE (eY l) 3),(1,.i n),(5,.i (i : Int)),(6,.pr (wA (wp,wm,wc)) 0),(9,.i 0)]) (fun _ => []) (fun _ => 0) () (dS []) ?_;rintro ⟨⟩
        (repeat' (first|refine wS ?_|refine wE ?_|refine wU ?_|(refine wC rfl ?_ ?_<;>(intro hb;(try simp only [nm] at hb);try (exfalso;omega)))|(refine rg 16 (dQ rfl (vV (aJ rfl rfl) (mV ?_)));refine cC rfl rfl ?_ ?_<;>(intro hb;rw [hb];(try simp only [nm] at hb);try (exfalso;omega));(all_goals first|(refine gT (mW rfl (gT (vV (fU rfl rfl) ?_))))|(iterate 2 refine gF ?_));(all_goals (refine pV ?_)))|(refine iA 3 rfl rfl rfl (by omega) (by omega) ?_)|refine nZ ?_));all_goals try (exfalso;omega)
        all_goals exact ⟨⟨i + 1,hlt⟩,by dsimp only;omega,dS []⟩
  · (repeat' (first|refine wS ?_|refine wR ?_|refine wE ?_|(refine wC rfl (fun hb => ?_) (fun hb => ?_) <;> (((try simp only [nm] at hb);try (exfalso;omega))))|(refine rg 2 (dQ rfl (qW T rfl (vV (aJ rfl rfl) ?_))))|(refine rg 22 (aV ?_))|(refine nZ ?_)));all_goals try (exfalso;omega)
    all_goals exact rQ
end Go.Proofs.YtbialaoigijlgaaGreatDoor
namespace Go.Ab
open Go
theorem yG {P : Program} {env : dK} {h : Hp} {d : Option Nat} {ty : TypeId} {pos : String} {af : Array Edge} {g : Option (Nat × Bool)} {t t2 : TypeId} {x y : Operand} {a : List UInt8} (hx : evu env x = some (.s a)) (hy : evu env y = some (.s a)) : bV P ⟨d,.binOp .neq t x y t2,ty,pos,af,g⟩ env h 0 (fun _ => .b false) (fun _ => []) := by
  have := US (P := P) (d := d) (ty := ty) (pos := pos) (af := af) (g := g) (h := h) (t := t) (t2 := t2) hx hy;simpa using this
end Go.Ab
namespace Go.Proofs.YtbialaoigijlgaaGreatDoor
open Go Go.Ab Go.Ld
attribute [local irreducible] VC AW bV aO jR
set_option maxHeartbeats 4000000
theorem U9 (ks : List KD) (ls : List LT) (ps : List Int) (bs : List BX) (m st er sl : Int) (l : List Ev) (v : Bool) (hb : bs.length ≤ 17592186043904)
    (hf : aO Tryz.prog 15 [tH ks ls (nats (List.range bs.length)) bs,oV m st er sl,.i 8] [] (.b v) [])
    (hids : ∀ s,s ∈ l → s.ids.length ≤ 9223372036854775807) (hv : v = true → O3 l 12 = false) :
    aO Tryz.prog 4 [tH ks ls ps bs,oV m st er sl,.rowE (I2 l) 5] [] (.b true) [] := by
  have hbl : (fS bs).length = bs.length := bF _;have hi := AC bs.length hb;have hsm := T3;have hfe := QD l 12 (by omega) hids
  generalize O3 l 12 = fe at *;generalize nats (List.range bs.length) = I at *;rw [← hbl] at hi;cases v <;> cases fe
  case true.true => exact absurd (hv rfl) (by decide)
  all_goals
    refine bK T Tryz.func4 rfl rfl rfl rfl ?_
    (repeat' (first|refine wS ?_|(refine rg 0 (bT (cQ rfl rfl) rfl (bT (cQ rfl rfl) rfl (aV ?_))))|(refine rg 1 (vV (kC (hsm)) (aV ?_)))|(refine rg 2 (hO T rfl (qW T rfl (vV (kC (hi)) (fW T rfl (aQ T rfl rfl rfl rfl rfl rfl (by decide) rfl ?_))))))|refine nZ ?_));refine fC 3 (cs := [.rowE (iC ks) 2,.rowE (kZ ls) 3,.rowE (ints I) 1,.rowE (fS bs) 3]) rfl rfl rfl ?_
    refine fC 4 (cs := [.i m,.i st,.i er,.i sl]) rfl rfl rfl ?_
    (repeat' (first|refine wS ?_|refine wR ?_|refine wT ?_|(refine rg 3 (lW T rfl (lW T rfl (vV (kC (hf)) (vV (eL rfl) (mV ?_)))));(all_goals first|(refine gT (mW rfl (gT (vV (kC (hfe)) (gT (vV (eL rfl) ?_))))))|(iterate 3 refine gF ?_));(all_goals (refine pV ?_)))|(refine rg 4 (mW rfl (aV ?_)))|refine nZ ?_));all_goals try (exfalso;omega)
    all_goals exact rQ
theorem GD (c : Cx) (hc : E5 c) (ps : List Int) (l : List Ev)
    (hf : aO Tryz.prog 15 [tH c.ks c.ls (nats (List.range c.bs.length)) c.bs,oV c.m c.st c.er c.sl,.i 8] [] (.b true) [])
    (hids : ∀ s,s ∈ l → s.ids.length ≤ 9223372036854775807) (hx : O3 l 12 = true) :
    aO Tryz.prog 4 [tH c.ks c.ls ps c.bs,oV c.m c.st c.er c.sl,.rowE (I2 l) 5] [] (.b true) [] := by
  have hbl : (fS c.bs).length = c.bs.length := bF _;have hn1 := hc.f.n1;have hn8 := hc.f.n8;have hnl : (nats (List.range c.bs.length)).length = c.bs.length := by simp
  rw [hnl] at hn1 hn8;have hi := AC c.bs.length (by omega)
  rw [← hbl] at hi;rw [hbl] at hi;have hsm := T3;have hfe := QD l 12 (by omega) hids
  rw [hx] at hfe;have hel : (I2 l).length = l.length := bF _;have hlen12 : l.length ≤ 12 := by
    unfold O3 at hx;simp only [aP,decide_eq_true_eq] at hx;exact hx.1.2
  have hn := OU c hc;have hg0 := OS hc (by omega) hc.s.1
  generalize nats (List.range c.bs.length) = I at *;rw [← hbl] at hi;refine bK T Tryz.func4 rfl rfl rfl rfl ?_
  (repeat' (first|refine wS ?_|(refine rg 0 (bT (cQ rfl rfl) rfl (bT (cQ rfl rfl) rfl (aV ?_))))|(refine rg 1 (vV (kC (hsm)) (aV ?_)))|(refine rg 2 (hO T rfl (qW T rfl (vV (kC (hi)) (fW T rfl (aQ T rfl rfl rfl rfl rfl rfl (by decide) rfl ?_))))))|refine nZ ?_));refine fC 3 (cs := [.rowE (iC c.ks) 2,.rowE (kZ c.ls) 3,.rowE (ints I) 1,.rowE (fS c.bs) 3]) rfl rfl rfl ?_
  refine fC 4 (cs := [.i c.m,.i c.st,.i c.er,.i c.sl]) rfl rfl rfl ?_
  (repeat' (first|refine wS ?_|refine wB ?_|refine wK ?_|refine wU ?_|(refine rg 3 (lW T rfl (lW T rfl (vV (kC (hf)) (vV (eL rfl) (mW rfl (yN rfl (yV (kC (hfe)) (yV (eL rfl) (pV ?_))))))))))|(refine rg 5 (lW T rfl (hO T rfl (hO T rfl (hO T rfl (bT (by exact fZ rfl rfl hn (.inr ⟨rfl,rfl,by simp⟩)) rfl ?_)))));refine mW rfl (xW rfl (xW rfl (qA ?_))))|(refine rg 6 (mW rfl (vV (by exact qM TR rfl rfl rfl) ?_));refine mW rfl (yN rfl (yV (fF rfl rfl) (pV ?_))))|(refine rg 8 (aV ?_))|refine nZ ?_));all_goals try (exfalso;omega)
  refine cK (X := {x : Nat × List G // x.1 ≤ l.length ∧ oU c x.2}) (fun x => [(2,.rowE (I2 l) 5),(3,.pr [.rowE (iC c.ks) 2,.rowE (kZ c.ls) 3,.rowE (ints I) 1,.rowE (fS c.bs) 3] 0),(7,.b true),(8,.ptr 0 0),(10,.i (x.1.1 : Int))]) (fun x => [.cells (fT c x.1.2)]) (fun x => l.length - x.1.1) ⟨(0,sJ c),bP _,hg0⟩ (dS [2]) ?_;rintro ⟨⟨k,gs⟩,hk,hgs⟩;dsimp only at hk hgs ⊢;by_cases hlt : k < l.length
  · have hg := DZ hlt;have hse := HT c gs l[k] hc hgs (hids _ (aI _));have hgs2 := Y0 (s := l[k]) hgs hc.s.1 hc.s.2.1;have hsame := NH (c := c) (gs := gs) (s := l[k]);have hgl : ∀ gs',oU c gs' → 0 < gs'.length := fun gs' h => by
      obtain ⟨g,hg,_⟩ := h.mid.find (b := 0) ⟨by omega,by omega⟩
      exact R9 hg
    have b1 := EJ c gs hgs (hgl _ hgs);have hcp := VR c gs (by have := bW hgs.mid.out.len hgs.mid.out.ln;omega)
    generalize yA c gs l[k] = R at *;obtain ⟨r,gs'⟩ := R;dsimp only at hse hgs2 hsame;have b2 := EJ c gs' hgs2 (hgl _ hgs2);generalize l[k] = s at *
    (repeat' (first|refine wS ?_|refine wB ?_|refine wK ?_|(refine wC rfl ?_ ?_<;>(intro hb;(try simp only [nm] at hb);try (exfalso;omega)))|(refine rg 9 (dQ rfl (qW T rfl (vV (aJ rfl rfl) ?_))))|(refine rg 11 (mW rfl (vV (by exact eN rfl rfl b1 (.cons (.ptr rfl (fK _ rfl)) .nil) rfl rfl) ?_));refine aV ?_)|(refine rg 12 (mW rfl (eJ [0] rfl rfl (hcp) rfl rfl (by decide) ⟨.inr rfl,trivial⟩ (by simp) rfl ?_));refine aV ?_)|refine nZ ?_));all_goals try (exfalso;omega)
    refine eP [(2,.rowE (I2 l) 5),(3,.pr [.rowE (iC c.ks) 2,.rowE (kZ c.ls) 3,.rowE (ints I) 1,.rowE (fS c.bs) 3] 0),(7,.b true),(8,.ptr 0 0),(10,.i (k : Int)),(11,.s (iF gs)),(12,.ptr 1 0)] [.cells (fT c gs),.cells (fT c gs)] ⟨[0,1],rfl,(by repeat first|exact trivial|refine ⟨rfl,?_⟩),⟨.inr rfl,.inr rfl,trivial⟩,by decide,jT _⟩ ?_
    by_cases hr : r = 0
    · subst hr
      (repeat' (first|refine wS ?_|refine wK ?_|refine wU ?_|(refine rg 13 (dQ rfl (mW rfl (vV (ix T rfl (by omega) (tZ _) hg) (lW T rfl (eJ [0] rfl rfl (hse) rfl rfl (by decide) ⟨.inr rfl,trivial⟩ (by simp) rfl ?_)))));refine aV ?_)|(refine rg 14 (mW rfl (vV (by exact qM TR rfl rfl rfl) ?_)))|(refine rg 16 (mW rfl (vV (by exact eN rfl rfl b1 (.cons (.ptr rfl (fK _ rfl)) .nil) rfl rfl) ?_));refine mW rfl (vV (yG rfl rfl) (mW rfl (yN rfl (yV (fF rfl rfl) (yM ?_)))));(iterate 4 refine gF ?_);refine gT (pW rfl (pV ?_)))|(refine iA 10 rfl rfl rfl (by omega) (by omega) ?_)|refine nZ ?_));all_goals try (exfalso;omega)
      all_goals exact ⟨⟨(k + 1,gs'),by dsimp only;omega,hgs2⟩,by dsimp only;omega,dS [0]⟩
    · obtain rfl := hsame hr
      (repeat' (first|refine wS ?_|refine wK ?_|refine wU ?_|(refine rg 13 (dQ rfl (mW rfl (vV (ix T rfl (by omega) (tZ _) hg) (lW T rfl (eJ [0] rfl rfl (hse) rfl rfl (by decide) ⟨.inr rfl,trivial⟩ (by simp) rfl ?_)))));refine aV ?_)|(refine rg 14 (mW rfl (vV (by exact qM TR rfl rfl rfl) ?_)))|(refine rg 16 (mW rfl (vV (by exact eN rfl rfl b1 (.cons (.ptr rfl (fK _ rfl)) .nil) rfl rfl) ?_));refine mW rfl (vV (yG rfl rfl) (mW rfl (yN rfl (yV (rD rfl rfl hr) (yN rfl (yN rfl (yV (by exact eN rfl rfl b1 (.cons (.ptr rfl (fK _ rfl)) .nil) rfl rfl) ?_)))))));refine yN rfl (yV (yG rfl rfl) (gT (pW rfl (pV ?_)))))|(refine iA 10 rfl rfl rfl (by omega) (by omega) ?_)|refine nZ ?_));all_goals try (exfalso;omega)
      all_goals exact ⟨⟨(k + 1,gs'),by dsimp only;omega,hgs2⟩,by dsimp only;omega,dS [0]⟩
  · (repeat' (first|refine wS ?_|refine wE ?_|(refine wC rfl (fun hb => ?_) (fun hb => ?_) <;> (((try simp only [nm] at hb);try (exfalso;omega))))|(refine rg 9 (dQ rfl (qW T rfl (vV (aJ rfl rfl) ?_))))|(refine nZ ?_)));all_goals try (exfalso;omega)
    refine fC 8 (cs := fT c gs) rfl rfl rfl ?_
    (repeat' (first|refine wB ?_|(refine rg 18 (aV ?_))|refine nZ ?_));all_goals try (exfalso;omega)
    refine cK (X := {b : Nat // b ≤ c.bs.length}) (fun b => [(3,.pr [.rowE (iC c.ks) 2,.rowE (kZ c.ls) 3,.rowE (ints I) 1,.rowE (fS c.bs) 3] 0),(7,.b true),(8,.pr (fT c gs) 0),(14,.i (b.1 : Int))]) (fun _ => []) (fun b => c.bs.length - b.1) ⟨0,bP _⟩ (dS []) ?_;rintro ⟨b,hb⟩;dsimp only;by_cases hbt : b < c.bs.length
    · have hbb : (0 : Int) ≤ (b : Int) ∧ (b : Int) < c.bs.length := ⟨by omega,by omega⟩
      obtain ⟨g,hgr,hgm,hbg⟩ := PR (hgs.mid.find hbb);have og := hgs.mid.out.ok g hgm;have hgc := kU (by simp) (gD (bO _)) (zT c gs b hgs hgr)
      have hwc := JG c gs b hgs hgr;have hall : ∀ x,x ∈ g.1 → aO Tryz.prog 9 [.pr (fT c gs) 0,.i x] [] (.rowE (ints g.1) 1) [] := fun x hx => kU (by simp) (gD (bO _)) (zT c gs x hgs (YI hgs hgm hx))
      have hwo := FF g.2 g.1.length (by have := hgs.mid.wl g hgm;omega) (by have := og.ln;omega) (ZY hgs hgm)
      have hha := WT g.1 b (by have := og.ln;omega)
      rw [decide_eq_true hbg] at hha;have hsa := FO g.1 g.1 (by have := og.ln;omega)
      rw [decide_eq_true rfl] at hsa;have k1 := og.ln;have k2 : 0 < g.1.length := R9 hbg;have k3 : 0 < g.2.length := dY.2 (hgs.mid.ne g hgm);have k4 := hgs.mid.wl g hgm;have k5 : 1 < g.1.length → 2 ≤ g.2.length := fun h => XG (hgs.cer g hgm) (by omega) (hgs.mid.ne g hgm)
      obtain ⟨gb,gw⟩ := g;dsimp only at *;have e1 : (ints gb).length = gb.length := cW _;have e2 : (eY gw).length = gw.length := eD _;rw [← e1] at hwo
      (repeat' (first|refine wS ?_|refine wB ?_|refine wK ?_|refine wU ?_|(refine wC rfl ?_ ?_<;>(intro hb;(try simp only [nm] at hb);try (exfalso;omega)))|(refine rg 19 (mW rfl (hO T rfl (qW T rfl (vV (aJ rfl rfl) ?_)))))|(refine rg 21 (dQ rfl (vV (kC (hgc)) (aV ?_))))|(refine rg 22 (dQ rfl (vV (kC (hwc)) (aV ?_))))|(refine rg 23 (mW rfl (qW T rfl (vV (fP rfl rfl (by omega)) (mW rfl (yN rfl (gT (qW T rfl (yV (rF rfl rfl (by omega)) (pV ?_)))))))));refine mW rfl (yN rfl (gT (qW T rfl (yV (fP rfl rfl (by omega)) (pW rfl (mW rfl (yN rfl (gT (qV T ?_)))))))));refine yV (rF rfl rfl (by omega)) (pW rfl (mW rfl (yN rfl (yN rfl (yV (kC (hha)) (yV (eL rfl) (pV ?_))))))))|(refine rg 25 (aV ?_))|refine nZ ?_));all_goals try (exfalso;omega)
      refine cK (X := {i : Nat // i ≤ gb.length}) (fun i => [(3,.pr [.rowE (iC c.ks) 2,.rowE (kZ c.ls) 3,.rowE (ints I) 1,.rowE (fS c.bs) 3] 0),(7,.b true),(8,.pr (fT c gs) 0),(14,.i (b : Int)),(15,.rowE (ints gb) 1),(16,.rowE (eY gw) 3),(17,.i (i.1 : Int))]) (fun _ => []) (fun i => gb.length - i.1) ⟨0,bP _⟩ (dS []) ?_;rintro ⟨i,hi'⟩;dsimp only;by_cases hit : i < gb.length
      · have q1 : (ints gb)[(i : Int).toNat]? = some [AV.i gb[i]] := by rw [bR];exact kS hit
        have hgx := hall _ (aI hit);generalize gb[i] = x at *
        (repeat' (first|refine wS ?_|refine wB ?_|refine wK ?_|refine wU ?_|(refine wC rfl ?_ ?_<;>(intro hb;(try simp only [nm] at hb);try (exfalso;omega)))|(refine rg 26 (dQ rfl (qW T rfl (vV (aJ rfl rfl) ?_))))|(refine rg 28 (dQ rfl (mW rfl (vV (ix T rfl (by omega) (bZ _) q1) (lW T rfl (vV (kC (hgx)) (mW rfl (vV (kC (hsa)) (vV (eL rfl) ?_)))))))))|(refine iA 27 rfl rfl rfl (by omega) (by omega) ?_)|refine nZ ?_));all_goals try (exfalso;omega)
        all_goals exact ⟨⟨i + 1,hit⟩,by dsimp only;omega,dS []⟩
      · by_cases h1 : 1 < gb.length
        · have k6 := k5 h1
          (repeat' (first|refine wS ?_|refine wK ?_|refine wE ?_|refine wU ?_|(refine rg 26 (dQ rfl (qW T rfl (vV (rE rfl rfl (by omega)) ?_))))|(refine rg 30 (dQ rfl (qW T rfl (vV (kC (hwo)) (vV (eL rfl) (mW rfl (yN rfl (gT (qW T rfl (yV (IR rfl rfl (by omega)) ?_)))))))));refine yN rfl (yN rfl (gT (qW T rfl (yV (rE rfl rfl (by omega)) (gT (pW rfl (pV ?_))))))))|(refine iA 20 rfl rfl rfl (by omega) (by omega) ?_)|refine nZ ?_));all_goals try (exfalso;omega)
          all_goals exact ⟨⟨b + 1,hbt⟩,by dsimp only;omega,dS []⟩
        · (repeat' (first|refine wS ?_|refine wK ?_|refine wE ?_|refine wI rfl ?_|(refine wC rfl (fun hb => ?_) (fun hb => ?_) <;> (((try simp only [nm] at hb);try (exfalso;omega))))|(refine rg 26 (dQ rfl (qW T rfl (vV (aJ rfl rfl) ?_))))|(refine rg 30 (dQ rfl (qW T rfl (vV (kC (hwo)) (vV (eL rfl) (mW rfl (yN rfl (gT (qW T rfl (yV (rF rfl rfl (by omega)) ?_)))))))));refine yM ?_;(iterate 3 refine gF ?_);refine gT (pW rfl (pV ?_)))|(refine iA 20 rfl rfl rfl (by omega) (by omega) ?_)|(refine nZ ?_)));all_goals try (exfalso;omega)
          all_goals exact ⟨⟨b + 1,hbt⟩,by dsimp only;omega,dS []⟩
    · (repeat' (first|refine wS ?_|refine wR ?_|refine wE ?_|(refine wC rfl (fun hb => ?_) (fun hb => ?_) <;> (((try simp only [nm] at hb);try (exfalso;omega))))|(refine rg 19 (mW rfl (hO T rfl (qW T rfl (vV (aJ rfl rfl) ?_)))))|(refine rg 32 (mW rfl (aV ?_)))|(refine nZ ?_)));all_goals try (exfalso;omega)
      all_goals exact rQ
end Go.Proofs.YtbialaoigijlgaaGreatDoor
namespace Go.Ld
open Go.Ab Go.Proofs.YtbialaoigijlgaaGreatDoor
end Go.Ld
namespace Go.Proofs.YtbialaoigijlgaaGreatDoor
open Go Go.Ab Go.Ld
attribute [local irreducible] VC AW bV aO jR
set_option maxHeartbeats 4000000
end Go.Proofs.YtbialaoigijlgaaGreatDoor
namespace Go.Ab
open Go
def L1 (P : Program) (t : TypeId) (i o : Nat) (e : TypeId) : Bool := match P.underlying t with
  | some (.struct fs) => (match fs[i]? with
    | some f => f.offset == o && P.cellsOf f.type == 1 && (match P.underlying f.type with
      | some (.slice e') => e' == e
      | _ => false)
    | none => false)
  | _ => false
theorem BJ {S : Nat → Prop} {w : World} {ρ : Pl} {x : AV} : ∀ {k : Nat} {us : List AV} {ys : List Value}, RL S w us ρ ys → us[k]? = some x → ∃ y, ys[k]? = some y ∧ R S w x ρ y
  | _,[],_,_,h => by simp at h
  | 0,u :: us,ys,hr,h => by
    simp only [RL] at hr;obtain ⟨y,zs,h1,h2,h3⟩ := hr;obtain rfl : u = x := by simpa using h
    first
      | (subst h1;exact ⟨y,rfl,h2⟩)
      | (subst h2;exact ⟨y,rfl,h1⟩)
      | (subst h3;exact ⟨y,rfl,h1⟩)
  | k + 1,u :: us,ys,hr,h => by
    simp only [RL] at hr;obtain ⟨y,zs,h1,h2,h3⟩ := hr;have h' : us[k]? = some x := by simpa using h
    first
      | (subst h1;exact BJ (k := k) h3 h')
      | (subst h3;exact BJ (k := k) h2 h')
theorem GB {P : Program} {H : Type} {enc : TypeId × Value → H} {ts : List TypeId} {ds : List (DataW H)} {j : Nat} {t e : TypeId} {d : DataW H} {W : World} {v : Value} {p : List MemPlace} {S : Nat → Prop} {ρ : Pl} {us : List AV} {cs : List AV} {len sz i o : Nat}
    (hw : (DataW.weightsEach P ts ds).all (· ≤ reachBytes) = true) (hts : ts[j]? = some t) (hds : ds[j]? = some d) (hf : L1 P t i o e = true) (hv : DataW.Trod enc P W 0 (fun _ => true) true t v d p) (hr : R S W (.agg us) ρ v) (hu : us[o]? = some (.row cs len sz)) : len * P.bytesOf e ≤ 140737488351232 := by
  simp only [R] at hr;obtain ⟨ys,rfl,hl⟩ := hr;obtain ⟨y,hy,hry⟩ := BJ hl hu;simp only [R] at hry;obtain ⟨a,cap,rfl,_⟩ := hry;unfold L1 at hf;split at hf
  · rename_i fs ht;split at hf
    · rename_i f hfi;simp only [aP,beq_iff_eq] at hf;obtain ⟨⟨h1,h2⟩,h3⟩ := hf;split at h3
      · rename_i e' hs;have h3 : e' = e := by simpa using h3
        subst h3;obtain ⟨fuel,hft⟩ := hv;have hc : (Value.agg ys).cells.toList = ys.toList := rfl;rw [hc] at hft;obtain ⟨xs,n,rfl,hx,_,hxl,hx2⟩ := DataW.trod_struct ht hft;have hx3 := hx2 i f hfi
        rw [h1,h2,show (ys.toList.drop o).take 1 = [.slice a len cap] by
          rw [List.take_one,List.head?_drop,hy];rfl] at hx3
        have hil : i < xs.length := by rw [hxl];exact (aH.1 hfi).1
        rw [aB hil] at hx3;simp only [Prod.mk.injEq] at hx;rcases DataW.trod_slice hs hx3 with ⟨q1,_⟩ | ⟨a',len',cap',elems,rest,n',_,q2,q3,_,_,_,q4,_⟩
        · simp only [List.cons.injEq,Value.slice.injEq] at q1;rw [q1.1.2.1];simp
        · simp only [List.cons.injEq,Value.slice.injEq] at q2;rw [q2.1.2.1];have hmem : (elems.length + rest.length) * P.bytesOf e' ∈ d.weights P t := by
            rw [hx.1];unfold DataW.weights;rw [ht];refine DataW.weights_mem_each (j := i) (t := f.type) (d := xs[i].1) ?_ ?_ _ ?_
            · rw [bI,iM,hfi];rfl
            · rw [bI,aB hil];rfl
            · rw [q3];simp only [DataW.weights,hs,bF];exact bA
          have h5 := bB.1 hw _ (DataW.weights_mem_each hts hds _ hmem);have hrb : reachBytes = 140737488351232 := by decide
          simp only [decide_eq_true_eq,hrb,eF] at h5;rw [← q4];omega
      · cases h3
    · cases hf
  · cases hf
end Go.Ab
namespace Go.Proofs.YtbialaoigijlgaaGreatDoor
open Go Go.Ab Go.Ld
attribute [local irreducible] VC AW bV aO
def B6 (n : Int) : Prop := (Lit.int .i64 n).wf = true
theorem qH : gM Tryz.prog 3 B6 (fun n => [AV.i n]) := gM.int Tryz.underlying3 (by kernel_rfl)
theorem XT : gM Tryz.prog 4 (fun _ => True) (fun b => [AV.b b]) := gM.bool Tryz.underlying4 (by kernel_rfl)
theorem OL : gM Tryz.prog 9 (fun s => s.size ≤ maxLen) (fun s => [.v (.string s)]) := gM.string Tryz.underlying9 (by kernel_rfl)
theorem OO : gM Tryz.prog 34 (fun l : List Int => l.length ≤ maxLen ∧ ∀ a,a ∈ l → B6 a) (fun l => [.rowE (ints l) 1]) :=
  gM.slice Tryz.underlying34 (by kernel_rfl) (by kernel_rfl) (by decide) qH
theorem XS : gM Tryz.prog 63 (fun p : KD => p.1.size ≤ maxLen ∧ B6 p.2) (fun p => [AV.v (.string p.1),AV.i p.2]) :=
  gM.struct (fs := [(9, 0), (3, 1)]) (by kernel_rfl) (by kernel_rfl)
    (fun e W fuel css hl hx => by
      obtain ⟨a,h1,h2,h3⟩ := gV.cons OL (gV.cons qH gV.nil) e W fuel css hl hx
      exact ⟨(a.1,a.2.1),⟨h1.1,h1.2.1⟩,by simpa using h2,by simpa using h3⟩)
    (fun _ => by kernel_rfl)
theorem zB3 : gM Tryz.prog 66 (fun p : LT => B6 p.1 ∧ B6 p.2.1) (fun p => [AV.i p.1,AV.i p.2.1,AV.b p.2.2]) :=
  gM.struct (fs := [(3, 0), (3, 1), (4, 2)]) (by kernel_rfl) (by kernel_rfl)
    (fun e W fuel css hl hx => by
      obtain ⟨a,h1,h2,h3⟩ := gV.cons qH (gV.cons qH (gV.cons XT gV.nil)) e W fuel css hl hx
      exact ⟨(a.1,a.2.1,a.2.2.1),⟨h1.1,h1.2.1⟩,by simpa using h2,by simpa using h3⟩)
    (fun _ => by kernel_rfl)
theorem zB4 : gM Tryz.prog 25 (fun p : BX => B6 p.1 ∧ B6 p.2.1 ∧ B6 p.2.2) (fun p => [AV.i p.1,AV.i p.2.1,AV.i p.2.2]) :=
  gM.struct (fs := [(3, 0), (3, 1), (3, 2)]) (by kernel_rfl) (by kernel_rfl)
    (fun e W fuel css hl hx => by
      obtain ⟨a,h1,h2,h3⟩ := gV.cons qH (gV.cons qH (gV.cons qH gV.nil)) e W fuel css hl hx
      exact ⟨(a.1,a.2.1,a.2.2.1),⟨h1.1,h1.2.1,h1.2.2.1⟩,by simpa using h2,by simpa using h3⟩)
    (fun _ => by kernel_rfl)
theorem TZ : gM Tryz.prog 44 (fun l : List KD => l.length ≤ maxLen ∧ ∀ a,a ∈ l → a.1.size ≤ maxLen ∧ B6 a.2) (fun l => [.rowE (iC l) 2]) :=
  gM.slice Tryz.underlying44 (by kernel_rfl) (by kernel_rfl) (by decide) XS
theorem XR : gM Tryz.prog 45 (fun l : List LT => l.length ≤ maxLen ∧ ∀ a,a ∈ l → B6 a.1 ∧ B6 a.2.1) (fun l => [.rowE (kZ l) 3]) :=
  gM.slice Tryz.underlying45 (by kernel_rfl) (by kernel_rfl) (by decide) zB3
theorem UA : gM Tryz.prog 23 (fun l : List BX => l.length ≤ maxLen ∧ ∀ a,a ∈ l → B6 a.1 ∧ B6 a.2.1 ∧ B6 a.2.2) (fun l => [.rowE (fS l) 3]) :=
  gM.slice Tryz.underlying23 (by kernel_rfl) (by kernel_rfl) (by decide) zB4
theorem TX : gM Tryz.prog 47 (fun _ : List KD × List LT × List Int × List BX => True) (fun x => [.rowE (iC x.1) 2,.rowE (kZ x.2.1) 3,.rowE (ints x.2.2.1) 1,.rowE (fS x.2.2.2) 3]) :=
  gM.struct (fs := [(44, 0), (45, 1), (34, 2), (23, 3)]) (by kernel_rfl) (by kernel_rfl)
    (fun e W fuel css hl hx => by
      obtain ⟨a,h1,h2,h3⟩ := gV.cons TZ (gV.cons XR (gV.cons OO (gV.cons UA gV.nil))) e W fuel css hl hx
      exact ⟨(a.1,a.2.1,a.2.2.1,a.2.2.2.1),trivial,by simpa using h2,by simpa using h3⟩)
    (fun _ => by kernel_rfl)
theorem ON : gM Tryz.prog 31 (fun p : Int × Int × Int × Int => B6 p.1 ∧ B6 p.2.1 ∧ B6 p.2.2.1 ∧ B6 p.2.2.2) (fun p => [AV.i p.1,AV.i p.2.1,AV.i p.2.2.1,AV.i p.2.2.2]) :=
  gM.struct (fs := [(3, 0), (3, 1), (3, 2), (3, 3)]) (by kernel_rfl) (by kernel_rfl)
    (fun e W fuel css hl hx => by
      obtain ⟨a,h1,h2,h3⟩ := gV.cons qH (gV.cons qH (gV.cons qH (gV.cons qH gV.nil))) e W fuel css hl hx
      exact ⟨(a.1,a.2.1,a.2.2.1,a.2.2.2.1),⟨h1.1,h1.2.1,h1.2.2.1,h1.2.2.2.1⟩,by simpa using h2,by simpa using h3⟩)
    (fun _ => by kernel_rfl)
theorem TY : gM Tryz.prog 36 (fun p : Int × Int × Int × Int × List Int => p.2.2.2.2.length ≤ maxLen) (fun p => [AV.i p.1,AV.i p.2.1,AV.i p.2.2.1,AV.i p.2.2.2.1,.rowE (ints p.2.2.2.2) 1]) :=
  gM.struct (fs := [(3, 0), (3, 1), (3, 2), (3, 3), (34, 4)]) (by kernel_rfl) (by kernel_rfl)
    (fun e W fuel css hl hx => by
      obtain ⟨a,h1,h2,h3⟩ := gV.cons qH (gV.cons qH (gV.cons qH (gV.cons qH (gV.cons OO gV.nil)))) e W fuel css hl hx
      exact ⟨(a.1,a.2.1,a.2.2.1,a.2.2.2.1,a.2.2.2.2.1),h1.2.2.2.2.1.1,by simpa using h2,by simpa using h3⟩)
    (fun _ => by kernel_rfl)
theorem OM : gM Tryz.prog 48 (fun l : List (Int × Int × Int × Int × List Int) => l.length ≤ maxLen ∧ ∀ p,p ∈ l → p.2.2.2.2.length ≤ maxLen) (fun l => [.rowE (l.map fun p => [AV.i p.1,AV.i p.2.1,AV.i p.2.2.1,AV.i p.2.2.2.1,.rowE (ints p.2.2.2.2) 1]) 5]) :=
  gM.slice Tryz.underlying48 (by kernel_rfl) (by kernel_rfl) (by decide) TY
abbrev zH3 (p : Int × Int × Int × Int × List Int) : Ev := ⟨p.1,p.2.1,p.2.2.1,p.2.2.2.1,p.2.2.2.2⟩
theorem YR (l : List (Int × Int × Int × Int × List Int)) : (l.map fun p => [AV.i p.1,AV.i p.2.1,AV.i p.2.2.1,AV.i p.2.2.2.1,.rowE (ints p.2.2.2.2) 1]) = I2 (l.map zH3) := by
  unfold I2;rw [sW];rfl
theorem VJ {l : List (Int × Int × Int × Int × List Int)} (h : ∀ p,p ∈ l → p.2.2.2.2.length ≤ maxLen) : ∀ s,s ∈ l.map zH3 → s.ids.length ≤ 9223372036854775807 := by
  intro s hs;obtain ⟨p,hp,rfl⟩ := bM.1 hs;exact bW (h p hp) (by decide)
abbrev zL3 (x : List KD × List LT × List Int × List BX) (c : Int × Int × Int × Int) : Cx := ⟨c.1,c.2.1,c.2.2.1,c.2.2.2,x.1,x.2.1,x.2.2.2⟩
theorem zL {P : Program} {W : World} {name : String} {d : DataW Unit} : ∀ {l : List (String × DataW Unit)} {ps : List MemPlace},DataW.LaidVars P W l ps → (name,d) ∈ l →
    ∃ g t cs fuel p,P.globalNamed name = some g ∧ (P.globals[g]?).map (·.type) = some t ∧ W.var? P name = some cs ∧ DataW.trod (fun _ => ()) P W 0 (fun _ => true) false fuel t cs.toList = some (d,p)
  | [],_,_,h => by cases h
  | (n,d') :: r,ps,h,hm => by
    obtain ⟨g,t,cs,fuel,p,q,h1,h2,h3,h4,h5,_⟩ := h;rcases bX.1 hm with e | hm
    · cases e;exact ⟨g,t,cs,fuel,p,h1,h2,h3,h4⟩
    · exact zL h5 hm
def FS : List Int := (List.range 20).map fun i => ((10 ^ i : Nat) : Int)
theorem zC6 : Tryz.prog.globalNamed "internal/strconv.uint64pow10" = some 0 := by kernel_rfl
theorem PT : (Tryz.prog.globals[0]?).map (·.type) = some 206 := by kernel_rfl
theorem zF8 : Tryz.prog.underlying 179 = some (.int .u64) := by kernel_rfl
theorem zH9 : Tryz.prog.underlying 206 = some (.array 20 179) := by kernel_rfl
theorem YZ : Tryz.prog.cellsOf 179 = 1 := by kernel_rfl
theorem ZA : Tryz.prog.cellsOf 206 = 20 := by kernel_rfl
theorem TS : (Rows.laid_internal_strconv_uint64pow10 : DataW Unit) = Lib.tabData .u64 FS := by kernel_rfl
theorem LD {W : World} {l : List (String × DataW Unit)} (hm : ("internal/strconv.uint64pow10", (Rows.laid_internal_strconv_uint64pow10 : DataW Unit)) ∈ l) (h : laidMet Tryz.prog l W) : mU (fun b => b < W.heap.size) W := by
  obtain ⟨ps,hv,_⟩ := h;obtain ⟨g,t,cs,fuel,p,h1,h2,h3,h4⟩ := zL hv hm;obtain rfl := Option.some.inj (zC6.symm.trans h1);obtain rfl := Option.some.inj (PT.symm.trans h2);rw [TS] at h4;have e := Lib.cells_of_tab zH9 zF8 YZ ZA h4;unfold World.var? at h3;rw [zC6] at h3;simp only [Option.bind_some] at h3;intro g cs' hg;have hg' : g = 0 ∧ cs' = (FS.map fun z => Value.int .u64 z).map .v := by
    simp only [zU,dR,Prod.mk.injEq] at hg;refine ⟨hg.1,hg.2.trans ?_⟩;simp [FS,sW,Function.comp_def]
  obtain ⟨rfl,rfl⟩ := hg';split at h3
  · rename_i c ty fz hh;cases h3;refine ⟨(aH.1 hh).1,cs,ty,fz,hh,?_⟩;rw [e];exact EU _
  · cases h3
noncomputable def D0 (os : Os) : World :=
  { World.holding Tryz.prog os ⟨#[], #[], []⟩ with heap := ((((World.holding Tryz.prog os ⟨#[], #[], []⟩).heap.modify 0 fun
      | .cells _ t frozen => .cells #[.int .u64 1,.int .u64 10,.int .u64 100,.int .u64 1000,.int .u64 10000,.int .u64 100000,.int .u64 1000000,.int .u64 10000000,.int .u64 100000000,.int .u64 1000000000,.int .u64 10000000000,.int .u64 100000000000,.int .u64 1000000000000,.int .u64 10000000000000,.int .u64 100000000000000,.int .u64 1000000000000000,.int .u64 10000000000000000,.int .u64 100000000000000000,.int .u64 1000000000000000000,.int .u64 10000000000000000000] t frozen
      | o => o).modify 1 fun
      | .cells _ t frozen => .cells #[.int .u8 0,.int .u8 1,.int .u8 28,.int .u8 2,.int .u8 29,.int .u8 14,.int .u8 24,.int .u8 3,.int .u8 30,.int .u8 22,.int .u8 20,.int .u8 15,.int .u8 25,.int .u8 17,.int .u8 4,.int .u8 8,.int .u8 31,.int .u8 27,.int .u8 13,.int .u8 23,.int .u8 21,.int .u8 19,.int .u8 16,.int .u8 7,.int .u8 26,.int .u8 12,.int .u8 18,.int .u8 6,.int .u8 11,.int .u8 5,.int .u8 10,.int .u8 9] t frozen
      | o => o).modify 2 fun
      | .cells _ t frozen => .cells #[.int .u8 0,.int .u8 1,.int .u8 56,.int .u8 2,.int .u8 57,.int .u8 49,.int .u8 28,.int .u8 3,.int .u8 61,.int .u8 58,.int .u8 42,.int .u8 50,.int .u8 38,.int .u8 29,.int .u8 17,.int .u8 4,.int .u8 62,.int .u8 47,.int .u8 59,.int .u8 36,.int .u8 45,.int .u8 43,.int .u8 51,.int .u8 22,.int .u8 53,.int .u8 39,.int .u8 33,.int .u8 30,.int .u8 24,.int .u8 18,.int .u8 12,.int .u8 5,.int .u8 63,.int .u8 55,.int .u8 48,.int .u8 27,.int .u8 60,.int .u8 41,.int .u8 37,.int .u8 16,.int .u8 46,.int .u8 35,.int .u8 44,.int .u8 21,.int .u8 52,.int .u8 32,.int .u8 23,.int .u8 11,.int .u8 54,.int .u8 26,.int .u8 40,.int .u8 15,.int .u8 34,.int .u8 20,.int .u8 31,.int .u8 10,.int .u8 25,.int .u8 14,.int .u8 19,.int .u8 9,.int .u8 13,.int .u8 8,.int .u8 7,.int .u8 6] t frozen
      | o => o) }
theorem GF (x : List KD × List LT × List Int × List BX) (_ : True) (hx : x.2.2.2.length * 24 ≤ 140737488351232) (c : Int × Int × Int × Int) (_ : B6 c.1 ∧ B6 c.2.1 ∧ B6 c.2.2.1 ∧ B6 c.2.2.2) (l : List (Int × Int × Int × Int × List Int)) (hl : l.length ≤ maxLen ∧ ∀ p,p ∈ l → p.2.2.2.2.length ≤ maxLen) :
    aO Tryz.prog 4 [tH x.1 x.2.1 x.2.2.1 x.2.2.2,oV c.1 c.2.1 c.2.2.1 c.2.2.2,.rowE (l.map fun p => [AV.i p.1,AV.i p.2.1,AV.i p.2.2.1,AV.i p.2.2.2.1,.rowE (ints p.2.2.2.2) 1]) 5] [] (.b true) [] := by
  rw [YR];have hids := VJ hl.2;generalize l.map zH3 = l at *;rcases VF 8 (by omega) x.1 x.2.1 (Go.Ab.nats (List.range x.2.2.2.length)) x.2.2.2 c.1 c.2.1 c.2.2.1 c.2.2.2 with hf | ⟨hf,f,hs,t,_⟩
  · exact U9 _ _ _ _ _ _ _ _ l false (by omega) hf hids (fun h => by cases h)
  · cases h : O3 l 12 with
    | false => exact U9 _ _ _ _ _ _ _ _ l true (by omega) hf hids (fun _ => h)
    | true => exact GD (zL3 x c) ⟨f,hs⟩ _ l hf hids h
end Go.Proofs.YtbialaoigijlgaaGreatDoor
