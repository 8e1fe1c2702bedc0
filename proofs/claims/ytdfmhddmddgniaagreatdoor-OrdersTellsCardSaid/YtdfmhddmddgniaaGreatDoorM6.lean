/-
  Texts of the logic and of the layer,in one module (part 6).
-/
import Derived.Test.YtdfmhddmddgniaaGreatDoorM5
import Derived.Shelf.Small.Strs
import Derived.Shelf.Small.Wraps
set_option linter.unusedVariables false
set_option linter.unusedSimpArgs false
set_option linter.unnecessarySimpa false
namespace Go.Proofs.YtdfmhddmddgniaaGreatDoor
open Go Go.Ab Go.Shelf Go.Proofs Go.Wr
shelf_lay Lays.n137 Nm 137 at Tryz as laysIdx
shelf_lay LaysC.n172 Nm 172 at Tryz as laysAtoi
theorem B8 {P : Program} {f : FuncId} {xs : List AV} {res : AV} (hfn : ∃ fn, P.funcs[f]? = some fn ∧ (fn.name == "runtime.NumGoroutine") = false ∧ fn.body.isNone = false)
    (hs : ∀ (ρ : Pl) S w vs,mX S w → RL S w xs ρ vs → Calls P f vs.toArray w fun e w' => ∃ y,e = .returned y ∧ RowKit.Below w.heap.size w w' ∧ ∀ S' ρ',R S' w' res ρ' y) : bI P f xs [] res [] := by
  refine ⟨hfn,fun ρ S w vs s ha => (hs ρ S w vs s.glob ha).mono fun e w' ⟨y,he,hb,hR⟩ => ?_⟩
  exact ⟨y,ρ,S,he,s.kept (PO hb),hR S ρ⟩
theorem ZM (l : List UInt8) (e : UInt8) : bI Tryz.prog 145 [.s l,.v (.int .u8 e.toNat)] [] (.i (Lib.indexByte l e)) [] :=
  B8 ⟨_,Tryz.func145,by kernel_rfl,by kernel_rfl⟩ fun ρ S w vs _ ha => by
    simp only [RL,R] at ha;obtain ⟨y,ys,rfl,rfl,z,zs,rfl,rfl,rfl⟩ := ha;refine (Any.strings_IndexByte laysIdx ⟨l.toArray⟩ (e.toNat : Int) w).mono fun e' w' ⟨h1,h2⟩ => ⟨_,h1,by rw [h2];exact RowKit.Below.refl _ _,fun S' ρ' => ?_⟩
    simp [R]
theorem NL {l : List UInt8} {n : Int} (h : Lib.atoiAll l = .ok n) (hl : l.length ≤ 1000000) : bI Tryz.prog 147 [.s l] [] (.tup [.i n,.v .nilIface]) [] :=
  B8 ⟨_,Tryz.func147,by kernel_rfl,by kernel_rfl⟩ fun ρ S w vs _ ha => by
    simp only [RL,R] at ha;obtain ⟨y,ys,rfl,rfl,rfl⟩ := ha;refine (Any.strconv_Atoi_ok laysAtoi ⟨l.toArray⟩ (by show l.toArray.size ≤ _;simp;omega) n (by simpa using h) w).mono fun e' w' ⟨h1,h2⟩ => ⟨_,h1,?_,fun S' ρ' => ?_⟩
    · rcases h2 with rfl | ⟨t,rfl⟩
      · exact RowKit.Below.refl _ _
      · exact Lib.bytesWorld_below _ _ _
    · simp only [R,RL];exact ⟨_,rfl,_,_,rfl,rfl,_,_,rfl,rfl,rfl⟩
theorem UB {S : Nat → Prop} {w : World} {name : String} {gi : Nat} (hg : Tryz.prog.globalNamed name = some gi) (hm : (gi,[AV.ifc 329 .any]) ∈ uE) (h : mX S w) : ∃ p,w.var? Tryz.prog name = some #[.iface 329 p] := by
  obtain ⟨_,ys,t,fz,g1,g2⟩ := h gi _ hm;simp only [RL,R] at g2;obtain ⟨y,zs,g3,⟨z,rfl,_⟩,rfl⟩ := g2;refine ⟨z,?_⟩;have e : ys = #[.iface 329 z] := Array.toList_inj.1 g3;unfold World.var?;rw [hg];simp only [Option.bind_some,g1];rw [e]
theorem IM {l : List UInt8} (h : ∀ n,Lib.atoiAll l ≠ .ok n) (hl : l.length ≤ 1000000) : bI Tryz.prog 147 [.s l] [] (.tup [.any,.ifc 294 .any]) [] :=
  B8 ⟨_,Tryz.func147,by kernel_rfl,by kernel_rfl⟩ fun ρ S w vs hg ha => by
    simp only [RL,R] at ha;obtain ⟨y,ys,rfl,rfl,rfl⟩ := ha;obtain ⟨p1, hv1⟩ := UB (name := "strconv.ErrSyntax") (gi := 2) (by kernel_rfl) (by unfold uE; simp) hg
    obtain ⟨p2, hv2⟩ := UB (name := "strconv.ErrRange") (gi := 3) (by kernel_rfl) (by unfold uE; simp) hg
    have hsz : (⟨l.toArray⟩ : ByteArray).size ≤ 281474976710656 := by show l.toArray.size ≤ _;simp;omega
    rcases ha : Lib.atoiAll l with n | _ | _
    · exact absurd ha (h n)
    · skip;refine (Any.strconv_Atoi_syntax_var laysAtoi ⟨l.toArray⟩ hsz (by simpa using ha) _ p1 w hv1).mono fun e' w' ⟨N,h1,_,_,h2⟩ => ⟨_,h1,h2,fun S' ρ' => ?_⟩
      simp only [R,RL];exact ⟨_,rfl,_,_,rfl,trivial,_,_,rfl,⟨_,rfl,trivial⟩,rfl⟩
    · skip;refine (Any.strconv_Atoi_range_var laysAtoi ⟨l.toArray⟩ hsz (by simpa using ha) _ p2 w hv2).mono fun e' w' ⟨N,h1,_,_,h2⟩ => ⟨_,h1,h2,fun S' ρ' => ?_⟩
      simp only [R,RL];exact ⟨_,rfl,_,_,rfl,trivial,_,_,rfl,⟨_,rfl,trivial⟩,rfl⟩
theorem zC0 (u : TypeId) (v : Value) (W : World) : (binOp .neq 110 (.iface u v) .nilIface).run Tryz.prog W = .ok (.bool true) W := by kernel_rfl
theorem zB9 (W : World) : (binOp .neq 110 .nilIface .nilIface).run Tryz.prog W = .ok (.bool false) W := by kernel_rfl
section
variable {env : dD} {h : Hp} {d : Option Nat} {ty : TypeId} {pos : String} {af : Array Edge} {g : Option (Nat × Bool)}
theorem CH {t2 u : TypeId} {x y : Operand} {z : AV} (hx : evu env x = some (.ifc u z)) (hy : evu env y = some (.v .nilIface)) : bJ Tryz.prog ⟨d,.binOp .neq 110 x y t2,ty,pos,af,g⟩ env h 0 (fun _ => .b true) (fun _ => []) := by
  refine fL fun ρ S a w p => ⟨.bool true,?_,by simp [R]⟩
  have h1 := p.evu hx;simp only [R] at h1;obtain ⟨z',h1,_⟩ := h1;have h2 := pZ (p.evu hy);have hq : eqGuard .neq 110 x y (.iface u z') .nilIface = pure () := by rfl
  simp [execOp,h1,h2,hq,zC0]
theorem B2 {t2 : TypeId} {x : Operand} (hx : evu env x = some (.v .nilIface)) : bJ Tryz.prog ⟨d,.binOp .neq 110 x (.const .nilIface) t2,ty,pos,af,g⟩ env h 0 (fun _ => .b false) (fun _ => []) := by
  refine fL fun ρ S a w p => ⟨.bool false,?_,by simp [R]⟩
  have h1 := pZ (p.evu hx);have hq : eqGuard .neq 110 x (.const .nilIface) .nilIface .nilIface = pure () := by cases x <;> rfl
  have h2 : a.eval (.const .nilIface) = .nilIface := rfl;simp [execOp,h1,h2,hq,zB9]
theorem gG {P : Program} {t : TypeId} {x : Operand} {a b : List UInt8} {lo hi : Option Operand} {l r : Int} (ht : Y5 P t) (hx : evu env x = some (.s a)) (hlo : EZ env lo 0 = some l) (hhi : EZ env hi a.length = some r) (h0 : 0 ≤ l) (h1 : l ≤ r) (h2 : r ≤ a.length) (e : (a.take r.toNat).drop l.toNat = b) : bJ P ⟨d,.slice t x lo hi none,ty,pos,af,g⟩ env h 0 (fun _ => .s b) (fun _ => []) := by
  subst e;exact PF ht hx hlo hhi h0 h1 h2
theorem HQ {P : Program} {t t2 : TypeId} {x y : Operand} {a b : List UInt8} (hx : evu env x = some (.s a)) (hy : evu env y = some (.s b)) (e : a = b) : bJ P ⟨d,.binOp .eql t x y t2,ty,pos,af,g⟩ env h 0 (fun _ => .b true) (fun _ => []) := by
  have := F7 (P := P) (d := d) (ty := ty) (pos := pos) (af := af) (g := g) (h := h) (t := t) (t2 := t2) hx hy;simpa [e] using this
theorem HR {P : Program} {t t2 : TypeId} {x y : Operand} {a b : List UInt8} (hx : evu env x = some (.s a)) (hy : evu env y = some (.s b)) (e : a ≠ b) : bJ P ⟨d,.binOp .eql t x y t2,ty,pos,af,g⟩ env h 0 (fun _ => .b false) (fun _ => []) := by
  have := F7 (P := P) (d := d) (ty := ty) (pos := pos) (af := af) (g := g) (h := h) (t := t) (t2 := t2) hx hy;simpa [e] using this
theorem HM {P : Program} {t t2 : TypeId} {x y : Operand} {a b : List UInt8} (hx : evu env x = some (.s a)) (hy : evu env y = some (.s b)) (e : a ≠ b) : bJ P ⟨d,.binOp .neq t x y t2,ty,pos,af,g⟩ env h 0 (fun _ => .b true) (fun _ => []) := by
  have := MY (P := P) (d := d) (ty := ty) (pos := pos) (af := af) (g := g) (h := h) (t := t) (t2 := t2) hx hy;simpa [e] using this
theorem yE {P : Program} {t t2 : TypeId} {x y : Operand} {a b : List UInt8} (hx : evu env x = some (.s a)) (hy : evu env y = some (.s b)) (e : a = b) : bJ P ⟨d,.binOp .neq t x y t2,ty,pos,af,g⟩ env h 0 (fun _ => .b false) (fun _ => []) := by
  have := MY (P := P) (d := d) (ty := ty) (pos := pos) (af := af) (g := g) (h := h) (t := t) (t2 := t2) hx hy;simpa [e] using this
end
attribute [local irreducible] VC AW bJ bI
set_option maxHeartbeats 4000000
theorem zB2 (l : List UInt8) : bI Tryz.prog 67 [.s l] [] (.ptr 0 0) (A7 (some l)) := by
  refine dA T Tryz.func67 rfl rfl rfl rfl ?_
  (repeat' (first|refine wS ?_|refine wR ?_|(refine rg 0 (aV ?_))|(refine rg 1 (mW rfl (vV (by exact gS T rfl rfl rfl rfl) ?_));refine dQ (fE rfl rfl) rfl (aV ?_))|refine nZ ?_));all_goals exact ⟨.inl rfl,[0],_,rfl,rfl,rfl,⟨.inr rfl,trivial⟩,by decide,VU⟩
theorem zD7 (r : List UInt8) (b : Bool) : bI Tryz.prog 146 [.ptr 0 0] [.cells [.s r,.b b]] (.tup []) [.cells [.s [],.b true]] := by
  refine dA T Tryz.func146 rfl rfl rfl rfl ?_
  (repeat' (first|(refine rg 0 (dS rfl (nV ?_));refine fW T rfl (bA T rfl rfl rfl rfl rfl rfl (by decide) rfl (nV ?_));refine fW T rfl (bA T rfl rfl rfl rfl rfl rfl (by decide) rfl ?_))|refine nZ ?_));all_goals exact ⟨.inr rfl,[0],_,rfl,rfl,rfl,⟨.inr rfl,trivial⟩,by decide,oO⟩
theorem BT (r : List UInt8) (b : Bool) (e : UInt8) (lo : Int) (hl : r.length ≤ 1000000000) (h : oN r e lo = none) :
    bI Tryz.prog 108 [.ptr 0 0,.v (.int .u8 e.toNat),.i lo] [.cells [.s r,.b b]] (.i 0) [.cells [.s [],.b true]] := by
  have hf := zD7 r b;have hi := ZM (r.take 21) e;have e1 : ((r.take (min (r.length : Int) 21).toNat).drop (0 : Int).toNat) = r.take 21 := by
    rw [rB,cP];by_cases h21 : r.length ≤ 21
    · rw [aQ (by omega),aQ h21]
    · rw [show (min (r.length : Int) 21).toNat = 21 by omega]
  refine dA T Tryz.func108 rfl rfl rfl rfl ?_;unfold oN at h;by_cases h0 : Lib.indexByte (r.take 21) e < 0
  · (repeat' (first|refine wS ?_|refine wR ?_|(refine wC rfl (fun hb => ?_) (fun hb => ?_) <;> (((try simp only [nm] at hb);try (exfalso;omega))))|(refine rg 0 (aV ?_))|(refine cS (id := 1) 64 zS4 (rM 11 11) zS5 dZ rfl (by decide +kernel) (dN rfl (dV rfl (by exact cO rfl rfl) ?_));refine dP T rfl (dO T rfl (dN rfl (dV rfl (by exact cO rfl rfl) ?_)));refine dP T rfl (dO T rfl (dV rfl (fF eK rfl) (dV rfl (rF rfl rfl) (dV rfl (by exact gG eK rfl rfl rfl (by decide) (by omega) (by omega) e1) ?_))));refine dE ?_;refine aV ?_)|(refine rg 2 (dS rfl (vV (kC (hi)) (aV ?_))))|(refine rg 3 (mW rfl (vV (bE rfl rfl) ?_)))|(refine rg 4 (mW rfl (bR [0] rfl rfl hf rfl rfl (by decide) ⟨.inr rfl,trivial⟩ (by simp) rfl ?_)))|(refine rg 5 (aV ?_))|(refine nZ ?_)));all_goals first | (exfalso;omega) | exact ⟨.inl rfl,[0],_,rfl,rfl,rfl,⟨.inr rfl,trivial⟩,by decide,oO⟩
  · rw [if_neg h0] at h;obtain ⟨k1,k2⟩ := F5 (AI.1 h0);have e2 : (((r.take 21).take (Lib.indexByte (r.take 21) e).toNat).drop (0 : Int).toNat) = r.take (Lib.indexByte (r.take 21) e).toNat := by
      rw [rB,cP,IX,tQ (by omega)]
    have hk : (Lib.indexByte (r.take 21) e).toNat ≤ (r.take 21).length := by rw [bT];omega
    have hsl : (r.take (Lib.indexByte (r.take 21) e).toNat).length ≤ 1000000 := by rw [bT];omega
    generalize Lib.indexByte (r.take 21) e = at_ at *;generalize r.take at_.toNat = s at *;rcases ha : Lib.atoiAll s with n | _ | _
    · skip;rw [ha] at h;have hA := NL ha hsl;have hb := Lib.atoiAll_bounds ha;have hI := KS (n := n) ⟨hb.1,hb.2⟩;by_cases hc : Lib.itoa n = s
      · have hlo : n < lo := by
          by_cases hh : n < lo
          · exact hh
          · dsimp only at h;rw [if_pos ⟨hc,by omega⟩] at h;cases h
        (repeat' (first|refine wS ?_|refine wK ?_|refine wR ?_|(refine wC rfl ?_ ?_<;>(intro hb;(try simp only [nm] at hb);try (exfalso;omega)))|(refine rg 0 (aV ?_))|(refine cS (id := 1) 64 zS4 (rM 11 11) zS5 dZ rfl (by decide +kernel) (dN rfl (dV rfl (by exact cO rfl rfl) ?_));refine dP T rfl (dO T rfl (dN rfl (dV rfl (by exact cO rfl rfl) ?_)));refine dP T rfl (dO T rfl (dV rfl (fF eK rfl) (dV rfl (rF rfl rfl) (dV rfl (by exact gG eK rfl rfl rfl (by decide) (by omega) (by omega) e1) ?_))));refine dE ?_;refine aV ?_)|(refine rg 2 (dS rfl (vV (kC (hi)) (aV ?_))))|(refine rg 3 (mW rfl (vV (bE rfl rfl) ?_)))|(refine rg 6 (dS rfl (vV (by exact gG eK rfl rfl rfl (by decide) (by omega) (by omega) e2) ?_));refine vV (kC (hA)) (mW rfl (xW rfl (xW rfl (kJ ?_)))))|(refine cS (id := 7) 64 zS6 (rM 36 15) zS7 dZ rfl (by decide +kernel) (dN rfl (dV rfl (B2 rfl) (dN rfl (tN rfl (dT rfl (kC (hI)) (tN rfl (tN rfl (dT rfl (by exact gG eK rfl rfl rfl (by decide) (by omega) (by omega) e2) ?_))))))));refine dT rfl (yE rfl rfl hc) (dV rfl (fS rfl rfl) (dN rfl (tN rfl (tN rfl (dT rfl (bE rfl rfl) (dV rfl (fS rfl rfl) (dE ?_))))))))|(refine rg 8 (mW rfl (bR [0] rfl rfl hf rfl rfl (by decide) ⟨.inr rfl,trivial⟩ (by simp) rfl ?_)))|(refine rg 9 (aV ?_))|refine nZ ?_));all_goals first | (exfalso;omega) | exact ⟨.inl rfl,[0],_,rfl,rfl,rfl,⟨.inr rfl,trivial⟩,by decide,oO⟩
      · (repeat' (first|refine wS ?_|refine wK ?_|refine wR ?_|refine tE rfl ?_|(refine wC rfl (fun hb => ?_) (fun hb => ?_) <;> (((try simp only [nm] at hb);try (exfalso;omega))))|(refine rg 0 (aV ?_))|(refine cS (id := 1) 64 zS4 (rM 11 11) zS5 dZ rfl (by decide +kernel) (dN rfl (dV rfl (by exact cO rfl rfl) ?_));refine dP T rfl (dO T rfl (dN rfl (dV rfl (by exact cO rfl rfl) ?_)));refine dP T rfl (dO T rfl (dV rfl (fF eK rfl) (dV rfl (rF rfl rfl) (dV rfl (by exact gG eK rfl rfl rfl (by decide) (by omega) (by omega) e1) ?_))));refine dE ?_;refine aV ?_)|(refine rg 2 (dS rfl (vV (kC (hi)) (aV ?_))))|(refine rg 3 (mW rfl (vV (bE rfl rfl) ?_)))|(refine rg 6 (dS rfl (vV (by exact gG eK rfl rfl rfl (by decide) (by omega) (by omega) e2) ?_));refine vV (kC (hA)) (mW rfl (xW rfl (xW rfl (kJ ?_)))))|(refine cS (id := 7) 64 zS6 (rM 36 15) zS7 dZ rfl (by decide +kernel) (dN rfl (dV rfl (B2 rfl) (dN rfl (tN rfl (dT rfl (kC (hI)) (tN rfl (tN rfl (dT rfl (by exact gG eK rfl rfl rfl (by decide) (by omega) (by omega) e2) ?_))))))));refine dT rfl (HM rfl rfl hc) (dV rfl (fS rfl rfl) (dN rfl (tG rfl (tG rfl (tG rfl (dV rfl (kM rfl rfl) (dE ?_))))))))|(refine rg 8 (mW rfl (bR [0] rfl rfl hf rfl rfl (by decide) ⟨.inr rfl,trivial⟩ (by simp) rfl ?_)))|(refine rg 9 (aV ?_))|(refine nZ ?_)));all_goals first | (exfalso;omega) | exact ⟨.inl rfl,[0],_,rfl,rfl,rfl,⟨.inr rfl,trivial⟩,by decide,oO⟩
    · skip;have hA := IM (l := s) (fun n => by rw [ha];exact fun h => by cases h) hsl
      (repeat' (first|refine wS ?_|refine wK ?_|refine wR ?_|refine wT ?_|(refine wC rfl ?_ ?_<;>(intro hb;(try simp only [nm] at hb);try (exfalso;omega)))|(refine rg 0 (aV ?_))|(refine cS (id := 1) 64 zS4 (rM 11 11) zS5 dZ rfl (by decide +kernel) (dN rfl (dV rfl (by exact cO rfl rfl) ?_));refine dP T rfl (dO T rfl (dN rfl (dV rfl (by exact cO rfl rfl) ?_)));refine dP T rfl (dO T rfl (dV rfl (fF eK rfl) (dV rfl (rF rfl rfl) (dV rfl (by exact gG eK rfl rfl rfl (by decide) (by omega) (by omega) e1) ?_))));refine dE ?_;refine aV ?_)|(refine rg 2 (dS rfl (vV (kC (hi)) (aV ?_))))|(refine rg 3 (mW rfl (vV (bE rfl rfl) ?_)))|(refine rg 6 (dS rfl (vV (by exact gG eK rfl rfl rfl (by decide) (by omega) (by omega) e2) ?_));refine vV (kC (hA)) (mW rfl (xW rfl (xW rfl (kJ ?_)))))|(refine cS (id := 7) 64 zS6 (rM 36 15) zS7 dZ rfl (by decide +kernel) (dN rfl (dV rfl (CH rfl rfl) (dN rfl (tG rfl (tG rfl (tG rfl (tG rfl (tG rfl (dG ?_)))))))));refine dV rfl (kM rfl rfl) (dN rfl (tG rfl (tG rfl (tG rfl (dV rfl (kM rfl rfl) (dE ?_)))))))|(refine rg 8 (mW rfl (bR [0] rfl rfl hf rfl rfl (by decide) ⟨.inr rfl,trivial⟩ (by simp) rfl ?_)))|(refine rg 9 (aV ?_))|refine nZ ?_));all_goals first | (exfalso;omega) | exact ⟨.inl rfl,[0],_,rfl,rfl,rfl,⟨.inr rfl,trivial⟩,by decide,oO⟩
    · skip;have hA := IM (l := s) (fun n => by rw [ha];exact fun h => by cases h) hsl
      (repeat' (first|refine wS ?_|refine wK ?_|refine wR ?_|refine wT ?_|(refine wC rfl ?_ ?_<;>(intro hb;(try simp only [nm] at hb);try (exfalso;omega)))|(refine rg 0 (aV ?_))|(refine cS (id := 1) 64 zS4 (rM 11 11) zS5 dZ rfl (by decide +kernel) (dN rfl (dV rfl (by exact cO rfl rfl) ?_));refine dP T rfl (dO T rfl (dN rfl (dV rfl (by exact cO rfl rfl) ?_)));refine dP T rfl (dO T rfl (dV rfl (fF eK rfl) (dV rfl (rF rfl rfl) (dV rfl (by exact gG eK rfl rfl rfl (by decide) (by omega) (by omega) e1) ?_))));refine dE ?_;refine aV ?_)|(refine rg 2 (dS rfl (vV (kC (hi)) (aV ?_))))|(refine rg 3 (mW rfl (vV (bE rfl rfl) ?_)))|(refine rg 6 (dS rfl (vV (by exact gG eK rfl rfl rfl (by decide) (by omega) (by omega) e2) ?_));refine vV (kC (hA)) (mW rfl (xW rfl (xW rfl (kJ ?_)))))|(refine cS (id := 7) 64 zS6 (rM 36 15) zS7 dZ rfl (by decide +kernel) (dN rfl (dV rfl (CH rfl rfl) (dN rfl (tG rfl (tG rfl (tG rfl (tG rfl (tG rfl (dG ?_)))))))));refine dV rfl (kM rfl rfl) (dN rfl (tG rfl (tG rfl (tG rfl (dV rfl (kM rfl rfl) (dE ?_)))))))|(refine rg 8 (mW rfl (bR [0] rfl rfl hf rfl rfl (by decide) ⟨.inr rfl,trivial⟩ (by simp) rfl ?_)))|(refine rg 9 (aV ?_))|refine nZ ?_));all_goals first | (exfalso;omega) | exact ⟨.inl rfl,[0],_,rfl,rfl,rfl,⟨.inr rfl,trivial⟩,by decide,oO⟩
theorem OW (r r' : List UInt8) (b : Bool) (e : UInt8) (lo n : Int) (hl : r.length ≤ 1000000000) (h : oN r e lo = some (n,r')) :
    bI Tryz.prog 108 [.ptr 0 0,.v (.int .u8 e.toNat),.i lo] [.cells [.s r,.b b]] (.i n) [.cells [.s r',.b b]] := by
  have hi := ZM (r.take 21) e;have e1 : ((r.take (min (r.length : Int) 21).toNat).drop (0 : Int).toNat) = r.take 21 := by
    rw [rB,cP];by_cases h21 : r.length ≤ 21
    · rw [aQ (by omega),aQ h21]
    · rw [show (min (r.length : Int) 21).toNat = 21 by omega]
  unfold oN at h;by_cases h0 : Lib.indexByte (r.take 21) e < 0
  · rw [if_pos h0] at h;cases h
  rw [if_neg h0] at h;obtain ⟨k1,k2⟩ := F5 (AI.1 h0);have e2 : (((r.take 21).take (Lib.indexByte (r.take 21) e).toNat).drop (0 : Int).toNat) = r.take (Lib.indexByte (r.take 21) e).toNat := by
    rw [rB,cP,IX,tQ (by omega)]
  have e3 : (r.take ((r.length : Int)).toNat).drop (Lib.indexByte (r.take 21) e + 1).toNat = r.drop ((Lib.indexByte (r.take 21) e).toNat + 1) := by
    rw [bN,dJ,show (Lib.indexByte (r.take 21) e + 1).toNat = (Lib.indexByte (r.take 21) e).toNat + 1 by omega]
  have hk : (Lib.indexByte (r.take 21) e).toNat ≤ (r.take 21).length := by rw [bT];omega
  have hsl : (r.take (Lib.indexByte (r.take 21) e).toNat).length ≤ 1000000 := by rw [bT];omega
  generalize Lib.indexByte (r.take 21) e = at_ at *;generalize r.take at_.toNat = s at *;rcases ha : Lib.atoiAll s with n' | _ | _
  · skip;rw [ha] at h;dsimp only at h;split at h
    · rename_i hc;simp only [Option.some.injEq,Prod.mk.injEq] at h;obtain ⟨rfl,rfl⟩ := h;have hA := NL ha hsl;have hb := Lib.atoiAll_bounds ha;have hI := KS (n := n') ⟨hb.1,hb.2⟩;obtain ⟨hc,hlo⟩ := hc;generalize r.drop (at_.toNat + 1) = r' at *;refine dA T Tryz.func108 rfl rfl rfl rfl ?_
      (repeat' (first|refine wS ?_|refine wK ?_|refine wR ?_|(refine wC rfl ?_ ?_<;>(intro hb;(try simp only [nm] at hb);try (exfalso;omega)))|(refine rg 0 (aV ?_))|(refine cS (id := 1) 64 zS4 (rM 11 11) zS5 dZ rfl (by decide +kernel) (dN rfl (dV rfl (by exact cO rfl rfl) ?_));refine dP T rfl (dO T rfl (dN rfl (dV rfl (by exact cO rfl rfl) ?_)));refine dP T rfl (dO T rfl (dV rfl (fF eK rfl) (dV rfl (rF rfl rfl) (dV rfl (by exact gG eK rfl rfl rfl (by decide) (by omega) (by omega) e1) ?_))));refine dE ?_;refine aV ?_)|(refine rg 2 (dS rfl (vV (kC (hi)) (aV ?_))))|(refine rg 3 (mW rfl (vV (bE rfl rfl) ?_)))|(refine rg 6 (dS rfl (vV (by exact gG eK rfl rfl rfl (by decide) (by omega) (by omega) e2) ?_));refine vV (kC (hA)) (mW rfl (xW rfl (xW rfl (kJ ?_)))))|(refine cS (id := 7) 64 zS6 (rM 36 15) zS7 dZ rfl (by decide +kernel) (dN rfl (dV rfl (B2 rfl) (dN rfl (tN rfl (dT rfl (kC (hI)) (tN rfl (tN rfl (dT rfl (by exact gG eK rfl rfl rfl (by decide) (by omega) (by omega) e2) ?_))))))));refine dT rfl (yE rfl rfl hc) (dV rfl (fS rfl rfl) (dN rfl (tN rfl (tN rfl (dT rfl (bE rfl rfl) (dV rfl (fS rfl rfl) (dE ?_))))))))|(refine rg 10 (dS rfl (nV ?_));refine eT T rfl (mW rfl (vV (eD rfl rfl (by omega) (by omega)) (vV (by exact gG eK rfl rfl rfl (by omega) (by omega) (by omega) e3) ?_)));refine nV ?_;refine fW T rfl (bA T rfl rfl rfl rfl rfl rfl (by decide) rfl ?_))|(refine rg 11 (mW rfl (aV ?_)))|refine nZ ?_));all_goals first | (exfalso;omega) | exact ⟨.inl rfl,[0],_,rfl,rfl,rfl,⟨.inr rfl,trivial⟩,by decide,oO⟩
    · cases h
  · rw [ha] at h;cases h
  · rw [ha] at h;cases h
theorem GR (s : St) (e : UInt8) (lo : Int) (hl : (s.getD []).length ≤ 1000000000) :
    bI Tryz.prog 108 [.ptr 0 0,.v (.int .u8 e.toNat),.i lo] (A7 s) (.i (fI s e lo).1) (A7 (fI s e lo).2) := by
  cases s with
  | none => rw [vK];exact BT [] true e lo hl (T8 e lo)
  | some r =>
    cases hp : oN r e lo with
    | none => rw [sE hp];exact BT r false e lo hl hp
    | some p => rw [qM hp];exact OW r p.2 false e lo p.1 hl hp
theorem GY (s : St) (hl : (s.getD []).length ≤ 1000000000) : bI Tryz.prog 109 [.ptr 0 0] (A7 s) (.i (cE s).1) (A7 (cE s).2) := by
  have hc := GR s 59 (-9223372036854775808) hl;refine dA T Tryz.func109 rfl rfl rfl rfl ?_
  (repeat' (first|refine wS ?_|refine wR ?_|(refine rg 0 (aV ?_))|(refine rg 1 (mW rfl (bR [0] rfl rfl hc rfl rfl (by decide) ⟨.inr rfl,trivial⟩ (by simp) rfl ?_));refine aV ?_)|refine nZ ?_));all_goals exact ⟨.inl rfl,[0],_,rfl,rfl,rfl,⟨.inr rfl,trivial⟩,by decide,oO⟩
theorem zE3 (s : St) : bI Tryz.prog 71 [.ptr 0 0] (A7 s) (.b (decide (s = some []))) (A7 s) := by
  refine dA T Tryz.func71 rfl rfl rfl rfl ?_
  match s with
  | none =>
    (repeat' (first|refine wS ?_|refine wR ?_|(refine rg 0 (aV ?_))|(refine rg 1 (mW rfl (nV ?_));refine eT T rfl (vV (cV rfl) (mV ?_));(iterate 5 refine gF ?_);refine pW rfl (aV ?_))|refine nZ ?_));all_goals exact ⟨.inl rfl,[0],_,rfl,rfl,rfl,⟨.inr rfl,trivial⟩,by decide,oO⟩
  | some r =>
    rw [show decide ((some r : St) = some []) = decide (r = []) from by simp]
    (repeat' (first|refine wS ?_|refine wR ?_|(refine rg 0 (aV ?_))|(refine rg 1 (mW rfl (nV ?_));refine eT T rfl (vV (cV rfl) (mW rfl (yN rfl (gT (nV ?_)))));refine yP T rfl (yO T rfl (yV (F7 (a := r) (b := []) rfl rfl) (pW rfl (aV ?_)))))|refine nZ ?_));all_goals exact ⟨.inl rfl,[0],_,rfl,rfl,rfl,⟨.inr rfl,trivial⟩,by decide,oO⟩
theorem TH (r : List UInt8) : (cE (some r)).2 = none ∨ ∃ r',(cE (some r)).2 = some r' ∧ r'.length + 2 ≤ r.length := by
  cases h : (cE (some r)).2 with
  | none => exact .inl rfl
  | some r' =>
    obtain ⟨r0,e,_,h3⟩ := xY h;cases e;exact .inr ⟨r',rfl,h3⟩
theorem KL {s : St} {e : UInt8} {lo : Int} : (fI s e lo).2 = none ∨ ((fI s e lo).2.getD []).length + 2 ≤ (s.getD []).length := by
  cases h : (fI s e lo).2 with
  | none => exact .inl rfl
  | some r =>
    obtain ⟨r0,rfl,_,h3⟩ := xY h;exact .inr h3
theorem zF (s : St) (e : UInt8) : 0 ≤ (fI s e 0).1 := by
  unfold fI;split
  · rename_i n r h;have := (pI h).2.1;split <;> simp <;> omega
  · simp
theorem SL (s : St) (hl : (s.getD []).length ≤ 1000000000) : bI Tryz.prog 68 [.ptr 0 0] (A7 s) (.i (fI s 59 0).1) (A7 (fI s 59 0).2) := by
  have hc := GR s 59 0 hl;refine dA T Tryz.func68 rfl rfl rfl rfl ?_
  (repeat' (first|refine wS ?_|refine wR ?_|(refine rg 0 (aV ?_))|(refine rg 1 (mW rfl (bR [0] rfl rfl hc rfl rfl (by decide) ⟨.inr rfl,trivial⟩ (by simp) rfl ?_));refine aV ?_)|refine nZ ?_));all_goals exact ⟨.inl rfl,[0],_,rfl,rfl,rfl,⟨.inr rfl,trivial⟩,by decide,oO⟩
theorem KQ (s : St) : bI Tryz.prog 69 [.ptr 0 0] (A7 s) (.i (s.getD []).length) (A7 s) := by
  refine dA T Tryz.func69 rfl rfl rfl rfl ?_
  (repeat' (first|refine wS ?_|refine wR ?_|(refine rg 0 (aV ?_))|(refine rg 1 (mW rfl (nV ?_));refine eT T rfl (vV (fF eK rfl) (aV ?_)))|refine nZ ?_));all_goals exact ⟨.inl rfl,[0],_,rfl,rfl,rfl,⟨.inr rfl,trivial⟩,by decide,oO⟩
theorem pR {n : Int} (h : qH n) (r : List UInt8) : cE (some (dU n ++ r)) = (n,some r) := by
  unfold cE dU;rw [aY,xE];exact qM (E5 h h.1 (by decide))
theorem vJ {n : Int} (h : qH n) (h0 : 0 ≤ n) (r : List UInt8) : fI (some (dU n ++ r)) 59 0 = (n,some r) := by
  unfold dU;rw [aY,xE];exact qM (E5 h h0 (by decide))
end Go.Proofs.YtdfmhddmddgniaaGreatDoor
namespace Go.Or
open Go Go.Ab Go.Wr Go.Proofs.YtdfmhddmddgniaaGreatDoor
def EX (w : Wt) : List UInt8 := dU w.1 ++ dU w.2.1 ++ dU w.2.2
def nC (l : List Wt) : List UInt8 := (l.map EX).flatten
def FH (t : Tk) : List UInt8 := dU t.1 ++ dU t.2
def oW (l : List Tk) : List UInt8 := (l.map FH).flatten
def CC (l : List Tk) : List UInt8 := dU l.length ++ oW l
def gW (tk : List (List Tk)) : List UInt8 := (tk.map CC).flatten
def KT (o : Od) : List UInt8 := dU o.ws.length ++ nC o.ws
def zD (o : Od) : List UInt8 := KT o ++ (dU o.due ++ dU o.st) ++ gW o.tk
def oY (bk : Bk) : List UInt8 := (bk.map zD).flatten
def oQ (bk : Bk) : List UInt8 := dU bk.length ++ oY bk
theorem nJ {α : Type} (f : α → List UInt8) {l : List α} {k : Nat} (h : k < l.length) : ((l.take (k + 1)).map f).flatten = ((l.take k).map f).flatten ++ f l[k] := by
  rw [bB h,dI,gQ];simp
theorem qX {α : Type} (f : α → List UInt8) {l : List α} {k : Nat} : ((l.take k).map f).flatten.length ≤ (l.map f).flatten.length := by
  conv => rhs;rw [← cI k l,dI,gQ,aB]
  omega
structure zM2 (o : Od) : Prop where
  ws : ∀ w,w ∈ o.ws → qH w.1 ∧ qH w.2.1 ∧ qH w.2.2
  wl : o.ws.length ≤ 1000000
  due : qH o.due
  st : qH o.st
  tl : o.tk.length ≤ 1000000
  ll : ∀ l,l ∈ o.tk → l.length ≤ 1000000
  tk : ∀ l,l ∈ o.tk → ∀ t,t ∈ l → qH t.1 ∧ qH t.2
theorem F3 (n : Int) : 0 < (dU n).length := by simp [dU]
theorem UK (bk : Bk) : oQ bk ≠ [] := fun h => by
  have := F3 bk.length;have h2 := congrArg List.length h;unfold oQ at h2;rw [aB,List.length_nil] at h2;omega
abbrev LK (l : List UInt8) : Hp := [.cells [.ptr 0 0,.sl 1 0 l.length 1],.buf 5 l]
end Go.Or
namespace Go.Proofs.YtdfmhddmddgniaaGreatDoor
open Go Go.Ab Go.Or Go.Wr
attribute [local irreducible] VC AW bJ bI eO
set_option maxHeartbeats 4000000
theorem JD {n : Int} (h : qH n) (h0 : 0 ≤ n) : bI Tryz.prog 53 [.i n] [] (.s (dU n)) [] := by
  have hc := xL h;refine dA T Tryz.func53 rfl rfl rfl rfl ?_
  (repeat' (first|refine wS ?_|refine wK ?_|refine wR ?_|(refine wC rfl ?_ ?_<;>(intro hb;(try simp only [nm] at hb);try (exfalso;omega)))|(refine rg 0 (aV ?_))|(refine rg 1 (mW rfl (vV (bE rfl rfl) ?_)))|(refine rg 3 (mW rfl (vV (kC (hc)) (aV ?_))))|refine nZ ?_));all_goals first | (exfalso;omega) | exact rQ
theorem P7 (bk : Bk) (hl : bk.length ≤ 1000000) (hI : ∀ o,o ∈ bk → zM2 o) (hL : (oQ bk).length ≤ 90000000000) :
    bI Tryz.prog 16 [xX bk] [] (.s (oQ bk)) [] := by
  have hbl := jG bk;have c0 : bI Tryz.prog 53 [.i (uW bk).length] [] (.s (dU bk.length)) [] := by rw [hbl];exact JD ⟨by omega,by omega⟩ (by omega)
  have i0 := nL (n := (bk.length : Int)) ⟨by omega,by omega⟩
  refine dA T Tryz.func16 rfl rfl rfl rfl ?_
  (repeat' (first|refine wS ?_|refine wB ?_|(refine rg 0 (aV ?_))|(refine rg 1 (dQ (PI T rfl rfl) rfl ?_))|(refine rg 2 (mW rfl (nV ?_));refine eT T rfl (qW T rfl (vV (kC (c0)) (bR [0] rfl rfl (QM _ (by omega)) rfl rfl (by decide) ⟨.inr rfl,trivial⟩ (by simp) rfl ?_))))|(refine rg 3 (mW rfl (nV ?_));refine eT T rfl (qW T rfl (mV ?_)))|refine nZ ?_));have h00 : dU bk.length ++ oY (bk.take 0) = dU bk.length := by simp [oY]
  refine dR (X := {k : Nat // k ≤ bk.length}) (fun k => [(3,.ptr 0 0),(22,.rowE (uW bk) 4),(23,.i (uW bk).length),(24,.i k.1)]) (fun k => LK (dU bk.length ++ oY (bk.take k.1))) (fun k => bk.length - k.1) ⟨0,bG _⟩ ⟨[0,1],rfl,by (repeat (first | exact trivial | refine ⟨rfl,?_⟩)),⟨.inr (by dsimp only;rw [h00];rfl),.inr (by dsimp only;rw [h00];rfl),trivial⟩,by decide,iK _⟩ ?_
  rintro ⟨k,hk⟩;dsimp only;by_cases hlt : k < bk.length
  · have hg := rX hlt;have ho := hI _ (aH hlt);have hN : dU bk.length ++ oY (bk.take (k + 1)) = (dU bk.length ++ oY (bk.take k)) ++ zD bk[k] := by rw [aY];exact congrArg _ (nJ zD hlt)
    have hLk : ((dU bk.length ++ oY (bk.take k)) ++ zD bk[k]).length ≤ 90000000000 := by
      rw [← hN];refine cQ ?_ hL;unfold oQ oY;rw [aB,aB];exact Nat.add_le_add_left (qX zD) _
    generalize bk[k] = o at *;generalize dU bk.length ++ oY (bk.take k) = A at *;have hwll := ho.wl;have htll := ho.tl;have hwl := gD o.ws;have htl := kD o.tk;have c1 : bI Tryz.prog 53 [.i (bV o.ws).length] [] (.s (dU o.ws.length)) [] := by rw [hwl];exact JD ⟨by omega,by have := ho.wl;omega⟩ (by omega)
    have hLo : A.length + (dU o.ws.length).length + (nC o.ws).length + (dU o.due ++ dU o.st).length + (gW o.tk).length ≤ 90000000000 := by
      unfold zD KT at hLk;simp only [aB] at hLk ⊢;omega
    (repeat' (first|refine wS ?_|refine wB ?_|refine wK ?_|(refine wC rfl ?_ ?_<;>(intro hb;(try simp only [nm] at hb);try (exfalso;omega)))|(refine rg 4 (vV (bE rfl rfl) ?_))|(refine rg 5 (vV (ix T rfl (by omega) (kR bk) hg) (lW T rfl (dQ (dC T rfl) rfl (bA T rfl rfl rfl rfl rfl rfl (by decide) rfl ?_)))))|refine nZ ?_));all_goals try (exfalso;omega)
    refine fK 5 (cs := zU o) rfl rfl rfl ?_
    (repeat' (first|refine wS ?_|(refine rg 6 (fW T rfl (eT T rfl (qW T rfl (vV (kC (c1)) (bR [0,1] rfl rfl (C2 A (dU o.ws.length) (by omega)) rfl rfl (by decide) ⟨.inr rfl,.inr rfl,trivial⟩ (by simp) rfl ?_))))))|refine nZ ?_));all_goals try (exfalso;omega)
    refine fY [(3,.ptr 0 0),(22,.rowE (uW bk) 4),(23,.i (uW bk).length),(24,.i k),(5,.pr (zU o) 0)] (LK (A ++ dU o.ws.length)) ⟨[0,3],rfl,(by repeat first|exact trivial|refine ⟨rfl,?_⟩),⟨.inr (by rw [@aB _ A _];rfl),.inr rfl,trivial⟩,by decide,iK _⟩ ?_
    have hB1 : (A ++ dU o.ws.length).length + (nC o.ws).length + (dU o.due ++ dU o.st).length + (gW o.tk).length ≤ 90000000000 := by rw [aB];exact hLo
    have hN1 : A ++ zD o = A ++ dU o.ws.length ++ nC o.ws ++ (dU o.due ++ dU o.st) ++ gW o.tk := by unfold zD KT;simp only [aY]
    rw [hN1] at hN;clear hN1 hLo hLk c1;generalize A ++ dU o.ws.length = B at *
    (repeat' (first|refine wB ?_|(refine rg 7 (fW T rfl (eT T rfl (qW T rfl (mV ?_)))))|refine nZ ?_));refine dR (X := {j : Nat // j ≤ o.ws.length}) (fun j => [(3,.ptr 0 0),(22,.rowE (uW bk) 4),(23,.i (uW bk).length),(24,.i k),(5,.pr (zU o) 0),(36,.rowE (bV o.ws) 3),(37,.i (bV o.ws).length),(38,.i j.1)]) (fun j => LK (B ++ nC (o.ws.take j.1))) (fun j => o.ws.length - j.1) ⟨0,bG _⟩ ⟨[0,1],rfl,(by repeat first|exact trivial|refine ⟨rfl,?_⟩),⟨.inr (by dsimp only;rw [show B ++ nC (o.ws.take 0) = B from List.append_nil B];rfl),.inr (by dsimp only;rw [show B ++ nC (o.ws.take 0) = B from List.append_nil B];rfl),trivial⟩,by decide,iK _⟩ ?_
    rintro ⟨j,hj⟩;dsimp only;by_cases hjl : j < o.ws.length
    · have hgw : (bV o.ws)[((j : Nat) : Int).toNat]? = some [AV.i o.ws[j].1,AV.i o.ws[j].2.1,AV.i o.ws[j].2.2] := by simp [hjl]
      have hw := ho.ws _ (aH hjl);have hts : B ++ nC (o.ws.take (j + 1)) = B ++ nC (o.ws.take j) ++ EX o.ws[j] := by rw [aY];exact congrArg _ (nJ EX hjl)
      have hle : (B ++ nC (o.ws.take (j + 1))).length ≤ 90000000000 := by
        have := qX EX (l := o.ws) (k := j + 1);rw [aB];show B.length + ((o.ws.take (j + 1)).map EX).flatten.length ≤ _;have e : (nC o.ws).length = (o.ws.map EX).flatten.length := rfl;omega
      rw [hts] at hle;generalize o.ws[j] = w at *;obtain ⟨wk,wc,wu⟩ := w;dsimp only at hgw hw;rw [show EX (wk,wc,wu) = dU wk ++ dU wc ++ dU wu from rfl] at hts hle
      have f1 := xL hw.1;have f2 := xL hw.2.1;have f3 := xL hw.2.2;generalize B ++ nC (o.ws.take j) = D at *;simp only [aB] at hle
      (repeat' (first|refine wS ?_|refine wB ?_|refine wK ?_|(refine wC rfl ?_ ?_<;>(intro hb;(try simp only [nm] at hb);try (exfalso;omega)))|(refine rg 8 (vV (bE rfl rfl) ?_))|(refine rg 9 (vV (ix T rfl (by omega) (jW _) hgw) (lW T rfl (dQ (dC T rfl) rfl (bA T rfl rfl rfl rfl rfl rfl (by decide) rfl ?_)))))|refine nZ ?_));all_goals try (exfalso;omega)
      refine fK 7 (cs := [.i wk,.i wc,.i wu]) rfl rfl rfl ?_
      (repeat' (first|(refine G5 (id := 10) 11 94 [[],[0],[0,1],[],[3],rN 5,rN 6,[],[7],[0,1,2,3,4,5,7,8],rN 10,rN 11] [[],[0],[0,1],[],[3],rN 5,rN 6,[],[7],[0,1,2,3,4,5,7,8],rN 10] (rM 42 11) [[],[],[],[42,43,44],[42,43,44],[],[],rM 42 7,rM 42 7,[48],[]] dZ rfl (by decide +kernel) (by decide +kernel) ?_;(dsimp only [List.take,List.drop]);refine dP T rfl (dO T rfl (dV rfl (by exact dB rfl rfl f1 rfl rfl rfl) ?_));refine dP T rfl (dO T rfl (dV rfl (by exact dB rfl rfl f2 rfl rfl rfl) ?_));refine dV rfl (jL rfl rfl (by (try simp only [aB]);omega)) ?_;refine dP T rfl (dO T rfl (dV rfl (by exact dB rfl rfl f3 rfl rfl rfl) ?_));refine dV rfl (jL rfl rfl (by (try simp only [aB]);omega)) ?_;refine dE ?_;refine uN ?_;refine bR [0,1] rfl rfl (C2 D (dU wk ++ dU wc ++ dU wu) (by (try simp only [aB]);omega)) rfl rfl (by decide) ⟨.inr rfl,.inr rfl,trivial⟩ (by simp) rfl ?_)|(refine rg 11 (vV (eD rfl rfl (by omega) (by omega)) (mV ?_)))|refine nZ ?_));all_goals try (exfalso;omega)
      all_goals exact ⟨⟨j + 1,hjl⟩,by dsimp only;omega,⟨[0,3],rfl,(by repeat first|exact trivial|refine ⟨rfl,?_⟩),⟨.inr (by dsimp only;rw [hts,@aB _ D _];rfl),.inr (by dsimp only;rw [hts];rfl),trivial⟩,by decide,iK _⟩⟩
    · obtain rfl : j = o.ws.length := by omega
      rw [dJ];have f1 := xL ho.due;have f2 := xL ho.st;have hB2 : (B ++ nC o.ws).length + (dU o.due ++ dU o.st).length + (gW o.tk).length ≤ 90000000000 := by rw [aB];exact hB1
      generalize B ++ nC o.ws = D at *
      (repeat' (first|refine wS ?_|refine wE ?_|(refine wC rfl ?_ ?_<;>(intro hb;(try simp only [nm] at hb);try (exfalso;omega)))|(refine rg 8 (vV (bE rfl rfl) ?_))|refine nZ ?_));all_goals try (exfalso;omega)
      (repeat' (first|refine wS ?_|(refine G5 (id := 12) 9 94 [[],[0],[0,1],[0,1,2],[],[4],[4,5],rN 7,rN 8,rN 9] [[],[0],[0,1],[0,1,2],[],[4],[4,5],rN 7,rN 8] (rM 55 9) [[],[],[],[],rM 55 4,rM 55 4,rM 55 4,[],[]] dZ rfl (by decide +kernel) (by decide +kernel) ?_;(dsimp only [List.take,List.drop]);refine dP T rfl (dP T rfl (dO T rfl (dV rfl (by exact dB rfl rfl f1 rfl rfl rfl) ?_)));refine dP T rfl (dP T rfl (dO T rfl (dV rfl (by exact dB rfl rfl f2 rfl rfl rfl) ?_)));refine dV rfl (jL rfl rfl (by (try simp only [aB] at hB2);omega)) ?_;refine dE ?_;refine uN ?_;refine bR [0,1] rfl rfl (C2 D (dU o.due ++ dU o.st) (by omega)) rfl rfl (by decide) ⟨.inr rfl,.inr rfl,trivial⟩ (by simp) rfl ?_)|refine nZ ?_));all_goals try (exfalso;omega)
      refine fY [(3,.ptr 0 0),(22,.rowE (uW bk) 4),(23,.i (uW bk).length),(24,.i k),(5,.pr (zU o) 0)] (LK (D ++ (dU o.due ++ dU o.st))) ⟨[0,2],rfl,(by repeat first|exact trivial|refine ⟨rfl,?_⟩),⟨.inr (by rw [@aB _ D _];rfl),.inr rfl,trivial⟩,by decide,iK _⟩ ?_
      have hB3 : (D ++ (dU o.due ++ dU o.st)).length + (gW o.tk).length ≤ 90000000000 := by rw [@aB _ D _];exact hB2
      clear hB2 hB1;generalize D ++ (dU o.due ++ dU o.st) = E at *
      (repeat' (first|refine wB ?_|(refine rg 13 (eT T rfl (qW T rfl (mV ?_))))|refine nZ ?_));refine dR (X := {i : Nat // i ≤ o.tk.length}) (fun i => [(3,.ptr 0 0),(22,.rowE (uW bk) 4),(23,.i (uW bk).length),(24,.i k),(66,mA o.tk),(67,.i (xK o.tk).length),(68,.i i.1)]) (fun i => LK (E ++ gW (o.tk.take i.1))) (fun i => o.tk.length - i.1) ⟨0,bG _⟩ ⟨[0,1],rfl,(by repeat first|exact trivial|refine ⟨rfl,?_⟩),⟨.inr (by dsimp only;rw [show E ++ gW (o.tk.take 0) = E from List.append_nil E];rfl),.inr (by dsimp only;rw [show E ++ gW (o.tk.take 0) = E from List.append_nil E];rfl),trivial⟩,by decide,iK _⟩ ?_
      rintro ⟨i,hi⟩;dsimp only;by_cases hil : i < o.tk.length
      · have hg2 := tV hil;have hm2 := aH hil;have hli := ho.ll _ hm2;have htI := ho.tk _ hm2;have hts : E ++ gW (o.tk.take (i + 1)) = E ++ gW (o.tk.take i) ++ CC o.tk[i] := by rw [aY];exact congrArg _ (nJ CC hil)
        have hle : (E ++ gW (o.tk.take (i + 1))).length ≤ 90000000000 := by
          have := qX CC (l := o.tk) (k := i + 1);rw [aB];show E.length + ((o.tk.take (i + 1)).map CC).flatten.length ≤ _;have e : (gW o.tk).length = (o.tk.map CC).flatten.length := rfl;omega
        rw [hts] at hle;generalize o.tk[i] = l at *;have hll := kT l;generalize E ++ gW (o.tk.take i) = F at *;have g1 : bI Tryz.prog 53 [.i (eZ l).length] [] (.s (dU l.length)) [] := by rw [hll];exact JD ⟨by omega,by omega⟩ (by omega)
        have hle2 : F.length + (dU l.length).length + (oW l).length ≤ 90000000000 := by
          unfold CC at hle;simp only [aB] at hle;omega
        (repeat' (first|refine wS ?_|refine wB ?_|refine wK ?_|(refine wC rfl ?_ ?_<;>(intro hb;(try simp only [nm] at hb);try (exfalso;omega)))|(refine rg 14 (vV (bE rfl rfl) ?_))|(refine rg 15 (vV (ix T rfl (by omega) (gJ _) hg2) (lW T rfl (aV ?_))))|(refine rg 16 (mW rfl (qW T rfl (vV (kC (g1)) (bR [0,1] rfl rfl (C2 F (dU l.length) (by omega)) rfl rfl (by decide) ⟨.inr rfl,.inr rfl,trivial⟩ (by simp) rfl ?_)))))|refine nZ ?_));all_goals try (exfalso;omega)
        refine fY [(3,.ptr 0 0),(22,.rowE (uW bk) 4),(23,.i (uW bk).length),(24,.i k),(66,mA o.tk),(67,.i (xK o.tk).length),(68,.i i),(9,.rowE (eZ l) 2)] (LK (F ++ dU l.length)) ⟨[0,2],rfl,(by repeat first|exact trivial|refine ⟨rfl,?_⟩),⟨.inr (by rw [@aB _ F _];rfl),.inr rfl,trivial⟩,by decide,iK _⟩ ?_
        have hts2 : E ++ gW (o.tk.take (i + 1)) = F ++ dU l.length ++ oW l := by rw [hts];unfold CC;rw [aY]
        have hle3 : (F ++ dU l.length).length + (oW l).length ≤ 90000000000 := by rw [aB];exact hle2
        generalize F ++ dU l.length = G at *
        (repeat' (first|refine wB ?_|(refine rg 17 (mW rfl (qW T rfl (mV ?_))))|refine nZ ?_));refine dR (X := {j : Nat // j ≤ l.length}) (fun j => [(3,.ptr 0 0),(22,.rowE (uW bk) 4),(23,.i (uW bk).length),(24,.i k),(66,mA o.tk),(67,.i (xK o.tk).length),(68,.i i),(76,.rowE (eZ l) 2),(77,.i (eZ l).length),(78,.i j.1)]) (fun j => LK (G ++ oW (l.take j.1))) (fun j => l.length - j.1) ⟨0,bG _⟩ ⟨[0,1],rfl,(by repeat first|exact trivial|refine ⟨rfl,?_⟩),⟨.inr (by dsimp only;rw [show G ++ oW (l.take 0) = G from List.append_nil G];rfl),.inr (by dsimp only;rw [show G ++ oW (l.take 0) = G from List.append_nil G];rfl),trivial⟩,by decide,iK _⟩ ?_
        rintro ⟨j,hj2⟩;dsimp only;by_cases hjl2 : j < l.length
        · have hgt := xO hjl2;have ht := htI _ (aH hjl2);have hts3 : G ++ oW (l.take (j + 1)) = G ++ oW (l.take j) ++ FH l[j] := by rw [aY];exact congrArg _ (nJ FH hjl2)
          have hle4 : (G ++ oW (l.take (j + 1))).length ≤ 90000000000 := by
            have := qX FH (l := l) (k := j + 1);rw [aB];show G.length + ((l.take (j + 1)).map FH).flatten.length ≤ _;have e : (oW l).length = (l.map FH).flatten.length := rfl;omega
          rw [hts3] at hle4;generalize l[j] = t at *;obtain ⟨t1,t2⟩ := t;dsimp only at hgt ht;rw [show FH (t1,t2) = dU t1 ++ dU t2 from rfl] at hts3 hle4
          have f1 := xL ht.1;have f2 := xL ht.2;generalize G ++ oW (l.take j) = D2 at *;simp only [aB] at hle4
          (repeat' (first|refine wS ?_|refine wB ?_|refine wK ?_|(refine wC rfl ?_ ?_<;>(intro hb;(try simp only [nm] at hb);try (exfalso;omega)))|(refine rg 18 (vV (bE rfl rfl) ?_))|(refine rg 19 (vV (ix T rfl (by omega) (nD _) hgt) (lW T rfl (dQ (dC T rfl) rfl (bA T rfl rfl rfl rfl rfl rfl (by decide) rfl ?_)))))|refine nZ ?_));all_goals try (exfalso;omega)
          refine fK 11 (cs := [.i t1,.i t2]) rfl rfl rfl ?_
          (repeat' (first|(refine G5 (id := 20) 7 94 [[],[0],[0,1],[],[3],rN 5,rN 6,rN 7] [[],[0],[0,1],[],[3],rN 5,rN 6] (rM 82 7) [[],[],[],[82,83,84],[82,83,84],[],[]] dZ rfl (by decide +kernel) (by decide +kernel) ?_;(dsimp only [List.take,List.drop]);refine dP T rfl (dO T rfl (dV rfl (by exact dB rfl rfl f1 rfl rfl rfl) ?_));refine dP T rfl (dO T rfl (dV rfl (by exact dB rfl rfl f2 rfl rfl rfl) ?_));refine dV rfl (jL rfl rfl (by omega)) (dE ?_);refine uN ?_;refine bR [0,1] rfl rfl (C2 D2 (dU t1 ++ dU t2) (by (try simp only [aB]);omega)) rfl rfl (by decide) ⟨.inr rfl,.inr rfl,trivial⟩ (by simp) rfl ?_)|(refine rg 21 (vV (eD rfl rfl (by omega) (by omega)) (mV ?_)))|refine nZ ?_));all_goals try (exfalso;omega)
          all_goals exact ⟨⟨j + 1,hjl2⟩,by dsimp only;omega,⟨[0,3],rfl,(by repeat first|exact trivial|refine ⟨rfl,?_⟩),⟨.inr (by dsimp only;rw [hts3,@aB _ D2 _];rfl),.inr (by dsimp only;rw [hts3];rfl),trivial⟩,by decide,iK _⟩⟩
        · obtain rfl : j = l.length := by omega
          rw [dJ]
          (repeat' (first|refine wS ?_|refine wE ?_|(refine wC rfl ?_ ?_<;>(intro hb;(try simp only [nm] at hb);try (exfalso;omega)))|(refine rg 18 (vV (bE rfl rfl) ?_))|(refine rg 22 (vV (eD rfl rfl (by omega) (by omega)) (mV ?_)))|refine nZ ?_));all_goals try (exfalso;omega)
          all_goals exact ⟨⟨i + 1,hil⟩,by dsimp only;omega,⟨[0,1],rfl,(by repeat first|exact trivial|refine ⟨rfl,?_⟩),⟨.inr (by dsimp only;rw [hts2];rfl),.inr (by dsimp only;rw [hts2];rfl),trivial⟩,by decide,iK _⟩⟩
      · obtain rfl : i = o.tk.length := by omega
        rw [dJ]
        (repeat' (first|refine wS ?_|refine wE ?_|(refine wC rfl ?_ ?_<;>(intro hb;(try simp only [nm] at hb);try (exfalso;omega)))|(refine rg 14 (vV (bE rfl rfl) ?_))|(refine rg 23 (vV (eD rfl rfl (by omega) (by omega)) (mV ?_)))|refine nZ ?_));all_goals try (exfalso;omega)
        all_goals exact ⟨⟨k + 1,hlt⟩,by dsimp only;omega,⟨[0,1],rfl,(by repeat first|exact trivial|refine ⟨rfl,?_⟩),⟨.inr (by dsimp only;rw [hN];rfl),.inr (by dsimp only;rw [hN];rfl),trivial⟩,by decide,iK _⟩⟩
  · obtain rfl : k = bk.length := by omega
    rw [dJ];have hst := QZ (oQ bk) (UK bk) (by omega)
    (repeat' (first|refine wS ?_|refine wR ?_|refine wE ?_|(refine wC rfl ?_ ?_<;>(intro hb;(try simp only [nm] at hb);try (exfalso;omega)))|(refine rg 4 (vV (bE rfl rfl) ?_))|(refine rg 24 (bR [0,1] rfl rfl hst rfl rfl (by decide) ⟨.inr rfl,.inr rfl,trivial⟩ (by simp) rfl ?_);refine aV ?_)|refine nZ ?_));all_goals first | (exfalso;omega) | exact rQ
end Go.Proofs.YtdfmhddmddgniaaGreatDoor
namespace Go.Or
open Go Go.Ab Go.Wr Go.Proofs.YtdfmhddmddgniaaGreatDoor
def iJ : Nat → St → List Wt × St
  | 0,s => ([],s)
  | k + 1,s => if (s.getD []).length = 0 then ([],s) else
      (((cE s).1,(cE (cE s).2).1,(cE (cE (cE s).2).2).1) :: (iJ k (cE (cE (cE s).2).2).2).1,(iJ k (cE (cE (cE s).2).2).2).2)
def O7 (t : Tk) : Prop := t.1 < 0 ∨ 3000 ≤ t.1 ∨ t.2 < 1 ∨ 20000 < t.2
instance (t : Tk) : Decidable (O7 t) := inferInstanceAs (Decidable (_ ∨ _ ∨ _ ∨ _))
def gZ : Nat → St → Option (List Tk × St)
  | 0,s => some ([],s)
  | k + 1,s => if (s.getD []).length = 0 then some ([],s) else
      if O7 ((cE s).1,(cE (cE s).2).1) then none else
      (gZ k (cE (cE s).2).2).map fun x => (((cE s).1,(cE (cE s).2).1) :: x.1,x.2)
def lX : List Wt → St → Option (List (List Tk) × St)
  | [],s => some ([],s)
  | w :: ws,s => (gZ (fI s 59 0).1.toNat (fI s 59 0).2).bind fun x => if w.2.1 < jB x.1 then none else (lX ws x.2).map fun y => (x.1 :: y.1,y.2)
def gN (s : St) : List Wt × St := iJ (fI s 59 0).1.toNat (fI s 59 0).2
def mE (s : St) : Option (Od × St) :=
  if iW (gN s).1 (cE (gN s).2).1 = false ∨ (cE (cE (gN s).2).2).1 < 0 ∨ 5 ≤ (cE (cE (gN s).2).2).1 then none else
  if (cE (cE (gN s).2).2).1 ≠ 1 then some (⟨(gN s).1,(cE (gN s).2).1,(cE (cE (gN s).2).2).1,[]⟩,(cE (cE (gN s).2).2).2) else
  (lX (gN s).1 (cE (cE (gN s).2).2).2).bind fun x => if x.1.all (·.isEmpty) then none else some (⟨(gN s).1,(cE (gN s).2).1,1,x.1⟩,x.2)
def mR : Nat → St → Bk → Option (Bk × St)
  | 0,s,L => some (L,s)
  | k + 1,s,L => if (s.getD []).length = 0 then some (L,s) else
      (mE s).bind fun x => if 1000 ≤ L.length then none else mR k x.2 (L ++ [x.1])
def vE (l : List UInt8) : Option Bk :=
  (mR (fI (some l) 59 0).1.toNat (fI (some l) 59 0).2 []).bind fun x => if x.2 = some [] ∧ oQ x.1 = l then some x.1 else none
theorem nF {l : List UInt8} : ((some l : St).getD []).length = l.length := rfl
theorem BI : ∀ (ws : List Wt) (r : List UInt8), (∀ w, w ∈ ws → qH w.1 ∧ qH w.2.1 ∧ qH w.2.2) → iJ ws.length (some (nC ws ++ r)) = (ws, some r)
  | [],r,_ => rfl
  | w :: ws,r,h => by
    obtain ⟨h1,h2,h3⟩ := h w aL;have e : nC (w :: ws) ++ r = dU w.1 ++ (dU w.2.1 ++ (dU w.2.2 ++ (nC ws ++ r))) := by simp [nC,EX]
    have h0 := F3 w.1;rw [e,List.length_cons,iJ,if_neg (by rw [nF,aB];omega),pR h1,pR h2,pR h3,BI ws r fun w hw => h w (aF _ hw)]
theorem DN {t : Tk} (h : EY t) : qH t.1 ∧ qH t.2 := by
  obtain ⟨h1,h2,h3,h4⟩ := h;exact ⟨⟨by omega,by omega⟩,⟨by omega,by omega⟩⟩
theorem J3 : ∀ (l : List Tk) (r : List UInt8), (∀ t, t ∈ l → EY t) → gZ l.length (some (oW l ++ r)) = some (l, some r)
  | [],r,_ => rfl
  | t :: l,r,h => by
    have ht := h t aL;have e : oW (t :: l) ++ r = dU t.1 ++ (dU t.2 ++ (oW l ++ r)) := by simp [oW,FH]
    have h0 := F3 t.1;rw [e,List.length_cons,gZ,if_neg (by rw [nF,aB];omega),pR (DN ht).1,pR (DN ht).2,if_neg,J3 l r fun t hw => h t (aF _ hw)]
    · rfl
    · obtain ⟨h1,h2,h3,h4⟩ := ht;unfold O7;dsimp only;omega
theorem BO : ∀ (ws : List Wt) (tk : List (List Tk)) (r : List UInt8), tk.length = ws.length → (∀ l, l ∈ tk → l.length ≤ 1000000 ∧ ∀ t, t ∈ l → EY t) → (∀ (i : Nat) (w : Wt) (l : List Tk), ws[i]? = some w → tk[i]? = some l → jB l ≤ w.2.1) → lX ws (some (gW tk ++ r)) = some (tk, some r)
  | [],[],r,_,_,_ => rfl
  | [],_ :: _,_,h,_,_ => by cases h
  | _ :: _,[],_,h,_,_ => by cases h
  | w :: ws,l :: tk,r,hl,h,hs => by
    have h1 := h l aL;have e : gW (l :: tk) ++ r = dU l.length ++ (oW l ++ (gW tk ++ r)) := by simp [gW,CC]
    have hn := vJ (n := (l.length : Int)) ⟨by omega,by omega⟩ (by omega) (oW l ++ (gW tk ++ r))
    have h2 := hs 0 w l rfl rfl;have ih := BO ws tk r (by simpa using hl) (fun l hl => h l (aF _ hl)) fun i w l h1 h2 => hs (i + 1) w l h1 h2
    rw [e,lX,hn];dsimp only;rw [bN,J3 l _ h1.2];dsimp only [Option.bind_some];rw [if_neg (by omega),ih];rfl
theorem qS {ws : List Wt} {due : Int} (h : iW ws due = true) : (1 ≤ ws.length ∧ ws.length ≤ 20) ∧ (0 ≤ due ∧ due ≤ 20000) ∧ ∀ w,w ∈ ws → 0 ≤ w.1 ∧ (1 ≤ w.2.1 ∧ w.2.1 ≤ 20000) ∧ (0 ≤ w.2.2 ∧ w.2.2 ≤ 20000) := by
  unfold iW at h;simp only [aN,nS,iB,decide_eq_false_iff_not,kP] at h;obtain ⟨⟨h1,h2,h3,h4⟩,h5⟩ := h;refine ⟨⟨by omega,by omega⟩,⟨by omega,by omega⟩,fun w hw => ?_⟩
  have := h5 w hw;unfold kU at this;simp only [qC,decide_eq_true_eq,not_or] at this;omega
def QI (bk : Bk) : Prop := ∀ o,o ∈ bk → ∀ w,w ∈ o.ws → qH w.1
theorem FM : ∀ {l : List Tk}, (∀ t, t ∈ l → EY t) → (l.length : Int) ≤ jB l
  | [],_ => by decide
  | t :: l,h => by
    have := FM fun t ht => h t (aF _ ht);have h1 := (h t aL).2.2.1;unfold jB at this ⊢;rw [List.map_cons,lE,List.length_cons];omega
theorem pC.few {o : Od} (h : pC o) : o.tk.length ≤ 20 ∧ ∀ l,l ∈ o.tk → l.length ≤ 20000 := by
  have hr := qS h.ws;by_cases h1 : o.st = 1
  · have hl := h.len h1;refine ⟨by omega,fun l hlm => ?_⟩
    obtain ⟨i,hi⟩ := cN.1 hlm;have hil := (aA.1 hi).1;have hs := h.sum i _ l (aC (by omega : i < o.ws.length)) hi
    have h2 := hr.2.2 _ (aH (by omega : i < o.ws.length))
    have h3 := FM (h.ok l hlm);omega
  · rw [h.tk0 h1];exact ⟨by simp,fun l hl => nomatch hl⟩
theorem pC.odI {o : Od} (h : pC o) (hk : ∀ w,w ∈ o.ws → qH w.1) : zM2 o := by
  have hr := qS h.ws;have hf := h.few;have h0 := h.st0;have h4 := h.st4;refine ⟨fun w hw => ?_,by omega,⟨by omega,by omega⟩,⟨by omega,by omega⟩,by omega,fun l hl => by have := hf.2 l hl;omega,fun l hl t ht => DN (h.ok l hl t ht)⟩
  have := hr.2.2 w hw;exact ⟨hk w hw,⟨by omega,by omega⟩,⟨by omega,by omega⟩⟩
theorem HG {o : Od} (h : zM2 o) (r : List UInt8) : gN (some (KT o ++ r)) = (o.ws,some r) := by
  have hl := h.wl;unfold gN KT;rw [aY,vJ ⟨by omega,by omega⟩ (by omega)]
  dsimp only;rw [bN,BI o.ws r h.ws]
theorem L3 {tk : List (List Tk)} : tk.all (·.isEmpty) = true ↔ tk.flatten = [] := by
  rw [bD,Z1];exact ⟨fun h l hl => by simpa using h l hl,fun h l hl => by simpa using h l hl⟩
theorem OI {o : Od} (h : pC o) (hk : ∀ w,w ∈ o.ws → qH w.1) (r : List UInt8) : mE (some (zD o ++ r)) = some (o,some r) := by
  have hI := h.odI hk;have h0 := h.st0;have h4 := h.st4;have e : zD o ++ r = KT o ++ (dU o.due ++ (dU o.st ++ (gW o.tk ++ r))) := by simp [zD]
  unfold mE;rw [e,HG hI];dsimp only;rw [pR hI.due];dsimp only;rw [pR hI.st];dsimp only;rw [if_neg (by rw [h.ws];simp;omega)]
  by_cases h1 : o.st = 1
  · rw [if_neg (by omega),BO o.ws o.tk r (h.len h1) (fun l hl => ⟨by have := h.few.2 l hl;omega,h.ok l hl⟩) h.sum]
    dsimp only [Option.bind_some];rw [if_neg (fun hh => h.ne h1 (L3.1 hh))];obtain ⟨ws,due,st,tk⟩ := o;dsimp only at h1;subst h1;rfl
  · have ht := h.tk0 h1;rw [if_pos h1,ht];obtain ⟨ws,due,st,tk⟩ := o;dsimp only at ht;subst ht;simp [gW]
theorem MN (o : Od) : 0 < (zD o).length := by
  have := F3 o.ws.length;unfold zD KT;simp only [aB];omega
theorem BR : ∀ (bk L : Bk), (∀ o, o ∈ bk → pC o ∧ ∀ w, w ∈ o.ws → qH w.1) → L.length + bk.length ≤ 1000 → mR bk.length (some (oY bk)) L = some (L ++ bk, some [])
  | [],L,_,_ => by rw [List.append_nil];rfl
  | o :: bk,L,h,hl => by
    have ho := h o aL;have e : oY (o :: bk) = zD o ++ oY bk := by simp [oY]
    have h0 := MN o;rw [List.length_cons] at hl;rw [e,List.length_cons,mR,if_neg (by rw [nF,aB];omega),OI ho.1 ho.2]
    dsimp only [Option.bind_some];rw [if_neg (by omega),BR bk (L ++ [o]) (fun o ho => h o (aF _ ho)) (by rw [aB,bZ];omega),aY];rfl
theorem RX {bk : Bk} (h : oS bk) (hk : QI bk) : vE (oQ bk) = some bk := by
  have hl := h.le;unfold vE
  conv => lhs;arg 1;rw [show oQ bk = dU bk.length ++ oY bk from rfl]
  rw [vJ ⟨by omega,by omega⟩ (by omega)]
  dsimp only;rw [bN,BR bk [] (fun o ho => ⟨h.od o ho,hk o ho⟩) (by simpa using hl),List.nil_append]
  dsimp only [Option.bind_some];rw [if_pos ⟨rfl,rfl⟩]
theorem BK : ∀ (k : Nat) (s : St) {l : List Tk} {s' : St}, gZ k s = some (l, s') → ∀ t, t ∈ l → EY t
  | 0,s,l,s',h => by cases h;exact fun t ht => nomatch ht
  | k + 1,s,l,s',h => by
    rw [gZ] at h;split at h
    · cases h;exact fun t ht => nomatch ht
    · split at h
      · cases h
      · rename_i hb;obtain ⟨⟨l2,s2⟩,h2,h3⟩ := bX.1 h;cases h3;intro t ht;rcases aT.1 ht with rfl | ht
        · unfold O7 at hb;dsimp only at hb;unfold EY;dsimp only;omega
        · exact BK k _ h2 t ht
theorem BN : ∀ (ws : List Wt) (s : St) {tk : List (List Tk)} {s' : St}, lX ws s = some (tk, s') → tk.length = ws.length ∧ (∀ l, l ∈ tk → ∀ t, t ∈ l → EY t) ∧ ∀ (i : Nat) (w : Wt) (l : List Tk), ws[i]? = some w → tk[i]? = some l → jB l ≤ w.2.1
  | [],s,tk,s',h => by cases h;exact ⟨rfl,fun l hl => (nomatch hl),fun i w l h => by simp at h⟩
  | w :: ws,s,tk,s',h => by
    rw [lX] at h;obtain ⟨⟨l,s1⟩,h1,h2⟩ := dW.1 h;dsimp only at h2;split at h2
    · cases h2
    · rename_i hb;obtain ⟨⟨tk2,s2⟩,h3,h4⟩ := bX.1 h2;cases h4;obtain ⟨a1,a2,a3⟩ := BN ws s1 h3;refine ⟨by rw [List.length_cons,List.length_cons,a1],fun m hm => ?_,fun i v m hv hm => ?_⟩
      · rcases aT.1 hm with rfl | hm
        · exact BK _ _ h1
        · exact a2 m hm
      · cases i with
        | zero => simp at hv hm;subst hv hm;omega
        | succ i => exact a3 i v m (by simpa using hv) (by simpa using hm)
theorem R8 : ∀ (k : Nat) (s : St), ∀ w, w ∈ (iJ k s).1 → qH w.1
  | 0,s => fun w hw => nomatch hw
  | k + 1,s => by
    rw [iJ];split
    · exact fun w hw => nomatch hw
    · intro w hw;rcases aT.1 hw with rfl | hw
      · exact nI s 59 _
      · exact R8 k _ w hw
theorem BM {s s' : St} {o : Od} (h : mE s = some (o,s')) : pC o ∧ ∀ w,w ∈ o.ws → qH w.1 := by
  unfold mE at h;have hw := R8 (fI s 59 0).1.toNat (fI s 59 0).2;change ∀ w,w ∈ (gN s).1 → qH w.1 at hw;generalize (gN s).1 = ws at *;generalize (cE (gN s).2).1 = due at *;generalize (cE (cE (gN s).2).2).1 = st at *;generalize (cE (cE (gN s).2).2).2 = s2 at *;split at h
  · cases h
  · rename_i hb;simp only [not_or,Bool.not_eq_false] at hb;obtain ⟨b1,b2,b3⟩ := hb;split at h
    · rename_i h1;cases h;exact ⟨⟨b1,by dsimp only;omega,by dsimp only;omega,fun _ => rfl,fun e => absurd e h1,fun l hl => (nomatch hl),fun i w l _ h => by simp at h,fun e => absurd e h1⟩,hw⟩
    · rename_i h1;obtain ⟨⟨tk,s3⟩,h2,h3⟩ := dW.1 h;dsimp only at h3;split at h3
      · cases h3
      · rename_i h4;cases h3;obtain ⟨a1,a2,a3⟩ := BN _ _ h2;exact ⟨⟨b1,by dsimp only;omega,by dsimp only;omega,fun e => absurd rfl e,fun _ => a1,a2,a3,fun _ e => h4 (L3.2 e)⟩,hw⟩
theorem BQ : ∀ (k : Nat) (s : St) (L : Bk) {bk : Bk} {s' : St}, mR k s L = some (bk, s') → L.length ≤ 1000 → (∀ o, o ∈ L → pC o ∧ ∀ w, w ∈ o.ws → qH w.1) → bk.length ≤ 1000 ∧ ∀ o, o ∈ bk → pC o ∧ ∀ w, w ∈ o.ws → qH w.1
  | 0,s,L,bk,s',h,hl,ho => by cases h;exact ⟨hl,ho⟩
  | k + 1,s,L,bk,s',h,hl,ho => by
    rw [mR] at h;split at h
    · cases h;exact ⟨hl,ho⟩
    · obtain ⟨⟨o,s1⟩,h1,h2⟩ := dW.1 h;dsimp only at h2;split at h2
      · cases h2
      · refine BQ k s1 (L ++ [o]) h2 (by rw [aB,bZ];omega) fun x hx => ?_
        rcases bH.1 hx with hx | hx
        · exact ho x hx
        · rw [bK.1 hx];exact BM h1
theorem S7 {l : List UInt8} {bk : Bk} (h : vE l = some bk) : oS bk ∧ QI bk ∧ oQ bk = l := by
  unfold vE at h;obtain ⟨⟨b2,s⟩,h1,h2⟩ := dW.1 h;dsimp only at h2;split at h2
  · rename_i hh;cases h2;obtain ⟨a1,a2⟩ := BQ _ _ [] h1 (by simp) fun o ho => nomatch ho
    exact ⟨⟨a1,fun o ho => (a2 o ho).1⟩,fun o ho => (a2 o ho).2,hh.2⟩
  · cases h2
abbrev oG (s : St) : AB := .cells [.s (s.getD []),.b s.isNone]
def IP (s : St) (r : AV) (o : Hp) : Prop := match mE s with
  | none => ∃ ws due st x,r = .tup [.agg [.rowE (bV ws) 3,.i due,.i st,x],.b false] ∧ (x = .nils ∨ ∃ p m,x = .sl p 0 m 1)
  | some (od,s') => ∃ x B,r = .tup [.agg (iT od x),.b true] ∧ o[0]? = some (oG s') ∧ mU o x od.tk B ∧ ∀ k,k ∈ B → 1 ≤ k
theorem IP.fail {s : St} {o : Hp} (h : mE s = none) (ws : List Wt) (due st : Int) (x : AV) (hx : x = .nils ∨ ∃ p m,x = .sl p 0 m 1) : IP s (.tup [.agg [.rowE (bV ws) 3,.i due,.i st,x],.b false]) o := by
  unfold IP;rw [h];exact ⟨ws,due,st,x,rfl,hx⟩
theorem IP.ok {s s' : St} {o : Hp} {od : Od} {x : AV} {B : List Nat} (h : mE s = some (od,s')) (h0 : o[0]? = some (oG s')) (hn : mU o x od.tk B) (hB : ∀ k,k ∈ B → 1 ≤ k) : IP s (.tup [.agg (iT od x),.b true]) o := by
  unfold IP;rw [h];exact ⟨x,B,rfl,h0,hn,hB⟩
theorem lA {s : St} : ((cE s).2.getD []).length ≤ (s.getD []).length := nT s 59 (-9223372036854775808)
theorem yC {s : St} (h : 0 < (s.getD []).length) : ((cE s).2.getD []).length + 1 ≤ (s.getD []).length := by
  cases s with
  | none => simp at h
  | some r =>
    rcases TH r with h1 | ⟨r',h1,hr⟩
    · rw [h1];rw [nF] at h ⊢;simp;omega
    · rw [h1];rw [nF,nF];omega
theorem QL (l : List Wt) (w : Wt) : ((bV l).drop 0).take l.length ++ [[AV.i w.1,AV.i w.2.1,AV.i w.2.2]] = bV (l ++ [w]) := by
  rw [cP,aQ (by simp)];simp
theorem AC (L : List Nat) : ∀ i : Nat,i < 1 → (0 :: L)[i]? = some i := fun i hi => by
  obtain rfl : i = 0 := by omega
  rfl
theorem qL {P : Program} (T : oA P) {env : dD} {h : Hp} {a t : Nat} {r : List ResultVar} {p : AV} {i : TI} {xs cs : List AV} {off : Nat} {z : AV} (h1 : Ab.look env a = some p) (h2 : T.ti t = some i) (h3 : tY T env h r = some xs) (h4 : iQ h p = some (cs,off)) (h5 : oI i cs off = some z) : tY T env h (.cell a t :: r) = some (z :: xs) := by
  simp only [tY,h1,h2,h3,h4,h5]
structure RM (s : St) (C1 C : AB) (N : List (Nat × List Tk)) (p : Nat) (E : List Nat) (X : Hp) : Prop where
  h0 : X[0]? = some (oG s)
  h1 : X[1]? = some C1
  h2 : X[2]? = some C
  hp : X[p]? = some (.arr (nH N) 1)
  hn : uL X N
  nd : (0 :: 1 :: 2 :: p :: (E ++ N.map (·.1))).Nodup
theorem RM.lt {s : St} {C1 C : AB} {N : List (Nat × List Tk)} {p : Nat} {E : List Nat} {X : Hp} (h : RM s C1 C N p E X) : 2 < X.length ∧ p < X.length ∧ ∀ k,k ∈ N.map (·.1) → k < X.length :=
  ⟨(aA.1 h.h2).1,(aA.1 h.hp).1,fun k hk => by
    obtain ⟨e,he,rfl⟩ := aK.1 hk
    exact (aA.1 (h.hn e he)).1⟩
theorem RM.fr {s s' : St} {C1 C : AB} {N : List (Nat × List Tk)} {p : Nat} {E E' : List Nat} {X X' : Hp} (h : RM s C1 C N p E X) (h0 : X'[0]? = some (oG s')) (hk : ∀ k,k < X.length → k ≠ 0 → k ∉ E → X'[k]? = X[k]?) (hE : ∀ k,k ∈ E' → k ∈ E ∨ X.length ≤ k) (hEn : E'.Nodup) : RM s' C1 C N p E' X' := by
  have hnd := h.nd;obtain ⟨l1,l2,l3⟩ := h.lt;simp only [aP,aT,not_or,bH,fB] at hnd;obtain ⟨⟨a1,a2,a3,a4⟩,⟨b2,b3,b4⟩,⟨c1,c2⟩,⟨d1,d2⟩,e1,e2,e3⟩ := hnd;refine ⟨h0,(hk 1 (by omega) (by decide) b4.1).trans h.h1,(hk 2 l1 (by decide) c2.1).trans h.h2,(hk p l2 (fun e => a3 e.symm) d1).trans h.hp,fun e he => ?_,?_⟩
  · have hm : e.1 ∈ N.map (·.1) := aK.2 ⟨e,he,rfl⟩;exact (hk e.1 (l3 _ hm) (fun e0 => a4.2 (e0 ▸ hm)) (fun hE => e3 _ hE _ hm rfl)).trans (h.hn e he)
  · simp only [aP,aT,not_or,bH,fB];have hx : ∀ k,k < X.length → k ∉ E → k ∉ E' := fun k hk hn hm => by
      rcases hE k hm with h1 | h1
      · exact hn h1
      · omega
    exact ⟨⟨a1,a2,a3,hx 0 (by omega) a4.1,a4.2⟩,⟨b2,b3,hx 1 (by omega) b4.1,b4.2⟩,⟨c1,hx 2 l1 c2.1,c2.2⟩,⟨hx p l2 d1,d2⟩,hEn,e2,fun a ha b hb e => hx a (e ▸ l3 b hb) (fun h1 => e3 a h1 b hb e) ha⟩
theorem RM.own {s : St} {C1 C : AB} {N : List (Nat × List Tk)} {p q : Nat} {X : Hp} (h : RM s C1 C N p [q] X) : q ≠ 0 ∧ q ≠ 1 ∧ q ≠ 2 ∧ q ≠ p := by
  have hnd := h.nd;simp only [aP,aT,not_or,bH,cG,not_false_eq_true,and_true] at hnd;obtain ⟨⟨a1,a2,a3,a4⟩,⟨b2,b3,b4⟩,⟨c1,c2⟩,⟨d1,d2⟩,_⟩ := hnd;exact ⟨fun e => a4.1 e.symm,fun e => b4.1 e.symm,fun e => c2.1 e.symm,fun e => d1 e.symm⟩
theorem D4 {X : Hp} {a : AB} {k : Nat} : (X.set k a).length = X.length := eC
theorem RM.add {s : St} {C1 C C' : AB} {N : List (Nat × List Tk)} {p q : Nat} {X : Hp} {l : List Tk} (h : RM s C1 C N p [q] X) (hq : X[q]? = some (.arr (eZ l) 2)) (Z : AB) :
    RM s C1 C' (N ++ [(q,l)]) (X ++ [Z]).length [] ((((X ++ [Z]).set p AB.gone) ++ [AB.arr (nH (N ++ [(q,l)])) 1]).set 2 C') := by
  have hnd := h.nd;obtain ⟨l1,l2,l3⟩ := h.lt;have hql := (aA.1 hq).1;simp only [aP,aT,not_or,bH,fB,cG,not_false_eq_true,and_true] at hnd;obtain ⟨⟨a1,a2,a3,a4⟩,⟨b2,b3,b4⟩,⟨c1,c2⟩,⟨d1,d2⟩,e1,e2,e3⟩ := hnd;have hz : (X ++ [Z]).length = X.length + 1 := by simp
  have keep : ∀ {k : Nat} {b : AB},X[k]? = some b → k ≠ p → k ≠ 2 → ((((X ++ [Z]).set p AB.gone) ++ [AB.arr (nH (N ++ [(q,l)])) 1]).set 2 C')[k]? = some b := fun hk h1 h2 => fO h2 (bL (fO h1 (bL hk)));refine ⟨keep h.h0 a3 (by decide),keep h.h1 b3 (by decide),?_,?_,fun e he => ?_,?_⟩
  · exact gE (by simp;omega)
  · refine fO (by omega) ?_
    have e1 : ((X ++ [Z]).set p AB.gone).length = (X ++ [Z]).length := by simp
    rw [← e1];exact bY
  · rcases bH.1 he with he | he
    · have hm : e.1 ∈ N.map (·.1) := aK.2 ⟨e,he,rfl⟩;exact keep (h.hn e he) (fun e0 => d2 (e0 ▸ hm)) (fun e0 => c2.2 (e0 ▸ hm))
    · rw [bK.1 he];exact keep hq (fun e0 => d1 e0.symm) (fun e0 => c2.1 e0.symm)
  · rw [dI,hz];simp only [aP,aT,not_or,bH,fB,List.map_cons,List.map_nil,List.nil_append,cG,or_false,aI,not_false_eq_true,and_true];have hx : ∀ k,k ∈ N.map (·.1) → k ≠ X.length + 1 := fun k hk => by have := l3 k hk;omega
    refine ⟨⟨a1,a2,by omega,a4.2,a4.1⟩,⟨b2,by omega,b4.2,b4.1⟩,⟨by omega,c2.2,c2.1⟩,⟨fun hm => hx _ hm rfl,by omega⟩,e2,trivial,fun a ha b hb (e : a = b) => e3 b (.inl hb) a ha e.symm⟩
abbrev O9 (N : List (Nat × List Tk)) : Bool := N.any fun e => !e.2.isEmpty
theorem PX {N : List (Nat × List Tk)} {q : Nat} {l : List Tk} : O9 (N ++ [(q,l)]) = (O9 N || !l.isEmpty) := by simp [O9]
theorem UY {N : List (Nat × List Tk)} : (N.map (·.2)).all (·.isEmpty) = !O9 N := by
  unfold O9;rw [List.not_any_eq_all_not,zR5];congr 1;funext e;simp
theorem FN {l : List Tk} {t : Tk} : jB (l ++ [t]) = jB l + t.2 := by unfold jB;simp
theorem ML {t : Tk} (h : ¬ O7 t) : EY t := by unfold O7 at h;unfold EY;omega
theorem LZ {l : List Tk} (h : ∀ t,t ∈ l → EY t) : 0 ≤ jB l ∧ jB l ≤ 20000 * l.length := by
  induction l with
  | nil => decide
  | cons t l ih =>
    have h1 := ih fun t ht => h t (aF _ ht);have h2 := h t aL;unfold EY at h2;unfold jB at *;rw [List.map_cons,lE,List.length_cons];omega
end Go.Or
namespace Go.Proofs.YtdfmhddmddgniaaGreatDoor
open Go Go.Ab Go.Or Go.Wr
attribute [local irreducible] VC AW bJ bI eO jT
set_option maxHeartbeats 4000000
theorem DE (s : St) (hl : (s.getD []).length ≤ 1000000000) : bI Tryz.prog 109 [.ptr 0 0] (A7 s) (.i (cE s).1) (A7 (cE s).2 ++ [.gone]) := Y4 (GY s hl)
theorem JY (ws : List Wt) (due : Int) : bI Tryz.prog 92 [.rowE (bV ws) 3,.i due] [] (.b (iW ws due)) [] := by
  by_cases hl : ws.length ≤ 20
  · exact BE ws due (by omega)
  · have hll := gD ws;have h0 : iW ws due = false := by unfold iW;simp;omega
    rw [h0];refine dA T Tryz.func92 rfl rfl rfl rfl ?_
    (repeat' (first|refine wS ?_|refine wR ?_|refine wT ?_|(refine rg 0 (aV ?_))|(refine rg 1 (mW rfl (qW T rfl (vV (bE rfl rfl) (mV ?_))));refine bP rfl rfl ?_ ?_<;>(intro hb;rw [hb];(try simp only [nm] at hb);try (exfalso;omega));(all_goals (refine yN rfl (gT (qW T rfl (yV (gH rfl rfl) (pW rfl (mV ?_)))));refine bP rfl rfl ?_ ?_<;>(intro hb;rw [hb];(try simp only [nm] at hb);try (exfalso;omega))));(all_goals ((iterate 2 refine gF ?_);refine pW rfl (mV ?_);(iterate 2 refine gF ?_);refine pV ?_)))|(refine rg 2 (aV ?_))|refine nZ ?_));all_goals first | (exfalso;omega) | exact rQ
theorem RW (s0 : St) (hl : (s0.getD []).length ≤ 1000000000) : eO Tryz.prog 70 [.ptr 0 0] (A7 s0) (IP s0) := by
  have c0 := SL s0 hl;have hb0 := nT s0 59 0;have hn0 := zF s0 59;have hn1 := (nI s0 59 0).2;have hhd : gN s0 = iJ (fI s0 59 0).1.toNat (fI s0 59 0).2 := rfl;have hro : mE s0 = mE s0 := rfl
  conv at hro => rhs;unfold mE
  refine jS T Tryz.func70 rfl rfl rfl rfl ?_;generalize (fI s0 59 0).1 = n at *;generalize (fI s0 59 0).2 = s2 at *
  (repeat' (first|refine wS ?_|refine wB ?_|(refine rg 0 (dQ (dC T rfl) rfl (aV ?_)))|(refine rg 1 (dQ (dC T rfl) rfl ?_))|(refine rg 2 (mW rfl (bR [0] rfl rfl c0 rfl rfl (by decide) ⟨.inr rfl,trivial⟩ (by simp) rfl ?_));refine aV ?_)|refine nZ ?_));refine fY [(0,.ptr 0 0),(2,.ptr 1 0),(4,.ptr 2 0),(5,.i n)] [oG s2,.cells [.nils,.i 0,.i 0,.nils],.cells [.nils,.i 0,.i 0,.nils]] ⟨[0,1,2],rfl,(by repeat first|exact trivial|refine ⟨rfl,?_⟩),⟨.inr rfl,.inr rfl,.inr rfl,trivial⟩,by decide,AC _⟩ ?_
  refine rY 2 0 3 rfl rfl (by decide) ?_
  refine dR (X := {p : Nat × St × List Wt // iJ n.toNat s2 = (p.2.2 ++ (iJ p.1 p.2.1).1,(iJ p.1 p.2.1).2) ∧ (p.1 : Int) + p.2.2.length = n ∧ p.2.2.length + (p.2.1.getD []).length ≤ (s2.getD []).length}) (fun p => [(0,.ptr 0 0),(2,.ptr 1 0),(4,.ptr 2 0),(5,.i p.1.1)]) (fun p => [oG p.1.2.1,.cells [.nils,.i 0,.i 0,.nils],.cells [.sl 3 0 p.1.2.2.length 3,.i 0,.i 0,.nils],.arr (bV p.1.2.2) 3]) (fun p => p.1.1) ⟨(n.toNat,s2,[]),rfl,by dsimp only;simp;omega,by dsimp only;simp⟩ ⟨[0,1,2,3],rfl,⟨rfl,rfl,rfl,congrArg (fun z : Int => some (AV.i z)) (by dsimp only;omega),trivial⟩,⟨.inr rfl,.inr rfl,.inr rfl,.inr rfl,trivial⟩,by decide,AC _⟩ ?_
  rintro ⟨⟨k,s,L⟩,h1,h2,h3⟩;dsimp only at h1 h2 h3 ⊢;rw [h1] at hhd;have cL := KQ s;have hll := gD L;by_cases hk : 0 < k ∧ 0 < (s.getD []).length
  · obtain ⟨k,rfl⟩ : ∃ k',k = k' + 1 := ⟨k - 1,by omega⟩
    have hz := hk.2;have d1 := DE s (by omega)
    have e1 := yC hz;have d2 := DE (cE s).2 (by omega)
    have e2 := lA (s := (cE s).2);have d3 := DE (cE (cE s).2).2 (by omega)
    have e3 := lA (s := (cE (cE s).2).2);have hrec : iJ (k + 1) s = (((cE s).1,(cE (cE s).2).1,(cE (cE (cE s).2).2).1) :: (iJ k (cE (cE (cE s).2).2).2).1,(iJ k (cE (cE (cE s).2).2).2).2) := by rw [iJ,if_neg (by omega)]
    rw [hrec] at h1;clear hhd hro hrec;generalize (cE s).1 = wk at *;generalize (cE s).2 = t1 at *;generalize (cE t1).1 = wc at *;generalize (cE t1).2 = t2 at *;generalize (cE t2).1 = wu at *;generalize (cE t2).2 = t3 at *
    (repeat' (first|refine wS ?_|refine wB ?_|refine wK ?_|refine wT ?_|(refine rg 3 (mW rfl (vV (iE rfl rfl (by omega)) (mW rfl (yN rfl (gT (bR [0] rfl rfl cL rfl rfl (by decide) ⟨.inr rfl,trivial⟩ (by simp) rfl ?_))))));refine yV (iE rfl rfl (by omega)) (pV ?_))|refine nZ ?_));all_goals try (exfalso;omega)
    refine fY [(0,.ptr 0 0),(2,.ptr 1 0),(4,.ptr 2 0),(5,.i (k + 1 : Nat))] [oG s,.cells [.nils,.i 0,.i 0,.nils],.cells [.sl 3 0 L.length 3,.i 0,.i 0,.nils],.arr (bV L) 3] ⟨[0,1,2,3],rfl,(by repeat first|exact trivial|refine ⟨rfl,?_⟩),⟨.inr rfl,.inr rfl,.inr rfl,.inr (bM rfl rfl (oV _)),trivial⟩,by decide,AC _⟩ ?_
    (repeat' (first|(refine pM (id := 5) 143 [[],[0],[0,1],[],[3],[],[3,4,5],[],rM 3 5,rM 3 6,rM 3 7,rN 11,rN 12,rN 13,rN 14] (rM 24 14) [[],[],[],[24,25,26],[24,25,26],rM 24 5,[24,25,26],rM 24 7,[24,25,26],[24,25,26],[24,25,26],[],[],[],[]] [(4,0),(6,0),(8,0),(11,3),(14,2)] dZ rfl (by decide +kernel) (eI rfl rfl rfl rfl (by exact eA T rfl rfl rfl) ?_);refine eI rfl rfl rfl rfl (by exact eA T rfl rfl rfl) ?_;refine eI rfl rfl rfl rfl (by exact aX T rfl rfl rfl rfl) ?_;refine eI rfl rfl rfl rfl (by exact fD rfl) ?_;refine uU rfl rfl rfl rfl (bC rfl) (by exact G6 [0] rfl rfl (d1) (fun _=>rfl) rfl (by decide) (fun _=>⟨.inr rfl,trivial⟩) (by simp) rfl (fun _ _=>rfl) rfl rfl) ?_;refine eI rfl rfl rfl rfl (by exact fD rfl) ?_;refine uU rfl rfl rfl rfl (bC rfl) (by exact G6 [0] rfl rfl (d2) (fun _=>rfl) rfl (by decide) (fun _=>⟨.inr rfl,trivial⟩) (by simp) rfl (fun _ _=>rfl) rfl rfl) ?_;refine eI rfl rfl rfl rfl (by exact fD rfl) ?_;refine uU rfl rfl rfl rfl (bC rfl) (by exact G6 [0] rfl rfl (d3) (fun _=>rfl) rfl (by decide) (fun _=>⟨.inr rfl,trivial⟩) (by simp) rfl (fun _ _=>rfl) rfl rfl) ?_;refine eI rfl rfl rfl rfl (by exact gS T rfl rfl rfl rfl) ?_;refine V9 rfl rfl rfl rfl (by exact bO T rfl rfl (by decide) (by decide) rfl rfl rfl) rfl ?_;refine uU rfl rfl rfl rfl (bC rfl) (by exact sK T rfl rfl rfl rfl rfl rfl (by simp) (jA.whole rfl rfl) rfl (by simp;omega) (by simp;omega)) ?_;refine eI rfl rfl rfl rfl (by exact eA T rfl rfl rfl) ?_;refine eI rfl rfl rfl rfl (by exact eA T rfl rfl rfl) ?_;refine L1 rfl rfl rfl rfl (bC rfl) T rfl rfl rfl rfl rfl rfl (by decide) rfl ?_;refine uG rfl rfl rfl (by exact rfl) ?_)|(refine rg 4 (mW rfl (vV (fX rfl rfl (by omega) (by omega)) (aV ?_))))|refine nZ ?_));all_goals try (exfalso;omega)
    have hln : (L ++ [(wk,wc,wu)]).length = L.length + 1 := by simp
    all_goals exact ⟨⟨(k,t3,L ++ [(wk,wc,wu)]),by dsimp only;rw [h1];simp,by dsimp only;rw [hln];omega,by dsimp only;rw [hln];omega⟩,mG k,[0,1,2,8],rfl,⟨rfl,rfl,rfl,congrArg (fun z : Int => some (AV.i z)) (by dsimp only;omega),trivial⟩,⟨.inr rfl,.inr rfl,.inr (congrArg (fun n : Nat => some (AB.cells [.sl 8 0 n 3,.i 0,.i 0,.nils])) hln).symm,.inr (bM rfl (QL L (wk,wc,wu)) (oV _)),trivial⟩,by decide,AC _⟩
  · have hrec : iJ k s = ([],s) := by
      cases k with
      | zero => rfl
      | succ k => rw [iJ,if_pos (by omega)]
    rw [hrec,List.append_nil] at hhd;rw [hhd] at hro;dsimp only at hro;have d1 := GY s (by omega)
    have e1 := lA (s := s);have d2 := GY (cE s).2 (by omega)
    have e2 := lA (s := (cE s).2);have i1 := nI s 59 (-9223372036854775808);have i2 := nI (cE s).2 59 (-9223372036854775808);change _ ≤ (cE s).1 ∧ (cE s).1 ≤ _ at i1;change _ ≤ (cE (cE s).2).1 ∧ (cE (cE s).2).1 ≤ _ at i2;generalize (cE s).1 = due at *;generalize (cE s).2 = t1 at *;generalize (cE t1).1 = st at *;generalize (cE t1).2 = t2 at *;apply uI (I := Unit) (fun _ => [(0,.ptr 0 0),(2,.ptr 1 0),(4,.ptr 2 0)]) (fun _ => [oG s,.cells [.nils,.i 0,.i 0,.nils],.cells [.sl 3 0 L.length 3,.i 0,.i 0,.nils],.arr (bV L) 3]) (fun _ => True)
    case h1 =>
      intro rest;by_cases hk0 : 0 < k
      · (repeat' (first|refine wS ?_|refine wE ?_|refine kN rfl ?_|(refine rg 3 (mW rfl (vV (iE rfl rfl (by omega)) (mW rfl (yN rfl (gT (bR [0] rfl rfl cL rfl rfl (by decide) ⟨.inr rfl,trivial⟩ (by simp) rfl ?_))))));refine yV (iU rfl rfl (by omega)) (pV ?_))|(refine nZ ?_)));all_goals try (exfalso;omega)
        all_goals exact fY [(0,.ptr 0 0),(2,.ptr 1 0),(4,.ptr 2 0)] [oG s,.cells [.nils,.i 0,.i 0,.nils],.cells [.sl 3 0 L.length 3,.i 0,.i 0,.nils],.arr (bV L) 3] ⟨[0,1,2,3],rfl,(by repeat first|exact trivial|refine ⟨rfl,?_⟩),⟨.inr rfl,.inr rfl,.inr rfl,.inr (bM rfl rfl (oV _)),trivial⟩,by decide,AC _⟩ (rest () trivial)
      · (repeat' (first|refine wS ?_|refine wE ?_|refine kN rfl ?_|(refine rg 3 (mW rfl (vV (iU rfl rfl (by omega)) (mV ?_)));(iterate 3 refine gF ?_);refine pV ?_)|(refine nZ ?_)));all_goals try (exfalso;omega)
        all_goals exact fY [(0,.ptr 0 0),(2,.ptr 1 0),(4,.ptr 2 0)] [oG s,.cells [.nils,.i 0,.i 0,.nils],.cells [.sl 3 0 L.length 3,.i 0,.i 0,.nils],.arr (bV L) 3] ⟨[0,1,2,3],rfl,(by repeat first|exact trivial|refine ⟨rfl,?_⟩),⟨.inr rfl,.inr rfl,.inr rfl,.inr (bM rfl rfl (oV _)),trivial⟩,by decide,AC _⟩ (rest () trivial)
    rintro _ _
    (repeat' (first|refine wS ?_|(refine rg 6 (mW rfl (bR [0] rfl rfl d1 rfl rfl (by decide) ⟨.inr rfl,trivial⟩ (by simp) rfl ?_));refine mW rfl (bR [0] rfl rfl d2 rfl rfl (by decide) ⟨.inr rfl,trivial⟩ (by simp) rfl ?_);refine fW T rfl (fW T rfl (bA T rfl rfl rfl rfl rfl rfl (by decide) rfl (fW T rfl (fW T rfl (bA T rfl rfl rfl rfl rfl rfl (by decide) rfl ?_))))))|refine nZ ?_));refine W9 2 0 rfl rfl rfl hll.symm (N7 L) ?_
    have hL2 : L.length ≤ 1000000000 := by omega
    have hrw := JY L due;refine fY [(0,.ptr 0 0),(2,.ptr 1 0),(4,.ptr 2 0)] [oG t2,.cells [.nils,.i 0,.i 0,.nils],.cells [.rowE (bV L) 3,.i due,.i st,.nils]] ⟨[0,1,2],rfl,(by repeat first|exact trivial|refine ⟨rfl,?_⟩),⟨.inr rfl,.inr rfl,.inr rfl,trivial⟩,by decide,AC _⟩ ?_
    have hsl : (t2.getD []).length ≤ 1000000000 := by omega
    clear hhd h1 h2 h3 d1 d2 cL c0;cases hr : iW L due with
    | false =>
      rw [hr] at hrw hro;rw [if_pos (.inl rfl)] at hro
      (repeat' (first|refine wS ?_|refine wR ?_|refine wT ?_|(refine rg 7 (fW T rfl (eT T rfl (fW T rfl (eT T rfl (vV (kC (hrw)) (vV (cV rfl) (mV ?_)))))));(iterate 4 refine gF ?_);refine pW rfl (mV ?_);(iterate 4 refine gF ?_);refine pV ?_)|(refine rg 8 (lW T rfl (bA T rfl rfl rfl rfl rfl rfl (by decide) rfl (aV ?_))))|refine nZ ?_));all_goals first | (exfalso;omega) | exact ⟨.inl rfl,_,rfl,IP.fail hro L due st .nils (.inl rfl)⟩
    | true =>
      rw [hr] at hrw hro;by_cases hst : st < 0 ∨ 5 ≤ st
      · rw [if_pos (.inr hst)] at hro
        (repeat' (first|refine wS ?_|refine wR ?_|refine wT ?_|(refine wC rfl ?_ ?_<;>(intro hb;(try simp only [nm] at hb);try (exfalso;omega)))|(refine rg 7 (fW T rfl (eT T rfl (fW T rfl (eT T rfl (vV (kC (hrw)) (vV (cV rfl) (mW rfl (yP T rfl (yF T ?_)))))))));refine yO T rfl (yV (bE rfl rfl) (pW rfl (mV ?_)));refine bP rfl rfl ?_ ?_<;>(intro hb;rw [hb];(try simp only [nm] at hb);try (exfalso;omega));(all_goals first|(refine gT (fW T rfl (gT (fW T rfl (gT (lW T rfl (gT (vV (eN rfl rfl) ?_))))))))|(iterate 4 refine gF ?_));(all_goals (refine pV ?_)))|(refine rg 8 (lW T rfl (bA T rfl rfl rfl rfl rfl rfl (by decide) rfl (aV ?_))))|refine nZ ?_));all_goals first | (exfalso;omega) | exact ⟨.inl rfl,_,rfl,IP.fail hro L due st .nils (.inl rfl)⟩
      rw [if_neg (by simpa using hst)] at hro
      by_cases h1 : st = 1
      · subst h1;rw [if_neg (by decide)] at hro
        have hr20 := (qS hr).1
        (repeat' (first|refine wS ?_|refine wB ?_|refine wK ?_|refine wU ?_|(refine rg 7 (fW T rfl (eT T rfl (fW T rfl (eT T rfl (vV (kC (hrw)) (vV (cV rfl) (mW rfl (yP T rfl (yF T ?_)))))))));refine yO T rfl (yV (bE rfl rfl) (pW rfl (mW rfl (yP T rfl (yP T rfl (yO T rfl (yV (eN rfl rfl) (pV ?_)))))))))|(refine rg 9 (fW T rfl (eT T rfl (vV (pS rfl rfl) ?_))))|(refine rg 11 (aV ?_))|(refine rg 12 (fW T rfl (eT T rfl (qW T rfl (mV ?_)))))|refine nZ ?_));all_goals try (exfalso;omega)
        refine rY 2 3 1 rfl rfl (by decide) ?_
        refine lK (X := {x : Nat × St × List (Nat × List Tk) × Nat × Hp // x.1 ≤ L.length ∧ x.2.2.1.length = x.1 ∧ lX L t2 = ((lX (L.drop x.1) x.2.1).map fun y => (x.2.2.1.map (·.2) ++ y.1, y.2)) ∧ (x.2.1.getD []).length ≤ 1000000000 ∧ RM x.2.1 (.cells [.nils, .i 0, .i 0, .nils]) (.cells [.rowE (bV L) 3, .i due, .i 1, .sl x.2.2.2.1 0 x.2.2.1.length 1]) x.2.2.1 x.2.2.2.1 [] x.2.2.2.2}) (fun x => [(0, .ptr 0 0), (2, .ptr 1 0), (4, .ptr 2 0), (6, .b (O9 x.1.2.2.1)), (74, .rowE (bV L) 3), (75, .i (bV L).length), (76, .i (x.1.1 : Int))]) (fun x => x.1.2.2.2.2) (fun x => L.length - x.1.1)
          ⟨(0,t2,[],3,[oG t2,.cells [.nils,.i 0,.i 0,.nils],.cells [.rowE (bV L) 3,.i due,.i 1,.sl 3 0 0 1],.arr [] 1]),⟨bG _,rfl,by dsimp only;rw [cP];cases lX L t2 <;> rfl,hsl,⟨rfl,rfl,rfl,rfl,fun e he => (nomatch he),by simp⟩⟩⟩ (mP.of rfl (by repeat first|exact trivial|refine ⟨rfl,?_⟩)) ?_
        rintro ⟨⟨i,s,N,p,X⟩,o1,o2,o3,o4,o5⟩;dsimp only at o1 o2 o3 o4 o5 ⊢;subst o2;by_cases hil : N.length < L.length
        · have hg := yX hil;have hdr : lX (L.drop N.length) s = lX (L[N.length] :: L.drop (N.length + 1)) s := by rw [← aO hil]
          rw [lX] at hdr;have c0 := SL s o4;have hb0 := nT s 59 0;have hn0 := zF s 59;have hn1 := (nI s 59 0).2;generalize (fI s 59 0).1 = n at *;generalize (fI s 59 0).2 = s3 at *;have hwb := (qS hr).2.2 _ (aH hil);generalize L[N.length] = w at *;obtain ⟨wk,wc,wu⟩ := w;dsimp only at hg hdr hwb
          (repeat' (first|refine wS ?_|refine wB ?_|refine wK ?_|(refine wC rfl ?_ ?_<;>(intro hb;(try simp only [nm] at hb);try (exfalso;omega)))|(refine rg 13 (vV (bE rfl rfl) ?_))|(refine rg 14 (vV (ix T rfl (by omega) (jW L) hg) (lW T rfl (dQ (dC T rfl) rfl (bA T rfl rfl rfl rfl rfl rfl (by decide) (oC bY rfl rfl) ?_)))))|refine nZ ?_));all_goals try (exfalso;omega)
          refine fK 8 (cs := [.i wk,.i wc,.i wu]) rfl (gE (by simp)) rfl ?_
          rw [I8]
          (repeat' (first|refine wS ?_|(refine rg 15 (aV ?_))|refine nZ ?_));refine pY 9 2 rfl (by decide) ?_
          have hr1 : RM s (.cells [.nils,.i 0,.i 0,.nils]) (.cells [.rowE (bV L) 3,.i due,.i 1,.sl p 0 N.length 1]) N p [(X ++ [AB.gone]).length] (X ++ [AB.gone] ++ [AB.arr [] 2]) := o5.fr (bL (bL o5.h0)) (fun k hk _ _ => by rw [fU (by rw [aB];omega),fU hk]) (fun k hk => .inr (by rw [bK.1 hk,aB];omega)) (by simp)
          have hq1 : (X ++ [AB.gone] ++ [AB.arr [] 2])[(X ++ [AB.gone]).length]? = some (.arr (eZ []) 2) := bY;generalize (X ++ [AB.gone]).length = q at *;generalize X ++ [AB.gone] ++ [AB.arr [] 2] = X1 at *
          (repeat' (first|refine wS ?_|refine wB ?_|(refine rg 16 (aV ?_))|(refine rg 17 (mW rfl (bR [0] rfl rfl c0 rfl rfl (aP.2 ⟨cG,aI⟩) ⟨.inr hr1.h0,trivial⟩ (by simp) rfl ?_));refine aV ?_)|refine nZ ?_));have hz0 : 0 < X1.length := (aA.1 hr1.h0).1
          have hq0 := hr1.own.1;have hr2 : RM s3 (.cells [.nils,.i 0,.i 0,.nils]) (.cells [.rowE (bV L) 3,.i due,.i 1,.sl p 0 N.length 1]) N p [q] (X1.set 0 (oG s3)) := hr1.fr (gE hz0) (fun k hk h0 _ => eX h0) (fun k hk => .inl hk) (by simp)
          have hq2 : (X1.set 0 (oG s3))[q]? = some (.arr (eZ []) 2) := fO hq0 hq1;refine lK (X := {y : Nat × St × List Tk × Nat × Hp // gZ n.toNat s3 = ((gZ y.1 y.2.1).map fun z => (y.2.2.1 ++ z.1, z.2)) ∧ (y.1 : Int) + y.2.2.1.length = n ∧ y.2.2.1.length + (y.2.1.getD []).length ≤ (s3.getD []).length ∧ (∀ t, t ∈ y.2.2.1 → EY t) ∧ RM y.2.1 (.cells [.nils, .i 0, .i 0, .nils]) (.cells [.rowE (bV L) 3, .i due, .i 1, .sl p 0 N.length 1]) N p [y.2.2.2.1] y.2.2.2.2 ∧ y.2.2.2.2[y.2.2.2.1]? = some (.arr (eZ y.2.2.1) 2)}) (fun y => [(0, .ptr 0 0), (2, .ptr 1 0), (4, .ptr 2 0), (6, .b (O9 N)), (8, .pr [.i wk, .i wc, .i wu] 0), (9, .sl y.1.2.2.2.1 0 y.1.2.2.1.length 2), (10, .i (jB y.1.2.2.1)), (11, .i (y.1.1 : Int)), (74, .rowE (bV L) 3), (75, .i (bV L).length), (76, .i (N.length : Int))]) (fun y => y.1.2.2.2.2) (fun y => y.1.1)
            ⟨(n.toNat,s3,[],q,X1.set 0 (oG s3)),by dsimp only;cases gZ n.toNat s3 <;> rfl,by dsimp only;simp;omega,by dsimp only;simp,fun t ht => (nomatch ht),hr2,hq2⟩ (mP.of (List.append_nil _) ⟨rfl,rfl,rfl,rfl,rfl,rfl,rfl,congrArg (fun z : Int => some (AV.i z)) (by dsimp only;omega),rfl,rfl,rfl,trivial⟩) ?_
          clear hr1 hq1 hr2 hq2 hg o5;rintro ⟨⟨j,s,l,q,Y⟩,g1,g2,g3,g4,g5,g6⟩;dsimp only at g1 g2 g3 g4 g5 g6 ⊢;have hll2 := kT l;have hsn := LZ g4;have hy0 : 0 < Y.length := (aA.1 g5.h0).1;have cL := KQ s;have hso := DB g5.h0;by_cases hk2 : 0 < j ∧ 0 < (s.getD []).length
          · obtain ⟨j,rfl⟩ : ∃ j',j = j' + 1 := ⟨j - 1,by omega⟩
            have d1 := GY s (by omega)
            have e1 := yC hk2.2;have d2 := GY (cE s).2 (by omega)
            have e2 := lA (s := (cE s).2);have hrt : gZ (j + 1) s = if O7 ((cE s).1,(cE (cE s).2).1) then none else (gZ j (cE (cE s).2).2).map fun x => (((cE s).1,(cE (cE s).2).1) :: x.1,x.2) := by rw [gZ,if_neg (by omega)]
            generalize (cE s).1 = ta at *;generalize (cE s).2 = u1 at *;generalize (cE u1).1 = tn at *;generalize (cE u1).2 = u2 at *
            (repeat' (first|refine wS ?_|refine wB ?_|refine wK ?_|refine wT ?_|(refine rg 18 (mW rfl (vV (iE rfl rfl (by omega)) (mW rfl (yN rfl (gT (bR [0] rfl rfl cL rfl rfl (aP.2 ⟨cG,aI⟩) ⟨.inr g5.h0,trivial⟩ (by simp) rfl ?_))))));refine yV (iE rfl rfl (by omega)) (pV ?_))|refine nZ ?_));all_goals try (exfalso;omega)
            refine jH [(0,.ptr 0 0),(2,.ptr 1 0),(4,.ptr 2 0),(6,.b (O9 N)),(8,.pr [.i wk,.i wc,.i wu] 0),(9,.sl q 0 l.length 2),(10,.i (jB l)),(11,.i ((j + 1 : Nat) : Int)),(74,.rowE (bV L) 3),(75,.i (bV L).length),(76,.i (N.length : Int))] Y (mP.of ((List.append_nil _).trans hso) (by repeat first|exact trivial|refine ⟨rfl,?_⟩)) ?_
            (repeat' (first|refine wS ?_|(refine rg 20 (mW rfl (bR [0] rfl rfl d1 rfl rfl (aP.2 ⟨cG,aI⟩) ⟨.inr g5.h0,trivial⟩ (by simp) rfl ?_));refine mW rfl (bR [0] rfl rfl d2 rfl rfl (aP.2 ⟨cG,aI⟩) ⟨.inr (bL (gE hy0)),trivial⟩ (by simp) rfl ?_);refine vV (by exact gS T rfl rfl rfl rfl) ?_;refine dQ (dC T rfl) rfl (bA T rfl rfl rfl rfl rfl rfl (by decide) (oC bY rfl rfl) ?_))|refine nZ ?_));all_goals try (exfalso;omega)
            refine fK 12 (cs := [.i ta,.i tn]) rfl (gE (by simp [gM])) rfl ?_
            refine jH [(0,.ptr 0 0),(2,.ptr 1 0),(4,.ptr 2 0),(6,.b (O9 N)),(8,.pr [.i wk,.i wc,.i wu] 0),(9,.sl q 0 l.length 2),(10,.i (jB l)),(11,.i ((j + 1 : Nat) : Int)),(12,.pr [.i ta,.i tn] 0),(74,.rowE (bV L) 3),(75,.i (bV L).length),(76,.i (N.length : Int))] (Y.set 0 (oG u2) ++ [.gone]) (mP.of (by
              show List.set (List.set ((List.set (List.set Y 0 (oG u1) ++ []) 0 (oG u2) ++ []) ++ [_]) (List.length (List.set (List.set Y 0 (oG u1) ++ []) 0 (oG u2) ++ [])) _) (List.length (List.set (List.set Y 0 (oG u1) ++ []) 0 (oG u2) ++ [])) AB.gone = _
              rw [I8,List.append_nil,List.append_nil,fG]) (by repeat first|exact trivial|refine ⟨rfl,?_⟩)) ?_
            have hr2 : RM u2 (.cells [.nils,.i 0,.i 0,.nils]) (.cells [.rowE (bV L) 3,.i due,.i 1,.sl p 0 N.length 1]) N p [q] (Y.set 0 (oG u2) ++ [AB.gone]) := g5.fr (bL (gE hy0)) (fun k hk h0 _ => by rw [fU (by rw [D4];exact hk),eX h0]) (fun k hk => .inl hk) (by simp)
            have hq2 : (Y.set 0 (oG u2) ++ [AB.gone])[q]? = some (.arr (eZ l) 2) := bL (fO g5.own.1 g6);clear g5 g6 hso hy0;generalize Y.set 0 (oG u2) ++ [AB.gone] = Y2 at *;by_cases hbd : O7 (ta,tn)
            · rw [if_pos hbd] at hrt;rw [hrt] at g1;have hno : mE s0 = none := by rw [hro,o3,hdr,g1];rfl
              have hbd2 : ta < 0 ∨ 3000 ≤ ta ∨ tn < 1 ∨ 20000 < tn := hbd
              (repeat' (first|refine wS ?_|refine wR ?_|refine wT ?_|(refine wC rfl ?_ ?_<;>(intro hb;(try simp only [nm] at hb);try (exfalso;omega)))|(refine rg 21 (fW T rfl (vV (aX T rfl rfl rfl rfl) (vV (bE rfl rfl) (mV ?_))));refine bP rfl rfl ?_ ?_<;>(intro hb;rw [hb];(try simp only [nm] at hb);try (exfalso;omega));(all_goals first|(refine gT (fW T rfl (gT (vV (aX T rfl rfl rfl rfl) (gT (vV (eN rfl rfl) ?_))))))|(iterate 3 refine gF ?_));(all_goals (refine pW rfl (mV ?_)));(all_goals first|(refine gK ?_)|(refine bP rfl rfl ?_ ?_<;>(intro hb;rw [hb];(try simp only [nm] at hb);try (exfalso;omega))));(all_goals first|(refine gT (fW T rfl (gT (vV (aX T rfl rfl rfl rfl) (gT (vV (bE rfl rfl) ?_))))))|(iterate 3 refine gF ?_));(all_goals (refine pW rfl (mV ?_)));(all_goals first|(refine gK ?_)|(refine bP rfl rfl ?_ ?_<;>(intro hb;rw [hb];(try simp only [nm] at hb);try (exfalso;omega))));(all_goals first|(refine gT (fW T rfl (gT (vV (aX T rfl rfl rfl rfl) (gT (vV (gH rfl rfl) ?_))))))|(iterate 3 refine gF ?_));(all_goals (refine pV ?_)))|(refine rg 22 (vV (by exact aX T rfl rfl (bW hr2.h2) rfl) ?_);refine bA T rfl rfl rfl rfl rfl rfl (by decide) (oC hr2.h1 rfl rfl) (aV ?_))|refine nZ ?_));all_goals first | (exfalso;omega) | exact ⟨.inl rfl,_,qL T rfl rfl rfl (bW (gE (aA.1 hr2.h1).1)) rfl,IP.fail hno L due 1 (.sl p 0 N.length 1) (.inr ⟨p,_,rfl⟩)⟩
            · rw [if_neg hbd] at hrt;rw [hrt] at g1;have hbd2 : ¬ (ta < 0 ∨ 3000 ≤ ta ∨ tn < 1 ∨ 20000 < tn) := hbd;have hta := I5 l (ta,tn);dsimp only at hta;have hY2 := hr2.lt.1
              (repeat' (first|refine wS ?_|refine wK ?_|(refine wC rfl ?_ ?_<;>(intro hb;(try simp only [nm] at hb);try (exfalso;omega)))|(refine rg 21 (fW T rfl (vV (aX T rfl rfl rfl rfl) (vV (bE rfl rfl) (mV ?_))));refine bP rfl rfl ?_ ?_<;>(intro hb;rw [hb];(try simp only [nm] at hb);try (exfalso;omega));(all_goals (refine yP T rfl (yV (aX T rfl rfl rfl rfl) (yV (eN rfl rfl) (pW rfl (mV ?_))));refine bP rfl rfl ?_ ?_<;>(intro hb;rw [hb];(try simp only [nm] at hb);try (exfalso;omega))));(all_goals (refine yP T rfl (yV (aX T rfl rfl rfl rfl) (yV (bE rfl rfl) (pW rfl (mV ?_))));refine bP rfl rfl ?_ ?_<;>(intro hb;rw [hb];(try simp only [nm] at hb);try (exfalso;omega))));(all_goals (refine yP T rfl (yV (aX T rfl rfl rfl rfl) (yV (gH rfl rfl) (pV ?_))))))|(refine rg 23 (mW rfl (fW T rfl (vV (aX T rfl rfl rfl rfl) (vV (eD rfl rfl (by omega) (by omega)) (aV ?_))))))|(refine rg 24 (mW rfl (vV (aX T rfl rfl rfl rfl) (dQ (by exact bO T rfl rfl (by decide) (by decide) rfl rfl rfl) rfl ?_)));refine fH T rfl rfl rfl rfl rfl (bL hq2) (by simp) (jA.whole bY rfl) rfl (by simp;omega) (by simp;omega) rfl ?_;refine aV ?_)|(refine rg 19 (mW rfl (vV (fX rfl rfl (by omega) (by omega)) (aV ?_))))|refine nZ ?_));all_goals try (exfalso;omega)
              have hok := ML hbd;have hln : (l ++ [(ta,tn)]).length = l.length + 1 := by simp
              have hsu : jB (l ++ [(ta,tn)]) = jB l + tn := FN;have hYl : ((Y2 ++ [AB.arr [[AV.i ta,AV.i tn]] 2]).set q .gone).length = (Y2 ++ [AB.arr [[AV.i ta,AV.i tn]] 2]).length := D4;have hr3 : RM u2 (.cells [.nils,.i 0,.i 0,.nils]) (.cells [.rowE (bV L) 3,.i due,.i 1,.sl p 0 N.length 1]) N p [(Y2 ++ [AB.arr [[AV.i ta,AV.i tn]] 2]).length] ((Y2 ++ [AB.arr [[AV.i ta,AV.i tn]] 2]).set q AB.gone ++ [AB.arr (eZ (l ++ [(ta,tn)])) 2]) :=
                hr2.fr (bL (fO (fun e => hr2.own.1 e.symm) (bL hr2.h0))) (fun k hk h0 hE => by rw [fU (by rw [hYl,aB];omega),eX (fun e => hE (bK.2 e)),fU hk]) (fun k hk => .inr (by rw [bK.1 hk,aB];omega)) (by simp)
              have hq3 : ((Y2 ++ [AB.arr [[AV.i ta,AV.i tn]] 2]).set q AB.gone ++ [AB.arr (eZ (l ++ [(ta,tn)])) 2])[(Y2 ++ [AB.arr [[AV.i ta,AV.i tn]] 2]).length]? = some (.arr (eZ (l ++ [(ta,tn)])) 2) := by rw [← hYl];exact bY
              all_goals exact ⟨⟨(j,u2,l ++ [(ta,tn)],_,_),by dsimp only;rw [g1,IU];congr 1;funext z;simp,by dsimp only;rw [hln];omega,by dsimp only;rw [hln];omega,fun t ht => (by
                rcases bH.1 ht with ht | ht
                · exact g4 t ht
                · rw [bK.1 ht];exact hok),hr3,hq3⟩,mG j,mP.of (by dsimp only;rw [← hta];rfl) ⟨rfl,rfl,rfl,rfl,rfl,(by dsimp only;rw [hln];rfl),(by dsimp only;rw [hsu];rfl),congrArg (fun z : Int => some (AV.i z)) (by dsimp only;omega),rfl,rfl,rfl,trivial⟩⟩
          · have hrt : gZ j s = some ([],s) := by
              cases j with
              | zero => rfl
              | succ j => rw [gZ,if_pos (by omega)]
            rw [hrt] at g1;have g1' : gZ n.toNat s3 = some (l,s) := by rw [g1];simp
            rw [g1'] at hdr;dsimp only [Option.bind_some] at hdr;apply uI (I := Unit) (fun _ => [(0,.ptr 0 0),(2,.ptr 1 0),(4,.ptr 2 0),(6,.b (O9 N)),(8,.pr [.i wk,.i wc,.i wu] 0),(9,.sl q 0 l.length 2),(10,.i (jB l)),(74,.rowE (bV L) 3),(75,.i (bV L).length),(76,.i (N.length : Int))]) (fun _ => Y) (fun _ => True)
            case h1 =>
              intro rest;by_cases hj0 : 0 < j
              · (repeat' (first|refine wS ?_|refine wE ?_|refine kN rfl ?_|(refine rg 18 (mW rfl (vV (iE rfl rfl (by omega)) (mW rfl (yN rfl (gT (bR [0] rfl rfl cL rfl rfl (aP.2 ⟨cG,aI⟩) ⟨.inr g5.h0,trivial⟩ (by simp) rfl ?_))))));refine yV (iU rfl rfl (by omega)) (pV ?_))|(refine nZ ?_)));all_goals try (exfalso;omega)
                all_goals exact jH _ _ (mP.of ((List.append_nil _).trans hso) (by repeat first|exact trivial|refine ⟨rfl,?_⟩)) (rest () trivial)
              · (repeat' (first|refine wS ?_|refine wE ?_|refine kN rfl ?_|(refine rg 18 (mW rfl (vV (iU rfl rfl (by omega)) (mV ?_)));(iterate 3 refine gF ?_);refine pV ?_)|(refine nZ ?_)));all_goals try (exfalso;omega)
                all_goals exact jH _ _ (mP.of rfl (by repeat first|exact trivial|refine ⟨rfl,?_⟩)) (rest () trivial)
            rintro _ _;by_cases hcnt : wc < jB l
            · rw [if_pos hcnt] at hdr;have hno : mE s0 = none := by rw [hro,o3,hdr];rfl
              (repeat' (first|refine wS ?_|refine wR ?_|refine wT ?_|(refine rg 25 (mW rfl (fW T rfl (vV (aX T rfl rfl rfl rfl) (vV (iE rfl rfl (by omega)) ?_)))))|(refine rg 26 (vV (by exact aX T rfl rfl (bW g5.h2) rfl) ?_);refine bA T rfl rfl rfl rfl rfl rfl (by decide) (oC g5.h1 rfl rfl) (aV ?_))|refine nZ ?_));all_goals first | (exfalso;omega) | exact ⟨.inl rfl,_,qL T rfl rfl rfl (bW (gE (aA.1 g5.h1).1)) rfl,IP.fail hno L due 1 (.sl p 0 N.length 1) (.inr ⟨p,_,rfl⟩)⟩
            · rw [if_neg hcnt] at hdr;have hoa := DL N q l;have h2p := g5.lt.1;have hpp := g5.hp;have hp2 : p ≠ 2 := fun e => by
                have := g5.nd;rw [e] at this;simp at this
              have hRA := g5.add (C' := .cells [.rowE (bV L) 3,.i due,.i 1,.sl (Y ++ [AB.arr [[AV.sl q 0 l.length 2]] 1]).length 0 (N.length + 1) 1]) g6 (AB.arr [[AV.sl q 0 l.length 2]] 1);have hNl : (N ++ [(q,l)]).length = N.length + 1 := by simp
              have hxx : lX L t2 = ((lX (L.drop (N.length + 1)) s).map fun y => ((N ++ [(q,l)]).map (·.2) ++ y.1,y.2)) := by rw [o3,hdr,IU];congr 1;funext z;simp
              have hAN := PX (N := N) (q := q) (l := l);rw [SS l] at hAN;rw [← hNl] at hRA;cases han : O9 N with
              | true =>
                (repeat' (first|refine wS ?_|refine wK ?_|refine wU ?_|(refine rg 25 (mW rfl (fW T rfl (vV (aX T rfl rfl rfl rfl) (vV (iU rfl rfl (by omega)) ?_)))))|(refine rg 27 (zN6 ?_);(iterate 3 refine gF ?_);refine pW rfl (aV ?_))|(refine rg 28 (fW T rfl (vV (by exact aX T rfl rfl (bW g5.h2) rfl) ?_));refine mW rfl (dQ (by exact bO T rfl rfl (by decide) (by decide) rfl rfl rfl) rfl ?_);refine fH T rfl rfl rfl rfl rfl (bL hpp) (by simp) (jA.whole bY rfl) rfl (by simp;omega) (by simp;omega) rfl ?_;refine fV T ?_;refine bA T rfl rfl rfl rfl rfl rfl (by decide) (oC (bL (fO (fun e=>hp2 e.symm) (bL g5.h2))) rfl rfl) ?_)|(refine rg 29 (vV (eD rfl rfl (by omega) (by omega)) (mV ?_)))|refine nZ ?_));all_goals try (exfalso;omega)
                rw [han,Bool.true_or] at hAN
                all_goals exact ⟨⟨(N.length + 1,s,N ++ [(q,l)],_,_),hil,hNl,hxx,by dsimp only;omega,hRA⟩,by dsimp only;omega,mP.of (by dsimp only;rw [← hoa,hNl];rfl) (by dsimp only;rw [hAN];(repeat (first | exact trivial | refine ⟨rfl,?_⟩)))⟩
              | false =>
                rw [han,Bool.false_or] at hAN
                (repeat' (first|refine wS ?_|refine wK ?_|refine wU ?_|(refine rg 25 (mW rfl (fW T rfl (vV (aX T rfl rfl rfl rfl) (vV (iU rfl rfl (by omega)) ?_)))))|(refine rg 27 (dS rfl (yN rfl (gT (qW T rfl (yV (gH rfl rfl) (pW rfl (aV ?_))))))))|(refine rg 28 (fW T rfl (vV (by exact aX T rfl rfl (bW g5.h2) rfl) ?_));refine mW rfl (dQ (by exact bO T rfl rfl (by decide) (by decide) rfl rfl rfl) rfl ?_);refine fH T rfl rfl rfl rfl rfl (bL hpp) (by simp) (jA.whole bY rfl) rfl (by simp;omega) (by simp;omega) rfl ?_;refine fV T ?_;refine bA T rfl rfl rfl rfl rfl rfl (by decide) (oC (bL (fO (fun e=>hp2 e.symm) (bL g5.h2))) rfl rfl) ?_)|(refine rg 29 (vV (eD rfl rfl (by omega) (by omega)) (mV ?_)))|refine nZ ?_));all_goals try (exfalso;omega)
                all_goals exact ⟨⟨(N.length + 1,s,N ++ [(q,l)],_,_),hil,hNl,hxx,by dsimp only;omega,hRA⟩,by dsimp only;omega,mP.of (by dsimp only;rw [← hoa,hNl];rfl) (by dsimp only;rw [hAN];(repeat (first | exact trivial | refine ⟨rfl,?_⟩)))⟩
        · have hrn : lX L t2 = some (N.map (·.2),s) := by
            rw [o3,dH (by omega)]
            simp [lX]
          rw [hrn] at hro;dsimp only [Option.bind_some] at hro;rw [UY] at hro;have h1l := (aA.1 o5.h1).1;have hnd := o5.nd;simp only [aP,aT,not_or,List.nil_append] at hnd;cases han : O9 N with
          | false =>
            rw [han,Bool.not_false,if_pos rfl] at hro
            (repeat' (first|refine wS ?_|refine wR ?_|refine wE ?_|(refine wC rfl ?_ ?_<;>(intro hb;(try simp only [nm] at hb);try (exfalso;omega)))|(refine rg 13 (vV (bE rfl rfl) ?_))|(refine rg 30 (vV (by exact aX T rfl rfl (bW o5.h2) rfl) ?_);refine mW rfl (bA T rfl rfl rfl rfl rfl rfl (by decide) (oC o5.h1 rfl rfl) (aV ?_)))|refine nZ ?_));all_goals first | (exfalso;omega) | exact ⟨.inl rfl,_,qL T rfl rfl rfl (bW (gE h1l)) rfl,IP.fail hro L due 1 (.sl p 0 N.length 1) (.inr ⟨p,_,rfl⟩)⟩
          | true =>
            rw [han,Bool.not_true,if_neg (by decide)] at hro
            have key : ∀ c,IP s0 (.tup [.agg (iT ⟨L,due,1,N.map (·.2)⟩ (.sl p 0 N.length 1)),.b true]) (X.set 1 c) := fun c =>
              IP.ok (B := p :: N.map (·.1)) hro (fO (by decide) o5.h0) (.inr ⟨p,N,rfl,fO (fun e => hnd.2.1.2.1 e.symm) o5.hp,fun e he => fO (fun e1 => hnd.2.1.2.2 (e1 ▸ aK.2 ⟨e,he,rfl⟩)) (o5.hn e he),rfl,rfl,aP.2 hnd.2.2.2⟩) (fun k hk => by
                rcases aT.1 hk with rfl | hk
                · have := hnd.1.2.2.1;omega
                · have : k ≠ 0 := fun e => hnd.1.2.2.2 (e ▸ hk)
                  omega)
            (repeat' (first|refine wS ?_|refine wR ?_|refine wE ?_|(refine wC rfl ?_ ?_<;>(intro hb;(try simp only [nm] at hb);try (exfalso;omega)))|(refine rg 13 (vV (bE rfl rfl) ?_))|(refine rg 30 (vV (by exact aX T rfl rfl (bW o5.h2) rfl) ?_);refine mW rfl (bA T rfl rfl rfl rfl rfl rfl (by decide) (oC o5.h1 rfl rfl) (aV ?_)))|refine nZ ?_));all_goals first | (exfalso;omega) | exact ⟨.inl rfl,_,qL T rfl rfl rfl (bW (gE h1l)) rfl,key _⟩
      · rw [if_pos h1] at hro
        (repeat' (first|refine wS ?_|refine wK ?_|refine wR ?_|refine wT ?_|(refine wC rfl ?_ ?_<;>(intro hb;(try simp only [nm] at hb);try (exfalso;omega)))|(refine rg 7 (fW T rfl (eT T rfl (fW T rfl (eT T rfl (vV (kC (hrw)) (vV (cV rfl) (mW rfl (yP T rfl (yF T ?_)))))))));refine yO T rfl (yV (bE rfl rfl) (pW rfl (mV ?_)));refine bP rfl rfl ?_ ?_<;>(intro hb;rw [hb];(try simp only [nm] at hb);try (exfalso;omega));(all_goals (refine yP T rfl (yP T rfl (yO T rfl (yV (eN rfl rfl) (pV ?_)))))))|(refine rg 9 (fW T rfl (eT T rfl (vV (qQ rfl rfl h1) ?_))))|(refine rg 10 (lW T rfl (bA T rfl rfl rfl rfl rfl rfl (by decide) rfl (aV ?_))))|refine nZ ?_));all_goals first | (exfalso;omega) | exact ⟨.inl rfl,_,rfl,IP.ok hro rfl (.inl ⟨rfl,rfl,rfl⟩) (fun k hk => nomatch hk)⟩
end Go.Proofs.YtdfmhddmddgniaaGreatDoor
namespace Go.Or
open Go Go.Ab Go.Wr Go.Proofs.YtdfmhddmddgniaaGreatDoor
theorem mU.ren {o o' : Hp} {θ : Nat → Nat} {x : AV} {tk : List (List Tk)} {B : List Nat} (h : mU o x tk B) (hg : ∀ k,k ∈ B → ∀ b,o[k]? = some b → o'[θ k]? = some (b.map θ)) (hi : ∀ a,a ∈ B → ∀ b,b ∈ B → θ a = θ b → a = b) : mU o' (x.map θ) tk (B.map θ) := by
  rcases h with ⟨rfl,rfl,rfl⟩ | ⟨p,N,rfl,h2,h3,rfl,rfl,h6⟩
  · exact .inl ⟨rfl,rfl,rfl⟩
  · refine .inr ⟨θ p,N.map fun e => (θ e.1,e.2),?_,?_,fun e he => ?_,by simp [Function.comp_def],by simp [Function.comp_def],?_⟩
    · show AV.sl (θ p) 0 N.length 1 = _;rw [bF]
    · rw [hg p aL _ h2];show some (AB.arr ((nH N).map (AV.mapL θ)) 1) = _;simp only [nH,nR,Function.comp_def];rfl
    · obtain ⟨f,hf,rfl⟩ := aK.1 he;have h4 := hg f.1 (aF _ (aK.2 ⟨f,hf,rfl⟩)) _ (h3 f hf);dsimp only;rw [h4];show some (AB.arr ((eZ f.2).map (AV.mapL θ)) 2) = _;rw [jI _ (oF _)]
    · unfold List.Nodup;rw [VN];exact List.Pairwise.imp_of_mem (fun ha hb h e => h (hi _ ha _ hb e)) h6
theorem lR.ren {o o' : Hp} {θ : Nat → Nat} {pb po : Nat} {L : OL} (h : lR o pb po L) (hg : ∀ k,k ∈ B1 pb po L → ∀ b,o[k]? = some b → o'[θ k]? = some (b.map θ)) (hi : ∀ a,a ∈ B1 pb po L → ∀ b,b ∈ B1 pb po L → θ a = θ b → a = b) :
    lR o' (θ pb) (θ po) (L.map fun e => (e.1,e.2.1.map θ,e.2.2.map θ)) := by
  have hm : ∀ {e : Od × AV × List Nat},e ∈ L → ∀ k,k ∈ e.2.2 → k ∈ B1 pb po L := fun he k hk => aF _ (aF _ (eS.2 ⟨_,he,hk⟩));refine ⟨?_,?_,fun e he => ?_,?_⟩
  · rw [hg pb (by simp) _ h.b,bF];rfl
  · rw [hg po (by simp) _ h.o]
    show some (AB.arr ((L.map fun e => iT e.1 e.2.1).map (AV.mapL θ)) 4) = _;rw [nR,nR];rfl
  · obtain ⟨f,hf,rfl⟩ := aK.1 he;exact (h.n f hf).ren (fun k hk => hg k (hm hf k hk)) fun a ha b hb => hi a (hm hf a ha) b (hm hf b hb)
  · have e : θ pb :: θ po :: (L.map fun e => (e.1,e.2.1.map θ,e.2.2.map θ)).flatMap (·.2.2) = (B1 pb po L).map θ := by
      simp only [List.map_cons,List.flatMap_map,List.map_flatMap]
    rw [e];unfold List.Nodup;rw [VN];exact List.Pairwise.imp_of_mem (fun ha hb h e => h (hi _ ha _ hb e)) h.nd
theorem K6 {H o : Hp} {k : Nat} {b : AB} (hk : o[k]? = some b) : (H ++ o.map (AB.map (· + H.length)))[k + H.length]? = some (b.map (· + H.length)) := by
  rw [aE (by omega),QC,aS,hk];rfl
theorem zR.shift {H o : Hp} {pb : Nat} {bk : Bk} {A : List Nat} (h : zR o pb bk A) : ∃ A',zR (H ++ o.map (AB.map (· + H.length))) (pb + H.length) bk A' ∧ ∀ k,k ∈ A' → H.length ≤ k := by
  obtain ⟨po,L,h1,rfl,rfl⟩ := h;have hr := h1.ren (o' := H ++ o.map (AB.map (· + H.length))) (θ := (· + H.length)) (fun k _ b hb => K6 hb) (fun a _ b _ e => by omega)
  refine ⟨_,⟨_,_,hr,by simp [Function.comp_def],rfl⟩,fun k hk => ?_⟩
  rcases aT.1 hk with rfl | hk
  · omega
  rcases aT.1 hk with rfl | hk
  · omega
  obtain ⟨e,he,hk⟩ := eS.1 hk;obtain ⟨f,_,rfl⟩ := aK.1 he;obtain ⟨m,_,rfl⟩ := aK.1 hk;omega
theorem lR.addN {H H' : Hp} {pb po po' : Nat} {L : OL} (h : lR H pb po L) (o' : Od) (x' : AV) (B : List Nat) (hpo' : H.length ≤ po')
    (hpb : H'[pb]? = some (.cells [.sl po' 0 (L.length + 1) 4])) (hpo : H'[po']? = some (.arr ((L.map fun e => iT e.1 e.2.1) ++ [iT o' x']) 4)) (hk : ∀ k,k < H.length → k ≠ po → k ≠ pb → H'[k]? = H[k]?)
    (hn : mU H' x' o'.tk B) (hB : ∀ k,k ∈ B → k ∉ B1 pb po L ∧ k ≠ po') : lR H' pb po' (L ++ [(o',x',B)]) := by
  have hnd := h.nd;have hlt := h.lt;simp only [aP,aT,not_or] at hnd;obtain ⟨⟨n1,n2⟩,n3,n4⟩ := hnd;have hpbl := hlt pb (by simp)
  have hfl : ∀ k,k ∈ L.flatMap (·.2.2) → k < H.length := fun k hk => hlt k (aF _ (aF _ hk));refine ⟨by rw [hpb,aB,bZ],by rw [hpo];simp,fun f hf => ?_,?_⟩
  · rcases bH.1 hf with hf | hf
    · refine (h.n f hf).frame fun k hkf => ?_
      have hm : k ∈ L.flatMap (·.2.2) := eS.2 ⟨f,hf,hkf⟩;exact hk k (hfl k hm) (fun e1 => n3 (e1 ▸ hm)) (fun e1 => n2 (e1 ▸ hm))
    · rw [bK.1 hf];exact hn
  · rw [gR];simp only [gX,mH,List.append_nil,aP,aT,not_or,bH,fB];have hx : ∀ k,k ∈ B → k ≠ pb ∧ k ∉ L.flatMap (·.2.2) := fun k hk => by
      have := (hB k hk).1;simp only [aT,not_or] at this;exact ⟨this.1,this.2.2⟩
    exact ⟨⟨by omega,n2,fun hm => (hx pb hm).1 rfl⟩,⟨fun hm => by have := hfl _ hm;omega,fun hm => (hB _ hm).2 rfl⟩,n4,hn.nd,fun a ha b hb e => (hx b hb).2 (e ▸ ha)⟩
theorem PB {o : Hp} {b : AB} (h : o[0]? = some b) : o = b :: o.drop 1 := by
  cases o with
  | nil => simp at h
  | cons c o => simp at h;rw [h];rfl
theorem zO {N k : Nat} (h : 1 ≤ k) : iG [0] N 1 k = N + (k - 1) := by
  unfold iG;rw [bU (by simp;omega)]
theorem zA8 {X Z : Hp} {s s' : St} {po : Nat} {L : OL} (h0 : X[0]? = some (oG s)) (g7 : lR X 1 po L) (g8 : 0 ∉ B1 1 po L) {x : AV} {tk : List (List Tk)} {B : List Nat} (hn : mU (oG s' :: Z) x tk B) (hB : ∀ k,k ∈ B → 1 ≤ k) :
    lR (X.set 0 (oG s') ++ Z.map (AB.map (iG [0] X.length 1))) 1 po L ∧ mU (X.set 0 (oG s') ++ Z.map (AB.map (iG [0] X.length 1))) (x.map (iG [0] X.length 1)) tk (B.map (iG [0] X.length 1)) ∧ (∀ k,k ∈ B.map (iG [0] X.length 1) → X.length ≤ k) ∧ (X.set 0 (oG s') ++ Z.map (AB.map (iG [0] X.length 1)))[0]? = some (oG s') := by
  have hx0 : 0 < X.length := (aA.1 h0).1;refine ⟨g7.frame fun k hk => ?_,hn.ren (fun k hk b hb => ?_) (fun a ha b hb e => ?_),fun k hk => ?_,bL (gE hx0)⟩
  · rw [fU (by rw [D4];exact g7.lt k hk),eX (fun e : k = 0 => g8 (e ▸ hk))]
  · have h1 := hB k hk;rw [zO h1];obtain ⟨k,rfl⟩ : ∃ k',k = k' + 1 := ⟨k - 1,by omega⟩
    rw [aE (by rw [D4];omega),D4,show X.length + (k + 1 - 1) - X.length = k by omega,aS]
    rw [gV] at hb;rw [hb];rfl
  · rw [zO (hB a ha),zO (hB b hb)] at e;have := hB a ha;have := hB b hb;omega
  · obtain ⟨m,hm,rfl⟩ := aK.1 hk;rw [zO (hB m hm)];omega
abbrev VE (X : Hp) (po : Nat) (L : OL) (o : Od) (x : AV) (n : Nat) : Hp := ((X.set po .gone).set 1 (.cells [.sl n 0 (L.length + 1) 4])) ++ [.arr [iT o x] 4,.arr ((L.map fun e => iT e.1 e.2.1) ++ [iT o x]) 4]
theorem WS {X : Hp} {s : St} {po : Nat} {L : OL} {o : Od} {x : AV} {B : List Nat} (b1 : lR X 1 po L) (b2 : mU X x o.tk B) (b3 : X[0]? = some (oG s)) (hft : ∀ k,k ∈ B → k ∉ B1 1 po L) (g8 : 0 ∉ B1 1 po L) (hB0 : 0 ∉ B) :
    lR (VE X po L o x (X.length + 1)) 1 (X.length + 1) (L ++ [(o,x,B)]) ∧ (VE X po L o x (X.length + 1))[0]? = some (oG s) ∧ 0 ∉ B1 1 (X.length + 1) (L ++ [(o,x,B)]) := by
  have h1l := b1.lt 1 (by simp)
  have h0 : 0 ≠ po ∧ (0 : Nat) ≠ 1 := ⟨fun e => g8 (by rw [e];simp),by decide⟩
  have hk : ∀ k,k < X.length → k ≠ po → k ≠ 1 → (VE X po L o x (X.length + 1))[k]? = X[k]? := fun k hk h1 h2 => by
    rw [aG (by simpa using hk),eX h2,eX h1]
  have hBx : ∀ k,k ∈ B → k ≠ po ∧ k ≠ 1 := fun k hk => by
    have := hft k hk;simp only [aT,not_or] at this;exact ⟨this.2.1,this.1⟩
  refine ⟨b1.addN o x B (IW _) (bL (gE (by simpa using h1l))) (by rw [aE (by simp)];simp) hk (b2.frame fun k hkB => hk k (b2.lt k hkB) (hBx k hkB).1 (hBx k hkB).2) (fun k hkB => ⟨hft k hkB,by have := b2.lt k hkB;omega⟩),?_,?_⟩
  · rw [hk 0 (by omega) h0.1 h0.2];exact b3
  · simp only [aT,not_or] at g8;show 0 ∉ 1 :: (X.length + 1) :: (L ++ [(o,x,B)]).flatMap (·.2.2);rw [gR];simp only [aT,not_or,bH,gX,mH,List.append_nil];exact ⟨by decide,by omega,g8.2.2,hB0⟩
theorem BJ : ∀ (k : Nat) (s : St), ((iJ k s).2.getD []).length ≤ (s.getD []).length
  | 0,s => aU _
  | k + 1,s => by
    rw [iJ];split
    · exact aU _
    · have h1 := lA (s := s);have h2 := lA (s := (cE s).2);have h3 := lA (s := (cE (cE s).2).2);have h4 := BJ k (cE (cE (cE s).2).2).2;dsimp only;omega
theorem BL : ∀ (k : Nat) (s : St) {l : List Tk} {s' : St}, gZ k s = some (l, s') → (s'.getD []).length ≤ (s.getD []).length
  | 0,s,l,s',h => by cases h;exact aU _
  | k + 1,s,l,s',h => by
    rw [gZ] at h;split at h
    · cases h;exact aU _
    · split at h
      · cases h
      · obtain ⟨⟨l2,s2⟩,h2,h3⟩ := bX.1 h;cases h3;have h1 := lA (s := s);have h3 := lA (s := (cE s).2);have h4 := BL k _ h2;dsimp only;omega
theorem BP : ∀ (ws : List Wt) (s : St) {tk : List (List Tk)} {s' : St}, lX ws s = some (tk, s') → (s'.getD []).length ≤ (s.getD []).length
  | [],s,tk,s',h => by cases h;exact aU _
  | w :: ws,s,tk,s',h => by
    rw [lX] at h;obtain ⟨⟨l,s1⟩,h1,h2⟩ := dW.1 h;dsimp only at h2;split at h2
    · cases h2
    · obtain ⟨⟨tk2,s2⟩,h3,h4⟩ := bX.1 h2;cases h4;have a1 := BL _ _ h1;have a2 := BP ws s1 h3;have a3 := nT s 59 0;dsimp only;omega
theorem OJ {s s' : St} {o : Od} (h : mE s = some (o,s')) : (s'.getD []).length ≤ (s.getD []).length := by
  unfold mE at h;have a1 := nT s 59 0;have a2 := BJ (fI s 59 0).1.toNat (fI s 59 0).2;change ((gN s).2.getD []).length ≤ _ at a2;have a3 := lA (s := (gN s).2);have a4 := lA (s := (cE (gN s).2).2);split at h
  · cases h
  · split at h
    · cases h;omega
    · obtain ⟨⟨tk,s3⟩,h2,h3⟩ := dW.1 h;dsimp only at h3;split at h3
      · cases h3
      · cases h3;have := BP _ _ h2;omega
def tI (l : List UInt8) (r : AV) (o : Hp) : Prop := match vE l with
  | some bk => ∃ A,r = .tup [.ptr 1 0,.b true] ∧ zR o 1 bk A
  | none => r = .tup [.v (.pointer none),.b false]
theorem C8 {α : Type} (f : α → List UInt8) (n : Nat) : ∀ l : List α, (∀ x, x ∈ l → (f x).length ≤ n) → (l.map f).flatten.length ≤ l.length * n
  | [],_ => by simp
  | x :: l,h => by
    have h1 := h x aL;have h2 := C8 f n l fun x hx => h x (aF _ hx);rw [List.map_cons,cH,aB,List.length_cons,eL,IV];omega
theorem XF {o : Od} (h : pC o) (hI : zM2 o) : (zD o).length ≤ 17601826 := by
  have hf := h.few;have hw := (qS h.ws).1;have w1 := C8 EX 66 o.ws fun w hw => by
    obtain ⟨a,b,c⟩ := hI.ws w hw;have := nL a;have := nL b;have := nL c;unfold EX;simp only [aB];omega
  have t1 := C8 CC 880022 o.tk fun l hl => by
    have hl2 := hf.2 l hl;have := nL (n := (l.length : Int)) ⟨by omega,by omega⟩
    have t2 := C8 FH 44 l fun t ht => by
      obtain ⟨a,b⟩ := hI.tk l hl t ht;have := nL a;have := nL b;unfold FH;simp only [aB];omega
    have : l.length * 44 ≤ 20000 * 44 := fN _ hl2;unfold CC oW;simp only [aB];omega
  have : o.ws.length * 66 ≤ 20 * 66 := fN _ hw.2;have : o.tk.length * 880022 ≤ 20 * 880022 := fN _ hf.1;have := nL (n := (o.ws.length : Int)) ⟨by omega,by omega⟩
  have := nL hI.due;have := nL hI.st;unfold zD KT;simp only [aB];have e1 : (nC o.ws).length = (o.ws.map EX).flatten.length := rfl;have e2 : (gW o.tk).length = (o.tk.map CC).flatten.length := rfl;omega
theorem zM {bk : Bk} (h : ∀ o,o ∈ bk → pC o ∧ ∀ w,w ∈ o.ws → qH w.1) (hl : bk.length ≤ 1000000) : (oQ bk).length ≤ 22 + bk.length * 17601826 := by
  have h1 := C8 zD 17601826 bk fun o ho => XF (h o ho).1 ((h o ho).1.odI (h o ho).2);have := nL (n := (bk.length : Int)) ⟨by omega,by omega⟩
  unfold oQ;rw [aB];have e1 : (oY bk).length = (bk.map zD).flatten.length := rfl;omega
end Go.Or
namespace Go.Proofs.YtdfmhddmddgniaaGreatDoor
open Go Go.Ab Go.Or Go.Wr
attribute [local irreducible] VC AW bJ bI eO jT
set_option maxHeartbeats 4000000
theorem RV (l : List UInt8) (hl : l.length ≤ 1000000000) : eO Tryz.prog 29 [.s l] [] (tI l) := by
  have c0 := zB2 l;have c1 := SL (some l) (by rw [nF];exact hl)
  have hb0 := nT (some l) 59 0;have hn0 := zF (some l) 59;have hn1 := (nI (some l) 59 0).2;rw [nF] at hb0;have hro : vE l = (mR (fI (some l) 59 0).1.toNat (fI (some l) 59 0).2 []).bind fun x => if x.2 = some [] ∧ oQ x.1 = l then some x.1 else none := rfl
  generalize (fI (some l) 59 0).1 = n at *;generalize (fI (some l) 59 0).2 = s2 at *;refine jS T Tryz.func29 rfl rfl rfl rfl ?_
  (repeat' (first|refine wS ?_|refine wB ?_|(refine rg 0 (kJ ?_))|(refine rg 1 (mW rfl (bR [] rfl rfl c0 rfl rfl (by decide) trivial (by simp) rfl ?_));refine aV ?_)|(refine rg 2 (bR [] rfl rfl SR rfl rfl (by decide) trivial (by simp) rfl ?_);refine aV ?_)|(refine rg 3 (mW rfl (bR [0] rfl rfl c1 rfl rfl (by decide) ⟨.inr rfl,trivial⟩ (by simp) rfl ?_));refine aV ?_)|refine nZ ?_));refine rY 1 0 4 rfl rfl (by decide) ?_
  refine lK (X := {x : Nat × St × OL × Nat × Hp // mR n.toNat s2 [] = mR x.1 x.2.1 (x.2.2.1.map (·.1)) ∧ (x.1 : Int) ≤ n ∧ (x.2.1.getD []).length ≤ 1000000000 ∧ x.2.2.1.length ≤ 1000 ∧ (∀ o, o ∈ x.2.2.1.map (·.1) → pC o ∧ ∀ w, w ∈ o.ws → qH w.1) ∧ x.2.2.2.2[0]? = some (oG x.2.1) ∧ lR x.2.2.2.2 1 x.2.2.2.1 x.2.2.1 ∧ 0 ∉ B1 1 x.2.2.2.1 x.2.2.1}) (fun x => [(0, .s l), (4, .ptr 0 0), (5, .ptr 1 0), (6, .i (x.1.1 : Int))]) (fun x => x.1.2.2.2.2) (fun x => x.1.1)
    ⟨(n.toNat,s2,[],2,[oG s2,.cells [.sl 2 0 0 4],.arr [] 4]),rfl,by dsimp only;omega,by dsimp only;omega,bG _,fun o ho => (nomatch ho),rfl,⟨rfl,rfl,fun e he => (nomatch he),by simp⟩,by simp⟩ (mP.of rfl ⟨rfl,rfl,rfl,congrArg (fun z : Int => some (AV.i z)) (by dsimp only;omega),trivial⟩) ?_
  rintro ⟨⟨k,s,L,po,X⟩,g1,g2,g3,g4,g5,g6,g7,g8⟩;dsimp only at g1 g2 g3 g4 g5 g6 g7 g8 ⊢;have cL := KQ s;have hso := DB g6;have hx0 : 0 < X.length := (aA.1 g6).1;by_cases hk2 : 0 < k ∧ 0 < (s.getD []).length
  · obtain ⟨k,rfl⟩ : ∃ k',k = k' + 1 := ⟨k - 1,by omega⟩
    have hrb : mR (k + 1) s (L.map (·.1)) = (mE s).bind fun x => if 1000 ≤ (L.map (·.1)).length then none else mR k x.2 (L.map (·.1) ++ [x.1]) := by rw [mR,if_neg (by omega)]
    have hcr := RW s g3
    (repeat' (first|refine wS ?_|refine wB ?_|refine wK ?_|refine wT ?_|(refine rg 4 (mW rfl (vV (iE rfl rfl (by omega)) (mW rfl (yN rfl (gT (bR [0] rfl rfl cL rfl rfl (aP.2 ⟨cG,aI⟩) ⟨.inr g6,trivial⟩ (by simp) rfl ?_))))));refine yV (iE rfl rfl (by omega)) (pV ?_))|refine nZ ?_));all_goals try (exfalso;omega)
    refine jH [(0,.s l),(4,.ptr 0 0),(5,.ptr 1 0),(6,.i ((k + 1 : Nat) : Int))] X (mP.of ((List.append_nil _).trans hso) (by repeat first|exact trivial|refine ⟨rfl,?_⟩)) ?_
    cases hod : mE s with
    | none =>
      have hro2 : vE l = none := by rw [hro,g1,hrb,hod];rfl
      have key : ∀ o,tI l (.tup [.v (.pointer none),.b false]) o := fun o => by unfold tI;rw [hro2]
      (repeat' (first|refine wS ?_|refine wR ?_|refine wT ?_|(refine rg 6 (mV ?_);(refine pF [0] rfl rfl hcr rfl rfl (aP.2 ⟨cG,aI⟩) ⟨.inr g6,trivial⟩ (by simp) rfl ?_;rintro res hout hΦ;unfold IP at hΦ;rw [hod] at hΦ;dsimp only at hΦ;obtain ⟨ws,due,st,x,rfl,hx⟩ := hΦ;rcases hx with rfl|⟨px,mx,rfl⟩<;>dsimp only [fR]);(all_goals (refine mW rfl (xW rfl (xW rfl (dQ (dC T rfl) rfl (bA T rfl rfl rfl rfl rfl rfl (by decide) (oC bY rfl rfl) (aV ?_))))))))|(refine rg 7 (mW rfl (vV (cV rfl) (mV ?_)));(iterate 6 refine gF ?_);refine pV ?_)|(refine rg 8 (kJ ?_))|refine nZ ?_));all_goals first | (exfalso;omega) | exact ⟨.inl rfl,_,rfl,key _⟩
    | some y =>
      obtain ⟨o,s'⟩ := y;obtain ⟨zM3,zJ1⟩ := BM hod;have hrb2 : mR (k + 1) s (L.map (·.1)) = if 1000 ≤ L.length then none else mR k s' (L.map (·.1) ++ [o]) := by rw [hrb,hod,bF];rfl
      have hbx := fun {Z : Hp} {x : AV} {B : List Nat} (hn : mU (oG s' :: Z) x o.tk B) (hB : ∀ k,k ∈ B → 1 ≤ k) => zA8 g6 g7 g8 hn hB;apply uI (I := AV × List Nat × Hp) (fun y => [(0,.s l),(4,.ptr 0 0),(5,.ptr 1 0),(6,.i ((k + 1 : Nat) : Int)),(7,.ptr y.2.2.length 0),(8,.b true)]) (fun y => y.2.2 ++ [.cells (iT o y.1)]) (fun y => lR y.2.2 1 po L ∧ mU y.2.2 y.1 o.tk y.2.1 ∧ (∀ k,k ∈ y.2.1 → X.length ≤ k) ∧ y.2.2[0]? = some (oG s'))
      case h1 =>
        intro rest
        (repeat' (first|refine wS ?_|(refine rg 6 (mV ?_);(refine pF [0] rfl rfl hcr rfl rfl (aP.2 ⟨cG,aI⟩) ⟨.inr g6,trivial⟩ (by simp) rfl ?_;rintro res hout hΦ;unfold IP at hΦ;rw [hod] at hΦ;dsimp only at hΦ;obtain ⟨x,B,rfl,h0,hn,hB⟩ := hΦ;have hh := PB h0;generalize hout.drop 1 = Z at hh;subst hh;clear h0;have hM := hbx hn hB;rcases hn.form with rfl|⟨px,mx,rfl⟩<;>dsimp only [fR]);(all_goals (refine mW rfl (xW rfl (xW rfl (dQ (dC T rfl) rfl (bA T rfl rfl rfl rfl rfl rfl (by decide) (oC bY rfl rfl) (aV ?_))))))))|refine nZ ?_));all_goals
          refine jH _ _ ?_ (rest (_,_,_) hM);exact mP.of (by rw [jR];rfl) ⟨rfl,rfl,rfl,rfl,rfl,rfl,trivial⟩
      rintro ⟨x,B,W⟩ ⟨m1,m2,m3,m4⟩;dsimp only at m1 m2 m3 m4 ⊢;have hft : ∀ k,k ∈ B → k ∉ B1 1 po L := fun k hk hm => by
        have := g7.lt k hm;have := m3 k hk;omega
      have hBw := m2.lt;have b1 : lR (W ++ [AB.cells (iT o x)]) 1 po L := m1.more fun k hk => fU hk
      have b2 : mU (W ++ [AB.cells (iT o x)]) x o.tk B := m2.frame fun k hk => fU (hBw k hk);have b3 : (W ++ [AB.cells (iT o x)])[0]? = some (oG s') := bL m4;have b4 : (W ++ [AB.cells (iT o x)])[W.length]? = some (.cells (iT o x)) := bY;have hcl : W.length + 1 = (W ++ [AB.cells (iT o x)]).length := by simp
      have hB0 : 0 ∉ B := fun hm => by have := m3 0 hm;omega
      clear m1 m2 m3 m4 hbx;generalize hX2 : W ++ [AB.cells (iT o x)] = X2 at *;generalize W.length = c at *;have hpol := (aA.1 b1.o).1;have hpbl := (aA.1 b1.b).1;by_cases hbig : 1000 ≤ L.length
      · rw [if_pos hbig] at hrb2;have hro2 : vE l = none := by rw [hro,g1,hrb2];rfl
        have key : ∀ o,tI l (.tup [.v (.pointer none),.b false]) o := fun o => by unfold tI;rw [hro2]
        (repeat' (first|refine wS ?_|refine wR ?_|(refine wC rfl ?_ ?_<;>(intro hb;(try simp only [nm] at hb);try (exfalso;omega)))|(refine rg 7 (mW rfl (vV (cV rfl) (mW rfl (yN rfl (gT (nV ?_))))));refine yP T rfl (yV (by exact aX T rfl rfl (bW b1.b) rfl) ?_);refine gT (qW T rfl (yV (eN rfl rfl) (pV ?_))))|(refine rg 8 (kJ ?_))|refine nZ ?_));all_goals first | (exfalso;omega) | exact ⟨.inl rfl,_,rfl,key _⟩
      · rw [if_neg hbig] at hrb2;rw [hrb2] at g1
        (repeat' (first|refine wK ?_|(refine wC rfl ?_ ?_<;>(intro hb;(try simp only [nm] at hb);try (exfalso;omega)))|(refine rg 7 (mW rfl (vV (cV rfl) (mW rfl (yN rfl (gT (nV ?_))))));refine yP T rfl (yV (by exact aX T rfl rfl (bW b1.b) rfl) ?_);refine gT (qW T rfl (yV (eN rfl rfl) (pV ?_))))|refine nZ ?_));all_goals try (exfalso;omega)
        have hta : List.take L.length (List.drop 0 (L.map fun e => iT e.1 e.2.1)) = L.map fun e => iT e.1 e.2.1 := by rw [cP,aQ (by simp)]
        have hlen : ∀ b : AB,(X2 ++ [b]).length = X2.length + 1 := fun b => by simp
        have hnx := WS b1 b2 b3 hft g8 hB0;have hLn : (L ++ [(o,x,B)]).length = L.length + 1 := by simp
        have hLm : (L ++ [(o,x,B)]).map (·.1) = L.map (·.1) ++ [o] := by simp
        have g5' : ∀ z,z ∈ L.map (·.1) ++ [o] → pC z ∧ ∀ w,w ∈ z.ws → qH w.1 := fun z hz => by
          rcases bH.1 hz with hz | hz
          · exact g5 z hz
          · rw [bK.1 hz];exact ⟨zM3,zJ1⟩
        rw [← hLm] at g1 g5';have hs'l : (s'.getD []).length ≤ 1000000000 := cQ (OJ hod) g3;rcases b2.form with rfl | ⟨px,mx,rfl⟩
        all_goals
          (repeat' (first|(refine pM (id := 9) 58 zS8 (rM 38 10) [[],[38],[38],[38],[38],rM 38 5,rM 38 5,[38],[],[],[]] [(7,po),(10,1)] dZ rfl (W1 (by decide +kernel) rfl rfl rfl rfl) (eI rfl rfl rfl rfl (by exact fD rfl) ?_);refine eI rfl rfl rfl rfl (by exact fD rfl) ?_;refine eI rfl rfl rfl rfl (by exact cO rfl rfl) ?_;refine eI rfl rfl rfl rfl (by exact eA T rfl rfl rfl) ?_;refine eI rfl rfl rfl rfl (by exact aX T rfl rfl (bW (bL b1.b)) rfl) ?_;refine eI rfl rfl rfl rfl (by exact aX T rfl rfl (bW (bL b4)) rfl) ?_;refine V9 rfl rfl rfl rfl (by exact bO T rfl rfl (by decide) (by decide) rfl rfl rfl) rfl ?_;refine uU rfl rfl rfl rfl hpol (sK T rfl rfl rfl rfl rfl (bL b1.o) (by simp) (jA.whole K7 rfl) rfl (by simp;omega) (by simp;omega)) ?_;refine eI rfl rfl rfl rfl (by exact cO rfl rfl) ?_;refine eI rfl rfl rfl rfl (by exact eA T rfl rfl rfl) ?_;refine L1 rfl rfl rfl rfl hpbl T rfl rfl rfl rfl rfl rfl (by decide) (JI (bL (fO b1.ne b1.b)) rfl) ?_;refine uG rfl rfl rfl (by exact rfl) ?_)|(refine rg 5 (mW rfl (vV (fX rfl rfl (by omega) (by omega)) (aV ?_))))|refine nZ ?_));all_goals try (exfalso;omega)
          all_goals exact ⟨⟨(k,s',L ++ [(o,_,B)],X2.length + 1,_),g1,by dsimp only;omega,hs'l,by dsimp only;omega,g5',hnx.2.1,hnx.1,hnx.2.2⟩,mG k,mP.of (Eq.trans (by unfold VE;(conv => rhs;rw [← hta]);rfl) (congrArg (VE X2 po L o _) (hlen (AB.arr [iT o _] 4)))) ⟨rfl,rfl,rfl,congrArg (fun z : Int => some (AV.i z)) (by dsimp only;omega),trivial⟩⟩
  · have hrb : mR k s (L.map (·.1)) = some (L.map (·.1),s) := by
      cases k with
      | zero => rfl
      | succ k => rw [mR,if_pos (by omega)]
    rw [g1,hrb] at hro;dsimp only [Option.bind_some] at hro;have hbl := zM g5 (by rw [bF];omega)
    rw [bF] at hbl;have hby := P7 (L.map (·.1)) (by rw [bF];omega) (fun o ho => (g5 o ho).1.odI (g5 o ho).2) (by omega)
    have hv : View (X.set 0 (oG s) ++ []) (.ptr 1 0) (xX (L.map (·.1))) := by rw [List.append_nil,hso];exact g7.view
    have cD := zE3 s;apply uI (I := Unit) (fun _ => [(0,.s l),(4,.ptr 0 0),(5,.ptr 1 0)]) (fun _ => X) (fun _ => True)
    case h1 =>
      intro rest;by_cases hk0 : 0 < k
      · (repeat' (first|refine wS ?_|refine wE ?_|refine kN rfl ?_|(refine rg 4 (mW rfl (vV (iE rfl rfl (by omega)) (mW rfl (yN rfl (gT (bR [0] rfl rfl cL rfl rfl (aP.2 ⟨cG,aI⟩) ⟨.inr g6,trivial⟩ (by simp) rfl ?_))))));refine yV (iU rfl rfl (by omega)) (pV ?_))|(refine nZ ?_)));all_goals try (exfalso;omega)
        all_goals exact jH _ _ (mP.of ((List.append_nil _).trans hso) (by repeat first|exact trivial|refine ⟨rfl,?_⟩)) (rest () trivial)
      · (repeat' (first|refine wS ?_|refine wE ?_|refine kN rfl ?_|(refine rg 4 (mW rfl (vV (iU rfl rfl (by omega)) (mV ?_)));(iterate 3 refine gF ?_);refine pV ?_)|(refine nZ ?_)));all_goals try (exfalso;omega)
        all_goals exact jH _ _ (mP.of rfl (by repeat first|exact trivial|refine ⟨rfl,?_⟩)) (rest () trivial)
    rintro _ _;generalize hbk : L.map (·.1) = bk at *;by_cases hs : s = some []
    · rw [decide_eq_true hs] at cD;by_cases hbe : oQ bk = l
      · rw [if_pos ⟨hs,hbe⟩] at hro;have key : tI l (.tup [.ptr 1 0,.b true]) X := by unfold tI;rw [hro];exact ⟨_,rfl,po,L,g7,hbk.symm,rfl⟩
        have key2 : tI l (.tup [.ptr 1 0,.b true]) (X.set 0 (oG s) ++ []) := by rw [List.append_nil,hso];exact key
        (repeat' (first|refine wS ?_|refine wK ?_|refine wR ?_|refine wU ?_|(refine rg 10 (mW rfl (bR [0] rfl rfl cD rfl rfl (aP.2 ⟨cG,aI⟩) ⟨.inr g6,trivial⟩ (by simp) rfl ?_));refine vV (cV rfl) (mW rfl (yN rfl (yV (by exact cM rfl rfl hby (.cons hv .nil) rfl rfl) ?_)));refine yN rfl (yV (yE rfl rfl hbe) (pV ?_)))|(refine rg 12 (mW rfl (kJ ?_)))|refine nZ ?_));all_goals first | (exfalso;omega) | exact ⟨.inl rfl,_,rfl,key2⟩
      · rw [if_neg (fun h => hbe h.2)] at hro;have key : ∀ o,tI l (.tup [.v (.pointer none),.b false]) o := fun o => by unfold tI;rw [hro]
        (repeat' (first|refine wS ?_|refine wR ?_|refine wT ?_|(refine rg 10 (mW rfl (bR [0] rfl rfl cD rfl rfl (aP.2 ⟨cG,aI⟩) ⟨.inr g6,trivial⟩ (by simp) rfl ?_));refine vV (cV rfl) (mW rfl (yN rfl (yV (by exact cM rfl rfl hby (.cons hv .nil) rfl rfl) ?_)));refine yN rfl (yV (HM rfl rfl hbe) (pV ?_)))|(refine rg 11 (kJ ?_))|refine nZ ?_));all_goals first | (exfalso;omega) | exact ⟨.inl rfl,_,rfl,key _⟩
    · rw [decide_eq_false hs] at cD;rw [if_neg (fun h => hs h.1)] at hro;have key : ∀ o,tI l (.tup [.v (.pointer none),.b false]) o := fun o => by unfold tI;rw [hro]
      (repeat' (first|refine wS ?_|refine wR ?_|refine wT ?_|(refine rg 10 (mW rfl (bR [0] rfl rfl cD rfl rfl (aP.2 ⟨cG,aI⟩) ⟨.inr g6,trivial⟩ (by simp) rfl ?_));refine vV (cV rfl) (mV ?_);(iterate 4 refine gF ?_);refine pV ?_)|(refine rg 11 (kJ ?_))|refine nZ ?_));all_goals first | (exfalso;omega) | exact ⟨.inl rfl,_,rfl,key _⟩
end Go.Proofs.YtdfmhddmddgniaaGreatDoor
namespace Go.Or
open Go Go.Ab Go.Wr Go.Proofs.YtdfmhddmddgniaaGreatDoor
theorem FL : ∀ {l : List Tk} {b : Int}, (∀ t, t ∈ l → 1 ≤ t.2) → eW l b ≤ jB l
  | [],_,_ => uM _
  | t :: l,b,h => by
    have ih := FL (l := l) (b := b) fun t ht => h t (aF _ ht);have h1 := h t aL;unfold jB at ih ⊢;simp only [eW,List.map_cons,lE];split <;> omega
theorem AT (a b : List Tk) : jB (a ++ b) = jB a + jB b := by unfold jB;rw [dI,List.sum_append]
theorem AS : ∀ {tk : List (List Tk)}, (∀ l, l ∈ tk → jB l ≤ 20000) → jB tk.flatten ≤ 20000 * tk.length
  | [],_ => by decide
  | l :: tk,h => by
    have ih := AS fun l hl => h l (aF _ hl);have h1 := h l aL;rw [cH,AT,List.length_cons];omega
theorem pC.units {o : Od} (h : pC o) : jB o.tk.flatten ≤ 400000 := by
  have hr := qS h.ws;have hf := h.few;have := AS (tk := o.tk) fun l hlm => by
    by_cases h1 : o.st = 1
    · have hl := h.len h1;obtain ⟨i,hi⟩ := cN.1 hlm;have hil := (aA.1 hi).1;have hs := h.sum i _ l (aC (by omega : i < o.ws.length)) hi
      have h2 := hr.2.2 _ (aH (by omega : i < o.ws.length))
      omega
    · rw [h.tk0 h1] at hlm;cases hlm
  omega
theorem X9 : ∀ {bk : Bk}, (∀ o, o ∈ bk → pC o) → jB (jO bk) ≤ 400000 * bk.length
  | [],_ => by decide
  | o :: bk,h => by
    have ih := X9 fun o ho => h o (aF _ ho);have h1 := (h o aL).units;unfold jO at ih ⊢;rw [gX,AT,List.length_cons];omega
theorem oS.sz {bk : Bk} (h : oS bk) : ZC bk := by
  have hall : ∀ t,t ∈ jO bk → EY t := fun t ht => by
    obtain ⟨o,ho,ht⟩ := eS.1 ht;obtain ⟨l,hl,ht⟩ := rJ.1 ht;exact (h.od o ho).ok l hl t ht
  refine ⟨h.le,fun o ho => ⟨by have := (h.od o ho).few.1;omega,fun l hl => by have := (h.od o ho).few.2 l hl;omega⟩,⟨fun t ht => ⟨(hall t ht).1,by have := (hall t ht).2.2.1;omega⟩,fun b => ?_⟩,fun o ho => by have := (qS (h.od o ho).ws).1;omega⟩
  have h1 := FL (l := jO bk) (b := b) fun t ht => (hall t ht).2.2.1;have h2 := X9 h.od;have h3 := h.le;omega
theorem QI.getD {bk : Bk} (h : QI bk) (i : Nat) : ∀ w,w ∈ (bk.getD i jC).ws → qH w.1 := fun w hw => by
  rw [aD] at hw;cases e : bk[i]? with
  | none => rw [e] at hw;cases hw
  | some o => rw [e] at hw;exact h o (aJ e) w hw
theorem QI.set {bk : Bk} (h : QI bk) {i : Nat} {o : Od} (ho : ∀ w,w ∈ o.ws → qH w.1) : QI (bk.set i o) := fun x hx => by
  rcases tW hx with rfl | hx
  · exact ho
  · exact h x hx
theorem zE5 {ls : List Lo} {sure : List Bo} {bk : Bk} {o : Or.Op} (h : QI bk) (ho : ∀ w,w ∈ o.ws → qH w.1) : QI (Z4 ls sure bk o).2 := by
  unfold Z4;split
  · unfold wQ;split
    · exact h
    · split
      · exact h
      · intro x hx;rcases bH.1 hx with hx | hx
        · exact h x hx
        · rw [bK.1 hx];exact ho
  split
  · unfold qU;split
    · exact h
    · split
      · exact h
      · exact h.set (h.getD _)
  split
  · unfold mC;split
    · exact h
    · split
      · exact h
      · split
        · exact h
        · exact h.set (by rw [(BB _ _ _ _).1];exact h.getD _)
  have he : ∀ st ss,QI (rG bk o.no st ss).2 := fun st ss => by
    unfold rG;split
    · exact h
    · exact h.set (h.getD _)
  split
  · exact he _ _
  split
  · exact he _ _
  · exact h
theorem YM {ls : List Lo} {sure : List Bo} {bk : Bk} {o : Or.Op} : bk.length ≤ (Z4 ls sure bk o).2.length ∧ (Z4 ls sure bk o).2.length ≤ bk.length + 1 := by
  have he : ∀ st ss,(rG bk o.no st ss).2.length = bk.length := fun st ss => by
    unfold rG;split <;> simp
  have hp : (qU ls sure bk o.no).2.length = bk.length := by
    unfold qU;split
    · rfl
    · split <;> simp
  have hs : (mC bk o.no o.b o.n o.t).2.length = bk.length := by
    unfold mC;split
    · rfl
    · split
      · rfl
      · split <;> simp
  have ha : bk.length ≤ (wQ bk o.ws o.t).2.length ∧ (wQ bk o.ws o.t).2.length ≤ bk.length + 1 := by
    unfold wQ;split
    · simp
    · split <;> simp
  unfold Z4;split
  · exact ha
  split
  · dsimp only;omega
  split
  · dsimp only;omega
  split
  · rw [he];omega
  split
  · rw [he];omega
  · dsimp only;omega
abbrev zJ0 (o : Or.Op) : List AV := [.i o.d,.i o.no,.i o.b,.i o.n,.i o.t,.rowE (bV o.ws) 3]
def zM4 (H : Hp) (A : List Nat) (a b : Int) (bk : Bk) (r : AV) (o : Hp) : Prop := ∃ pb A',r = .tup [.ptr pb 0,.i a,.i b] ∧ zR o pb bk A' ∧ Fr H A o A'
end Go.Or
namespace Go.Proofs.YtdfmhddmddgniaaGreatDoor
open Go Go.Ab Go.Or Go.Wr
attribute [local irreducible] VC AW bJ bI eO jT
set_option maxHeartbeats 4000000
theorem zO3 {H : Hp} {pb : Nat} {bk : Bk} {A : List Nat} (hB : zR H pb bk A) (ok : oS bk) (kn : QI bk) (hlen : bk.length ≤ 50) (ls : List Lo) (sure : List Bo) (hs : wW ls sure) (o : Or.Op) (hw : o.ws.length ≤ 1000000) (u : AV) (hsu : IN H u sure) :
    eO Tryz.prog 10 [.ptr pb 0,.agg (zJ0 o),.rowE (iX ls) 3,u] H (zM4 H A (Z4 ls sure bk o).1.1 (Z4 ls sure bk o).1.2 (Z4 ls sure bk o).2) := by
  obtain ⟨d,no,b,n,t,ws⟩ := o;dsimp only at hw;have hB1 := hB.app [.gone];have hz := ok.sz;have hsu1 : IN (H ++ [.gone]) u sure := hsu.imp id fun ⟨k,h,hk⟩ => ⟨k,h,bL hk⟩
  have hform : u = .rowE (eY sure) 3 ∨ ∃ k,u = .sl k 0 sure.length 3 := hsu.imp id fun ⟨k,h,_⟩ => ⟨k,h⟩
  have fin : ∀ {a c : Int} {bk' : Bk} {o : Hp},(∃ A',zR o pb bk' A' ∧ Fr (H ++ [.gone]) A o A') → zM4 H A a c bk' (.tup [.ptr pb 0,.i a,.i c]) o := fun {a c bk' o} ⟨A',h1,h2⟩ => ⟨pb,A',rfl,h1,(Fr.app H _ A).trans h2⟩;have hask := UU hB1 ws t (by omega) hw
  have hpro := J4 hB1 hz ls sure hs no u hsu1;have hsrv := MC hB1 hz no b n t;have hwdr := JE hB1 no (by omega)
  have hgiv := TL hB1 no (by omega)
  have hcpy := zE7 hB1 (by omega) hz.tk (fun o ho => by have := hz.ws o ho;omega)
  have hbb := zM (fun o ho => ⟨ok.od o ho,kn o ho⟩) (by omega : bk.length ≤ 1000000)
  have hbl : (oQ bk).length ≤ 1000000000 := by omega
  have hby := P7 bk (by omega) (fun o ho => (ok.od o ho).odI (kn o ho)) (by omega)
  have hrd := RV (oQ bk) hbl;have hrf := RX ok kn;have hvw := hB1.view;have hid : zM4 H A 0 0 bk (.tup [.ptr pb 0,.i 0,.i 0]) (H ++ [.gone]) := fin ⟨A,hB1,Fr.refl _ _⟩;refine jS T Tryz.func10 rfl rfl rfl rfl ?_;unfold Z4;dsimp only;rcases hform with rfl | ⟨ku,rfl⟩
  all_goals
    (repeat' (first|refine wS ?_|(refine rg 0 (dQ (fE rfl rfl) rfl (VV rfl (aV ?_))))|refine nZ ?_));refine fK 5 (cs := [.i d,.i no,.i b,.i n,.i t,.rowE (bV ws) 3]) rfl bY rfl ?_
    rw [jR];by_cases h0 : d = 0
    · rw [if_pos h0]
      (repeat' (first|refine wS ?_|refine wB ?_|refine wR ?_|(refine wC rfl ?_ ?_<;>(intro hb;(try simp only [nm] at hb);try (exfalso;omega)))|(refine rg 1 (IA T ?_))|(refine rg 2 (vV (cW rfl rfl) (aV ?_)))|(refine rg 3 (mW rfl (eT T rfl (eT T rfl (eU rfl rfl hask rfl ?_))));rintro _ _ ⟨rfl,hq⟩;dsimp only [fR];refine mW rfl (xW rfl (xW rfl (kJ ?_))))|(refine rg 4 (dS rfl (mW rfl (VV rfl (aV ?_)))))|refine nZ ?_));all_goals first | (exfalso;omega) | exact ⟨.inl rfl,_,rfl,fin hq⟩
    rw [if_neg h0];by_cases h1 : d = 1
    · rw [if_pos h1]
      (repeat' (first|refine wS ?_|refine wB ?_|refine wR ?_|(refine wC rfl ?_ ?_<;>(intro hb;(try simp only [nm] at hb);try (exfalso;omega)))|(refine rg 1 (IA T ?_))|(refine rg 2 (vV (cW rfl rfl) (aV ?_)))|(refine rg 5 (vV (cW rfl rfl) (aV ?_)))|(refine rg 6 (dS rfl (eT T rfl (dS rfl (eU rfl rfl hpro rfl ?_))));rintro _ _ ⟨rfl,hq⟩;dsimp only [fR];refine VV rfl (aV ?_))|refine nZ ?_));all_goals first | (exfalso;omega) | exact ⟨.inl rfl,_,rfl,fin hq⟩
    rw [if_neg h1];by_cases h2 : d = 2
    · rw [if_pos h2]
      (repeat' (first|refine wS ?_|refine wB ?_|refine wR ?_|(refine wC rfl ?_ ?_<;>(intro hb;(try simp only [nm] at hb);try (exfalso;omega)))|(refine rg 1 (IA T ?_))|(refine rg 2 (vV (cW rfl rfl) (aV ?_)))|(refine rg 5 (vV (cW rfl rfl) (aV ?_)))|(refine rg 7 (vV (cW rfl rfl) (aV ?_)))|(refine rg 8 (dS rfl (eT T rfl (eT T rfl (eT T rfl (eT T rfl (eU rfl rfl hsrv rfl ?_))))));rintro _ _ ⟨rfl,hq⟩;dsimp only [fR];refine VV rfl (aV ?_))|refine nZ ?_));all_goals first | (exfalso;omega) | exact ⟨.inl rfl,_,rfl,fin hq⟩
    rw [if_neg h2];by_cases h3 : d = 3
    · rw [if_pos h3]
      (repeat' (first|refine wS ?_|refine wB ?_|refine wR ?_|(refine wC rfl ?_ ?_<;>(intro hb;(try simp only [nm] at hb);try (exfalso;omega)))|(refine rg 1 (IA T ?_))|(refine rg 2 (vV (cW rfl rfl) (aV ?_)))|(refine rg 5 (vV (cW rfl rfl) (aV ?_)))|(refine rg 7 (vV (cW rfl rfl) (aV ?_)))|(refine rg 9 (vV (cW rfl rfl) (aV ?_)))|(refine rg 10 (dS rfl (eT T rfl (eU rfl rfl hwdr rfl ?_)));rintro _ _ ⟨rfl,hq⟩;dsimp only [fR];refine VV rfl (aV ?_))|refine nZ ?_));all_goals first | (exfalso;omega) | exact ⟨.inl rfl,_,rfl,fin hq⟩
    rw [if_neg h3];by_cases h4 : d = 4
    · rw [if_pos h4]
      (repeat' (first|refine wS ?_|refine wB ?_|refine wR ?_|(refine wC rfl ?_ ?_<;>(intro hb;(try simp only [nm] at hb);try (exfalso;omega)))|(refine rg 1 (IA T ?_))|(refine rg 2 (vV (cW rfl rfl) (aV ?_)))|(refine rg 5 (vV (cW rfl rfl) (aV ?_)))|(refine rg 7 (vV (cW rfl rfl) (aV ?_)))|(refine rg 9 (vV (cW rfl rfl) (aV ?_)))|(refine rg 11 (vV (cW rfl rfl) (aV ?_)))|(refine rg 12 (dS rfl (eT T rfl (eU rfl rfl hgiv rfl ?_)));rintro _ _ ⟨rfl,hq⟩;dsimp only [fR];refine VV rfl (aV ?_))|refine nZ ?_));all_goals first | (exfalso;omega) | exact ⟨.inl rfl,_,rfl,fin hq⟩
    rw [if_neg h4];by_cases h5 : d = 5
    · (repeat' (first|refine wS ?_|refine wB ?_|refine wR ?_|(refine wC rfl (fun hb => ?_) (fun hb => ?_) <;> (((try simp only [nm] at hb);try (exfalso;omega))))|(refine rg 1 (IA T ?_))|(refine rg 2 (vV (cW rfl rfl) (aV ?_)))|(refine rg 5 (vV (cW rfl rfl) (aV ?_)))|(refine rg 7 (vV (cW rfl rfl) (aV ?_)))|(refine rg 9 (vV (cW rfl rfl) (aV ?_)))|(refine rg 11 (vV (cW rfl rfl) (aV ?_)))|(refine rg 13 (vV (cW rfl rfl) (aV ?_)))|(refine rg 14 (mW rfl (eU rfl rfl hcpy rfl ?_));rintro _ _ ⟨pb2,A2,rfl,hq1,hq2,hq3,hq4⟩;dsimp only [fR];refine VV rfl (aV ?_))|(refine nZ ?_)));all_goals first | (exfalso;omega) | exact ⟨.inl rfl,_,rfl,pb2,A2,rfl,hq1,(Fr.app H [.gone] A).trans ⟨hq3,fun k hk _ => hq4 k hk,fun k hk => .inr (hq2 k hk)⟩⟩
    by_cases h6 : d = 6
    · (repeat' (first|refine wS ?_|refine wB ?_|(refine wC rfl (fun hb => ?_) (fun hb => ?_) <;> (((try simp only [nm] at hb);try (exfalso;omega))))|(refine rg 1 (IA T ?_))|(refine rg 2 (vV (cW rfl rfl) (aV ?_)))|(refine rg 5 (vV (cW rfl rfl) (aV ?_)))|(refine rg 7 (vV (cW rfl rfl) (aV ?_)))|(refine rg 9 (vV (cW rfl rfl) (aV ?_)))|(refine rg 11 (vV (cW rfl rfl) (aV ?_)))|(refine rg 13 (vV (cW rfl rfl) (aV ?_)))|(refine rg 15 (vV (cW rfl rfl) (aV ?_)))|(refine rg 16 (mW rfl (vV (by exact cM rfl rfl hby (.cons hvw .nil) rfl rfl) ?_));refine pF [] rfl rfl hrd rfl rfl aI trivial (by simp) rfl ?_;rintro res hout hΦ;unfold tI at hΦ;rw [hrf] at hΦ;dsimp only at hΦ;obtain ⟨A2,rfl,hq⟩ := hΦ;dsimp only [fR];refine mW rfl (xW rfl (xW rfl (kJ ?_))))|(refine nZ ?_)));all_goals try (exfalso;omega)
      all_goals
        obtain ⟨A3,hq3,hq4⟩ := hq.shift (H := H ++ [.gone]);refine jH [(13,.ptr (1 + (H ++ [AB.gone]).length) 0),(14,.b true)] ((H ++ [AB.gone]) ++ hout.map (AB.map (· + (H ++ [AB.gone]).length))) (mP.of (by rw [nO,cP];rfl) ⟨by rw [nO];rfl,rfl,trivial⟩) ?_
        have key : zM4 H A 0 0 bk (.tup [.ptr (1 + (H ++ [AB.gone]).length) 0,.i 0,.i 0]) ((H ++ [AB.gone]) ++ hout.map (AB.map (· + (H ++ [AB.gone]).length))) := ⟨_,A3,rfl,hq3,(Fr.app H [.gone] A).trans ⟨by rw [@aB _ (H ++ [AB.gone]) _];exact gA _ _,fun k hk _ => fU hk,fun k hk => .inr (hq4 k hk)⟩⟩
        (repeat' (first|refine wS ?_|refine wK ?_|refine wR ?_|refine wU ?_|(refine rg 17 (mW rfl (vV (cV rfl) ?_)))|(refine rg 19 (mW rfl (VV rfl (aV ?_))))|refine nZ ?_));all_goals first | (exfalso;omega) | exact ⟨.inl rfl,_,rfl,key⟩
    · (repeat' (first|refine wS ?_|refine wB ?_|refine wK ?_|refine wR ?_|(refine wC rfl (fun hb => ?_) (fun hb => ?_) <;> (((try simp only [nm] at hb);try (exfalso;omega))))|(refine rg 1 (IA T ?_))|(refine rg 2 (vV (cW rfl rfl) (aV ?_)))|(refine rg 5 (vV (cW rfl rfl) (aV ?_)))|(refine rg 7 (vV (cW rfl rfl) (aV ?_)))|(refine rg 9 (vV (cW rfl rfl) (aV ?_)))|(refine rg 11 (vV (cW rfl rfl) (aV ?_)))|(refine rg 13 (vV (cW rfl rfl) (aV ?_)))|(refine rg 15 (vV (cW rfl rfl) (aV ?_)))|(refine rg 20 (mW rfl (VV rfl (aV ?_))))|(refine nZ ?_)));all_goals first | (exfalso;omega) | exact ⟨.inl rfl,_,rfl,hid⟩
end Go.Proofs.YtdfmhddmddgniaaGreatDoor
namespace Go.Or
open Go Go.Ab Go.Wr Go.Proofs.YtdfmhddmddgniaaGreatDoor
def Z9 (b : Bo) (n : Int) : Bool := decide ((0 ≤ b.2.2 ∧ b.2.2 ≤ 1000000) ∧ (-1 ≤ b.1 ∧ b.1 ≤ n - 1) ∧ (0 ≤ b.2.1 ∧ b.2.1 ≤ 20000) ∧ (0 ≤ b.1 ∨ b.2.1 = 0))
def SJ (l : Lo) (n : Int) : Bool := decide ((0 ≤ l.1 ∧ l.1 ≤ n - 1) ∧ (0 ≤ l.2.1 ∧ l.2.1 ≤ 20000))
def uO (l : List Bo) : Int := (l.map (·.2.1)).sum
def DG (n : Nat) (ls : List Lo) (bs : List Bo) : Bool := decide (ls.length ≤ 2000 ∧ bs.length ≤ 3000) && (ls.all (SJ · n) && (bs.all (Z9 · ls.length) && decide (uO bs ≤ 20000)))
theorem JJ {l : List Bo} {k : Nat} (h : k < l.length) : uO (l.take (k + 1)) = uO (l.take k) + l[k].2.1 := by
  unfold uO;rw [bB h,dI,List.sum_append];simp
theorem QT {l : List Bo} (h : ∀ b,b ∈ l → 0 ≤ b.2.1 ∧ b.2.1 ≤ 20000) : 0 ≤ uO l ∧ uO l ≤ 20000 * l.length := by
  induction l with
  | nil => decide
  | cons b l ih =>
    have h1 := ih fun b hb => h b (aF _ hb);have h2 := h b aL;unfold uO at h1 ⊢;rw [List.map_cons,lE,List.length_cons];omega
abbrev Kd := List UInt8 × Int
abbrev F0 (l : List Kd) : List (List AV) := l.map fun k => [AV.s k.1,AV.i k.2]
theorem TD (l : List Kd) : ∀ e,e ∈ F0 l → e.length = 2 := by intro e he;obtain ⟨n,_,rfl⟩ := aK.1 he;rfl
theorem K1 (l : List Kd) : (F0 l).length = l.length := bF _
theorem TE {l : List Kd} {k : Nat} (h : k < l.length) : (F0 l)[(k : Int).toNat]? = some [AV.s l[k].1,AV.i l[k].2] := by simp [h]
abbrev kS (s : List UInt8) : Value := .string ⟨s.toArray⟩
theorem zC7 {a b : List UInt8} (h : kS a = kS b) : a = b := by
  have := Value.string.inj h;simpa using this
abbrev zH3 (l : List Kd) : List Value := l.map fun k => kS k.1
abbrev zK1 (l : List Kd) : List AV := l.map fun _ => AV.b true
structure VQ (l : List Kd) : Prop where
  le : l.length ≤ 500
  nd : (l.map (·.1)).Nodup
  ok : ∀ k,k ∈ l → (1 ≤ k.1.length ∧ k.1.length ≤ 20) ∧ (1 ≤ k.2 ∧ k.2 ≤ 10000)
theorem KU (s : List UInt8) : MapKept.IsKey .string (kS s) := trivial
theorem ZL (s : List UInt8) : QF (.s s) (kS s) := QF.v _
theorem TC (l : List Kd) : ∀ q,q ∈ zH3 l → MapKept.IsKey .string q := by
  intro q hq;obtain ⟨e,_,rfl⟩ := aK.1 hq;exact KU _
theorem zC6 {l : List Kd} {s : List UInt8} (h : s ∉ l.map (·.1)) : kS s ∉ zH3 l := fun hm => by
  obtain ⟨e,he,e1⟩ := aK.1 hm;exact h (aK.2 ⟨e,he,zC7 e1⟩)
theorem XR (l : List Kd) : AV.idfL (zK1 l) = true := by
  induction l with
  | nil => rfl
  | cons e m ih => exact ih
theorem VQ.new {l : List Kd} (h : VQ l) {k : Nat} (hk : k < l.length) : l[k].1 ∉ (l.take k).map (·.1) := fun hm => by
  have hnd := h.nd;have e := congrArg (List.map (·.1)) (cI k l).symm;rw [aO hk,dI,List.map_cons] at e;rw [e,fB] at hnd;exact hnd.2.2 _ hm _ aL rfl
theorem zM8 (S : Nat → Prop) (w : World) (ρ : Pl) : R S w (.b false) ρ (.bool false) := by simp [R]
abbrev k3 : List Kd := [([97],1),([98],1),([99],1)]
theorem zK2 : VQ k3 := ⟨by decide,by decide,by decide⟩
def K5 (ls : List Lo) (bs : List Bo) : Bool := decide (ls.length ≤ 20 ∧ bs.length ≤ 20) && DG 3 ls bs
theorem U9 {ls : List Lo} {bs : List Bo} (h : K5 ls bs = true) : wW ls bs := by
  unfold K5 DG at h;simp only [aN,decide_eq_true_eq,bD] at h;obtain ⟨⟨h1,h2⟩,_,h3,h4,h5⟩ := h;have hb : ∀ b,b ∈ bs → (0 ≤ b.2.1 ∧ b.2.1 ≤ 20000) ∧ (-1 ≤ b.1 ∧ b.1 < ls.length) := fun b hb => by
    have := h4 b hb;unfold Z9 at this;rw [decide_eq_true_eq] at this;exact ⟨this.2.2.1,by omega,by omega⟩
  have hg : ∀ i,i < bs.length → bs.getD i (0,0,0) ∈ bs := fun i hi => by
    rw [aD,aC hi];exact aH hi
  refine ⟨by omega,h2,fun i hi => (hb _ (hg i hi)).2,fun b hb0 => ?_⟩
  unfold cnt;by_cases hbl : b.toNat < bs.length
  · exact (hb _ (hg _ hbl)).1
  · rw [aD,bU (by omega)];decide
theorem X8 {α : Type} {p : α → Bool} {l : List α} {k : Nat} (hk : k < l.length) (h : ∀ x,x ∈ l.take k → p x = true) (h2 : p l[k] = true) : ∀ x,x ∈ l.take (k + 1) → p x = true := fun x hx => by
  rw [bB hk] at hx;rcases bH.1 hx with hx | hx
  · exact h x hx
  · rw [bK.1 hx];exact h2
theorem EN {α : Type} {p : α → Bool} {l : List α} {x : α} (hx : x ∈ l) (h : p x = false) : l.all p = false := by
  rw [List.all_eq_false];exact ⟨x,hx,by rw [h];decide⟩
end Go.Or
namespace Go.Proofs.YtdfmhddmddgniaaGreatDoor
open Go Go.Ab Go.Or Go.Wr
attribute [local irreducible] VC AW bJ bI eO jT
set_option maxHeartbeats 4000000
theorem W4 (n l h : Int) : bI Tryz.prog 88 [.i n,.i l,.i h] [] (.b (decide (l ≤ n ∧ n ≤ h))) [] := by
  refine dA T Tryz.func88 rfl rfl rfl rfl ?_;by_cases h1 : l ≤ n
  · by_cases h2 : n ≤ h
    · rw [decide_eq_true ⟨h1,h2⟩]
      (repeat' (first|refine wS ?_|refine wR ?_|(refine rg 0 (aV ?_))|(refine rg 1 (dS rfl (vV (eN rfl rfl) (mV ?_)));refine bP rfl rfl ?_ ?_<;>(intro hb;rw [hb];(try simp only [nm] at hb);try (exfalso;omega));(all_goals (refine yN rfl (yN rfl (yV (kQ rfl rfl) (pW rfl (aV ?_)))))))|refine nZ ?_));all_goals first | (exfalso;omega) | exact eP (.inl rfl) rfl (by first | rfl | (simp [h1,h2];rfl) | (rw [decide_eq_true h2];rfl))
    · rw [decide_eq_false (fun h => h2 h.2)]
      (repeat' (first|refine wS ?_|refine wR ?_|(refine rg 0 (aV ?_))|(refine rg 1 (dS rfl (vV (eN rfl rfl) (mV ?_)));refine bP rfl rfl ?_ ?_<;>(intro hb;rw [hb];(try simp only [nm] at hb);try (exfalso;omega));(all_goals (refine yN rfl (yN rfl (yV (kQ rfl rfl) (pW rfl (aV ?_)))))))|refine nZ ?_));all_goals first | (exfalso;omega) | exact eP (.inl rfl) rfl (by first | rfl | (rw [decide_eq_false h2];rfl))
  · rw [decide_eq_false (fun h => h1 h.1)]
    (repeat' (first|refine wS ?_|refine wR ?_|(refine rg 0 (aV ?_))|(refine rg 1 (dS rfl (vV (eN rfl rfl) (mV ?_)));refine bP rfl rfl ?_ ?_<;>(intro hb;rw [hb];(try simp only [nm] at hb);try (exfalso;omega));(all_goals ((iterate 3 refine gF ?_);refine pW rfl (aV ?_))))|refine nZ ?_));all_goals first | (exfalso;omega) | exact eP (.inl rfl) rfl (by first | rfl | (rw [decide_eq_false h1];rfl))
theorem JZ (b : Bo) (n : Nat) (hn : n ≤ 1000000) : bI Tryz.prog 89 [.agg [.i b.1,.i b.2.1,.i b.2.2],.i n] [] (.b (Z9 b n)) [] := by
  obtain ⟨l,c,t⟩ := b;have b1 := W4 t 0 1000000;have b2 := W4 l (-1) ((n : Int) - 1);have b3 := W4 c 0 20000;unfold Z9;dsimp only;refine dA T Tryz.func89 rfl rfl rfl rfl ?_;by_cases h1 : 0 ≤ t ∧ t ≤ 1000000
  · rw [decide_eq_true h1] at b1;by_cases h2 : -1 ≤ l ∧ l ≤ (n : Int) - 1
    · rw [decide_eq_true h2] at b2;by_cases h3 : 0 ≤ c ∧ c ≤ 20000
      · rw [decide_eq_true h3] at b3;by_cases h4 : 0 ≤ l
        · rw [decide_eq_true ⟨h1,h2,h3,.inl h4⟩]
          (repeat' (first|refine wS ?_|refine wR ?_|(refine rg 0 (dQ (fE rfl rfl) rfl (aV ?_)))|(refine rg 1 (eT T rfl (vV (by exact dB rfl rfl b1 rfl rfl rfl) ?_));refine mW rfl (yP T rfl (yO T rfl (yN rfl (yV (fX rfl rfl (by omega) (by omega)) (yV (by exact dB rfl rfl b2 rfl rfl rfl) ?_)))));refine pW rfl (mW rfl (yP T rfl (yO T rfl (yV (by exact dB rfl rfl b3 rfl rfl rfl) ?_))));refine pW rfl (mW rfl (yP T rfl (yO T rfl (yV (eN rfl rfl) (yM ?_)))));refine bP rfl rfl ?_ ?_<;>(intro hb;rw [hb];(try simp only [nm] at hb);try (exfalso;omega));(all_goals ((iterate 3 refine gF ?_);refine gT (pW rfl (pW rfl (aV ?_))))))|refine nZ ?_));all_goals first | (exfalso;omega) | exact eP (.inl rfl) rfl (by first | rfl | (rw [decide_eq_true h4];rfl))
        · by_cases h5 : c = 0
          · rw [decide_eq_true ⟨h1,h2,h3,.inr h5⟩]
            (repeat' (first|refine wS ?_|refine wR ?_|(refine rg 0 (dQ (fE rfl rfl) rfl (aV ?_)))|(refine rg 1 (eT T rfl (vV (by exact dB rfl rfl b1 rfl rfl rfl) ?_));refine mW rfl (yP T rfl (yO T rfl (yN rfl (yV (fX rfl rfl (by omega) (by omega)) (yV (by exact dB rfl rfl b2 rfl rfl rfl) ?_)))));refine pW rfl (mW rfl (yP T rfl (yO T rfl (yV (by exact dB rfl rfl b3 rfl rfl rfl) ?_))));refine pW rfl (mW rfl (yP T rfl (yO T rfl (yV (eN rfl rfl) (yM ?_)))));refine bP rfl rfl ?_ ?_<;>(intro hb;rw [hb];(try simp only [nm] at hb);try (exfalso;omega));(all_goals (refine yP T rfl (yO T rfl (yV (cW rfl rfl) (gT (pW rfl (pW rfl (aV ?_)))))))))|refine nZ ?_));all_goals first | (exfalso;omega) | exact eP (.inl rfl) rfl (by first | rfl | (rw [decide_eq_true h5];rfl))
          · rw [decide_eq_false (fun h => h.2.2.2.elim h4 h5)]
            (repeat' (first|refine wS ?_|refine wR ?_|(refine rg 0 (dQ (fE rfl rfl) rfl (aV ?_)))|(refine rg 1 (eT T rfl (vV (by exact dB rfl rfl b1 rfl rfl rfl) ?_));refine mW rfl (yP T rfl (yO T rfl (yN rfl (yV (fX rfl rfl (by omega) (by omega)) (yV (by exact dB rfl rfl b2 rfl rfl rfl) ?_)))));refine pW rfl (mW rfl (yP T rfl (yO T rfl (yV (by exact dB rfl rfl b3 rfl rfl rfl) ?_))));refine pW rfl (mW rfl (yP T rfl (yO T rfl (yV (eN rfl rfl) (yM ?_)))));refine bP rfl rfl ?_ ?_<;>(intro hb;rw [hb];(try simp only [nm] at hb);try (exfalso;omega));(all_goals (refine yP T rfl (yO T rfl (yV (cW rfl rfl) (gT (pW rfl (pW rfl (aV ?_)))))))))|refine nZ ?_));all_goals first | (exfalso;omega) | exact eP (.inl rfl) rfl (by first | rfl | (rw [decide_eq_false h5];rfl))
      · rw [decide_eq_false h3] at b3;rw [decide_eq_false (fun h => h3 h.2.2.1)]
        (repeat' (first|refine wS ?_|refine wR ?_|(refine rg 0 (dQ (fE rfl rfl) rfl (aV ?_)))|(refine rg 1 (eT T rfl (vV (by exact dB rfl rfl b1 rfl rfl rfl) ?_));refine mW rfl (yP T rfl (yO T rfl (yN rfl (yV (fX rfl rfl (by omega) (by omega)) (yV (by exact dB rfl rfl b2 rfl rfl rfl) ?_)))));refine pW rfl (mW rfl (yP T rfl (yO T rfl (yV (by exact dB rfl rfl b3 rfl rfl rfl) ?_))));refine pW rfl (mV ?_);(iterate 4 refine gF ?_);(iterate 3 refine gU ?_);refine gF (pW rfl (aV ?_)))|refine nZ ?_));all_goals first | (exfalso;omega) | exact rQ
    · rw [decide_eq_false h2] at b2;rw [decide_eq_false (fun h => h2 h.2.1)]
      (repeat' (first|refine wS ?_|refine wR ?_|(refine rg 0 (dQ (fE rfl rfl) rfl (aV ?_)))|(refine rg 1 (eT T rfl (vV (by exact dB rfl rfl b1 rfl rfl rfl) ?_));refine mW rfl (yP T rfl (yO T rfl (yN rfl (yV (fX rfl rfl (by omega) (by omega)) (yV (by exact dB rfl rfl b2 rfl rfl rfl) ?_)))));refine pW rfl (mV ?_);(iterate 3 refine gF ?_);refine pW rfl (mV ?_);(iterate 4 refine gF ?_);(iterate 3 refine gU ?_);refine gF (pW rfl (aV ?_)))|refine nZ ?_));all_goals first | (exfalso;omega) | exact rQ
  · rw [decide_eq_false h1] at b1;rw [decide_eq_false (fun h => h1 h.1)]
    (repeat' (first|refine wS ?_|refine wR ?_|(refine rg 0 (dQ (fE rfl rfl) rfl (aV ?_)))|(refine rg 1 (eT T rfl (vV (by exact dB rfl rfl b1 rfl rfl rfl) ?_));refine mV ?_;(iterate 5 refine gF ?_);refine pW rfl (mV ?_);(iterate 3 refine gF ?_);refine pW rfl (mV ?_);(iterate 4 refine gF ?_);(iterate 3 refine gU ?_);refine gF (pW rfl (aV ?_)))|refine nZ ?_));all_goals first | (exfalso;omega) | exact rQ
theorem WD (l : List Bo) (hl : l.length ≤ 1000000) (h : ∀ b,b ∈ l → 0 ≤ b.2.1 ∧ b.2.1 ≤ 20000) : bI Tryz.prog 90 [.rowE (eY l) 3] [] (.i (uO l)) [] := by
  have hll := fM l;refine dA T Tryz.func90 rfl rfl rfl rfl ?_
  (repeat' (first|refine wS ?_|refine wB ?_|(refine rg 0 (aV ?_))|(refine rg 1 (aV ?_))|(refine rg 2 (mW rfl (qW T rfl (mV ?_))))|refine nZ ?_));refine dR (X := {k : Nat // k ≤ l.length}) (fun k => [(3,.i (uO (l.take k.1))),(6,.rowE (eY l) 3),(7,.i (eY l).length),(8,.i k.1)]) (fun _ => []) (fun k => l.length - k.1) ⟨0,bG _⟩ ⟨[],rfl,by (repeat (first | exact trivial | refine ⟨rfl,?_⟩)),trivial,aI,iK _⟩ ?_
  rintro ⟨k,hk⟩;dsimp only;by_cases hlt : k < l.length
  · have hg := zN hlt;have hu := JJ hlt;have h1 := QT (l := l.take k) fun b hb => h b (gB hb);have h2 := h _ (aH hlt);have hgd : l.getD k (0,0,0) = l[k] := by rw [aD,aC hlt];rfl
    rw [hgd] at hg;rw [bT] at h1;generalize l[k] = b at *;obtain ⟨b1,b2,b3⟩ := b;dsimp only at *;generalize uO (l.take k) = u at *
    (repeat' (first|refine wS ?_|refine wB ?_|refine wK ?_|(refine wC rfl ?_ ?_<;>(intro hb;(try simp only [nm] at hb);try (exfalso;omega)))|(refine rg 3 (vV (bE rfl rfl) ?_))|(refine rg 4 (vV (ix T rfl (by omega) (fZ _) hg) (lW T rfl (dQ (dC T rfl) rfl (bA T rfl rfl rfl rfl rfl rfl (by decide) rfl ?_)))))|(refine rg 5 (mW rfl (eT T rfl (vV (eD rfl rfl (by omega) (by omega)) (aV ?_)))))|(refine rg 6 (vV (eD rfl rfl (by omega) (by omega)) (mV ?_)))|refine nZ ?_));all_goals first | (exfalso;omega) | exact ⟨⟨k + 1,hlt⟩,by dsimp only;omega,[],rfl,by dsimp only;rw [hu];(repeat (first | exact trivial | refine ⟨rfl,?_⟩)),trivial,aI,iK _⟩
  · obtain rfl : k = l.length := by omega
    rw [dJ]
    (repeat' (first|refine wS ?_|refine wR ?_|refine wE ?_|(refine wC rfl ?_ ?_<;>(intro hb;(try simp only [nm] at hb);try (exfalso;omega)))|(refine rg 3 (vV (bE rfl rfl) ?_))|(refine rg 7 (mW rfl (aV ?_)))|refine nZ ?_));all_goals first | (exfalso;omega) | exact rQ
theorem ZJ : Tryz.prog.underlying 203 = some (.map 9 4) := by kernel_rfl
theorem ZE : rR Tryz.prog 9 (MapKept.IsKey .string) := rR.plain (by kernel_rfl)
theorem zQ1 : ∀ w,(zeroValue 4).run Tryz.prog w = .ok (.bool false) w := FA (by kernel_rfl)
theorem DF (l : List Kd) (h : VQ l) : bI Tryz.prog 87 [.rowE (F0 l) 2] [] (.b true) [] := by
  have hll := K1 l;have hle := h.le;refine dA T Tryz.func87 rfl rfl rfl rfl ?_
  (repeat' (first|refine wS ?_|refine wB ?_|(refine rg 0 (aV ?_))|(refine rg 1 (dQ (by exact CI) rfl ?_);refine aV ?_)|(refine rg 2 (mW rfl (qW T rfl (mV ?_))))|refine nZ ?_));refine dR (X := {k : Nat // k ≤ l.length}) (fun k => [(0,.rowE (F0 l) 2),(3,.mp 0),(7,.rowE (F0 l) 2),(8,.i (F0 l).length),(9,.i k.1)]) (fun k => [.mapO (zH3 (l.take k.1)) (zK1 (l.take k.1))]) (fun k => l.length - k.1) ⟨0,bG _⟩ ⟨[0],rfl,by (repeat (first | exact trivial | refine ⟨rfl,?_⟩)),⟨.inr rfl,trivial⟩,by decide,iK _⟩ ?_
  rintro ⟨k,hk⟩;dsimp only;by_cases hlt : k < l.length
  · have hg := TE hlt;have hn := zC6 (h.new hlt);obtain ⟨o1,o2⟩ := h.ok _ (aH hlt);have e1 : zH3 (l.take (k + 1)) = zH3 (l.take k) ++ [kS l[k].1] := by rw [zH3,bB hlt,dI];rfl
    have e2 : zK1 (l.take (k + 1)) = zK1 (l.take k) ++ [.b true] := by rw [zK1,bB hlt,dI];rfl
    have hgo := TC (l.take k);generalize l[k] = x at *;obtain ⟨knm,wt⟩ := x;dsimp only at *;have b1 := W4 knm.length 1 20;have b2 := W4 wt 1 10000;rw [decide_eq_true ⟨by omega,by omega⟩] at b1
    rw [decide_eq_true o2] at b2
    (repeat' (first|refine wS ?_|refine wB ?_|refine wK ?_|(refine wC rfl ?_ ?_<;>(intro hb;(try simp only [nm] at hb);try (exfalso;omega)))|(refine rg 3 (vV (bE rfl rfl) ?_))|(refine rg 4 (vV (ix T rfl (by omega) (TD _) hg) (lW T rfl (dQ (dC T rfl) rfl (bA T rfl rfl rfl rfl rfl rfl (by decide) rfl ?_)))))|refine nZ ?_));all_goals try (exfalso;omega)
    refine fK 5 (cs := [.s knm,.i wt]) rfl rfl rfl ?_
    (repeat' (first|refine wK ?_|refine wU ?_|(refine rg 5 (eT T rfl (vV (fF eK rfl) (vV (by exact dB rfl rfl b1 rfl rfl rfl) ?_)));refine vV (cV rfl) (mW rfl (yP T rfl (yO T rfl (yV (by exact dB rfl rfl b2 rfl rfl rfl) ?_))));refine yV (cV rfl) (pW rfl (mW rfl (yN rfl (yP T rfl (yO T rfl (yV (by exact N6 (zA := .b false) ZJ ZE zQ1 zM8 rfl rfl (ZL _) rfl hgo (KU _) hn) ?_))))));refine pV ?_)|(refine rg 7 (mW rfl (eT T rfl (AL ZJ ZE rfl rfl (ZL _) rfl rfl hgo (KU _) hn ?_))))|(refine rg 8 (vV (eD rfl rfl (by omega) (by omega)) (mV ?_)))|refine nZ ?_));all_goals try (exfalso;omega)
    all_goals exact ⟨⟨k + 1,hlt⟩,by dsimp only;omega,[0],rfl,by (repeat (first | exact trivial | refine ⟨rfl,?_⟩)),⟨.inr (nE rfl e1.symm e2.symm (XR _)),trivial⟩,by decide,iK _⟩
  · obtain rfl : k = l.length := by omega
    (repeat' (first|refine wS ?_|refine wR ?_|refine wE ?_|(refine wC rfl ?_ ?_<;>(intro hb;(try simp only [nm] at hb);try (exfalso;omega)))|(refine rg 3 (vV (bE rfl rfl) ?_))|(refine rg 9 (mW rfl (qW T rfl (vV (kQ rfl rfl) (aV ?_)))))|refine nZ ?_));all_goals first | (exfalso;omega) | exact eP (.inl rfl) rfl (by first | rfl | (rw [decide_eq_true (by omega)];rfl))
theorem CX (ks : List Kd) (ls : List Lo) (bs : List Bo) (hk : VQ ks) (hl : ls.length ≤ 1000000) (hbs : bs.length ≤ 1000000) : bI Tryz.prog 34 [.rowE (F0 ks) 2,.rowE (iX ls) 3,.rowE (eY bs) 3] [] (.b (DG ks.length ls bs)) [] := by
  have hkl := K1 ks;have hll := pJ ls;have hbl := fM bs;have hk5 := hk.le;have hrk := DF ks hk;unfold DG;refine dA T Tryz.func34 rfl rfl rfl rfl ?_;by_cases hA : ls.length ≤ 2000 ∧ bs.length ≤ 3000
  case neg =>
    rw [decide_eq_false hA,jQ]
    (repeat' (first|refine wS ?_|refine wR ?_|refine wT ?_|(refine rg 0 (aV ?_))|(refine rg 1 (mW rfl (qW T rfl (vV (gH rfl rfl) (mV ?_))));refine bP rfl rfl ?_ ?_<;>(intro hb;rw [hb];(try simp only [nm] at hb);try (exfalso;omega));(all_goals first|(refine gT (mW rfl (gT (qW T rfl (gT (vV (gH rfl rfl) ?_))))))|(iterate 3 refine gF ?_));(all_goals (refine pW rfl (mV ?_)));(all_goals first|(refine gK ?_)|(refine bP rfl rfl ?_ ?_<;>(intro hb;rw [hb];(try simp only [nm] at hb);try (exfalso;omega))));(all_goals ((iterate 3 refine gF ?_);refine pV ?_)))|(refine rg 2 (aV ?_))|refine nZ ?_));all_goals first | (exfalso;omega) | exact rQ
  rw [decide_eq_true hA,kK]
  (repeat' (first|refine wS ?_|refine wB ?_|refine wK ?_|refine wU ?_|(refine rg 0 (aV ?_))|(refine rg 1 (mW rfl (qW T rfl (vV (gH rfl rfl) (mV ?_))));refine bP rfl rfl ?_ ?_<;>(intro hb;rw [hb];(try simp only [nm] at hb);try (exfalso;omega));(all_goals (refine yN rfl (gT (qW T rfl (yV (gH rfl rfl) (pW rfl (mV ?_)))));refine bP rfl rfl ?_ ?_<;>(intro hb;rw [hb];(try simp only [nm] at hb);try (exfalso;omega))));(all_goals (refine yN rfl (yV (kC (hrk)) (yV (cV rfl) (pV ?_))))))|(refine rg 3 (mW rfl (qW T rfl (mV ?_))))|refine nZ ?_));all_goals try (exfalso;omega)
  refine dR (X := {k : Nat // k ≤ ls.length ∧ ∀ x,x ∈ ls.take k → SJ x ks.length = true}) (fun k => [(0,.rowE (F0 ks) 2),(1,.rowE (iX ls) 3),(2,.rowE (eY bs) 3),(24,.rowE (iX ls) 3),(25,.i (iX ls).length),(26,.i k.1)]) (fun _ => []) (fun k => ls.length - k.1) ⟨0,bG _,fun x hx => by simp at hx⟩ ⟨[],rfl,by (repeat (first | exact trivial | refine ⟨rfl,?_⟩)),trivial,aI,iK _⟩ ?_
  rintro ⟨k,hk1,hk2⟩;dsimp only;by_cases hlt : k < ls.length
  · have hg : (iX ls)[(k : Int).toNat]? = some [AV.i ls[k].1,AV.i ls[k].2.1,AV.b ls[k].2.2] := by simp [hlt]
    have hnx := X8 (p := (SJ · ks.length)) hlt hk2;have hno := EN (p := (SJ · ks.length)) (aH hlt)
    try dsimp only at hnx hno
    generalize ls[k] = x at *;obtain ⟨x1,x2,x3⟩ := x;dsimp only at *;have b1 := W4 x1 0 ((ks.length : Int) - 1);have b2 := W4 x2 0 20000;rw [← hkl] at b1;by_cases h1 : 0 ≤ x1 ∧ x1 ≤ ((F0 ks).length : Int) - 1
    · rw [decide_eq_true h1] at b1;rw [hkl] at h1;by_cases h2 : 0 ≤ x2 ∧ x2 ≤ 20000
      · rw [decide_eq_true h2] at b2;have hny := hnx (decide_eq_true ⟨h1,h2⟩)
        (repeat' (first|refine wS ?_|refine wB ?_|refine wK ?_|(refine wC rfl ?_ ?_<;>(intro hb;(try simp only [nm] at hb);try (exfalso;omega)))|(refine rg 4 (vV (bE rfl rfl) ?_))|(refine rg 5 (vV (ix T rfl (by omega) (pA _) hg) (lW T rfl (dQ (dC T rfl) rfl (bA T rfl rfl rfl rfl rfl rfl (by decide) rfl ?_)))))|refine nZ ?_));all_goals try (exfalso;omega)
        refine fK 8 (cs := [.i x1,.i x2,.b x3]) rfl rfl rfl ?_
        (repeat' (first|refine wK ?_|refine wU ?_|(refine rg 6 (eT T rfl (mW rfl (qW T rfl (vV (fX rfl rfl (by omega) (by omega)) (vV (by exact dB rfl rfl b1 rfl rfl rfl) ?_)))));refine vV (cV rfl) (mW rfl (yP T rfl (yO T rfl (yV (by exact dB rfl rfl b2 rfl rfl rfl) ?_))));refine yV (cV rfl) (pV ?_))|(refine rg 8 (vV (eD rfl rfl (by omega) (by omega)) (mV ?_)))|refine nZ ?_));all_goals first | (exfalso;omega) | exact ⟨⟨k + 1,hlt,hny⟩,by dsimp only;omega,[],rfl,by (repeat (first | exact trivial | refine ⟨rfl,?_⟩)),trivial,aI,iK _⟩
      · rw [decide_eq_false h2] at b2;rw [hno (decide_eq_false (fun h => h2 h.2)),jQ]
        (repeat' (first|refine wS ?_|refine wB ?_|refine wK ?_|(refine wC rfl ?_ ?_<;>(intro hb;(try simp only [nm] at hb);try (exfalso;omega)))|(refine rg 4 (vV (bE rfl rfl) ?_))|(refine rg 5 (vV (ix T rfl (by omega) (pA _) hg) (lW T rfl (dQ (dC T rfl) rfl (bA T rfl rfl rfl rfl rfl rfl (by decide) rfl ?_)))))|refine nZ ?_));all_goals try (exfalso;omega)
        refine fK 8 (cs := [.i x1,.i x2,.b x3]) rfl rfl rfl ?_
        (repeat' (first|refine wS ?_|refine wR ?_|refine wT ?_|(refine rg 6 (eT T rfl (mW rfl (qW T rfl (vV (fX rfl rfl (by omega) (by omega)) (vV (by exact dB rfl rfl b1 rfl rfl rfl) ?_)))));refine vV (cV rfl) (mW rfl (yP T rfl (yO T rfl (yV (by exact dB rfl rfl b2 rfl rfl rfl) ?_))));refine yV (cV rfl) (pV ?_))|(refine rg 7 (aV ?_))|refine nZ ?_));all_goals first | (exfalso;omega) | exact rQ
    · rw [decide_eq_false h1] at b1;rw [hkl] at h1;rw [hno (decide_eq_false (fun h => h1 h.1)),jQ]
      (repeat' (first|refine wS ?_|refine wB ?_|refine wK ?_|(refine wC rfl ?_ ?_<;>(intro hb;(try simp only [nm] at hb);try (exfalso;omega)))|(refine rg 4 (vV (bE rfl rfl) ?_))|(refine rg 5 (vV (ix T rfl (by omega) (pA _) hg) (lW T rfl (dQ (dC T rfl) rfl (bA T rfl rfl rfl rfl rfl rfl (by decide) rfl ?_)))))|refine nZ ?_));all_goals try (exfalso;omega)
      refine fK 8 (cs := [.i x1,.i x2,.b x3]) rfl rfl rfl ?_
      (repeat' (first|refine wS ?_|refine wR ?_|refine wT ?_|(refine rg 6 (eT T rfl (mW rfl (qW T rfl (vV (fX rfl rfl (by omega) (by omega)) (vV (by exact dB rfl rfl b1 rfl rfl rfl) ?_)))));refine vV (cV rfl) (mV ?_);(iterate 4 refine gF ?_);refine pV ?_)|(refine rg 7 (aV ?_))|refine nZ ?_));all_goals first | (exfalso;omega) | exact rQ
  · obtain rfl : k = ls.length := by omega
    rw [dJ] at hk2;rw [show ls.all (SJ · ks.length) = true from bD.2 hk2,kK]
    (repeat' (first|refine wS ?_|refine wB ?_|refine wE ?_|(refine wC rfl ?_ ?_<;>(intro hb;(try simp only [nm] at hb);try (exfalso;omega)))|(refine rg 4 (vV (bE rfl rfl) ?_))|(refine rg 9 (mW rfl (qW T rfl (mV ?_))))|refine nZ ?_));all_goals try (exfalso;omega)
    refine dR (X := {k : Nat // k ≤ bs.length ∧ ∀ x,x ∈ bs.take k → Z9 x ls.length = true}) (fun k => [(0,.rowE (F0 ks) 2),(1,.rowE (iX ls) 3),(2,.rowE (eY bs) 3),(44,.rowE (eY bs) 3),(45,.i (eY bs).length),(46,.i k.1)]) (fun _ => []) (fun k => bs.length - k.1) ⟨0,bG _,fun x hx => by simp at hx⟩ ⟨[],rfl,by (repeat (first | exact trivial | refine ⟨rfl,?_⟩)),trivial,aI,iK _⟩ ?_
    rintro ⟨k,hk1,hk3⟩;dsimp only;by_cases hlt2 : k < bs.length
    · have hg : (eY bs)[(k : Int).toNat]? = some [AV.i bs[k].1,AV.i bs[k].2.1,AV.i bs[k].2.2] := by simp [hlt2]
      have hnx := X8 (p := (Z9 · ls.length)) hlt2 hk3;have hno := EN (p := (Z9 · ls.length)) (aH hlt2);have b1 := JZ bs[k] ls.length (by omega)
      generalize bs[k] = x at *;obtain ⟨x1,x2,x3⟩ := x;rw [← hll] at b1;cases ho : Z9 (x1,x2,x3) ls.length with
      | true =>
        rw [hll,ho] at b1;rw [← hll] at b1;have hny := hnx ho
        (repeat' (first|refine wS ?_|refine wB ?_|refine wK ?_|(refine wC rfl ?_ ?_<;>(intro hb;(try simp only [nm] at hb);try (exfalso;omega)))|(refine rg 10 (vV (bE rfl rfl) ?_))|(refine rg 11 (vV (ix T rfl (by omega) (fZ _) hg) (lW T rfl (dQ (dC T rfl) rfl (bA T rfl rfl rfl rfl rfl rfl (by decide) rfl ?_)))))|refine nZ ?_));all_goals try (exfalso;omega)
        refine fK 10 (cs := [.i x1,.i x2,.i x3]) rfl rfl rfl ?_
        (repeat' (first|refine wK ?_|refine wU ?_|(refine rg 12 (lW T rfl (mW rfl (qW T rfl (vV (by exact dB rfl rfl b1 rfl rfl rfl) ?_))));refine vV (cV rfl) ?_)|(refine rg 14 (vV (eD rfl rfl (by omega) (by omega)) (mV ?_)))|refine nZ ?_));all_goals first | (exfalso;omega) | exact ⟨⟨k + 1,hlt2,hny⟩,by dsimp only;omega,[],rfl,by (repeat (first | exact trivial | refine ⟨rfl,?_⟩)),trivial,aI,iK _⟩
      | false =>
        rw [hll,ho] at b1;rw [← hll] at b1;rw [hno ho,jQ]
        (repeat' (first|refine wS ?_|refine wB ?_|refine wK ?_|(refine wC rfl ?_ ?_<;>(intro hb;(try simp only [nm] at hb);try (exfalso;omega)))|(refine rg 10 (vV (bE rfl rfl) ?_))|(refine rg 11 (vV (ix T rfl (by omega) (fZ _) hg) (lW T rfl (dQ (dC T rfl) rfl (bA T rfl rfl rfl rfl rfl rfl (by decide) rfl ?_)))))|refine nZ ?_));all_goals try (exfalso;omega)
        refine fK 10 (cs := [.i x1,.i x2,.i x3]) rfl rfl rfl ?_
        (repeat' (first|refine wS ?_|refine wR ?_|refine wT ?_|(refine rg 12 (lW T rfl (mW rfl (qW T rfl (vV (by exact dB rfl rfl b1 rfl rfl rfl) ?_))));refine vV (cV rfl) ?_)|(refine rg 13 (aV ?_))|refine nZ ?_));all_goals first | (exfalso;omega) | exact rQ
    · obtain rfl : k = bs.length := by omega
      rw [dJ] at hk3;rw [show bs.all (Z9 · ls.length) = true from bD.2 hk3,kK]
      have hu := WD bs hbs fun b hb => by
        have := hk3 b hb;unfold Z9 at this;rw [decide_eq_true_eq] at this;exact this.2.2.1
      (repeat' (first|refine wS ?_|refine wR ?_|refine wE ?_|(refine wC rfl ?_ ?_<;>(intro hb;(try simp only [nm] at hb);try (exfalso;omega)))|(refine rg 10 (vV (bE rfl rfl) ?_))|(refine rg 15 (mW rfl (vV (by exact dB rfl rfl hu rfl rfl rfl) ?_));refine vV (kQ rfl rfl) (aV ?_))|refine nZ ?_));all_goals first | (exfalso;omega) | exact rQ
end Go.Proofs.YtdfmhddmddgniaaGreatDoor
