/-
  Texts of the logic and of the layer,in one module (part 6).
-/
import Derived.Test.YtdmajnjoeidgeaaGreatI5
import Derived.Shelf.Slices.Reverse
set_option linter.unusedVariables false
set_option linter.unusedSimpArgs false
namespace Go.Proofs.YtdmajnjoeidgeaaGreat
open Go Go.Ab Go.Fl Go.Re Go.Ln Go.MapKept
attribute [local irreducible] VC AW bR bQ fT
set_option maxHeartbeats 4000000
section
variable {P : Program} {env : eG} {h : Hp}
variable {d : Option Nat} {ty : TypeId} {pos : String} {af : Array Edge} {g : Option (Nat × Bool)}
variable {t kt et : TypeId} {good : Value → Prop} {x y : Operand} {i : Nat} {kv : Value} {ks : List Value} {vs : List AV} {v : AV}
theorem R8 (ht : P.underlying t = some (.map kt et)) (ko : mU P kt good) (hx : evu env x = some (.mrow ks vs)) {yv : AV} (hy : evu env y = some yv) (hyv : V7 yv kv) (hkeys : ∀ q,q ∈ ks → good q) (hkey : good kv) (hnd : ks.Nodup) (hi : ks[i]? = some kv) (hv : vs[i]? = some v) (hidf : v.idf = true) :
    bR P ⟨d,.lookup t x y false,ty,pos,af,g⟩ env h 0 (fun _ => v) (fun _ => []) := by
  refine gN fun ρ S a w p => ?_
  have h1 := p.evu hx;simp only [R] at h1;obtain ⟨b,l,ck,h3,_,h6,h7,h8⟩ := h1;have h4 := hyv _ _ _ _ (p.evu hy);obtain ⟨e,h9,h10,_⟩ := uF ko w h7 hkeys hkey hnd hi;refine ⟨e.val,?_,?_⟩
  · simp [execOp,h3,h4,Instr.lookup,run_underlying ht,MapKept.run_getObj_map h6,ko.check w _ hkey,h9]
  · obtain ⟨u,h11,h12⟩ := mY h8 i v hv;rw [aU,h10] at h11;cases h11;exact BE _ _ _ _ hidf h12
theorem FF (ht : P.underlying t = some (.map kt et)) (ko : mU P kt good) {z : Value} {zA : AV} (hz : ∀ w,(zeroValue et).run P w = .ok z w) (hzA : ∀ (S : Nat → Prop) (w : World) (ρ : Pl),R S w zA ρ z) (hx : evu env x = some (.mrow ks vs)) {yv : AV} (hy : evu env y = some yv) (hyv : V7 yv kv) (hkeys : ∀ q,q ∈ ks → good q) (hkey : good kv) (hni : kv ∉ ks) :
    bR P ⟨d,.lookup t x y false,ty,pos,af,g⟩ env h 0 (fun _ => zA) (fun _ => []) := by
  refine gN fun ρ S a w p => ?_
  have h1 := p.evu hx;simp only [R] at h1;obtain ⟨b,l,ck,h3,_,h6,h7,h8⟩ := h1;have h4 := hyv _ _ _ _ (p.evu hy);have h9 := uG ko w h7 hkeys hkey hni;refine ⟨z,?_,hzA S w ρ⟩;simp [execOp,h3,h4,Instr.lookup,run_underlying ht,MapKept.run_getObj_map h6,ko.check w _ hkey,h9,hz]
end
abbrev iC := Ln.Edge
abbrev gP := Ln.Node
def kE (e : iC) : Value := .agg #[.int .i64 e.1,.int .i64 e.2]
def kN (n : gP) : Value := .agg #[.int .i64 n.1,.bool n.2]
def uN (x : Int) : Prop := -9223372036854775808 ≤ x ∧ x ≤ 9223372036854775807
theorem zC6 {x : Int} : (Lit.int .i64 x).wf = true ↔ uN x := by
  have h1 : IntKind.i64.min = -9223372036854775808 := by decide
  have h2 : IntKind.i64.max = 9223372036854775807 := by decide
  simp [Lit.wf,uN,h1,h2]
def UB (v : Value) : Prop := ∃ e : iC,(uN e.1 ∧ uN e.2) ∧ v = kE e
def UA (v : Value) : Prop := ∃ n : gP,uN n.1 ∧ v = kN n
def RI (P : Program) (t a b : TypeId) : Bool := match P.underlying t with
  | some (.struct fs) => (match fs.toList with
    | [f, g] => (f.name != "_") && (g.name != "_") && Nat.beq f.offset 0 && Nat.beq g.offset 1 && Nat.beq f.type a && Nat.beq g.type b
    | _ => false)
  | _ => false
theorem EJ {P : Program} {t a b : TypeId} (h : RI P t a b = true) : ∃ fs f g, P.underlying t = some (.struct fs) ∧ fs.toList = [f, g] ∧ (f.name != "_") = true ∧ (g.name != "_") = true ∧ f.offset = 0 ∧ g.offset = 1 ∧ f.type = a ∧ g.type = b := by
  unfold RI at h;split at h
  · rename_i fs hu;split at h
    · rename_i f g hl;simp only [aT] at h;obtain ⟨⟨⟨⟨⟨h1,h2⟩,h3⟩,h4⟩,h5⟩,h6⟩ := h;exact ⟨fs,f,g,hu,hl,h1,h2,aP h3,aP h4,aP h5,aP h6⟩
    · cases h
  · cases h
theorem MX {P : Program} {t a b : TypeId} (h : RI P t a b = true) (hk : P.keyType t = true) (hc : P.cellsOf t = 2) (ha : P.cellsOf a = 1) (hb : P.cellsOf b = 1) {v w : Value} (hv : v.cells.toList = [v]) (hw : w.cells.toList = [w])
    {lv lw : List Lit} (hlv : ∀ d,P.keyLits (d + 1) a [v] = some lv) (hlw : ∀ d,P.keyLits (d + 1) b [w] = some lw) (hp : 1 ≤ P.types.size) : ∃ l,keyOf P t (.agg #[v,w]) = some l := by
  obtain ⟨fs,f,g,hu,hl,h1,h2,h3,h4,h5,h6⟩ := EJ h;have hf : Value.formed P t (.agg #[v,w]) = true := by simp only [Value.formed,hu,hc];rfl
  obtain ⟨d,hd⟩ : ∃ d,P.types.size = d + 1 := ⟨P.types.size - 1,by omega⟩
  unfold keyOf;rw [hu];simp only [hk,hf,zT2,if_true,hd];have hall : fs.all (fun x => x.name != "_") = true := by
    rw [← Array.all_toList,hl];simp only [T8,h1,h2,List.all_nil,zT2]
  have e : P.keyLits (d + 1 + 1) t (Value.agg #[v,w]).cells.toList = some (lv ++ lw) := by
    have e0 : (Value.agg #[v,w]).cells.toList = [v,w] := rfl;rw [e0];unfold Program.keyLits;simp only [hu];rw [if_pos ⟨by simp [hc],hall⟩,hl]
    simp only [zO3,List.mapM_nil,h3,h4,h5,h6,ha,hb,fJ,List.drop_succ_cons,uB,L6,hlv,hlw];simp
  rw [e];exact ⟨_,rfl⟩
theorem zM7 : Tryz.prog.underlying 3 = some (.int .i64) := by kernel_rfl
theorem zH7 : Tryz.prog.underlying 4 = some .bool := by kernel_rfl
theorem Z5 {x : Int} (h : uN x) (d : Nat) : Tryz.prog.keyLits (d + 1) 3 [.int .i64 x] = some [.int .i64 x] := by
  simp only [Program.keyLits,zM7,zC6.2 h,and_self,if_true]
theorem QO (x : Bool) (d : Nat) : Tryz.prog.keyLits (d + 1) 4 [.bool x] = some [.bool x] := by
  simp only [Program.keyLits,zH7]
theorem CH : Nat.ble 1 Tryz.prog.types.size = true := by kernel_rfl
theorem IG : RI Tryz.prog 129 3 3 = true := by kernel_rfl
theorem HK : RI Tryz.prog 122 3 4 = true := by kernel_rfl
theorem YY : Tryz.prog.keyType 129 = true := by kernel_rfl
theorem XX : Tryz.prog.keyType 122 = true := by kernel_rfl
theorem YZ : Tryz.prog.cellsOf 129 = 2 := by kernel_rfl
theorem XY : Tryz.prog.cellsOf 122 = 2 := by kernel_rfl
theorem KI : Tryz.prog.cellsOf 3 = 1 := by kernel_rfl
theorem ZL : Tryz.prog.cellsOf 4 = 1 := by kernel_rfl
theorem QE : Tryz.prog.keyTypeAt 2 129 = true := by kernel_rfl
theorem KT : Tryz.prog.tiled 2 129 = true := by kernel_rfl
theorem PG : Tryz.prog.keyTypeAt 2 122 = true := by kernel_rfl
theorem KB : Tryz.prog.tiled 2 122 = true := by kernel_rfl
theorem QF {e : iC} (h : uN e.1 ∧ uN e.2) : ∃ l,keyOf Tryz.prog 129 (kE e) = some l :=
  have hp := bE CH
  MX IG YY YZ KI KI rfl rfl (Z5 h.1) (Z5 h.2) hp
theorem PH {n : gP} (h : uN n.1) : ∃ l,keyOf Tryz.prog 122 (kN n) = some l :=
  have hp := bE CH
  MX HK XX XY KI ZL rfl rfl (Z5 h) (QO n.2) hp
theorem NO : mU Tryz.prog 129 UB := by
  have k := mU.deep (P := Tryz.prog) (m := 2) (by decide) QE KT (by obtain ⟨fs,f,g,hu,_⟩ := EJ IG;rw [hu])
  have w : ∀ {v},UB v → ∃ l,keyOf Tryz.prog 129 v = some l := fun ⟨s,h1,h2⟩ => h2 ▸ QF h1
  exact ⟨fun w' em v hv => k.check w' em (w hv),fun w' x hx es hes => k.find w' (w hx) es fun e he => w (hes e he),fun w' v hv => k.stays w' (w hv)⟩
theorem Y5 : mU Tryz.prog 122 UA := by
  have k := mU.deep (P := Tryz.prog) (m := 2) (by decide) PG KB (by obtain ⟨fs,f,g,hu,_⟩ := EJ HK;rw [hu])
  have w : ∀ {v},UA v → ∃ l,keyOf Tryz.prog 122 v = some l := fun ⟨s,h1,h2⟩ => h2 ▸ PH h1
  exact ⟨fun w' em v hv => k.check w' em (w hv),fun w' x hx es hes => k.find w' (w hx) es fun e he => w (hes e he),fun w' v hv => k.stays w' (w hv)⟩
abbrev D0 (s : lN) (W : List Int) (st : Int) (mt mp : AV) : List AV := fS s ++ [.rowE (aI W) 1,.i st,mt,mp]
abbrev BP (T : List iC) : List AV := T.map fun _ => AV.b true
abbrev zJ (U : List (Int × Int)) : List Value := U.map fun x => kI x.1
abbrev U6 (U : List (Int × Int)) : List AV := U.map fun x => AV.i x.2
abbrev mE (l : List gP) : List (List AV) := l.map fun n => [AV.i n.1,AV.b n.2]
def kF (U : List (Int × Int)) (c : Int) : Option Int := (U.find? fun x => decide (x.1 = c)).map (·.2)
def iN (s : lN) (W : List Int) (st : Int) : wV := ⟨lS s.fl W,sW s.fl,st⟩
theorem xR {U : List (Int × Int)} {c p : Int} (h : kF U c = some p) : ∃ i : Nat,(zJ U)[i]? = some (kI c) ∧ (U6 U)[i]? = some (.i p) := by
  unfold kF at h;obtain ⟨x,hx,hp⟩ := cQ.1 h;have hm := Q6 hx;have hc := zJ4 hx;simp only [decide_eq_true_eq] at hc;obtain ⟨i,hi⟩ := cU.1 hm;exact ⟨i,by simp [hi,hc],by simp [hi,hp]⟩
theorem E8 {U : List (Int × Int)} {c : Int} (h : kF U c = none) : kI c ∉ zJ U := by
  unfold kF at h;rw [Option.map_eq_none_iff,List.find?_eq_none] at h;intro hm;obtain ⟨x,hx,e⟩ := aQ.1 hm;simp [kI] at e;exact h x hx (by simpa using e)
theorem tS (U : List (Int × Int)) : ∀ q,q ∈ zJ U → IsKey (.int .i64) q := by
  intro q hq;obtain ⟨n,_,rfl⟩ := aQ.1 hq;rfl
theorem TO {a b : iC} (h : kE a = kE b) : a = b := by
  unfold kE at h;simp only [Value.agg.injEq,Array.mk.injEq,List.cons.injEq,Value.int.injEq,true_and,and_true] at h;exact Prod.ext h.1 h.2
theorem TM {a b : gP} (h : kN a = kN b) : a = b := by
  unfold kN at h;simp only [Value.agg.injEq,Array.mk.injEq,List.cons.injEq,Value.int.injEq,Value.bool.injEq,true_and,and_true] at h;exact Prod.ext h.1 h.2
theorem MZ (a b : Int) : V7 (.agg [.i a,.i b]) (kE (a,b)) := V7.agg [.int .i64 a,.int .i64 b]
theorem Z3 (a : Int) (b : Bool) : V7 (.agg [.i a,.b b]) (kN (a,b)) := V7.agg [.int .i64 a,.bool b]
theorem zB3 {T : List iC} (h : T.Nodup) : (T.map kE).Nodup := h.map _ (fun a b hab e => hab (TO e))
theorem zM4 {T : List iC} {e : iC} (h : e ∈ T) : ∃ i : Nat,(T.map kE)[i]? = some (kE e) ∧ (BP T)[i]? = some (.b true) := by
  obtain ⟨i,hi⟩ := cU.1 h;exact ⟨i,by simp [hi],by simp [hi]⟩
theorem zB2 {T : List iC} {e : iC} (h : e ∉ T) : kE e ∉ T.map kE := fun hm => by
  obtain ⟨x,hx,q⟩ := aQ.1 hm;rw [TO q] at hx;exact h hx
def FW (T : List iC) : Prop := ∀ e,e ∈ T → uN e.1 ∧ uN e.2
theorem FW.good {T : List iC} (h : FW T) : ∀ q,q ∈ T.map kE → UB q := by
  intro q hq;obtain ⟨e,he,rfl⟩ := aQ.1 hq;exact ⟨e,h e he,rfl⟩
theorem C3 : Tryz.prog.underlying 71 = some (.map 129 4) := by kernel_rfl
theorem xU : Tryz.prog.underlying 123 = some (.map 122 122) := by kernel_rfl
def BU (T : List iC) (st c : Int) (x : Int) : Option gP := if x ≠ st ∧ (c,x) ∉ T then some (x,false) else none
theorem YS {α β : Type} {F : α → Option β} {l : List α} {j : Nat} (h : j < l.length) : (l.take (j + 1)).filterMap F = (l.take j).filterMap F ++ (match F l[j] with | some y => [y] | none => []) := by
  rw [aJ h,jC];congr 1;cases hF : F l[j] <;> simp [kB,hF]
theorem kO (l : List gP) : ∀ e,e ∈ mE l → AV.idfL e = true := by intro e he;obtain ⟨i,_,rfl⟩ := aQ.1 he;rfl
theorem CV {l : List gP} {c : Int} {o : Bool} : List.take l.length (List.drop 0 (mE l)) ++ [[AV.i c,AV.b o]] = mE (l ++ [(c,o)]) := by
  rw [fJ,bC (by simp)];simp
section
variable {env : eG} {h : Hp} {d : Option Nat} {ty : TypeId} {pos : String} {af : Array Edge} {g : Option (Nat × Bool)} {x y : Operand}
theorem UC {U : List (Int × Int)} {c : Int} (hU : (zJ U).Nodup) (hx : evu env x = some (.mrow (zJ U) (U6 U))) (hy : evu env y = some (.i c)) :
    bR Tryz.prog ⟨d,.lookup 72 x y true,ty,pos,af,g⟩ env h 0 (fun _ => .tup [.i ((kF U c).getD 0),.b (kF U c).isSome]) (fun _ => []) := by
  cases hu : kF U c with
  | none => exact oO (zA := .i 0) mB jL T4 (fun _ _ _ => iI _) hx hy (gC _) (tS U) (eR _) (E8 hu)
  | some p =>
    obtain ⟨i,hi1,hi2⟩ := xR hu;exact oP mB jL hx hy (gC _) (tS U) (eR _) hU hi1 hi2 rfl
theorem DI {Te : List iC} {a b : Int} (hT : FW Te) (hTn : Te.Nodup) (ha : uN a) (hb : uN b) (hx : evu env x = some (.mrow (Te.map kE) (BP Te))) (hy : evu env y = some (.agg [.i a,.i b])) :
    bR Tryz.prog ⟨d,.lookup 71 x y false,ty,pos,af,g⟩ env h 0 (fun _ => .b (decide ((a,b) ∈ Te))) (fun _ => []) := by
  by_cases hm : (a,b) ∈ Te
  · rw [decide_eq_true hm];obtain ⟨i,hi1,hi2⟩ := zM4 hm;exact R8 C3 NO hx hy (MZ _ _) hT.good ⟨(a,b),⟨ha,hb⟩,rfl⟩ (zB3 hTn) hi1 hi2 rfl
  · rw [decide_eq_false hm];exact FF (zA := .b false) C3 NO LS (fun _ _ _ => iI _) hx hy (MZ _ _) hT.good ⟨(a,b),⟨ha,hb⟩,rfl⟩ (zB2 hm)
end
theorem TA (s : lN) (g : iL s.fl) (W : List Int) (hW : vK W) (hWl : W.length ≤ 1000000) (hWr : ∀ x,x ∈ W → uN x) (st : Int) (Te : List iC) (hT : FW Te) (hTn : Te.Nodup) (U : List (Int × Int)) (hU : (zJ U).Nodup) (c : Int) (hc : uN c) (o : Bool) :
    bQ Tryz.prog 77 [.pr (D0 s W st (.mrow (Te.map kE) (BP Te)) (.mrow (zJ U) (U6 U))) 0,.agg [.i c,.b o]] [] (.sl 0 0 (oB (iN s W st) Te (kF U) (c,o)).length 2) [.arr (mE (oB (iN s W st) Te (kF U) (c,o))) 2] := by
  cases o with
  | true =>
    have cs := GJ s g W hW hWl c;have hspl : (lS s.fl W c).length ≤ 6 := B3 s.fl W c 6;have hspr : ∀ x,x ∈ lS s.fl W c → uN x := fun x hx => hWr x (nT.1 hx).1;have hn : oB (iN s W st) Te (kF U) (c,true) = (lS s.fl W c).filterMap (BU Te st c) ++ (if (kF U c).isSome = true then [(c,false)] else []) := by unfold oB;simp only [if_true];rfl
    rw [hn];generalize hS : lS s.fl W c = S at *;have hSl : (aI S).length = S.length := aR _;refine dD T Tryz.func77 rfl rfl rfl rfl ?_
    (repeat' (first|refine wS ?_|(refine rg 0 (bH (bN rfl rfl) rfl (aV ?_)))|(refine rg 1 (aV ?_))|refine nZ ?_));refine rR 5 2 rfl (by decide) ?_
    (repeat' (first|refine wS ?_|refine wB ?_|refine wT ?_|(refine aN (id := 2) 92 zV0 [11,12,13,14,15,16,17,10,18,19,6] zW7 bM rfl (by decide +kernel) (dN rfl (dV rfl (by exact cK rfl rfl) ?_));refine dP T rfl (dO T rfl (dP T rfl (dO T rfl (dV rfl (by exact UC hU rfl rfl) ?_))));refine dN rfl (dV rfl (by exact eB rfl rfl) ?_);refine dV rfl (by exact eB rfl rfl) ?_;refine dV rfl (eM rfl) (dE ?_);refine aV ?_)|(refine rg 3 (eK T rfl (aV ?_)))|(refine aN (id := 4) 92 [[],[0],[0,1],[0,1,2],[],[4],[4,5],[4,5,6],[],[8],rN 10,rN 11,[]] (rM 23 13) [[],[],[],[],rM 23 4,rM 23 4,rM 23 4,rM 23 4,rM 23 8,rM 23 8,[],[],rM 23 12] bM rfl (by decide +kernel) (dN rfl (dV rfl (by exact cK rfl rfl) ?_));refine dP T rfl (dO T rfl (dN rfl (dV rfl (by exact cK rfl rfl) ?_)));refine dP T rfl (dO T rfl (dP T rfl (dO T rfl (dV rfl (kC (cs)) (dV rfl (eF T rfl rfl) (dN rfl (dE ?_))))))))|refine nZ ?_));refine bV (X := {j : Nat // j ≤ S.length}) (fun j => [(0,.pr (D0 s W st (.mrow (Te.map kE) (BP Te)) (.mrow (zJ U) (U6 U))) 0),(3,.ptr 0 0),(5,.sl 1 0 ((S.take j.1).filterMap (BU Te st c)).length 2),(7,.b (kF U c).isSome),(33,.rowE (aI S) 1),(34,.i S.length),(35,.i (j.1 : Int))]) (fun j => [.cells [.i c,.b true],.arr (mE ((S.take j.1).filterMap (BU Te st c))) 2]) (fun j => S.length - j.1) ⟨0,cH _⟩ ⟨[0,1],rfl,⟨rfl,rfl,rfl,rfl,rfl,congrArg (fun n : Nat => some (AV.i n)) hSl,rfl,trivial⟩,⟨.inr rfl,.inr rfl,trivial⟩,by decide,gL⟩ ?_
    rintro ⟨j,hj⟩;dsimp only;by_cases hlt : j < S.length
    · have hs := YS (F := BU Te st c) hlt;have hfl : ((S.take j).filterMap (BU Te st c)).length ≤ j := bU (oZ _ _) (by simp;omega)
      have q1 : (aI S)[(j : Int).toNat]? = some [AV.i S[j]] := by rw [aX];exact iF hlt
      have hxr := hspr S[j] (dB hlt);generalize hT1 : (S.take (j + 1)).filterMap (BU Te st c) = T1 at *;generalize (S.take j).filterMap (BU Te st c) = T0 at *;generalize S[j] = y at *;unfold BU at hs;by_cases hy : y ≠ st ∧ (c,y) ∉ Te
      · rw [if_pos hy] at hs;simp only at hs
        (repeat' (first|refine wS ?_|refine wB ?_|refine wK ?_|refine wT ?_|(refine wC rfl ?_ ?_<;>(intro hb;(try simp only [nm] at hb);try (exfalso;omega)))|(refine rg 5 (vV (aL rfl rfl (by omega)) ?_))|(refine rg 6 (vV (ix T rfl (by omega) (aE _) q1) (lW T rfl (aV ?_))))|(refine aN (id := 7) 92 zW8 (rM 39 18) zW9 bM rfl (by decide +kernel) (dN rfl (dN rfl (dV rfl (by exact cK rfl rfl) ?_)));refine dP T rfl (dO T rfl (dV rfl (gW rfl rfl) (dM ?_)));refine oR rfl rfl rfl rfl ?_ ?_<;>(intro hb;rw [hb];(try simp only [nm] at hb);try (exfalso;omega))<;>(refine tM ?_);(all_goals (refine dT rfl (by exact cK rfl rfl) ?_;refine tP T rfl (tO T rfl (tP T rfl (tO T rfl (tN rfl (dT rfl (by exact gG T rfl rfl rfl rfl) ?_)))));refine dT rfl (by exact DI hT hTn hc hxr rfl rfl) ?_;refine dT rfl (bB rfl) (dV rfl (eP rfl rfl) (dE ?_)))))|(refine rg 8 (eX rfl (vV (by exact gG T rfl rfl rfl rfl) ?_));refine bH (by exact aS T rfl rfl (by decide) (by decide) rfl rfl rfl) rfl ?_;refine eL T rfl rfl rfl rfl rfl rfl (by simp) (iU.whole rfl rfl) rfl (by simp;omega) (by simp;omega) rfl ?_;refine aV ?_)|(refine rg 9 (vV (bP rfl rfl (by omega) (by omega)) (mV ?_)))|refine nZ ?_));all_goals first | exact absurd hb hy.2 | exact absurd hb hy.1 | (exfalso;omega) | skip
        all_goals exact ⟨⟨j + 1,hlt⟩,by dsimp only;omega,[0,3],rfl,⟨rfl,rfl,by dsimp only;rw [hT1,hs,aF];rfl,rfl,rfl,rfl,rfl,trivial⟩,⟨.inr rfl,.inr (aC rfl (by dsimp only;rw [hT1,hs];exact CV) (kO _)),trivial⟩,by decide,gL⟩
      · rw [if_neg hy] at hs;simp only [List.append_nil] at hs
        (repeat' (first|refine wS ?_|refine wB ?_|refine wK ?_|refine wT ?_|refine wU ?_|(refine wC rfl ?_ ?_<;>(intro hb;(try simp only [nm] at hb);try (exfalso;omega)))|(refine rg 5 (vV (aL rfl rfl (by omega)) ?_))|(refine rg 6 (vV (ix T rfl (by omega) (aE _) q1) (lW T rfl (aV ?_))))|(refine aN (id := 7) 92 zW8 (rM 39 18) zW9 bM rfl (by decide +kernel) (dN rfl (dN rfl (dV rfl (by exact cK rfl rfl) ?_)));refine dP T rfl (dO T rfl (dV rfl (gW rfl rfl) (dM ?_)));(refine oR rfl rfl rfl rfl ?_ ?_<;>(intro hb;rw [hb];(try simp only [nm] at hb);try (exfalso;omega))<;>first|(refine tM ?_)|(refine dG ?_));(all_goals first|(refine dT rfl (by exact cK rfl rfl) ?_)|(refine dG ?_));(all_goals first|(refine tF T ?_)|(refine dG ?_));(all_goals first|(refine tL T ?_)|(refine dG ?_));(all_goals first|(refine tF T ?_)|(refine dG ?_));(all_goals first|(refine tL T ?_)|(refine dG ?_));(all_goals first|(refine tM ?_)|(refine dG ?_));(all_goals first|(refine dT rfl (by exact gG T rfl rfl rfl rfl) ?_)|(refine dG ?_));(all_goals first|(refine dT rfl (by exact DI hT hTn hc hxr rfl rfl) ?_)|(refine dG ?_));(all_goals first|(refine dT rfl (bB rfl) ?_)|(refine dG ?_));(all_goals (refine dV rfl (by first|exact eP rfl rfl|exact cY rfl rfl) ?_;refine dE ?_)))|(refine rg 9 (vV (bP rfl rfl (by omega) (by omega)) (mV ?_)))|refine nZ ?_));all_goals first | (exact absurd ⟨by assumption,by assumption⟩ hy) | skip
        all_goals exact ⟨⟨j + 1,hlt⟩,by dsimp only;omega,[0,1],rfl,⟨rfl,rfl,by dsimp only;rw [hT1,hs];rfl,rfl,rfl,rfl,rfl,trivial⟩,⟨.inr rfl,.inr (aC rfl (by dsimp only;rw [hT1,hs]) (kO _)),trivial⟩,by decide,gL⟩
    · obtain rfl : j = S.length := by omega
      have hfl : ((S.take S.length).filterMap (BU Te st c)).length ≤ 6 := bU (oZ _ _) (by simp;omega)
      rw [dU] at *;generalize S.filterMap (BU Te st c) = F0 at *;cases hu : (kF U c).isSome with
      | true =>
        rw [if_pos rfl]
        (repeat' (first|refine wS ?_|refine wR ?_|refine wE ?_|refine wT ?_|refine wU ?_|(refine rg 5 (vV (bG rfl rfl (by omega)) ?_))|(refine rg 10 (mV ?_))|(refine rg 11 (mW rfl (eK T rfl (vV (by exact gG T rfl rfl rfl rfl) ?_)));refine bH (by exact aS T rfl rfl (by decide) (by decide) rfl rfl rfl) rfl ?_;refine eL T rfl rfl rfl rfl rfl rfl (by simp) (iU.whole rfl rfl) rfl (by simp;omega) (by simp;omega) rfl ?_;refine aV ?_)|(refine rg 16 (mW rfl (aV ?_)))|refine nZ ?_));all_goals first | (exfalso;omega) | exact absurd trivial hb | exact ⟨.inl rfl,[3],_,rfl,(by rw [aF];rfl),rfl,⟨.inr (aC rfl CV (kO _)),trivial⟩,by decide,gL⟩
      | false =>
        rw [if_neg (by decide),List.append_nil]
        (repeat' (first|refine wS ?_|refine wK ?_|refine wR ?_|refine wE ?_|refine wU ?_|(refine rg 5 (vV (bG rfl rfl (by omega)) ?_))|(refine rg 10 (mV ?_))|(refine rg 16 (mW rfl (aV ?_)))|refine nZ ?_));all_goals first | (exfalso;omega) | exact absurd trivial hb | exact ⟨.inl rfl,[1],_,rfl,rfl,rfl,⟨.inr (aC rfl rfl (kO _)),trivial⟩,by decide,gL⟩
  | false =>
    cases hu : kF U c with
    | none =>
      have hmiss := E8 hu;have hn : oB (iN s W st) Te (kF U) (c,false) = [(c,true)] := by unfold oB;simp [hu]
      rw [hn];refine dD T Tryz.func77 rfl rfl rfl rfl ?_
      (repeat' (first|refine wS ?_|(refine rg 0 (bH (bN rfl rfl) rfl (aV ?_)))|(refine rg 1 (aV ?_))|refine nZ ?_));refine rR 5 2 rfl (by decide) ?_
      (repeat' (first|refine wS ?_|refine wB ?_|refine wR ?_|refine wT ?_|refine wU ?_|(refine aN (id := 2) 92 zV0 [11,12,13,14,15,16,17,10,18,19,6] zW7 bM rfl (by decide +kernel) (dN rfl (dV rfl (by exact cK rfl rfl) ?_));refine dP T rfl (dO T rfl (dP T rfl (dL T ?_)));refine dV rfl (by exact oO (zA := .i 0) mB jL T4 (fun _ _ _=>iI _) rfl rfl (gC _) (tS U) (eR _) hmiss) ?_;refine dN rfl (dV rfl (by exact eB rfl rfl) ?_);refine dV rfl (by exact eB rfl rfl) ?_;refine dV rfl (eM rfl) (dE ?_);refine aV ?_)|(refine rg 3 (eK T rfl (aV ?_)))|(refine rg 12 (mW rfl (vV (bB rfl) (aV ?_))))|(refine rg 13 (mW rfl (eK T rfl (vV (by exact gG T rfl rfl rfl rfl) ?_)));refine bH (by exact aS T rfl rfl (by decide) (by decide) rfl rfl rfl) rfl ?_;refine eL T rfl rfl rfl rfl rfl rfl (by simp) (iU.whole rfl rfl) rfl (by simp) (by simp) rfl ?_;refine aV ?_)|(refine rg 16 (mW rfl (aV ?_)))|refine nZ ?_));all_goals exact ⟨.inl rfl,[3],_,rfl,rfl,rfl,⟨.inr (aC rfl rfl (kO _)),trivial⟩,by decide,gL⟩
    | some p =>
      obtain ⟨i,hi1,hi2⟩ := xR hu;by_cases hp : p = st
      · subst hp;have hn : oB (iN s W p) Te (kF U) (c,false) = [] := by unfold oB;simp [hu,iN]
        rw [hn];refine dD T Tryz.func77 rfl rfl rfl rfl ?_
        (repeat' (first|refine wS ?_|(refine rg 0 (bH (bN rfl rfl) rfl (aV ?_)))|(refine rg 1 (aV ?_))|refine nZ ?_));refine rR 5 2 rfl (by decide) ?_
        (repeat' (first|refine wS ?_|refine wB ?_|refine wK ?_|refine wR ?_|refine wU ?_|(refine wC rfl ?_ ?_<;>(intro hb;(try simp only [nm] at hb);try (exfalso;omega)))|(refine aN (id := 2) 92 zV0 [11,12,13,14,15,16,17,10,18,19,6] zW7 bM rfl (by decide +kernel) (dN rfl (dV rfl (by exact cK rfl rfl) ?_));refine dP T rfl (dO T rfl (dP T rfl (dO T rfl (dV rfl (by exact oP mB jL rfl rfl (gC _) (tS U) (eR _) hU hi1 hi2 rfl) ?_))));refine dN rfl (dV rfl (by exact eB rfl rfl) ?_);refine dV rfl (by exact eB rfl rfl) ?_;refine dV rfl (eM rfl) (dE ?_);refine aV ?_)|(refine rg 3 (eK T rfl (aV ?_)))|(refine rg 12 (mW rfl (vV (bB rfl) (aV ?_))))|(refine rg 14 (eX rfl (nV ?_));refine eK T rfl (vV (gW rfl rfl) (aV ?_)))|(refine rg 16 (mW rfl (aV ?_)))|refine nZ ?_));all_goals first | (exfalso;omega) | exact absurd trivial hb | exact ⟨.inl rfl,[1],_,rfl,rfl,rfl,⟨.inr (aC rfl rfl (kO _)),trivial⟩,by decide,gL⟩
      · have hn : oB (iN s W st) Te (kF U) (c,false) = [(p,true)] := by unfold oB;simp [hu,iN,hp]
        rw [hn];refine dD T Tryz.func77 rfl rfl rfl rfl ?_
        (repeat' (first|refine wS ?_|(refine rg 0 (bH (bN rfl rfl) rfl (aV ?_)))|(refine rg 1 (aV ?_))|refine nZ ?_));refine rR 5 2 rfl (by decide) ?_
        (repeat' (first|refine wS ?_|refine wB ?_|refine wR ?_|refine wU ?_|(refine wC rfl ?_ ?_<;>(intro hb;(try simp only [nm] at hb);try (exfalso;omega)))|(refine aN (id := 2) 92 zV0 [11,12,13,14,15,16,17,10,18,19,6] zW7 bM rfl (by decide +kernel) (dN rfl (dV rfl (by exact cK rfl rfl) ?_));refine dP T rfl (dO T rfl (dP T rfl (dO T rfl (dV rfl (by exact oP mB jL rfl rfl (gC _) (tS U) (eR _) hU hi1 hi2 rfl) ?_))));refine dN rfl (dV rfl (by exact eB rfl rfl) ?_);refine dV rfl (by exact eB rfl rfl) ?_;refine dV rfl (eM rfl) (dE ?_);refine aV ?_)|(refine rg 3 (eK T rfl (aV ?_)))|(refine rg 12 (mW rfl (vV (bB rfl) (aV ?_))))|(refine rg 14 (eX rfl (nV ?_));refine eK T rfl (vV (gW rfl rfl) (aV ?_)))|(refine rg 15 (eX rfl (vV (by exact gG T rfl rfl rfl rfl) ?_));refine bH (by exact aS T rfl rfl (by decide) (by decide) rfl rfl rfl) rfl ?_;refine eL T rfl rfl rfl rfl rfl rfl (by simp) (iU.whole rfl rfl) rfl (by simp) (by simp) rfl ?_;refine aV ?_)|(refine rg 16 (mW rfl (aV ?_)))|refine nZ ?_));all_goals first | (exfalso;omega) | exact absurd trivial hb | exact ⟨.inl rfl,[3],_,rfl,rfl,rfl,⟨.inr (aC rfl rfl (kO _)),trivial⟩,by decide,gL⟩
end Go.Proofs.YtdmajnjoeidgeaaGreat
namespace Go.Ab
open Go Go.MapKept
section
variable {P : Program} {env : eG} {h : Hp}
variable {d : Option Nat} {ty : TypeId} {pos : String} {af : Array Edge} {g : Option (Nat × Bool)}
def BI (P : Program) (t : TypeId) : Prop := (match P.underlying t with
  | some (.struct fs) => (match fs.toList with
    | [f, g] => decide (f.name ≠ "_") && decide (g.name ≠ "_") && Nat.beq f.offset 0 && Nat.beq g.offset 1 && (match P.underlying f.type with | some (.int _) => P.plainKey f.type | _ => false) && (match P.underlying g.type with | some .bool => P.plainKey g.type | _ => false)
    | _ => false) && !P.stoodInHeld t && !P.eqGuardType P.depth t
  | _ => false) = true
theorem yB {t t2 : TypeId} {x y : Operand} {a a' : Int} {b b' : Bool} (ht : BI P t) (hx : evu env x = some (.agg [AV.i a,AV.b b])) (hy : evu env y = some (.agg [AV.i a',AV.b b'])) :
    bR P ⟨d,.binOp .neq t x y t2,ty,pos,af,g⟩ env h 0 (fun _ => .b (!decide ((a,b) = (a',b')))) (fun _ => []) := by
  refine gN fun ρ S A w p => ⟨.bool (!decide ((a,b) = (a',b'))),?_,iI _⟩;have h3 := p.evu hx;have h4 := p.evu hy;simp only [R] at h3 h4;obtain ⟨xs,e1,h3⟩ := h3;obtain ⟨ys,e2,h4⟩ := h4;simp only [RL] at h3 h4;obtain ⟨x1,_,q1,r1,x2,_,rfl,r2,rfl⟩ := h3;obtain ⟨y1,_,q2,s1,y2,_,rfl,s2,rfl⟩ := h4;have r1 := rU r1;have r2 := rU r2;have s1 := rU s1;have s2 := rU s2;subst r1 r2 s1 s2;unfold BI at ht;split at ht
  case h_2 => cases ht
  rename_i fs hu;simp only [aT,S8] at ht;obtain ⟨⟨h5,h7⟩,h8⟩ := ht;split at h5
  case h_2 => cases h5
  rename_i f1 f2 hl;simp only [aT,decide_eq_true_eq] at h5;obtain ⟨⟨⟨⟨⟨n1,n2⟩,o1⟩,o2⟩,k1⟩,k2⟩ := h5;have o1 := aP o1;have o2 := aP o2;split at k1
  case h_2 => cases k1
  rename_i q hq;split at k2
  case h_2 => cases k2
  rename_i hq2;have hfo : P.fieldsOf t = fs := by simp [Program.fieldsOf,hu]
  have he : (Op.equalIn 10000 t (.agg xs) (.agg ys)).run P w = .ok (decide ((a,b) = (a',b'))) w := by
    rw [run_equalIn_struct w 9999 t xs ys (by rw [hfo];exact hu) h7,hfo,hl]
    have x0 : xs[f1.offset]? = some (.int .i64 a) := by rw [o1,← iM,q1];rfl
    have x1 : xs[f2.offset]? = some (.bool b) := by rw [o2,← iM,q1];rfl
    have y0 : ys[f1.offset]? = some (.int .i64 a') := by rw [o1,← iM,q2];rfl
    have y1 : ys[f2.offset]? = some (.bool b') := by rw [o2,← iM,q2];rfl
    simp only [Op.eqFields,n1,n2,ne_eq,not_false_eq_true,if_true,Sem.run_bind,run_part_plain w k1 x0,run_part_plain w k1 y0,run_part_plain w k2 x1,run_part_plain w k2 y1,Result.andThen_ok,run_equalIn_int w 9998 f1.type _ _ a a' hq,run_equalIn_bool w 9998 f2.type b b' hq2];by_cases hab : a = a'
    · subst hab;have e3 := run_part_plain w k2 x1;have e4 := run_part_plain w k2 y1;have e5 := run_equalIn_bool w 9998 f2.type b b' hq2;by_cases hbb : b = b'
      · subst hbb;simp [e3,e4,e5]
      · have e6 : (b == b') = false := by simpa using hbb
        simp [e3,e4,e5,e6,hbb]
    · have : (a == a') = false := by simpa using hab
      simp [this,hab]
  simp [execOp,e1,e2,run_eqGuard_agg w .neq t x y xs ys h8,run_neq_struct,he]
end
end Go.Ab
namespace Go.Proofs.YtdmajnjoeidgeaaGreat
open Go Go.Ab Go.Fl Go.Re Go.Ln Go.MapKept
theorem MR : BI Tryz.prog 122 := by unfold BI;kernel_rfl
attribute [local irreducible] VC AW bR bQ fT BI
set_option maxHeartbeats 4000000
abbrev UJ (F : List (gP × gP)) : List Value := F.map fun x => kN x.1
abbrev YQ (F : List (gP × gP)) : List AV := F.map fun x => AV.agg [.i x.2.1,.b x.2.2]
def VT (F : List (gP × gP)) : Prop := ∀ x,x ∈ F → uN x.1.1 ∧ uN x.2.1
theorem VT.good {F : List (gP × gP)} (h : VT F) : ∀ q,q ∈ UJ F → UA q := by
  intro q hq;obtain ⟨e,he,rfl⟩ := aQ.1 hq;exact ⟨e.1,(h e he).1,rfl⟩
theorem NL {F : List (gP × gP)} (h : (F.map (·.1)).Nodup) : (UJ F).Nodup := by
  have := List.Pairwise.map kN (S := fun a b => a ≠ b) (fun a b hab e => hab (TM e)) h;rw [G2] at this;exact this
theorem zB6 {F : List (gP × gP)} {x : gP × gP} (h : x ∈ F) : ∃ i : Nat,(UJ F)[i]? = some (kN x.1) ∧ (YQ F)[i]? = some (AV.agg [.i x.2.1,.b x.2.2]) := by
  obtain ⟨i,hi⟩ := cU.1 h;exact ⟨i,by simp [hi],by simp [hi]⟩
theorem J5 {α : Type} {f : α → AV} (hf : ∀ a, (f a).idf = true) : ∀ l : List α, AV.idfL (l.map f) = true
  | [] => rfl
  | a :: l => by simp only [List.map_cons,AV.idfL,hf a,J5 hf l,zT2]
theorem iW (Te : List iC) : AV.idfL (BP Te) = true := J5 (fun _ => rfl) _
theorem iD (U : List (Int × Int)) : AV.idfL (U6 U) = true := J5 (fun _ => rfl) _
abbrev zQ4 (s : lN) (W : List Int) (st : Int) (Te : List iC) (U : List (Int × Int)) : Hp := [.cells (D0 s W st (.mp 1) (.mp 2)),.mapO (Te.map kE) (BP Te),.mapO (zJ U) (U6 U)]
theorem JY {Te : List iC} {i : Nat} {e : iC} (h : Te[i]? = some e) : Te.Perm (e :: Te.eraseIdx i) := by
  induction Te generalizing i with
  | nil => simp at h
  | cons a l ih =>
    cases i with
    | zero => simp at h;subst h;simp
    | succ i =>
      simp at h;have := ih h;rw [List.eraseIdx_cons_succ];exact (this.cons a).trans (List.Perm.swap e a _)
theorem LJ {S : Nat → Prop} {w : World} {ρ : Pl} {y : Value} {a c : Int} {v : AV} (h : R S w (.tup [.v (kE (a,c)),v]) ρ y) : R S w (.tup [.agg [.i a,.i c],v]) ρ y := by
  simp only [R,RL] at h ⊢;obtain ⟨ys,rfl,u,us,e,h1,rest⟩ := h;exact ⟨ys,rfl,u,us,e,⟨#[.int .i64 a,.int .i64 c],h1,_,_,rfl,rfl,_,_,rfl,rfl,rfl⟩,rest⟩
def Q8 (bs : List Nat) (d : List Nat) : List Nat := d.map fun i => bs.getD i 0
theorem uK {h : Hp} {i : Nat} {θ : Nat → Nat} {ks : List Value} {vs : List AV} {bs : List Nat} {ck : Nat} (hk : h[i]? = some (.mapB ks vs bs ck)) (hi : AV.idfL vs = true) : h[i]? = some ((AB.mapB ks vs bs ck).map θ) := by
  rw [hk];show _ = some (AB.mapB ks (AV.mapL θ vs) bs ck);rw [dZ θ vs hi]
theorem W9 {bs d : List Nat} (hnd : bs.Nodup) (hlt : ∀ i,i ∈ d → i < bs.length) (h : ∀ b,b ∈ bs → b ∈ Q8 bs d) : ∀ i,i < bs.length → i ∈ d := fun i hi => by
  obtain ⟨j,hj,e⟩ := aQ.1 (h _ (dB hi));have hjl := hlt j hj;rw [aH,aB hjl,Option.getD_some] at e;have : j = i := (nA hjl hnd).1 (by rw [aB hjl,aB hi,e])
  rw [← this];exact hj
theorem W8 {bs d : List Nat} {i b : Nat} (hi : bs[i]? = some b) (h : b ∉ Q8 bs d) : i ∉ d := fun hd => h (aQ.2 ⟨i,hd,by rw [aH,hi];rfl⟩)
theorem N4 {bs d : List Nat} {i b : Nat} (hi : bs[i]? = some b) : Q8 bs d ++ [b] = Q8 bs (d ++ [i]) := by
  simp [Q8,aH,hi]
theorem xC {d : List Nat} {k : Nat} (hnd : d.Nodup) (hlt : ∀ i,i ∈ d → i < k) : d.length ≤ k := by
  have := hnd.length_le_of_subset (l₂ := List.range k) fun i hi => fC.2 (hlt i hi);simpa using this
theorem F1 {d : List Nat} {i : Nat} (h : d.Nodup) (hi : i ∉ d) : (d ++ [i]).Nodup := by
  rw [fI];exact ⟨h,by simp,fun a ha b hb e => hi (by simp at hb;rw [← hb,← e];exact ha)⟩
theorem H0 {h : Hp} {i : Nat} {θ : Nat → Nat} {km since c0 : Nat} {a b : List Nat} (hk : h[i]? = some (.iter (θ km) since a c0)) (e : a = b) : h[i]? = some ((AB.iter km since b c0).map θ) := by rw [hk,e];rfl
def yZ (Te : List iC) (d : List Nat) : List (Int × Int) := d.filterMap fun i => (Te[i]?).map fun e => (e.2,e.1)
theorem JW {Te : List iC} {d : List Nat} {i : Nat} {a c : Int} (h : Te[i]? = some (a,c)) : yZ Te (d ++ [i]) = yZ Te d ++ [(c,a)] := by
  unfold yZ;rw [jC];simp [h]
theorem PM {Te : List iC} {d : List Nat} {a c : Int} (h : (c,a) ∈ yZ Te d) : ∃ i,i ∈ d ∧ Te[i]? = some (a,c) := by
  obtain ⟨i,hi,e⟩ := fX.1 h;obtain ⟨⟨x,y⟩,hx,hq⟩ := cQ.1 e;cases hq;exact ⟨i,hi,hx⟩
theorem OY {U : List (Int × Int)} (hU : (zJ U).Nodup) {c p : Int} : kF U c = some p ↔ (c,p) ∈ U := by
  unfold kF;constructor
  · intro h;obtain ⟨x,hx,rfl⟩ := cQ.1 h;have hc := zJ4 hx;simp only [decide_eq_true_eq] at hc;subst hc;exact Q6 hx
  · intro h;obtain ⟨y,hy⟩ : ∃ y,U.find? (fun x => decide (x.1 = c)) = some y := by
      cases hf : U.find? (fun x => decide (x.1 = c)) with
      | none => rw [List.find?_eq_none] at hf;have := hf _ h;simp at this
      | some y => exact ⟨y,rfl⟩
    rw [hy];have hyc := zJ4 hy;simp only [decide_eq_true_eq] at hyc;have hym := Q6 hy;obtain ⟨i,hi⟩ := cU.1 h;obtain ⟨j,hj⟩ := cU.1 hym;have hil := (aA.1 hi).1;have : i = j := (nA (by simpa using hil) hU).1 (by simp [hi,hj,hyc])
    subst this;rw [hi] at hj;cases hj;rfl
theorem Y2 {g : wV} {k : Nat} {Te : List iC} (h : mF g k Te) : ∀ {d : List Nat},d.Nodup → (zJ (yZ Te d)).Nodup := by
  intro d hd;have e : zJ (yZ Te d) = d.filterMap fun i => (Te[i]?).map fun e => kI e.2 := by
    unfold yZ;show List.map _ _ = _;rw [List.map_filterMap];congr 1;funext i;cases Te[i]? <;> rfl
  rw [e];refine List.Pairwise.filterMap _ (fun i j hij x hx y hy he => ?_) hd;subst he;obtain ⟨⟨a,c⟩,h1,e1⟩ := cQ.1 hx;obtain ⟨⟨a',c'⟩,h2,e2⟩ := cQ.1 hy;have hcc : c = c' := by rw [← e2] at e1;simpa [kI] using e1
  subst hcc;have := A5 h.nd (h.le1 c) (bD h1) (bD h2);subst this;exact hij ((nA (aA.1 h1).1 h.nd).1 (h1.trans h2.symm))
theorem SJ {g : wV} {k : Nat} {Te : List iC} (h : mF g k Te) {d : List Nat} (hd : d.Nodup) (hall : ∀ i,i < Te.length → i ∈ d) : qF Te (kF (yZ Te d)) := fun c p => by
  rw [OY (Y2 h hd)];constructor
  · intro hm;obtain ⟨i,_,hi⟩ := PM hm;exact bD hi
  · intro hm;obtain ⟨i,hi⟩ := cU.1 hm;exact fX.2 ⟨i,hall i (aA.1 hi).1,by rw [hi];rfl⟩
abbrev zU1 (s : lN) (W : List Int) (st : Int) (Te : List iC) (U : List (Int × Int)) (F : List (gP × gP)) : Hp := [.cells (D0 s W st (.mp 1) (.mp 2)),.mapO (Te.map kE) (BP Te),.mapO (zJ U) (U6 U),.mapO (UJ F) (YQ F)]
theorem sA (F : List (gP × gP)) : AV.idfL (YQ F) = true := J5 (fun _ => rfl) _
theorem TK : ∀ i : Nat,i < 4 → ([0,1,2,3,4] : List Nat)[i]? = some i := by decide
theorem zR7 : ∀ i : Nat,i < 4 → ([0,1,2,3,5,6] : List Nat)[i]? = some i := by decide
theorem zR6 : ∀ i : Nat,i < 4 → ([0,1,2,3,4,5] : List Nat)[i]? = some i := by decide
theorem zD3 (s : lN) (g : iL s.fl) (W : List Int) (st : Int) (hst : sW s.fl st = false) {k : Nat} {Te : List iC} {U : List (Int × Int)} {F : List (gP × gP)} (hF : mF (iN s W st) k Te) (ht : Tree (iN s W st) Te F)
    {e : Int} (he : sW s.fl e = true) (hu : O8 Te e = 0) (hm : (e,false) ∈ F.map (·.1)) (hTr : FW Te) (hFr : VT F) :
    fT Tryz.prog 76 [.ptr 0 0,.agg [.i e,.b false],.mp 3] (zU1 s W st Te U F) (fun r o => r = .tup [] ∧ ∃ T' U',o = [.cells (D0 s W st (.mp 1) (.mp 4)),.mapO (T'.map kE) (BP T'),.mapO (zJ U) (U6 U),.mapO (UJ F) (YQ F),.mapO (zJ U') (U6 U')] ∧ mF (iN s W st) (k + 1) T' ∧ FW T' ∧ qF T' (kF U') ∧ (zJ U').Nodup) := by
  obtain ⟨l,hb⟩ := T9.start hF hst ht he hu hm;refine mM T Tryz.func76 rfl rfl rfl rfl ?_
  (repeat' (first|refine wS ?_|refine wB ?_|(refine rg 0 (bH (bN rfl rfl) rfl ?_))|refine nZ ?_));refine bV (X := {p : List iC × gP × List gP // T9 (iN s W st) k Te F p.1 (p.2.1 :: p.2.2) ∧ FW p.1}) (fun p => [(0,.ptr 0 0),(2,.mp 3),(4,.ptr 4 0)]) (fun p => [.cells (D0 s W st (.mp 1) (.mp 2)),.mapO (p.1.1.map kE) (BP p.1.1),.mapO (zJ U) (U6 U),.mapO (UJ F) (YQ F),.cells [.i p.1.2.1.1,.b p.1.2.1.2]]) (fun p => p.1.2.2.length) ⟨(Te,(e,false),l),hb,hTr⟩ ⟨[0,1,2,3,4],rfl,(by repeat first|exact trivial|refine ⟨rfl,?_⟩),⟨.inr rfl,.inr (aD rfl rfl rfl (iW _)),.inr (aD rfl rfl rfl (iD _)),.inr (aD rfl rfl rfl (sA _)),.inr rfl,trivial⟩,by decide,TK⟩ ?_
  rintro ⟨⟨T1,⟨nc,no⟩,r⟩,hb1,hr1⟩;dsimp only at *;by_cases hfin : (nc,no) = (st,true)
  · cases hfin;have hFl := hb1.done
    (repeat' (first|refine wS ?_|refine wB ?_|refine wK ?_|refine wE ?_|(refine wC rfl ?_ ?_<;>(intro hb;(try simp only [nm] at hb);try (exfalso;omega)))|(refine aN (id := 1) 88 zX0 (rM 8 7) zX1 bM rfl (by decide +kernel) (dO T rfl (dN rfl (dV rfl (by exact cK rfl rfl) ?_)));refine dP T rfl (dO T rfl (dV rfl (by exact gG T rfl rfl rfl rfl) ?_));refine dV rfl (yB MR rfl rfl) (dE ?_))|(refine rg 8 (mW rfl (bH (by exact lR) rfl ?_));refine nV ?_;refine fW T rfl (bJ T rfl rfl rfl rfl rfl rfl (by decide) rfl ?_))|refine nZ ?_));all_goals first | exact absurd rfl hb | exact absurd trivial hb | skip
    refine AS 1 rfl fun bs ck hb1' hb2' hb3' hb4' => ?_
    dsimp only [zP6,zP5,List.append_nil,zP4,zP3,zP2,zP1,zP0,zO9,gQ,gJ,gO,iS,rB,jV,mL,mJ,mI,mK,jU,jX,jT,jW,Nat.zero_add,zO8,Nat.reduceAdd,zO7,zO6];have hbl : bs.length = T1.length := by rw [hb1'];simp
    (repeat' (first|refine wB ?_|(refine rg 9 (mW rfl (nV ?_));refine eK T rfl (bH (by exact AC C3 rfl rfl) rfl ?_))|refine nZ ?_));refine bV (X := {d : List Nat // d.Nodup ∧ ∀ i,i ∈ d → i < T1.length}) (fun d => [(0,.ptr 0 0),(75,.ptr 5 0)]) (fun d => [.cells (D0 s W st (.mp 1) (.mp 4)),.mapB (T1.map kE) (BP T1) bs ck,.mapO (zJ U) (U6 U),.mapO (UJ F) (YQ F),.mapO (zJ (yZ T1 d.1)) (U6 (yZ T1 d.1)),.iter 1 ck (Q8 bs d.1) ck]) (fun d => T1.length - d.1.length) ⟨[],dK,fun i hi => by cases hi⟩ ⟨[0,1,2,3,5,6],rfl,(by repeat first|exact trivial|refine ⟨rfl,?_⟩),⟨.inr rfl,.inr (uK rfl (iW _)),.inr (aD rfl rfl rfl (iD _)),.inr (aD rfl rfl rfl (sA _)),.inr (aD rfl rfl rfl (iD _)),.inr rfl,trivial⟩,by decide,zR7⟩ ?_
    rintro ⟨d,hnd,hlt⟩;dsimp only;have hdl := xC hnd hlt
    repeat' (first|refine wS ?_|refine wB ?_|refine wK ?_|refine wE ?_|refine wT ?_|refine wU ?_|(refine rg 10 ?_;refine EH rfl rfl rfl hb4' (aY _) rfl (fun hend=>E5 1 rfl ?_) (fun i kv v b g1 g1' g2 g3=>?_);(all_goals (refine xV ?_)))|refine nZ ?_)
    · have hall := W9 hb3' (by rw [hbl];exact hlt) hend
      rw [hbl] at hall;exact ⟨_,_,⟨rfl,T1,yZ T1 d,rfl,hFl,hr1,SJ hFl hnd hall,Y2 hFl hnd⟩,.inr rfl,[0,1,2,3,4],[],rfl,rfl,rfl,⟨.inr rfl,.inr (aD rfl rfl rfl (iW _)),.inr (aD rfl rfl rfl (iD _)),.inr (aD rfl rfl rfl (sA _)),.inr (aD rfl rfl rfl (iD _)),trivial⟩,by decide,TK⟩
    · rw [aU] at g1;obtain ⟨⟨a,c⟩,hac,rfl⟩ := cQ.1 g1;have hv : v = .b true := by rw [aU,hac] at g1';simpa using g1'.symm
      subst hv;have k1 : (T1.map kE)[i]? = some (kE (a,c)) := by simp [hac]
      have k2 : (BP T1)[i]? = some (.b true) := by simp [hac]
      have hnew := W8 g2 g3;have hil := (aA.1 hac).1;have hsn := N4 (d := d) g2;have hd' : (d ++ [i]).Nodup ∧ ∀ j,j ∈ d ++ [i] → j < T1.length := ⟨F1 hnd hnew,fun j hj => (bI.1 hj).elim (hlt j) (fun e => by simp at e;rw [e];exact hil)⟩
      have hdl2 := xC hd'.1 hd'.2;rw [aF,dW] at hdl2;have hpn := Y2 hFl hd'.1;have hps := JW (d := d) hac;have hni : kI c ∉ zJ (yZ T1 d) := by
        rw [hps] at hpn;change (List.map _ _).Nodup at hpn;rw [cV,fI] at hpn;intro hm;exact hpn.2.2 _ hm _ (by simp) rfl
      (repeat' (first|(refine rg 11 (bH (by exact J9 rfl rfl rfl rfl g2 k1 k2) rfl ?_);refine EG 78 (.tup [.agg [.i a,.i c],.b true]) rfl (fun _ _ _ _ q=>LJ q) ?_;refine xW rfl (bH (cX T rfl) rfl (bJ T rfl rfl rfl rfl rfl rfl (by decide) rfl ?_)))|(refine aN (id := 12) 88 [[],[0],[0,1],[0,1,2],[],[4],[],[6]] (rM 80 8) [[],[],[],[],rM 80 4,rM 80 4,rM 80 6,rM 80 6] bM rfl (by decide +kernel) (dN rfl (dV rfl (by exact cK rfl rfl) ?_));refine dP T rfl (dO T rfl (dP T rfl (dO T rfl (dP T rfl (dO T rfl (dE ?_))))));refine lQ mB jL rfl rfl (gC _) rfl rfl (tS _) (eR _) hni ?_)|refine nZ ?_));all_goals exact ⟨⟨d ++ [i],hd'⟩,by dsimp only;rw [aF,dW];omega,[0,1,2,3,4,5],rfl,(by repeat first|exact trivial|refine ⟨rfl,?_⟩),⟨.inr rfl,.inr (uK rfl (iW _)),.inr (aD rfl rfl rfl (iD _)),.inr (aD rfl rfl rfl (sA _)),.inr (aD rfl (by dsimp only;rw [hps];simp) (by dsimp only;rw [hps];simp) (iD _)),.inr (H0 rfl hsn),trivial⟩,by decide,zR6⟩
  · obtain ⟨⟨bc,bo⟩,r',rfl,hbF,hnext,hnew,hold⟩ := hb1.more hfin;obtain ⟨i,hi1,hi2⟩ := zB6 hbF;have hrb := (hFr _ hbF).2;have hrn := (hFr _ hbF).1;dsimp only at *;have same : ¬ (bo = true ∧ no = false ∧ bc ≠ nc) → ¬ (bo = false ∧ no = true ∧ bc ≠ nc) → T9 (iN s W st) k Te F T1 ((bc,bo) :: r') := fun h1 h2 => hnext T1 (by unfold Tk;rw [if_neg h1,if_neg h2])
    by_cases hA : bo = true ∧ no = false ∧ bc ≠ nc
    · obtain ⟨rfl,rfl,hne⟩ := hA;have hT' := hnext (T1 ++ [(bc,nc)]) (by unfold Tk;rw [if_pos ⟨rfl,rfl,hne⟩];exact List.perm_append_singleton _ _)
      have hno := hnew ⟨rfl,rfl,hne⟩
      (repeat' (first|refine wS ?_|refine wB ?_|refine wK ?_|refine wE ?_|(refine wC rfl ?_ ?_<;>(intro hb;(try simp only [nm] at hb);try (exfalso;omega)))|(refine aN (id := 1) 88 zX0 (rM 8 7) zX1 bM rfl (by decide +kernel) (dO T rfl (dN rfl (dV rfl (by exact cK rfl rfl) ?_)));refine dP T rfl (dO T rfl (dV rfl (by exact gG T rfl rfl rfl rfl) ?_));refine dV rfl (yB MR rfl rfl) (dE ?_))|(refine rg 2 (mW rfl (lW T rfl (vV (by exact gR xU Y5 rfl rfl (Z3 _ _) rfl hFr.good ⟨_,(hFr _ hbF).1,rfl⟩ (NL ht.nodup) hi1 hi2) ?_)));refine bH (cX T rfl) rfl (bJ T rfl rfl rfl rfl rfl rfl (by decide) rfl ?_))|(refine rg 3 (eK T rfl (mW rfl (yP T rfl (yO T rfl (yV (bB rfl) (pW rfl (mW rfl (yP T rfl (yL T ?_)))))))));refine yP T rfl (yO T rfl (yV (gW rfl rfl) (pW rfl (aV ?_)))))|(refine aN (id := 4) 88 [[],[0],[0,1],[0,1,2],[],[4],[],[6],rM 4 4] (rM 33 9) [[],[],[],[],rM 33 4,rM 33 4,rM 33 6,rM 33 6,rM 33 4] bM rfl (by decide +kernel) (dN rfl (dV rfl (by exact cK rfl rfl) ?_));refine dP T rfl (dO T rfl (dP T rfl (dO T rfl (dP T rfl (dO T rfl (dV rfl (by exact gG T rfl rfl rfl rfl) ?_))))));refine dE ?_;refine lQ C3 NO rfl rfl (MZ _ _) rfl rfl hr1.good ⟨(bc,nc),⟨hrb,hrn⟩,rfl⟩ (zB2 hno) ?_)|(refine rg 7 (lW T rfl (bJ T rfl rfl rfl rfl rfl rfl (by decide) rfl ?_)))|refine nZ ?_));all_goals first | exact absurd hb hfin | exact absurd hb hne | skip
      all_goals exact ⟨⟨(T1 ++ [(bc,nc)],(bc,true),r'),hT',fun e he => (bI.1 he).elim (hr1 e) (fun q => by simp at q;subst q;exact ⟨hrb,hrn⟩)⟩,by simp,[0,1,2,3,4],rfl,(by repeat first|exact trivial|refine ⟨rfl,?_⟩),⟨.inr rfl,.inr (aD rfl (by simp) (by simp) (iW _)),.inr (aD rfl rfl rfl (iD _)),.inr (aD rfl rfl rfl (sA _)),.inr rfl,trivial⟩,by decide,TK⟩
    · by_cases hB : bo = false ∧ no = true ∧ bc ≠ nc
      · obtain ⟨rfl,rfl,hne⟩ := hB;have hyes := hold ⟨rfl,rfl,hne⟩;obtain ⟨j,hj⟩ := cU.1 hyes;have hT' := hnext (T1.eraseIdx j) (by unfold Tk;rw [if_neg (by simp),if_pos ⟨rfl,rfl,hne⟩];exact JY hj)
        (repeat' (first|refine wS ?_|refine wB ?_|refine wK ?_|refine wE ?_|refine wU ?_|(refine wC rfl ?_ ?_<;>(intro hb;(try simp only [nm] at hb);try (exfalso;omega)))|(refine aN (id := 1) 88 zX0 (rM 8 7) zX1 bM rfl (by decide +kernel) (dO T rfl (dN rfl (dV rfl (by exact cK rfl rfl) ?_)));refine dP T rfl (dO T rfl (dV rfl (by exact gG T rfl rfl rfl rfl) ?_));refine dV rfl (yB MR rfl rfl) (dE ?_))|(refine rg 2 (mW rfl (lW T rfl (vV (by exact gR xU Y5 rfl rfl (Z3 _ _) rfl hFr.good ⟨_,(hFr _ hbF).1,rfl⟩ (NL ht.nodup) hi1 hi2) ?_)));refine bH (cX T rfl) rfl (bJ T rfl rfl rfl rfl rfl rfl (by decide) rfl ?_))|(refine rg 3 (eK T rfl (mV ?_));(iterate 3 refine gF ?_);refine pW rfl (mV ?_);(iterate 5 refine gF ?_);refine pW rfl (aV ?_))|(refine rg 5 (eK T rfl (vV (bB rfl) (mW rfl (yP T rfl (yO T rfl (pW rfl (mW rfl (yP T rfl (yL T ?_)))))))));refine yP T rfl (yO T rfl (yV (gW rfl rfl) (pW rfl (aV ?_)))))|(refine uZ (id := 6) 9 88 [[],[0],[0,1],[0,1,2],[],[4],[],[6],rM 4 4,rN 9] [[],[0],[0,1],[0,1,2],[],[4],[],[6],rM 4 4] (rM 57 9) [[],[],[],[],rM 57 4,rM 57 4,rM 57 6,rM 57 6,rM 57 4] bM rfl (by decide +kernel) (by decide +kernel) ?_;(dsimp only [List.take,List.drop]);refine dN rfl (dV rfl (by exact cK rfl rfl) ?_);refine dP T rfl (dO T rfl (dP T rfl (dO T rfl (dP T rfl (dO T rfl (dV rfl (by exact gG T rfl rfl rfl rfl) ?_))))));refine dE ?_;refine mD ?_;refine OM C3 NO rfl rfl (MZ _ _) rfl hr1.good ⟨(nc,bc),⟨hrn,hrb⟩,rfl⟩ (zB3 hb1.nodupT) (show (T1.map kE)[j]? = some (kE (nc,bc)) by simp [hj]) ?_)|(refine rg 7 (lW T rfl (bJ T rfl rfl rfl rfl rfl rfl (by decide) rfl ?_)))|refine nZ ?_));all_goals first | exact absurd hb hfin | exact absurd hb hne | skip
        all_goals exact ⟨⟨(T1.eraseIdx j,(bc,false),r'),hT',fun e he => hr1 e (List.mem_of_mem_eraseIdx he)⟩,by simp,[0,1,2,3,4],rfl,(by repeat first|exact trivial|refine ⟨rfl,?_⟩),⟨.inr rfl,.inr (aD rfl (tU _ _ _).symm (tU _ _ _).symm (iW _)),.inr (aD rfl rfl rfl (iD _)),.inr (aD rfl rfl rfl (sA _)),.inr rfl,trivial⟩,by decide,TK⟩
      · have hsame := same hA hB
        (repeat' (first|refine wS ?_|refine wB ?_|refine wK ?_|refine wE ?_|refine wU ?_|(refine wC rfl ?_ ?_<;>(intro hb;(try simp only [nm] at hb);try (exfalso;omega)))|(refine aN (id := 1) 88 zX0 (rM 8 7) zX1 bM rfl (by decide +kernel) (dO T rfl (dN rfl (dV rfl (by exact cK rfl rfl) ?_)));refine dP T rfl (dO T rfl (dV rfl (by exact gG T rfl rfl rfl rfl) ?_));refine dV rfl (yB MR rfl rfl) (dE ?_))|(refine rg 2 (mW rfl (lW T rfl (vV (by exact gR xU Y5 rfl rfl (Z3 _ _) rfl hFr.good ⟨_,(hFr _ hbF).1,rfl⟩ (NL ht.nodup) hi1 hi2) ?_)));refine bH (cX T rfl) rfl (bJ T rfl rfl rfl rfl rfl rfl (by decide) rfl ?_))|(refine rg 3 (eK T rfl (mV ?_));refine aO rfl rfl (fun hb=>?_) (fun hb=>?_)<;>(subst hb);(all_goals first|(refine gT (fW T rfl (gT (lW T rfl (gT (vV (bB rfl) ?_))))))|(iterate 3 refine gF ?_));(all_goals (refine pW rfl (mV ?_)));(all_goals first|(refine gK ?_)|(refine aO rfl rfl ?_ ?_<;>(intro hb;rw [hb];(try simp only [nm] at hb);try (exfalso;omega))));(all_goals first|(refine gT (fW T rfl (gT (lW T rfl (gT (fW T rfl (gT (lW T rfl (gT (vV (gW rfl rfl) ?_))))))))))|(iterate 5 refine gF ?_));(all_goals (refine pW rfl (aV ?_))))|(refine rg 5 (eK T rfl (vV (bB rfl) (mV ?_)));(all_goals first|(refine gT (fW T rfl (gT (lV T ?_))))|(iterate 2 refine gF ?_));(all_goals (refine pW rfl (mV ?_)));(all_goals first|(refine gK ?_)|(refine aO rfl rfl (fun hb=>?_) (fun hb=>?_)<;>(subst hb)));(all_goals first|(refine gT (fW T rfl (gT (lW T rfl (gT (fW T rfl (gT (lW T rfl (gT (vV (gW rfl rfl) ?_))))))))))|(iterate 5 refine gF ?_));(all_goals (refine pW rfl (aV ?_))))|(refine rg 7 (lW T rfl (bJ T rfl rfl rfl rfl rfl rfl (by decide) rfl ?_)))|refine nZ ?_));all_goals first | exact absurd hb hfin | (exfalso;exact hA ⟨by first | rfl | assumption,by first | rfl | assumption,by assumption⟩) | (exfalso;exact hB ⟨by first | rfl | assumption,by first | rfl | assumption,by assumption⟩) | skip
        all_goals exact ⟨⟨(T1,_,r'),hsame,hr1⟩,by simp,[0,1,2,3,4],rfl,(by repeat first|exact trivial|refine ⟨rfl,?_⟩),⟨.inr rfl,.inr (aD rfl rfl rfl (iW _)),.inr (aD rfl rfl rfl (iD _)),.inr (aD rfl rfl rfl (sA _)),.inr rfl,trivial⟩,by decide,TK⟩
end Go.Proofs.YtdmajnjoeidgeaaGreat
namespace Go.Ab
open Go Go.MapKept
section
variable {P : Program} {env : eG} {h : Hp}
variable {d : Option Nat} {ty : TypeId} {pos : String} {af : Array Edge} {g : Option (Nat × Bool)}
variable {n : Nat × Nat} {ops : Array Oper} {rest : List Oper} {K : eG → Hp → Prop}
variable {t kt et : TypeId} {good : Value → Prop} {x y z : Operand} {k i : Nat} {kv : Value} {ks : List Value} {vs : List AV} {v : AV}
theorem OL (ht : P.underlying t = some (.map kt et)) (ko : mU P kt good) (hx : evu env x = some (.mp k)) {yv : AV} (hy : evu env y = some yv) (hyv : V7 yv kv) (hz : evu env z = some v) (hk : h[k]? = some (.mapO ks vs)) (hkeys : ∀ q, q ∈ ks → good q) (hkey : good kv) (hni : kv ∉ ks)
    (hv : VC P n ops rest env (h.set k (.mapO (ks ++ [kv]) (vs ++ [v]))) K) : VC P n ops (⟨none,.insert t x y z,ty,pos,af,none⟩ :: rest) env h K := by
  intro c ρ S a w Q s hQ;refine wpList_plain rfl fun K' hK' => ?_
  have p := s.pre;have h1 := p.evu hx;simp only [R] at h1;obtain ⟨b,o,h2,h3⟩ := h1;have h4 := hyv _ _ _ _ (p.evu hy);have hzv := p.evu hz;obtain ⟨b',o',l,ck,h5,h6,h7,h8,h13⟩ := B9 (p.blk k _ hk);rw [h2] at h5;cases h5;have h9 := uG ko w h7 hkeys hkey hni;have hr : (execOp a.eval ⟨none,.insert t x y z,ty,pos,af,none⟩).run P w = .ok .skip { w with heap := w.heap.setIfInBounds b (.map (l.push { key := kv,val := a.eval z,born := ck }) (ck + 1)) } := by
    simp [execOp,h3,h4,Instr.mapUpdate,run_underlying ht,MapKept.run_getObj_map h6,ko.check w _ hkey,h9,MapKept.run_setObj_map _ h6]
  unfold Oper.wp;rw [hr]
  obtain ⟨g1,g2⟩ := s.hs.upd (nb := .mapO (ks ++ [kv]) (vs ++ [v])) hk (by simp) h2 (yE (o := .map (l.push { key := kv,val := a.eval z,born := ck }) (ck + 1)) h6) (fun l' => by
    simp only [RB];refine ⟨b,o,_,_,rfl,(MapKept.heap_set h6).1,⟨by simp [h7],h13.push⟩,?_⟩
    rw [S9,cV]
    exact iR (h8.later l') (by simp only [List.map_cons,List.map_nil,RL];exact ⟨_,_,rfl,hzv.later l',rfl⟩))
  exact hK' _ _ (hv c ρ S _ _ Q ⟨by rw [kH];exact s.size,by rw [iO];exact s.defers.later g2,fun tt uu huu => (s.env tt uu huu).later g2,g1,s.cm⟩ hQ)
end
end Go.Ab
namespace Go.Proofs.YtdmajnjoeidgeaaGreat
open Go Go.Ab Go.Fl Go.Re Go.Ln Go.MapKept
attribute [local irreducible] VC AW bR bQ fT BI
set_option maxHeartbeats 4000000
def YP (W : List Int) (st : Int) (n : gP) : Prop := n.1 ∈ W ∨ n.1 = st
theorem SZ {s : lN} {W : List Int} {st : Int} {Te : List iC} {k : Nat} {U : List (Int × Int)} (hF : mF (iN s W st) k Te) (hU : qF Te (kF U)) {n x : gP} (hn : YP W st n) (hTW : ∀ e,e ∈ Te → YP W st (e.1,true)) (hx : x ∈ oB (iN s W st) Te (kF U) n) : YP W st x := by
  obtain ⟨c,o⟩ := n;unfold oB at hx;cases o with
  | true =>
    simp only [if_true] at hx;rcases bI.1 hx with hx | hx
    · obtain ⟨y,hy,hq⟩ := fX.1 hx;split at hq
      · cases hq;exact .inl (nT.1 hy).1
      · cases hq
    · split at hx
      · simp only [bY] at hx;subst hx;exact hn
      · cases hx
  | false =>
    simp only [mA,if_false] at hx;split at hx
    · simp only [bY] at hx;subst hx;exact hn
    · rename_i b hu;split at hx
      · simp only [bY] at hx;subst hx;exact hTW _ ((hU c b).1 hu)
      · cases hx
theorem zR5 : ∀ i : Nat,i < 3 → ([0,1,2] : List Nat)[i]? = some i := by decide
theorem LX {h : Hp} : ∀ Te : List iC, mQ h (BP Te) (BP Te)
  | [] => .nil
  | _ :: l => .cons (.v _) (LX l)
theorem MG {h : Hp} : ∀ U : List (Int × Int), mQ h (U6 U) (U6 U)
  | [] => .nil
  | _ :: l => .cons (.v _) (MG l)
theorem zK4 : ∀ w,(zeroValue 122).run Tryz.prog w = .ok (.agg #[.int .i64 0,.bool false]) w := zO (by kernel_rfl)
theorem zC5 (S : Nat → Prop) (w : World) (ρ : Pl) : R S w (.agg [.i 0,.b false]) ρ (.agg #[.int .i64 0,.bool false]) := by simp [R,RL]
theorem PI (s : lN) (W : List Int) (st : Int) (Te : List iC) (V : Int → Option Int) (n : gP) : (oB (iN s W st) Te V n).length ≤ 7 := by
  unfold oB;split
  · rw [aF];have h1 := bU (oZ (fun c => if c ≠ (iN s W st).st ∧ (n.1,c) ∉ Te then some (c,false) else none) ((iN s W st).sp n.1)) (B3 s.fl W n.1 6)
    split <;> simp only [List.length_cons,List.length_nil] <;> omega
  · split
    · simp
    · split <;> simp
theorem KA {pre Q : List gP} {n : gP} {c : Int} {o : Bool} : List.take (Q.length + 1) (List.drop pre.length (mE (pre ++ n :: Q))) ++ [[AV.i c,AV.b o]] = mE ([] ++ n :: (Q ++ [(c,o)])) := by
  rw [show mE (pre ++ n :: Q) = mE pre ++ mE (n :: Q) by simp,List.drop_left' (by simp),bC (by simp)];simp
theorem H1 {f : jD} (g : iL f) (W : List Int) : ∀ a,a ∉ lS f W a := fun a ha => by
  obtain ⟨_,d,_,hd⟩ := nT.1 ha;have h := lB g hd;have := (yK g (c := a) (d := d) (by rw [h.2.2.2.1];exact h.2.2.1.1)).2
  rw [h.2.2.2.1] at this;exact this rfl
theorem CU (l : List gP) : ∀ e,e ∈ mE l → e.length = 2 := by intro e he;obtain ⟨n,_,rfl⟩ := aQ.1 he;rfl
theorem zR2 : ∀ i : Nat,i < 3 → ([0,1,2,6] : List Nat)[i]? = some i := by decide
theorem zB5 {F : List (gP × gP)} {n : gP} (h : n ∉ F.map (·.1)) : kN n ∉ UJ F := fun hm => by
  obtain ⟨x,hx,e⟩ := aQ.1 hm;exact h (aQ.2 ⟨x,hx,TM e⟩)
theorem zR1 : ∀ i : Nat,i < 3 → ([0,1,2,3,4] : List Nat)[i]? = some i := by decide
theorem zR3 : ∀ i : Nat,i < 3 → ([0,1,2,3,9,5] : List Nat)[i]? = some i := by decide
theorem PF : ∀ l : List gP, AV.rfL (mE l).flatten = true
  | [] => rfl
  | _ :: l => PF l
theorem CW : ∀ l : List gP, (mE l).all AV.rfL = true
  | [] => rfl
  | _ :: l => CW l
theorem SX (l : List gP) : ((AV.sl 0 0 l.length 2).rf && [AB.arr (mE l) 2].all AB.rf) = true := by
  simp only [AV.rf,T8,List.all_nil,Bool.and_true,vE];exact CW l
theorem YH : ∀ i : Nat,i < 3 → ([0,1,2,3,4,5] : List Nat)[i]? = some i := by decide
theorem zR4 : ∀ i : Nat,i < 3 → ([0,1,2,4,5] : List Nat)[i]? = some i := by decide
section
variable {env : eG} {h : Hp} {d : Option Nat} {ty : TypeId} {pos : String} {af : Array Edge} {g : Option (Nat × Bool)} {x y : Operand} {k : Nat}
theorem NB {U : List (Int × Int)} {c : Int} (hU : (zJ U).Nodup) (hx : evu env x = some (.mp k)) (hy : evu env y = some (.i c)) (hk : h[k]? = some (.mapO (zJ U) (U6 U))) :
    bR Tryz.prog ⟨d,.lookup 72 x y true,ty,pos,af,g⟩ env h 0 (fun _ => .tup [.i ((kF U c).getD 0),.b (kF U c).isSome]) (fun _ => []) := by
  cases hu : kF U c with
  | none => exact sD mB jL T4 (fun _ _ _ => iI _) hx hy (gC _) hk (tS U) (eR _) (E8 hu)
  | some p =>
    obtain ⟨i,hi1,hi2⟩ := xR hu;exact uE mB jL hx hy (gC _) hk (tS U) (eR _) hU hi1 hi2
end
structure zU3 (s : lN) (W : List Int) (st : Int) (Te : List iC) (U : List (Int × Int)) (F : List (gP × gP)) (Q D : List gP) : Prop where
  gr : Grow (iN s W st) Te (kF U) F Q D
  iw : ∀ n,n ∈ F.map (·.1) → YP W st n
theorem _root_.Go.Ln.Tree.vals {g : wV} {Te : List iC} {F : List (gP × gP)} (h : Tree g Te F) : ∀ p,p ∈ F → p.2 ∈ F.map (·.1) := by
  induction h with
  | one => intro p hp;simp only [bY] at hp;subst hp;simp
  | more _ hn _ _ _ ih =>
    intro p hp;rw [cV];rcases bI.1 hp with hp | hp
    · exact iT _ (ih p hp)
    · simp only [bY] at hp;subst hp;exact iT _ hn
theorem Y4 {N : Nat} {l : List gP} (hn : l.Nodup) (h : ∀ n,n ∈ l → 0 ≤ n.1 ∧ n.1 < N) : l.length ≤ 2 * N := by
  have h1 : l.length ≤ ((List.range N).flatMap fun i : Nat => [((i : Int),false),((i : Int),true)]).length := kA hn fun n hm => by
    obtain ⟨c,o⟩ := n;obtain ⟨h0,h2⟩ := h _ hm;refine List.mem_flatMap.2 ⟨c.toNat,fC.2 (by simp only at h0 h2;omega),?_⟩
    simp only at h0;cases o <;> simp <;> omega
  have h2 : ((List.range N).flatMap fun i : Nat => [((i : Int),false),((i : Int),true)]).length = 2 * N := by
    clear h1 h hn
    induction N with
    | zero => rfl
    | succ N ih => rw [lO,List.flatMap_append,aF,ih];simp;omega
  omega
theorem TX (s : lN) (g : iL s.fl) (W : List Int) (hW : vK W) (hWl : W.length ≤ 1000000) (hWr : ∀ x,x ∈ W → 0 ≤ x ∧ x < s.fl.k.length) (st : Int) (hstr : 0 ≤ st ∧ st < s.fl.k.length) (hst : sW s.fl st = false) {k : Nat} {Te : List iC} {U : List (Int × Int)} (hF : mF (iN s W st) k Te) (hTr : FW Te) (hTW : ∀ e,e ∈ Te → YP W st (e.1,true)) (hU : qF Te (kF U)) (hUn : (zJ U).Nodup) :
    fT Tryz.prog 35 [.ptr 0 0] (zQ4 s W st Te U) (fun r o => (r = .b true ∧ ∃ T' U',o = [.cells (D0 s W st (.mp 1) (.mp 3)),.mapO (T'.map kE) (BP T'),.mapO (zJ U) (U6 U),.mapO (zJ U') (U6 U')] ∧ mF (iN s W st) (k + 1) T' ∧ FW T' ∧ qF T' (kF U') ∧ (zJ U').Nodup) ∨ (r = .b false ∧ o = zQ4 s W st Te U ∧ ∃ R,L2 (iN s W st) Te R)) := by
  have hN := g.le;have hri : ∀ c : Int,0 ≤ c ∧ c < s.fl.k.length → uN c := fun c hc => ⟨by omega,by omega⟩
  refine mM T Tryz.func35 rfl rfl rfl rfl ?_
  (repeat' (first|refine wS ?_|refine wB ?_|(refine rg 0 (aV ?_))|(refine rg 1 (mW rfl (nV ?_));refine eK T rfl (vV (by exact gG T rfl rfl rfl rfl) ?_);refine bH (cX T rfl) rfl (bJ T rfl rfl rfl rfl rfl rfl (by decide) rfl ?_))|(refine rg 2 (bH (by exact lR) rfl ?_);refine lW T rfl (lV T ?_);refine OL xU Y5 rfl rfl (Z3 _ _) rfl rfl (fun q hq=>by cases hq) ⟨(st,true),hri st hstr,rfl⟩ (by simp) ?_;(all_goals (refine mW rfl (aV ?_))))|(refine rg 3 (lW T rfl (bH (by exact aS T rfl rfl (by decide) (by decide) rfl rfl rfl) rfl ?_));refine aV ?_)|refine nZ ?_));refine bV (X := {p : List (gP × gP) × List gP × List gP × List gP // zU3 s W st Te U p.1 p.2.1 p.2.2.1}) (fun p => [(0,.ptr 0 0),(4,.mp 3),(5,.sl 4 p.1.2.2.2.length p.1.2.1.length 2)]) (fun p => [.cells (D0 s W st (.mp 1) (.mp 2)),.mapO (Te.map kE) (BP Te),.mapO (zJ U) (U6 U),.mapO (UJ p.1.1) (YQ p.1.1),.arr (mE (p.1.2.2.2 ++ p.1.2.1)) 2]) (fun p => 2 * (2 * s.fl.k.length - p.1.1.length) + p.1.2.1.length) ⟨([((st,true),(st,true))],[(st,true)],[],[]),Grow.start,fun n hn => by simp at hn;subst hn;exact .inr rfl⟩ ⟨[0,1,2,4,5],rfl,(by repeat first|exact trivial|refine ⟨rfl,?_⟩),⟨.inr rfl,.inr (aD rfl rfl rfl (iW _)),.inr (aD rfl rfl rfl (iD _)),.inr (aD rfl rfl rfl rfl),.inr (aC rfl rfl (kO _)),trivial⟩,by decide,zR4⟩ ?_
  rintro ⟨⟨F,Q,D,pre⟩,hg⟩;dsimp only;dsimp only at hg;have hcl : ∀ n : gP,n ∈ F.map (·.1) → 0 ≤ n.1 ∧ n.1 < (s.fl.k.length : Int) := fun n hn => (hg.iw n hn).elim (fun h => hWr _ h) (fun h => by rw [h];exact hstr)
  have hFl := Y4 hg.gr.tree.nodup hcl
  match Q,hg with
  | [],hg =>
    (repeat' (first|refine wS ?_|refine wR ?_|refine wE ?_|refine wU ?_|(refine rg 4 (mW rfl (qW T rfl (vV (eS rfl rfl) ?_))))|(refine rg 19 (aV ?_))|refine nZ ?_));all_goals exact ⟨_,_,.inr ⟨rfl,rfl,_,hg.gr.shut hF hU⟩,.inl rfl,[0,1,2],_,rfl,rfl,rfl,⟨.inr rfl,.inr (aD rfl rfl rfl (iW _)),.inr (aD rfl rfl rfl (iD _)),trivial⟩,by decide,zR5⟩
  | n :: Q,hg =>
    obtain ⟨c,o⟩ := n;have e1 : (mE (pre ++ (c,o) :: Q))[pre.length + (0 : Int).toNat]? = some [AV.i c,AV.b o] := by simp
    have hcF : (c,o) ∈ F.map (·.1) := by rw [hg.gr.all];simp
    have hcr : 0 ≤ c ∧ c < (s.fl.k.length : Int) := hcl (c,o) hcF;have cx := Z4 s c hcr.1 hcr.2;have hFr : VT F := fun p hp => ⟨hri _ (hcl _ (aQ.2 ⟨p,hp,rfl⟩)),hri _ (hcl _ (hg.gr.tree.vals p hp))⟩;have hQl : ((c,o) :: Q).length ≤ F.length := by have := congrArg List.length hg.gr.all;simp only [dY,aF] at this;omega
    by_cases hq : o = false ∧ (kF U c).isSome = false ∧ sW s.fl c = true
    · obtain ⟨rfl,hu,hx⟩ := hq;have hu : kF U c = none := by simpa using hu
      rw [hx] at cx;have ct := zD3 (U := U) s g W st hst hF hg.gr.tree hx (hU.free.1 hu) hcF hTr hFr
      (repeat' (first|refine wS ?_|refine wB ?_|refine wK ?_|refine wR ?_|(first|(refine wT ?_)|(refine V4 rfl (fun hb=>?_) (fun hb=>?_)<;>(((try simp only [nm] at hb);try ((exfalso;omega);done)))))|(refine rg 4 (mW rfl (qW T rfl (vV (eS rfl rfl) ?_))))|(refine rg 6 (mW rfl (vV (bZ T rfl rfl rfl rfl rfl (by omega) (by simp)) (vV (cJ T rfl rfl (eO rfl e1) rfl) (bH (cX T rfl) rfl (bJ T rfl rfl rfl rfl rfl rfl (by decide) rfl ?_))))))|(refine aN (id := 7) 86 zV0 [33,34,35,36,37,38,39,32,40,41,7] zX2 bM rfl (by decide +kernel) (dN rfl (dV rfl (by exact cK rfl rfl) ?_));refine dP T rfl (dO T rfl (dP T rfl (dO T rfl (dV rfl (by exact NB hUn rfl rfl rfl) ?_))));refine dN rfl (dV rfl (by exact eB rfl rfl) ?_);refine dV rfl (by exact eB rfl rfl) ?_;refine dV rfl (eM rfl) (dE ?_);refine aV ?_)|(refine aN (id := 8) 86 zX3 (rM 42 16) zX4 bM rfl (by decide +kernel) (dP T rfl (dO T rfl (dV rfl (bB rfl) (dN rfl (tN rfl (dT rfl (bB rfl) (dV rfl (eP rfl rfl) (dM ?_))))))));refine oR rfl rfl rfl rfl (fun hb=>?_) (fun hb=>?_)<;>((rw [hb];(try simp only [nm] at hb);try ((exfalso;(simp [hu] at hb;done));done)))<;>(refine tM ?_);(all_goals (refine dT rfl (by exact cK rfl rfl) ?_;refine tP T rfl (tO T rfl (tP T rfl (tO T rfl (dT rfl (kC (cx)) (dV rfl (eP rfl rfl) (dE ?_)))))))))|(refine rg 9 (mW rfl (vV (cJ T rfl rfl rfl rfl) (mW rfl (mG (rN 4) rfl rfl ct rfl rfl (by decide) ⟨.inr rfl,.inr (aD rfl rfl rfl (iW _)),.inr (aD rfl rfl rfl (iD _)),.inr (aD rfl rfl rfl (sA _)),trivial⟩ (by simp) rfl ?_))));rintro _ _ ⟨rfl,T',U',rfl,p1,p2,p3,p4⟩)|(refine rg 10 (aV ?_))|refine nZ ?_));all_goals exact ⟨_,_,.inl ⟨rfl,T',U',rfl,p1,p2,p3,p4⟩,.inl rfl,[0,1,2,6],_,rfl,rfl,rfl,⟨.inr rfl,.inr (by first|exact aD rfl rfl rfl (iW _)|exact aD rfl rfl (dZ _ _ (iW _)) (iW _)),.inr (by first|exact aD rfl rfl rfl (iD _)|exact aD rfl rfl (dZ _ _ (iD _)) (iD _)),.inr (by first|exact aD rfl rfl rfl (iD _)|exact aD rfl rfl (dZ _ _ (iD _)) (iD _)),trivial⟩,by decide,zR2⟩
    · apply zH3
      · intro rest
        (repeat' (first|refine wS ?_|refine wB ?_|refine wK ?_|refine wU ?_|(refine wC rfl ?_ ?_<;>(intro hb;(try simp only [nm] at hb);try (exfalso;omega)))|(refine rg 4 (mW rfl (qW T rfl (vV (eS rfl rfl) ?_))))|(refine rg 6 (mW rfl (vV (bZ T rfl rfl rfl rfl rfl (by omega) (by simp)) (vV (cJ T rfl rfl (eO rfl e1) rfl) (bH (cX T rfl) rfl (bJ T rfl rfl rfl rfl rfl rfl (by decide) rfl ?_))))))|(refine aN (id := 7) 86 zV0 [33,34,35,36,37,38,39,32,40,41,7] zX2 bM rfl (by decide +kernel) (dN rfl (dV rfl (by exact cK rfl rfl) ?_));refine dP T rfl (dO T rfl (dP T rfl (dO T rfl (dV rfl (by exact NB hUn rfl rfl rfl) ?_))));refine dN rfl (dV rfl (by exact eB rfl rfl) ?_);refine dV rfl (by exact eB rfl rfl) ?_;refine dV rfl (eM rfl) (dE ?_);refine aV ?_)|(refine aN (id := 8) 86 zX3 (rM 42 16) zX4 bM rfl (by decide +kernel) (dP T rfl (dO T rfl (dV rfl (bB rfl) (dM ?_))));(refine oR rfl rfl rfl rfl ?_ ?_<;>(intro hb;rw [hb];(try simp only [nm] at hb);try (exfalso;omega))<;>first|(refine tM ?_)|(refine dG ?_));(all_goals first|(refine dT rfl (bB rfl) ?_)|(refine dG ?_));(all_goals (refine dV rfl (by first|exact eP rfl rfl|exact cY rfl rfl) ?_;refine dM ?_));(all_goals first|(refine dG ?_)|((refine oR rfl rfl rfl rfl ?_ ?_<;>(intro hb;rw [hb];(try simp only [nm] at hb);try (exfalso;omega))<;>first|(refine tM ?_)|(refine dG ?_))));(all_goals first|(refine dT rfl (by exact cK rfl rfl) ?_)|(refine dG ?_));(all_goals first|(refine tF T ?_)|(refine dG ?_));(all_goals first|(refine tL T ?_)|(refine dG ?_));(all_goals first|(refine tF T ?_)|(refine dG ?_));(all_goals first|(refine tL T ?_)|(refine dG ?_));(all_goals first|(refine dT rfl (kC (cx)) ?_)|(refine dG ?_));(all_goals (refine dV rfl (by first|exact eP rfl rfl|exact cY rfl rfl) ?_;refine dE ?_)))|refine nZ ?_));all_goals first | exact absurd ⟨by assumption,by assumption,by assumption⟩ hq | exact kT ([(0,.ptr 0 0),(4,.mp 3),(5,.sl 4 pre.length ((c,o) :: Q).length 2),(6,.ptr 5 0)]) ([.cells (D0 s W st (.mp 1) (.mp 2)),.mapO (Te.map kE) (BP Te),.mapO (zJ U) (U6 U),.mapO (UJ F) (YQ F),.arr (mE (pre ++ (c,o) :: Q)) 2,.cells [.i c,.b o]]) ⟨[0,1,2,3,4,5],rfl,(by repeat first|exact trivial|refine ⟨rfl,?_⟩),⟨.inr rfl,.inr (aD rfl rfl rfl (iW _)),.inr (aD rfl rfl rfl (iD _)),.inr (aD rfl rfl rfl (sA _)),.inr (aC rfl rfl (kO _)),.inr rfl,trivial⟩,by decide,YH⟩ rest.get
      · have hnx := TA s g W hW hWl (fun x hx => hri x (hWr x hx)) st Te hTr hF.nd U hUn c (hri c hcr) o;have hni : ∀ x,x ∈ oB (iN s W st) Te (kF U) (c,o) → YP W st x := fun x hx => SZ hF hU (hg.iw (c,o) hcF) hTW hx;have hgm := hg.gr.open (fun q => hq ⟨q.1,by have := q.2.1;simp only at this;rw [this];rfl,q.2.2⟩)
        have hnl := PI s W st Te (kF U) (c,o);generalize hNX : oB (iN s W st) Te (kF U) (c,o) = NX at *;have hNl : (mE NX).length = NX.length := by simp
        (repeat' (first|refine wB ?_|(refine rg 11 (mW rfl (vV (cJ T rfl rfl rfl rfl) ?_));refine bH (by exact lX rfl rfl hnx (.inl ⟨.cons (.ptr rfl (by repeat (first|exact .nil|exact .v _|exact .row _ _ _|exact .mp rfl (LX _)|exact .mp rfl (MG _)|refine .cons ?_ ?_))) (.cons (.agg (.cons (.v _) (.cons (.v _) .nil))) .nil),SX _⟩)) rfl ?_;refine pF (es := mE NX) 64 rfl (congrArg (fun l=>some (AB.arr l 2)) (eU _ (kO NX))) (by simp) (kP (kO NX)) ?_;(all_goals (refine qW T rfl (mV ?_))))|refine nZ ?_));refine bV (X := {p : List (gP × gP) × List gP × List gP × Nat // p.2.2.2 ≤ NX.length ∧ CF (iN s W st) Te (kF U) (c, o) p.1 p.2.1 D (NX.take p.2.2.2) (NX.drop p.2.2.2) ∧ (∀ n, n ∈ p.1.map (·.1) → YP W st n) ∧ 2 * (2 * s.fl.k.length - p.1.length) + p.2.1.length ≤ 2 * (2 * s.fl.k.length - F.length) + Q.length})
          (fun p => [(0,.ptr 0 0),(4,.mp 3),(5,.sl 4 p.1.2.2.1.length ((c,o) :: p.1.2.1).length 2),(6,.ptr 5 0),(64,.rowE (mE NX) 2),(65,.i NX.length),(66,.i (p.1.2.2.2 : Int))])
          (fun p => [.cells (D0 s W st (.mp 1) (.mp 2)),.mapO (Te.map kE) (BP Te),.mapO (zJ U) (U6 U),.mapO (UJ p.1.1) (YQ p.1.1),.arr (mE (p.1.2.2.1 ++ (c,o) :: p.1.2.1)) 2,.cells [.i c,.b o]])
          (fun p => NX.length - p.1.2.2.2) ⟨(F,Q,pre,0),by simp,by simpa using hgm,hg.iw,by simp⟩ ⟨[0,1,2,3,4,5],rfl,⟨rfl,rfl,rfl,rfl,rfl,congrArg (fun n : Nat => some (AV.i n)) hNl,rfl,trivial⟩,⟨.inr rfl,.inr (aD rfl rfl rfl (iW _)),.inr (aD rfl rfl rfl (iD _)),.inr (aD rfl rfl rfl (sA _)),.inr (aC rfl rfl (kO _)),.inr rfl,trivial⟩,by decide,YH⟩ ?_
        rintro ⟨⟨F',Q',pre',j⟩,hj,hm,hiw,hle⟩;dsimp only;dsimp only at hj hm hiw hle;have hcl' : ∀ n : gP,n ∈ F'.map (·.1) → 0 ≤ n.1 ∧ n.1 < (s.fl.k.length : Int) := fun n hn => (hiw n hn).elim (fun h => hWr _ h) (fun h => by rw [h];exact hstr)
        have hFr' : VT F' := fun p hp => ⟨hri _ (hcl' _ (aQ.2 ⟨p,hp,rfl⟩)),hri _ (hcl' _ (hm.tree.vals p hp))⟩;have hFl' := Y4 hm.tree.nodup hcl';have hQl' : Q'.length + 1 ≤ F'.length := by have := congrArg List.length hm.all;simp only [dY,aF,dW] at this;omega
        rw [dY] at hFl';by_cases hlt : j < NX.length
        · have hdr := bK hlt;have htk := aJ hlt;have hxm := hni NX[j] (dB hlt);have q1 : (mE NX)[(j : Int).toNat]? = some [AV.i NX[j].1,AV.b NX[j].2] := by rw [aX];simp [hlt]
          rw [hdr] at hm;generalize NX[j] = x at *;obtain ⟨xc,xo⟩ := x;have hxr : 0 ≤ xc ∧ xc < (s.fl.k.length : Int) := hxm.elim (fun h => hWr _ h) (fun h => by simp only at h;rw [h];exact hstr)
          dsimp only at q1;by_cases hx : (xc,xo) ∈ F'.map (·.1)
          · have hm2 := hm.old hx;rw [← htk] at hm2;obtain ⟨y,hy,hyx⟩ := aQ.1 hx;obtain ⟨⟨y1,y2⟩,⟨z1,z2⟩⟩ := y;cases hyx;obtain ⟨i,hi1,hi2⟩ := zB6 hy
            (repeat' (first|refine wS ?_|refine wB ?_|refine wK ?_|refine wT ?_|refine wU ?_|(refine rg 12 (vV (aL rfl rfl (by omega)) ?_))|(refine rg 13 (vV (ix T rfl (by omega) (CU _) q1) (lW T rfl (bH (cX T rfl) rfl (bJ T rfl rfl rfl rfl rfl rfl (by decide) rfl ?_)))))|(refine rg 14 (mW rfl (lW T rfl (vV (by exact uE xU Y5 rfl rfl (Z3 _ _) rfl hFr'.good ⟨_,hri _ hxr,rfl⟩ (NL hm.tree.nodup) hi1 hi2) ?_)));refine mW rfl (xW rfl (xW rfl (bH (cX T rfl) rfl (bJ T rfl rfl rfl rfl rfl rfl (by decide) rfl (aV ?_))))))|(refine rg 15 (mW rfl (vV (bB rfl) ?_)))|(refine rg 18 (vV (bP rfl rfl (by omega) (by omega)) (mV ?_)))|refine nZ ?_));all_goals exact ⟨⟨(F',Q',pre',j + 1),hlt,hm2,hiw,hle⟩,by dsimp only;omega,[0,1,2,3,4,5],rfl,(by repeat first|exact trivial|refine ⟨rfl,?_⟩),⟨.inr rfl,.inr (aD rfl rfl rfl (iW _)),.inr (aD rfl rfl rfl (iD _)),.inr (aD rfl rfl rfl (sA _)),.inr (aC rfl rfl (kO _)),.inr rfl,trivial⟩,by decide,YH⟩
          · have hm2 := hm.new hF hU hst (H1 g W) hx;rw [← htk] at hm2;have hiw2 : ∀ n,n ∈ (F' ++ [((xc,xo),(c,o))]).map (·.1) → YP W st n := fun n hn => by
              rw [cV] at hn;rcases bI.1 hn with hn | hn
              · exact hiw n hn
              · simp only [List.map_cons,List.map_nil,bY] at hn;subst hn;exact hxm
            have hFl2 := Y4 hm2.tree.nodup (fun n hn => (hiw2 n hn).elim (fun h => hWr _ h) (fun h => by rw [h];exact hstr))
            rw [dY,aF,dW] at hFl2
            (repeat' (first|refine wS ?_|refine wB ?_|refine wK ?_|refine wT ?_|(refine rg 12 (vV (aL rfl rfl (by omega)) ?_))|(refine rg 13 (vV (ix T rfl (by omega) (CU _) q1) (lW T rfl (bH (cX T rfl) rfl (bJ T rfl rfl rfl rfl rfl rfl (by decide) rfl ?_)))))|(refine rg 14 (mW rfl (lW T rfl (vV (by exact sD xU Y5 zK4 zC5 rfl rfl (Z3 _ _) rfl hFr'.good ⟨_,hri _ hxr,rfl⟩ (zB5 hx)) ?_)));refine mW rfl (xW rfl (xW rfl (bH (cX T rfl) rfl (bJ T rfl rfl rfl rfl rfl rfl (by decide) rfl (aV ?_))))))|(refine rg 15 (mW rfl (vV (bB rfl) ?_)))|(refine rg 16 (mW rfl (lW T rfl (lW T rfl (lQ xU Y5 rfl rfl (Z3 _ _) rfl rfl hFr'.good ⟨(xc,xo),hri _ hxr,rfl⟩ (zB5 hx) ?_)))))|(refine rg 17 (mW rfl (lW T rfl (bH (by exact aS T rfl rfl (by decide) (by decide) rfl rfl rfl) rfl ?_)));refine eL T rfl rfl rfl rfl rfl rfl (by simp) (iU.whole rfl rfl) rfl (by simp;omega) (by simp;omega) rfl ?_;refine aV ?_)|(refine rg 18 (vV (bP rfl rfl (by omega) (by omega)) (mV ?_)))|refine nZ ?_));all_goals exact ⟨⟨(F' ++ [((xc,xo),(c,o))],Q' ++ [(xc,xo)],[],j + 1),hlt,hm2,hiw2,by simp only [aF,dW];omega⟩,by dsimp only;omega,[0,1,2,3,9,5],rfl,⟨rfl,rfl,congrArg (fun n : Nat => some (AV.sl 9 0 n 2)) (show Q'.length + 1 + 1 = ((c,o) :: (Q' ++ [(xc,xo)])).length by simp),rfl,rfl,rfl,rfl,trivial⟩,⟨.inr rfl,.inr (aD rfl rfl rfl (iW _)),.inr (aD rfl rfl rfl (iD _)),.inr (aD rfl (by simp) (by simp) (sA _)),.inr (aC rfl KA (kO _)),.inr rfl,trivial⟩,by decide,zR3⟩
        · obtain rfl : j = NX.length := Nat.le_antisymm hj (Nat.le_of_not_lt hlt);rw [List.drop_length,dU] at hm;have hg2 := hm.shut
          (repeat' (first|refine wS ?_|refine wE ?_|refine wU ?_|(refine rg 12 (vV (bG rfl rfl (by omega)) ?_))|(refine rg 5 (mW rfl (vV (by exact oN T rfl rfl rfl rfl rfl rfl (by omega) (by omega) (by omega)) ?_));refine aV ?_)|refine nZ ?_));all_goals exact ⟨⟨(F',Q',D ++ [(c,o)],pre' ++ [(c,o)]),hg2,hiw⟩,by dsimp only;rw [List.length_cons];omega,[0,1,2,3,4],rfl,⟨rfl,rfl,(show some (AV.sl 4 (pre'.length + (1 : Int).toNat) (((Q'.length + 1 : Nat) : Int) - 1).toNat 2) = some (AV.sl 4 (pre' ++ [(c,o)]).length Q'.length 2) by rw [show pre'.length + (1 : Int).toNat = (pre' ++ [(c,o)]).length by simp,show (((Q'.length + 1 : Nat) : Int) - 1).toNat = Q'.length by omega]),trivial⟩,⟨.inr rfl,.inr (aD rfl rfl rfl (iW _)),.inr (aD rfl rfl rfl (iD _)),.inr (aD rfl rfl rfl (sA _)),.inr (aC rfl (by simp) (kO _)),trivial⟩,by decide,zR1⟩
end Go.Proofs.YtdmajnjoeidgeaaGreat
namespace Go.Fl
end Go.Fl
namespace Go.Proofs.YtdmajnjoeidgeaaGreat
open Go Go.Ab Go.Fl Go.Re Go.Ln Go.MapKept
attribute [local irreducible] VC AW bR bQ fT
set_option maxHeartbeats 4000000
def GM (f : jD) (W : List Int) (c : Nat) : Bool := decide (f.k.getD c 0 ≠ 0) && !decide ((c : Int) ∈ W)
def rW (f : jD) (W : List Int) (n : Nat) : List Nat := (List.range n).filter (GM f W)
def vQ (f : jD) (c : Nat) : Bool := decide (f.k.getD c 0 ≠ 0)
abbrev pM (f : jD) : List Nat := rW f (bO f) f.k.length
theorem CK (f : jD) (W : List Int) (n : Nat) : rW f W (n + 1) = if GM f W n = true then rW f W n ++ [n] else rW f W n := by
  unfold rW;rw [lO,qZ];by_cases h : GM f W n = true
  · rw [if_pos h,kZ,if_pos h];rfl
  · rw [if_neg h,kZ,if_neg h];simp
theorem A2 {f : jD} {W : List Int} {n c : Nat} : c ∈ rW f W n ↔ c < n ∧ GM f W c = true := by
  unfold rW;rw [fZ,fC]
theorem H3 {f : jD} {W : List Int} {n N : Nat} (h : n ≤ N) : ∀ c,c ∈ rW f W n → c < N := fun c hc => by have := (A2.1 hc).1;omega
def lZ (f : jD) : List Int := (tR f.k.length (pK f) (vQ f) (pM f)).out
abbrev lG (f : jD) (c : Nat) : Int := (lZ f).getD c (-1)
theorem U9 {f : jD} (g : iL f) : zK3 f.k.length (pK f) (vQ f) (· ∈ pM f) (lG f) ∧ (lZ f).length = f.k.length := JP (A6 g) _ (H3 (aY _))
theorem zZ {f : jD} (g : iL f) : ∀ c,c < f.k.length → lG f c ≤ f.k.length := OR (A6 g) _ (H3 (aY _))
def E1 (out : List Int) (c n : Nat) : Bool := decide (0 ≤ out.getD n (-1)) && decide (out.getD n (-1) = out.getD c (-1) - 1)
def oT (f : jD) (out : List Int) (c d : Nat) : Option Nat := match JH f c d with
  | some n => if E1 out c n = true then some n else none
  | none => none
def oD (f : jD) (out : List Int) (c : Nat) : Nat := ((List.range 6).findSome? (oT f out c)).getD c
def C8 (f : jD) (out : List Int) : Nat → Nat → List Int
  | 0,_ => []
  | n + 1,c => (oD f out c : Int) :: C8 f out n (oD f out c)
def pO (f : jD) (c : Nat) : List Int := (c : Int) :: C8 f (lZ f) (lG f c).toNat c
def HI (f : jD) (c : Int) : Option (Int × List Int) := if 0 ≤ lG f c.toNat then some (c,pO f c.toNat) else none
def rF (f : jD) (W : List Int) : List (Int × List Int) := W.filterMap (HI f)
theorem W1 (f : jD) (out : List Int) : ∀ (n c : Nat), (C8 f out n c).length = n
  | 0,_ => rfl
  | n + 1,c => by unfold C8;rw [List.length_cons,W1 f out n]
theorem P4 {f : jD} (g : iL f) {out : List Int} (h : zK3 f.k.length (pK f) (vQ f) (· ∈ pM f) (fun c => out.getD c (-1))) {c : Nat} (hc : c < f.k.length) (h0 : 0 < out.getD c (-1)) :
    oD f out c < f.k.length ∧ out.getD (oD f out c) (-1) = out.getD c (-1) - 1 ∧ ∃ d : Nat,d < 6 ∧ JH f c d = some (oD f out c) := by
  unfold oD;obtain ⟨p,d,hp,hd,hm,he⟩ := h.pos c hc h0;have hmv := (zB0 g (c := c) (d := d) (n := p)).2 hm;cases hs : (List.range 6).findSome? (oT f out c) with
  | none =>
    exfalso;have := (List.findSome?_eq_none_iff.1 hs) d (fC.2 hd);unfold oT at this;rw [hmv] at this;simp only at this;rw [if_pos (by unfold E1;rw [decide_eq_true (by omega),decide_eq_true he];rfl)] at this
    cases this
  | some n =>
    obtain ⟨l1,d',l2,e1,e2,_⟩ := List.findSome?_eq_some_iff.1 hs;have hd' : d' < 6 := fC.1 (by rw [e1];simp)
    unfold oT at e2;cases hq : JH f c d' with
    | none => rw [hq] at e2;cases e2
    | some m =>
      rw [hq] at e2;simp only at e2;split at e2
      · rename_i hn;cases e2;unfold E1 at hn;rw [aT,decide_eq_true_eq,decide_eq_true_eq] at hn;exact ⟨TD g c d' _ hc hq,hn.2,d',hd',hq⟩
      · cases e2
abbrev P5 (l : List Nat) : List Value := l.map fun c : Nat => kI (c : Int)
abbrev AM (out : List Int) (l : List Nat) : List AV := l.map fun c => AV.i (out.getD c (-1))
theorem pY (l : List Nat) : ∀ q,q ∈ P5 l → MapKept.IsKey (.int .i64) q := fun q hq => by
  obtain ⟨c,_,rfl⟩ := aQ.1 hq;rfl
theorem DR {l : List Nat} (h : l.Nodup) : (P5 l).Nodup := List.Pairwise.map _ (fun a b hab e => hab (by simp [kI] at e;omega)) h
theorem DQ {l : List Nat} {x : Int} (h : ∀ c : Nat,(c : Int) = x → c ∉ l) : kI x ∉ P5 l := fun hm => by
  obtain ⟨c,hc,e⟩ := aQ.1 hm;simp [kI] at e;exact h c e hc
theorem DS {l : List Nat} {out : List Int} {c : Nat} (h : c ∈ l) : ∃ i : Nat,(P5 l)[i]? = some (kI (c : Int)) ∧ (AM out l)[i]? = some (AV.i (out.getD c (-1))) := by
  obtain ⟨i,hi⟩ := List.getElem?_of_mem h;exact ⟨i,by simp [hi],by simp [hi]⟩
theorem uW (out : List Int) (l : List Nat) : AV.idfL (AM out l) = true := by
  induction l with
  | nil => rfl
  | cons c l ih => exact ih
theorem NP {h : Hp} (out : List Int) : ∀ l : List Nat, mQ h (AM out l) (AM out l)
  | [] => .nil
  | _ :: l => .cons (.v _) (NP out l)
def kn (hist : List Nat) (x : Int) : Bool := decide (0 ≤ x ∧ x.toNat ∈ hist)
def dv (hist : List Nat) (out : List Int) (x : Int) : Int := if kn hist x = true then out.getD x.toNat (-1) else 0
section
variable {env : eG} {h : Hp} {d : Option Nat} {ty : TypeId} {pos : String} {af : Array Edge} {g : Option (Nat × Bool)} {x y : Operand} {k : Nat}
theorem UF {hist : List Nat} {out : List Int} {c : Int} (hnd : hist.Nodup) (hx : evu env x = some (.mp k)) (hy : evu env y = some (.i c)) (hk : h[k]? = some (.mapO (P5 hist) (AM out hist))) :
    bR Tryz.prog ⟨d,.lookup 72 x y true,ty,pos,af,g⟩ env h 0 (fun _ => .tup [.i (dv hist out c),.b (kn hist c)]) (fun _ => []) := by
  unfold dv;cases hq : kn hist c with
  | false =>
    rw [if_neg (by decide)]
    refine sD mB jL T4 (fun _ _ _ => iI _) hx hy (gC _) hk (pY _) (eR _) (DQ fun c' e hm => ?_);unfold kn at hq;exact (of_decide_eq_false hq) ⟨by omega,by rw [← e];simpa using hm⟩
  | true =>
    rw [if_pos rfl];unfold kn at hq;obtain ⟨h0,hm⟩ := of_decide_eq_true hq;obtain ⟨i,hi1,hi2⟩ := DS (out := out) hm;rw [hO h0] at hi1;exact uE mB jL hx hy (gC _) hk (pY _) (eR _) (DR hnd) hi1 hi2
theorem UE {hist : List Nat} {out : List Int} {c : Int} (hnd : hist.Nodup) (hx : evu env x = some (.mrow (P5 hist) (AM out hist))) (hy : evu env y = some (.i c)) :
    bR Tryz.prog ⟨d,.lookup 72 x y true,ty,pos,af,g⟩ env h 0 (fun _ => .tup [.i (dv hist out c),.b (kn hist c)]) (fun _ => []) := by
  unfold dv;cases hq : kn hist c with
  | false =>
    rw [if_neg (by decide)]
    refine oO (zA := .i 0) mB jL T4 (fun _ _ _ => iI _) hx hy (gC _) (pY _) (eR _) (DQ fun c' e hm => ?_);unfold kn at hq;exact (of_decide_eq_false hq) ⟨by omega,by rw [← e];simpa using hm⟩
  | true =>
    rw [if_pos rfl];unfold kn at hq;obtain ⟨h0,hm⟩ := of_decide_eq_true hq;obtain ⟨i,hi1,hi2⟩ := DS (out := out) hm;rw [hO h0] at hi1;exact oP mB jL hx hy (gC _) (pY _) (eR _) (DR hnd) hi1 hi2 rfl
theorem NH {hist : List Nat} {out : List Int} {c : Nat} (hnd : hist.Nodup) (hm : c ∈ hist) (hx : evu env x = some (.mp k)) (hy : evu env y = some (.i (c : Int))) (hk : h[k]? = some (.mapO (P5 hist) (AM out hist))) :
    bR Tryz.prog ⟨d,.lookup 72 x y true,ty,pos,af,g⟩ env h 0 (fun _ => .tup [.i (out.getD c (-1)),.b true]) (fun _ => []) := by
  obtain ⟨i,hi1,hi2⟩ := DS (out := out) hm;exact uE mB jL hx hy (gC _) hk (pY _) (eR _) (DR hnd) hi1 hi2
theorem NI {hist : List Nat} {out : List Int} {c : Int} (hm : kI c ∉ P5 hist) (hx : evu env x = some (.mp k)) (hy : evu env y = some (.i c)) (hk : h[k]? = some (.mapO (P5 hist) (AM out hist))) :
    bR Tryz.prog ⟨d,.lookup 72 x y true,ty,pos,af,g⟩ env h 0 (fun _ => .tup [.i 0,.b false]) (fun _ => []) :=
  sD mB jL T4 (fun _ _ _ => iI _) hx hy (gC _) hk (pY _) (eR _) hm
theorem NG {hist : List Nat} {out : List Int} {c : Nat} (hnd : hist.Nodup) (hm : c ∈ hist) (hx : evu env x = some (.mrow (P5 hist) (AM out hist))) (hy : evu env y = some (.i (c : Int))) :
    bR Tryz.prog ⟨d,.lookup 72 x y true,ty,pos,af,g⟩ env h 0 (fun _ => .tup [.i (out.getD c (-1)),.b true]) (fun _ => []) := by
  obtain ⟨i,hi1,hi2⟩ := DS (out := out) hm;exact oP mB jL hx hy (gC _) (pY _) (eR _) (DR hnd) hi1 hi2 rfl
theorem YR {hist : List Nat} {out : List Int} {c : Int} (hm : kI c ∉ P5 hist) (hx : evu env x = some (.mrow (P5 hist) (AM out hist))) (hy : evu env y = some (.i c)) :
    bR Tryz.prog ⟨d,.lookup 72 x y true,ty,pos,af,g⟩ env h 0 (fun _ => .tup [.i 0,.b false]) (fun _ => []) :=
  oO (zA := .i 0) mB jL T4 (fun _ _ _ => iI _) hx hy (gC _) (pY _) (eR _) hm
theorem P0 {hist : List Nat} {out : List Int} {c : Nat} (hnd : hist.Nodup) (hm : c ∈ hist) (hx : evu env x = some (.mp k)) (hy : evu env y = some (.i (c : Int))) (hk : h[k]? = some (.mapO (P5 hist) (AM out hist))) :
    bR Tryz.prog ⟨d,.lookup 72 x y false,ty,pos,af,g⟩ env h 0 (fun _ => .i (out.getD c (-1))) (fun _ => []) := by
  obtain ⟨i,hi1,hi2⟩ := DS (out := out) hm;exact gR mB jL hx hy (gC _) hk (pY _) (eR _) (DR hnd) hi1 hi2
theorem DL {hist : List Nat} {out : List Int} {c : Nat} (hnd : hist.Nodup) (hm : c ∈ hist) (hx : evu env x = some (.mrow (P5 hist) (AM out hist))) (hy : evu env y = some (.i (c : Int))) :
    bR Tryz.prog ⟨d,.lookup 72 x y false,ty,pos,af,g⟩ env h 0 (fun _ => .i (out.getD c (-1))) (fun _ => []) := by
  obtain ⟨i,hi1,hi2⟩ := DS (out := out) hm;exact R8 mB jL hx hy (gC _) (pY _) (eR _) (DR hnd) hi1 hi2 rfl
end
theorem E3 {α : Type} {F : Nat → Option α} {n : Nat} (h : ∀ i,i < n → F i = none) : (List.range n).findSome? F = none :=
  List.findSome?_eq_none_iff.2 fun i hi => h i (fC.1 hi)
theorem AF {α : Type} {F : Nat → Option α} {n i : Nat} {a : α} (hi : i < n) (h : ∀ j,j < i → F j = none) (ha : F i = some a) : (List.range n).findSome? F = some a := by
  induction n with
  | zero => omega
  | succ n ih =>
    rw [lO,List.findSome?_append];by_cases q : i < n
    · rw [ih q];rfl
    · obtain rfl : i = n := by omega
      rw [E3 h];simp [ha]
theorem zH2 (s : lN) (g : iL s.fl) {hist : List Nat} {out : List Int} (hnd : hist.Nodup) (hmem : ∀ c,c < s.fl.k.length → (c ∈ hist ↔ 0 ≤ out.getD c (-1))) (hle : ∀ c,c < s.fl.k.length → out.getD c (-1) ≤ s.fl.k.length) {c : Nat} (hc : c < s.fl.k.length) (hcm : c ∈ hist) :
    bQ Tryz.prog 81 [.agg (fS s),.mrow (P5 hist) (AM out hist),.i (c : Int)] [] (.i (oD s.fl out c : Int)) [] := by
  have hN := g.le;have h0 := (hmem c hc).1 hcm;have h1 := hle c hc;refine dD T Tryz.func81 rfl rfl rfl rfl ?_
  (repeat' (first|refine wS ?_|refine wB ?_|(refine rg 0 (bH (bN rfl rfl) rfl (aV ?_)))|(refine rg 1 (mV ?_))|refine nZ ?_));refine bV (X := {j : Nat // j ≤ 6 ∧ ∀ i,i < j → oT s.fl out c i = none}) (fun j => [(1,.mrow (P5 hist) (AM out hist)),(2,.i (c : Int)),(3,.ptr 0 0),(12,.i (j.1 : Int))]) (fun _ => [.cells (fS s)]) (fun j => 6 - j.1) ⟨0,by omega,fun i hi => by omega⟩ ⟨[0],rfl,⟨rfl,rfl,rfl,rfl,trivial⟩,⟨.inr rfl,trivial⟩,by decide,gL⟩ ?_
  rintro ⟨j,hj,hno⟩;dsimp only;by_cases hlt : j < 6
  · have cn := zF8 g c j;have next : oT s.fl out c j = none → ∀ i,i < j + 1 → oT s.fl out c i = none := fun h i hi => by
      by_cases q : i = j
      · rw [q];exact h
      · exact hno i (by omega)
    cases hm : JH s.fl c j with
    | none =>
      rw [hm] at cn;have hn := next (by unfold oT;rw [hm])
      (repeat' (first|refine wS ?_|refine wB ?_|refine wK ?_|refine wT ?_|refine wU ?_|(refine rg 2 (vV (aL rfl rfl (by omega)) ?_))|(refine rg 3 (mW rfl (aV ?_)))|(refine rg 4 (eK T rfl (eX rfl (vV (kC (cn)) (mW rfl (xW rfl (xW rfl (iZ ?_))))))))|(refine rg 5 (eX rfl (vV (by exact UE hnd rfl rfl) ?_));refine mW rfl (xW rfl (xW rfl (iZ ?_))))|(refine rg 6 (eX rfl (gF (pW rfl (mV ?_))));(iterate 6 refine gF ?_);refine pV ?_)|(refine rg 8 (vV (bP rfl rfl (by omega) (by omega)) (mV ?_)))|refine nZ ?_));all_goals exact ⟨⟨j + 1,hlt,hn⟩,by dsimp only;omega,[0],rfl,⟨rfl,rfl,rfl,rfl,trivial⟩,⟨.inr rfl,trivial⟩,by decide,gL⟩
    | some n =>
      rw [hm] at cn;have hn := TD g c j n hc hm;by_cases hkn : kn hist (n : Int) = true
      · have hnm : n ∈ hist := by unfold kn at hkn;simpa using (of_decide_eq_true hkn).2
        have hn0 := (hmem n hn).1 hnm;have hdv : dv hist out (n : Int) = out.getD n (-1) := by unfold dv;rw [if_pos hkn];rfl
        by_cases he : out.getD n (-1) = out.getD c (-1) - 1
        · have hq : oT s.fl out c j = some n := by unfold oT;rw [hm];simp only;rw [if_pos (by unfold E1;rw [decide_eq_true hn0,decide_eq_true he];rfl)]
          have hr : oD s.fl out c = n := by unfold oD;rw [AF hlt hno hq];rfl
          rw [hr]
          (repeat' (first|refine wS ?_|refine wB ?_|refine wK ?_|refine wR ?_|refine wT ?_|(refine rg 2 (vV (aL rfl rfl (by omega)) ?_))|(refine rg 3 (mW rfl (aV ?_)))|(refine rg 4 (eK T rfl (eX rfl (vV (kC (cn)) (mW rfl (xW rfl (xW rfl (iZ ?_))))))))|(refine rg 5 (eX rfl (vV (by exact NG (c := n) hnd hnm rfl rfl) ?_));refine mW rfl (xW rfl (xW rfl (iZ ?_))))|(refine rg 6 (eX rfl (yN rfl (pW rfl (mW rfl (yN rfl (yN rfl (yN rfl (yV (by exact DL hnd hcm rfl rfl) ?_))))))));refine yV (fN rfl rfl (by omega) (by omega)) (yV (gH rfl rfl (by omega)) (pV ?_)))|(refine rg 7 (mW rfl (aV ?_)))|refine nZ ?_));all_goals first | (exfalso;omega) | exact rQ
        · have hn := next (by unfold oT;rw [hm];simp only;rw [if_neg (by unfold E1;rw [decide_eq_false he,Bool.and_false];decide)])
          (repeat' (first|refine wS ?_|refine wB ?_|refine wK ?_|refine wT ?_|refine wU ?_|(refine rg 2 (vV (aL rfl rfl (by omega)) ?_))|(refine rg 3 (mW rfl (aV ?_)))|(refine rg 4 (eK T rfl (eX rfl (vV (kC (cn)) (mW rfl (xW rfl (xW rfl (iZ ?_))))))))|(refine rg 5 (eX rfl (vV (by exact NG (c := n) hnd hnm rfl rfl) ?_));refine mW rfl (xW rfl (xW rfl (iZ ?_))))|(refine rg 6 (eX rfl (yN rfl (pW rfl (mW rfl (yN rfl (yN rfl (yN rfl (yV (by exact DL hnd hcm rfl rfl) ?_))))))));refine yV (fN rfl rfl (by omega) (by omega)) (yV (eN rfl rfl (by omega)) (pV ?_)))|(refine rg 8 (vV (bP rfl rfl (by omega) (by omega)) (mV ?_)))|refine nZ ?_));all_goals first | (exfalso;omega) | exact ⟨⟨j + 1,hlt,hn⟩,by dsimp only;omega,[0],rfl,⟨rfl,rfl,rfl,rfl,trivial⟩,⟨.inr rfl,trivial⟩,by decide,gL⟩
      · have hkn : kn hist (n : Int) = false := by simpa using hkn
        have hnm : n ∉ hist := by unfold kn at hkn;simpa using of_decide_eq_false hkn
        have hni : kI (n : Int) ∉ P5 hist := DQ fun c' e hm' => hnm (by rw [show n = c' by omega];exact hm')
        have hn := next (by unfold oT;rw [hm];simp only;rw [if_neg (by unfold E1;rw [decide_eq_false (fun q => hnm ((hmem n hn).2 q)),tB];decide)])
        (repeat' (first|refine wS ?_|refine wB ?_|refine wK ?_|refine wT ?_|refine wU ?_|(refine rg 2 (vV (aL rfl rfl (by omega)) ?_))|(refine rg 3 (mW rfl (aV ?_)))|(refine rg 4 (eK T rfl (eX rfl (vV (kC (cn)) (mW rfl (xW rfl (xW rfl (iZ ?_))))))))|(refine rg 5 (eX rfl (vV (by exact YR (c := (n : Int)) hni rfl rfl) ?_));refine mW rfl (xW rfl (xW rfl (iZ ?_))))|(refine rg 6 (eX rfl (yN rfl (pW rfl (mV ?_))));(iterate 6 refine gF ?_);refine pV ?_)|(refine rg 8 (vV (bP rfl rfl (by omega) (by omega)) (mV ?_)))|refine nZ ?_));all_goals first | (exfalso;omega) | exact ⟨⟨j + 1,hlt,hn⟩,by dsimp only;omega,[0],rfl,⟨rfl,rfl,rfl,rfl,trivial⟩,⟨.inr rfl,trivial⟩,by decide,gL⟩
  · obtain rfl : j = 6 := by omega
    have hr : oD s.fl out c = c := by unfold oD;rw [E3 hno];rfl
    rw [hr]
    (repeat' (first|refine wS ?_|refine wR ?_|refine wE ?_|refine wU ?_|(refine rg 2 (vV (bG rfl rfl (by omega)) ?_))|(refine rg 9 (mW rfl (aV ?_)))|refine nZ ?_));all_goals first | (exfalso;omega) | exact rQ
end Go.Proofs.YtdmajnjoeidgeaaGreat
namespace Go.Proofs.YtdmajnjoeidgeaaGreat
open Go Go.Ab Go.Fl Go.Re Go.Ln
set_option maxHeartbeats 4000000
def ZY (f : jD) (c : Nat) : Bool := decide (f.k.getD c 0 = 4) || decide (f.k.getD c 0 = 5)
theorem jG {f : jD} {x : Int} : x ∈ bO f ↔ 0 ≤ x ∧ x < f.k.length ∧ ZY f x.toNat = true := by
  unfold bO ZY;rw [PL (tT _ _ _) (tT _ _ _)];simp only [vR,D5,decide_eq_true_eq];omega
theorem LZ {f : jD} {c : Nat} : c ∈ pM f ↔ c < f.k.length ∧ f.k.getD c 0 ≠ 0 ∧ ZY f c = false := by
  unfold pM;rw [A2];unfold GM;simp only [aT,decide_eq_true_eq,S8,decide_eq_false_iff_not,jG,aX];constructor
  · rintro ⟨h1,h2,h3⟩;exact ⟨h1,h2,by cases h : ZY f c with | false => rfl | true => exact absurd ⟨by omega,by omega,h⟩ h3⟩
  · rintro ⟨h1,h2,h3⟩;exact ⟨h1,h2,fun h => by rw [h3] at h;exact absurd h.2.2 (by decide)⟩
def lT (f : jD) (c : Int) : List Int := if c ∈ bO f ∧ 0 ≤ lG f c.toNat then pO f c.toNat else []
theorem LU {f : jD} (g : iL f) : ∀ (n c : Nat), c < f.k.length → lG f c = n → ∀ i, i ≤ n → ∃ b : Nat, ((c : Int) :: C8 f (lZ f) n c)[i]? = some (b : Int) ∧ b < f.k.length ∧ lG f b = ((n - i : Nat) : Int) ∧ (i = 0 → b = c) ∧ (0 < i → ∃ a d : Nat, ((c : Int) :: C8 f (lZ f) n c)[i - 1]? = some (a : Int) ∧ d < 6 ∧ JH f a d = some b ∧ a < f.k.length)
  | 0, c, hc, h, i, hi => ⟨c, by obtain rfl : i = 0 := by omega
                                 rfl,hc,by simpa using h,fun _ => rfl,fun h => by omega⟩
  | n + 1,c,hc,h,i,hi => by
    have hF := (U9 g).1;have hdn := P4 g hF (c := c) hc (by show 0 < lG f c;omega)
    obtain ⟨h1,h2,d,h3,h4⟩ := hdn;cases i with
    | zero => exact ⟨c,rfl,hc,by simpa using h,fun _ => rfl,fun h => by omega⟩
    | succ i =>
      obtain ⟨b,b1,b2,b3,b4,b5⟩ := LU g n (oD f (lZ f) c) h1 (by show (lZ f).getD _ (-1) = _;rw [h2];show lG f c - 1 = _;omega) i (by omega)
      refine ⟨b,by unfold C8;rw [jK];exact b1,b2,by rw [b3,Nat.add_sub_add_right],fun h => by omega,fun _ => ?_⟩
      cases i with
      | zero =>
        rw [b4 rfl];exact ⟨c,d,rfl,h3,h4,hc⟩
      | succ i =>
        obtain ⟨a,d',a1,a2,a3,a4⟩ := b5 (by omega)
        refine ⟨a,d',?_,a2,a3,a4⟩;unfold C8;rw [show i + 1 + 1 - 1 = i + 1 by omega,jK]
        exact a1
theorem rE (f : jD) (c : Nat) : (pO f c).length = (lG f c).toNat + 1 := by unfold pO;rw [List.length_cons,W1]
theorem MO {f : jD} (g : iL f) {c : Nat} (hc : c < f.k.length) (h : 0 ≤ lG f c) {i : Nat} (hi : i < (pO f c).length) : ∃ b : Nat,(pO f c)[i]? = some (b : Int) ∧ b < f.k.length ∧ lG f b = lG f c - i ∧ (i = 0 → b = c) ∧ (0 < i → ∃ a d : Nat,(pO f c)[i - 1]? = some (a : Int) ∧ d < 6 ∧ JH f a d = some b ∧ a < f.k.length) := by
  rw [rE] at hi;obtain ⟨b,h1,h2,h3,h4,h5⟩ := LU g (lG f c).toNat c hc (by omega) i (by omega)
  exact ⟨b,h1,h2,by rw [h3,Int.ofNat_sub (Nat.lt_succ_iff.1 hi),hO h],h4,h5⟩
end Go.Proofs.YtdmajnjoeidgeaaGreat
namespace Go.Fl
end Go.Fl
namespace Go.Proofs.YtdmajnjoeidgeaaGreat
open Go Go.Ab Go.Fl Go.Re Go.Ln
set_option maxHeartbeats 4000000
theorem P3 {N : Nat} {mv : MV} {ok : Nat → Bool} : ∀ (k : Nat) (l : List Nat),l.length = k → (∀ c,c ∈ l → c < N) → L9 N (pD l (pG N ok)) := by
  intro k
  induction k with
  | zero =>
    intro l h _;obtain rfl : l = [] := bW h;refine ⟨dK,(fun c hc => by cases hc),fun c hc => ?_⟩
    show c ∈ ([] : List Nat) ↔ 0 ≤ (List.replicate N (-1 : Int)).getD c (-1);simp [aH,kY,hc]
  | succ k ih =>
    intro l h hl;obtain ⟨l',c,rfl⟩ : ∃ l' c,l = l' ++ [c] := ⟨l.dropLast,l.getLast (by intro e;rw [e] at h;cases h),(List.dropLast_concat_getLast _).symm⟩
    rw [F5];have hl' : ∀ x,x ∈ l' → x < N := fun x hx => hl x (by simp [hx])
    have h1 := ih l' (by simpa using h) hl'
    obtain ⟨s1,_,_⟩ := oI (N := N) (mv := mv) (ok := ok) l' hl';have e : (pD l' (pG N ok)).1 = kR l' (iX N ok) := yC _ _;have hc := hl c (by simp)
    exact h1.reach hc (by rw [e];exact s1.inv.lu) (qS _) (fun ho => by rw [e] at ho ⊢;exact ((s1.inv.opn c hc).1 ho).2)
theorem PY {N : Nat} {mv : MV} {ok : Nat → Bool} : ∀ (k : Nat) (l : List Nat),l.length = k → (∀ c,c ∈ l → c < N ∧ ok c = true) → l.Nodup → (pD l (pG N ok)).2 = l ∧ (pD l (pG N ok)).1.q = l := by
  intro k
  induction k with
  | zero =>
    intro l h _ _;obtain rfl : l = [] := bW h;exact ⟨rfl,rfl⟩
  | succ k ih =>
    intro l h hl hnd;obtain ⟨l',c,rfl⟩ : ∃ l' c,l = l' ++ [c] := ⟨l.dropLast,l.getLast (by intro e;rw [e] at h;cases h),(List.dropLast_concat_getLast _).symm⟩
    rw [F5];have hl' : ∀ x,x ∈ l' → x < N := fun x hx => (hl x (by simp [hx])).1
    rw [fI] at hnd;obtain ⟨h1,h2⟩ := ih l' (by simpa using h) (fun x hx => hl x (by simp [hx])) hnd.1
    have hi := P3 (N := N) (mv := mv) (ok := ok) _ l' rfl hl';obtain ⟨s1,_,_⟩ := oI (N := N) (mv := mv) (ok := ok) l' hl';have e : (pD l' (pG N ok)).1 = kR l' (iX N ok) := yC _ _;have hc := hl c (by simp)
    have hno : c ∉ (pD l' (pG N ok)).2 := by rw [h1];exact fun hm => hnd.2.2 c hm c (by simp) rfl
    have hop : (pD l' (pG N ok)).1.op.getD c false = true := by
      rw [e];refine (s1.inv.opn c hc.1).2 ⟨hc.2,?_⟩;have := mt (hi.mem c hc.1).2 hno;rw [e] at this;omega
    unfold xO;rw [if_pos hop,h1];exact ⟨rfl,by simp only;rw [h2]⟩
theorem PX {N : Nat} {mv : MV} {ok : Nat → Bool} {l : List Nat} (hl : ∀ c,c ∈ l → c < N ∧ ok c = true) (hnd : l.Nodup) : ∀ c,c ∈ l → (pD l (pG N ok)).1.out.getD c (-1) = 0 := fun c hc => by
  obtain ⟨s1,_,_⟩ := oI (N := N) (mv := mv) (ok := ok) l (fun x hx => (hl x hx).1);have e : (pD l (pG N ok)).1 = kR l (iX N ok) := yC _ _;rw [e];exact s1.all c (hl c hc).1 (hl c hc).2 hc
abbrev z0 (l : List Nat) : List AV := l.map fun _ => AV.i 0
theorem zK5 {l : List Nat} {out : List Int} (h : ∀ c,c ∈ l → out.getD c (-1) = 0) : AM out l = z0 l := by
  refine List.map_congr_left fun c hc => ?_
  rw [h c hc]
theorem WV (f : jD) (W : List Int) (n : Nat) : (rW f W n).Nodup := List.nodup_range.filter _
theorem RN (f : jD) (W : List Int) (n : Nat) : (rW f W n).length ≤ n := by
  unfold rW;exact bU (jB _ _) (by simp)
theorem V9 : ∀ l : List Nat, AV.idfL (z0 l) = true
  | [] => rfl
  | _ :: l => V9 l
theorem ZC {out : List Int} {n : Nat} {v : Int} {hist : List Nat} (hn : n ∉ hist) (hl : n < out.length) : AM out hist ++ [AV.i v] = AM (out.set n v) (hist ++ [n]) := by
  rw [AM,AM,cV];congr 1
  · refine List.map_congr_left fun c hc => ?_
    rw [nQ,if_neg (fun q => hn (by rw [q.1];exact hc))]
  · rw [List.map_cons,List.map_nil,nQ,if_pos ⟨rfl,hl⟩]
theorem ZF {n : Nat} {hist : List Nat} : P5 hist ++ [kI (n : Int)] = P5 (hist ++ [n]) := by simp
end Go.Proofs.YtdmajnjoeidgeaaGreat
namespace Go.Ln
def D7 (w : List Int) : Int → List Int → Int
  | n,[] => n
  | n,c :: r => if 0 ≤ c ∧ c < w.length ∧ w.getD c.toNat (-1) ≠ -1 then D7 w (max n (w.getD c.toNat (-1))) r else -1
def qG (w l : List Int) : Int := D7 w 0 (l.drop 1)
abbrev fR := Int × List Int × List Int
def XG (x : fR) (b : Int) (w : List Int) : Int × Int × Int :=
  if qG w x.2.1 < 0 ∧ qG w x.2.2 < 0 then (0,0,14)
  else if qG w x.2.1 < 0 ∨ (0 ≤ qG w x.2.2 ∧ qG w x.2.2 < qG w x.2.1) then (if b < qG w x.2.2 then (1,qG w x.2.2,20) else (1,qG w x.2.2,0))
  else (if b < qG w x.2.1 then (0,qG w x.2.1,20) else (0,qG w x.2.1,0))
def BT (l : List fR) (b c : Int) (w : List Int) : Int × Int × Int := match l.find? (fun x => decide (x.1 = c)) with
  | none => (0,0,4)
  | some x => XG x b w
theorem M9 {w : List Int} {n c : Int} {r : List Int} : D7 w n (c :: r) = if 0 ≤ c ∧ c < w.length ∧ w.getD c.toNat (-1) ≠ -1 then D7 w (max n (w.getD c.toNat (-1))) r else -1 := rfl
theorem EK {w : List Int} : ∀ {t : List Int} {n : Int}, -1 ≤ n → -1 ≤ D7 w n t
  | [],n,h => h
  | c :: r,n,h => by
    rw [M9];split
    · exact EK (by omega)
    · omega
theorem yW.mem {g : wV} {Te : List Edge} : ∀ {l : List Int} {c x : Int}, yW g Te c l → x ∈ c :: l → x = g.st ∨ ∃ p, (p, x) ∈ Te
  | [],c,x,h,hx => by simp at hx;subst hx;exact .inl h
  | p :: l,c,x,h,hx => by
    rcases bL.1 hx with rfl | hx
    · exact .inr ⟨p,h.2.1⟩
    · exact yW.mem h.2.2 hx
end Go.Ln
namespace Go.Proofs.YtdmajnjoeidgeaaGreat
open Go Go.Ab Go.Fl Go.Re Go.Ln Go.MapKept Go.Shelf
attribute [local irreducible] VC AW bR bQ fT BI
set_option maxHeartbeats 4000000
shelf_lay Lays.n112 Nm 112 at Tryz as laysReverse
theorem OW (l : List Int) (hl : l.length ≤ 1000000) : bQ Tryz.prog 79 [.sl 0 0 l.length 1] [.arr (aI l) 1] (.tup []) [.arr (aI l.reverse) 1] :=
  CD ⟨_,Tryz.func79,by kernel_rfl,by kernel_rfl⟩ (fun blk off cap zs w h1 h2 => Any.slices_Reverse_int laysReverse blk off cap zs w h1 h2) (fun p cap w => Any.slices_Reverse_int_empty laysReverse p cap w) l [] (by simpa using hl) rfl
def GV (w : List (List Int)) : List (List AV) := w.map fun c => [AV.rowE (aI c) 1]
theorem ME (w : List (List Int)) : ∀ e,e ∈ GV w → e.length = 1 := by
  intro e he;obtain ⟨c,_,rfl⟩ := aQ.1 he;rfl
theorem X1 (w : List (List Int)) : (GV w).length = w.length := by simp [GV]
theorem SA (w : List (List Int)) (c : List Int) : GV w ++ [[AV.rowE (aI c) 1]] = GV (w ++ [c]) := by simp [GV]
theorem GU (w : List (List Int)) : ∀ e,e ∈ GV w → AV.idfL e = true := by
  intro e he;obtain ⟨c,_,rfl⟩ := aQ.1 he;simp only [AV.idfL,AV.idf,Bool.and_true]
theorem B1 {h : Hp} {i : Nat} {θ : Nat → Nat} {es : List (List AV)} {w : List (List Int)} (hk : h[i]? = some (.arr es 1)) (e : es = GV w) : h[i]? = some ((AB.arr (GV w) 1).map θ) := by
  rw [hk,e];exact (congrArg (fun x => some (AB.arr x 1)) (eU θ (GU w))).symm
theorem WZ {w : List (List Int)} {c : List Int} {k : Nat} (hk : k = w.length) : (((GV w).drop 0).take k ++ [[AV.rowE (aI c) 1]]) = GV (w ++ [c]) := by
  rw [fJ,bC (by rw [X1];omega),SA]
theorem UH {s : lN} {W : List Int} {st : Int} {k : Nat} {Te : List iC} (h : mF (iN s W st) k Te) : Te.length ≤ W.length := by
  have h1 : (Te.map (·.2)).Nodup := sT h.nd fun x y hx hy e => by
    obtain ⟨a,b⟩ := x;obtain ⟨a',b'⟩ := y;simp only at e;subst e;have := A5 h.nd (h.le1 b) hx hy;subst this;rfl
  have := kA h1 (m := W) fun x hx => by
    obtain ⟨e,he,rfl⟩ := aQ.1 hx;exact (nT.1 (h.val e he).1).1
  simpa using this
theorem KO {s : lN} {W : List Int} {st : Int} {k : Nat} {Te : List iC} (h : mF (iN s W st) k Te) {e : iC} (he : e ∈ Te) : e.2 ∈ W ∧ (e.1 ∈ W ∨ e.1 = st) := by
  refine ⟨(nT.1 (h.val e he).1).1,?_⟩;by_cases q : e.1 = st
  · exact .inr q
  · left;have hx := (h.val e he).2.2;have h0 : 0 < O8 Te e.1 := by rw [← h.bal e.1 q hx];exact I0.2 ⟨e.2,he⟩
    obtain ⟨p,hp⟩ := vW.1 h0;exact (nT.1 (h.val _ hp).1).1
theorem YI {s : lN} {W : List Int} {st : Int} {k : Nat} {Te : List iC} (h : mF (iN s W st) k Te) {c : Int} {l : List Int} (hl : yW (iN s W st) Te c l) : (c :: l).length ≤ W.length + 1 := by
  have := kA (hl.nodup h) (m := st :: W) fun x hx => by
    rcases hl.mem hx with e | ⟨p,hp⟩
    · rw [e];exact dC
    · exact .tail _ (KO h hp).1
  simpa using this
def zJ9 (Te : List iC) (d : List Nat) : List iC := d.filterMap fun i => Te[i]?
theorem UP {Te : List iC} {d : List Nat} {i : Nat} {e : iC} (h : Te[i]? = some e) : zJ9 Te (d ++ [i]) = zJ9 Te d ++ [e] := by
  unfold zJ9;rw [jC];simp [h]
theorem ZA (Te : List iC) (d : List Nat) : (zJ9 Te d).length ≤ d.length := oZ _ _
theorem ZB {Te : List iC} {d : List Nat} (hd : d.Nodup) (hlt : ∀ i,i ∈ d → i < Te.length) (hall : ∀ i,i < Te.length → i ∈ d) : (zJ9 Te d).Perm Te := by
  have hp : d.Perm (List.range Te.length) := (L7 hd List.nodup_range).2 fun i => by
    rw [fC];exact ⟨hlt i,hall i⟩
  have h1 := hp.filterMap fun i => Te[i]?
  have h2 : (List.range Te.length).filterMap (fun i => Te[i]?) = Te := by
    have key : ∀ n,n ≤ Te.length → (List.range n).filterMap (fun i => Te[i]?) = Te.take n := by
      intro n
      induction n with
      | zero => intro _;simp
      | succ n ih =>
        intro hn;rw [lO,jC,ih (by omega),aJ (by omega : n < Te.length)]
        simp [aB (by omega : n < Te.length)]
    rw [key _ (aY _),dU]
  rw [h2] at h1;exact h1
def yH (s : lN) (Te : List iC) (d : List Nat) : List Int := ((zJ9 Te d).filter fun e => sW s.fl e.2).map (·.2)
theorem QD {s : lN} {Te : List iC} {d : List Nat} {i : Nat} {a c : Int} (h : Te[i]? = some (a,c)) : yH s Te (d ++ [i]) = if sW s.fl c = true then yH s Te d ++ [c] else yH s Te d := by
  unfold yH;rw [UP h,qZ,cV];by_cases q : sW s.fl c = true
  · rw [if_pos q,kZ,if_pos (by simpa using q)];rfl
  · rw [if_neg q,kZ,if_neg (by simpa using q)];simp
theorem UN (s : lN) (Te : List iC) (d : List Nat) : (yH s Te d).length ≤ d.length := by
  unfold yH;rw [dY];exact bU (jB _ _) (ZA Te d)
structure WE (s : lN) (W : List Int) (st : Int) (k : Nat) (Te : List iC) (es : List Int) : Prop where
  nd : es.Nodup
  len : es.length = k
  ok : ∀ e,e ∈ es → sW s.fl e = true ∧ ∃ p,(p,e) ∈ Te
theorem YX {s : lN} {W : List Int} {st : Int} {k : Nat} {Te : List iC} (h : mF (iN s W st) k Te) {d : List Nat} (hd : d.Nodup) (hlt : ∀ i,i ∈ d → i < Te.length) (hall : ∀ i,i < Te.length → i ∈ d) : WE s W st k Te (jY (yH s Te d)) := by
  have hp := ZB hd hlt hall;have hs : (jY (yH s Te d)).Perm (yH s Te d) := List.mergeSort_perm _ _;refine ⟨hs.nodup_iff.2 ?_,?_,fun e he => ?_⟩
  · unfold yH;refine sT ((hp.nodup_iff.2 h.nd).filter _) fun x y hx hy e => ?_
    have hx := hp.mem_iff.1 (fZ.1 hx).1;have hy := hp.mem_iff.1 (fZ.1 hy).1;obtain ⟨a,b⟩ := x;obtain ⟨a',b'⟩ := y;simp only at e;subst e;have := A5 h.nd (h.le1 b) hx hy;subst this;rfl
  · rw [hs.length_eq];unfold yH;rw [dY,← rT,hp.countP_eq];exact h.ends
  · have he := hs.mem_iff.1 he;unfold yH at he;obtain ⟨x,hx,rfl⟩ := aQ.1 he;obtain ⟨h1,h2⟩ := fZ.1 hx;exact ⟨h2,x.1,hp.mem_iff.1 h1⟩
structure LG (s : lN) (W : List Int) (st : Int) (k : Nat) (Te : List iC) (es : List Int) (bF : Int → List Int) : Prop where
  nd : es.Nodup
  len : es.length = k
  ok : ∀ e,e ∈ es → sW s.fl e = true ∧ yW (iN s W st) Te e (bF e)
theorem WK {s : lN} {W : List Int} {st : Int} {k : Nat} {Te : List iC} {es : List Int} (g : iL s.fl) (h : mF (iN s W st) k Te) (he : WE s W st k Te es) : ∃ bF,LG s W st k Te es bF := by
  classical
  refine ⟨fun e => if h : ∃ b,yW (iN s W st) Te e b then Classical.choose h else [],he.nd,he.len,fun e hm => ?_⟩
  obtain ⟨h1,p,hp⟩ := he.ok e hm;have hb := h.back (H1 g W) h1 hp;exact ⟨h1,by rw [dif_pos hb];exact Classical.choose_spec hb⟩
def zP (bF : Int → List Int) (e : Int) : List Int := (e :: bF e).reverse
theorem zQ8 : ∀ i : Nat,i < 3 → ([0,1,2,4] : List Nat)[i]? = some i := by decide
theorem zQ7 : ∀ i : Nat,i < 3 → ([0,1,2,3,7] : List Nat)[i]? = some i := by decide
theorem zQ6 : ∀ i : Nat,i < 3 → ([0,1,2,3,4,7] : List Nat)[i]? = some i := by decide
theorem zM2 : ∀ i : Nat,i < 3 → ([0,1,2,3,4] : List Nat)[i]? = some i := by decide
theorem zR0 : ∀ i : Nat,i < 3 → ([0,1,2,7,4] : List Nat)[i]? = some i := by decide
theorem zQ9 : ∀ i : Nat,i < 3 → ([0,1,2,3,5] : List Nat)[i]? = some i := by decide
theorem zC7 (s : lN) (g : iL s.fl) (W : List Int) (hWl : W.length ≤ 100000) (hWr : ∀ x,x ∈ W → 0 ≤ x ∧ x < s.fl.k.length) (st : Int) {k : Nat} {Te : List iC} {U : List (Int × Int)} (hF : mF (iN s W st) k Te) (hU : qF Te (kF U)) (hUn : (zJ U).Nodup) :
    fT Tryz.prog 36 [.ptr 0 0] (zQ4 s W st Te U) (fun r o => ∃ es bF,LG s W st k Te es bF ∧ r = .sl 3 0 es.length 1 ∧ o = [.cells (D0 s W st (.mp 1) (.mp 2)),.mapO (Te.map kE) (BP Te),.mapO (zJ U) (U6 U),.arr (GV (es.map (zP bF))) 1]) := by
  have hTl := UH hF;refine mM T Tryz.func36 rfl rfl rfl rfl ?_
  (repeat' (first|refine wS ?_|(refine rg 0 (aV ?_))|(refine rg 1 (aV ?_))|refine nZ ?_));refine rR 3 1 rfl (by decide) ?_
  refine AS 1 rfl fun bs ck hb1' hb2' hb3' hb4' => ?_
  dsimp only [zP6,zP5,List.append_nil,zP4,zP3,zP2,zP1,zP0,zO9,gQ,gJ,gO,iS,rB,jV,mL,mJ,mI,mK,jU,jX,jT,jW,Nat.zero_add,zO8,Nat.reduceAdd,zO7,zO6];have hbl : bs.length = Te.length := by rw [hb1'];simp
  (repeat' (first|refine wB ?_|(refine rg 2 (mW rfl (nV ?_));refine eK T rfl (bH (by exact AC C3 rfl rfl) rfl ?_))|refine nZ ?_));refine bV (X := {d : List Nat // d.Nodup ∧ ∀ i,i ∈ d → i < Te.length}) (fun d => [(0,.ptr 0 0),(3,.sl 3 0 (yH s Te d.1).length 1),(13,.ptr 4 0)]) (fun d => [.cells (D0 s W st (.mp 1) (.mp 2)),.mapB (Te.map kE) (BP Te) bs ck,.mapO (zJ U) (U6 U),.arr (aI (yH s Te d.1)) 1,.iter 1 ck (Q8 bs d.1) ck]) (fun d => Te.length - d.1.length) ⟨[],dK,fun i hi => by cases hi⟩ ⟨[0,1,2,3,4],rfl,(by repeat first|exact trivial|refine ⟨rfl,?_⟩),⟨.inr rfl,.inr (uK rfl (iW _)),.inr (aD rfl rfl rfl (iD _)),.inr rfl,.inr rfl,trivial⟩,by decide,zM2⟩ ?_
  rintro ⟨d,hnd,hlt⟩;dsimp only;have hdl := xC hnd hlt;have hel := UN s Te d
  repeat' (first|refine wS ?_|refine wB ?_|refine wK ?_|refine wE ?_|refine wT ?_|refine wU ?_|(refine rg 3 ?_;refine EH rfl rfl rfl hb4' (aY _) rfl (fun hend=>E5 1 rfl ?_) (fun i kv v b g1 g1' g2 g3=>?_);(all_goals (refine xV ?_)))|refine nZ ?_)
  · have hall := W9 hb3' (by rw [hbl];exact hlt) hend
    rw [hbl] at hall;have heo := YX hF hnd hlt hall;obtain ⟨bF,hw⟩ := WK g hF heo;clear heo;have hsl := qA (yH s Te d);have hsc := JQ (yH s Te d) (by omega)
    generalize hes : jY (yH s Te d) = es at *;rw [← hsl] at hsc ⊢
    (repeat' (first|refine wS ?_|(refine rg 7 (mW rfl (xB [3] rfl rfl hsc rfl rfl (by decide) ⟨.inr (aC rfl rfl (aM _)),trivial⟩ (by simp) rfl ?_)))|(refine rg 8 (aV ?_))|refine nZ ?_));refine rR 5 1 rfl (by decide) ?_
    have hel2 : es.length ≤ W.length := by omega
    have hesl : (aI es).length = es.length := aR _
    (repeat' (first|refine wB ?_|(refine rg 9 (mW rfl (qW T rfl (mV ?_))))|refine nZ ?_));refine bV (X := {j : Nat // j ≤ es.length}) (fun j => [(0,.ptr 0 0),(5,.sl 4 0 j.1 1),(32,.sl 3 0 es.length 1),(33,.i es.length),(34,.i (j.1 : Int))]) (fun j => [.cells (D0 s W st (.mp 1) (.mp 2)),.mapO (Te.map kE) (BP Te),.mapO (zJ U) (U6 U),.arr (aI es) 1,.arr (GV ((es.take j.1).map (zP bF))) 1]) (fun j => es.length - j.1) ⟨0,by omega⟩ ⟨[0,1,2,3,5],rfl,(by repeat first|exact trivial|refine ⟨rfl,?_⟩),⟨.inr rfl,.inr (by first|exact aD rfl rfl rfl (iW _)|exact aD rfl rfl (dZ _ _ (iW _)) (iW _)),.inr (by first|exact aD rfl rfl rfl (iD _)|exact aD rfl rfl (dZ _ _ (iD _)) (iD _)),.inr (aC rfl (eU _ (aM _)) (aM _)),.inr (B1 rfl rfl),trivial⟩,by decide,zQ9⟩ ?_
    rintro ⟨j,hj⟩;dsimp only;by_cases hjl : j < es.length
    · have htk := aJ hjl;have hwe := hw.ok es[j] (dB hjl);have q1 : (aI es)[0 + (j : Int).toNat]? = some [AV.i es[j]] := by rw [Nat.zero_add,aX];exact iF hjl
      generalize es[j] = e at *;have hll := YI hF hwe.2;have hwr : zP bF e = (e :: bF e).reverse := rfl
      (repeat' (first|refine wS ?_|refine wB ?_|refine wK ?_|refine wT ?_|(refine rg 10 (vV (aL rfl rfl (by omega)) ?_))|(refine rg 11 (vV (bZ T rfl rfl rfl rfl rfl (by omega) (by omega)) (vV (cJ T rfl rfl (eO rfl q1) rfl) (aV ?_))))|(refine rg 12 (mW rfl (bH (by exact aS T rfl rfl (by decide) (by decide) rfl rfl rfl) rfl ?_));refine aV ?_)|refine nZ ?_));refine bV (X := {p : List Int × Int × List Int // yW (iN s W st) Te p.2.1 p.2.2 ∧ p.1 ++ p.2.2 = e :: bF e}) (fun p => [(0,.ptr 0 0),(5,.sl 4 0 j 1),(7,.i p.1.2.1),(8,.sl 5 0 p.1.1.length 1),(32,.sl 3 0 es.length 1),(33,.i es.length),(34,.i (j : Int))]) (fun p => [.cells (D0 s W st (.mp 1) (.mp 2)),.mapO (Te.map kE) (BP Te),.mapO (zJ U) (U6 U),.arr (aI es) 1,.arr (GV ((es.take j).map (zP bF))) 1,.arr (aI p.1.1) 1]) (fun p => p.1.2.2.length) ⟨([e],e,bF e),hwe.2,rfl⟩ ⟨[0,1,2,3,4,5],rfl,(by repeat first|exact trivial|refine ⟨rfl,?_⟩),⟨.inr rfl,.inr (by first|exact aD rfl rfl rfl (iW _)|exact aD rfl rfl (dZ _ _ (iW _)) (iW _)),.inr (by first|exact aD rfl rfl rfl (iD _)|exact aD rfl rfl (dZ _ _ (iD _)) (iD _)),.inr (aC rfl rfl (aM _)),.inr (B1 rfl rfl),.inr (aC rfl rfl (aM _)),trivial⟩,by decide,YH⟩ ?_
      rintro ⟨⟨pre,c,b'⟩,hL,hpre⟩;dsimp only;dsimp only at hL hpre;have hpl : pre.length ≤ W.length + 1 := by have := congrArg List.length hpre;rw [aF] at this;omega
      match b',hL,hpre with
      | [],hL,hpre =>
        have hcs : c = st := hL;rw [List.append_nil] at hpre;subst hpre;have hrc := OW (e :: bF e) (by omega)
        have hrl : (aI (e :: bF e).reverse).length = (e :: bF e).length := by rw [aR,List.length_reverse]
        (repeat' (first|refine wS ?_|refine wE ?_|refine wU ?_|(refine rg 13 (eX rfl (nV ?_));refine eK T rfl (vV (gE rfl rfl hcs) ?_))|(refine rg 16 (mW rfl (xB [5] rfl rfl hrc rfl rfl (by decide) ⟨.inr (aC rfl rfl (aM _)),trivial⟩ (by simp) rfl ?_)))|refine nZ ?_));refine F9 (es := aI (e :: bF e).reverse) 8 rfl (congrArg (fun l => some (AB.arr l 1)) (eU _ (aM _))) (by simp) (kP (aM _)) ?_
        have hrw := X1 ((es.take j).map (zP bF));rw [dY,dQ,EB (by omega)] at hrw
        (repeat' (first|(refine rg 17 (eX rfl (bH (by exact aS T rfl rfl (by decide) (by decide) rfl rfl rfl) rfl ?_));refine eL T rfl rfl rfl rfl rfl rfl (by rw [hrw];omega) (iU.whole rfl rfl) rfl (by simp;omega) (by simp;omega) rfl ?_;refine aV ?_)|(refine rg 18 (vV (bP rfl rfl (by omega) (by omega)) (mV ?_)))|refine nZ ?_));all_goals exact ⟨⟨j + 1,hjl⟩,by dsimp only;omega,[0,1,2,3,7],rfl,(by repeat first|exact trivial|refine ⟨rfl,?_⟩),⟨.inr rfl,.inr (aD rfl rfl rfl (iW _)),.inr (aD rfl rfl rfl (iD _)),.inr (aC rfl rfl (aM _)),.inr (B1 rfl (by dsimp only;rw [htk,cV,List.map_cons,List.map_nil,← hwr];exact WZ (by rw [dY,dQ,EB (by omega)]))),trivial⟩,by decide,zQ7⟩
      | p :: b'',hL,hpre =>
        obtain ⟨hcs,hpc,hL2⟩ := hL;obtain ⟨i,hi1,hi2⟩ := xR ((hU c p).2 hpc)
        (repeat' (first|refine wS ?_|refine wB ?_|refine wK ?_|refine wT ?_|(refine rg 13 (eX rfl (nV ?_));refine eK T rfl (vV (lC rfl rfl hcs) ?_))|(refine rg 14 (mW rfl (nV ?_));refine eK T rfl (mW rfl (vV (by exact gR mB jL rfl rfl (gC _) rfl (tS _) (eR _) hUn hi1 hi2) ?_));refine aV ?_)|(refine rg 15 (eX rfl (bH (by exact aS T rfl rfl (by decide) (by decide) rfl rfl rfl) rfl ?_));refine eL T rfl rfl rfl rfl rfl rfl (by simp) (iU.whole rfl rfl) rfl (by simp;omega) (by simp;omega) rfl ?_;refine aV ?_)|refine nZ ?_));all_goals exact ⟨⟨(pre ++ [p],p,b''),hL2,by dsimp only;rw [fL];exact hpre⟩,by dsimp only;rw [List.length_cons];omega,[0,1,2,3,4,7],rfl,⟨rfl,rfl,rfl,by dsimp only;rw [aF];rfl,rfl,rfl,rfl,trivial⟩,⟨.inr rfl,.inr (aD rfl rfl rfl (iW _)),.inr (aD rfl rfl rfl (iD _)),.inr (aC rfl rfl (aM _)),.inr (B1 rfl rfl),.inr (aC rfl oL (aM _)),trivial⟩,by decide,zQ6⟩
    · obtain rfl : j = es.length := by omega
      rw [dU]
      (repeat' (first|refine wS ?_|refine wR ?_|refine wE ?_|refine wU ?_|(refine rg 10 (vV (bG rfl rfl (by omega)) ?_))|(refine rg 19 (mW rfl (aV ?_)))|refine nZ ?_));all_goals exact ⟨_,_,⟨es,bF,hw,rfl,rfl⟩,.inl rfl,[0,1,2,4],_,rfl,rfl,rfl,⟨.inr rfl,.inr (aD rfl rfl rfl (iW _)),.inr (aD rfl rfl rfl (iD _)),.inr (B1 rfl rfl),trivial⟩,by decide,zQ8⟩
  · rw [aU] at g1;obtain ⟨⟨a,c⟩,hac,rfl⟩ := cQ.1 g1;have hv : v = .b true := by rw [aU,hac] at g1';simpa using g1'.symm
    subst hv;have k1 : (Te.map kE)[i]? = some (kE (a,c)) := by simp [hac]
    have k2 : (BP Te)[i]? = some (.b true) := by simp [hac]
    have hnew := W8 g2 g3;have hil := (aA.1 hac).1;have hsn := N4 (d := d) g2;have hd' : (d ++ [i]).Nodup ∧ ∀ j,j ∈ d ++ [i] → j < Te.length := ⟨F1 hnd hnew,fun j hj => (bI.1 hj).elim (hlt j) (fun e => by simp at e;rw [e];exact hil)⟩
    have hdl2 := xC hd'.1 hd'.2;rw [aF,dW] at hdl2;have hcr := hWr c (KO hF (bD hac)).1;have cx := Z4 s c hcr.1 hcr.2;have he := QD (s := s) (d := d) hac;generalize hT1 : yH s Te (d ++ [i]) = T1 at *;generalize yH s Te d = T0 at *;cases hx : sW s.fl c with
    | true =>
      rw [hx] at cx;rw [if_pos hx] at he
      (repeat' (first|refine wS ?_|refine wT ?_|(refine rg 4 (bH (by exact J9 rfl rfl rfl rfl g2 k1 k2) rfl ?_);refine EG 16 (.tup [.agg [.i a,.i c],.b true]) rfl (fun _ _ _ _ q=>LJ q) ?_;refine xW rfl (bH (cX T rfl) rfl (bJ T rfl rfl rfl rfl rfl rfl (by decide) rfl ?_)))|(refine uZ (id := 5) 6 64 zV4 zV5 (rM 18 6) [[],[],[],[],rM 18 4,rM 18 4] bM rfl (by decide +kernel) (by decide +kernel) ?_;(dsimp only [List.take,List.drop]);refine dN rfl (dV rfl (by exact cK rfl rfl) ?_);refine dP T rfl (dO T rfl (dP T rfl (dO T rfl (dE ?_))));refine mD ?_;refine vV (kC (cx)) ?_)|(refine rg 6 (mW rfl (eK T rfl (bH (by exact aS T rfl rfl (by decide) (by decide) rfl rfl rfl) rfl ?_)));refine eL T rfl rfl rfl rfl rfl rfl (by simp) (iU.whole rfl rfl) rfl (by simp;omega) (by simp;omega) rfl ?_;refine aV ?_)|refine nZ ?_));all_goals exact ⟨⟨d ++ [i],hd'⟩,by dsimp only;rw [aF,dW];omega,[0,1,2,7,4],rfl,⟨rfl,by dsimp only;rw [hT1,he,aF];rfl,rfl,trivial⟩,⟨.inr rfl,.inr (uK rfl (iW _)),.inr (aD rfl rfl rfl (iD _)),.inr (aC rfl (by dsimp only;rw [hT1,he];exact oL) (aM _)),.inr (H0 rfl hsn),trivial⟩,by decide,zR0⟩
    | false =>
      rw [hx] at cx;rw [if_neg (by rw [hx];decide)] at he
      (repeat' (first|refine wS ?_|refine wK ?_|refine wU ?_|(refine rg 4 (bH (by exact J9 rfl rfl rfl rfl g2 k1 k2) rfl ?_);refine EG 16 (.tup [.agg [.i a,.i c],.b true]) rfl (fun _ _ _ _ q=>LJ q) ?_;refine xW rfl (bH (cX T rfl) rfl (bJ T rfl rfl rfl rfl rfl rfl (by decide) rfl ?_)))|(refine uZ (id := 5) 6 64 zV4 zV5 (rM 18 6) [[],[],[],[],rM 18 4,rM 18 4] bM rfl (by decide +kernel) (by decide +kernel) ?_;(dsimp only [List.take,List.drop]);refine dN rfl (dV rfl (by exact cK rfl rfl) ?_);refine dP T rfl (dO T rfl (dP T rfl (dO T rfl (dE ?_))));refine mD ?_;refine vV (kC (cx)) ?_)|refine nZ ?_));all_goals exact ⟨⟨d ++ [i],hd'⟩,by dsimp only;rw [aF,dW];omega,[0,1,2,3,4],rfl,⟨rfl,by dsimp only;rw [hT1,he];rfl,rfl,trivial⟩,⟨.inr rfl,.inr (uK rfl (iW _)),.inr (aD rfl rfl rfl (iD _)),.inr (aC rfl (by dsimp only;rw [hT1,he]) (aM _)),.inr (H0 rfl hsn),trivial⟩,by decide,zM2⟩
end Go.Proofs.YtdmajnjoeidgeaaGreat
namespace Go.Proofs.YtdmajnjoeidgeaaGreat
open Go Go.Ab Go.Fl Go.Re Go.Ln
set_option maxHeartbeats 4000000
def vB (s : lN) (x : fR) : Prop := oU (iN s (bO s.fl) x.1) x.2.1 ∧ oU (iN s (bO s.fl) x.1) x.2.2 ∧ ∀ y,y ∈ x.2.1 → y ∈ x.2.2 → y = x.1
def yS (s : lN) (c : Int) : Prop := (∀ l,¬ oU (iN s (bO s.fl) c) l) ∨ ∃ x,x ≠ c ∧ ∀ l,oU (iN s (bO s.fl) c) l → x ∈ l
abbrev jH (x : fR) : List AV := [.i x.1,.rowE (aI x.2.1) 1,.rowE (aI x.2.2) 1]
abbrev fG (l : List fR) : List (List AV) := l.map jH
theorem WT {s : lN} (g : iL s.fl) {c : Int} (hst : sW s.fl c = false) {Te : List iC} {R} (h : mF (iN s (bO s.fl) c) 0 Te) (hs : L2 (iN s (bO s.fl) c) Te R) : yS s c :=
  .inl fun l hl => by
    obtain ⟨_,r,_,hw⟩ := hl;exact hs.none h hst (H1 g _) hw
theorem WS {s : lN} (g : iL s.fl) {c : Int} (hst : sW s.fl c = false) {Te : List iC} {R} (h : mF (iN s (bO s.fl) c) 1 Te) (hs : L2 (iN s (bO s.fl) c) Te R) : yS s c := by
  obtain ⟨p,x,_,hx,hw⟩ := hs.one h hst (H1 g _);refine .inr ⟨x,hx,fun l hl => ?_⟩
  obtain ⟨_,r,rfl,hr⟩ := hl;exact .tail _ (hw r hr)
theorem zD1 {s : lN} {c : Int} {Te : List iC} {es : List Int} {bF : Int → List Int} (h : mF (iN s (bO s.fl) c) 2 Te) (hw : LG s (bO s.fl) c 2 Te es bF) : ∃ e0 e1,es = [e0,e1] ∧ vB s (c,zP bF e0,zP bF e1) := by
  match es,hw with
  | [],hw => exact absurd hw.len (by simp)
  | [_],hw => exact absurd hw.len (by simp)
  | _ :: _ :: _ :: _,hw => exact absurd hw.len (by simp)
  | [e0,e1],hw =>
    obtain ⟨x0,l0⟩ := hw.ok e0 (by simp)
    obtain ⟨x1,l1⟩ := hw.ok e1 (by simp)
    have hne : e0 ≠ e1 := fun e => by have := hw.nd;rw [e] at this;simp at this
    refine ⟨e0,e1,rfl,l0.lane h x0,l1.lane h x1,fun y hy hy' => ?_⟩
    exact yW.apart h x0 x1 l0 l1 hne (List.mem_reverse.1 hy) (List.mem_reverse.1 hy')
theorem ZZ {s : lN} {W : List Int} {st : Int} : ∀ {r : List Int} {c : Int}, Ln.Way (iN s W st) c r → ∀ x, x ∈ r → x ∈ W
  | [],_,_,x,hx => by cases hx
  | y :: r,c,h,x,hx => by
    obtain ⟨_,h2,h3⟩ := h;rcases bL.1 hx with rfl | hx
    · exact (nT.1 h2).1
    · exact ZZ h3 x hx
theorem C0 {s : lN} {W : List Int} {st : Int} {l : List Int} (h : oU (iN s W st) l) : ∃ r,l = st :: r ∧ l.drop 1 = r ∧ (∀ x,x ∈ r → x ∈ W ∧ x ≠ st) := by
  obtain ⟨hn,r,rfl,hw⟩ := h;refine ⟨r,rfl,rfl,fun x hx => ⟨ZZ hw x hx,fun e => ?_⟩⟩
  subst e;exact (cP.1 hn).1 hx
theorem Z0 {s : lN} {W : List Int} {st : Int} {l : List Int} (h : oU (iN s W st) l) : l.length ≤ W.length + 1 := by
  obtain ⟨r,e,_,hW⟩ := C0 h;have hn := h.1;rw [e] at hn ⊢;have := kA (cP.1 hn).2 (m := W) fun x hx => (hW x hx).1;simpa using this
def CZ (n : Int) (e : Int × List Int) : Int := max n ((e.2.length : Int) - 1)
def nG (f : jD) : Int := (rF f (bO f)).foldl CZ 0
def qH : jD := ⟨5,2,1,[5,4,4,4,5,1,1,1,1,3],[15,15,15,15,15,15,15,15,15,15]⟩
def N3 : lN := ⟨qH,[],[],[],[]⟩
theorem H4 : bO qH = [0,1,2,3,4] := by decide
theorem MB : kL qH 4 = [1,2,3] := by decide
theorem RS : nG qH = 1 := by decide
theorem zD7 : lT qH 2 = [2,7] := by decide
theorem zL5 : lS qH [0,1,2,3,4] 1 = [2,0] := by decide
theorem zL4 : lS qH [0,1,2,3,4] 2 = [3,1] := by decide
theorem zL3 : lS qH [0,1,2,3,4] 3 = [4,2] := by decide
theorem MC : iL qH := by
  constructor <;> decide
theorem MA {l : List Int} (h : oU (iN N3 (bO qH) 2) l) : l = [2,1,0] ∨ l = [2,3,4] := by
  rw [H4] at h;obtain ⟨hn,r,rfl,hw⟩ := h;have x1 : sW qH 1 = false := by decide
  have x2 : sW qH 2 = false := by decide
  have x3 : sW qH 3 = false := by decide
  have x0 : sW qH 0 = true := by decide
  have x4 : sW qH 4 = true := by decide
  have en : ∀ (r : List Int) (c : Int),sW qH c = true → Ln.Way (iN N3 [0,1,2,3,4] 2) c r → r = [] := fun r c hc h => by
    cases r with
    | nil => rfl
    | cons y r => exact absurd (h.1.symm.trans hc) (by decide)
  have ex : (iN N3 [0,1,2,3,4] 2).ex = sW qH := rfl;have sp : (iN N3 [0,1,2,3,4] 2).sp = lS qH [0,1,2,3,4] := rfl;have st : (iN N3 [0,1,2,3,4] 2).st = 2 := rfl;rw [st] at hn hw ⊢;cases r with
  | nil => exact absurd (show sW qH 2 = true from hw) (by rw [x2];decide)
  | cons y r =>
    obtain ⟨_,hy,hw⟩ := hw;rw [sp,zL4] at hy;cases r with
    | nil =>
      have hw : sW qH y = true := hw;simp only [bL,kX,or_false] at hy;rcases hy with rfl | rfl
      · rw [x3] at hw;cases hw
      · rw [x1] at hw;cases hw
    | cons z r =>
      obtain ⟨_,hz,hw⟩ := hw;simp only [bL,kX,or_false] at hy;rcases hy with rfl | rfl
      · rw [sp,zL3] at hz;simp only [bL,kX,or_false] at hz;rcases hz with rfl | rfl
        · rw [en r 4 x4 hw];exact .inr rfl
        · simp at hn
      · rw [sp,zL5] at hz;simp only [bL,kX,or_false] at hz;rcases hz with rfl | rfl
        · simp at hn
        · rw [en r 0 x0 hw];exact .inl rfl
end Go.Proofs.YtdmajnjoeidgeaaGreat
namespace Go.Proofs.YtdmajnjoeidgeaaGreat
open Go Go.Ab Go.Fl Go.Re Go.Ln Go.MapKept
attribute [local irreducible] VC AW bR bQ fT
set_option maxHeartbeats 4000000
theorem sO (f : jD) : vK (bO f) := OO (tT _ _ _) (tT _ _ _)
theorem wZ (f : jD) : (bO f).length ≤ f.k.length := by
  have h : (bO f).Nodup := (sO f).imp (fun h => by omega)
  have := kA (l := bO f) (m := (List.range f.k.length).map fun i : Nat => (i : Int)) h fun x hx => by
    obtain ⟨h1,h2,_⟩ := jG.1 hx;exact aQ.2 ⟨x.toNat,fC.2 (by omega),by omega⟩
  simpa using this
abbrev MN (L : List (Int × List Int)) : List Value := L.map fun e => kI e.1
abbrev WF (L : List (Int × List Int)) : List AV := L.map fun e => AV.rowE (aI e.2) 1
theorem xT (L : List (Int × List Int)) : ∀ q,q ∈ MN L → MapKept.IsKey (.int .i64) q := fun q hq => by
  obtain ⟨c,_,rfl⟩ := aQ.1 hq;rfl
theorem nY (L : List (Int × List Int)) : AV.idfL (WF L) = true := by
  induction L with
  | nil => rfl
  | cons e L ih => exact ih
theorem PE (f : jD) (W : List Int) (c : Int) : rF f (W ++ [c]) = if 0 ≤ lG f c.toNat then rF f W ++ [(c,pO f c.toNat)] else rF f W := by
  unfold rF;by_cases h : 0 ≤ lG f c.toNat
  · have e : HI f c = some (c,pO f c.toNat) := by unfold HI;rw [if_pos h]
    rw [if_pos h,jC,kB,e];rfl
  · have e : HI f c = none := by unfold HI;rw [if_neg h]
    rw [if_neg h,jC,kB,e];exact List.append_nil _
theorem sU {f : jD} {W : List Int} {e : Int × List Int} : e ∈ rF f W ↔ e.1 ∈ W ∧ 0 ≤ lG f e.1.toNat ∧ e.2 = pO f e.1.toNat := by
  unfold rF;rw [fX];constructor
  · rintro ⟨c,hc,h⟩;unfold HI at h;split at h
    · rename_i h0;cases h;exact ⟨hc,h0,rfl⟩
    · cases h
  · rintro ⟨h1,h2,h3⟩;exact ⟨e.1,h1,by unfold HI;rw [if_pos h2,← h3]⟩
theorem MP {f : jD} {W : List Int} {c : Int} (h : c ∉ W) : kI c ∉ MN (rF f W) := fun hm => by
  obtain ⟨e,he,q⟩ := aQ.1 hm;have := (sU.1 he).1;simp [kI] at q;rw [q] at this;exact h this
theorem MQ {f : jD} {W : List Int} (h : W.Nodup) : (MN (rF f W)).Nodup := by
  induction W with
  | nil => exact dK
  | cons c W ih =>
    rw [cP] at h;unfold rF at ih ⊢;rw [kB];have hno := MP (f := f) h.1;unfold rF at hno;unfold HI;by_cases q : 0 ≤ lG f c.toNat
    · rw [if_pos q];exact cP.2 ⟨hno,ih h.2⟩
    · rw [if_neg q];exact ih h.2
theorem PJ {pre Q : List Nat} {n c : Nat} : List.take (Q.length + 1) (List.drop pre.length (zK (pre ++ n :: Q))) ++ [[AV.i (c : Int)]] = zK ([] ++ n :: (Q ++ [c])) := by
  rw [show zK (pre ++ n :: Q) = zK pre ++ zK (n :: Q) by simp,List.drop_left' (by simp),bC (by simp)];simp
theorem R3 : Tryz.prog.underlying 77 = some (.map 3 22) := by kernel_rfl
theorem JO {N : Nat} {mv : MV} {ok : Nat → Bool} (hmv : ∀ c d n,c < N → mv c d = some n → n < N) (l : List Nat) (hl : ∀ c,c ∈ l → c < N) : L9 N (vP N mv ok l) := by
  obtain ⟨g1,g2,_⟩ := oI (N := N) (mv := mv) (ok := ok) l hl;have h0 : L9 N (pD l (pG N ok)) := P3 (mv := mv) _ _ rfl hl;have e0 : (pD l (pG N ok)).1 = kR l (iX N ok) := yC _ _;rw [← e0] at g1;unfold vP;generalize pD l (pG N ok) = x at h0 g1;clear g2 e0
  suffices ∀ k (x : SH),L9 N x → G1 N mv ok (· ∈ l) x.1 → L9 N (FR mv k x) from this N x h0 g1
  intro k
  induction k with
  | zero => intro x h _;exact h
  | succ k ih =>
    intro x h s;unfold FR;cases hq : x.1.q with
    | nil => exact h
    | cons c r' =>
      simp only;have m0 := s.pop hq;have key : ∀ (j d : Nat) (y : SH),d + j = 6 → OE N mv ok (· ∈ l) c d y.1 → L9 N y → L9 N ((List.range' d j).foldl (zR mv c) y) ∧ OE N mv ok (· ∈ l) c 6 ((List.range' d j).foldl (zR mv c) y).1 := by
        intro j
        induction j with
        | zero =>
          intro d y hd m hy;obtain rfl : d = 6 := by omega
          exact ⟨hy,m⟩
        | succ j ihj =>
          intro d y hd m hy;rw [tI,kQ];refine ihj (d + 1) _ (by omega) (by rw [JL];exact m.next hmv (by omega)) ?_
          unfold zR;cases hm : mv c d with
          | none => exact hy
          | some n =>
            have hn := hmv c d n m.hc hm;exact hy.reach hn m.inv.lu (by have := m.h0;omega) (fun ho => ((m.inv.opn n hn).1 ho).2)
      obtain ⟨k1,k2⟩ := key 6 0 (⟨x.1.op,x.1.out,r'⟩,x.2) rfl m0 ⟨h.nd,h.lt,h.mem⟩;have e6 : sH mv c (⟨x.1.op,x.1.out,r'⟩,x.2) = (List.range' 0 6).foldl (zR mv c) (⟨x.1.op,x.1.out,r'⟩,x.2) := by unfold sH;rw [mS]
      rw [e6];exact ih _ k1 k2.end
theorem NR {f : jD} (g : iL f) {c d n : Nat} (h : pK f c d = some n) : f.k.getD n 0 ≠ 0 := by
  have h1 := (lB g ((I3 g).1 ((zB0 g).2 h))).2.2.2.2.1;unfold mC at h1
  rwa [aX] at h1
theorem JZ (s : lN) (g : iL s.fl) : bQ Tryz.prog 37 [.agg (fS s)] [] (.mp 0) [.mapO (MN (rF s.fl (bO s.fl))) (WF (rF s.fl (bO s.fl)))] := by
  have hN := g.le;have hb := g.bounds;have hkl : (aI s.fl.k).length = s.fl.k.length := aR _;have hWa := sO s.fl;have hWn : (bO s.fl).Nodup := hWa.imp (fun h => by omega)
  have hWl := wZ s.fl;have cw := G6 s (by omega)
  have hWr : ∀ x,x ∈ bO s.fl → 0 ≤ x ∧ x < s.fl.k.length := fun x hx => by obtain ⟨h1,h2,_⟩ := jG.1 hx;exact ⟨h1,h2⟩
  have hsrc : ∀ c,c ∈ pM s.fl → c < s.fl.k.length := H3 (aY _);have hinv := JO (ok := vQ s.fl) (A6 g) (pM s.fl) hsrc;have hfar := (U9 g).1;have hole := zZ g;have holen := (U9 g).2;have hF1 : (vP s.fl.k.length (pK s.fl) (vQ s.fl) (pM s.fl)).1 = tR s.fl.k.length (pK s.fl) (vQ s.fl) (pM s.fl) := OS _ _ _ _;have hFo : (vP s.fl.k.length (pK s.fl) (vQ s.fl) (pM s.fl)).1.out = lZ s.fl := by rw [hF1];rfl
  have hF0 : vP s.fl.k.length (pK s.fl) (vQ s.fl) (pM s.fl) = FR (pK s.fl) s.fl.k.length (pD (pM s.fl) (pG s.fl.k.length (vQ s.fl))) := rfl;generalize vP s.fl.k.length (pK s.fl) (vQ s.fl) (pM s.fl) = F at *;clear hF1;refine dD T Tryz.func37 rfl rfl rfl rfl ?_
  (repeat' (first|refine wS ?_|(refine rg 0 (bH (bN rfl rfl) rfl (aV ?_)))|(refine rg 1 (lW T rfl (vV (kC (cw)) (aV ?_))))|(refine rg 2 (bH (by exact lR) rfl ?_);refine aV ?_)|(refine rg 3 (aV ?_))|refine nZ ?_));refine rR 5 1 rfl (by decide) ?_
  dsimp only [zP6,zP5,List.append_nil,zP4,zP3,zP2,zP1,zP0,zO9,gQ,gJ,gO,iS,rB,jV,mL,mJ,mI,mK,jU,jX,jT,jW,Nat.zero_add,zO8,Nat.reduceAdd,zO7,zO6]
  repeat' (first|refine wB ?_|(refine rg 4 (fW T rfl (eK T rfl (qW T rfl (mV ?_)))))|refine nZ ?_)
  -- the cells that do not belong to the walk
  refine bV (X := {j : Nat // j ≤ s.fl.k.length}) (fun j => [(1, .ptr 0 0), (3, .rowE (aI (bO s.fl)) 1), (4, .mp 1), (5, .sl 2 0 (rW s.fl (bO s.fl) j.1).length 1), (25, .rowE (aI s.fl.k) 1), (26, .i s.fl.k.length), (27, .i (j.1 : Int))])
    (fun j => [.cells (fS s),.mapO (P5 (rW s.fl (bO s.fl) j.1)) (z0 (rW s.fl (bO s.fl) j.1)),.arr (zK (rW s.fl (bO s.fl) j.1)) 1]) (fun j => s.fl.k.length - j.1) ⟨0,cH _⟩ ⟨[0,1,2],rfl,⟨rfl,rfl,rfl,rfl,rfl,congrArg (fun n : Nat => some (AV.i n)) hkl,rfl,trivial⟩,⟨.inr rfl,.inr (aD rfl rfl rfl (V9 _)),.inr (aC rfl rfl (jF _)),trivial⟩,by decide,gL⟩ ?_
  rintro ⟨j,hj⟩;dsimp only;by_cases hlt : j < s.fl.k.length
  · have hs := CK s.fl (bO s.fl) j;have hn := RN s.fl (bO s.fl) j;have hno : kI (j : Int) ∉ P5 (rW s.fl (bO s.fl) j) := DQ fun c hc hm => by have := (A2.1 hm).1;omega
    have q1 : (aI s.fl.k)[(j : Int).toNat]? = some [AV.i (s.fl.k.getD j 0)] := eY (l := s.fl.k) (j := (j : Int)) 0 hlt rfl;have ch := X9 (bO s.fl) (j : Int) hWa (by omega)
    unfold GM at hs;generalize hT : rW s.fl (bO s.fl) (j + 1) = T1 at *;generalize rW s.fl (bO s.fl) j = T0 at *;generalize s.fl.k.getD j 0 = y at *;by_cases hy : y = 0
    · subst hy;rw [decide_eq_false (by simp),tB,if_neg (by decide)] at hs
      (repeat' (first|refine wS ?_|refine wB ?_|refine wK ?_|refine wT ?_|refine wU ?_|(refine rg 5 (vV (aL rfl rfl (by omega)) ?_))|(refine rg 6 (mW rfl (vV (ix T rfl (by omega) (aE _) q1) (lW T rfl (iZ ?_)))))|(refine rg 7 (mW rfl (vV (gE rfl rfl rfl) (mV ?_)));(iterate 4 refine gF ?_);refine pV ?_)|(refine rg 10 (vV (bP rfl rfl (by omega) (by omega)) (mV ?_)))|refine nZ ?_));all_goals exact ⟨⟨j + 1,hlt⟩,by dsimp only;omega,[0,1,2],rfl,⟨rfl,rfl,rfl,by dsimp only;rw [hT,hs];rfl,rfl,rfl,rfl,trivial⟩,⟨.inr rfl,.inr (aD rfl (by dsimp only;rw [hT,hs]) (by dsimp only;rw [hT,hs]) (V9 _)),.inr (aC rfl (by dsimp only;rw [hT,hs]) (jF _)),trivial⟩,by decide,gL⟩
    · rw [decide_eq_true hy,vE] at hs;by_cases hm : (j : Int) ∈ bO s.fl
      · rw [decide_eq_true hm] at hs ch;rw [if_neg (by decide)] at hs
        (repeat' (first|refine wS ?_|refine wB ?_|refine wK ?_|refine wT ?_|refine wU ?_|(refine rg 5 (vV (aL rfl rfl (by omega)) ?_))|(refine rg 6 (mW rfl (vV (ix T rfl (by omega) (aE _) q1) (lW T rfl (iZ ?_)))))|(refine rg 7 (mW rfl (vV (lC rfl rfl hy) (mW rfl (yN rfl (yN rfl (yV (kC (ch)) (yV (bB rfl) (pV ?_)))))))))|(refine rg 10 (vV (bP rfl rfl (by omega) (by omega)) (mV ?_)))|refine nZ ?_));all_goals exact ⟨⟨j + 1,hlt⟩,by dsimp only;omega,[0,1,2],rfl,⟨rfl,rfl,rfl,by dsimp only;rw [hT,hs];rfl,rfl,rfl,rfl,trivial⟩,⟨.inr rfl,.inr (aD rfl (by dsimp only;rw [hT,hs]) (by dsimp only;rw [hT,hs]) (V9 _)),.inr (aC rfl (by dsimp only;rw [hT,hs]) (jF _)),trivial⟩,by decide,gL⟩
      · rw [decide_eq_false hm] at hs ch;rw [if_pos (by decide)] at hs
        (repeat' (first|refine wS ?_|refine wB ?_|refine wK ?_|refine wT ?_|(refine rg 5 (vV (aL rfl rfl (by omega)) ?_))|(refine rg 6 (mW rfl (vV (ix T rfl (by omega) (aE _) q1) (lW T rfl (iZ ?_)))))|(refine rg 7 (mW rfl (vV (lC rfl rfl hy) (mW rfl (yN rfl (yN rfl (yV (kC (ch)) (yV (bB rfl) (pV ?_)))))))))|(refine rg 8 (eX rfl (lQ mB jL rfl rfl (gC _) rfl rfl (pY _) (eR _) hno ?_)))|(refine rg 9 (eX rfl (bH (by exact aS T rfl rfl (by decide) (by decide) rfl rfl rfl) rfl ?_));refine eL T rfl rfl rfl rfl rfl rfl (by simp) (iU.whole rfl rfl) rfl (by simp;omega) (by simp;omega) rfl ?_;refine aV ?_)|(refine rg 10 (vV (bP rfl rfl (by omega) (by omega)) (mV ?_)))|refine nZ ?_));all_goals exact ⟨⟨j + 1,hlt⟩,by dsimp only;omega,[0,1,4],rfl,⟨rfl,rfl,rfl,by dsimp only;rw [hT,hs,aF];rfl,rfl,rfl,rfl,trivial⟩,⟨.inr rfl,.inr (aD rfl (by dsimp only;rw [hT,hs];simp) (by dsimp only;rw [hT,hs];simp) (V9 _)),.inr (aC rfl (by dsimp only;rw [hT,hs];simp;exact bC (by simp)) (jF _)),trivial⟩,by decide,gL⟩
  obtain rfl : j = s.fl.k.length := by omega
  repeat' (first|refine wS ?_|refine wB ?_|refine wE ?_|refine wU ?_|(refine rg 5 (vV (bG rfl rfl (by omega)) ?_))|refine nZ ?_)
  -- the search
  have hok : ∀ c,c ∈ pM s.fl → c < s.fl.k.length ∧ vQ s.fl c = true := fun c hc => by
    obtain ⟨h1,h2,_⟩ := LZ.1 hc;exact ⟨h1,by unfold vQ;exact decide_eq_true h2⟩
  have hsnd := WV s.fl (bO s.fl) s.fl.k.length;obtain ⟨g1,g2,g3⟩ := oI (N := s.fl.k.length) (mv := pK s.fl) (ok := vQ s.fl) (pM s.fl) hsrc;have hi0 := P3 (N := s.fl.k.length) (mv := pK s.fl) (ok := vQ s.fl) _ (pM s.fl) rfl hsrc;have e0 : (pD (pM s.fl) (pG s.fl.k.length (vQ s.fl))).1 = kR (pM s.fl) (iX s.fl.k.length (vQ s.fl)) := yC _ _;rw [← e0] at g1 g2 g3;obtain ⟨l1,l2⟩ := PY (N := s.fl.k.length) (mv := pK s.fl) (ok := vQ s.fl) _ (pM s.fl) rfl hok hsnd;have hz := zK5 (PX (N := s.fl.k.length) (mv := pK s.fl) (ok := vQ s.fl) hok hsnd);generalize pD (pM s.fl) (pG s.fl.k.length (vQ s.fl)) = x0 at *;refine bV (X := {x : SH × List Nat × Nat // G1 s.fl.k.length (pK s.fl) (vQ s.fl) (· ∈ pM s.fl) x.1.1 ∧ L9 s.fl.k.length x.1 ∧ kJ x.1.1 ≤ x.2.2 ∧ x.2.2 ≤ s.fl.k.length ∧ FR (pK s.fl) x.2.2 x.1 = F ∧ ∀ k, k < s.fl.k.length → x.1.1.out.getD k (-1) + x.2.2 ≤ s.fl.k.length})
    (fun x => [(1,.ptr 0 0),(3,.rowE (aI (bO s.fl)) 1),(4,.mp 1),(5,.sl 2 x.1.2.1.length x.1.1.1.q.length 1)])
    (fun x => [.cells (fS s),.mapO (P5 x.1.1.2) (AM x.1.1.1.out x.1.1.2),.arr (zK (x.1.2.1 ++ x.1.1.1.q)) 1]) (fun x => x.1.2.2) ⟨(x0,[],s.fl.k.length),g1,hi0,g2,aY _,hF0.symm,fun k hk => by have := g3 k hk;dsimp only;omega⟩
    ⟨[0,1,2],rfl,⟨rfl,rfl,rfl,by dsimp only;rw [l2];rfl,trivial⟩,⟨.inr rfl,.inr (aD rfl (by dsimp only;rw [l1]) (by dsimp only;rw [l1];exact hz.symm) (uW _ _)),.inr (aC rfl (by dsimp only;rw [l2];rfl) (jF _)),trivial⟩,by decide,gL⟩ ?_
  clear g1 g2 g3 l1 l2 hz hi0 e0;rintro ⟨⟨⟨⟨op,out,q⟩,hist⟩,pre,fuel⟩,h1,hh1,h2,h3,h4,h5⟩;simp only at h1 h2 h3 h4 h5;dsimp only;have lu : out.length = s.fl.k.length := h1.inv.lu;cases q with
  | nil =>
    have e : F = (⟨op,out,[]⟩,hist) := by rw [← h4];cases fuel <;> rfl
    rw [e] at hFo hinv;dsimp only at hFo hinv;subst hFo;have hnd := hinv.nd;have hmem := hinv.mem;clear h1 hh1 h2 h3 h4 h5 e
    (repeat' (first|refine wS ?_|refine wB ?_|refine wE ?_|refine wU ?_|(refine rg 11 (mW rfl (qW T rfl (vV (eS rfl rfl) ?_))))|(refine rg 22 (bH (by exact lR) rfl ?_);refine aV ?_)|(refine rg 23 (mW rfl (qW T rfl (mV ?_))))|refine nZ ?_));have hwl : (aI (bO s.fl)).length = (bO s.fl).length := aR _
    refine bV (X := {j : Nat // j ≤ (bO s.fl).length}) (fun j => [(1, .ptr 0 0), (4, .mp 1), (13, .mp 2), (95, .rowE (aI (bO s.fl)) 1), (96, .i (bO s.fl).length), (97, .i (j.1 : Int))])
      (fun j => [.cells (fS s),.mapO (P5 hist) (AM (lZ s.fl) hist),.mapO (MN (rF s.fl ((bO s.fl).take j.1))) (WF (rF s.fl ((bO s.fl).take j.1)))]) (fun j => (bO s.fl).length - j.1) ⟨0,cH _⟩ ⟨[0,1,3],rfl,⟨rfl,rfl,rfl,rfl,congrArg (fun n : Nat => some (AV.i n)) hwl,rfl,trivial⟩,⟨.inr rfl,.inr (aD rfl rfl rfl (uW _ _)),.inr (aD rfl rfl rfl (nY _)),trivial⟩,by decide,gL⟩ ?_
    rintro ⟨j,hj⟩;dsimp only;by_cases hlt : j < (bO s.fl).length
    · have htk := aJ hlt;have q1 : (aI (bO s.fl))[(j : Int).toNat]? = some [AV.i (bO s.fl)[j]] := by rw [aX];exact iF hlt
      have hcr := hWr _ (dB hlt);have hcno : (bO s.fl)[j] ∉ (bO s.fl).take j := fun hm => by
        obtain ⟨i,hi,he⟩ := eE.1 hm;rw [VZ] at he;rw [dQ] at hi;have := (List.getElem_inj hWn).1 he;omega
      generalize (bO s.fl)[j] = x at *;obtain ⟨c,rfl⟩ := pX hcr.1;have hc : c < s.fl.k.length := by omega
      have hos := PE s.fl ((bO s.fl).take j) (c : Int);rw [aX] at hos;have hno := MP (f := s.fl) hcno;by_cases hkn : kn hist (c : Int) = true
      · have hcm : c ∈ hist := by unfold kn at hkn;simpa using (of_decide_eq_true hkn).2
        have h0 := (hmem c hc).1 hcm;rw [if_pos h0] at hos
        (repeat' (first|refine wS ?_|refine wB ?_|refine wK ?_|refine wT ?_|refine wU ?_|(refine rg 24 (vV (aL rfl rfl (by omega)) ?_))|(refine rg 25 (vV (ix T rfl (by omega) (aE _) q1) (lW T rfl (aV ?_))))|(refine rg 26 (eX rfl (vV (by exact NH (c := c) hnd hcm rfl rfl rfl) ?_));refine mW rfl (xW rfl (xW rfl (iZ ?_))))|(refine rg 27 (mW rfl (vV (bB rfl) ?_)))|(refine rg 28 (mW rfl (bH (by exact aS T rfl rfl (by decide) (by decide) rfl rfl rfl) rfl ?_));refine aV ?_)|(refine rg 29 (mW rfl (aV ?_)))|refine nZ ?_));refine bV (X := {p : Nat × List Int × Nat // p.1 < s.fl.k.length ∧ lG s.fl p.1 = p.2.2 ∧ p.1 ∈ hist ∧ p.2.1 ++ C8 s.fl (lZ s.fl) p.2.2 p.1 = pO s.fl c}) (fun p => [(1, .ptr 0 0), (4, .mp 1), (13, .mp 2), (15, .i (c : Int)), (18, .sl 3 0 p.1.2.1.length 1), (19, .i (p.1.1 : Int)), (95, .rowE (aI (bO s.fl)) 1), (96, .i (bO s.fl).length), (97, .i (j : Int))])
          (fun p => [.cells (fS s),.mapO (P5 hist) (AM (lZ s.fl) hist),.mapO (MN (rF s.fl ((bO s.fl).take j))) (WF (rF s.fl ((bO s.fl).take j))),.arr (aI p.1.2.1) 1]) (fun p => p.1.2.2) ⟨(c,[(c : Int)],(lG s.fl c).toNat),hc,(hO h0).symm,hcm,rfl⟩
          ⟨[0,1,2,3],rfl,⟨rfl,rfl,rfl,rfl,rfl,rfl,rfl,rfl,rfl,trivial⟩,⟨.inr rfl,.inr (aD rfl rfl rfl (uW _ _)),.inr (aD rfl rfl rfl (nY _)),.inr (aC rfl rfl (aM _)),trivial⟩,by decide,gL⟩ ?_
        rintro ⟨⟨x,d,n⟩,hx,hxd,hxm,hway⟩;dsimp only at hx hxd hxm hway;dsimp only;have hdl : d.length + n = (lG s.fl c).toNat + 1 := by have := congrArg List.length hway;rw [aF,W1,rE] at this;exact this
        have hcl := hole c hc;have hge := (hmem x hx).1 hxm;cases n with
        | zero =>
          have hde : d = pO s.fl c := by rw [← hway];simp [C8]
          subst hde;have hxd : (lZ s.fl).getD x (-1) = 0 := hxd
          (repeat' (first|refine wS ?_|refine wE ?_|(refine wC rfl ?_ ?_<;>(intro hb;(try simp only [nm] at hb);try (exfalso;omega)))|(refine rg 30 (eX rfl (vV (by exact P0 hnd hxm rfl rfl rfl) ?_));refine vV (eS rfl rfl) ?_)|refine nZ ?_));refine F9 18 rfl rfl (by simp) (kP (aM _)) ?_
          (repeat' (first|(refine rg 33 (eX rfl (mW rfl (lQ R3 jL rfl rfl (gC _) rfl rfl (xT _) (eR _) hno ?_))))|(refine rg 34 (vV (bP rfl rfl (by omega) (by omega)) (mV ?_)))|refine nZ ?_));all_goals exact ⟨⟨j + 1,hlt⟩,by dsimp only;omega,[0,1,2],rfl,⟨rfl,rfl,rfl,rfl,rfl,rfl,trivial⟩,⟨.inr rfl,.inr (aD rfl rfl rfl (uW _ _)),.inr (aD rfl (by dsimp only;rw [htk,hos];simp) (by dsimp only;rw [htk,hos];simp) (nY _)),trivial⟩,by decide,gL⟩
        | succ n =>
          have hxd : (lZ s.fl).getD x (-1) = ((n + 1 : Nat) : Int) := hxd;obtain ⟨y1,y2,_⟩ := P4 g hfar (c := x) hx (by show 0 < (lZ s.fl).getD x (-1);omega)
          have hdw := zH2 s g (out := lZ s.fl) hnd hmem hole hx hxm;have hym : oD s.fl (lZ s.fl) x ∈ hist := (hmem _ y1).2 (by rw [y2];omega)
          have hwt : C8 s.fl (lZ s.fl) (n + 1) x = (oD s.fl (lZ s.fl) x : Int) :: C8 s.fl (lZ s.fl) n (oD s.fl (lZ s.fl) x) := rfl;rw [hwt] at hway;generalize oD s.fl (lZ s.fl) x = y at *
          (repeat' (first|refine wS ?_|refine wB ?_|refine wK ?_|(refine wC rfl ?_ ?_<;>(intro hb;(try simp only [nm] at hb);try (exfalso;omega)))|(refine rg 30 (eX rfl (vV (by exact P0 hnd hxm rfl rfl rfl) ?_));refine vV (eS rfl rfl) ?_)|(refine rg 32 (lW T rfl (HL ?_));refine vV (by exact gB rfl rfl hdw (.cons (.agg (by repeat (first|exact .nil|exact .v _|exact .row _ _ _|refine .cons ?_ ?_))) (.cons (.mp rfl (NP _ _)) (.cons (.v _) .nil))) rfl rfl) ?_;(all_goals (refine aV ?_)))|(refine rg 31 (eX rfl (bH (by exact aS T rfl rfl (by decide) (by decide) rfl rfl rfl) rfl ?_));refine eL T rfl rfl rfl rfl rfl rfl (by simp) (iU.whole rfl rfl) rfl (by simp;omega) (by simp;omega) rfl ?_;refine aV ?_)|refine nZ ?_));all_goals exact ⟨⟨(y,d ++ [(y : Int)],n),y1,by dsimp only;show (lZ s.fl).getD y (-1) = _;rw [y2,hxd];omega,hym,by dsimp only;rw [fL];exact hway⟩,by dsimp only;omega,[0,1,2,5],rfl,⟨rfl,rfl,rfl,rfl,by dsimp only;rw [aF];rfl,rfl,rfl,rfl,rfl,trivial⟩,⟨.inr rfl,.inr (aD rfl rfl rfl (uW _ _)),.inr (aD rfl rfl rfl (nY _)),.inr (aC rfl oL (aM _)),trivial⟩,by decide,gL⟩
      · have hkn : kn hist (c : Int) = false := by simpa using hkn
        have hcm : c ∉ hist := by unfold kn at hkn;simpa using of_decide_eq_false hkn
        have hci : kI (c : Int) ∉ P5 hist := DQ fun c' e hm' => hcm (by rw [show c = c' by omega];exact hm')
        rw [if_neg (fun q => hcm ((hmem c hc).2 q))] at hos
        (repeat' (first|refine wS ?_|refine wB ?_|refine wK ?_|refine wE ?_|refine wT ?_|(refine rg 24 (vV (aL rfl rfl (by omega)) ?_))|(refine rg 25 (vV (ix T rfl (by omega) (aE _) q1) (lW T rfl (aV ?_))))|(refine rg 26 (eX rfl (vV (by exact NI (c := (c : Int)) hci rfl rfl rfl) ?_));refine mW rfl (xW rfl (xW rfl (iZ ?_))))|(refine rg 27 (mW rfl (vV (bB rfl) ?_)))|(refine rg 34 (vV (bP rfl rfl (by omega) (by omega)) (mV ?_)))|refine nZ ?_));all_goals exact ⟨⟨j + 1,hlt⟩,by dsimp only;omega,[0,1,2],rfl,⟨rfl,rfl,rfl,rfl,rfl,rfl,trivial⟩,⟨.inr rfl,.inr (aD rfl rfl rfl (uW _ _)),.inr (aD rfl (by dsimp only;rw [htk,hos]) (by dsimp only;rw [htk,hos]) (nY _)),trivial⟩,by decide,gL⟩
    · obtain rfl : j = (bO s.fl).length := by omega
      rw [dU]
      (repeat' (first|refine wS ?_|refine wR ?_|refine wE ?_|refine wU ?_|(refine rg 24 (vV (bG rfl rfl (by omega)) ?_))|(refine rg 35 (mW rfl (aV ?_)))|refine nZ ?_));all_goals exact ⟨.inl rfl,[2],_,rfl,rfl,rfl,⟨.inr (aD rfl rfl rfl (nY _)),trivial⟩,by decide,gL⟩
  | cons c r' =>
    have hcr : (c :: r').length = r'.length + 1 := rfl;have hrm : kJ ⟨op,out,c :: r'⟩ = kJ ⟨op,out,r'⟩ + 1 := by unfold kJ;simp;omega
    obtain ⟨k,rfl⟩ : ∃ k,fuel = k + 1 := ⟨fuel - 1,by omega⟩
    have m0 := h1.pop rfl;have hc := m0.hc
    (repeat' (first|refine wS ?_|refine wB ?_|refine wK ?_|(refine wC rfl ?_ ?_<;>(intro hb;(try simp only [nm] at hb);try (exfalso;omega)))|(refine rg 11 (mW rfl (qW T rfl (vV (eS rfl rfl) ?_))))|(refine rg 13 (mV ?_))|refine nZ ?_));refine bV (X := {x : SH × List Nat × Nat // OE s.fl.k.length (pK s.fl) (vQ s.fl) (· ∈ pM s.fl) c x.2.2 x.1.1 ∧ L9 s.fl.k.length x.1 ∧ x.2.2 ≤ 6 ∧ (List.range' x.2.2 (6 - x.2.2)).foldl (zR (pK s.fl) c) x.1 = sH (pK s.fl) c (⟨op, out, r'⟩, hist) ∧ kJ x.1.1 ≤ k ∧ (∀ y, y < s.fl.k.length → x.1.1.out.getD y (-1) ≤ s.fl.k.length - k) ∧ x.1.1.out.getD c (-1) + 1 ≤ s.fl.k.length - k})
      (fun x => [(1,.ptr 0 0),(3,.rowE (aI (bO s.fl)) 1),(4,.mp 1),(5,.sl 2 x.1.2.1.length (c :: x.1.1.1.q).length 1),(52,.i x.1.2.2)])
      (fun x => [.cells (fS s),.mapO (P5 x.1.1.2) (AM x.1.1.1.out x.1.1.2),.arr (zK (x.1.2.1 ++ c :: x.1.1.1.q)) 1]) (fun x => 6 - x.1.2.2) ⟨((⟨op,out,r'⟩,hist),pre,0),m0,⟨hh1.nd,hh1.lt,hh1.mem⟩,cH _,by unfold sH;rw [mS] <;> rfl,by dsimp only;omega,fun y hy => by have := h5 y hy;dsimp only;omega,by have := h5 c hc;dsimp only;omega⟩
      ⟨[0,1,2],rfl,⟨rfl,rfl,rfl,rfl,rfl,trivial⟩,⟨.inr rfl,.inr (aD rfl rfl rfl (uW _ _)),.inr (aC rfl rfl (jF _)),trivial⟩,by decide,gL⟩ ?_
    rintro ⟨⟨⟨⟨op',out',q'⟩,hist'⟩,pre',d⟩,m1,hm1,m2,m3,m4,m5,m6⟩;simp only at m1 m2 m3 m4 m5 m6;dsimp only;have lu' : out'.length = s.fl.k.length := m1.inv.lu;have m0' : 0 ≤ out'.getD c (-1) := m1.h0;have hq : q'.length ≤ 300 := by unfold kJ at m4;simp only at m4;omega
    have hnd' := hm1.nd;have e1 : (zK (pre' ++ c :: q'))[pre'.length + (0 : Int).toNat]? = some [AV.i (c : Int)] := by simp
    by_cases hd : d < 6
    · have hcm := zH8 g c d;have hcmm := (hm1.mem c hc).2 m0';have n1 := m1.next (A6 g) hd
      obtain ⟨n2,n3⟩ := m1.bound (A6 g) m5 m6;have n4 : (List.range' (d + 1) (6 - (d + 1))).foldl (zR (pK s.fl) c) (zR (pK s.fl) c (⟨op',out',q'⟩,hist') d) = sH (pK s.fl) c (⟨op,out,r'⟩,hist) := by
        rw [← m3,show 6 - d = (6 - (d + 1)) + 1 by omega,tI,kQ]
      have n5 : kJ (uJ (pK s.fl) c ⟨op',out',q'⟩ d) ≤ k := by rw [X3];exact m4
      have n6 : (uJ (pK s.fl) c ⟨op',out',q'⟩ d).out.getD c (-1) + 1 ≤ s.fl.k.length - k := by rw [n3];exact m6
      have nh : L9 s.fl.k.length (zR (pK s.fl) c (⟨op',out',q'⟩,hist') d) := by
        unfold zR;cases hm : pK s.fl c d with
        | none => exact hm1
        | some n =>
          have hn := A6 g c d n hc hm;exact hm1.reach hn lu' (by dsimp only;omega) (fun ho => ((m1.inv.opn n hn).1 ho).2)
      have nx : ∀ s',zR (pK s.fl) c (⟨op',out',q'⟩,hist') d = s' → OE s.fl.k.length (pK s.fl) (vQ s.fl) (· ∈ pM s.fl) c (d + 1) s'.1 ∧ L9 s.fl.k.length s' ∧ d + 1 ≤ 6 ∧ (List.range' (d + 1) (6 - (d + 1))).foldl (zR (pK s.fl) c) s' = sH (pK s.fl) c (⟨op,out,r'⟩,hist) ∧ kJ s'.1 ≤ k ∧ (∀ y,y < s.fl.k.length → s'.1.out.getD y (-1) ≤ s.fl.k.length - k) ∧ s'.1.out.getD c (-1) + 1 ≤ s.fl.k.length - k := by
        rintro s' rfl;have e : (zR (pK s.fl) c (⟨op',out',q'⟩,hist') d).1 = uJ (pK s.fl) c ⟨op',out',q'⟩ d := JL;rw [e];exact ⟨n1,nh,hd,n4,n5,n2,n6⟩
      clear nh n1 n2 n3 n4 n5 n6;unfold zR at nx;cases hm : pK s.fl c d with
      | none =>
        rw [hm] at hcm nx
        (repeat' (first|refine wS ?_|refine wB ?_|refine wK ?_|refine wT ?_|refine wU ?_|(refine rg 14 (vV (aL rfl rfl (by omega)) ?_))|(refine rg 15 (mW rfl (aV ?_)))|(refine aN (id := 16) 129 zX5 [56,57,58,59,60,61,62,55,63,64,9] zX6 bM rfl (by decide +kernel) (dP T rfl (dO T rfl (dN rfl (dV rfl (bZ T rfl rfl rfl rfl rfl (by omega) (by simp)) (dV rfl (cJ T rfl rfl (eO rfl e1) rfl) (dN rfl (dV rfl (kC (hcm)) (dN rfl (dV rfl (by exact eB rfl rfl) ?_)))))))));refine dV rfl (by exact eB rfl rfl) ?_;refine dV rfl (eM rfl) (dE ?_);refine aV ?_)|(refine rg 17 (eX rfl (vV (by exact UF hnd' rfl rfl rfl) ?_));refine mW rfl (xW rfl (xW rfl (iZ ?_))))|(refine rg 18 (HL ?_);(iterate 2 refine gF ?_);refine pW rfl (mV ?_);(iterate 3 refine gF ?_);refine pV ?_)|(refine rg 21 (vV (bP rfl rfl (by omega) (by omega)) (mV ?_)))|refine nZ ?_));all_goals exact ⟨⟨((⟨op',out',q'⟩,hist'),pre',d + 1),nx _ rfl⟩,by dsimp only;omega,[0,1,2],rfl,(by repeat first|exact trivial|refine ⟨rfl,?_⟩),⟨.inr rfl,.inr (aD rfl rfl rfl (uW _ _)),.inr (aC rfl rfl (jF _)),trivial⟩,by decide,gL⟩
      | some n =>
        have hn := A6 g c d n hc hm;have hokn : vQ s.fl n = true := by unfold vQ;exact decide_eq_true (NR g hm)
        have hopn := m1.inv.opn n hn;have hmemn := hm1.mem n hn;simp only at hopn hmemn;rw [hm] at hcm nx;simp only at nx;unfold xO at nx;by_cases hkn : kn hist' (n : Int) = true
        · have hnm : n ∈ hist' := by unfold kn at hkn;simpa using (of_decide_eq_true hkn).2
          have hop : op'.getD n false = false := by
            cases hop : op'.getD n false with
            | false => rfl
            | true => have := (hopn.1 hop).2;have := hmemn.1 hnm;omega
          rw [if_neg (by simp only;rw [hop];decide)] at nx
          (repeat' (first|refine wS ?_|refine wB ?_|refine wK ?_|refine wT ?_|refine wU ?_|(refine rg 14 (vV (aL rfl rfl (by omega)) ?_))|(refine rg 15 (mW rfl (aV ?_)))|(refine aN (id := 16) 129 zX5 [56,57,58,59,60,61,62,55,63,64,9] zX6 bM rfl (by decide +kernel) (dP T rfl (dO T rfl (dN rfl (dV rfl (bZ T rfl rfl rfl rfl rfl (by omega) (by simp)) (dV rfl (cJ T rfl rfl (eO rfl e1) rfl) (dN rfl (dV rfl (kC (hcm)) (dN rfl (dV rfl (by exact eB rfl rfl) ?_)))))))));refine dV rfl (by exact eB rfl rfl) ?_;refine dV rfl (eM rfl) (dE ?_);refine aV ?_)|(refine rg 17 (eX rfl (vV (by exact NH (c := n) hnd' hnm rfl rfl rfl) ?_));refine mW rfl (xW rfl (xW rfl (iZ ?_))))|(refine rg 18 (eX rfl (yN rfl (yV (bB rfl) (pW rfl (mV ?_)))));(iterate 3 refine gF ?_);refine pV ?_)|(refine rg 21 (vV (bP rfl rfl (by omega) (by omega)) (mV ?_)))|refine nZ ?_));all_goals exact ⟨⟨((⟨op',out',q'⟩,hist'),pre',d + 1),nx _ rfl⟩,by dsimp only;omega,[0,1,2],rfl,(by repeat first|exact trivial|refine ⟨rfl,?_⟩),⟨.inr rfl,.inr (aD rfl rfl rfl (uW _ _)),.inr (aC rfl rfl (jF _)),trivial⟩,by decide,gL⟩
        · have hkn : kn hist' (n : Int) = false := by simpa using hkn
          have hnm : n ∉ hist' := by unfold kn at hkn;simpa using of_decide_eq_false hkn
          have hlt0 : out'.getD n (-1) < 0 := by have : ¬ 0 ≤ out'.getD n (-1) := fun q => hnm (hmemn.2 q);omega
          have hop : op'.getD n false = true := hopn.2 ⟨hokn,hlt0⟩;rw [if_pos hop] at nx;have hnW : (n : Int) ∈ bO s.fl := by
            by_cases q : (n : Int) ∈ bO s.fl
            · exact q
            · exfalso;have hw : ZY s.fl n = false := by
                cases h : ZY s.fl n with
                | false => rfl
                | true => exact absurd (jG.2 ⟨by omega,by omega,by rw [aX];exact h⟩) q
              have : out'.getD n (-1) = 0 := m1.all n hn hokn (LZ.2 ⟨hn,NR g hm,hw⟩);omega
          have ch := X9 (bO s.fl) (n : Int) hWa (by omega)
          rw [decide_eq_true hnW] at ch;have hni : kI (n : Int) ∉ P5 hist' := DQ fun c' e hm' => hnm (by rw [show n = c' by omega];exact hm')
          have hdv := ZC (out := out') (v := out'.getD c (-1) + 1) hnm (by omega)
          (repeat' (first|refine wS ?_|refine wB ?_|refine wK ?_|refine wT ?_|(refine rg 14 (vV (aL rfl rfl (by omega)) ?_))|(refine rg 15 (mW rfl (aV ?_)))|(refine aN (id := 16) 129 zX5 [56,57,58,59,60,61,62,55,63,64,9] zX6 bM rfl (by decide +kernel) (dP T rfl (dO T rfl (dN rfl (dV rfl (bZ T rfl rfl rfl rfl rfl (by omega) (by simp)) (dV rfl (cJ T rfl rfl (eO rfl e1) rfl) (dN rfl (dV rfl (kC (hcm)) (dN rfl (dV rfl (by exact eB rfl rfl) ?_)))))))));refine dV rfl (by exact eB rfl rfl) ?_;refine dV rfl (eM rfl) (dE ?_);refine aV ?_)|(refine rg 17 (eX rfl (vV (by exact NI (c := (n : Int)) hni rfl rfl rfl) ?_));refine mW rfl (xW rfl (xW rfl (iZ ?_))))|(refine rg 18 (eX rfl (yN rfl (yV (bB rfl) (pW rfl (mW rfl (yN rfl (yN rfl (yV (kC (ch)) (pV ?_))))))))))|(refine rg 19 (eX rfl (eX rfl (vV (bZ T rfl rfl rfl rfl rfl (by omega) (by simp)) (vV (cJ T rfl rfl (eO rfl e1) rfl) (vV (by exact P0 hnd' hcmm rfl rfl rfl) ?_)))));refine vV (bP rfl rfl (by omega) (by omega)) (lQ mB jL rfl rfl (gC _) rfl rfl (pY _) (eR _) hni ?_))|(refine rg 20 (eX rfl (bH (by exact aS T rfl rfl (by decide) (by decide) rfl rfl rfl) rfl ?_));refine eL T rfl rfl rfl rfl rfl rfl (by simp) (iU.whole rfl rfl) rfl (by simp;omega) (by simp;omega) rfl ?_;refine aV ?_)|(refine rg 21 (vV (bP rfl rfl (by omega) (by omega)) (mV ?_)))|refine nZ ?_));all_goals exact ⟨⟨((⟨op'.set n false,out'.set n (out'.getD c (-1) + 1),q' ++ [n]⟩,hist' ++ [n]),[],d + 1),nx _ rfl⟩,by dsimp only;omega,[0,1,4],rfl,⟨rfl,rfl,rfl,(by simp only [List.length_cons,aF,List.length_nil];rfl),rfl,trivial⟩,⟨.inr rfl,.inr (aD rfl ZF hdv (uW _ _)),.inr (aC rfl PJ (jF _)),trivial⟩,by decide,gL⟩
    · obtain rfl : d = 6 := by omega
      have m3 : ((⟨op',out',q'⟩,hist') : SH) = sH (pK s.fl) c (⟨op,out,r'⟩,hist) := m3;have h4 : FR (pK s.fl) k (sH (pK s.fl) c (⟨op,out,r'⟩,hist)) = F := h4
      (repeat' (first|refine wS ?_|refine wE ?_|refine wU ?_|(refine rg 14 (vV (bG rfl rfl (by omega)) ?_))|(refine rg 12 (mW rfl (vV (by exact oN T rfl rfl rfl rfl rfl rfl (by omega) (by omega) (by omega)) ?_));refine aV ?_)|refine nZ ?_));all_goals exact ⟨⟨((⟨op',out',q'⟩,hist'),pre' ++ [c],k),m1.end,hm1,m4,by dsimp only;omega,by dsimp only;rw [m3];exact h4,fun y hy => by have := m5 y hy;dsimp only;omega⟩,by dsimp only;omega,[0,1,2],rfl,⟨rfl,rfl,rfl,(show some (AV.sl 2 (pre'.length + (1 : Int).toNat) (((q'.length + 1 : Nat) : Int) - 1).toNat 1) = some (AV.sl 2 (pre' ++ [c]).length q'.length 1) by rw [show pre'.length + (1 : Int).toNat = (pre' ++ [c]).length by simp,show (((q'.length + 1 : Nat) : Int) - 1).toNat = q'.length by omega]),trivial⟩,⟨.inr rfl,.inr (aD rfl rfl rfl (uW _ _)),.inr (aC rfl (by simp) (jF _)),trivial⟩,by decide,gL⟩
end Go.Proofs.YtdmajnjoeidgeaaGreat
namespace Go.Ab
open Go
theorem E9 {P : Program} {f : FuncId} {args : List AV} {Φ : AV → Hp → Prop} {Ψ : AV → Prop} (h : fT P f args [] Φ) (hv : ∀ r o,Φ r o → ∃ r',qD o r r' ∧ Ψ r') : fT P f args [] (fun r o => o = [] ∧ Ψ r) := by
  refine ⟨h.1,fun ρ S w vs hs ha => (h.2 ρ S w vs hs ha).mono ?_⟩;rintro e w' ⟨r,o,hΦ,y,ρ',S',rfl,h2,h3⟩;obtain ⟨r',hv',hψ⟩ := hv _ _ hΦ;exact ⟨r',[],⟨rfl,hψ⟩,y,_,_,rfl,h2.view rfl,G7 h2.blk hv' h3⟩
end Go.Ab
namespace Go.Proofs.YtdmajnjoeidgeaaGreat
open Go Go.Ab Go.Fl Go.Re Go.Ln Go.MapKept
attribute [local irreducible] VC AW bR bQ fT nK
set_option maxHeartbeats 4000000
def zN7 {α : Type} (L : List α) (d : List Nat) : List α := d.filterMap fun i => L[i]?
theorem VI {α : Type} {L : List α} {d : List Nat} {i : Nat} {e : α} (h : L[i]? = some e) : zN7 L (d ++ [i]) = zN7 L d ++ [e] := by
  unfold zN7;rw [jC];simp [h]
theorem ZQ {α : Type} {L : List α} {d : List Nat} (hd : d.Nodup) (hlt : ∀ i,i ∈ d → i < L.length) (hall : ∀ i,i < L.length → i ∈ d) : (zN7 L d).Perm L := by
  have hp : d.Perm (List.range L.length) := (L7 hd List.nodup_range).2 fun i => by
    rw [fC];exact ⟨hlt i,hall i⟩
  have h1 := hp.filterMap fun i => L[i]?
  have h2 : (List.range L.length).filterMap (fun i => L[i]?) = L := by
    have key : ∀ n,n ≤ L.length → (List.range n).filterMap (fun i => L[i]?) = L.take n := by
      intro n
      induction n with
      | zero => intro _;simp
      | succ n ih =>
        intro hn;rw [lO,jC,ih (by omega),aJ (by omega : n < L.length)]
        simp [aB (by omega : n < L.length)]
    rw [key _ (aY _),dU]
  rw [h2] at h1;exact h1
theorem zQ1 : ∀ w,(zeroValue 22).run Tryz.prog w = .ok (.slice none 0 0) w := zO (by kernel_rfl)
theorem WI (S : Nat → Prop) (w : World) (ρ : Pl) : R S w .nils ρ (.slice none 0 0) := by simp [R]
theorem OP {h : Hp} {i : Nat} {θ : Nat → Nat} {ks : List Value} {vs vs' : List AV} {bs : List Nat} {ck : Nat} (hk : h[i]? = some (.mapB ks vs' bs ck)) (e : vs' = vs) (hi : AV.idfL vs = true) : h[i]? = some ((AB.mapB ks vs bs ck).map θ) := by
  subst e;exact uK hk hi
def zF9 (L : List (Int × List Int)) (d : List Nat) : Int := (zN7 L d).foldl CZ 0
theorem TC {L : List (Int × List Int)} {d : List Nat} {i : Nat} {e : Int × List Int} (h : L[i]? = some e) : zF9 L (d ++ [i]) = max (zF9 L d) ((e.2.length : Int) - 1) := by
  unfold zF9;rw [VI h,lJ];rfl
theorem zA9 {b : Int} : ∀ {L : List (Int × List Int)} {n : Int}, n ≤ b → (∀ e, e ∈ L → (e.2.length : Int) - 1 ≤ b) → n ≤ L.foldl CZ n ∧ L.foldl CZ n ≤ b
  | [],n,h,_ => ⟨qS _,h⟩
  | e :: L,n,h,hl => by
    have h1 := hl e dC;rw [kQ];obtain ⟨a,c⟩ := zA9 (L := L) (n := CZ n e) (b := b) (by unfold CZ;omega) fun x hx => hl x (.tail _ hx)
    have hm : n ≤ CZ n e := by unfold CZ;omega
    exact ⟨CE hm a,c⟩
theorem YB {L : List (Int × List Int)} {d : List Nat} (hd : d.Nodup) (hlt : ∀ i,i ∈ d → i < L.length) (hall : ∀ i,i < L.length → i ∈ d) : zF9 L d = L.foldl CZ 0 :=
  (ZQ hd hlt hall).foldl_eq' (fun x _ y _ z => by unfold CZ;omega) 0
theorem NS (s : lN) (g : iL s.fl) : bQ Tryz.prog 32 [.agg (fS s)] [] (.i (nG s.fl)) [] := by
  have hN := g.le;have hb := g.bounds;have ho := JZ s g;have hll : ∀ e,e ∈ rF s.fl (bO s.fl) → (e.2.length : Int) ≤ s.fl.k.length + 1 := fun e he => by
    obtain ⟨h1,h2,h3⟩ := sU.1 he;obtain ⟨w1,w2,_⟩ := jG.1 h1;have := zZ g e.1.toNat (by omega)
    rw [h3,rE];omega
  unfold nG;generalize rF s.fl (bO s.fl) = L at *;refine dD T Tryz.func32 rfl rfl rfl rfl ?_
  (repeat' (first|refine wS ?_|refine wB ?_|(refine rg 0 (bH (bN rfl rfl) rfl (aV ?_)))|(refine rg 1 (aV ?_))|(refine rg 2 (lW T rfl (bH (by exact lX rfl rfl ho (.inr ⟨rfl,rfl,by simp⟩)) rfl ?_));refine JJ 1 rfl fun bs ck hb1' hb2' hb3' hb4'=>?_;refine bH (by exact AC R3 rfl rfl) rfl ?_)|refine nZ ?_));have hbl : bs.length = L.length := by rw [hb1'];simp
  refine bV (X := {d : List Nat // d.Nodup ∧ ∀ i,i ∈ d → i < L.length}) (fun d => [(3,.i (zF9 L d.1)),(8,.ptr 2 0)]) (fun d => [.cells (fS s),.mapB (MN L) (WF L) bs ck,.iter 1 ck (Q8 bs d.1) ck]) (fun d => L.length - d.1.length) ⟨[],dK,fun i hi => by cases hi⟩ ⟨[0,1,2],rfl,(by repeat first|exact trivial|refine ⟨rfl,?_⟩),⟨.inr rfl,.inr (OP rfl (dZ _ _ (nY _)) (nY _)),.inr rfl,trivial⟩,by decide,zD _⟩ ?_
  rintro ⟨d,hnd,hlt⟩;dsimp only;have hdl := xC hnd hlt
  repeat' (first|refine wS ?_|refine wB ?_|refine wK ?_|refine wE ?_|refine wT ?_|refine wU ?_|(refine rg 3 ?_;refine EH rfl rfl rfl hb4' (aY _) rfl (fun hend=>E5 1 rfl ?_) (fun i kv v b g1 g1' g2 g3=>?_);(all_goals (refine xV ?_)))|refine nZ ?_)
  · have hall := W9 hb3' (by rw [hbl];exact hlt) hend
    rw [hbl] at hall;have hmx := YB hnd hlt hall;rw [hmx]
    (repeat' (first|refine wR ?_|(refine rg 6 (mW rfl (aV ?_)))|refine nZ ?_));all_goals exact rQ
  · rw [aU] at g1;obtain ⟨⟨c,w⟩,hac,rfl⟩ := cQ.1 g1;have hv : v = .rowE (aI w) 1 := by rw [aU,hac] at g1';simpa using g1'.symm
    subst hv;have k1 : (MN L)[i]? = some (kI c) := by simp [hac]
    have k2 : (WF L)[i]? = some (.rowE (aI w) 1) := by simp [hac]
    have hnew := W8 g2 g3;have hil := (aA.1 hac).1;have hsn := N4 (d := d) g2;have hd' : (d ++ [i]).Nodup ∧ ∀ j,j ∈ d ++ [i] → j < L.length := ⟨F1 hnd hnew,fun j hj => (bI.1 hj).elim (hlt j) (fun e => by simp at e;rw [e];exact hil)⟩
    have hdl2 := xC hd'.1 hd'.2;rw [aF,dW] at hdl2;have hwl := hll _ (bD hac);dsimp only at hwl;have hms := TC (d := d) hac;dsimp only at hms;have hil2 : (aI w).length = w.length := aR _;generalize hT1 : zF9 L (d ++ [i]) = T1 at *;generalize zF9 L d = T0 at *
    (repeat' (first|(refine rg 4 (bH (by exact J9 rfl rfl rfl rfl g2 k1 k2) rfl ?_);refine xW rfl (aV ?_))|(refine rg 5 (eX rfl (qW T rfl (vV (fN rfl rfl (by omega) (by omega)) (vV (sC rfl rfl) (aV ?_))))))|refine nZ ?_));all_goals exact ⟨⟨d ++ [i],hd'⟩,by dsimp only;rw [aF,dW];omega,[0,1,2],rfl,⟨by dsimp only;rw [hT1,hms,← hil2];rfl,rfl,trivial⟩,⟨.inr rfl,.inr (uK rfl (nY _)),.inr (H0 rfl hsn),trivial⟩,by decide,zD _⟩
theorem zA8 (s : lN) (g : iL s.fl) (c : Int) (hc : uN c) : bQ Tryz.prog 10 [.agg (fS s),.i c] [] (.rowE (aI (lT s.fl c)) 1) [] := by
  have ho := JZ s g;have hnd := MQ (f := s.fl) ((sO s.fl).imp (fun h => by omega) : (bO s.fl).Nodup)
  unfold lT;by_cases h : c ∈ bO s.fl ∧ 0 ≤ lG s.fl c.toNat
  · rw [if_pos h];obtain ⟨i,hi⟩ := cU.1 (sU.2 ⟨h.1,h.2,rfl⟩ : (c,pO s.fl c.toNat) ∈ rF s.fl (bO s.fl));have k1 : (MN (rF s.fl (bO s.fl)))[i]? = some (kI c) := by simp [hi]
    have k2 : (WF (rF s.fl (bO s.fl)))[i]? = some (.rowE (aI (pO s.fl c.toNat)) 1) := by simp [hi]
    refine dD T Tryz.func10 rfl rfl rfl rfl ?_
    (repeat' (first|refine wS ?_|refine wR ?_|(refine rg 0 (bH (bN rfl rfl) rfl (aV ?_)))|(refine rg 1 (lW T rfl (bH (by exact lX rfl rfl ho (.inr ⟨rfl,rfl,by simp⟩)) rfl ?_));refine mW rfl (vV (by exact gR R3 jL rfl rfl (gC _) rfl (xT _) (eR _) hnd k1 (by rw [dZ _ _ (nY _)];exact k2)) ?_);refine aV ?_)|refine nZ ?_));all_goals exact rQ
  · rw [if_neg h];have hno : kI c ∉ MN (rF s.fl (bO s.fl)) := fun hm => by
      obtain ⟨e,he,q⟩ := aQ.1 hm;simp [kI] at q;obtain ⟨h1,h2,_⟩ := sU.1 he;rw [q] at h1 h2;exact h ⟨h1,h2⟩
    refine BB ?_;refine dD T Tryz.func10 rfl rfl rfl rfl ?_
    (repeat' (first|refine wS ?_|refine wR ?_|(refine rg 0 (bH (bN rfl rfl) rfl (aV ?_)))|(refine rg 1 (lW T rfl (bH (by exact lX rfl rfl ho (.inr ⟨rfl,rfl,by simp⟩)) rfl ?_));refine mW rfl (vV (by exact nI (zA := .nils) R3 jL zQ1 WI rfl rfl (gC _) rfl (xT _) (eR _) hno) ?_);refine aV ?_)|refine nZ ?_));all_goals exact rQ
theorem UI (s : lN) (W : List Int) (c : Int) : mF (iN s W c) 0 [] := ⟨dK,(fun e h => by cases h),fun _ => cH _,fun _ _ _ => rfl,rfl⟩
theorem zE6 : qF [] (kF []) := fun c p => by simp [kF]
theorem YT {s : lN} {W : List Int} {st : Int} {k : Nat} {Te : List iC} (h : mF (iN s W st) k Te) : ∀ e,e ∈ Te → YP W st (e.1,true) := fun e he => (KO h he).2
theorem uR (l : List fR) : ∀ e,e ∈ fG l → AV.idfL e = true := by intro e he;obtain ⟨x,_,rfl⟩ := aQ.1 he;rfl
theorem DD : ∀ l : List fR, AV.plnL (fG l).flatten = true
  | [] => rfl
  | _ :: l => DD l
theorem iH (l : List fR) : ∀ e,e ∈ fG l → e.length = 3 := by intro e he;obtain ⟨x,_,rfl⟩ := aQ.1 he;rfl
theorem Y9 (l : List fR) (x : fR) : ((fG l).drop 0).take l.length ++ [jH x] = fG (l ++ [x]) := by
  rw [fJ,bC (by simp)];simp
abbrev jR (l : List fR) (b : Int) : List AV := [.rowE (fG l) 3,.i b]
inductive LO (s : lN) : AV → Prop
  | ok (L : List fR) (h1 : L.map (·.1) = kL s.fl 4) (h2 : ∀ x,x ∈ L → vB s x) : LO s (.tup [.agg (jR L (nG s.fl)),.i (-1),.i 0])
  | no (L : List fR) (c : Int) (post : List Int) (h1 : L.map (·.1) ++ c :: post = kL s.fl 4) (h2 : ∀ x,x ∈ L → vB s x) (h3 : yS s c) : LO s (.tup [.agg (jR [] 0),.i c,.i 14])
theorem TJ (s : lN) (g : iL s.fl) : fT Tryz.prog 9 [.agg (fS s)] [] (fun r o => o = [] ∧ LO s r) := by
  have hN := g.le;have hbb := g.bounds;have cb := NS s g;have hWa := sO s.fl;have hWl := wZ s.fl;have cw := G6 s (by omega)
  have ck := I2 s 4 (by omega)
  have hWr : ∀ x,x ∈ bO s.fl → 0 ≤ x ∧ x < s.fl.k.length := fun x hx => by obtain ⟨h1,h2,_⟩ := jG.1 hx;exact ⟨h1,h2⟩
  have hKl := B8 s.fl.k 4 s.fl.k.length;have hKm : ∀ x,x ∈ kL s.fl 4 → 0 ≤ x ∧ x < s.fl.k.length ∧ sW s.fl x = false := fun x hx => by
    obtain ⟨h1,h2,h3⟩ := vR.1 hx;exact ⟨h1,h2,by unfold sW;rw [h3];decide⟩
  refine E9 (Φ := fun r o => (∃ L : List fR,L.map (·.1) = kL s.fl 4 ∧ (∀ x,x ∈ L → vB s x) ∧ r = .tup [.agg [.sl 0 0 L.length 3,.i (nG s.fl)],.i (-1),.i 0] ∧ o = [.arr (fG L) 3]) ∨
    (∃ (L : List fR) (c : Int) (post : List Int),L.map (·.1) ++ c :: post = kL s.fl 4 ∧ (∀ x,x ∈ L → vB s x) ∧ yS s c ∧ r = .tup [.agg [.nils,.i 0],.i c,.i 14] ∧ o = [])) ?_ ?_
  · generalize hKK : kL s.fl 4 = K at *;generalize nG s.fl = b at *;have hkl : (aI K).length = K.length := aR _;have hKl : K.length ≤ 300 := by rw [← hKK];exact bU hKl hN
    refine mM T Tryz.func9 rfl rfl rfl rfl ?_
    (repeat' (first|refine wS ?_|refine wB ?_|(refine rg 0 (bH (bN rfl rfl) rfl (bH (cX T rfl) rfl (iZ ?_))))|(refine rg 1 (lW T rfl (vV (kC (cb)) (vV (by exact gG T rfl rfl rfl rfl) ?_)));refine bH (cX T rfl) rfl (bJ T rfl rfl rfl rfl rfl rfl (by decide) rfl ?_))|(refine rg 2 (lW T rfl (vV (kC (cw)) (aV ?_))))|(refine rg 3 (lW T rfl (vV (kC (ck)) (qW T rfl (mV ?_)))))|refine nZ ?_));refine tZ 2 0 3 rfl rfl (by decide) ?_
    refine bV (X := {L : List fR // L.length ≤ K.length ∧ L.map (·.1) = K.take L.length ∧ ∀ x, x ∈ L → vB s x}) (fun L => [(1, .ptr 0 0), (2, .ptr 1 0), (5, .ptr 2 0), (6, .rowE (aI (bO s.fl)) 1), (17, .rowE (aI K) 1), (18, .i K.length), (19, .i (L.1.length : Int))])
      (fun L => [.cells (fS s),.cells [.nils,.i 0],.cells [.sl 3 0 L.1.length 3,.i b],.arr (fG L.1) 3]) (fun L => K.length - L.1.length) ⟨[],cH _,rfl,fun x hx => by cases hx⟩ ⟨[0,1,2,3],rfl,⟨rfl,rfl,rfl,rfl,rfl,congrArg (fun n : Nat => some (AV.i n)) hkl,rfl,trivial⟩,⟨.inr rfl,.inr rfl,.inr rfl,.inr rfl,trivial⟩,by decide,gL⟩ ?_
    rintro ⟨L,hLl,hLm,hLp⟩;dsimp only;by_cases hlt : L.length < K.length
    · have htk := aJ hlt;have hsp : K.take L.length ++ K[L.length] :: K.drop (L.length + 1) = K := by rw [← bK hlt,hC]
      have hcm : K[L.length] ∈ K := dB hlt;have q1 : (aI K)[(L.length : Int).toNat]? = some [AV.i K[L.length]] := by rw [aX];exact iF hlt
      generalize K[L.length] = c at *;obtain ⟨hc0,hc1,hcx⟩ := hKm c hcm;have hg1 := TX s g (bO s.fl) hWa (by omega) hWr c ⟨hc0,hc1⟩ hcx (UI s (bO s.fl) c) (fun e he => by cases he) (fun e he => by cases he) zE6 dK
      have hll : (fG L).length = L.length := by simp
      (repeat' (first|refine wS ?_|refine wB ?_|refine wK ?_|refine wT ?_|(refine rg 4 (vV (aL rfl rfl (by omega)) ?_))|(refine rg 5 (vV (ix T rfl (by omega) (aE _) q1) (lW T rfl (aV ?_))))|(refine rg 6 (lW T rfl (eX rfl (bH (by exact lR) rfl ?_)));refine bH (by exact lR) rfl ?_;refine vV (by exact gG T rfl rfl rfl rfl) ?_;refine bH (bN rfl rfl) rfl (aV ?_))|refine nZ ?_));refine kT [(1, .ptr 0 0), (2, .ptr 1 0), (5, .ptr 2 0), (6, .rowE (aI (bO s.fl)) 1), (8, .i c), (9, .ptr 6 0), (17, .rowE (aI K) 1), (18, .i K.length), (19, .i (L.length : Int))]
        [.cells (fS s),.cells [.nils,.i 0],.cells [.sl 3 0 L.length 3,.i b],.arr (fG L) 3,.mapO [] [],.mapO [] [],.cells (D0 s (bO s.fl) c (.mp 4) (.mp 5))] ⟨[0,1,2,3,4,5,6],rfl,(by repeat first|exact trivial|refine ⟨rfl,?_⟩),⟨.inr rfl,.inr rfl,.inr rfl,.inr (aC rfl rfl (uR _)),.inr rfl,.inr rfl,.inr rfl,trivial⟩,by decide,gL⟩ ?_
      repeat' (first|refine wS ?_|refine wK ?_|refine wT ?_|refine wU ?_|(refine rg 7 (mW rfl (mG [6,4,5] rfl rfl hg1 rfl rfl (by decide) ⟨.inr rfl,.inr (aD rfl rfl rfl rfl),.inr (aD rfl rfl rfl rfl),trivial⟩ (by simp) rfl ?_));rintro r o (⟨rfl,T1,U1,rfl,f1,f2,f3,f4⟩|⟨rfl,rfl,R1,f1⟩);(all_goals (refine vV (bB rfl) (mV ?_)));(all_goals first|(refine gT (mW rfl (gT (mG [6,4,7] rfl rfl (TX s g (bO s.fl) hWa (by omega) hWr c ⟨hc0,hc1⟩ hcx f1 f2 (YT f1) f3 f4) rfl rfl (by decide) ⟨.inr rfl,.inr (by exact aD rfl rfl (dZ _ _ (iW _)) (iW _)),.inr (by exact aD rfl rfl (dZ _ _ (iD _)) (iD _)),trivial⟩ (by simp) rfl ?_)));rintro r o (⟨rfl,T2,U2,rfl,k1,k2,k3,k4⟩|⟨rfl,rfl,R2,k1⟩))|(iterate 2 refine gF ?_));(all_goals first|(refine gT (vV (bB rfl) ?_))|(refine gF ?_));(all_goals (refine pV ?_)))|refine nZ ?_)
      · have hw2 := zC7 s g (bO s.fl) (by omega) hWr c k1 k3 k4
        (repeat' (first|(refine rg 9 (mW rfl (mG [6,4,8] rfl rfl hw2 rfl rfl (by decide) ⟨.inr rfl,.inr (by exact aD rfl rfl (dZ _ _ (iW _)) (iW _)),.inr (by exact aD rfl rfl (dZ _ _ (iD _)) (iD _)),trivial⟩ (by simp) rfl ?_));rintro r o ⟨es,bF,hwk,rfl,rfl⟩;refine aV ?_)|refine nZ ?_));obtain ⟨e0,e1,rfl,hp⟩ := zD1 k1 hwk
        refine kT [(1, .ptr 0 0), (2, .ptr 1 0), (5, .ptr 2 0), (6, .rowE (aI (bO s.fl)) 1), (8, .i c), (10, .sl 4 0 2 1), (17, .rowE (aI K) 1), (18, .i K.length), (19, .i (L.length : Int))]
          [.cells (fS s),.cells [.nils,.i 0],.cells [.sl 3 0 L.length 3,.i b],.arr (fG L) 3,.arr (GV [zP bF e0,zP bF e1]) 1] ⟨[0,1,2,3,9],rfl,(by repeat first|exact trivial|refine ⟨rfl,?_⟩),⟨.inr rfl,.inr rfl,.inr rfl,.inr (aC rfl rfl (uR _)),.inr (B1 rfl rfl),trivial⟩,by decide,gL⟩ ?_
        refine F9 10 rfl rfl rfl (kP (GU _)) ?_;have qa : (GV [zP bF e0,zP bF e1])[(0 : Int).toNat]? = some [.rowE (aI (zP bF e0)) 1] := rfl;have qb : (GV [zP bF e0,zP bF e1])[(1 : Int).toNat]? = some [.rowE (aI (zP bF e1)) 1] := rfl;generalize zP bF e0 = w0 at *;generalize zP bF e1 = w1 at *
        (repeat' (first|(refine sF (id := 10) 57 [[],[0],[],[],[3],[3,4],[],[6],[6,7],rM 2 7,rM 2 8,rN 11] (rM 42 12) [[],[],[42,43],[42,43,44],[42,43,44],[42,43,44],rM 42 6,rM 42 6,rM 42 6,[42,43],[42,43],[]] [(11,3)] bM rfl (by decide +kernel) (gA rfl rfl rfl rfl (by exact eJ T rfl rfl rfl) ?_);refine gA rfl rfl rfl rfl (by exact cJ T rfl rfl rfl rfl) ?_;refine gA rfl rfl rfl rfl (by exact jA rfl) ?_;refine gA rfl rfl rfl rfl (by exact jA rfl) ?_;refine gA rfl rfl rfl rfl (by exact ix T rfl (by decide) (ME _) qa) ?_;refine gA rfl rfl rfl rfl (by exact cJ T rfl rfl rfl rfl) ?_;refine gA rfl rfl rfl rfl (by exact jA rfl) ?_;refine gA rfl rfl rfl rfl (by exact ix T rfl (by decide) (ME _) qb) ?_;refine gA rfl rfl rfl rfl (by exact cJ T rfl rfl rfl rfl) ?_;refine gA rfl rfl rfl rfl (by exact gG T rfl rfl rfl rfl) ?_;refine AL rfl rfl rfl rfl (by exact aS T rfl rfl (by decide) (by decide) rfl rfl rfl) rfl ?_;refine F6 rfl rfl rfl rfl (bE rfl) (by exact sG T rfl rfl rfl rfl rfl rfl (by simp) (iU.whole rfl rfl) rfl (by simp;omega) (by simp;omega)) ?_;refine yI rfl rfl rfl (by exact rfl) ?_;refine fW T rfl (bJ T rfl rfl rfl rfl rfl rfl (by decide) rfl ?_))|(refine rg 11 (vV (bP rfl rfl (by omega) (by omega)) (mV ?_)))|refine nZ ?_));have hln : (L ++ [(c,w0,w1)]).length = L.length + 1 := by simp
        all_goals exact ⟨⟨L ++ [(c,w0,w1)],by rw [aF,dW];omega,by rw [cV,hLm,aF,dW,htk];rfl,fun x hx => (bI.1 hx).elim (hLp x) (fun h => by simp only [bY] at h;rw [h];exact hp)⟩,by dsimp only;rw [aF,dW];omega,[0,1,2,6],rfl,⟨rfl,rfl,rfl,rfl,rfl,rfl,(congrArg (fun n : Nat => some (AV.i (n : Int))) hln).symm,trivial⟩,⟨.inr rfl,.inr rfl,.inr (congrArg (fun n : Nat => some (AB.cells [.sl 6 0 n 3,.i b])) hln).symm,.inr (aC rfl (Y9 L (c,w0,w1)) (uR _)),trivial⟩,by decide,gL⟩
      · (repeat' (first|refine wR ?_|(refine rg 8 (vV (by exact gG T rfl rfl rfl rfl) ?_);refine mW rfl (bJ T rfl rfl rfl rfl rfl rfl (by decide) rfl (iZ ?_)))|(refine nZ ?_)));all_goals exact ⟨_,_,.inr ⟨L,c,K.drop (L.length + 1),by rw [hLm];exact hsp,hLp,WS g hcx f1 k1,rfl,rfl⟩,.inl rfl,[],_,rfl,rfl,rfl,trivial,dK,gL⟩
      · (repeat' (first|refine wR ?_|(refine rg 8 (vV (by exact gG T rfl rfl rfl rfl) ?_);refine mW rfl (bJ T rfl rfl rfl rfl rfl rfl (by decide) rfl (iZ ?_)))|(refine nZ ?_)));all_goals exact ⟨_,_,.inr ⟨L,c,K.drop (L.length + 1),by rw [hLm];exact hsp,hLp,WT g hcx (UI s (bO s.fl) c) f1,rfl,rfl⟩,.inl rfl,[],_,rfl,rfl,rfl,trivial,dK,gL⟩
    · have hle : L.length = K.length := by omega
      rw [hle,dU] at hLm
      (repeat' (first|refine wS ?_|refine wR ?_|refine wE ?_|refine wU ?_|(refine rg 4 (vV (bG rfl rfl (by omega)) ?_))|(refine rg 12 (lW T rfl (bJ T rfl rfl rfl rfl rfl rfl (by decide) rfl (iZ ?_))))|refine nZ ?_));all_goals exact ⟨_,_,.inl ⟨L,hLm,hLp,rfl,rfl⟩,.inl rfl,[3],_,rfl,rfl,rfl,⟨.inr (aC rfl rfl (uR _)),trivial⟩,by decide,gL⟩
  · rintro r o (⟨L,h1,h2,rfl,rfl⟩ | ⟨L,c,post,h1,h2,h3,rfl,rfl⟩)
    · refine ⟨_,?_,.ok L h1 h2⟩;have e : AV.rowE (fG L) 3 = .row (fG L).flatten L.length 3 := by simp [AV.rowE]
      dsimp only [jR];rw [e];refine .tup (.cons (.agg (.cons (.sl (es := fG L) rfl (by simp) ?_) (.cons (.v _) .nil))) (.cons (.v _) (.cons (.v _) .nil)))
      rw [fJ,bC (by simp)]
      exact lE _ (DD L)
    · exact ⟨_,.tup (.cons (.agg (.cons (.nils 3) (.cons (.v _) .nil))) (.cons (.v _) (.cons (.v _) .nil))),.no L c post h1 h2 h3⟩
end Go.Proofs.YtdmajnjoeidgeaaGreat
