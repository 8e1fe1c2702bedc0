/-
  Texts of the logic and of the layer,in one module (part 9).
-/
import Derived.Test.YtmmkhmilpeodnaaGreatI8
set_option maxHeartbeats 4000000
set_option linter.unusedVariables false
set_option linter.unusedSimpArgs false
set_option linter.unnecessarySimpa false
namespace Go.Ab
open Go
section
variable {P : Program} {env : dW} {h : Hp} {d : Option Nat} {ty : TypeId} {pos : String} {af : Array Edge} {g : Option (Nat × Bool)}
theorem V8 {t t2 : TypeId} {x y : Operand} {k k' : IntKind} {a b r : Int} (hx : evu env x=some (.v (.int k a))) (hy : evu env y=some (.v (.int k' b))) (h0 : 0≤b) (h1 : b.toNat≤k.bits) (e : a / 2 ^ b.toNat=r) :
    bX P ⟨d,.binOp .shr t x y t2,ty,pos,af,g⟩ env h 0 (fun _ => .v (.int k r)) (fun _ => []) := by
  subst e;exact sD hx hy h0 h1
theorem PM {t t2 : TypeId} {x y : Operand} {k k' : IntKind} {a b r : Int} (hx : evu env x=some (.v (.int k a))) (hy : evu env y=some (.v (.int k' b))) (h0 : 0≤b) (h1 : b.toNat≤k.bits) (e : k.wrap (a * 2 ^ b.toNat)=r) :
    bX P ⟨d,.binOp .shl t x y t2,ty,pos,af,g⟩ env h 0 (fun _ => .v (.int k r)) (fun _ => []) := by
  subst e;refine iF fun ρ S ac w p => ?_
  have h1' := rT (p.evu hx);have h2 := rT (p.evu hy);refine ⟨.int k (k.wrap (a * 2 ^ b.toNat)),?_,kM _⟩;have hg : (eqGuard .shl t x y (.int k a) (.int k' b)).run P w = .ok () w := rfl;simp [execOp,h1',h2,hg,binOp,Op.shift,Int.not_lt.2 h0,EM h1]
theorem C5 {t t2 : TypeId} {x y : Operand} {a : Int} (hx : evu env x=some (.i a)) (hy : evu env y=some (.i 3)) (h0 : 0≤a) (h1 : a<9223372036854775808) :
    bX P ⟨d,.binOp .and t x y t2,ty,pos,af,g⟩ env h 0 (fun _ => .i (a % 4)) (fun _ => []) := by
  refine tI hx hy fun w => ?_
  obtain ⟨n,rfl⟩ := Int.eq_ofNat_of_zero_le h0;have hn : n<18446744073709551616 := by omega
  have e : (BitVec.ofInt 64 (n : Int) &&& BitVec.ofInt 64 3).toNat=n % 4 := by
    rw [BitVec.toNat_and,BitVec.toNat_ofInt,BitVec.toNat_ofInt];have e1 : ((n : Int) % ((2 ^ 64 : Nat) : Int)).toNat=n := by
      have : ((2 ^ 64 : Nat) : Int)=18446744073709551616 := by decide
      rw [this];omega
    rw [e1,show ((3 : Int) % ((2 ^ 64 : Nat) : Int)).toNat=2 ^ 2 - 1 by decide,Nat.and_two_pow_sub_one_eq_mod]
  have e3 : IntKind.i64.wrap ((n % 4 : Nat) : Int)=((n % 4 : Nat) : Int) := IntWalk.i64_in _ (by omega)
  have hb : IntKind.i64.bits=64 := rfl;show (Op.intBits .and .i64 (n : Int) 3).run P w = _;simp only [Op.intBits];show Result.ok (Value.int .i64 (IntKind.i64.wrap ((BitVec.ofInt 64 (n : Int) &&& BitVec.ofInt 64 3).toNat : Int))) w = _;rw [e,e3];simp
end
end Go.Ab
namespace Go.Proofs.YtmmkhmilpeodnaaGreat
open Go Go.Ab Go.Ld
attribute [local irreducible] VC AW bX aR kY lL EQ yT
theorem zA8 (c : Cx) (hc : qI c) (ps : List Int) (all : List TR) (s : Ev) (hall : ∀ t,t∈all→qE c t.1 t.2.1∧0≤t.2.2∧t.2.2≤c.m) (hl : all.length≤20000) (ha : 0≤s.a∧s.a<c.bs.length) (hb : s.k=4→s.a<s.b∧s.b<c.bs.length) (hn : 0≤s.n∧s.n≤1099511627776) (hids : s.ids.length≤9223372036854775807) :
    aR Tryz.prog 32 [uW c.ks c.ls ps c.bs,gY c.m c.st c.er c.sl,.rowE (mL all) 3,zV4 s] [] (.sl 0 0 (oJ c s all).length 3) [.arr (mL (oJ c s all)) 3] := by
  have hll : (mL all).length=all.length := qO all;have hm0 := hc.s.1;have hm1 := hc.s.2.1;have hn8 := hc.f.n8;have hnl : (nats (List.range c.bs.length)).length=c.bs.length := by simp
  rw [hnl] at hn8
  let F : Nat→List TR := fun i => ((all.take i).flatMap fun t => pU c s t 4).foldl jC []
  have hF0 : F 0=[] := rfl;have hFs : ∀ i (h : i<all.length),F (i+1)=(pU c s all[i] 4).foldl jC (F i) := fun i h => TE c s h
  have hFl : ∀ i,i≤all.length→(F i).length≤i * 4 := fun i hi => by
    refine bA (C8 _ _) ?_;rw [List.length_nil,Nat.zero_add];refine bA (W2 _ 4 _ fun t _ => P3 c s t 4) ?_;rw [bD];omega
  have hFb : ∀ i t,t∈F i→t.1.length≤1000∧t.2.1.length≤1000 := fun i t ht => by
    rcases C7 ht with h | h
    · cases h
    · obtain ⟨u,hu,hx⟩ := fN.1 h;obtain ⟨_,d,_,hcan,rfl⟩ := C6.1 hx;have hr := ((hall u (eJ hu)).1.aft ha hb hcan);have h1 := hr.len;have h2 := hr.t.len;exact ⟨by show (qD _ _ _).length≤1000;omega,by show (vD _ _ _ _).length≤1000;omega⟩
  have hFe : F all.length=oJ c s all := by show ((all.take all.length).flatMap _).foldl jC [] = _;rw [dS];rfl
  clear_value F
  refine bO T Tryz.func32 rfl rfl rfl rfl ?_
  (repeat' (first|refine wS ?_|(refine rg 0 (bQ (cD rfl rfl) rfl (bQ (cD rfl rfl) rfl (bQ (cD rfl rfl) rfl (aV ?_)))))|refine nZ ?_));refine fC 4 (cs := [.rowE (gB c.ks) 2,.rowE (jU c.ls) 3,.rowE (ints ps) 1,.rowE (cW c.bs) 3]) rfl rfl rfl ?_
  refine fC 5 (cs := [.i c.m,.i c.st,.i c.er,.i c.sl]) rfl rfl rfl ?_;refine fC 7 (cs := yD s) rfl rfl rfl ?_
  repeat' (first|refine wS ?_|(refine rg 1 (vV (eI rfl) (rP 9 3 rfl (by decide) ?_)))|refine nZ ?_)
  (repeat' (first|refine wB ?_|(refine rg 2 (aV ?_))|refine nZ ?_));refine cN (X := {x : Nat × List TR // x.1≤all.length∧F x.1=x.2}) (fun x => [(2,.rowE (mL all) 3),(4,.pr [.rowE (gB c.ks) 2,.rowE (jU c.ls) 3,.rowE (ints ps) 1,.rowE (cW c.bs) 3] 0),(5,.pr [.i c.m,.i c.st,.i c.er,.i c.sl] 0),(7,.pr (yD s) 0),(9,.sl 0 0 x.1.2.length 3),(10,.i (x.1.1 : Int))]) (fun x => [.arr (mL x.1.2) 3]) (fun x => all.length - x.1.1) ⟨(0,[]),bU _,hF0⟩ ⟨[3],rfl,(by repeat first|exact trivial|refine ⟨rfl,?_⟩),⟨.inr rfl,trivial⟩,by decide,kV _⟩ ?_
  rintro ⟨⟨i,O⟩,hi,hO⟩;dsimp only at hi hO ⊢;have hFi := hFl i hi;have hFb := hFb i;rw [hO] at hFi hFb;by_cases hlt : i<all.length
  · have hFs := hFs i hlt;obtain ⟨r1,r2,r3⟩ := hall _ (aI hlt);have q1 := HO hlt;have hag := TY hc r1 ha hn hids;have haf := fun done => zA7 hc r1 ha hb hn hids done
    have hmi := QE c.st (all[i].1.getD s.a.toNat 0) s.k s.ids;change 0≤rZ c all[i].1 s∧rZ c all[i].1 s≤1 at hmi;have hge := zN (c := c) (s := s) (t := all[i]);have hno := fun k => YL c s all[i] k
    have hsu := fun k => MP c s all[i] k
    have hfl := fun k => P3 c s all[i] k
    have hfb : ∀ k x,x∈pU c s all[i] k→x.1.length≤1000∧x.2.1.length≤1000 := fun k x hx => by
      obtain ⟨_,d,_,hcan,rfl⟩ := C6.1 hx;have hr := r1.aft ha hb hcan;have h1 := hr.len;have h2 := hr.t.len;exact ⟨by show (qD _ _ _).length≤1000;omega,by show (vD _ _ _ _).length≤1000;omega⟩
    have hz : pU c s all[i] 0=[] := by unfold pU;split <;> rfl
    have hat : ∀ k : Int,NJ c s all[i] k=(qD all[i].1 s k,vD all[i].1 all[i].2.1 s k,all[i].2.2+rZ c all[i].1 s) := fun k => rfl
    generalize K1 c s all[i]=go at *;generalize hfr : pU c s all[i]=fr at *;generalize hfa : NJ c s all[i]=fa at *;generalize all[i]=t at *;obtain ⟨pt,bt,mt⟩ := t
    replace q1 : (mL all)[(i : Int).toNat]? = some [.rowE (Go.Ab.ints pt) 1,.rowE (cW bt) 3,.i mt] := q1
    dsimp only at *;generalize rZ c pt s=mi at *;generalize iX bt=qt at *;generalize KU c pt qt s=ag at *;rw [hO] at hFs;generalize hO' : F (i+1)=O' at *;cases go with
    | false =>
      have hn4 := hno 4 rfl;rw [hn4] at hFs;have hFs : O'=O := hFs;subst hFs;have hng : ¬ (ag=true∧mt+mi≤c.m) := fun q => by have := hge.2 q;cases this
      cases ag with
      | false =>
        (repeat' (first|refine wS ?_|refine wB ?_|refine wK ?_|(refine wC rfl ?_ ?_<;>(intro hb;(try simp only [nm] at hb);try (exfalso;omega)))|(refine rg 3 (dK rfl (qW T rfl (vV (aL rfl rfl) ?_))))|(refine rg 5 (dK rfl (vV (ix T rfl (by omega) (uA _) q1) (lW T rfl (bQ (bT T rfl) rfl (aU T rfl rfl rfl rfl rfl rfl (by decide) rfl ?_))))))|refine nZ ?_));all_goals try (exfalso;omega)
        refine fC 11 (cs := [.rowE (Go.Ab.ints pt) 1,.rowE (cW bt) 3,.i mt]) rfl rfl rfl ?_
        (repeat' (first|refine wS ?_|refine wB ?_|(refine rg 6 (lW T rfl (gH T rfl (gH T rfl (gH T rfl (gH T rfl (lW T rfl (vV (kC (hag)) (mW rfl (xV ?_)))))))));refine xW rfl (qJ ?_))|(refine rg 7 (aV ?_))|refine nZ ?_));all_goals try (exfalso;omega)
        refine cN (X := Unit) (fun _ => [(2,.rowE (mL all) 3),(4,.pr [.rowE (gB c.ks) 2,.rowE (jU c.ls) 3,.rowE (ints ps) 1,.rowE (cW c.bs) 3] 0),(5,.pr [.i c.m,.i c.st,.i c.er,.i c.sl] 0),(7,.pr (yD s) 0),(9,.sl 0 0 O'.length 3),(10,.i (i : Int)),(11,.pr [.rowE (Go.Ab.ints pt) 1,.rowE (cW bt) 3,.i mt] 0),(12,.i mi),(13,.b false),(14,.i 0)]) (fun _ => [.arr (mL O') 3]) (fun _ => 0) () ⟨[0],rfl,(by repeat first|exact trivial|refine ⟨rfl,?_⟩),⟨.inr (aD rfl rfl (jD _)),trivial⟩,by decide,kV _⟩ ?_
        rintro ⟨⟩
        (repeat' (first|refine wS ?_|refine wE ?_|refine wU ?_|(refine rg 8 (mW rfl (vV (iO rfl rfl) (mW rfl (yN rfl (pW rfl (mV ?_))))));(iterate 7 refine gF ?_);refine pV ?_)|(refine iA 4 rfl rfl rfl (by omega) (by omega) ?_)|refine nZ ?_));all_goals try (exfalso;omega)
        all_goals exact ⟨⟨(i+1,O'),hlt,hO'⟩,by dsimp only;omega,⟨[0],rfl,(by repeat first|exact trivial|refine ⟨rfl,?_⟩),⟨.inr (aD rfl rfl (jD _)),trivial⟩,by decide,kV _⟩⟩
      | true =>
        have hng2 : ¬ (mt+mi≤c.m) := fun q => hng ⟨rfl,q⟩
        (repeat' (first|refine wS ?_|refine wB ?_|refine wK ?_|(refine wC rfl ?_ ?_<;>(intro hb;(try simp only [nm] at hb);try (exfalso;omega)))|(refine rg 3 (dK rfl (qW T rfl (vV (aL rfl rfl) ?_))))|(refine rg 5 (dK rfl (vV (ix T rfl (by omega) (uA _) q1) (lW T rfl (bQ (bT T rfl) rfl (aU T rfl rfl rfl rfl rfl rfl (by decide) rfl ?_))))))|refine nZ ?_));all_goals try (exfalso;omega)
        refine fC 11 (cs := [.rowE (Go.Ab.ints pt) 1,.rowE (cW bt) 3,.i mt]) rfl rfl rfl ?_
        (repeat' (first|refine wS ?_|refine wB ?_|(refine rg 6 (lW T rfl (gH T rfl (gH T rfl (gH T rfl (gH T rfl (lW T rfl (vV (kC (hag)) (mW rfl (xV ?_)))))))));refine xW rfl (qJ ?_))|(refine rg 7 (aV ?_))|refine nZ ?_));all_goals try (exfalso;omega)
        refine cN (X := Unit) (fun _ => [(2,.rowE (mL all) 3),(4,.pr [.rowE (gB c.ks) 2,.rowE (jU c.ls) 3,.rowE (ints ps) 1,.rowE (cW c.bs) 3] 0),(5,.pr [.i c.m,.i c.st,.i c.er,.i c.sl] 0),(7,.pr (yD s) 0),(9,.sl 0 0 O'.length 3),(10,.i (i : Int)),(11,.pr [.rowE (Go.Ab.ints pt) 1,.rowE (cW bt) 3,.i mt] 0),(12,.i mi),(13,.b true),(14,.i 0)]) (fun _ => [.arr (mL O') 3]) (fun _ => 0) () ⟨[0],rfl,(by repeat first|exact trivial|refine ⟨rfl,?_⟩),⟨.inr (aD rfl rfl (jD _)),trivial⟩,by decide,kV _⟩ ?_
        rintro ⟨⟩
        (repeat' (first|refine wS ?_|refine wE ?_|refine wU ?_|(refine rg 8 (mW rfl (vV (xG rfl rfl (by omega)) (mW rfl (yN rfl (pW rfl (mW rfl (yP T rfl (yO T rfl (yM ?_)))))))));refine yV (bV rfl rfl (by omega) (by omega)) (yP T rfl (yO T rfl (yV (PN rfl rfl (by omega)) (pV ?_)))))|(refine iA 4 rfl rfl rfl (by omega) (by omega) ?_)|refine nZ ?_));all_goals try (exfalso;omega)
        all_goals exact ⟨⟨(i+1,O'),hlt,hO'⟩,by dsimp only;omega,⟨[0],rfl,(by repeat first|exact trivial|refine ⟨rfl,?_⟩),⟨.inr (aD rfl rfl (jD _)),trivial⟩,by decide,kV _⟩⟩
    | true =>
      obtain ⟨g1,g2⟩ := hge.1 rfl;subst g1;have hsu := fun k => hsu k rfl
      (repeat' (first|refine wS ?_|refine wB ?_|refine wK ?_|(refine wC rfl ?_ ?_<;>(intro hb;(try simp only [nm] at hb);try (exfalso;omega)))|(refine rg 3 (dK rfl (qW T rfl (vV (aL rfl rfl) ?_))))|(refine rg 5 (dK rfl (vV (ix T rfl (by omega) (uA _) q1) (lW T rfl (bQ (bT T rfl) rfl (aU T rfl rfl rfl rfl rfl rfl (by decide) rfl ?_))))))|refine nZ ?_));all_goals try (exfalso;omega)
      refine fC 11 (cs := [.rowE (Go.Ab.ints pt) 1,.rowE (cW bt) 3,.i mt]) rfl rfl rfl ?_
      (repeat' (first|refine wS ?_|refine wB ?_|(refine rg 6 (lW T rfl (gH T rfl (gH T rfl (gH T rfl (gH T rfl (lW T rfl (vV (kC (hag)) (mW rfl (xV ?_)))))))));refine xW rfl (qJ ?_))|(refine rg 7 (aV ?_))|refine nZ ?_));all_goals try (exfalso;omega)
      refine cN (X := {x : Nat × List TR // x.1≤4∧(fr x.1).foldl jC O=x.2}) (fun x => [(2,.rowE (mL all) 3),(4,.pr [.rowE (gB c.ks) 2,.rowE (jU c.ls) 3,.rowE (ints ps) 1,.rowE (cW c.bs) 3] 0),(5,.pr [.i c.m,.i c.st,.i c.er,.i c.sl] 0),(7,.pr (yD s) 0),(9,.sl 0 0 x.1.2.length 3),(10,.i (i : Int)),(11,.pr [.rowE (Go.Ab.ints pt) 1,.rowE (cW bt) 3,.i mt] 0),(12,.i mi),(13,.b true),(14,.i (x.1.1 : Int))]) (fun x => [.arr (mL x.1.2) 3]) (fun x => 4 - x.1.1) ⟨(0,O),bU _,by rw [hz];rfl⟩ ⟨[0],rfl,(by repeat first|exact trivial|refine ⟨rfl,?_⟩),⟨.inr (aD rfl rfl (jD _)),trivial⟩,by decide,kV _⟩ ?_
      rintro ⟨⟨d,D⟩,hd,hD⟩;dsimp only at hd hD ⊢;by_cases hd4 : d<4
      · have hsu := hsu d;have haf := haf (d : Int);have hat := hat (d : Int);rw [iI] at haf;have hfold : (fr (d+1)).foldl jC O=if sH c pt qt s (d : Int)=true then jC ((fr d).foldl jC O) (fa (d : Int)) else (fr d).foldl jC O := by
          rw [hsu,wL];split <;> rfl
        have hOl : ((fr d).foldl jC O).length≤1000000 := by
          have := C8 (fr d) O;have := hfl d;omega
        have hOb : ∀ t,t∈(fr d).foldl jC O→t.1.length≤1000∧t.2.1.length≤1000 := fun t ht => by
          rcases C7 ht with h | h
          · exact hFb t h
          · exact hfb d t h
        have hwi := zD1 ((fr d).foldl jC O) (fa (d : Int)) hOl hOb;have hwn := UK ((fr d).foldl jC O) (fa (d : Int)) hOl hOb;rw [hat] at hwi hwn hfold;generalize qD pt s (d : Int)=pa at *;generalize vD pt bt s (d : Int)=ba at *;generalize sH c pt qt s (d : Int)=cn at *;rw [hD] at hfold hwi hwn hOl hOb;generalize hD' : (fr (d+1)).foldl jC O=D' at *;cases cn with
        | false =>
          rw [if_neg (by simp)] at hfold
          subst hfold;obtain ⟨_,haf⟩ := haf.resolve_left (fun q => by cases q.1)
          (repeat' (first|refine wS ?_|refine wB ?_|refine wK ?_|refine wT ?_|refine wU ?_|(refine rg 8 (mW rfl (vV (xG rfl rfl (by omega)) (mW rfl (yN rfl (pW rfl (mW rfl (yP T rfl (yO T rfl (yM ?_)))))))));refine yV (bV rfl rfl (by omega) (by omega)) (yP T rfl (yO T rfl (yV (xG rfl rfl (by omega)) (pV ?_)))))|(refine rg 10 (lW T rfl (gH T rfl (gH T rfl (gH T rfl (gH T rfl (lW T rfl (mW rfl (vV (kC (haf)) (mV ?_)))))))));refine xW rfl (xW rfl (xW rfl (zB1 rfl (aV ?_)))))|(refine rg 11 (mV ?_))|(refine iA 9 rfl rfl rfl (by omega) (by omega) ?_)|refine nZ ?_));all_goals try (exfalso;omega)
          all_goals exact ⟨⟨(d+1,D'),hd4,hD'⟩,by dsimp only;omega,⟨[0],rfl,(by repeat first|exact trivial|refine ⟨rfl,?_⟩),⟨.inr (aD rfl rfl (jD _)),trivial⟩,by decide,kV _⟩⟩
        | true =>
          rw [if_pos rfl] at hfold;obtain ⟨_,haf⟩ := haf.resolve_right (fun q => by cases q.1)
          cases hh : zS1 D (pa,ba,mt+mi) with
          | true =>
            have hw := hwi hh;rw [← hfold] at hw
            (repeat' (first|refine wS ?_|refine wB ?_|refine wK ?_|refine wT ?_|(refine rg 8 (mW rfl (vV (xG rfl rfl (by omega)) (mW rfl (yN rfl (pW rfl (mW rfl (yP T rfl (yO T rfl (yM ?_)))))))));refine yV (bV rfl rfl (by omega) (by omega)) (yP T rfl (yO T rfl (yV (xG rfl rfl (by omega)) (pV ?_)))))|(refine rg 10 (lW T rfl (gH T rfl (gH T rfl (gH T rfl (gH T rfl (lW T rfl (mW rfl (vV (kC (haf)) (mV ?_)))))))));refine xW rfl (xW rfl (xW rfl (zB1 rfl (aV ?_)))))|(refine rg 11 (mV ?_))|(refine rg 12 (dK rfl (mW rfl (gH T rfl (mW rfl (vV (bV rfl rfl (by omega) (by omega)) (vV (by exact eU T rfl rfl rfl rfl) ?_))))));refine fF [0] rfl rfl (hw) rfl rfl (by decide) ⟨.inr (aD rfl rfl (jD _)),trivial⟩ (by simp) rfl ?_;refine aV ?_)|(refine iA 9 rfl rfl rfl (by omega) (by omega) ?_)|refine nZ ?_));all_goals try (exfalso;omega)
            all_goals exact ⟨⟨(d+1,D'),hd4,hD'⟩,by dsimp only;omega,⟨[0],rfl,(by repeat first|exact trivial|refine ⟨rfl,?_⟩),⟨.inr (aD rfl (bY _ (jD _)) (jD _)),trivial⟩,by decide,kV _⟩⟩
          | false =>
            have hw := hwn hh;rw [← hfold] at hw
            (repeat' (first|refine wS ?_|refine wB ?_|refine wK ?_|refine wT ?_|(refine rg 8 (mW rfl (vV (xG rfl rfl (by omega)) (mW rfl (yN rfl (pW rfl (mW rfl (yP T rfl (yO T rfl (yM ?_)))))))));refine yV (bV rfl rfl (by omega) (by omega)) (yP T rfl (yO T rfl (yV (xG rfl rfl (by omega)) (pV ?_)))))|(refine rg 10 (lW T rfl (gH T rfl (gH T rfl (gH T rfl (gH T rfl (lW T rfl (mW rfl (vV (kC (haf)) (mV ?_)))))))));refine xW rfl (xW rfl (xW rfl (zB1 rfl (aV ?_)))))|(refine rg 11 (mV ?_))|(refine rg 12 (dK rfl (mW rfl (gH T rfl (mW rfl (vV (bV rfl rfl (by omega) (by omega)) (vV (by exact eU T rfl rfl rfl rfl) ?_))))));refine fF [0] rfl rfl (hw) rfl rfl (by decide) ⟨.inr (aD rfl rfl (jD _)),trivial⟩ (by simp) rfl ?_;refine aV ?_)|(refine iA 9 rfl rfl rfl (by omega) (by omega) ?_)|refine nZ ?_));all_goals try (exfalso;omega)
            all_goals exact ⟨⟨(d+1,D'),hd4,hD'⟩,by dsimp only;omega,⟨[1],rfl,(by repeat first|exact trivial|refine ⟨rfl,?_⟩),⟨.inr (aD rfl (bY _ (jD _)) (jD _)),trivial⟩,by decide,kV _⟩⟩
      · obtain rfl : d=4 := by omega
        have hDO : D=O' := by rw [← hD,← hFs]
        subst hDO
        (repeat' (first|refine wS ?_|refine wE ?_|refine wU ?_|(refine rg 8 (mW rfl (vV (PN rfl rfl (by omega)) (mW rfl (gF (pW rfl (mV ?_))))));(iterate 7 refine gF ?_);refine pV ?_)|(refine iA 4 rfl rfl rfl (by omega) (by omega) ?_)|refine nZ ?_));all_goals try (exfalso;omega)
        all_goals exact ⟨⟨(i+1,D),hlt,hO'⟩,by dsimp only;omega,⟨[0],rfl,(by repeat first|exact trivial|refine ⟨rfl,?_⟩),⟨.inr (aD rfl rfl (jD _)),trivial⟩,by decide,kV _⟩⟩
  · obtain rfl : i=all.length := by omega
    have hOA : O=oJ c s all := by rw [← hO,hFe]
    rw [← hOA]
    (repeat' (first|refine wS ?_|refine wR ?_|refine wE ?_|(refine wC rfl ?_ ?_<;>(intro hb;(try simp only [nm] at hb);try (exfalso;omega)))|(refine rg 3 (dK rfl (qW T rfl (vV (aL rfl rfl) ?_))))|(refine rg 13 (mW rfl (aV ?_)))|refine nZ ?_));all_goals try (exfalso;omega)
    all_goals exact ⟨.inl rfl,[0],_,rfl,rfl,rfl,⟨.inr (aD rfl rfl (jD _)),trivial⟩,by decide,kV _⟩
theorem zM4 : EQ Tryz.prog 4 := by unfold EQ;kernel_rfl
theorem XV : yT Tryz.prog 3 .i64 := by unfold yT;kernel_rfl
theorem NZ : yT Tryz.prog 119 .u64 := by unfold yT;kernel_rfl
theorem TW {n : Nat} {w : List Nat} (h : w∈PA.allM (n : Int)) : w.Perm (List.range n) := by
  unfold PA.allM at h;split at h
  · unfold PA.allK at h;rw [bJ] at h;obtain ⟨k,hk,rfl⟩ := bE.1 h;exact (Go.Pm.rank_unr n (List.range n) k T4 (Go.Pm.up_range n) (eF.1 hk)).1
  · cases h
theorem zK8 (c : Cx) (hc : qI c) (gs : List G) (all : List TR) (h : nS c gs) (e : CJ c gs all) (hl : all.length≤100000) {n : Nat} (hn : c.bs.length=n) (hn1 : 1≤n) (hn3 : n≤3) :
    aR Tryz.prog 33 [.pr (gN c gs) 0,.rowE (mL all) 3,.i (n : Int)] [] (.b true) [] := by
  have hm1 := hc.s.2.1;have hall := PA.all_c (n : Int);have hpm := fun w hw => TW (n := n) (w := w) hw;have htb : ∀ t,t∈all→t.1.length≤1000∧t.2.1.length≤1000 := fun t ht => by
    obtain ⟨r,_⟩ := e.ok t ht;have h1 := r.len;have h2 := r.t.len;omega
  have hPl : (PA.lls (PA.allM (n : Int))).length=(PA.allM (n : Int)).length := PA.lls_length _;have hPk : (PA.allM (n : Int)).length≤1000000 := by
    unfold PA.allM;split
    · rw [PA.allK_len,bJ];exact bA (Go.Pm.fact_mono (show n≤3 by omega)) (by decide)
    · simp
  generalize PA.allM (n : Int)=Ps at *;refine bO T Tryz.func33 rfl rfl rfl rfl ?_
  (repeat' (first|refine wS ?_|refine wB ?_|(refine rg 0 (aV ?_))|(refine rg 1 (mW rfl (vV (kC (hall)) (aV ?_))))|(refine rg 2 (aV ?_))|refine nZ ?_));refine cN (X := {i : Nat // i≤Ps.length}) (fun i => [(0,.pr (gN c gs) 0),(1,.rowE (mL all) 3),(2,.i (n : Int)),(7,.rowE (PA.lls Ps) 1),(8,.i (i.1 : Int))]) (fun _ => []) (fun i => Ps.length - i.1) ⟨0,bU _⟩ (eA []) ?_
  rintro ⟨i,hi⟩;dsimp only at hi ⊢;by_cases hlt : i<Ps.length
  · have hpi := hpm _ (aI hlt);have q1 : (PA.lls Ps)[(i : Int).toNat]? = some [.rowE (Go.Ab.ints (nats Ps[i])) 1] := by simp [hlt]
    generalize Ps[i]=p at *;have hpp : (nats p).Perm (nats (List.range c.bs.length)) := by rw [hn];exact hpi.map _
    have hpl : (nats p).length=c.bs.length := by have := hpi.length_eq;simp at this ⊢;omega
    generalize nats p=P at *
    (repeat' (first|refine wS ?_|refine wB ?_|refine wK ?_|(refine wC rfl ?_ ?_<;>(intro hb;(try simp only [nm] at hb);try (exfalso;omega)))|(refine rg 3 (dK rfl (qW T rfl (vV (aL rfl rfl) ?_))))|(refine rg 5 (aV ?_))|refine nZ ?_));all_goals try (exfalso;omega)
    refine cN (X := {k : Nat // k≤64}) (fun k => [(0,.pr (gN c gs) 0),(1,.rowE (mL all) 3),(2,.i (n : Int)),(7,.rowE (PA.lls Ps) 1),(8,.i (i : Int)),(9,.i (k.1 : Int))]) (fun _ => []) (fun k => 64 - k.1) ⟨0,bU _⟩ (eA []) ?_;rintro ⟨k,hk⟩;dsimp only at hk ⊢;by_cases hk64 : k<64
    · have hq : PQ c P (([(k : Int) % 4,(k : Int) / 4 % 4,(k : Int) / 16 % 4] : List Int).take n) := ⟨hpl,by rw [bD];simp;omega,hpp,fun x hx => by
        have := eJ hx;simp only [bR,yS,or_false] at this
        omega⟩
      have hag := EK c gs P (([(k : Int) % 4,(k : Int) / 4 % 4,(k : Int) / 16 % 4] : List Int).take n) h hm1 (by omega) (by have := hq.ql;omega)
      rw [e.among h hq] at hag;have ham := zM8 all P (([(k : Int) % 4,(k : Int) / 4 % 4,(k : Int) / 16 % 4] : List Int).take n) (by omega) htb
      generalize H2 all P _ = v at *;have hs1 : (k : Int) / 2 ^ (2 : Int).toNat=(k : Int) / 4 := rfl;have hs2 : (k : Int) / 2 ^ (4 : Int).toNat=(k : Int) / 16 := rfl;have hq1 : 0≤(k : Int) / 4∧(k : Int) / 4<64 := by omega
      have hq2 : 0≤(k : Int) / 16∧(k : Int) / 16<64 := by omega
      obtain ⟨B,hB⟩ : ∃ B,IntKind.i64.wrap (1 * 2 ^ (2 * (n : Int)).toNat)=B := ⟨_,rfl⟩;have hcase : n=1∨n=2∨n=3 := by omega
      rcases hcase with rfl | rfl | rfl
      all_goals
        by_cases hkB : (k : Int)<B
        · (repeat' (first|refine wS ?_|refine wB ?_|refine wK ?_|refine BI rfl ?_|(refine wC rfl (fun hb => ?_) (fun hb => ?_) <;> (((try simp only [nm] at hb);try (exfalso;omega))))|(refine rg 6 (mW rfl (vV (aL rfl rfl) ?_)))|(refine rg 8 (mW rfl (vV (C5 rfl rfl (by omega) (by omega)) (mW rfl (vV (V8 rfl rfl (by decide) (by decide) hs1) (vV (C5 rfl rfl (by omega) (by omega)) (mW rfl (vV (V8 rfl rfl (by decide) (by decide) hs2) (vV (C5 rfl rfl (by omega) (by omega)) (bQ (by exact bC T rfl rfl (by decide) (by decide) rfl rfl rfl) rfl ?_)))))))));refine kR 31 rfl rfl rfl rfl ?_;refine aV ?_)|(refine rg 9 (dK rfl (vV (sE rfl rfl (by omega) (by omega)) (vV (iM XV NZ rfl (W9 (by omega) (by omega))) (vV (by exact PM rfl rfl (by decide) (by decide) hB) ?_))));refine vV (zJ3 rfl rfl (by omega)) ?_)|(refine nZ ?_)));all_goals try (exfalso;omega)
          refine fE [(0,.pr (gN c gs) 0),(1,.rowE (mL all) 3),(2,.i _),(7,.rowE (PA.lls Ps) 1),(8,.i (i : Int)),(9,.i (k : Int)),(10,.rowE [[.i ((k : Int) % 4)],[.i ((k : Int) / 4 % 4)],[.i ((k : Int) / 16 % 4)]] 1)] [] (eA []) ?_
          repeat' (first|refine wS ?_|(refine rg 10 (dK rfl (vV (AO rfl rfl) ?_));refine vV (by first|exact zP (k := 1) T rfl rfl rfl rfl rfl (aN rfl) (by intro e he;simp at he;rcases he with rfl|rfl|rfl<;>rfl)|exact zP (k := 2) T rfl rfl rfl rfl rfl (aN rfl) (by intro e he;simp at he;rcases he with rfl|rfl|rfl<;>rfl)|exact zP (k := 3) T rfl rfl rfl rfl rfl (aN rfl) (by intro e he;simp at he;rcases he with rfl|rfl|rfl<;>rfl)) ?_;(all_goals (refine aV ?_)))|refine nZ ?_)
          cases v
          all_goals
            (repeat' (first|refine wK ?_|refine wU ?_|(refine bN (id := 11) 57 [[],[],[],[1,2],[1,2,3],[],rN 6,[],[],[],[8,9],[8,9,10],[],rN 13,rN 14] (rM 42 15) [[],[42],[42,43],[42],[42],rM 42 5,[],rM 42 7,rM 42 8,rM 42 9,rM 42 8,rM 42 8,rM 42 12,[],[]] cJ rfl (by decide +kernel) (dN rfl (dN rfl (dN rfl (dV rfl (ix T rfl (by omega) (PA.lls_len _) q1) (dO T rfl (dN rfl (dV rfl (kC (hag)) (dN rfl (dM ?_)))))))));refine dN rfl (dV rfl (ix T rfl (by omega) (PA.lls_len _) q1) (dO T rfl (dN rfl (dV rfl (kC (ham)) (dV rfl (YJ zM4 rfl rfl) (dE ?_)))))))|(refine iA 7 rfl rfl rfl (by omega) (by omega) ?_)|refine nZ ?_));all_goals try (exfalso;omega)
            exact ⟨⟨k+1,hk64⟩,by dsimp only;omega,eA []⟩
        · (repeat' (first|refine wS ?_|refine wB ?_|refine wK ?_|refine wE ?_|refine rL rfl ?_|(refine wC rfl (fun hb => ?_) (fun hb => ?_) <;> (((try simp only [nm] at hb);try (exfalso;omega))))|(refine rg 6 (mW rfl (vV (aL rfl rfl) ?_)))|(refine rg 8 (mW rfl (vV (C5 rfl rfl (by omega) (by omega)) (mW rfl (vV (V8 rfl rfl (by decide) (by decide) hs1) (vV (C5 rfl rfl (by omega) (by omega)) (mW rfl (vV (V8 rfl rfl (by decide) (by decide) hs2) (vV (C5 rfl rfl (by omega) (by omega)) (bQ (by exact bC T rfl rfl (by decide) (by decide) rfl rfl rfl) rfl ?_)))))))));refine kR 31 rfl rfl rfl rfl ?_;refine aV ?_)|(refine rg 9 (dK rfl (vV (sE rfl rfl (by omega) (by omega)) (vV (iM XV NZ rfl (W9 (by omega) (by omega))) (vV (by exact PM rfl rfl (by decide) (by decide) hB) ?_))));refine vV (zJ2 rfl rfl (by omega)) ?_)|(refine iA 4 rfl rfl rfl (by omega) (by omega) ?_)|(refine nZ ?_)));all_goals try (exfalso;omega)
          exact ⟨⟨i+1,hlt⟩,by dsimp only;omega,eA []⟩
    · (repeat' (first|refine wS ?_|refine wE ?_|(refine wC rfl (fun hb => ?_) (fun hb => ?_) <;> (((try simp only [nm] at hb);try (exfalso;omega))))|(refine rg 6 (mW rfl (vV (aL rfl rfl) ?_)))|(refine iA 4 rfl rfl rfl (by omega) (by omega) ?_)|(refine nZ ?_)));all_goals try (exfalso;omega)
      exact ⟨⟨i+1,hlt⟩,by dsimp only;omega,eA []⟩
  · (repeat' (first|refine wS ?_|refine wR ?_|refine wE ?_|(refine wC rfl (fun hb => ?_) (fun hb => ?_) <;> (((try simp only [nm] at hb);try (exfalso;omega))))|(refine rg 3 (dK rfl (qW T rfl (vV (aL rfl rfl) ?_))))|(refine rg 13 (aV ?_))|(refine nZ ?_)));all_goals try (exfalso;omega)
    all_goals exact rQ
end Go.Proofs.YtmmkhmilpeodnaaGreat
namespace Go.Ld
open Go.Ab Go.Proofs.YtmmkhmilpeodnaaGreat
structure qH (c : Cx) (k : Nat) (gs : List G) (all : List TR) : Prop where
  gk : nS c gs
  pd : qZ c gs
  inv : CJ c gs all
  pw : gE gs≤2 ^ k
  al : all.length≤4 ^ k
theorem qH.new {c : Cx} (hc : qI c) (hn : c.bs.length≤12) (h3 : ∀ i,i<c.bs.length→(c.bs.getD i (0,0,0)).2.1≤3) : qH c 0 (qT c) [(nats (List.range c.bs.length),c.bs,0)] :=
  ⟨MH hc hn hc.s.1,XJ hc.s.1,zH2 hc h3,by rw [XI];exact aY _,aY _⟩
theorem RV {a k m : Nat} (h : a≤2 ^ k) : a≤2 ^ (k+1) := by rw [zB8];omega
theorem DE {a k : Nat} (h : a≤4 ^ k) : a≤4 ^ (k+1) := by rw [zB8];omega
theorem qH.bad {c : Cx} {k : Nat} {gs : List G} {all : List TR} {s : Ev} (h : qH c k gs all) (hr : iV c.bs.length s=false) : kU c gs s=(1,gs)∧qH c (k+1) gs all :=
  ⟨by unfold kU;rw [if_neg (by rw [hr];simp)],⟨h.gk,h.pd,h.inv,RV (m := 0) h.pw,DE h.al⟩⟩
theorem qH.step {c : Cx} {k : Nat} {gs : List G} {all : List TR} {s : Ev} (hc : qI c) (hn : c.bs.length≤6) (hk : k<6) (h : qH c k gs all) (hr : iV c.bs.length s=true) :
    ((kU c gs s).1=0∧oJ c s all≠[]∧qH c (k+1) (kU c gs s).2 (oJ c s all))∨((kU c gs s).1=26∧oJ c s all=[]∧qH c (k+1) (kU c gs s).2 all) := by
  obtain ⟨m0,m1,_⟩ := hc.s;have hp5 : 2 ^ k≤2 ^ 5 := Nat.pow_le_pow_right (by decide) (by omega)
  have hpw := h.pw;have h6 := VS (s := s) h.gk m0 m1 hn (by omega)
  have hpr := VT (s := s) h.gk m0 m1;have hsw : VD s≤2 := by unfold VD;split <;> omega
  have hpr2 : gE (kU c gs s).2≤2 ^ (k+1) := by
    rw [zB8];exact bA hpr (L9 hpw hsw)
  have hgk := Y0 (s := s) h.gk m0 m1;have hpd := VU (s := s) h.pd;obtain ⟨s1,s2⟩ := h.inv.step hc h.gk hr;rcases ID c gs s with h0 | ⟨_,h0⟩ | h0 | h0
  · have hi := s1 h0;refine .inl ⟨h0,hi.some hc hgk hpd,hgk,hpd,hi,hpr2,?_⟩;rw [zB8]
    exact bA (by
      unfold oJ;refine bA (C8 _ _) ?_;rw [List.length_nil,Nat.zero_add]
      exact W2 _ 4 _ fun t _ => P3 c s t 4) (eW 4 h.al)
  · rw [h0] at hr;cases hr
  · exact absurd h0 h6
  · have hs := VR (c := c) (gs := gs) (s := s) (by rw [h0];decide)
    refine .inr ⟨h0,s2 h0,hgk,hpd,?_,hpr2,DE h.al⟩;rw [hs];exact h.inv
end Go.Ld
namespace Go.Proofs.YtmmkhmilpeodnaaGreat
open Go Go.Ab Go.Ld
attribute [local irreducible] VC AW bX aR kY
theorem JX (ks : List KD) (ls : List LT) (ps : List Int) (bs : List BX) (m st er sl : Int) (l : List Ev) (v : Bool) (hb : bs.length≤17592186043904)
    (hf : aR Tryz.prog 25 [uW ks ls (nats (List.range bs.length)) bs,gY m st er sl,.i 3] [] (.b v) [])
    (hids : ∀ s,s∈l→s.ids.length≤9223372036854775807) (hv : v=true→P5 l 6=false∨3<bs.length) :
    aR Tryz.prog 6 [uW ks ls ps bs,gY m st er sl,.rowE (U3 l) 5] [] (.b true) [] := by
  have hbl : (cW bs).length=bs.length := bB _;have hi := J7 bs.length hb;rw [← hbl] at hi;rw [hbl] at hi;have hsm := CV;have hfe := YU l 6 (by omega) hids
  generalize P5 l 6=fe at *;generalize nats (List.range bs.length)=I at *;rw [← hbl] at hi;cases v
  all_goals
    cases fe
    all_goals
      first | (have hv := hv rfl) | skip
      first | (have hv := hv.resolve_left (by decide)) | skip
      refine bO T Tryz.func6 rfl rfl rfl rfl ?_
      (repeat' (first|refine wS ?_|(refine rg 0 (bQ (cD rfl rfl) rfl (bQ (cD rfl rfl) rfl (aV ?_))))|(refine rg 1 (vV (kC (hsm)) (aV ?_)))|(refine rg 2 (gH T rfl (qW T rfl (vV (kC (hi)) (fW T rfl (aU T rfl rfl rfl rfl rfl rfl (by decide) rfl ?_))))))|refine nZ ?_));refine fC 3 (cs := [.rowE (gB ks) 2,.rowE (jU ls) 3,.rowE (ints I) 1,.rowE (cW bs) 3]) rfl rfl rfl ?_
      refine fC 4 (cs := [.i m,.i st,.i er,.i sl]) rfl rfl rfl ?_
      (repeat' (first|refine wS ?_|refine wR ?_|refine wT ?_|(refine rg 3 (gH T rfl (qW T rfl (vV (fM rfl rfl) (mV ?_))));refine cH rfl rfl ?_ ?_<;>(intro hb;rw [hb];(try simp only [nm] at hb);try (exfalso;omega));(all_goals first|(refine gT (lW T rfl (gT (lW T rfl (gT (vV (kC (hf)) (gT (vV (dX rfl) ?_))))))))|(iterate 4 refine gF ?_));(all_goals (refine pW rfl (mV ?_)));(all_goals first|(refine gT (mW rfl (gT (vV (kC (hfe)) (gT (vV (dX rfl) ?_))))))|(iterate 3 refine gF ?_));(all_goals (refine pV ?_)))|(refine rg 4 (mW rfl (aV ?_)))|refine nZ ?_));all_goals try (exfalso;omega)
      all_goals exact rQ
theorem TJ (c : Cx) (hc : qI c) (ps : List Int) (l : List Ev)
    (hf : aR Tryz.prog 25 [uW c.ks c.ls (nats (List.range c.bs.length)) c.bs,gY c.m c.st c.er c.sl,.i 3] [] (.b true) [])
    (hids : ∀ s,s∈l→s.ids.length≤9223372036854775807) (hx : P5 l 6=true) (hb3 : c.bs.length≤3) :
    aR Tryz.prog 6 [uW c.ks c.ls ps c.bs,gY c.m c.st c.er c.sl,.rowE (U3 l) 5] [] (.b true) [] := by
  have hbl : (cW c.bs).length=c.bs.length := bB _;have hn1 := hc.f.n1;have hnl : (nats (List.range c.bs.length)).length=c.bs.length := by simp
  rw [hnl] at hn1;have hi := J7 c.bs.length (by omega)
  rw [← hbl] at hi;rw [hbl] at hi;have hsm := CV;have hfe := YU l 6 (by omega) hids
  rw [hx] at hfe;have hel : (U3 l).length=l.length := bB _;have hlen6 : l.length≤6 := by
    unfold P5 at hx;simp only [aM,decide_eq_true_eq] at hx;exact hx.1.2
  have hn := XL c hc;have hg0 := qH.new hc (by omega)
  have hm0 := hc.s.1;have hm1 := hc.s.2.1;have hafter := fun all s h1 h2 h3 h4 h5 h6 => mH (qO _).symm (HM _) (zA8 c hc (nats (List.range c.bs.length)) all s h1 h2 h3 h4 h5 h6);generalize nats (List.range c.bs.length)=I at *;rw [← hbl] at hi;refine bO T Tryz.func6 rfl rfl rfl rfl ?_
  (repeat' (first|refine wS ?_|(refine rg 0 (bQ (cD rfl rfl) rfl (bQ (cD rfl rfl) rfl (aV ?_))))|(refine rg 1 (vV (kC (hsm)) (aV ?_)))|(refine rg 2 (gH T rfl (qW T rfl (vV (kC (hi)) (fW T rfl (aU T rfl rfl rfl rfl rfl rfl (by decide) rfl ?_))))))|refine nZ ?_));refine fC 3 (cs := [.rowE (gB c.ks) 2,.rowE (jU c.ls) 3,.rowE (ints I) 1,.rowE (cW c.bs) 3]) rfl rfl rfl ?_
  refine fC 4 (cs := [.i c.m,.i c.st,.i c.er,.i c.sl]) rfl rfl rfl ?_
  (repeat' (first|refine wS ?_|refine wB ?_|refine wK ?_|refine wU ?_|(refine rg 3 (gH T rfl (qW T rfl (vV (fM rfl rfl) (mV ?_))));refine cH rfl rfl ?_ ?_<;>(intro hb;rw [hb];(try simp only [nm] at hb);try (exfalso;omega));(all_goals (refine yO T rfl (yO T rfl (yV (kC (hf)) (yV (dX rfl) (pW rfl (mW rfl (yN rfl (yV (kC (hfe)) (yV (dX rfl) (pV ?_))))))))))))|(refine rg 5 (aV ?_))|refine nZ ?_));all_goals try (exfalso;omega)
  refine cN (X := {i : Nat // i≤c.bs.length∧∀ j,j<i→(c.bs.getD j (0,0,0)).2.1≤3}) (fun i => [(2,.rowE (U3 l) 5),(3,.pr [.rowE (gB c.ks) 2,.rowE (jU c.ls) 3,.rowE (ints I) 1,.rowE (cW c.bs) 3] 0),(4,.pr [.i c.m,.i c.st,.i c.er,.i c.sl] 0),(7,.b true),(8,.i (i.1 : Int))]) (fun _ => []) (fun i => c.bs.length - i.1) ⟨0,bU _,fun j hj => absurd hj (dH _)⟩ (eA []) ?_;rintro ⟨i,hi1,hi2⟩;dsimp only at hi1 hi2 ⊢;by_cases hlt : i<c.bs.length
  · have q1 : (cW c.bs)[(i : Int).toNat]? = some [AV.i (c.bs.getD i (0,0,0)).1,AV.i (c.bs.getD i (0,0,0)).2.1,AV.i (c.bs.getD i (0,0,0)).2.2] := by
      rw [bJ,sO hlt,aC,aA hlt];rfl
    have hnx : (c.bs.getD i (0,0,0)).2.1≤3→∀ j,j<i+1→(c.bs.getD j (0,0,0)).2.1≤3 := fun h j hj => by
      by_cases e : j=i
      · subst e;exact h
      · exact hi2 j (by omega)
    generalize c.bs.getD i (0,0,0)=bx at *;obtain ⟨x1,x2,x3⟩ := bx;dsimp only at *;by_cases h3 : x2≤3
    · have hnx := hnx h3
      (repeat' (first|refine wS ?_|refine wB ?_|refine wK ?_|refine wU ?_|(refine wC rfl ?_ ?_<;>(intro hb;(try simp only [nm] at hb);try (exfalso;omega)))|(refine rg 6 (mW rfl (gH T rfl (qW T rfl (vV (aL rfl rfl) ?_)))))|(refine rg 8 (gH T rfl (mW rfl (vV (ix T rfl (by omega) (gV _) q1) (gH T rfl (vV (V9 rfl rfl (by omega)) ?_))))))|(refine iA 7 rfl rfl rfl (by omega) (by omega) ?_)|refine nZ ?_));all_goals try (exfalso;omega)
      exact ⟨⟨i+1,hlt,hnx⟩,by dsimp only;omega,eA []⟩
    · (repeat' (first|refine wS ?_|refine wB ?_|refine wK ?_|refine wR ?_|refine rL rfl ?_|(refine wC rfl (fun hb => ?_) (fun hb => ?_) <;> (((try simp only [nm] at hb);try (exfalso;omega))))|(refine rg 6 (mW rfl (gH T rfl (qW T rfl (vV (aL rfl rfl) ?_)))))|(refine rg 8 (gH T rfl (mW rfl (vV (ix T rfl (by omega) (gV _) q1) (gH T rfl (vV (PO rfl rfl (by omega)) ?_))))))|(refine rg 9 (mW rfl (aV ?_)))|(refine nZ ?_)));all_goals try (exfalso;omega)
      all_goals exact rQ
  · obtain rfl : i=c.bs.length := by omega
    have hg0 := hg0 hi2
    (repeat' (first|refine wS ?_|refine wB ?_|refine wK ?_|refine wE ?_|refine wU ?_|(refine wC rfl ?_ ?_<;>(intro hb;(try simp only [nm] at hb);try (exfalso;omega)))|(refine rg 6 (mW rfl (gH T rfl (qW T rfl (vV (aL rfl rfl) ?_)))))|(refine rg 10 (lW T rfl (gH T rfl (gH T rfl (gH T rfl (bQ (by exact fL rfl rfl hn (.inr ⟨rfl,rfl,by simp⟩)) rfl ?_)))));refine mW rfl (xW rfl (xW rfl (qJ ?_))))|(refine rg 11 (mW rfl (vV (by exact AM zW9 rfl rfl rfl) ?_));refine mW rfl (yN rfl (yV (fG rfl rfl) (pV ?_))))|(refine rg 13 (gH T rfl (gH T rfl (vV (by exact eU T rfl rfl rfl rfl) ?_)));refine bQ (by exact bC T rfl rfl (by decide) (by decide) rfl rfl rfl) rfl ?_;refine kR 74 rfl rfl rfl rfl ?_;refine aV ?_)|(refine rg 14 (aV ?_))|refine nZ ?_));all_goals try (exfalso;omega)
    refine cN (X := {x : Nat × List G × List TR // x.1≤l.length∧qH c x.1 x.2.1 x.2.2}) (fun x => [(2,.rowE (U3 l) 5),(3,.pr [.rowE (gB c.ks) 2,.rowE (jU c.ls) 3,.rowE (ints I) 1,.rowE (cW c.bs) 3] 0),(4,.pr [.i c.m,.i c.st,.i c.er,.i c.sl] 0),(7,.b true),(9,.ptr 0 0),(11,.rowE (mL x.1.2.2) 3),(12,.i (x.1.1 : Int))]) (fun x => [.cells (gN c x.1.2.1)]) (fun x => l.length - x.1.1) ⟨(0,qT c,[(I,c.bs,0)]),bU _,hg0⟩ (eA [0]) ?_;rintro ⟨⟨k,gs,all⟩,hk,hE⟩;dsimp only at hk hE ⊢;have hal : all.length≤20000 := bA hE.al (bA (Nat.pow_le_pow_right (by decide) (show k≤6 by omega)) (by decide))
    by_cases hlt : k<l.length
    · have hg := JY hlt;have hids1 := hids _ (aI hlt);have hright := IH c.bs.length l[k].k l[k].a l[k].b l[k].n l[k].ids hids1 ⟨by omega,by omega⟩
      generalize l[k]=s at *;change aR _ _ _ _ (.b (iV _ s)) _ at hright;have hse := OG c gs s hc hE.gk hids1;cases hr : iV c.bs.length s with
      | false =>
        obtain ⟨e1,hE2⟩ := hE.bad hr;rw [e1] at hse;rw [hr] at hright;rw [← hbl] at hright;dsimp only at hse
        (repeat' (first|refine wS ?_|refine wB ?_|refine wK ?_|refine wE ?_|refine wT ?_|refine wU ?_|(refine wC rfl ?_ ?_<;>(intro hb;(try simp only [nm] at hb);try (exfalso;omega)))|(refine rg 15 (dK rfl (qW T rfl (vV (aL rfl rfl) ?_))))|(refine bN (id := 17) 140 yK5 (rM 81 9) yK6 cJ rfl (by decide +kernel) (dP T rfl (dO T rfl (dV rfl (gD T rfl rfl) (dN rfl (dN rfl (dV rfl (ix T rfl (by omega) (oA _) hg) (dO T rfl (dV rfl (kC (hright)) (dV rfl (dX rfl) ?_)))))))));refine dE ?_)|(refine rg 18 (dK rfl (mW rfl (vV (ix T rfl (by omega) (oA _) hg) (lW T rfl (fF [0] rfl rfl (hse) rfl rfl (by decide) ⟨.inr rfl,trivial⟩ (by simp) rfl ?_)))));refine vV (fG rfl rfl) ?_)|(refine iA 16 rfl rfl rfl (by omega) (by omega) ?_)|refine nZ ?_));all_goals try (exfalso;omega)
        all_goals exact ⟨⟨(k+1,gs,all),by dsimp only;omega,hE2⟩,by dsimp only;omega,eA [0]⟩
      | true =>
        obtain ⟨r1,r2,r3,r4⟩ := mN hr (by omega)
        have hst := hE.step hc (by omega) (by omega) hr
        have haf := hafter all s (fun t ht => by obtain ⟨a,b,d,_⟩ := hE.inv.ok t ht;exact ⟨a,b,d⟩) hal r1 r2 ⟨r3,r4⟩ hids1
        rw [hr] at hright;rw [← hbl] at hright;generalize kU c gs s=R at *;obtain ⟨code,gs'⟩ := R;dsimp only at *;have htl := qO (oJ c s all);generalize oJ c s all=nx at *;rcases hst with ⟨rfl,hne,hE2⟩ | ⟨rfl,rfl,hE2⟩
        · have hpos : 0<nx.length := dZ.2 hne
          (repeat' (first|refine wS ?_|refine wB ?_|refine wK ?_|refine wU ?_|(refine wC rfl ?_ ?_<;>(intro hb;(try simp only [nm] at hb);try (exfalso;omega)))|(refine rg 15 (dK rfl (qW T rfl (vV (aL rfl rfl) ?_))))|(refine bN (id := 17) 140 yK5 (rM 81 9) yK6 cJ rfl (by decide +kernel) (dP T rfl (dO T rfl (dV rfl (gD T rfl rfl) (dN rfl (dN rfl (dV rfl (ix T rfl (by omega) (oA _) hg) (dO T rfl (dV rfl (kC (hright)) (dV rfl (dX rfl) ?_)))))))));refine dE ?_)|(refine bN (id := 20) 140 [[],[],[],[],[],[3,4],[3,4,5],rN 7] (rM 97 8) yK7 cJ rfl (by decide +kernel) (dO T rfl (dO T rfl (dN rfl (dN rfl (dN rfl (dV rfl (ix T rfl (by omega) (oA _) hg) (dO T rfl (dV rfl (kC (haf)) (dE ?_)))))))));refine aV ?_)|(refine rg 21 (dK rfl (mW rfl (vV (ix T rfl (by omega) (oA _) hg) (lW T rfl (fF [0] rfl rfl (hse) rfl rfl (by decide) ⟨.inr rfl,trivial⟩ (by simp) rfl ?_)))));refine aV ?_)|(refine rg 22 (mW rfl (qW T rfl (vV (dR rfl rfl) (mV ?_))));refine cH rfl rfl ?_ ?_<;>(intro hb;rw [hb];(try simp only [nm] at hb);try (exfalso;omega));(all_goals ((iterate 2 refine gF ?_);refine pW rfl (mW rfl (yN rfl (gT (qW T rfl (yV (fM rfl rfl) (yM ?_))))));refine cH rfl rfl ?_ ?_<;>(intro hb;rw [hb];(try simp only [nm] at hb);try (exfalso;omega))));(all_goals (refine yN rfl (yV (fG rfl rfl) (gT (pW rfl (pV ?_)))))))|(refine rg 24 (mW rfl (qW T rfl (vV (fM rfl rfl) ?_))))|(refine rg 25 (mW rfl (aV ?_)))|(refine iA 16 rfl rfl rfl (by omega) (by omega) ?_)|refine nZ ?_));all_goals try (exfalso;omega)
          all_goals exact ⟨⟨(k+1,gs',nx),by dsimp only;omega,hE2⟩,by dsimp only;omega,eA [0]⟩
        · (repeat' (first|refine wS ?_|refine wB ?_|refine wK ?_|refine BI rfl ?_|(refine wC rfl (fun hb => ?_) (fun hb => ?_) <;> (((try simp only [nm] at hb);try (exfalso;omega))))|(refine rg 15 (dK rfl (qW T rfl (vV (aL rfl rfl) ?_))))|(refine bN (id := 17) 140 yK5 (rM 81 9) yK6 cJ rfl (by decide +kernel) (dP T rfl (dO T rfl (dV rfl (gD T rfl rfl) (dN rfl (dN rfl (dV rfl (ix T rfl (by omega) (oA _) hg) (dO T rfl (dV rfl (kC (hright)) (dV rfl (dX rfl) ?_)))))))));refine dE ?_)|(refine bN (id := 20) 140 [[],[],[],[],[],[3,4],[3,4,5],rN 7] (rM 97 8) yK7 cJ rfl (by decide +kernel) (dO T rfl (dO T rfl (dN rfl (dN rfl (dN rfl (dV rfl (ix T rfl (by omega) (oA _) hg) (dO T rfl (dV rfl (kC (haf)) (dE ?_)))))))));refine aV ?_)|(refine rg 21 (dK rfl (mW rfl (vV (ix T rfl (by omega) (oA _) hg) (lW T rfl (fF [0] rfl rfl (hse) rfl rfl (by decide) ⟨.inr rfl,trivial⟩ (by simp) rfl ?_)))));refine aV ?_)|(refine rg 22 (mW rfl (qW T rfl (vV (dR rfl rfl) (mW rfl (yN rfl (yV (fG rfl rfl) (pW rfl (mW rfl (yM ?_)))))))));refine gT (qW T rfl (yV (fM rfl rfl) (yM ?_)));(iterate 2 refine gF ?_);refine gT (pW rfl (pV ?_)))|(refine rg 24 (mW rfl (qW T rfl (vV (fM rfl rfl) ?_))))|(refine iA 16 rfl rfl rfl (by omega) (by omega) ?_)|(refine nZ ?_)));all_goals try (exfalso;omega)
          all_goals exact ⟨⟨(k+1,gs',all),by dsimp only;omega,hE2⟩,by dsimp only;omega,eA [0]⟩
    · have hex := zK8 c hc gs all hE.gk hE.inv (by omega) rfl hn1 hb3
      rw [← hbl] at hex
      (repeat' (first|refine wS ?_|refine wE ?_|(refine wC rfl ?_ ?_<;>(intro hb;(try simp only [nm] at hb);try (exfalso;omega)))|(refine rg 15 (dK rfl (qW T rfl (vV (aL rfl rfl) ?_))))|refine nZ ?_));all_goals try (exfalso;omega)
      refine fC 9 (cs := gN c gs) rfl rfl rfl ?_
      (repeat' (first|refine wR ?_|(refine rg 26 (dK rfl (yN rfl (yN rfl (yP T rfl (yO T rfl (gT (qW T rfl (yV (kC (hex)) (pV ?_)))))))));refine aV ?_)|refine nZ ?_));all_goals try (exfalso;omega)
      all_goals exact rQ
end Go.Proofs.YtmmkhmilpeodnaaGreat
namespace Go.Proofs.YtmmkhmilpeodnaaGreat
open Go Go.Ab Go.Ld
attribute [local irreducible] VC AW bX aR
theorem TK (x : List KD × List LT × List Int × List BX) (_ : True) (hx : x.2.2.2.length * 24≤140737488351232) (c : Int × Int × Int × Int) (_ : J1 c.1∧J1 c.2.1∧J1 c.2.2.1∧J1 c.2.2.2) (l : List (Int × Int × Int × Int × List Int)) (hl : l.length≤maxLen∧∀ p,p∈l→p.2.2.2.2.length≤maxLen) :
    aR Tryz.prog 6 [uW x.1 x.2.1 x.2.2.1 x.2.2.2,gY c.1 c.2.1 c.2.2.1 c.2.2.2,.rowE (l.map fun p => [AV.i p.1,AV.i p.2.1,AV.i p.2.2.1,AV.i p.2.2.2.1,.rowE (ints p.2.2.2.2) 1]) 5] [] (.b true) [] := by
  rw [zT5];have hids := zL0 hl.2;generalize l.map yC1=l at *;rcases zK2 3 (by omega) x.1 x.2.1 (Go.Ab.nats (List.range x.2.2.2.length)) x.2.2.2 c.1 c.2.1 c.2.2.1 c.2.2.2 with hf | ⟨hf,f,hs,t,h3⟩
  · exact JX _ _ _ _ _ _ _ _ l false (by omega) hf hids (fun h => by cases h)
  · have h3 : x.2.2.2.length≤3 := by simpa using h3
    by_cases hx2 : P5 l 6=false
    · exact JX _ _ _ _ _ _ _ _ l true (by omega) hf hids (fun _ => .inl hx2)
    · have h1 : P5 l 6=true := by cases h : P5 l 6 with
        | true => rfl
        | false => exact absurd h hx2
      exact TJ (yE7 x c) ⟨f,hs⟩ _ l hf hids h1 h3
end Go.Proofs.YtmmkhmilpeodnaaGreat
