/-
  Texts of the logic and of the layer,in one module (part 4).
-/
import Derived.Test.YtjjfjhkbmdbhkaaGreatDoorK3
import Derived.Shelf.Strconv.ErrVarAll
import Derived.Lib.IndexLaws
import Derived.Shelf.Small.Strs
import Derived.Shelf.Small.Wraps
import Derived.Lib.SlicesDelete
import Derived.Deep.RegionLaw
import Derived.Sort.EncStr
set_option maxHeartbeats 4000000
set_option linter.unusedVariables false
set_option linter.unusedSimpArgs false
set_option linter.unnecessarySimpa false
namespace Go.Proofs.Q
open Go Go.Ab
attribute [local irreducible] VC AW bW aM
theorem mS:MG Tryz.prog 9:=by unfold MG;kernel_rfl
theorem yW2:Tryz.prog.underlying 9=some .string:=by kernel_rfl
theorem yZ6:Tryz.prog.underlying 246=some (.pointer 5):=by kernel_rfl
theorem yZ7:Tryz.prog.cellsOf 5=1:=by kernel_rfl
theorem xD0:∀ i:Nat,i<2→([0,1,2]:List Nat)[i]? = some i:=by decide
theorem xG0:∀ i:Nat,i<2→([0,1]:List Nat)[i]? = some i:=by decide
theorem zR0 (l:List UInt8):aM Tryz.prog 208 [.ptr 0 0] [.cells [.ptr 0 0,.sl 1 0 l.length 1],.buf 5 l] (.tup []) [.cells [.ptr 0 0,.sl 1 0 l.length 1],.buf 5 l]:=by
 obtain ⟨j,hj,_⟩:=fD.1 yK4;refine bS T Tryz.func208 rfl rfl rfl rfl ?_
 (repeat' (first|refine wS ?_|refine wK ?_|refine wU ?_|(refine rg 0 (mW rfl (nV ?_));refine iK T rfl (vV (by exact sX zW4 rfl rfl rfl) ?_))|(refine rg 2 (mW rfl (nV ?_));refine iK T rfl (mW rfl (vV (by exact TN zW4 hj rfl rfl) ?_)))|refine nZ ?_));all_goals exact ⟨.inr rfl,[0,1],_,rfl,rfl,rfl,⟨.inr rfl,.inr rfl,trivial⟩,by decide,xG0⟩
theorem zV7 (l s:List UInt8) (hl:l.length+s.length≤100000000000):aM Tryz.prog 172 [.ptr 0 0,.s s] [.cells [.ptr 0 0,.sl 1 0 l.length 1],.buf 5 l] (.tup [.i s.length,.v .nilIface]) [.cells [.ptr 0 0,.sl 2 0 (l.length+s.length) 1],.gone,.buf 5 (l++s)]:=by
 refine bS T Tryz.func172 rfl rfl rfl rfl ?_
 (repeat' (first|refine wS ?_|refine wR ?_|(refine rg 0 (pT ?_))|(refine rg 1 (mW rfl (bT [0,1] rfl rfl (zR0 l) rfl rfl (by decide) ⟨.inr rfl,.inr rfl,trivial⟩ (by simp) rfl ?_)))|(refine rg 2 (dJ rfl (nV ?_));refine iK T rfl (mW rfl (CT T (e:=5) yW2 rfl rfl rfl rfl rfl rfl rfl rfl (by omega) rfl ?_));refine nV ?_;refine fW T rfl (bC T rfl rfl rfl rfl rfl rfl (by decide) rfl ?_))|(refine rg 3 (mW rfl (vV (tC mS rfl) (pT ?_))))|refine nZ ?_));all_goals exact ⟨.inl rfl,[0,1,2],_,rfl,rfl,rfl,⟨.inr rfl,.inl rfl,.inr rfl,trivial⟩,by decide,xD0⟩
theorem yY0:∀ i:Nat,i<1→([0,2]:List Nat)[i]? = some i:=by decide
theorem zD1 (s:List UInt8) (hl:s.length≤100000000000):aM Tryz.prog 172 [.ptr 0 0,.s s] [.var 214 [.v (.pointer none),.nils]] (.tup [.i s.length,.v .nilIface]) [.cells [.ptr 0 0,.sl 1 0 s.length 1],.buf 5 s]:=by
 refine bS T Tryz.func172 rfl rfl rfl rfl ?_
 (repeat' (first|refine wS ?_|(refine rg 0 (pT ?_))|(refine rg 1 (mW rfl (bT [0] rfl rfl (zB0 .nils) rfl rfl (by decide) ⟨.inr rfl,trivial⟩ (by simp) rfl ?_)))|refine nZ ?_));refine fF [(0,.ptr 0 0),(1,.s s)] [.cells [.ptr 0 0,.nils]] ⟨[0],rfl,(by repeat first|exact trivial|refine ⟨rfl,?_⟩),(by (repeat (first|exact trivial | refine ⟨Or.inl rfl,?_⟩ | refine ⟨Or.inr rfl,?_⟩))),by decide,uN⟩ ?_
 refine yI2 0 1 5 rfl rfl ?_;dsimp only [xI4,xI3,List.append_nil,xI2,xI1,xI0,xH9,xH8,xH7,kR,nE,mR,tA,ND,D6,AF,AD,AC,AE,D5,D8,D4,D7,Nat.zero_add,xH6,Nat.reduceAdd,xH5,xH4]
 repeat' (first|refine wS ?_|refine wR ?_|(refine rg 2 (dJ rfl (nV ?_));refine iK T rfl (mW rfl (CT T (e:=5) (lb:=[]) yW2 rfl rfl rfl rfl rfl rfl rfl rfl (by simp;omega) rfl ?_));refine nV ?_;refine fW T rfl (bC T rfl rfl rfl rfl rfl rfl (by decide) rfl ?_))|(refine rg 3 (mW rfl (vV (tC mS rfl) (pT ?_))))|refine nZ ?_)
 simp only [List.length_nil,Nat.zero_add,List.nil_append]
 all_goals exact ⟨.inl rfl,[0,2],_,rfl,rfl,rfl,⟨.inr rfl,.inr rfl,trivial⟩,by decide,yY0⟩
theorem zF4 (l:List UInt8) (h0:l≠[]) (hl:l.length≤100000000000):aM Tryz.prog 173 [.ptr 0 0] [.cells [.ptr 0 0,.sl 1 0 l.length 1],.buf 5 l] (.s l) [.gone,.gone]:=by
 have hpos:0<l.length:=eO.2 h0;refine bS T Tryz.func173 rfl rfl rfl rfl ?_
 (repeat' (first|refine wS ?_|refine wR ?_|(refine rg 0 (aV ?_))|(refine lY (id:=1) 14 [[],[0],[0,1],[0,1,2],rN 4,[],[5],[5,6],[5,6,7],rM 5 4,rN 10] (rM 3 11) [[],[],[],[],[],rM 3 5,rM 3 5,rM 3 5,rM 3 5,rM 3 5,[]] [(10,1)] cP rfl (by decide +kernel) (cQ rfl rfl rfl rfl (by exact bV rfl) ?_);refine cQ rfl rfl rfl rfl (by exact cF rfl rfl) ?_;refine cQ rfl rfl rfl rfl (by exact bR T rfl rfl rfl) ?_;refine cQ rfl rfl rfl rfl (by exact bA T rfl rfl rfl rfl) ?_;refine cQ rfl rfl rfl rfl (by exact LD rfl (by omega)) ?_;refine cQ rfl rfl rfl rfl (by exact bV rfl) ?_;refine cQ rfl rfl rfl rfl (by exact cF rfl rfl) ?_;refine cQ rfl rfl rfl rfl (by exact bR T rfl rfl rfl) ?_;refine cQ rfl rfl rfl rfl (by exact bA T rfl rfl rfl rfl) ?_;refine cQ rfl rfl rfl rfl (by exact Z0 T rfl rfl) ?_;refine yS2 rfl rfl rfl rfl (aI rfl) (by exact BP yZ6 yZ7 rfl rfl rfl h0 (by omega) rfl) ?_;refine qK rfl rfl rfl (by exact rfl) ?_;refine aV ?_)|refine nZ ?_));all_goals exact ⟨.inl rfl,[0,1],_,rfl,rfl,rfl,⟨.inl rfl,.inl rfl,trivial⟩,by decide,xG0⟩
end Go.Proofs.Q
namespace Go.Proofs.Q
open Go Go.Ab
theorem ZF {l:List Int}{k:Nat}(h:k<l.length):(ints l)[k]? = some [AV.i l[k]]:=by simp [h]
section
variable {P:Program}{env:eG}{h:Hp}{d:Option Nat}{ty:TypeId}{pos:String}{af:Array Edge}{g:Option (Nat × Bool)}
end
attribute [local irreducible] VC AW bW aM
def V8 (n:Int):Prop:=-9223372036854775808≤n∧n≤9223372036854775807
theorem zQ:∀ (k u:Nat),u<10 ^ (k+1)→Go.Lib.nDigits u≤k+1
 | 0,u,h=>by rw [Go.Lib.nDigits_small (by simpa using h)];exact aX _
 | k+1,u,h=>by
  by_cases hu:u<10
  ·rw [Go.Lib.nDigits_small hu];omega
  ·rw [Go.Lib.nDigits_big hu];have:=zQ k (u / 10) (by rw [Nat.div_lt_iff_lt_mul (by decide)];rw [xI9] at h;exact h)
   omega
theorem yQ {n:Int}(h:V8 n):(Go.Lib.itoa n).length≤21:=by
 obtain ⟨h0,h1⟩:=h;unfold Go.Lib.itoa;split
 ·rw [List.length_cons,Go.Lib.decDigits_length];have:=zQ 19 n.natAbs (by have:(10:Nat) ^ (19+1)=100000000000000000000:=(by decide);omega)
  omega
 ·rw [Go.Lib.decDigits_length];have:=zQ 19 n.toNat (by have:(10:Nat) ^ (19+1)=100000000000000000000:=(by decide);omega)
  omega
def fY (n:Int):List UInt8:=Go.Lib.itoa n++[59]
def G6 (l:List Int) (k:Nat):List UInt8:=Go.Lib.itoa l.length++[91]++((l.take k).map fY).flatten
def rT (l:List Int):List UInt8:=G6 l l.length++[93]
theorem gL {n:Int}(h:V8 n):(fY n).length≤22:=by have:=yQ h;simp [fY];omega
theorem yI8 (l:List Int) (k:Nat):G6 l k≠[]:=by simp [G6]
theorem zB6 {l:List Int}{k:Nat}(h:k<l.length):G6 l (k+1)=G6 l k++fY l[k]:=by
 unfold G6;rw [aL h,bU,fE];simp
theorem RE {l:List Int}(hw:∀ x,x∈l→V8 x) (hl:l.length≤1000000):∀ k,(G6 l k).length≤22+22*l.length:=by
 intro k;unfold G6;have h1:=yQ (n:=(l.length:Int)) ⟨by omega,by omega⟩
 have h2:∀ m:List Int,(∀ x,x∈m→V8 x)→((m.map fY).flatten).length≤22*m.length:=by
  intro m
  induction m with
  | nil=>intro _;simp
  | cons x m ih=>
   intro hm;have h3:=gL (hm x aR);have h4:=ih fun y hy=>hm y (aH _ hy);simp only [List.map_cons,dZ,aD,List.length_cons];omega
 have h3:=h2 (l.take k) fun x hx=>hw x (eJ hx);have h4:(l.take k).length≤l.length:=by rw [aY];omega
 simp only [aD,List.length_cons,List.length_nil];omega
theorem yD0 {n:Int}(h:V8 n):aM Tryz.prog 120 [.i n] [] (.s (Go.Lib.itoa n)) []:=by
 have hc:=zO3 n h.1 h.2;refine bS T Tryz.func120 rfl rfl rfl rfl ?_
 (repeat' (first|refine wS ?_|refine wR ?_|(refine rg 0 (aV ?_))|(refine rg 1 (mW rfl (vV (kC (hc)) (aV ?_))))|refine nZ ?_));all_goals exact rQ
theorem EL {n:Int}(h:V8 n):aM Tryz.prog 81 [.i n] [] (.s (Go.Lib.itoa n)) []:=by
 have hc:=yD0 h;refine bS T Tryz.func81 rfl rfl rfl rfl ?_
 (repeat' (first|refine wS ?_|refine wR ?_|(refine rg 0 (aV ?_))|(refine rg 1 (mW rfl (vV (kC (hc)) (aV ?_))))|refine nZ ?_));all_goals exact rQ
theorem uB {n:Int}(h:V8 n):aM Tryz.prog 50 [.i n] [] (.s (fY n)) []:=by
 have hc:=EL h;have hl:=yQ h;refine bS T Tryz.func50 rfl rfl rfl rfl ?_
 (repeat' (first|refine wS ?_|refine wR ?_|(refine rg 0 (aV ?_))|(refine rg 1 (mW rfl (vV (kC (hc)) (vV (mE rfl rfl (by simp only [aD,List.length_cons,List.length_nil];omega)) ?_)));refine aV ?_)|refine nZ ?_));all_goals exact rQ
theorem yQ1 {l:List Int}(hw:∀ x,x∈l→V8 x) (hl:l.length≤1000000):aM Tryz.prog 121 [.rowE (ints l) 1,.clo (.func 50) [] []] [] (.s (rT l)) []:=by
 have hlen:(ints l).length=l.length:=by simp
 have hI:V8 (l.length:Int):=⟨by omega,by omega⟩
 have hc:aM Tryz.prog 81 [.i (ints l).length] [] (.s (Go.Lib.itoa l.length)) []:=by rw [hlen];exact EL hI
 have hi:=yQ hI;have hbl:=RE hw hl;have h00:G6 l 0=Go.Lib.itoa l.length++[91]:=by simp [G6]
 refine bS T Tryz.func121 rfl rfl rfl rfl ?_
 (repeat' (first|refine wS ?_|refine wB ?_|(refine rg 0 (aV ?_))|(refine rg 1 (cO (ZT T rfl rfl) rfl ?_))|(refine rg 2 (mW rfl (qW T rfl (vV (kC (hc)) (vV (mE rfl rfl (by simp only [aD,List.length_cons,List.length_nil];omega)) ?_))));refine bT [0] rfl rfl (zD1 _ (by simp only [aD,List.length_cons,List.length_nil];omega)) rfl rfl (by decide) ⟨.inr rfl,trivial⟩ (by simp) rfl ?_)|(refine rg 3 (mW rfl (qW T rfl (mV ?_))))|refine nZ ?_));refine dI (X:={k:Nat // k≤l.length}) (fun k=>[(0,.rowE (ints l) 1),(1,.clo (.func 50) [] []),(5,.ptr 0 0),(13,.rowE (ints l) 1),(14,.i (ints l).length),(15,.i k.1)]) (fun k=>[.cells [.ptr 0 0,.sl 1 0 (G6 l k.1).length 1],.buf 5 (G6 l k.1)]) (fun k=>l.length-k.1) ⟨0,by omega⟩ ⟨[0,1],rfl,(by repeat first|exact trivial|refine ⟨rfl,?_⟩),⟨.inr (by rw [h00];rfl),.inr (by rw [h00];rfl),trivial⟩,by decide,AM⟩ ?_
 rintro ⟨k,hk⟩;dsimp only;have hbk:=hbl k;by_cases hlt:k<l.length
 ·have hIx:=hw _ (aO hlt);have hcx:=uB hIx;have hlx:=gL hIx;have hnx:=zB6 hlt;have hbn:=hbl (k+1);have hnl:(G6 l (k+1)).length=(G6 l k).length+(fY l[k]).length:=by rw [hnx,aD]
  have hg:=ZF hlt;rw [hnx] at hbn;generalize l[k]=x at *
  (repeat' (first|refine wS ?_|refine wB ?_|refine wK ?_|(refine wC rfl ?_ ?_<;>(intro hb;(try simp only [nm] at hb);try omega))|(refine rg 4 (vV (aK rfl rfl) ?_))|(refine rg 5 (vV (ix T rfl (by omega) (dY _) hg) (lW T rfl (aV ?_))))|(refine rg 6 (dJ rfl (vV (kC (hcx)) (bT [0,1] rfl rfl (zV7 (G6 l k) (fY x) (by omega)) rfl rfl (by decide) ⟨.inr rfl,.inr rfl,trivial⟩ (by simp) rfl ?_))))|(refine rg 7 (vV (cK rfl rfl (by omega) (by omega)) (mV ?_)))|refine nZ ?_));all_goals first|omega | exact ⟨⟨k+1,hlt⟩,by dsimp only;omega,[0,2],rfl,(by repeat first|exact trivial|refine ⟨rfl,?_⟩),⟨.inr (by dsimp only;rw [hnl];rfl),.inr (by dsimp only;rw [hnx];rfl),trivial⟩,by decide,AM⟩
 ·have hkl:k=l.length:=by omega
  subst hkl
  (repeat' (first|refine wS ?_|refine wR ?_|refine wE ?_|(refine wC rfl ?_ ?_<;>(intro hb;(try simp only [nm] at hb);try omega))|(refine rg 4 (vV (aK rfl rfl) ?_))|(refine rg 8 (bT [0,1] rfl rfl (zF4 (G6 l l.length) (yI8 _ _) (by omega)) rfl rfl (by decide) ⟨.inr rfl,.inr rfl,trivial⟩ (by simp) rfl ?_);refine vV (mE rfl rfl (by simp only [List.length_cons,List.length_nil];omega)) ?_;refine aV ?_)|refine nZ ?_));all_goals first|omega | exact rQ
theorem yP0 {l:List Int}(hw:∀ x,x∈l→V8 x) (hl:l.length≤1000000):aM Tryz.prog 82 [.rowE (ints l) 1] [] (.s (rT l)) []:=by
 have hc:=yQ1 hw hl;refine bS T Tryz.func82 rfl rfl rfl rfl ?_
 (repeat' (first|refine wS ?_|refine wR ?_|(refine rg 0 (aV ?_))|(refine rg 1 (mW rfl (vV (kC (hc)) (aV ?_))))|refine nZ ?_));all_goals exact rQ
end Go.Proofs.Q
namespace Go.Wr
open Go Go.Ab Go.Lib
theorem YH (r:List UInt8):∀ u:Nat,u≤9223372036854775808→parseUint10 0 (decDigits u++r)=parseUint10 u r:=by
 intro u
 induction u using Nat.strongRecOn generalizing r with
 | _ u ih=>
  intro hu;rw [decDigits];split
  ·rename_i h;have e:(UInt8.ofNat (48+u)).toNat=48+u:=by simp;omega
   rw [oD];rw [parseUint10,e,if_pos (by omega),if_neg (by omega),if_neg (by omega)]
   congr 1;omega
  ·rename_i h;have e:(UInt8.ofNat (48+u % 10)).toNat=48+u % 10:=by simp;omega
   rw [bM,ih (u / 10) (by omega) _ (by omega),oD]
   rw [parseUint10,e,if_pos (by omega),if_neg (by omega),if_neg (by omega)]
   congr 1;omega
theorem TW (u:Nat):decDigits u≠[]:=by
 rw [decDigits];split <;> simp
theorem Z3:∀ u:Nat,∀ c,c∈decDigits u→48≤c.toNat∧c.toNat≤57:=by
 intro u
 induction u using Nat.strongRecOn with
 | _ u ih=>
  intro c hc;rw [decDigits] at hc;split at hc
  ·rw [bE] at hc;subst hc;have e:(UInt8.ofNat (48+u)).toNat=48+u:=by simp;omega
   omega
  ·rcases bH.1 hc with hc | hc
   ·exact ih _ (by omega) c hc
   ·rw [bE] at hc;subst hc;have e:(UInt8.ofNat (48+u % 10)).toNat=48+u % 10:=by simp;omega
    omega
theorem VU {u:Nat}(hu:u≤9223372036854775808):parseMag (decDigits u) = .ok u:=by
 have:=YH [] u hu;rw [List.append_nil] at this;unfold parseMag;rw [if_neg (TW u),this];rfl
theorem zB4 {n:Int}(h:-9223372036854775808≤n∧n≤9223372036854775807):atoiAll (itoa n) = .ok n:=by
 unfold itoa;split
 ·rw [atoiAll_minus,VU (by omega)]
  unfold signed;dsimp only;rw [if_neg (by omega)]
  congr 1;omega
 ·have hm:=VU (u:=n.toNat) (by omega)
  cases hd:decDigits n.toNat with
  | nil=>exact absurd hd (TW _)
  | cons c r=>
   have hc:=Z3 n.toNat c (by rw [hd];simp)
   rw [hd] at hm;rw [atoiAll_plain c r (by omega) (by omega),hm]
   unfold signless;dsimp only;rw [if_neg (by omega)]
   congr 1;omega
theorem TK {n:Int}{c:UInt8}(h:c∈itoa n):c.toNat=45∨(48≤c.toNat∧c.toNat≤57):=by
 unfold itoa at h;split at h
 ·rcases bQ.1 h with h | h
  ·subst h;exact .inl rfl
  ·exact .inr (Z3 _ _ h)
 ·exact .inr (Z3 _ _ h)
theorem zQ:∀ (k u:Nat),u<10 ^ (k+1)→nDigits u≤k+1
 | 0,u,h=>by rw [nDigits_small (by simpa using h)];exact aX _
 | k+1,u,h=>by
  by_cases hu:u<10
  ·rw [nDigits_small hu];omega
  ·rw [nDigits_big hu];have:=zQ k (u / 10) (by rw [Nat.div_lt_iff_lt_mul (by decide)];rw [xI9] at h;exact h)
   omega
theorem ZD {n:Int}(h:-9223372036854775808≤n∧n≤9223372036854775807):(itoa n).length≤20:=by
 have hp:(10:Nat) ^ (18+1)=10000000000000000000:=by decide
 unfold itoa;split
 ·rw [List.length_cons,decDigits_length];have:=zQ 18 n.natAbs (by omega)
  omega
 ·rw [decDigits_length];have:=zQ 18 n.toNat (by omega)
  omega
theorem yC9 (n:Int):itoa n≠[]:=by
 unfold itoa;split
 ·simp
 ·exact TW _
theorem zM6 {a b:List UInt8}{e:UInt8}(h:e∉a):indexByte (a++e::b) e=a.length:=by
 induction a with
 | nil=>simp [indexByte]
 | cons c a ih=>
  simp only [bQ,not_or] at h;have h1:=ih h.2;show indexByte (c::(a++e::b)) e=_;unfold indexByte;rw [if_neg (by simpa using fun q=>h.1 q.symm),h1,if_neg (by simp)]
  simp
theorem AQ {l:List UInt8}{e:UInt8}(h:0≤indexByte l e):l=l.take (indexByte l e).toNat++e::l.drop ((indexByte l e).toNat+1)∧(indexByte l e).toNat<l.length:=by
 obtain ⟨h1,h2⟩:=indexByte_some (l:=l) (c:=e) (o:=(indexByte l e).toNat) (by omega)
 obtain ⟨h3,h4⟩:=aA.1 h1;refine ⟨?_,h3⟩
 conv=>lhs;rw [← bK (indexByte l e).toNat l]
 rw [aP h3,h4]
def E8 (r:List UInt8) (e:UInt8) (lo:Int):Option (Int × List UInt8):=
 if indexByte (r.take 21) e<0 then none else
 match atoiAll (r.take (indexByte (r.take 21) e).toNat) with
 | .ok n=>if itoa n=r.take (indexByte (r.take 21) e).toNat∧lo≤n then some (n,r.drop ((indexByte (r.take 21) e).toNat+1)) else none
 | _=>none
theorem EP {r:List UInt8}{e:UInt8}(h:0≤indexByte (r.take 21) e):(indexByte (r.take 21) e).toNat<r.length∧(indexByte (r.take 21) e).toNat<21:=by
 have:=(AQ h).2;rw [aY] at this;omega
theorem X9 {r r':List UInt8}{e:UInt8}{lo n:Int}(h:E8 r e lo=some (n,r')):r=itoa n++e::r'∧lo≤n∧-9223372036854775808≤n∧n≤9223372036854775807:=by
 unfold E8 at h;split at h
 ·cases h
 ·rename_i h0;have hs:=AQ (zC3.1 h0);have hi:=EP (zC3.1 h0);split at h
  ·rename_i n' ha;split at h
   ·rename_i hc;simp only [Option.some.injEq,Prod.mk.injEq] at h;obtain ⟨rfl,rfl⟩:=h;have hb:=atoiAll_bounds ha;refine ⟨?_,hc.2,hb.1,hb.2⟩;rw [hc.1];generalize indexByte (r.take 21) e=k at *;have h3:(r.take 21)[k.toNat]? = some e:=by
     rw [hs.1,aF (by rw [aY,aY];omega)]
     simp [aY];rw [show k.toNat-min k.toNat (min 21 r.length)=0 by omega]
     rfl
    rw [cE,if_pos hi.2] at h3;obtain ⟨h4,h5⟩:=aA.1 h3
    conv=>lhs;rw [← bK k.toNat r]
    rw [aP h4,h5]
   ·cases h
  ·cases h
theorem CE {r':List UInt8}{e:UInt8}{lo n:Int}(h:-9223372036854775808≤n∧n≤9223372036854775807) (hl:lo≤n) (he:e.toNat≠45∧(e.toNat<48∨57<e.toNat)):E8 (itoa n++e::r') e lo=some (n,r'):=by
 have hni:e∉itoa n:=fun hm=>by have:=TK hm;omega
 have h20:=ZD h;have hi:indexByte ((itoa n++e::r').take 21) e=(itoa n).length:=by
  rw [iW,show 21-(itoa n).length=(20-(itoa n).length)+1 by omega,nA,bO (by omega)]
  exact zM6 hni
 unfold E8;rw [hi,if_neg (by omega),bI,tY,zB4 h]
 dsimp only;rw [if_pos ⟨rfl,hl⟩,List.drop_append,cY (by omega)]
 simp
theorem OW (e:UInt8) (lo:Int):E8 [] e lo=none:=by
 unfold E8;simp [indexByte]
theorem zK4 {r r':List UInt8}{e:UInt8}{lo n:Int}(h:E8 r e lo=some (n,r')):r'.length+2≤r.length:=by
 have h1:=(X9 h).1;have h2:=yC9 n;rw [h1,aD,List.length_cons];have:0<(itoa n).length:=eO.2 h2;omega
abbrev St:=Option (List UInt8)
abbrev BL (s:St):Hp:=[.cells [.s (s.getD []),.b s.isNone]]
def nM (s:St) (e:UInt8) (lo:Int):Int × St:=match E8 (s.getD []) e lo with
 | some (n,r)=>if s.isNone then (0,none) else (n,some r)
 | none=>(0,none)
theorem IC (e:UInt8) (lo:Int):nM none e lo=(0,none):=by unfold nM;rw [show (none:St).getD []=[] from rfl,OW]
def vU (s:St) (e:UInt8):St:=match s with
 | some (c::r)=>if c=e then some r else none
 | _=>none
def qT (s:St):Int × St:=nM s 59 (-9223372036854775808)
def kS:Nat→St→List Int × St
 | 0,s=>([],s)
 | k+1,none=>([],none)
 | k+1,some r=>let p:=qT (some r);let q:=kS k p.2;(p.1::q.1,q.2)
def uH (s:St):List Int × St:=
 let p:=nM s 91 0
 let q:=kS p.1.toNat p.2
 let t:=vU q.2 93
 if t.isNone then ([],none) else (q.1,t)
theorem wY (k:Nat):kS k none=([],none):=by cases k <;> rfl
theorem yE (s:St) (e:UInt8) (lo:Int):-9223372036854775808≤(nM s e lo).1∧(nM s e lo).1≤9223372036854775807:=by
 unfold nM;split
 ·rename_i n r h;have:=X9 h;split <;> simp <;> omega
 ·simp
theorem uY {r:List UInt8}{e:UInt8}{lo n:Int}{r':List UInt8}(h:E8 r e lo=some (n,r')):nM (some r) e lo=(n,some r'):=by
 unfold nM;rw [show (some r:St).getD []=r from rfl,h]
 rfl
theorem ID {r:List UInt8}{e:UInt8}{lo:Int}(h:E8 r e lo=none):nM (some r) e lo=(0,none):=by
 unfold nM;rw [show (some r:St).getD []=r from rfl,h]
theorem EB {s:St}{e:UInt8}{lo:Int}{r:List UInt8}(h:(nM s e lo).2=some r):∃ r0,s=some r0∧E8 r0 e lo=some ((nM s e lo).1,r)∧r.length+2≤r0.length:=by
 cases s with
 | none=>rw [IC] at h;cases h
 | some r0=>
  cases hp:E8 r0 e lo with
  | none=>rw [ID hp] at h;cases h
  | some p=>
   obtain ⟨n,r'⟩:=p;rw [uY hp] at h ⊢;cases h;exact ⟨r0,rfl,hp,zK4 hp⟩
theorem uZ (s:St) (e:UInt8) (lo:Int):((nM s e lo).2.getD []).length≤(s.getD []).length:=by
 cases h:(nM s e lo).2 with
 | none=>simp
 | some r=>
  obtain ⟨r0,rfl,_,h3⟩:=EB h;simp;omega
end Go.Wr
namespace Go.Proofs.Q
open Go Go.Ab Go.Shelf Go.Proofs Go.Wr
shelf_lay Lays.n137 Nm 137 at Tryz as laysIdx
shelf_lay Lays.n103 Nm 103 at Tryz as laysCut
shelf_lay LaysC.n172 Nm 172 at Tryz as laysAtoi
theorem B1 {P : Program} {f : FuncId} {xs : List AV} {res : AV} (hfn : ∃ fn, P.funcs[f]? = some fn ∧ (fn.name == "runtime.NumGoroutine") = false ∧ fn.body.isNone = false)
    (hs:∀ (ρ:Pl) S w vs,oK S w→RL S w xs ρ vs→Calls P f vs.toArray w fun e w'=>∃ y,e = .returned y∧RowKit.Below w.heap.size w w'∧∀ S' ρ',R S' w' res ρ' y):aM P f xs [] res []:=by
  refine ⟨hfn,fun ρ S w vs s ha=>(hs ρ S w vs s.glob ha).mono fun e w' ⟨y,he,hb,hR⟩=>?_⟩
  exact ⟨y,ρ,S,he,s.kept (ZZ hb),hR S ρ⟩
theorem yK8 (l:List UInt8) (e:UInt8):aM Tryz.prog 122 [.s l,.v (.int .u8 e.toNat)] [] (.i (Lib.indexByte l e)) []:=
 B1 ⟨_,Tryz.func122,by kernel_rfl,by kernel_rfl⟩ fun ρ S w vs _ ha=>by
  simp only [RL,R] at ha;obtain ⟨y,ys,rfl,rfl,z,zs,rfl,rfl,rfl⟩:=ha;refine (Any.strings_IndexByte laysIdx ⟨l.toArray⟩ (e.toNat:Int) w).mono fun e' w' ⟨h1,h2⟩=>⟨_,h1,by rw [h2];exact RowKit.Below.refl _ _,fun S' ρ'=>?_⟩
  simp [R]
theorem yL7 (l p:List UInt8):aM Tryz.prog 178 [.s l,.s p] [] (.tup [.s (Lib.trimPrefix l p),.b (Lib.hasPrefix l p)]) []:=
 B1 ⟨_,Tryz.func178,by kernel_rfl,by kernel_rfl⟩ fun ρ S w vs _ ha=>by
  simp only [RL,R] at ha;obtain ⟨y,ys,rfl,rfl,z,zs,rfl,rfl,rfl⟩:=ha;refine (Any.strings_CutPrefix laysCut ⟨l.toArray⟩ ⟨p.toArray⟩ w).mono fun e' w' ⟨h1,h2⟩=>⟨_,h1,by rw [h2];exact RowKit.Below.refl _ _,fun S' ρ'=>?_⟩
  simp only [R,RL];exact ⟨_,rfl,_,_,rfl,rfl,_,_,rfl,rfl,rfl⟩
theorem WW {l:List UInt8}{n:Int}(h:Lib.atoiAll l = .ok n) (hl:l.length≤1000000):aM Tryz.prog 124 [.s l] [] (.tup [.i n,.v .nilIface]) []:=
 B1 ⟨_,Tryz.func124,by kernel_rfl,by kernel_rfl⟩ fun ρ S w vs _ ha=>by
  simp only [RL,R] at ha;obtain ⟨y,ys,rfl,rfl,rfl⟩:=ha;refine (Any.strconv_Atoi_ok laysAtoi ⟨l.toArray⟩ (by show l.toArray.size≤_;simp;omega) n (by simpa using h) w).mono fun e' w' ⟨h1,h2⟩=>⟨_,h1,?_,fun S' ρ'=>?_⟩
  ·rcases h2 with rfl | ⟨t,rfl⟩
   ·exact RowKit.Below.refl _ _
   ·exact Lib.bytesWorld_below _ _ _
  ·simp only [R,RL];exact ⟨_,rfl,_,_,rfl,rfl,_,_,rfl,rfl,rfl⟩
theorem zP5 {S:Nat→Prop}{w:World}{name:String}{gi:Nat}(hg:Tryz.prog.globalNamed name=some gi) (hm:(gi,[AV.ifc 279 .any])∈wZ) (h:oK S w):∃ p,w.var? Tryz.prog name=some #[.iface 279 p]:=by
 obtain ⟨_,ys,t,fz,g1,g2⟩:=h gi _ hm;simp only [RL,R] at g2;obtain ⟨y,zs,g3,⟨z,rfl,_⟩,rfl⟩:=g2;refine ⟨z,?_⟩;have e:ys = #[.iface 279 z]:=yJ5.1 g3;unfold World.var?;rw [hg];simp only [FW,g1];rw [e]
theorem RA {l:List UInt8}(h:∀ n,Lib.atoiAll l≠.ok n) (hl:l.length≤1000000):aM Tryz.prog 124 [.s l] [] (.tup [.any,.ifc 250 .any]) []:=
  B1 ⟨_,Tryz.func124,by kernel_rfl,by kernel_rfl⟩ fun ρ S w vs hg ha=>by
    simp only [RL,R] at ha;obtain ⟨y,ys,rfl,rfl,rfl⟩ := ha;obtain ⟨p1, hv1⟩ := zP5 (name := "strconv.ErrSyntax") (gi := 2) (by kernel_rfl) (by unfold wZ; simp) hg
    obtain ⟨p2, hv2⟩ := zP5 (name := "strconv.ErrRange") (gi := 3) (by kernel_rfl) (by unfold wZ; simp) hg
    have hsz:(⟨l.toArray⟩:ByteArray).size≤281474976710656:=by show l.toArray.size≤_;simp;omega
    rcases ha:Lib.atoiAll l with n | _ | _
    · exact absurd ha (h n)
    · skip;refine (Any.strconv_Atoi_syntax_var laysAtoi ⟨l.toArray⟩ hsz (by simpa using ha) _ p1 w hv1).mono fun e' w' ⟨N,h1,_,_,h2⟩=>⟨_,h1,h2,fun S' ρ'=>?_⟩
      simp only [R,RL];exact ⟨_,rfl,_,_,rfl,trivial,_,_,rfl,⟨_,rfl,trivial⟩,rfl⟩
    · skip;refine (Any.strconv_Atoi_range_var laysAtoi ⟨l.toArray⟩ hsz (by simpa using ha) _ p2 w hv2).mono fun e' w' ⟨N,h1,_,_,h2⟩=>⟨_,h1,h2,fun S' ρ'=>?_⟩
      simp only [R,RL];exact ⟨_,rfl,_,_,rfl,trivial,_,_,rfl,⟨_,rfl,trivial⟩,rfl⟩
theorem yP6 (u:TypeId) (v:Value) (W:World):(binOp .neq 170 (.iface u v) .nilIface).run Tryz.prog W = .ok (.bool true) W:=by kernel_rfl
theorem yP5 (W:World):(binOp .neq 170 .nilIface .nilIface).run Tryz.prog W = .ok (.bool false) W:=by kernel_rfl
section
variable {env:eG}{h:Hp}{d:Option Nat}{ty:TypeId}{pos:String}{af:Array Edge}{g:Option (Nat × Bool)}
theorem IU {t2 u:TypeId}{x y:Operand}{z:AV}(hx:evu env x=some (.ifc u z)) (hy:evu env y=some (.v .nilIface)):bW Tryz.prog ⟨d,.binOp .neq 170 x y t2,ty,pos,af,g⟩ env h 0 (fun _=>.b true) (fun _=>[]):=by
 refine iD fun ρ S a w p=>⟨.bool true,?_,by simp [R]⟩
 have h1:=p.evu hx;simp only [R] at h1;obtain ⟨z',h1,_⟩:=h1;have h2:=rL (p.evu hy);have hq:eqGuard .neq 170 x y (.iface u z') .nilIface=pure ():=by rfl
 simp [execOp,h1,h2,hq,yP6]
theorem N1 {t2:TypeId}{x:Operand}(hx:evu env x=some (.v .nilIface)):bW Tryz.prog ⟨d,.binOp .neq 170 x (.const .nilIface) t2,ty,pos,af,g⟩ env h 0 (fun _=>.b false) (fun _=>[]):=by
 refine iD fun ρ S a w p=>⟨.bool false,?_,by simp [R]⟩
 have h1:=rL (p.evu hx);have hq:eqGuard .neq 170 x (.const .nilIface) .nilIface .nilIface=pure ():=by cases x <;> rfl
 have h2:a.eval (.const .nilIface) = .nilIface:=rfl;simp [execOp,h1,h2,hq,yP5]
theorem iL {P:Program}{t:TypeId}{x:Operand}{a b:List UInt8}{lo hi:Option Operand}{l r:Int}(ht:MG P t) (hx:evu env x=some (.s a)) (hlo:CK env lo 0=some l) (hhi:CK env hi a.length=some r) (h0:0≤l) (h1:l≤r) (h2:r≤a.length) (e:(a.take r.toNat).drop l.toNat=b):bW P ⟨d,.slice t x lo hi none,ty,pos,af,g⟩ env h 0 (fun _=>.s b) (fun _=>[]):=by
 subst e;exact ZP ht hx hlo hhi h0 h1 h2
theorem PT {P:Program}{t t2:TypeId}{x y:Operand}{a b:List UInt8}(hx:evu env x=some (.s a)) (hy:evu env y=some (.s b)) (e:a≠b):bW P ⟨d,.binOp .neq t x y t2,ty,pos,af,g⟩ env h 0 (fun _=>.b true) (fun _=>[]):=by
 have:=WJ (P:=P) (d:=d) (ty:=ty) (pos:=pos) (af:=af) (g:=g) (h:=h) (t:=t) (t2:=t2) hx hy;simpa [e] using this
theorem R9 {P:Program}{t t2:TypeId}{x y:Operand}{a b:List UInt8}(hx:evu env x=some (.s a)) (hy:evu env y=some (.s b)) (e:a=b):bW P ⟨d,.binOp .neq t x y t2,ty,pos,af,g⟩ env h 0 (fun _=>.b false) (fun _=>[]):=by
 have:=WJ (P:=P) (d:=d) (ty:=ty) (pos:=pos) (af:=af) (g:=g) (h:=h) (t:=t) (t2:=t2) hx hy;simpa [e] using this
end
attribute [local irreducible] VC AW bW aM
theorem zJ7 (l:List UInt8):aM Tryz.prog 59 [.s l] [] (.ptr 0 0) (BL (some l)):=by
 refine bS T Tryz.func59 rfl rfl rfl rfl ?_
 (repeat' (first|refine wS ?_|refine wR ?_|(refine rg 0 (aV ?_))|(refine rg 1 (mW rfl (vV (by exact eT T rfl rfl rfl rfl) ?_));refine cO (dR rfl rfl) rfl (aV ?_))|refine nZ ?_));all_goals exact ⟨.inl rfl,[0],_,rfl,rfl,rfl,⟨.inr rfl,trivial⟩,by decide,AM⟩
theorem zP2 (r:List UInt8) (b:Bool):aM Tryz.prog 123 [.ptr 0 0] [.cells [.s r,.b b]] (.tup []) [.cells [.s [],.b true]]:=by
 refine bS T Tryz.func123 rfl rfl rfl rfl ?_
 (repeat' (first|(refine rg 0 (dJ rfl (nV ?_));refine fW T rfl (bC T rfl rfl rfl rfl rfl rfl (by decide) rfl (nV ?_));refine fW T rfl (bC T rfl rfl rfl rfl rfl rfl (by decide) rfl ?_))|refine nZ ?_));all_goals exact ⟨.inr rfl,[0],_,rfl,rfl,rfl,⟨.inr rfl,trivial⟩,by decide,uN⟩
theorem IB (r:List UInt8) (b:Bool) (e:UInt8) (lo:Int) (hl:r.length≤1000000000) (h:E8 r e lo=none) :
  aM Tryz.prog 85 [.ptr 0 0,.v (.int .u8 e.toNat),.i lo] [.cells [.s r,.b b]] (.i 0) [.cells [.s [],.b true]]:=by
 have hf:=zP2 r b;have hi:=yK8 (r.take 21) e;have e1:((r.take (min (r.length:Int) 21).toNat).drop (0:Int).toNat)=r.take 21:=by
  rw [RS,jJ];by_cases h21:r.length≤21
  ·rw [bO (by omega),bO h21]
  ·rw [show (min (r.length:Int) 21).toNat=21 by omega]
 refine bS T Tryz.func85 rfl rfl rfl rfl ?_;unfold E8 at h;by_cases h0:Lib.indexByte (r.take 21) e<0
 ·(repeat' (first|refine wS ?_|refine wR ?_|(refine wC rfl (fun hb=>?_) (fun hb=>?_) <;> (((try simp only [nm] at hb);try omega)))|(refine rg 0 (aV ?_))|(refine cH (id:=1) 64 xJ4 (rM 11 11) xJ5 cP rfl (by decide +kernel) (dN rfl (dV rfl (by exact cF rfl rfl) ?_));refine dP T rfl (dO T rfl (dN rfl (dV rfl (by exact cF rfl rfl) ?_)));refine dP T rfl (dO T rfl (dV rfl (tC mS rfl) (dV rfl (zX rfl rfl) (dV rfl (by exact iL mS rfl rfl rfl (by decide) (by omega) (by omega) e1) ?_))));refine dE ?_;refine aV ?_)|(refine rg 2 (dJ rfl (vV (kC (hi)) (aV ?_))))|(refine rg 3 (mW rfl (vV (aK rfl rfl) ?_)))|(refine rg 4 (mW rfl (bT [0] rfl rfl hf rfl rfl (by decide) ⟨.inr rfl,trivial⟩ (by simp) rfl ?_)))|(refine rg 5 (aV ?_))|(refine nZ ?_)));all_goals first|omega | exact ⟨.inl rfl,[0],_,rfl,rfl,rfl,⟨.inr rfl,trivial⟩,by decide,uN⟩
 ·rw [if_neg h0] at h;obtain ⟨k1,k2⟩:=EP (zC3.1 h0);have e2:(((r.take 21).take (Lib.indexByte (r.take 21) e).toNat).drop (0:Int).toNat)=r.take (Lib.indexByte (r.take 21) e).toNat:=by
   rw [RS,jJ,xA4,K5 (by omega)]
  have hk:(Lib.indexByte (r.take 21) e).toNat≤(r.take 21).length:=by rw [aY];omega
  have hsl:(r.take (Lib.indexByte (r.take 21) e).toNat).length≤1000000:=by rw [aY];omega
  generalize Lib.indexByte (r.take 21) e=at_ at *;generalize r.take at_.toNat=s at *;rcases ha:Lib.atoiAll s with n | _ | _
  ·skip;rw [ha] at h;have hA:=WW ha hsl;have hb:=Lib.atoiAll_bounds ha;have hI:=EL (n:=n) ⟨hb.1,hb.2⟩;by_cases hc:Lib.itoa n=s
   ·have hlo:n<lo:=by
     by_cases hh:n<lo
     ·exact hh
     ·dsimp only at h;rw [if_pos ⟨hc,by omega⟩] at h;cases h
    (repeat' (first|refine wS ?_|refine wK ?_|refine wR ?_|(refine wC rfl ?_ ?_<;>(intro hb;(try simp only [nm] at hb);try omega))|(refine rg 0 (aV ?_))|(refine cH (id:=1) 64 xJ4 (rM 11 11) xJ5 cP rfl (by decide +kernel) (dN rfl (dV rfl (by exact cF rfl rfl) ?_));refine dP T rfl (dO T rfl (dN rfl (dV rfl (by exact cF rfl rfl) ?_)));refine dP T rfl (dO T rfl (dV rfl (tC mS rfl) (dV rfl (zX rfl rfl) (dV rfl (by exact iL mS rfl rfl rfl (by decide) (by omega) (by omega) e1) ?_))));refine dE ?_;refine aV ?_)|(refine rg 2 (dJ rfl (vV (kC (hi)) (aV ?_))))|(refine rg 3 (mW rfl (vV (aK rfl rfl) ?_)))|(refine rg 6 (dJ rfl (vV (by exact iL mS rfl rfl rfl (by decide) (by omega) (by omega) e2) ?_));refine vV (kC (hA)) (mW rfl (xW rfl (xW rfl (pT ?_)))))|(refine cH (id:=7) 64 xJ6 (rM 36 15) xJ7 cP rfl (by decide +kernel) (dN rfl (dV rfl (N1 rfl) (dN rfl (tN rfl (dT rfl (kC (hI)) (tN rfl (tN rfl (dT rfl (by exact iL mS rfl rfl rfl (by decide) (by omega) (by omega) e2) ?_))))))));refine dT rfl (R9 rfl rfl hc) (dV rfl (iM rfl rfl) (dN rfl (tN rfl (tN rfl (dT rfl (aK rfl rfl) (dV rfl (iM rfl rfl) (dE ?_))))))))|(refine rg 8 (mW rfl (bT [0] rfl rfl hf rfl rfl (by decide) ⟨.inr rfl,trivial⟩ (by simp) rfl ?_)))|(refine rg 9 (aV ?_))|refine nZ ?_));all_goals first|omega | exact ⟨.inl rfl,[0],_,rfl,rfl,rfl,⟨.inr rfl,trivial⟩,by decide,uN⟩
   ·(repeat' (first|refine wS ?_|refine wK ?_|refine wR ?_|refine sE rfl ?_|(refine wC rfl (fun hb=>?_) (fun hb=>?_) <;> (((try simp only [nm] at hb);try omega)))|(refine rg 0 (aV ?_))|(refine cH (id:=1) 64 xJ4 (rM 11 11) xJ5 cP rfl (by decide +kernel) (dN rfl (dV rfl (by exact cF rfl rfl) ?_));refine dP T rfl (dO T rfl (dN rfl (dV rfl (by exact cF rfl rfl) ?_)));refine dP T rfl (dO T rfl (dV rfl (tC mS rfl) (dV rfl (zX rfl rfl) (dV rfl (by exact iL mS rfl rfl rfl (by decide) (by omega) (by omega) e1) ?_))));refine dE ?_;refine aV ?_)|(refine rg 2 (dJ rfl (vV (kC (hi)) (aV ?_))))|(refine rg 3 (mW rfl (vV (aK rfl rfl) ?_)))|(refine rg 6 (dJ rfl (vV (by exact iL mS rfl rfl rfl (by decide) (by omega) (by omega) e2) ?_));refine vV (kC (hA)) (mW rfl (xW rfl (xW rfl (pT ?_)))))|(refine cH (id:=7) 64 xJ6 (rM 36 15) xJ7 cP rfl (by decide +kernel) (dN rfl (dV rfl (N1 rfl) (dN rfl (tN rfl (dT rfl (kC (hI)) (tN rfl (tN rfl (dT rfl (by exact iL mS rfl rfl rfl (by decide) (by omega) (by omega) e2) ?_))))))));refine dT rfl (PT rfl rfl hc) (dV rfl (iM rfl rfl) (dN rfl (tG rfl (tG rfl (tG rfl (dV rfl (jE rfl rfl) (dE ?_))))))))|(refine rg 8 (mW rfl (bT [0] rfl rfl hf rfl rfl (by decide) ⟨.inr rfl,trivial⟩ (by simp) rfl ?_)))|(refine rg 9 (aV ?_))|(refine nZ ?_)));all_goals first|omega | exact ⟨.inl rfl,[0],_,rfl,rfl,rfl,⟨.inr rfl,trivial⟩,by decide,uN⟩
  ·skip;have hA:=RA (l:=s) (fun n=>by rw [ha];exact fun h=>by cases h) hsl
   (repeat' (first|refine wS ?_|refine wK ?_|refine wR ?_|refine wT ?_|(refine wC rfl ?_ ?_<;>(intro hb;(try simp only [nm] at hb);try omega))|(refine rg 0 (aV ?_))|(refine cH (id:=1) 64 xJ4 (rM 11 11) xJ5 cP rfl (by decide +kernel) (dN rfl (dV rfl (by exact cF rfl rfl) ?_));refine dP T rfl (dO T rfl (dN rfl (dV rfl (by exact cF rfl rfl) ?_)));refine dP T rfl (dO T rfl (dV rfl (tC mS rfl) (dV rfl (zX rfl rfl) (dV rfl (by exact iL mS rfl rfl rfl (by decide) (by omega) (by omega) e1) ?_))));refine dE ?_;refine aV ?_)|(refine rg 2 (dJ rfl (vV (kC (hi)) (aV ?_))))|(refine rg 3 (mW rfl (vV (aK rfl rfl) ?_)))|(refine rg 6 (dJ rfl (vV (by exact iL mS rfl rfl rfl (by decide) (by omega) (by omega) e2) ?_));refine vV (kC (hA)) (mW rfl (xW rfl (xW rfl (pT ?_)))))|(refine cH (id:=7) 64 xJ6 (rM 36 15) xJ7 cP rfl (by decide +kernel) (dN rfl (dV rfl (IU rfl rfl) (dN rfl (tG rfl (tG rfl (tG rfl (tG rfl (tG rfl (dG ?_)))))))));refine dV rfl (jE rfl rfl) (dN rfl (tG rfl (tG rfl (tG rfl (dV rfl (jE rfl rfl) (dE ?_)))))))|(refine rg 8 (mW rfl (bT [0] rfl rfl hf rfl rfl (by decide) ⟨.inr rfl,trivial⟩ (by simp) rfl ?_)))|(refine rg 9 (aV ?_))|refine nZ ?_));all_goals first|omega | exact ⟨.inl rfl,[0],_,rfl,rfl,rfl,⟨.inr rfl,trivial⟩,by decide,uN⟩
  ·skip;have hA:=RA (l:=s) (fun n=>by rw [ha];exact fun h=>by cases h) hsl
   (repeat' (first|refine wS ?_|refine wK ?_|refine wR ?_|refine wT ?_|(refine wC rfl ?_ ?_<;>(intro hb;(try simp only [nm] at hb);try omega))|(refine rg 0 (aV ?_))|(refine cH (id:=1) 64 xJ4 (rM 11 11) xJ5 cP rfl (by decide +kernel) (dN rfl (dV rfl (by exact cF rfl rfl) ?_));refine dP T rfl (dO T rfl (dN rfl (dV rfl (by exact cF rfl rfl) ?_)));refine dP T rfl (dO T rfl (dV rfl (tC mS rfl) (dV rfl (zX rfl rfl) (dV rfl (by exact iL mS rfl rfl rfl (by decide) (by omega) (by omega) e1) ?_))));refine dE ?_;refine aV ?_)|(refine rg 2 (dJ rfl (vV (kC (hi)) (aV ?_))))|(refine rg 3 (mW rfl (vV (aK rfl rfl) ?_)))|(refine rg 6 (dJ rfl (vV (by exact iL mS rfl rfl rfl (by decide) (by omega) (by omega) e2) ?_));refine vV (kC (hA)) (mW rfl (xW rfl (xW rfl (pT ?_)))))|(refine cH (id:=7) 64 xJ6 (rM 36 15) xJ7 cP rfl (by decide +kernel) (dN rfl (dV rfl (IU rfl rfl) (dN rfl (tG rfl (tG rfl (tG rfl (tG rfl (tG rfl (dG ?_)))))))));refine dV rfl (jE rfl rfl) (dN rfl (tG rfl (tG rfl (tG rfl (dV rfl (jE rfl rfl) (dE ?_)))))))|(refine rg 8 (mW rfl (bT [0] rfl rfl hf rfl rfl (by decide) ⟨.inr rfl,trivial⟩ (by simp) rfl ?_)))|(refine rg 9 (aV ?_))|refine nZ ?_));all_goals first|omega | exact ⟨.inl rfl,[0],_,rfl,rfl,rfl,⟨.inr rfl,trivial⟩,by decide,uN⟩
theorem YR (r r':List UInt8) (b:Bool) (e:UInt8) (lo n:Int) (hl:r.length≤1000000000) (h:E8 r e lo=some (n,r')) :
  aM Tryz.prog 85 [.ptr 0 0,.v (.int .u8 e.toNat),.i lo] [.cells [.s r,.b b]] (.i n) [.cells [.s r',.b b]]:=by
 have hi:=yK8 (r.take 21) e;have e1:((r.take (min (r.length:Int) 21).toNat).drop (0:Int).toNat)=r.take 21:=by
  rw [RS,jJ];by_cases h21:r.length≤21
  ·rw [bO (by omega),bO h21]
  ·rw [show (min (r.length:Int) 21).toNat=21 by omega]
 unfold E8 at h;by_cases h0:Lib.indexByte (r.take 21) e<0
 ·rw [if_pos h0] at h;cases h
 rw [if_neg h0] at h;obtain ⟨k1,k2⟩:=EP (zC3.1 h0);have e2:(((r.take 21).take (Lib.indexByte (r.take 21) e).toNat).drop (0:Int).toNat)=r.take (Lib.indexByte (r.take 21) e).toNat:=by
  rw [RS,jJ,xA4,K5 (by omega)]
 have e3:(r.take ((r.length:Int)).toNat).drop (Lib.indexByte (r.take 21) e+1).toNat=r.drop ((Lib.indexByte (r.take 21) e).toNat+1):=by
  rw [bI,cM,show (Lib.indexByte (r.take 21) e+1).toNat=(Lib.indexByte (r.take 21) e).toNat+1 by omega]
 have hk:(Lib.indexByte (r.take 21) e).toNat≤(r.take 21).length:=by rw [aY];omega
 have hsl:(r.take (Lib.indexByte (r.take 21) e).toNat).length≤1000000:=by rw [aY];omega
 generalize Lib.indexByte (r.take 21) e=at_ at *;generalize r.take at_.toNat=s at *;rcases ha:Lib.atoiAll s with n' | _ | _
 ·skip;rw [ha] at h;dsimp only at h;split at h
  ·rename_i hc;simp only [Option.some.injEq,Prod.mk.injEq] at h;obtain ⟨rfl,rfl⟩:=h;have hA:=WW ha hsl;have hb:=Lib.atoiAll_bounds ha;have hI:=EL (n:=n') ⟨hb.1,hb.2⟩;obtain ⟨hc,hlo⟩:=hc;generalize r.drop (at_.toNat+1)=r' at *;refine bS T Tryz.func85 rfl rfl rfl rfl ?_
   (repeat' (first|refine wS ?_|refine wK ?_|refine wR ?_|(refine wC rfl ?_ ?_<;>(intro hb;(try simp only [nm] at hb);try omega))|(refine rg 0 (aV ?_))|(refine cH (id:=1) 64 xJ4 (rM 11 11) xJ5 cP rfl (by decide +kernel) (dN rfl (dV rfl (by exact cF rfl rfl) ?_));refine dP T rfl (dO T rfl (dN rfl (dV rfl (by exact cF rfl rfl) ?_)));refine dP T rfl (dO T rfl (dV rfl (tC mS rfl) (dV rfl (zX rfl rfl) (dV rfl (by exact iL mS rfl rfl rfl (by decide) (by omega) (by omega) e1) ?_))));refine dE ?_;refine aV ?_)|(refine rg 2 (dJ rfl (vV (kC (hi)) (aV ?_))))|(refine rg 3 (mW rfl (vV (aK rfl rfl) ?_)))|(refine rg 6 (dJ rfl (vV (by exact iL mS rfl rfl rfl (by decide) (by omega) (by omega) e2) ?_));refine vV (kC (hA)) (mW rfl (xW rfl (xW rfl (pT ?_)))))|(refine cH (id:=7) 64 xJ6 (rM 36 15) xJ7 cP rfl (by decide +kernel) (dN rfl (dV rfl (N1 rfl) (dN rfl (tN rfl (dT rfl (kC (hI)) (tN rfl (tN rfl (dT rfl (by exact iL mS rfl rfl rfl (by decide) (by omega) (by omega) e2) ?_))))))));refine dT rfl (R9 rfl rfl hc) (dV rfl (iM rfl rfl) (dN rfl (tN rfl (tN rfl (dT rfl (aK rfl rfl) (dV rfl (iM rfl rfl) (dE ?_))))))))|(refine rg 10 (dJ rfl (nV ?_));refine iK T rfl (mW rfl (vV (cK rfl rfl (by omega) (by omega)) (vV (by exact iL mS rfl rfl rfl (by omega) (by omega) (by omega) e3) ?_)));refine nV ?_;refine fW T rfl (bC T rfl rfl rfl rfl rfl rfl (by decide) rfl ?_))|(refine rg 11 (mW rfl (aV ?_)))|refine nZ ?_));all_goals first|omega | exact ⟨.inl rfl,[0],_,rfl,rfl,rfl,⟨.inr rfl,trivial⟩,by decide,uN⟩
  ·cases h
 ·rw [ha] at h;cases h
 ·rw [ha] at h;cases h
theorem Q3 (s:St) (e:UInt8) (lo:Int) (hl:(s.getD []).length≤1000000000) :
  aM Tryz.prog 85 [.ptr 0 0,.v (.int .u8 e.toNat),.i lo] (BL s) (.i (nM s e lo).1) (BL (nM s e lo).2):=by
 cases s with
 | none=>rw [IC];exact IB [] true e lo hl (OW e lo)
 | some r=>
  cases hp:E8 r e lo with
  | none=>rw [ID hp];exact IB r false e lo hl hp
  | some p=>rw [uY hp];exact YR r p.2 false e lo p.1 hl hp
end Go.Proofs.Q
namespace Go.Proofs.Q
open Go Go.Ab Go.Wr
attribute [local irreducible] VC AW bW aM
theorem zQ1 {c e:UInt8}{r:List UInt8}(h:c=e):Lib.hasPrefix (c::r) [e]=true∧Lib.trimPrefix (c::r) [e]=r:=by
 subst h;simp [Lib.hasPrefix,Lib.trimPrefix,List.isPrefixOf]
theorem zQ2 {r:List UInt8}{e:UInt8}(h:∀ r',r≠e::r'):Lib.hasPrefix r [e]=false∧Lib.trimPrefix r [e]=r:=by
 have h1:Lib.hasPrefix r [e]=false:=by
  cases r with
  | nil=>rfl
  | cons c r=>
   have:e≠c:=fun q=>h r (by rw [q])
   simp [Lib.hasPrefix,List.isPrefixOf,this]
 exact ⟨h1,by simp [Lib.trimPrefix,h1]⟩
theorem QK (c:UInt8) (r:List UInt8) (b:Bool):aM Tryz.prog 126 [.ptr 0 0,.s [c]] [.cells [.s (c::r),.b b]] (.tup []) [.cells [.s r,.b b]]:=by
 obtain ⟨h1,h2⟩:=zQ1 (c:=c) (e:=c) (r:=r) rfl;have hc:=yL7 (c::r) [c];rw [h1,h2] at hc;refine bS T Tryz.func126 rfl rfl rfl rfl ?_
 (repeat' (first|refine wS ?_|refine wK ?_|refine wU ?_|(refine rg 0 (mW rfl (nV ?_));refine iK T rfl (mW rfl (vV (kC (hc)) (mW rfl (xW rfl (xW rfl (pT ?_)))))))|(refine rg 1 (dJ rfl (nV ?_));refine fW T rfl (bC T rfl rfl rfl rfl rfl rfl (by decide) rfl ?_))|(refine rg 2 (mW rfl (vV (dS rfl) ?_)))|refine nZ ?_));all_goals exact ⟨.inr rfl,[0],_,rfl,rfl,rfl,⟨.inr rfl,trivial⟩,by decide,uN⟩
theorem FI (r:List UInt8) (b:Bool) (e:UInt8) (h:∀ r',r≠e::r'):aM Tryz.prog 126 [.ptr 0 0,.s [e]] [.cells [.s r,.b b]] (.tup []) [.cells [.s [],.b true]]:=by
 obtain ⟨h1,h2⟩:=zQ2 h;have hc:=yL7 r [e];rw [h1,h2] at hc;have hf:=zP2 r b;refine bS T Tryz.func126 rfl rfl rfl rfl ?_
 (repeat' (first|refine wS ?_|refine wT ?_|(refine rg 0 (mW rfl (nV ?_));refine iK T rfl (mW rfl (vV (kC (hc)) (mW rfl (xW rfl (xW rfl (pT ?_)))))))|(refine rg 1 (dJ rfl (nV ?_));refine fW T rfl (bC T rfl rfl rfl rfl rfl rfl (by decide) rfl ?_))|(refine rg 2 (mW rfl (vV (dS rfl) ?_)))|(refine rg 3 (mW rfl (bT [0] rfl rfl hf rfl rfl (by decide) ⟨.inr rfl,trivial⟩ (by simp) rfl ?_)))|refine nZ ?_));all_goals exact ⟨.inr rfl,[0],_,rfl,rfl,rfl,⟨.inr rfl,trivial⟩,by decide,uN⟩
theorem WR (s:St) (e:UInt8):aM Tryz.prog 126 [.ptr 0 0,.s [e]] (BL s) (.tup []) (BL (vU s e)):=by
 match s with
 | none=>exact FI [] true e (fun r' h=>by cases h)
 | some []=>exact FI [] false e (fun r' h=>by cases h)
 | some (c::r)=>
  by_cases h:c=e
  ·subst h;have:=QK c r false;rw [show vU (some (c::r)) c=some r from if_pos rfl]
   exact this
  ·have:=FI (c::r) false e (fun r' q=>h (by cases q;rfl))
   rw [show vU (some (c::r)) e=none from if_neg h]
   exact this
theorem IP (s:St) (hl:(s.getD []).length≤1000000000):aM Tryz.prog 86 [.ptr 0 0] (BL s) (.i (qT s).1) (BL (qT s).2):=by
 have hc:=Q3 s 59 (-9223372036854775808) hl;refine bS T Tryz.func86 rfl rfl rfl rfl ?_
 (repeat' (first|refine wS ?_|refine wR ?_|(refine rg 0 (aV ?_))|(refine rg 1 (mW rfl (bT [0] rfl rfl hc rfl rfl (by decide) ⟨.inr rfl,trivial⟩ (by simp) rfl ?_));refine aV ?_)|refine nZ ?_));all_goals exact ⟨.inl rfl,[0],_,rfl,rfl,rfl,⟨.inr rfl,trivial⟩,by decide,uN⟩
theorem zP9 (s:St):aM Tryz.prog 62 [.ptr 0 0] (BL s) (.b (decide (s=some []))) (BL s):=by
 refine bS T Tryz.func62 rfl rfl rfl rfl ?_
 match s with
 | none=>
  (repeat' (first|refine wS ?_|refine wR ?_|(refine rg 0 (aV ?_))|(refine rg 1 (mW rfl (nV ?_));refine iK T rfl (vV (dS rfl) (mV ?_));(iterate 5 refine gF ?_);refine pW rfl (aV ?_))|refine nZ ?_));all_goals exact ⟨.inl rfl,[0],_,rfl,rfl,rfl,⟨.inr rfl,trivial⟩,by decide,uN⟩
 | some r=>
  rw [show decide ((some r:St)=some [])=decide (r=[]) from by simp]
  (repeat' (first|refine wS ?_|refine wR ?_|(refine rg 0 (aV ?_))|(refine rg 1 (mW rfl (nV ?_));refine iK T rfl (vV (dS rfl) (mW rfl (yN rfl (gT (nV ?_)))));refine yP T rfl (yO T rfl (yV (yE9 (a:=r) (b:=[]) rfl rfl) (pW rfl (aV ?_)))))|refine nZ ?_));all_goals exact ⟨.inl rfl,[0],_,rfl,rfl,rfl,⟨.inr rfl,trivial⟩,by decide,uN⟩
theorem yQ0:∀ i:Nat,i<1→([0,1]:List Nat)[i]? = some i:=by decide
theorem zL2:∀ i:Nat,i<1→([0,2]:List Nat)[i]? = some i:=by decide
theorem yX9:∀ i:Nat,i<1→([0,3]:List Nat)[i]? = some i:=by decide
theorem zM1 (r:List UInt8):(qT (some r)).2=none∨∃ r',(qT (some r)).2=some r'∧r'.length+2≤r.length:=by
 cases h:(qT (some r)).2 with
 | none=>exact .inl rfl
 | some r'=>
  obtain ⟨r0,e,_,h3⟩:=EB h;cases e;exact .inr ⟨r',rfl,h3⟩
theorem M6:∀ (k:Nat) (s:St),2*(kS k s).1.length+((kS k s).2.getD []).length≤(s.getD []).length+2
 | 0,s=>by simp [kS]
 | k+1,none=>by simp [kS]
 | k+1,some r=>by
  have ih:=M6 k (qT (some r)).2;show 2*((qT (some r)).1::(kS k (qT (some r)).2).1).length+((kS k (qT (some r)).2).2.getD []).length≤r.length+2;rw [List.length_cons];rcases zM1 r with h | ⟨r',h,hl⟩
  ·rw [h,wY];simp
  ·rw [h] at ih ⊢;have e:((some r':St).getD []).length=r'.length:=rfl;omega
theorem TE {s:St}{e:UInt8}{lo:Int}:(nM s e lo).2=none∨((nM s e lo).2.getD []).length+2≤(s.getD []).length:=by
 cases h:(nM s e lo).2 with
 | none=>exact .inl rfl
 | some r=>
  obtain ⟨r0,rfl,_,h3⟩:=EB h;exact .inr h3
theorem YP (s:St):2*(uH s).1.length+((uH s).2.getD []).length≤(s.getD []).length:=by
 unfold uH;dsimp only;split
 ·simp
 ·rename_i ht;have hi:=M6 (nM s 91 0).1.toNat (nM s 91 0).2;have hc:∀ t:St,((vU t 93).getD []).length≤(t.getD []).length:=fun t=>by
   match t with
   | none=>simp [vU]
   | some []=>simp [vU]
   | some (c::r)=>
    unfold vU;dsimp only;split <;> simp
  have h2:=hc (kS (nM s 91 0).1.toNat (nM s 91 0).2).2;rcases TE (s:=s) (e:=91) (lo:=0) with h | h
  ·exfalso;rw [h,wY] at ht;exact ht rfl
  ·dsimp only;omega
theorem yB0 (s:St) (e:UInt8):0≤(nM s e 0).1:=by
 unfold nM;split
 ·rename_i n r h;have:=(X9 h).2.1;split <;> simp <;> omega
 ·simp
theorem yD1 (s:St) (hl:(s.getD []).length≤100000000) :
  aM Tryz.prog 177 [.ptr 0 0,.clo (.func 86) [.ptr 0 0] []] (BL s) (.sl 1 0 (uH s).1.length 1) (BL (uH s).2++[.arr (ints (uH s).1) 1]):=by
 have hc:=Q3 s 91 0 (by omega)
 have hn0:=yB0 s 91;have hn1:=(yE s 91 0).2;have hlen:=uZ s 91 0;have htot:uH s=(if (vU (kS (nM s 91 0).1.toNat (nM s 91 0).2).2 93).isNone then ([],none) else ((kS (nM s 91 0).1.toNat (nM s 91 0).2).1,vU (kS (nM s 91 0).1.toNat (nM s 91 0).2).2 93)):=rfl
 rw [htot];clear htot;generalize (nM s 91 0).1=n at *;generalize (nM s 91 0).2=s1 at *;have hil:=M6 n.toNat s1;refine bS T Tryz.func177 rfl rfl rfl rfl ?_
 (repeat' (first|refine wS ?_|refine wB ?_|(refine rg 0 (aV ?_))|(refine rg 1 (aV ?_))|(refine rg 2 (mW rfl (bT [0] rfl rfl hc rfl rfl (by decide) ⟨.inr rfl,trivial⟩ (by simp) rfl ?_));refine aV ?_)|refine nZ ?_));refine zR7 5 1 rfl (by decide) ?_
 refine dI (X:={p:List Int × Nat × St // kS n.toNat s1=(p.1++(kS p.2.1 p.2.2).1,(kS p.2.1 p.2.2).2)∧p.2.1≤n.toNat∧(p.2.2.getD []).length≤(s1.getD []).length}) (fun p=>[(0,.ptr 0 0),(1,.clo (.func 86) [.ptr 0 0] []),(5,.sl 1 0 p.1.1.length 1),(6,.i (p.1.2.1:Int))]) (fun p=>[.cells [.s (p.1.2.2.getD []),.b p.1.2.2.isNone],.arr (ints p.1.1) 1]) (fun p=>p.1.2.1) ⟨([],n.toNat,s1),by simp,aX _,aX _⟩ ⟨[0,1],rfl,(by dsimp only;rw [Int.toNat_of_nonneg hn0];(repeat (first|exact trivial|refine ⟨rfl,?_⟩))),⟨.inr rfl,.inr rfl,trivial⟩,by decide,yQ0⟩ ?_
 rintro ⟨⟨out,k,t⟩,h1,h2,h3⟩;dsimp only at h1 h2 h3 ⊢;have hend:(k=0∨t=none)→kS n.toNat s1=(out,t):=fun h=>by
  rw [h1];rcases h with h | h
  ·subst h;simp [kS]
  ·subst h;rw [wY];simp
 cases t with
 | none=>
  have he:=hend (.inr rfl);rw [he];have cC:=WR none 93;by_cases hk:0<(k:Int)
  ·(repeat' (first|refine wS ?_|refine wE ?_|refine sE rfl ?_|refine T8 rfl ?_|(refine rg 3 (mW rfl (vV (fK rfl rfl) (mV ?_)));refine cD rfl rfl (fun hb=>?_) (fun hb=>?_) <;> ((rw [hb];(try simp only [nm] at hb);try ((exfalso;omega);done)));(all_goals (refine yN rfl (gT (nV ?_));refine yP T rfl (yO T rfl (yV (dS rfl) (pV ?_))))))|(refine rg 6 (mW rfl (bT [0] rfl rfl cC rfl rfl (by decide) ⟨.inr rfl,trivial⟩ (by simp) rfl ?_)))|(refine rg 7 (mW rfl (nV ?_));refine GD T ?_)|(refine nZ ?_)));all_goals try omega
   all_goals (refine eU (id:=8) ?_;refine vV (by exact eD rfl) ?_;refine oF 4 1 rfl (by decide) ?_;refine iI ?_)
   all_goals repeat' ((refine pQ ?_))
   all_goals exact ⟨.inl rfl,[0,2],_,rfl,rfl,rfl,⟨.inr rfl,.inr rfl,trivial⟩,by decide,zL2⟩
  ·(repeat' (first|refine wS ?_|refine wE ?_|refine sE rfl ?_|refine T8 rfl ?_|(refine rg 3 (mW rfl (vV (fK rfl rfl) (mV ?_)));refine cD rfl rfl (fun hb=>?_) (fun hb=>?_) <;> ((rw [hb];(try simp only [nm] at hb);try ((exfalso;omega);done)));(all_goals ((iterate 5 refine gF ?_);refine pV ?_)))|(refine rg 6 (mW rfl (bT [0] rfl rfl cC rfl rfl (by decide) ⟨.inr rfl,trivial⟩ (by simp) rfl ?_)))|(refine rg 7 (mW rfl (nV ?_));refine GD T ?_)|(refine nZ ?_)));all_goals try omega
   all_goals (refine eU (id:=8) ?_;refine vV (by exact eD rfl) ?_;refine oF 4 1 rfl (by decide) ?_;refine iI ?_)
   all_goals repeat' ((refine pQ ?_))
   all_goals exact ⟨.inl rfl,[0,2],_,rfl,rfl,rfl,⟨.inr rfl,.inr rfl,trivial⟩,by decide,zL2⟩
 | some r=>
  cases k with
  | succ k=>
   have hi:=IP (some r) (by have:((some r:St).getD []).length=r.length:=rfl;omega)
   have hs:kS (k+1) (some r)=((qT (some r)).1::(kS k (qT (some r)).2).1,(kS k (qT (some r)).2).2):=rfl;rw [hs] at h1;have hle:=uZ (some r) 59 (-9223372036854775808);change ((qT (some r)).2.getD []).length≤_ at hle;have hol:out.length≤100000000:=by
    have:=hil;rw [h1] at this;simp only [aD] at this;omega
   generalize (qT (some r)).1=v at *;generalize (qT (some r)).2=t' at *
   (repeat' (first|refine wS ?_|refine wB ?_|refine wK ?_|refine wT ?_|(refine rg 3 (mW rfl (vV (fK rfl rfl) (mV ?_)));refine cD rfl rfl ?_ ?_<;>(intro hb;rw [hb];(try simp only [nm] at hb);try omega);(all_goals (refine yN rfl (gT (nV ?_));refine yP T rfl (yO T rfl (yV (dS rfl) (pV ?_))))))|(refine rg 5 (dJ rfl (bT [0] rfl rfl hi rfl rfl (by decide) ⟨.inr rfl,trivial⟩ (by simp) rfl ?_));refine cO (by exact bG T rfl rfl (by decide) (by decide) rfl rfl rfl) rfl ?_;refine gJ T rfl rfl rfl rfl rfl rfl (by simp) (kK.whole rfl rfl) rfl (by simp;omega) (by simp;omega) rfl ?_;refine aV ?_)|(refine rg 4 (mW rfl (vV (dC rfl rfl (by omega) (by omega)) (aV ?_))))|refine nZ ?_));all_goals first|omega | exact ⟨⟨(out++[v],k,t'),by rw [h1];simp,by dsimp only;omega,by dsimp only;omega⟩,by dsimp only;omega,[0,3],rfl,⟨rfl,rfl,by dsimp only;rw [show (out++[v]).length=out.length+1 by simp];rfl,congrArg (fun x=>some (AV.i x)) (show ((k+1:Nat):Int)-1=(k:Int) by omega),trivial⟩,⟨.inr rfl,.inr (aC rfl ((jW (by simp)).trans (by dsimp only;exact I5 _ _)) (bF _)),trivial⟩,by decide,yX9⟩
  | zero=>
   have he:=hend (.inl rfl);rw [he];have cC:=WR (some r) 93;have hk:¬ 0<((0:Nat):Int):=by decide
   dsimp only;cases hcl:vU (some r) 93 with
   | none=>
    rw [hcl] at cC
    (repeat' (first|refine wS ?_|refine wE ?_|refine wT ?_|refine wU ?_|(refine rg 3 (mW rfl (vV (fK rfl rfl) (mV ?_)));(iterate 5 refine gF ?_);refine pV ?_)|(refine rg 6 (mW rfl (bT [0] rfl rfl cC rfl rfl (by decide) ⟨.inr rfl,trivial⟩ (by simp) rfl ?_)))|(refine rg 7 (mW rfl (nV ?_));refine GD T ?_)|refine nZ ?_));all_goals try omega
    all_goals (refine eU (id:=8) ?_;refine vV (by exact eD rfl) ?_;refine oF 4 1 rfl (by decide) ?_;refine iI ?_)
    all_goals repeat' ((refine pQ ?_))
    all_goals exact ⟨.inl rfl,[0,2],_,rfl,rfl,rfl,⟨.inr rfl,.inr rfl,trivial⟩,by decide,zL2⟩
   | some r'=>
    rw [hcl] at cC
    (repeat' (first|refine wS ?_|refine wK ?_|refine wR ?_|refine wE ?_|refine wU ?_|(refine rg 3 (mW rfl (vV (fK rfl rfl) (mV ?_)));(iterate 5 refine gF ?_);refine pV ?_)|(refine rg 6 (mW rfl (bT [0] rfl rfl cC rfl rfl (by decide) ⟨.inr rfl,trivial⟩ (by simp) rfl ?_)))|(refine rg 7 (mW rfl (nV ?_));refine GD T ?_)|(refine rg 9 (mW rfl (aV ?_)))|refine nZ ?_));all_goals try omega
    all_goals exact ⟨.inl rfl,[0,1],_,rfl,rfl,rfl,⟨.inr rfl,.inr (aC rfl rfl (bF _)),trivial⟩,by decide,yQ0⟩
theorem zY9 (s:St) (hl:(s.getD []).length≤100000000) :
  aM Tryz.prog 125 [.ptr 0 0] (BL s) (.sl 1 0 (uH s).1.length 1) (BL (uH s).2++[.arr (ints (uH s).1) 1]):=by
 have hc:=yD1 s hl;refine bS T Tryz.func125 rfl rfl rfl rfl ?_
 (repeat' (first|refine wS ?_|refine wR ?_|(refine rg 0 (aV ?_))|(refine rg 1 (dJ rfl (vV (by exact kT rfl rfl) ?_));refine bT [0] rfl rfl hc rfl rfl (by decide) ⟨.inr rfl,trivial⟩ (by simp) rfl ?_;refine aV ?_)|refine nZ ?_));all_goals exact ⟨.inl rfl,[0,1],_,rfl,rfl,rfl,⟨.inr rfl,.inr (aC rfl (bB _ (bF _)) (bF _)),trivial⟩,by decide,yQ0⟩
end Go.Proofs.Q
namespace Go.Proofs.Q
open Go Go.Ab Go.Wr
theorem yR {n:Int}(h:V8 n) (r:List UInt8):qT (some (fY n++r))=(n,some r):=by
 unfold qT fY;rw [bM,oD];exact uY (CE h h.1 (by decide))
theorem EM:∀ (l:List Int) (r:List UInt8),(∀ x,x∈l→V8 x)→kS l.length (some ((l.map fY).flatten++r))=(l,some r)
 | [],r,_=>rfl
 | x::l,r,h=>by
  have ih:=EM l r fun y hy=>h y (aH _ hy);have hi:=yR (h x aR) ((l.map fY).flatten++r);rw [List.map_cons,dZ,bM,List.length_cons];show ((qT (some (fY x++((l.map fY).flatten++r)))).1::(kS l.length (qT (some (fY x++((l.map fY).flatten++r)))).2).1,(kS l.length (qT (some (fY x++((l.map fY).flatten++r)))).2).2)=_;rw [hi];dsimp only;rw [ih]
theorem YO {l:List Int}(h:∀ x,x∈l→V8 x) (hl:l.length≤1000000) (r:List UInt8):uH (some (rT l++r))=(l,some r):=by
 have e:rT l++r=Lib.itoa l.length++91::((l.map fY).flatten++(93::r)):=by
  unfold rT G6;rw [cM];simp
 have h1:nM (some (rT l++r)) 91 0=((l.length:Int),some ((l.map fY).flatten++(93::r))):=by
  rw [e];exact uY (CE ⟨by omega,by omega⟩ (by omega) (by decide))
 unfold uH;rw [h1];dsimp only;rw [bI,EM l _ h];rfl
abbrev SG:=Int × Int × Int × Int × List Int
def jV (x:SG):List UInt8:=fY x.1++fY x.2.1++fY x.2.2.1++fY x.2.2.2.1++rT x.2.2.2.2
structure xA3 (x:SG):Prop where
 k:V8 x.1
 a:V8 x.2.1
 b:V8 x.2.2.1
 n:V8 x.2.2.2.1
 ids:∀ y,y∈x.2.2.2.2→V8 y
def st1 (l:List UInt8):St:=(qT (some l)).2
def zC7 (l:List UInt8):St:=(qT (st1 l)).2
def RY (l:List UInt8):St:=(qT (zC7 l)).2
def zC6 (l:List UInt8):St:=(qT (RY l)).2
def yK3 (l:List UInt8):St:=(uH (zC6 l)).2
def XQ (l:List UInt8):SG:=((qT (some l)).1,(qT (st1 l)).1,(qT (zC7 l)).1,(qT (RY l)).1,(uH (zC6 l)).1)
def OI (l:List UInt8):Option SG:=if yK3 l=some []∧jV (XQ l)=l then some (XQ l) else none
theorem EN:∀ (k:Nat) (s:St) (y:Int),y∈(kS k s).1→V8 y
 | 0,s,y,h=>by cases h
 | k+1,none,y,h=>by rw [wY] at h;cases h
 | k+1,some r,y,h=>by
  rcases bQ.1 (show y∈(qT (some r)).1::(kS k (qT (some r)).2).1 from h) with h | h
  ·rw [h];exact yE _ _ _
  ·exact EN k _ y h
theorem YQ (s:St) (y:Int) (h:y∈(uH s).1):V8 y:=by
 unfold uH at h;dsimp only at h;split at h
 ·cases h
 ·exact EN _ _ y h
theorem yN9 (l:List UInt8):xA3 (XQ l):=⟨yE _ _ _,yE _ _ _,yE _ _ _,yE _ _ _,fun y h=>YQ _ y h⟩
theorem OH {x:SG}(h:xA3 x) (hl:x.2.2.2.2.length≤1000000):OI (jV x)=some x:=by
 obtain ⟨k,a,b,n,ids⟩:=x;have e:jV (k,a,b,n,ids)=fY k++(fY a++(fY b++(fY n++(rT ids++[])))):=by
  unfold jV;simp
 have e1:=yR h.k (fY a++(fY b++(fY n++(rT ids++[]))));have e2:=yR h.a (fY b++(fY n++(rT ids++[])));have e3:=yR h.b (fY n++(rT ids++[]));have e4:=yR h.n (rT ids++[]);have e5:=YO h.ids hl [];dsimp only at e1 e2 e3 e4 e5;rw [← e] at e1;have f1:st1 (jV (k,a,b,n,ids))=some (fY a++(fY b++(fY n++(rT ids++[])))):=by unfold st1;rw [e1]
 have f2:zC7 (jV (k,a,b,n,ids))=some (fY b++(fY n++(rT ids++[]))):=by unfold zC7;rw [f1,e2]
 have f3:RY (jV (k,a,b,n,ids))=some (fY n++(rT ids++[])):=by unfold RY;rw [f2,e3]
 have f4:zC6 (jV (k,a,b,n,ids))=some (rT ids++[]):=by unfold zC6;rw [f3,e4]
 have f5:yK3 (jV (k,a,b,n,ids))=some []:=by unfold yK3;rw [f4,e5]
 have g:XQ (jV (k,a,b,n,ids))=(k,a,b,n,ids):=by
  unfold XQ;rw [f1,f2,f3,f4,e1,e2,e3,e4,e5]
 unfold OI;rw [f5,g,if_pos ⟨rfl,rfl⟩]
end Go.Proofs.Q
namespace Go.Proofs.Q
open Go Go.Ab Go.Wr
attribute [local irreducible] VC AW bW aM
abbrev xH3 (x:SG):List AV:=[.i x.1,.i x.2.1,.i x.2.2.1,.i x.2.2.2.1,.rowE (ints x.2.2.2.2) 1]
theorem IA {l:List Int}(hw:∀ x,x∈l→V8 x) (hl:l.length≤1000000):(rT l).length≤23+22*l.length:=by
 have:=RE hw hl l.length;unfold rT;simp only [aD,List.length_cons,List.length_nil];omega
theorem QS {x:SG}(h:xA3 x) (hl:x.2.2.2.2.length≤1000000):aM Tryz.prog 52 [.agg (xH3 x)] [] (.s (jV x)) []:=by
 have c1:=uB h.k;have c2:=uB h.a;have c3:=uB h.b;have c4:=uB h.n;have c5:=yP0 h.ids hl;have l1:=gL h.k;have l2:=gL h.a;have l3:=gL h.b;have l4:=gL h.n;have l5:=IA h.ids hl;obtain ⟨k,a,b,n,ids⟩:=x;unfold jV;dsimp only at *;generalize fY k=b1 at *;generalize fY a=b2 at *;generalize fY b=b3 at *;generalize fY n=b4 at *;generalize rT ids=b5 at *;refine bS T Tryz.func52 rfl rfl rfl rfl ?_
 (repeat' (first|refine wS ?_|refine wR ?_|(refine rg 0 (cO (dR rfl rfl) rfl (aV ?_)))|(refine cH (id:=1) 22 [[],[0],[0,1],[],[3],rN 5,rN 6,[],[7],[0,1,2,3,4,5,7,8],rN 10,[],[11],[0,1,2,3,4,5,7,8,9,11,12],rN 14,[],[15],[0,1,2,3,4,5,7,8,9,11,12,13,15,16],rN 18] (rM 3 19) [[],[],[],[3,4,5],[3,4,5],[],[],rM 3 7,rM 3 7,[9],[],rM 3 11,rM 3 11,[9,13],[],rM 3 15,rM 3 15,[9,13,17],[]] cP rfl (by decide +kernel) (dP T rfl (dO T rfl (dV rfl (kC (c1)) (dP T rfl (dO T rfl (dV rfl (kC (c2)) (dV rfl (mE rfl rfl (by omega)) (dP T rfl (dL T ?_)))))))));refine dV rfl (kC (c3)) (dV rfl (mE rfl rfl (by (simp only [aD];omega))) ?_);refine dP T rfl (dO T rfl (dV rfl (kC (c4)) (dV rfl (mE rfl rfl (by (simp only [aD];omega))) ?_)));refine dP T rfl (dO T rfl (dV rfl (kC (c5)) (dV rfl (mE rfl rfl (by (simp only [aD];omega))) ?_)));refine dE ?_;refine aV ?_)|refine nZ ?_));all_goals first|omega | exact rQ
def yW8:Option SG→AV × Hp
 | some x=>(.tup [.agg [.i x.1,.i x.2.1,.i x.2.2.1,.i x.2.2.2.1,.sl 0 0 x.2.2.2.2.length 1],.b true],[.arr (ints x.2.2.2.2) 1])
 | none=>(.tup [.agg [.i 0,.i 0,.i 0,.i 0,.nils],.b false],[])
theorem yB7 (L:List Nat):∀ i:Nat,i<0→L[i]? = some i:=AM
theorem zZ7 (l:List UInt8) (hl:l.length≤1000000):aM Tryz.prog 87 [.s l] [] (yW8 (OI l)).1 (yW8 (OI l)).2:=by
 have hl0:((some l:St).getD []).length=l.length:=rfl;have c0:=zJ7 l;have g1:((st1 l).getD []).length≤l.length:=uZ (some l) 59 (-9223372036854775808);have g2:((zC7 l).getD []).length≤((st1 l).getD []).length:=uZ (st1 l) 59 (-9223372036854775808);have g3:((RY l).getD []).length≤((zC7 l).getD []).length:=uZ (zC7 l) 59 (-9223372036854775808);have g4:((zC6 l).getD []).length≤((RY l).getD []).length:=uZ (RY l) 59 (-9223372036854775808);have g5:2*(XQ l).2.2.2.2.length+((yK3 l).getD []).length≤((zC6 l).getD []).length:=YP (zC6 l);have c1:aM Tryz.prog 86 [.ptr 0 0] (BL (some l)) (.i (XQ l).1) (BL (st1 l)):=IP (some l) (by omega)
 have c2:aM Tryz.prog 86 [.ptr 0 0] (BL (st1 l)) (.i (XQ l).2.1) (BL (zC7 l)):=IP (st1 l) (by omega)
 have c3:aM Tryz.prog 86 [.ptr 0 0] (BL (zC7 l)) (.i (XQ l).2.2.1) (BL (RY l)):=IP (zC7 l) (by omega)
 have c4:aM Tryz.prog 86 [.ptr 0 0] (BL (RY l)) (.i (XQ l).2.2.2.1) (BL (zC6 l)):=IP (RY l) (by omega)
 have c5:aM Tryz.prog 125 [.ptr 0 0] (BL (zC6 l)) (.sl 1 0 (XQ l).2.2.2.2.length 1) (BL (yK3 l)++[.arr (ints (XQ l).2.2.2.2) 1]):=zY9 (zC6 l) (by omega)
 have c6:=zP9 (yK3 l);have cB:=QS (yN9 l) (by omega)
 unfold OI;generalize XQ l=x at *;generalize yK3 l=s5 at *;generalize zC6 l=s4 at *;generalize RY l=s3 at *;generalize zC7 l=s2 at *;generalize st1 l=s1 at *;obtain ⟨k,a,b,n,ids⟩:=x;dsimp only at c1 c2 c3 c4 c5 g5;refine bS T Tryz.func87 rfl rfl rfl rfl ?_
 (repeat' (first|refine wS ?_|(refine rg 0 (cO (cN T rfl) rfl (aV ?_)))|(refine rg 1 (mW rfl (bT [] rfl rfl c0 rfl rfl (by decide) trivial (by simp) rfl ?_));refine aV ?_)|(refine rg 2 (mW rfl (bT [1] rfl rfl c1 rfl rfl (by decide) ⟨.inr rfl,trivial⟩ (by simp) rfl ?_));refine mW rfl (bT [1] rfl rfl c2 rfl rfl (by decide) ⟨.inr rfl,trivial⟩ (by simp) rfl ?_);refine mW rfl (bT [1] rfl rfl c3 rfl rfl (by decide) ⟨.inr rfl,trivial⟩ (by simp) rfl ?_);refine mW rfl (bT [1] rfl rfl c4 rfl rfl (by decide) ⟨.inr rfl,trivial⟩ (by simp) rfl ?_);refine mW rfl (bT [1] rfl rfl c5 rfl rfl (by decide) ⟨.inr rfl,trivial⟩ (by simp) rfl ?_);refine vV (by exact eT T rfl rfl rfl rfl) ?_;refine cO (cN T rfl) rfl (bC T rfl rfl rfl rfl rfl rfl (by decide) rfl ?_))|refine nZ ?_));all_goals try omega
 refine fF [(0,.s l),(2,.ptr 0 0),(3,.b false),(4,.ptr 1 0),(5,.ptr 3 0)] [.cells [.i 0,.i 0,.i 0,.i 0,.nils],.cells [.s (s5.getD []),.b s5.isNone],.arr (ints ids) 1,.cells [.i k,.i a,.i b,.i n,.sl 2 0 ids.length 1]] ⟨[0,1,2,3],rfl,(by repeat first|exact trivial|refine ⟨rfl,?_⟩),⟨.inr rfl,.inr rfl,.inr (aC rfl (bB _ (bF _)) (bF _)),.inr rfl,trivial⟩,by decide,yB7 _⟩ ?_
 by_cases hd:s5=some []
 ·rw [decide_eq_true hd] at c6;by_cases hb:jV (k,a,b,n,ids)=l
  ·rw [if_pos ⟨hd,hb⟩]
   (repeat' (first|refine wS ?_|refine wK ?_|refine wR ?_|refine wU ?_|(refine rg 3 (mW rfl (bT [1] rfl rfl c6 rfl rfl (by decide) ⟨.inr rfl,trivial⟩ (by simp) rfl ?_));refine vV (dS rfl) (mW rfl (yO T rfl (yV (by exact eH rfl rfl cB (.cons (.agg (.cons (.v _) (.cons (.v _) (.cons (.v _) (.cons (.v _) (.cons (sS rfl rfl) .nil)))))) .nil) rfl rfl) ?_)));refine yN rfl (yV (R9 rfl rfl hb) (pV ?_)))|(refine rg 5 (lW T rfl (bC T rfl rfl rfl rfl rfl rfl (by decide) rfl (aV ?_))))|refine nZ ?_));all_goals first|omega | exact ⟨.inl rfl,[2],_,rfl,rfl,rfl,⟨.inr (aC rfl rfl (bF _)),trivial⟩,by decide,yB7 _⟩
  ·rw [if_neg (fun h=>hb h.2)]
   (repeat' (first|refine wS ?_|refine wR ?_|refine wT ?_|(refine rg 3 (mW rfl (bT [1] rfl rfl c6 rfl rfl (by decide) ⟨.inr rfl,trivial⟩ (by simp) rfl ?_));refine vV (dS rfl) (mW rfl (yO T rfl (yV (by exact eH rfl rfl cB (.cons (.agg (.cons (.v _) (.cons (.v _) (.cons (.v _) (.cons (.v _) (.cons (sS rfl rfl) .nil)))))) .nil) rfl rfl) ?_)));refine yN rfl (yV (PT rfl rfl hb) (pV ?_)))|(refine rg 4 (vV (by exact eT T rfl rfl rfl rfl) ?_);refine bC T rfl rfl rfl rfl rfl rfl (by decide) rfl (aV ?_))|refine nZ ?_));all_goals first|omega | exact ⟨.inl rfl,[],_,rfl,rfl,rfl,trivial,by decide,yB7 _⟩
 ·rw [decide_eq_false hd] at c6;rw [if_neg (fun h=>hd h.1)]
  (repeat' (first|refine wS ?_|refine wR ?_|refine wT ?_|(refine rg 3 (mW rfl (bT [1] rfl rfl c6 rfl rfl (by decide) ⟨.inr rfl,trivial⟩ (by simp) rfl ?_));refine vV (dS rfl) (mV ?_);(iterate 4 refine gF ?_);refine pV ?_)|(refine rg 4 (vV (by exact eT T rfl rfl rfl rfl) ?_);refine bC T rfl rfl rfl rfl rfl rfl (by decide) rfl (aV ?_))|refine nZ ?_));all_goals first|omega | exact ⟨.inl rfl,[],_,rfl,rfl,rfl,trivial,by decide,yB7 _⟩
end Go.Proofs.Q
namespace Go.Ab
open Go Go.MapKept
def wD (P:Program) (f:FuncId) (args:List AV) (hin:Hp) (Φ:AV→Hp→Prop):Prop:=
  (∃ fn, P.funcs[f]? = some fn ∧ (fn.name == "runtime.NumGoroutine") = false ∧ fn.body.isNone = false) ∧
  ∀ ρ S w vs,HS (nX w ρ S hin) ρ S hin w→RL S w args ρ vs →
    Calls P f vs.toArray w fun e w'=>∃ res hout,Φ res hout∧∃ y ρ' S',e = .returned y∧HS (nX w ρ S hin) ρ' S' hout w'∧R S' w' res ρ' y
theorem wD.mono {P:Program}{f:FuncId}{args:List AV}{hin:Hp}{Φ Ψ:AV→Hp→Prop}(h:wD P f args hin Φ) (hi:∀ r o,Φ r o→Ψ r o):wD P f args hin Ψ:=
 ⟨h.1,fun ρ S w vs hs ha=>(h.2 ρ S w vs hs ha).mono fun _ _ ⟨r,o,h1,h2⟩=>⟨r,o,hi r o h1,h2⟩⟩
section
variable {P:Program}{n:Nat × Nat}{ops:Array Oper}{rest:List Oper}{env:eG}{h:Hp}{K:eG→Hp→Prop}
variable {d:Option Nat}{ty:TypeId}{pos:String}{af:Array Edge}
theorem yU6 {x:Operand}{f:FuncId}{fs cs us xs:List AV}{args:List Operand}{ats:Array TypeId}{Ψ:AV→Prop}(hx:evu env x=some (.clo (.func f) fs cs)) (ha:C9 env args=some us)
  (hc:wD P f xs [] (fun r o=>o=[]∧Ψ r)) (hv:mM h (fs++us++cs) xs) (hrf:∀ r,Ψ r→r.rf=true) (hd:GH d n=true)
  (hk:∀ r,Ψ r→VC P n ops rest (nE d r env) h K):VC P n ops (⟨d,.call { callee:=.value x,args:=args.toArray,argTypes:=ats },ty,pos,af,none⟩::rest) env h K:=by
 intro c ρ S a w Q s hQ;refine wpList_plain rfl fun K' hK'=>?_
 have p:=s.pre;have hxv:=p.evu hx;simp only [R] at hxv;obtain ⟨ys,zs,e1,h1,h2⟩:=hxv;have hall:RL S w (fs++us++cs) ρ (ys.toList++args.map a.eval++zs.toList):=iT (iT h1 (uR p ha)) h2;obtain ⟨hf,hc⟩:=hc;have hS1w:∀ b,(S b∨lD h ρ b)→b<w.heap.size:=fun b hb=>by
  rcases hb with hb | ⟨k,x,o,_,_,hb⟩
  ·exact p.stab b hb
  ·exact p.rng k _ hb
 have hargs:RL (fun b=>S b∨lD h ρ b) w xs (fun _=>none) (ys.toList++args.map a.eval++zs.toList):=lS p.blk hv hall;have hs0:HS (nX w (fun _=>none) (fun b=>S b∨lD h ρ b) []) (fun _=>none) (fun b=>S b∨lD h ρ b) [] w:=⟨fun _ _=>rfl,(fun _ _ h=>by cases h),(fun k b hb=>by simp at hb),(fun k b p hb=>by simp at hb),(fun k _ b _ _ _ hb=>by simp at hb),hS1w,nD.refl _ _,fun _ h=>h,fun _ h=>.inl h,aX _,(fun _ h=>by simp [nX] at h),p.glob.st fun b hb=>.inl hb⟩
 have hcall:=hc (fun _=>none) _ w _ hs0 hargs;unfold Oper.wp;have hrun:(execOp a.eval ⟨d,.call { callee:=.value x,args:=args.toArray,argTypes:=ats },ty,pos,af,none⟩).run P w = .ok (.enter f (ys.toList++args.map a.eval++zs.toList).toArray) w:=by
  have e2:(ys++(args.toArray.map a.eval)++zs)=(ys.toList++args.map a.eval++zs.toList).toArray:=by
   apply Array.ext';simp
  simp only [execOp,resolve,e1,Deferred.ofValue,Sem.run_bind,Sem.run_pure,Result.andThen_ok,invoke];rw [e2];exact yB hf
 rw [hrun];simp only [Oper.upon];refine hcall.mono ?_;rintro e w' ⟨res,hout,⟨rfl,hΨ⟩,y,ρ',S',rfl,hs,hy⟩;simp only;have hM:∀ b,(nX w (fun _=>none) (fun b=>S b∨lD h ρ b) []).M b→w.heap.size≤b:=fun b hb=>by
  rcases hb with hb | ⟨k,x,o,hb,_⟩
  ·exact hb
  ·simp at hb
 have hext:nD (fun _=>False) w w':=hs.ext.mono fun b hb hm=>by have:=hM b hm;simp [nX] at hb;omega
 have hρ:ρ'=fun _=>none:=funext fun k=>hs.dom k (bZ _);subst hρ;have hpost:BQ ρ ρ S S w w' h.length 0 res [] y:=by
  refine ⟨hext,rfl,fun _ _=>rfl,fun _ hb=>hb,fun _ hb=>.inl hb,fun k p h1 h2 _=>by omega,fun k k' p p' h1 h2 _ _ _=>by omega,?_,fun j b hb=>by simp at hb⟩
  exact oN (fun _ h=>h) (fun _ _=>rfl) res (fun _=>none) ρ y (fun _ _ h=>nomatch h) (fun _ _ _ _ h=>nomatch h) (zB8 _ _ _ (hrf _ hΨ) hy)
 have hsim:=s.post (d:=d) hd hpost;rw [List.append_nil] at hsim;exact hK' _ _ (hk _ hΨ c ρ S _ w' Q hsim hQ)
end
theorem zV8 {P:Program}{o:Oper}{a:Act}{w:World}{K:Act→World→Prop}{Q1 Q:Exit→Act→World→Prop}(hq:∀ e a w,Q1 e a w→e = .normal) (h:o.wp P a w K Q1):o.wp P a w K Q:=by
 unfold Oper.wp at *;generalize (execOp a.eval o).run P w=r at *;cases r with
 | ok n w'=>
  cases n with
  | enter f args=>
   simp only [Oper.upon] at *;refine h.mono fun e w''=>?_
   cases e with
   | returned v=>exact id
   | panicked c=>exact fun hh=>by have:=hq _ _ _ hh;cases this
   | outgrown=>exact fun ⟨_,_,hh⟩=>by have:=hq _ _ _ hh;cases this
  | _=>first|exact h | exact h.elim
 | halt x w'=>cases x <;> simp only [Oper.upon] at * <;> first|exact h | (have:=hq _ _ _ h;cases this)
section
variable {P:Program}{n:Nat × Nat}{ops:Array Oper}{env:eG}{h:Hp}{K:eG→Hp→Prop}{listed:Array Bool}{r:Nat}
theorem zS9 (hr:Region.ready .any ops listed=[]) (hk:K env h):BH P n ops listed r env h K:=
 fun _ _ _ _ _ _ s _ hQ=>wpAny_done hr (hQ _ _ _ _ _ _ hk s) r
theorem zS7 {rd:List Nat}(hr:Region.ready .any ops listed=rd) (hne:rd≠[]) (hk:∀ i,i∈rd→∃ o,ops[i]? = some o∧VC P n ops [o] env h (fun v h'=>BH P n ops (listed.setIfInBounds i true) r v h' K)):BH P n ops listed (r+1) env h K:=by
 intro c ρ S a w QQ s hq hQ;refine wpAny_all hr hne fun i hi=>?_
 obtain ⟨o,ho,hv⟩:=hk i hi;have h1:=hv c ρ S a w (fun e a' w'=>e = .normal∧wpAny P .any ops QQ r (listed.setIfInBounds i true) a' w') s (fun env' h' ρ' S' a' w' hK hs=>⟨rfl,hK c ρ' S' a' w' QQ hs hq hQ⟩);unfold wpOp;rw [ho];unfold wpList at h1;dsimp only at h1 ⊢;split at h1
 ·rename_i hw;rw [if_pos hw];rcases h1 with h1 | ⟨_,a',w',h1⟩
  ·exact .inl (zV8 (fun e a w h=>h.1) (Oper.wp_mono (fun a w h=>h.2) h1))
  ·exact nomatch h1.1
 ·rename_i hw;rw [if_neg hw];exact h1.2
def A5:Nat→List Oper→List (Nat × List Nat)
 | _,[]=>[]
 | i,o::l=>(i,(o.after.toList.filter fun e=>Region.binds .any e).map (·.on))::A5 (i+1) l
def yK5 (b0:List Bool):List Nat→Bool
 | []=>true
 | d::ds=>match b0.getD d false with
  | true=>yK5 b0 ds
  | false=>false
def OJ (b0:List Bool):List (Nat × List Nat)→List Bool→List Nat
 | (i,d)::ds,b::bs=>match b with
  | true=>OJ b0 ds bs
  | false=>match yK5 b0 d with
   | true=>i::OJ b0 ds bs
   | false=>OJ b0 ds bs
 | _,_=>[]
theorem VP (b0:List Bool):∀ ds:List Nat,yK5 b0 ds=ds.all fun d=>b0.getD d false
 | []=>rfl
 | d::ds=>by
  unfold yK5;rw [BS,VP b0 ds];cases b0.getD d false <;> rfl
theorem zI2 (b0:List Bool) (i:Nat) (d:List Nat) (ds:List (Nat × List Nat)) (b:Bool) (bs:List Bool):OJ b0 ((i,d)::ds) (b::bs)=if b=true then OJ b0 ds bs else if yK5 b0 d=true then i::OJ b0 ds bs else OJ b0 ds bs:=by
 cases b <;> cases h:yK5 b0 d <;> simp [OJ,h]
theorem zI1 (l0:List Oper) (b0:List Bool):∀ (l:List Oper) (bs:List Bool) (i:Nat),l.length=bs.length→(∀ j,l[j]? = l0[i+j]?)→(∀ j,j<bs.length→bs[j]? = b0[i+j]?) →
  OJ b0 (A5 i l) bs=(List.range' i l.length).filter fun i=>!b0.toArray.getD i true&&((l0.toArray[i]?).map (·.after.all fun e=>!Region.binds .any e||b0.toArray.getD e.on false)).getD false
 | [],[],i,_,_,_=>rfl
 | o::l,b::bs,i,hl,h1,h2=>by
  have ih:=zI1 l0 b0 l bs (i+1) (by simpa using hl) (fun j=>by rw [eE,rI 1 j];simpa using h1 (j+1)) (fun j hj=>by rw [eE,rI 1 j];simpa using h2 (j+1) (by simpa using hj))
  have e1:b0.toArray.getD i true=b:=by
   have:=h2 0 (by simp)
   simp only [eF,Nat.add_zero] at this;rw [eA,iH,← this];rfl
  have e2:((l0.toArray[i]?).map (·.after.all fun e=>!Region.binds .any e||b0.toArray.getD e.on false)).getD false=yK5 b0 ((o.after.toList.filter fun e=>Region.binds .any e).map (·.on)):=by
   have:=h1 0;simp only [eF,Nat.add_zero] at this;rw [iH,← this,VP,List.all_map];simp only [K4,nR];rw [← Array.all_toList]
   induction o.after.toList with
   | nil=>rfl
   | cons e r ih=>
    rw [BS,List.filter_cons,ih];cases Region.binds .any e
    ·simp
    ·simp [eA,aE]
  rw [List.length_cons,List.range'_succ,List.filter_cons,e1,e2,← ih];generalize hok:yK5 b0 ((o.after.toList.filter fun e=>Region.binds .any e).map (·.on))=q;have e3:=zI2 b0 i ((o.after.toList.filter fun e=>Region.binds .any e).map (·.on)) (A5 (i+1) l) b bs;rw [show A5 i (o::l)=(i,(o.after.toList.filter fun e=>Region.binds .any e).map (·.on))::A5 (i+1) l from rfl,e3,hok]
  generalize OJ b0 (A5 (i+1) l) bs=u;cases b <;> cases q <;> rfl
 | [],_::_,_,hl,_,_=>by simp at hl
 | _::_,[],_,hl,_,_=>by simp at hl
theorem HM {l:List Oper}{b:List Bool}(hl:l.length=b.length):Region.ready .any l.toArray b.toArray=OJ b (A5 0 l) b:=by
 rw [zI1 l b l b 0 hl (fun j=>by rw [Nat.zero_add]) (fun j _=>by rw [Nat.zero_add])]
 unfold Region.ready;rw [G8];rfl
def D0 (P:Program) (n:Nat × Nat) (l:List Oper) (ds:List (Nat × List Nat)) (b:List Bool) (r:Nat) (env:eG) (h:Hp) (K:eG→Hp→Prop):Prop:=A5 0 l=ds→l.length=b.length→BH P n l.toArray b.toArray r env h K
section
variable {l:List Oper}{ds:List (Nat × List Nat)}{b:List Bool}
theorem K0 (hr:OJ b ds b=[]) (hk:K env h):D0 P n l ds b r env h K:=fun hd hl=>by
 subst hd;exact zS9 ((HM hl).trans hr) hk
theorem J9 {rd:List Nat}(hr:OJ b ds b=rd) (hne:rd≠[]) (hk:∀ i,i∈rd→∃ o,l[i]? = some o∧VC P n l.toArray [o] env h (fun v h'=>D0 P n l ds (b.set i true) r v h' K)):D0 P n l ds b (r+1) env h K:=fun hd hl=>
 zS7 ((HM hl).trans (by rw [hd];exact hr)) hne fun i hi=>by
  obtain ⟨o,ho,hv⟩:=hk i hi;refine ⟨o,by simpa using ho,hv.mono fun v g hg=>?_⟩
  have:=hg hd (by rw [hC];exact hl)
  rwa [← List.setIfInBounds_toArray] at this
theorem zT3 {i:Nat}{o:Oper}(hr:OJ b ds b=[i]) (ho:l[i]? = some o) (hk:VC P n l.toArray [o] env h (fun v h'=>D0 P n l ds (b.set i true) r v h' K)):D0 P n l ds b (r+1) env h K:=
 J9 hr (by simp) fun k hk2=>by simp only [bQ,or_false,iY] at hk2;subst hk2;exact ⟨o,ho,hk⟩
theorem zT2 {i j:Nat}{o o2:Oper}(hr:OJ b ds b=[i,j]) (ho:l[i]? = some o) (ho2:l[j]? = some o2) (hk:VC P n l.toArray [o] env h (fun v h'=>D0 P n l ds (b.set i true) r v h' K)) (hk2:VC P n l.toArray [o2] env h (fun v h'=>D0 P n l ds (b.set j true) r v h' K)):D0 P n l ds b (r+1) env h K:=
 J9 hr (by simp) fun k hm=>by
  simp only [bQ,iY,or_false] at hm;rcases hm with rfl | rfl
  ·exact ⟨o,ho,hk⟩
  ·exact ⟨o2,ho2,hk2⟩
theorem zT1 {i j k3:Nat}{o o2 o3:Oper}(hr:OJ b ds b=[i,j,k3]) (ho:l[i]? = some o) (ho2:l[j]? = some o2) (ho3:l[k3]? = some o3) (hk:VC P n l.toArray [o] env h (fun v h'=>D0 P n l ds (b.set i true) r v h' K)) (hk2:VC P n l.toArray [o2] env h (fun v h'=>D0 P n l ds (b.set j true) r v h' K)) (hk3:VC P n l.toArray [o3] env h (fun v h'=>D0 P n l ds (b.set k3 true) r v h' K)):D0 P n l ds b (r+1) env h K:=
 J9 hr (by simp) fun k hm=>by
  simp only [bQ,iY,or_false] at hm;rcases hm with rfl | rfl | rfl
  ·exact ⟨o,ho,hk⟩
  ·exact ⟨o2,ho2,hk2⟩
  ·exact ⟨o3,ho3,hk3⟩
theorem zT0 {i j k3 k4:Nat}{o o2 o3 o4:Oper}(hr:OJ b ds b=[i,j,k3,k4]) (ho:l[i]? = some o) (ho2:l[j]? = some o2) (ho3:l[k3]? = some o3) (ho4:l[k4]? = some o4) (hk:VC P n l.toArray [o] env h (fun v h'=>D0 P n l ds (b.set i true) r v h' K)) (hk2:VC P n l.toArray [o2] env h (fun v h'=>D0 P n l ds (b.set j true) r v h' K)) (hk3:VC P n l.toArray [o3] env h (fun v h'=>D0 P n l ds (b.set k3 true) r v h' K)) (hk4:VC P n l.toArray [o4] env h (fun v h'=>D0 P n l ds (b.set k4 true) r v h' K)):D0 P n l ds b (r+1) env h K:=
 J9 hr (by simp) fun k hm=>by
  simp only [bQ,iY,or_false] at hm;rcases hm with rfl | rfl | rfl | rfl
  ·exact ⟨o,ho,hk⟩
  ·exact ⟨o2,ho2,hk2⟩
  ·exact ⟨o3,ho3,hk3⟩
  ·exact ⟨o4,ho4,hk4⟩
theorem WZ (ds:List (Nat × List Nat)) (hd:A5 0 l=ds) (b:List Bool){listed:Array Bool}(hb:listed=b.toArray) (hl:l.length=b.length) (hk:D0 P n l ds b r env h K):BH P n l.toArray listed r env h K:=by
 subst hb;exact hk hd hl
end
theorem zS2 {code:Code}{Q:Exit→eG→Hp→Prop}(E:eG) (H:Hp) (hc:AW P n code env h (fun e v g=>e = .normal∧MF n.2 v g E H)) (hk:∀ v g,MF n.2 v g E H→Q .normal v g):AW P n code env h Q:=
 hc.mono fun e v g ⟨he,hs⟩=>by subst he;exact hk v g hs
end
theorem HS.view {c:pS}{ρ:Pl}{S:Nat→Prop}{h:Hp}{w:World}(s:HS c ρ S h w) (hm:c.m=0):HS c (fun _=>Option.none) (fun b=>S b∨lD h ρ b) [] w:=by
 refine ⟨fun _ _=>rfl,(fun _ _ h=>nomatch h),(fun k b hb=>by simp at hb),(fun k b p hb=>by simp at hb),(fun k _ b _ _ _ hb=>by simp at hb),fun b hb=>?_,s.ext,fun b hb=>.inl (s.st0 b hb),fun b hb=>?_,by rw [hm];exact bZ _,(fun k hk=>by rw [hm] at hk;exact absurd hk (eV _)),s.glob.st fun b hb=>.inl hb⟩
 ·rcases hb with hb | ⟨k,x,o,_,_,hb⟩
  ·exact s.stab b hb
  ·exact s.rng k _ hb
 ·rcases hb with hb | ⟨k,x,o,h1,h2,h3⟩
  ·exact s.st1 b hb
  ·exact .inr (s.live k x _ h1 h2 h3).1
theorem O3 {P:Program}{f:FuncId}{args:List AV}{res res':AV}{hout:Hp}(h:aM P f args [] res hout) (hv:oX hout res res'):aM P f args [] res' []:=by
 refine ⟨h.1,fun ρ S w vs hs ha=>(h.2 ρ S w vs hs ha).mono ?_⟩;rintro e w' ⟨y,ρ',S',rfl,h2,h3⟩;exact ⟨y,_,_,rfl,h2.view rfl,CQ h2.blk hv h3⟩
section
variable {P:Program}{env:eG}{h:Hp}
variable {d:Option Nat}{ty:TypeId}{pos:String}{af:Array Edge}{g:Option (Nat × Bool)}
variable {t kt et:TypeId}{good:Value→Prop}{x y:Operand}{i:Nat}{kv:Value}{ks:List Value}{vs:List AV}{v:AV}
end
section
variable {P:Program}{env:eG}{h:Hp}
variable {d:Option Nat}{ty:TypeId}{pos:String}{af:Array Edge}{g:Option (Nat × Bool)}
variable {t kt et:TypeId}{good:Value→Prop}{x y:Operand}{k:Nat}{kv:Value}{ks:List Value}{vs:List AV}
end
section
variable {P:Program}{env:eG}{h:Hp}
theorem vW {n:Nat × Nat}{Q:Exit→eG→Hp→Prop}{id:Nat}{l:List Oper}(k nt:Nat) (presl pres:List (List Nat)) (ds:List Nat) (bads:List (List Nat)) (hm:P.follows .mixedOrders=true) (hn:n.1=nt) (hc:T5 l presl k=true) (hok:mF (l.take k) pres ds bads nt=true)
  (hv:DW P n (l.take k) pres ds bads (eP ds env) h 0 (eP ds env) [] (fun v h=>VC P n l.toArray (l.drop k) v h (fun v h=>Q .normal v h))) (hnd:nW (l.take k)=true:=by rfl) (hnd2:nW (l.drop k)=true:=by rfl):AW P n (.region id l.toArray true) env h Q:=by
 intro c ρ S a w QQ s hQ;have hkl:=(N8 hc).2.1;have hany:=Z4 pres ds bads (by rw [hn];exact hok) hv c ρ S a w (fun e a w=>e = .normal∧wpListIn (rd c.r) 0 P l.toArray (fun e a w=>e = .normal∧QQ .normal a w) (l.drop k) a w) s fun env' h' ρ' S' a' w' kv s'=>
  ⟨rfl,xT (fun e a w h=>h.1) hnd2 (kv c ρ' S' a' w' _ s' fun env2 h2 ρ2 S2 a2 w2 k2 s2=>⟨rfl,hQ .normal env2 h2 ρ2 S2 a2 w2 k2 s2⟩)⟩
 have hrep:∀ m j,(Array.replicate m false).getD j false=false:=fun m j=>by
  simp only [Array.getD];split <;> simp
 refine wpIn_mono (wpIn_region_any (Q:=fun e a w=>e = .normal∧QQ .normal a w) hm (MA hc hnd (fun e a w h=>h.1) (fun a w h=>h.2) (l.take k).toArray.size l.toArray.size _ (Array.replicate (l.take k).toArray.size false) (List.range k) a _ (by simp) (by simp;omega) (fun j hj=>by rw [hrep,hrep]) (fun j hj=>hrep _ _) (fun i o ho hi=>by rw [hrep] at hi;cases hi) (fun j hj _=>fG.2 hj) (by simp;omega) (by simp;omega) hany)) fun e a w he=>by obtain ⟨rfl,h3⟩:=he;exact h3
end
end Go.Ab
namespace Go.Ab
open Go
theorem rO {z:Array Value}{zs:List Value}(hz:z.toList=zs) (hn:zs≠[]) (m:Nat):(∀ v,v∈(Builtin.zeroCells z m).toList→v∈zs)∧(Builtin.zeroCells z m).toList.length=m*zs.length:=by
 subst hz;have h0:0<z.size:=by
  rcases U8 z.size with h | h
  ·exact absurd (by simpa using Array.size_eq_zero_iff.1 h) hn
  ·exact h
 unfold Builtin.zeroCells;constructor
 ·intro v hv;simp only [bD,Array.toList_ofFn,List.mem_ofFn,Array.toList_map,Array.toList_range] at hv;rcases hv with ⟨i,hi⟩
  first
   | (have hlt:=Nat.mod_lt i.1 h0;rw [getElem!_pos z _ hlt] at hi;rw [← hi];exact Array.mem_toList_iff.2 (Array.getElem_mem _))
   | (have hlt:=Nat.mod_lt i h0;rw [getElem!_pos z _ hlt] at hi;rw [← hi.2];exact Array.mem_toList_iff.2 (Array.getElem_mem _))
 ·simp
section
variable {P:Program}{env:eG}{h:Hp}{n:Nat × Nat}{ops:Array Oper}{rest:List Oper}{K:eG→Hp→Prop}{ty:TypeId}{pos:String}{af:Array Edge}
theorem V9 (T:pR P){t e k off len sz:Nat}{i:TI}{x:Operand}{es:List (List AV)}(hx:evu env x=some (.sl k off len sz)) (ht:T.elem t=some e) (he:T.ti e=some i) (hz:i.zero.length=sz∧i.zero.all Value.oneCell'=true∧0<sz) (hkk:h[k]? = some (.arr es sz)) (hle:off+len≤es.length)
  (hk:VC P n ops rest env (h.set k (.arr (es.take off) sz)) K):VC P n ops (⟨none,.call { callee:=.builtin .clear,args:=#[x],argTypes:=#[t] },ty,pos,af,none⟩::rest) env h K:=by
 intro c ρ S a w Q s hQ;refine wpList_plain rfl fun K' hK'=>?_
 have p:=s.pre;have hxv:=p.evu hx;simp only [R] at hxv;obtain ⟨ad,cap,hev,_,hxv⟩:=hxv;obtain ⟨inf,z,t1,t2,t3,t4,t5,t6,t7⟩:=T.tiOk e i he;have hund:P.underlying t=some (.slice e):=T.elemOk _ _ ht;have hzv:∀ w,(zeroValue e).run P w = .ok z w:=fun w=>by simp [zeroValue,typeInfo,t1,t4]
 obtain ⟨hz1,hz2,hz3⟩:=hz;have hzc:=rO (z:=z.cells) t5 (fun h0=>by rw [h0] at hz1;simp at hz1;omega)
 have ev1:∀ r w',(Builtin.clear_ #[t] ty #[a.eval x]).run P w = .ok r w'→(execOp a.eval ⟨none,.call { callee:=.builtin .clear,args:=#[x],argTypes:=#[t] },ty,pos,af,none⟩).run P w = .ok (.value r) w':=fun r w' hr=>by
  simp [execOp,resolve,invoke,builtin,hr]
 have fin:∀ {r:Value} {w':World},(Builtin.clear_ #[t] ty #[a.eval x]).run P w = .ok r w'→HS c ρ S (h.set k (.arr (es.take off) sz)) w'∧iF ρ ρ S S w w'→Oper.wp P ⟨none,.call { callee:=.builtin .clear,args:=#[x],argTypes:=#[t] },ty,pos,af,none⟩ a w K' Q:=fun {r w'} hr ⟨g1,g2⟩=>by
  unfold Oper.wp;rw [ev1 r w' hr];exact hK' _ _ (hk c ρ S _ _ Q ⟨by rw [mT];exact s.size,by rw [kN];exact s.defers.later g2,fun tt uu huu=>(s.env tt uu huu).later g2,g1,s.cm⟩ hQ)
 have stay:HS c ρ S (h.set k (.arr (es.take off) sz)) w∧iF ρ ρ S S w w:=⟨s.hs.alter hkk (MK off) (by simp),⟨fun _ _ h=>h,fun _ h=>h,fun _ _=>rfl,fun _ _ _ _ _ h=>h⟩⟩
 cases len with
 | zero=>
  refine fin (r:=.tuple #[]) ?_ stay;rw [hev];cases ad <;> simp [Builtin.clear_,run_underlying hund]
 | succ m=>
  rcases hxv with ⟨h0,_⟩ | ⟨b,o,hp,ha,hlc,hroom⟩
  ·cases h0
  ·have hB:=p.blk k _ hkk;obtain ⟨hes,hs0,hB⟩:=hB;rcases hB with hB | ⟨b',o',ys,h4,⟨cc,ct,h5,h6⟩,h7⟩
   ·obtain ⟨hB,_⟩:=hB;subst hB;simp at hle
   rw [hp] at h4;cases h4;have hyl:=fZ h7;have hfl:=fP hes;have hmul:(off+(m+1))*sz≤es.length*sz:=fT _ hle;rw [eQ] at hmul;have hpos:0<(m+1)*sz:=Nat.mul_pos (by omega) hz3
   have hlast:=h6 (ys.length-1) (ys[ys.length-1]'(by omega)) (aB _)
   have hsz:=(aJ.1 hlast).1;obtain ⟨hzm,hzl⟩:=hzc (m+1);rw [hz1] at hzl;generalize hZ:(Builtin.zeroCells z.cells (m+1)).toList=Z at *;have hst:=run_storeCells_at P b (o+off*sz) ct Z 0 cc w h5 (by rw [hzl];omega) (by intro v hv;exact (bJ.1 hz2) v (hzm v hv))
   subst ha;refine fin (r:=.tuple #[]) (w':=w.setRow b (cc.toList.take (o+off*sz+0)++Z++cc.toList.drop (o+off*sz+0+Z.length)).toArray) ?_ (s.hs.upd hkk (by simp) hp (qU h5 ?_) fun l=>?_)
   ·rw [hev];simp only [Builtin.clear_];simp [run_underlying hund,hzv,hZ,hst]
   ·simp;omega
   ·refine ⟨fun e he=>hes e (eJ he),hz3,.inr ⟨b,o,ys.take (off*sz),rfl,⟨_,ct,setRow_heap w b cc _ ct _ h5,fun j y hj=>?_⟩,?_⟩⟩
    ·rw [cE] at hj;split at hj
     ·rename_i hjo;have:=h6 j y hj;have hjl:=(aJ.1 this).1;rw [iH,bM,aG (by simp;omega),cE,if_pos (by omega)]
      simpa using this
     ·cases hj
    ·rw [J2 hes];exact sF (h7.later l) _
end
def qE (L:List Nat) (pos k:Nat):Nat:=match L[k]? with
 | some j=>j
 | none=>pos
theorem HS.callP {c:pS}{ρ ρ':Pl}{S S':Nat→Prop}{H hin hout:Hp}{w w':World}{L:List Nat}{pos:Nat}{b1:AB}(s:HS c ρ S H w) (hL:L.length=hin.length) (hnd:L.Nodup) (hh:wL (th L H.length) H 0 hin) (hng:∀ b,b∈hin→b≠.gone)
  (hlen:hout.length=hin.length) (hp0:ρ pos=Option.none) (hp1:H[pos]? = some .gone) (hpm:c.m≤pos)
  (hs:HS (nX w (fun k=>ρ (th L H.length k)) S hin) ρ' S' (hout++[b1]) w') :
  ∃ ρ3:Pl,HS c ρ3 S' ((C7 H L (hout.map (AB.map (qE L pos)))).set pos (b1.map (qE L pos))) w'∧iF ρ ρ3 S S' w w'∧(∀ {x:AV} {y:Value},R S' w' x ρ' y→R S' w' (x.map (qE L pos)) ρ3 y)∧∀ j,j≠pos→ρ3 j=ρ j:=by
 have hin_at:∀ {i:Nat} {b:AB},hin[i]? = some b→∃ j,L[i]? = some j∧j<H.length∧H[j]? = some (b.map (th L H.length))∧b.map (th L H.length)≠.gone:=fun {i b} hb=>by
  have hne:=hng b (aQ hb);have hlt:i<L.length:=by rw [hL];exact (aA.1 hb).1
  have hj:=aB hlt;have hth:th L H.length i=L[i]:=by simp [th,hj]
  rcases hh.get i b hb with hg | hg
  ·exact absurd hg hne
  ·rw [Nat.zero_add,hth] at hg;exact ⟨L[i],hj,(aA.1 hg).1,hg,by cases b <;> simp [AB.map] at * ⟩
 have thL:∀ {i j:Nat},L[i]? = some j→th L H.length i=j:=fun hi=>by simp [th,hi]
 have keep:∀ {i j:Nat},i<hin.length→L[i]? = some j→ρ' i=ρ j:=fun {i j} hi hj=>by
  have:=hs.keep i hi;simp only [nX] at this;rw [this,thL hj]
 have hM:∀ b,(nX w (fun k=>ρ (th L H.length k)) S hin).M b→w.heap.size≤b∨∃ (i j:Nat) (o:Nat) (x:AB),hin[i]? = some x∧L[i]? = some j∧ρ j=some (b,o):=fun b hb=>by
  rcases hb with hb | ⟨k,x,o,hb,_,hp⟩
  ·exact .inl hb
  ·obtain ⟨j,h3,_⟩:=hin_at hb;exact .inr ⟨k,j,o,x,hb,h3,by rw [← thL h3];exact hp⟩
 have hcM:∀ b,(nX w (fun k=>ρ (th L H.length k)) S hin).M b→c.M b:=fun b hb=>by
  rcases hM b hb with hb | ⟨i,j,o,x,h3,h4,h5⟩
  ·exact c.new b (bL s.ext.size hb)
  ·obtain ⟨j',h6,_,h7,h8⟩:=hin_at h3;rw [h4] at h6;cases h6;exact (s.live j _ _ h7 h8 h5).1
 have hlow:∀ b,b<w.heap.size→(nX w (fun k=>ρ (th L H.length k)) S hin).M b→∃ (i j:Nat) (o:Nat) (x:AB),hin[i]? = some x∧L[i]? = some j∧ρ j=some (b,o):=fun b hlt hb=>by
  rcases hM b hb with hb | hb
  ·omega
  ·exact hb
 have other:∀ {k:Nat} {b:AB} {q:Nat × Nat},H[k]? = some b→b≠.gone→k∉L→ρ k=some q→¬ (nX w (fun k=>ρ (th L H.length k)) S hin).M q.1:=fun {k b q} hb hg hkL hq hm=>by
  obtain ⟨i,j,o,x,h3,h4,h5⟩:=hlow q.1 (s.rng k q hq) hm;obtain ⟨j',h6,_,h7,h8⟩:=hin_at h3;rw [h4] at h6;cases h6;have:=s.inj k j _ _ q _ hb h7 hg h8 hq h5 rfl;subst this;exact hkL (aQ h4)
 have stM:∀ b,S b→¬ (nX w (fun k=>ρ (th L H.length k)) S hin).M b:=fun b hb hm=>by
  obtain ⟨i,j,o,x,h3,h4,h5⟩:=hlow b (s.stab b hb) hm;obtain ⟨j',h6,_,h7,h8⟩:=hin_at h3;rw [h4] at h6;cases h6;exact (s.live j _ _ h7 h8 h5).2 hb
 have same:∀ b,b<w.heap.size→¬ (nX w (fun k=>ρ (th L H.length k)) S hin).M b→w'.heap[b]? = w.heap[b]?:=fun b hb hm=>hs.ext.same b hb hm
 have hposL:pos∉L:=fun hm=>by
  obtain ⟨i,hi⟩:=MM.1 hm;have hlt:i<hin.length:=by rw [← hL];exact (aA.1 hi).1
  obtain ⟨j,h3,_,h4,h5⟩:=hin_at (aB hlt);rw [hi] at h3;cases h3;rw [hp1] at h4;exact h5 (Option.some.inj h4).symm
 have hposH:pos<H.length:=(aA.1 hp1).1
 let ρ3:Pl:=fun j=>if j=pos then ρ' hin.length else ρ j
 have r3p:ρ3 pos=ρ' hin.length:=if_pos rfl;have r3o:∀ j,j≠pos→ρ3 j=ρ j:=fun j hj=>if_neg hj
 have l:iF ρ ρ3 S S' w w':=by
  refine ⟨fun k q hq=>?_,hs.st0,fun b hb=>same b (s.stab b hb) (stM b hb),fun _ _ _ _ _ hr=>hs.ext.room hr⟩
  rw [r3o k (fun e=>by rw [e,hp0] at hq;cases hq)];exact hq
 have pl:∀ k q,ρ' k=some q→ρ3 (qE L pos k)=some q:=fun k q hq=>by
  by_cases hk:k<hin.length
  ·obtain ⟨j,h3,_,_⟩:=hin_at (aB hk);have hbk:qE L pos k=j:=by simp [qE,h3]
   have hjp:j≠pos:=fun e=>hposL (e▸aQ h3);rw [hbk,r3o j hjp,← keep hk h3];exact hq
  ·by_cases hk2:k=hin.length
   ·have hbk:qE L pos k=pos:=by unfold qE;rw [dA (by omega)]
    rw [hbk,r3p,← hk2];exact hq
   ·have:=hs.dom k (by rw [aD,hlen,MN];omega)
    rw [this] at hq;cases hq
 have shift:∀ {x:AV} {y:Value},R S' w' x ρ' y→R S' w' (x.map (qE L pos)) ρ3 y:=fun {x y} hx=>Z7 _ _ x y (oN (fun _ h=>h) (fun _ _=>rfl) x ρ' _ y pl (fun _ _ _ _ _ h=>h) hx);have shiftB:∀ {b:AB} {pp},RB S' w' ρ' pp b→RB S' w' ρ3 pp (b.map (qE L pos)):=fun {b pp} hb=>ML _ _ (RB.later (ρ:=ρ') (S:=S') ⟨pl,fun _ h=>h,fun _ _=>rfl,fun _ _ _ _ _ h=>h⟩ (fun _ _ _=>rfl) hb);have get:∀ {k:Nat} {b:AB},((C7 H L (hout.map (AB.map (qE L pos)))).set pos (b1.map (qE L pos)))[k]? = some b →
   (k≠pos∧k∉L∧H[k]? = some b)∨(∃ (i:Nat) (b':AB),(hout++[b1])[i]? = some b'∧b=b'.map (qE L pos)∧qE L pos i=k∧ρ3 k=ρ' i):=fun {k b} hb=>by
  rw [iC] at hb;by_cases hk:pos=k
  ·rw [if_pos hk,if_pos (by rw [lJ];exact hposH)] at hb
   cases hb;refine .inr ⟨hin.length,b1,by rw [← hlen];simp,rfl,?_,by rw [← hk];exact r3p⟩
   unfold qE;rw [dA (by omega)]
   exact hk
  ·rw [if_neg hk] at hb;by_cases hkL:k∈L
   ·obtain ⟨i,hi⟩:=MM.1 hkL;have hiL:i<hin.length:=by rw [← hL];exact (aA.1 hi).1
    have hb':=aB (l:=hout) (i:=i) (by omega)
    have hkl:k<H.length:=by
     have:=(aA.1 hb).1
     rwa [lJ] at this
    rw [KL (b:=(hout[i]'(by omega)).map (qE L pos)) hnd hi (by simp [hb']) hkl] at hb
    simp only [Option.some.injEq] at hb;exact .inr ⟨i,_,by rw [aG (by omega)];exact hb',hb.symm,by simp [qE,hi],by rw [r3o k (fun e=>hk e.symm)];exact (keep hiL hi).symm⟩
   ·rw [zM _ _ _ hkL] at hb;exact .inl ⟨fun e=>hk e.symm,hkL,hb⟩
 have mapg:∀ {θ:Nat→Nat} {b:AB},b.map θ≠.gone→b≠.gone:=fun hb e=>hb (by rw [e];rfl)
 refine ⟨ρ3,⟨fun k hk=>?_,fun k q hq=>?_,fun k b hb=>?_,fun k b q hb hg hq=>?_,fun k k' b b' q q' hb hb' hg hg' hq hq' e=>?_,hs.stab,s.ext.trans hs.ext (fun b hb hlt=>hcM b hb),fun b hb=>hs.st0 b (s.st0 b hb),fun b hb=>?_,?_,fun k hk=>?_,hs.glob⟩,l,shift,r3o⟩
 ·rw [hC,lJ] at hk;rw [r3o k (by omega)]
  exact s.dom k hk
 ·by_cases hk:k=pos
  ·rw [hk,r3p] at hq;exact hs.rng _ q hq
  ·rw [r3o k hk] at hq;exact eC (s.rng k q hq) hs.ext.size
 ·rcases get hb with ⟨h3,h4,h5⟩ | ⟨i,b',h3,rfl,h4,h5⟩
  ·rw [r3o k h3];by_cases hg:b = .gone
   ·subst hg;trivial
   ·exact RB.later l (fun b1 o1 hp=>same b1 (s.rng k _ hp) (other h5 hg h4 hp)) (s.blk k b h5)
  ·rw [h5];exact shiftB (hs.blk i b' h3)
 ·rcases get hb with ⟨h3,h4,h5⟩ | ⟨i,b',h3,rfl,h4,h5⟩
  ·rw [r3o k h3] at hq;obtain ⟨h7,h8⟩:=s.live k b q h5 hg hq;refine ⟨h7,fun hs'=>?_⟩
   rcases hs.st1 _ hs' with h9 | h9
   ·exact h8 h9
   ·exact other h5 hg h4 hq h9
  ·rw [h5] at hq;obtain ⟨h7,h8⟩:=hs.live i b' q h3 (mapg hg) hq;exact ⟨hcM _ h7,h8⟩
 ·rcases get hb with ⟨h3,h4,h5⟩ | ⟨i,b1,h3,rfl,h4,h5⟩ <;> rcases get hb' with ⟨h3',h4',h5'⟩ | ⟨i',b1',h3',rfl,h4',h5'⟩
  ·rw [r3o k h3] at hq;rw [r3o k' h3'] at hq';exact s.inj k k' b b' q q' h5 h5' hg hg' hq hq' e
  ·rw [r3o k h3] at hq;rw [h5'] at hq';have hl:=(hs.live i' b1' q' h3' (mapg hg') hq').1;rw [← e] at hl;exact absurd hl (other h5 hg h4 hq)
  ·rw [r3o k' h3'] at hq';rw [h5] at hq;have hl:=(hs.live i b1 q h3 (mapg hg) hq).1;rw [e] at hl;exact absurd hl (other h5' hg' h4' hq')
  ·rw [h5] at hq;rw [h5'] at hq';have:=hs.inj i i' b1 b1' q q' h3 h3' (mapg hg) (mapg hg') hq hq' e;subst this;rw [← h4,← h4']
 ·rcases hs.st1 b hb with hb' | hb'
  ·exact s.st1 b hb'
  ·exact .inr (hcM b hb')
 ·rw [hC,lJ];exact s.mle
 ·rw [r3o k (by omega)]
  exact s.keep k hk
theorem wL.up {θ:Nat→Nat}{h H:Hp}(hb:∀ (j:Nat) b,h[j]? = some b→b≠.gone→H[j]? = some b):∀ {hin:Hp}{i:Nat},(∀ b,b∈hin→b≠.gone)→wL θ h i hin→wL θ H i hin
 | [],_,_,_=>trivial
 | b::r,i,hng,hs=>by
  refine ⟨?_,wL.up hb (fun x hx=>hng x (aH _ hx)) hs.2⟩;rcases hs.1 with h1 | h1
  ·exact .inl h1
  ·refine .inr (hb _ _ h1 ?_);have:=hng b aR;cases b <;> simp [AB.map] at *
section
variable {P:Program}{env:eG}{h:Hp}{d:Option Nat}{ty:TypeId}{pos:String}{af:Array Edge}
theorem tX (L:List Nat){pp k:Nat}{nb b1 u1:AB}{uu:AV}{dd:Nat}{x:Operand}{f:FuncId}{fs cs us xs:List AV}{args:List Operand}{ats:Array TypeId}{res:AV}{hin hout:Hp}(hx:evu env x=some (.clo (.func f) fs cs)) (ha:C9 env args=some us)
  (hc:aM P f xs hin res (hout++[b1])) (hxs:∀ N,fs++us++cs=AV.mapL (th L N) xs) (hL:L.length=hin.length) (hnd:L.Nodup) (hh:∀ N,wL (th L N) h 0 hin) (hng:∀ b,b∈hin→b≠.gone) (hlen:hout.length=hin.length)
  (hput:∀ H:Hp,(∀ (j:Nat) b,h[j]? = some b→b≠.gone→H[j]? = some b)→C7 H L (hout.map (AB.map (qE L pp)))=H.set k nb) (hu:res.map (qE L pp)=uu) (hb1:b1.map (qE L pp)=u1) :
  iU P ⟨some dd,.call { callee:=.value x,args:=args.toArray,argTypes:=ats },ty,pos,af,none⟩ env h pp k nb uu [u1]:=by
 intro c ρ S a w H g p hbel hpp K' Q hK';obtain ⟨hr0,hH0,hm0⟩:ρ pp=none∧H[pp]? = some .gone∧c.m≤pp:=by
  rcases hpp with h0 | h0
  ·cases h0
  ·exact h0
 have hxv:=p.evu hx;simp only [R] at hxv;obtain ⟨ys,zs,e1,h1,h2⟩:=hxv;have hall:RL S w (fs++us++cs) ρ (ys.toList++args.map a.eval++zs.toList):=iT (iT h1 (uR p ha)) h2;rw [hxs H.length] at hall;have hargs:=qY (th L H.length) ρ _ _ hall;obtain ⟨hf,hc⟩:=hc;have hsub:=wL.up hbel hng (hh H.length);have hs0:=g.hand hL hnd hsub;have hcall:=hc _ S w _ hs0 hargs;unfold Oper.wp;have hrun:(execOp a.eval ⟨some dd,.call { callee:=.value x,args:=args.toArray,argTypes:=ats },ty,pos,af,none⟩).run P w = .ok (.enter f (ys.toList++args.map a.eval++zs.toList).toArray) w:=by
  have e2:(ys++(args.toArray.map a.eval)++zs)=(ys.toList++args.map a.eval++zs.toList).toArray:=by
   apply Array.ext';simp
  simp only [execOp,resolve,e1,Deferred.ofValue,Sem.run_bind,Sem.run_pure,Result.andThen_ok,invoke];rw [e2];exact yB hf
 rw [hrun];simp only [Oper.upon];refine hcall.mono ?_;rintro e w' ⟨y,ρ',S',rfl,hs,hy⟩;simp only;obtain ⟨ρ3,g1,g2,g3,g4⟩:=g.callP hL hnd hsub hng hlen hr0 hH0 hm0 hs;rw [hput H hbel,hb1] at g1;exact hK' _ ρ3 S' w' g1 g2 (hu▸g3 hy) (fun j hj=>g4 j (hj (by simp)))
end
theorem qL.freezeP {n:Nat × Nat}{c:pS}{ρ:Pl}{S:Nat→Prop}{env:eG}{h:Hp}{a:Act}{w:World}{t k off:Nat}{cs:List AV}(s:qL n c ρ S env h a w) (ht:look env t=some (.ptr k off)) (hk:h[k]? = some (.cells cs)) (hi:AV.idfL cs=true) :
  qL n c ρ (fun b=>S b∨∃ o,ρ k=some (b,o)) ((t,.pr cs off)::env) (h.set k .gone) a w:=by
 refine ⟨s.size,s.defers.st (fun _ h=>.inl h),fun t' x hx=>?_,s.hs.freezeC hk (by simp),s.cm⟩
 rw [iJ] at hx;split at hx
 ·rename_i e;subst e;cases hx;exact EV hi (s.hs.blk k _ hk) (s.env t _ ht)
 ·exact zB7 (fun _ h=>.inl h) (s.env t' x hx)
theorem CP {S S':Nat→Prop}{w:World}{ρ:Pl}{x x':AV}(hS:∀ b,S b→S' b) (hx:∀ y,R S w x ρ y→R S' w x' ρ y):∀ {cs:List AV}{f:Nat},cs[f]? = some x→∀ {ys:List Value},RL S w cs ρ ys→RL S' w (cs.set f x') ρ ys
 | [],f,hf,ys,h=>by simp at hf
 | c::cs,0,hf,ys,h=>by
  simp only [eF,Option.some.injEq] at hf;subst hf;simp only [RL,List.set_cons_zero] at h ⊢;obtain ⟨y,zs,e,h1,h2⟩:=h;exact ⟨y,zs,e,hx y h1,zU2 hS h2⟩
 | c::cs,f+1,hf,ys,h=>by
  simp only [kW] at hf;simp only [RL,List.set_cons_succ] at h ⊢;obtain ⟨y,zs,e,h1,h2⟩:=h;exact ⟨y,zs,e,zB7 hS h1,CP hS hx hf h2⟩
theorem qL.freezeIn {n:Nat × Nat}{c:pS}{ρ:Pl}{S:Nat→Prop}{env:eG}{h:Hp}{a:Act}{w:World}{j f k len sz:Nat}{cs:List AV}{es:List (List AV)}(s:qL n c ρ S env h a w) (hj:h[j]? = some (.cells cs)) (hf:cs[f]? = some (.sl k 0 len sz)) (hk:h[k]? = some (.arr es sz)) (hn:len=es.length) (hi:AV.idfL es.flatten=true) :
  qL n c ρ (fun b=>S b∨∃ o,ρ k=some (b,o)) env ((h.set k .gone).set j (.cells (cs.set f (.rowE es sz)))) a w:=by
 have hne:j≠k:=by rintro rfl;rw [hj] at hk;cases hk
 have h1:=s.hs.freeze hk;have hj':(h.set k .gone)[j]? = some (.cells cs):=by rw [iN (Ne.symm hne)];exact hj
 refine ⟨s.size,s.defers.st (fun _ h=>.inl h),fun t' x hx=>zB7 (fun _ h=>.inl h) (s.env t' x hx),h1.alter hj' (fun _=>?_) (by simp),s.cm⟩
 have hb:=s.hs.blk j _ hj;simp only [RB] at hb ⊢;obtain ⟨b,o,ys,e1,e2,e3⟩:=hb;refine ⟨b,o,ys,e1,e2,CP (fun _ h=>.inl h) (fun y hy=>?_) hf e3⟩;rw [hn] at hy;exact J1 hi (s.hs.blk k _ hk) hy
section
variable {P:Program}{n:Nat × Nat}{ops:Array Oper}{env:eG}{h:Hp}{K:eG→Hp→Prop}{rest:List Oper}{Q:Exit→eG→Hp→Prop}{code:Code}
theorem iG (t:Nat){k off:Nat}{cs:List AV}(ht:look env t=some (.ptr k off)) (hk:h[k]? = some (.cells cs)) (hi:AV.idfL cs=true) (hv:AW P n code ((t,.pr cs off)::env) (h.set k .gone) Q):AW P n code env h Q:=
 fun c ρ S a w QQ s hQ=>hv c ρ _ a w QQ (s.freezeP ht hk hi) hQ
theorem nY (j f:Nat){k len sz:Nat}{cs:List AV}{es:List (List AV)}(hj:h[j]? = some (.cells cs)) (hf:cs[f]? = some (.sl k 0 len sz)) (hk:h[k]? = some (.arr es sz)) (hn:len=es.length) (hi:AV.idfL es.flatten=true) (hv:AW P n code env ((h.set k .gone).set j (.cells (cs.set f (.rowE es sz)))) Q):AW P n code env h Q:=
 fun c ρ S a w QQ s hQ=>hv c ρ _ a w QQ (s.freezeIn hj hf hk hn hi) hQ
end
theorem HS.snocG {c:pS}{ρ:Pl}{S:Nat→Prop}{H:Hp}{w:World}(s:HS c ρ S H w):HS c ρ S (H++[.gone]) w:=by
 have get:∀ {k:Nat} {b:AB},(H++[AB.gone])[k]? = some b→b≠.gone→H[k]? = some b:=fun {k b} hb hg=>by
  by_cases hk:k<H.length
  ·rwa [aG hk] at hb
  ·rw [aF (by omega)] at hb
   by_cases e:k-H.length=0
   ·rw [e] at hb;simp at hb;exact absurd hb.symm hg
   ·rw [dA (by simp;omega)] at hb;cases hb
 refine ⟨fun k hk=>s.dom k (by simp at hk;omega),s.rng,fun k b hb=>?_,fun k b q hb hg hq=>s.live k b q (get hb hg) hg hq,fun k k' b b' q q' hb hb' hg hg' hq hq' e=>s.inj k k' b b' q q' (get hb hg) (get hb' hg') hg hg' hq hq' e,s.stab,s.ext,s.st0,s.st1,by rw [aD];have:=s.mle;omega,s.keep,s.glob⟩
 by_cases hg:b = .gone
 ·subst hg;trivial
 ·exact s.blk k b (get hb hg)
theorem qX {P:Program}{f:FuncId}{args:List AV}{res:AV}{hin hout:Hp}(h:aM P f args hin res hout):aM P f args hin res (hout++[.gone]):=by
 refine ⟨h.1,fun ρ S w vs hs ha=>(h.2 ρ S w vs hs ha).mono ?_⟩;rintro e w' ⟨y,ρ',S',rfl,h2,h3⟩;exact ⟨y,ρ',S',rfl,h2.snocG,h3⟩
theorem HN {w:World}{n b off:Nat}{d:List Value}{os:Array Obj}{c:Array Value}{e:TypeId}(hc:w.heap[b]? = some (.cells c e (0,0))) (hb:b<w.heap.size) :
  (Sort.grow (Sort.putRow id (Sort.ahead w n) b off d.toArray) os).heap[b]? = some (.cells (Sort.putCells id off d.toArray c) e (0,0)):=by
 rw [Sort.heap_grow_old _ _ (by rw [Sort.size_putRow];exact hb)]
 unfold Sort.putRow Sort.mapBlock;show (w.heap.modify b _)[b]? = _;rw [oE,if_pos rfl,hc];rfl
theorem OL {w:World}{n b off:Nat}{d:List Value}{os:Array Obj}{c:Array Value}{e:TypeId}(hc:w.heap[b]? = some (.cells c e (0,0))) (hb:b<w.heap.size) :
  nD (fun x=>x=b) w (Sort.grow (Sort.putRow id (Sort.ahead w n) b off d.toArray) os):=by
 have other:∀ x,x<w.heap.size→x≠b→(Sort.grow (Sort.putRow id (Sort.ahead w n) b off d.toArray) os).heap[x]? = w.heap[x]?:=fun x hx hne=>by
  rw [Sort.heap_grow_old _ _ (by rw [Sort.size_putRow];exact hx)]
  unfold Sort.putRow Sort.mapBlock;show (w.heap.modify b _)[x]? = _;rw [oE,if_neg (Ne.symm hne)]
 refine ⟨rfl,rfl,rfl,by rw [Sort.size_grow,Sort.size_putRow];exact gZ _ _,fun x hx hne=>other x hx hne,fun x cc ee fz hcc=>?_⟩
 by_cases hx:x=b
 ·subst hx;rw [hc] at hcc;cases hcc;exact ⟨_,_,HN hc hb,by simp [Sort.putCells]⟩
 ·exact ⟨cc,fz,by rw [other x (aJ.1 hcc).1 hx];exact hcc,rfl⟩
theorem zZ9 {c:pS}{ρ:Pl}{S:Nat→Prop}{es es':List (List AV)}{sz:Nat}{w w':World}{b o n:Nat}{ys ys' Z:List Value}(s:HS c ρ S [.arr es sz] w) (hp:ρ 0=some (b,o)) (hne:es≠[])
  (hys:AS w b o ys) (hl:(ys'++Z).length=ys.length) (he:∀ e,e∈es'→e.length=sz) (hr:∀ S' w',iF ρ ρ S S' w w'→RL S' w' es'.flatten ρ ys')
  (hw:w'=Sort.putRow id (Sort.ahead w n) b o (ys'++Z).toArray):HS c ρ S [.arr es' sz] w':=by
 obtain ⟨_,h0,h3⟩:=s.blk 0 _ rfl;obtain ⟨c,ty,hc,hg⟩:=hys;have hb:=(aJ.1 hc).1;have hw2:w'=Sort.grow (Sort.putRow id (Sort.ahead w n) b o (ys'++Z).toArray) #[]:=by rw [hw,R5]
 have hh:w'.heap[b]? = some (.cells (Sort.putCells id o (ys'++Z).toArray c) ty (0,0)):=by rw [hw2];exact HN hc hb
 obtain ⟨s',_⟩:=s.upd (k:=0) (b0:=.arr es sz) (nb:=.arr es' sz) (w':=w') rfl (by simp) hp (by rw [hw2];exact OL hc hb) (fun l=>by
  refine ⟨he,h0,.inr ⟨b,o,ys',rfl,⟨_,ty,hh,fun j y hj=>?_⟩,hr _ _ l⟩⟩
  obtain ⟨hjl,hz⟩:=aA.1 hj;rw [aD] at hl;have hold:=hg j (ys[j]'(by omega)) (aB (by omega))
  unfold Sort.putCells;rw [MR,hold];show some (if o≤o+j∧o+j<o+(ys'++Z).toArray.size then _ else _)=_
  have hsz:(ys'++Z).toArray.size=ys'.length+Z.length:=by simp
  rw [if_pos ⟨by omega,by omega⟩]
  congr 1;rw [show o+j-o=j by omega,getElem!_pos _ j (by omega)]
  show (ys'++Z).toArray[j]'_=y
  rw [G9,List.getElem_append_left hjl];exact hz)
 exact s'
theorem ZW {es:List (List AV)}{sz:Nat}(h:∀ e,e∈es→e.length=sz) (m:Nat):(es.drop m).flatten=es.flatten.drop (m*sz):=by
 induction es generalizing m with
 | nil=>simp
 | cons a l ih=>
  have ha:=h a aR;cases m with
  | zero=>simp
  | succ m=>
   rw [List.drop_succ_cons,dZ,ih (fun e he=>h e (aH _ he)),List.drop_append];rw [cY (l:=a) (by rw [ha,eQ];omega),ha,eQ,BD,zB9,List.nil_append]
theorem zU3 {S:Nat→Prop}{w:World}{ρ:Pl}:∀ {xs as_:List AV}{ys bs:List Value},RL S w xs ρ ys→RL S w as_ ρ bs→RL S w (xs++as_) ρ (ys++bs)
 | [],as_,ys,bs,h,h'=>by simp only [RL] at h;subst h;exact h'
 | x::xs,as_,ys,bs,h,h'=>by
  simp only [RL] at h;obtain ⟨y,zs,rfl,h1,h2⟩:=h;exact ⟨y,zs++bs,rfl,h1,zU3 h2 h'⟩
theorem XB {S:Nat→Prop}{w:World}{ρ:Pl}:∀ {xs:List AV}{ys:List Value},RL S w xs ρ ys→xs.all AV.one=true→∀ u,u∈ys→u.oneCell'=true
 | [],ys,h,_,u,hu=>by simp only [RL] at h;subst h;cases hu
 | x::xs,ys,h,h1,u,hu=>by
  simp only [RL] at h;obtain ⟨y,zs,rfl,h2,h3⟩:=h;simp only [BS,aN] at h1;rcases bQ.1 hu with rfl | hu
  ·exact KQ h2 h1.1
  ·exact XB h3 h1.2 u hu
theorem M1 {P : Program} {f : FuncId} {sz : Nat} (hfn : ∃ fn, P.funcs[f]? = some fn ∧ (fn.name == "runtime.NumGoroutine") = false ∧ fn.body.isNone = false)
    (hs:∀ (blk off cap len i j:Nat) (cs:List Value) (w:World),cs.length=len*sz→Sort.Holds id w blk off cs.toArray→(∀ u,u∈cs→u.oneCell'=true)→len≤cap→cap≤9223372036854775807→i≤j→j≤len →
      Calls P f #[.slice (some ⟨blk,off,none⟩) len cap,.int .i64 i,.int .i64 j] w fun e w'=>e = .returned (.slice (some ⟨blk,off,none⟩) (len-(j-i)) cap)∧∃ (q:Nat) (Z:List Value),Z.length=(j-i)*sz∧w'=Sort.putRow id (Sort.ahead w q) blk off (cs.take (i*sz)++cs.drop (j*sz)++Z).toArray)
    (es:List (List AV)) (hes:∀ e,e∈es→e.length=sz) (h1:es.flatten.all AV.one=true) (i j:Nat) (hij:i≤j) (hj:j≤es.length) (hne:es≠[]) :
    aM P f [.sl 0 0 es.length sz,.i (i:Int),.i (j:Int)] [.arr es sz] (.sl 0 0 (es.length-(j-i)) sz) [.arr (es.take i++es.drop j) sz]:=by
  refine ⟨hfn,fun ρ S w vs s hv=>?_⟩
  simp only [RL] at hv;obtain ⟨y,_,rfl,hy,y2,_,rfl,hy2,y3,_,rfl,hy3,rfl⟩:=hv;simp only [R] at hy hy2 hy3;subst hy2 hy3;obtain ⟨a,cap,rfl,hcap,hy⟩:=hy;have hl0:0<es.length:=eO.2 hne;rcases hy with ⟨h0,_⟩ | ⟨b,o,hp,ha,hcl,hrm⟩
  · omega
  · obtain ⟨_,hs0,hB⟩:=s.blk 0 _ rfl;rcases hB with hB | ⟨b',o',ys,h4,h5,h6⟩
    · exact absurd hB.1 hne
    · rw [hp] at h4;cases h4;rw [GN,Nat.add_zero] at ha;subst ha;have hmax:maxLen≤9223372036854775807:=by decide
      have hyl:ys.length=es.length*sz:=by rw [fZ h6,fP hes]
      obtain ⟨cc,ct,hcc,hcg⟩:=h5;have hH:Sort.Holds id w b o ys.toArray:=fun t ht=>by
        have ht':t<ys.length:=by simpa using ht
        have h7:=hcg t ys[t] (aB ht');refine ⟨?_,?_⟩
        · show w.cell? ⟨b,o+t,none⟩=some (ys.toArray[t]!);rw [getElem!_pos _ t ht];simp only [World.cell?,hcc];rw [G9];exact h7
        · simp [World.frozen?,hcc]
      refine (hs b o cap es.length i j ys w hyl hH (XB h6 h1) hcl (by omega) hij hj).mono fun e w' ⟨he,q,Z,hZ,hw⟩=>?_
      subst he;have hil:i*sz≤j*sz:=fT _ hij;have hjl:j*sz≤es.length*sz:=fT _ hj;have hsub:(j-i)*sz=j*sz-i*sz:=Nat.sub_mul _ _ _;have s':=zZ9 (es':=es.take i++es.drop j) (ys:=ys) (ys':=ys.take (i*sz)++ys.drop (j*sz)) (Z:=Z) (n:=q) s hp hne ⟨cc,ct,hcc,hcg⟩ (by simp only [aD,aY,dK,hZ]; omega)
        (fun e he=>by rcases bH.1 he with he | he;exact hes e (eJ he);exact hes e (eB he))
        (fun S' w' l=>by
          rw [fE,J2 hes,ZW hes]
          exact zU3 (sF (h6.later l) _) (xG (h6.later l) _)) hw
      have hsz0:=hs0;refine ⟨_,ρ,S,rfl,s',?_⟩;simp only [R];refine ⟨_,cap,rfl,hcap,.inr ⟨b,o,hp,by simp,by omega,?_⟩⟩
      rw [hw];have hb:=(aJ.1 hcc).1;have hw2:Sort.putRow id (Sort.ahead w q) b o (ys.take (i*sz)++ys.drop (j*sz)++Z).toArray=Sort.grow (Sort.putRow id (Sort.ahead w q) b o (ys.take (i*sz)++ys.drop (j*sz)++Z).toArray) #[]:=by rw [R5]
      rw [hw2];exact (OL hcc hb).room hrm
theorem DH {P:Program}(w:World) (t e ty:TypeId) (z:Value) (ht:P.underlying t=some (.slice e)) (hv:∀ w,(zeroValue e).run P w = .ok z w) (hz:z.cells.toList≠[]) (h1:∀ u,u∈z.cells.toList→u.oneCell'=true) (b o n c:Nat) (hn:0<n)
  (hc:∀ j,j<n*z.cells.toList.length→(w.cell? ⟨b,o+j,none⟩).isSome=true) (hf:∀ j,j<n*z.cells.toList.length→w.frozen? ⟨b,o+j,none⟩=false) :
  (Builtin.clear_ #[t] ty #[.slice (some ⟨b,o,none⟩) n c]).run P w = .ok (.tuple #[]) (w.setCells b o (Builtin.zeroCells z.cells n).toList):=by
 obtain ⟨hm,hl⟩:=rO (z:=z.cells) rfl hz n;have hst:=run_storeCells_cells (P:=P) b o (Builtin.zeroCells z.cells n).toList 0 w (fun j hj=>by simpa using hc j (by omega)) (fun j hj=>by simpa using hf j (by omega)) (fun v hv'=>h1 v (hm v hv'))
 simp only [Nat.add_zero] at hst;obtain ⟨m,rfl⟩:∃ m,n=m+1:=⟨n-1,by omega⟩
 simp [Builtin.clear_,run_underlying ht,hv,hst]
end Go.Ab
namespace Go.Proofs.Q
open Go Go.Ab
abbrev ints (l:List Int):List (List AV):=l.map fun n=>[AV.i n]
theorem dY (l:List Int):∀ e,e∈ints l→e.length=1:=by intro e he;obtain ⟨n,_,rfl⟩:=bD.1 he;rfl
theorem mC {l:List Int}{k:Nat}(h:k<l.length):(ints l)[k]? = some [AV.i l[k]]:=by simp [h]
abbrev BX:=Int × Int × Int
abbrev LT:=Int × Int × Bool
abbrev KD:=ByteArray × Int
abbrev fL (l:List BX):List (List AV):=l.map fun b=>[AV.i b.1,AV.i b.2.1,AV.i b.2.2]
abbrev kE (l:List LT):List (List AV):=l.map fun b=>[AV.i b.1,AV.i b.2.1,AV.b b.2.2]
abbrev jA (l:List KD):List (List AV):=l.map fun b=>[AV.v (.string b.1),AV.i b.2]
theorem pF (l:List BX):∀ e,e∈fL l→e.length=3:=by intro e he;obtain ⟨n,_,rfl⟩:=bD.1 he;rfl
theorem E9 (l:List LT):∀ e,e∈kE l→e.length=3:=by intro e he;obtain ⟨n,_,rfl⟩:=bD.1 he;rfl
theorem yK (l:List KD):∀ e,e∈jA l→e.length=2:=by intro e he;obtain ⟨n,_,rfl⟩:=bD.1 he;rfl
theorem JF {l:List BX}{k:Nat}(h:k<l.length):(fL l)[k]? = some [AV.i l[k].1,AV.i l[k].2.1,AV.i l[k].2.2]:=by simp [h]
theorem Q7 {l:List LT}{k:Nat}(h:k<l.length):(kE l)[k]? = some [AV.i l[k].1,AV.i l[k].2.1,AV.b l[k].2.2]:=by simp [h]
theorem I3 {l:List KD}{k:Nat}(h:k<l.length):(jA l)[k]? = some [AV.v (.string l[k].1),AV.i l[k].2]:=by simp [h]
abbrev qI (m st er sl:Int):AV:=.agg [.i m,.i st,.i er,.i sl]
abbrev zG2 (k a b n:Int) (ids:List Int):AV:=.agg [.i k,.i a,.i b,.i n,.rowE (ints ids) 1]
theorem oM {a b:Bool}(h:a=b):AV.b a=AV.b b:=by rw [h]
def jK (n f t:Int):Bool:=decide (f≤n)&&decide (n≤t)
def zV:List Int→Int→Int→Int
 | [],_,_=>-1
 | x::r,v,k=>if v=x then k else zV r v (k+1)
theorem PN:∀ (l:List Int) (v k:Int),0≤k→(0≤zV l v k↔v∈l)
 | [],v,k,_=>by simp [zV]
 | x::r,v,k,hk=>by
  simp only [zV];split
  ·rename_i e;subst e;simp [hk]
  ·rename_i e;rw [PN r v (k+1) (by omega)]
   simp [e]
theorem ZK {l:List Int}{v:Int}{k:Nat}(h:k<l.length):zV (l.drop k) v k=if v=l[k] then (k:Int) else zV (l.drop (k+1)) v ((k+1:Nat):Int):=by
 rw [aP h];simp [zV]
theorem DT:∀ (n:Nat) (l:List Int),l.length=n→(∀ i:Nat,i<n→(i:Int)∈l)→∀ x,x∈l→0≤x∧x<n
 | 0,l,hl,_,x,hx=>by
  have:l=[]:=cJ hl;subst this;simp at hx
 | n+1,l,hl,hm,x,hx=>by
  have h1:=hm n (by omega)
  have h2:(l.erase (n:Int)).length=n:=by rw [lR h1];omega
  have h3:=DT n (l.erase (n:Int)) h2 (fun i hi=>(mI (by omega)).2 (hm i (by omega)))
  by_cases e:x=n
  ·omega
  ·have:=h3 x ((mI e).2 hx);omega
structure yU9 (ks:List KD) (ls:List LT) (ps:List Int) (bs:List BX):Prop where
 n1:1≤ps.length
 n8:ps.length≤8
 len:ps.length=bs.length
 k10:ks.length≤10
 l10:ls.length≤10
 k:∀ (i:Nat) (h:i<ks.length),0≤ks[i].2∧ks[i].2≤1048576
 l:∀ (i:Nat) (h:i<ls.length),0≤ls[i].1∧ls[i].1<ks.length
 p:∀ (i:Nat) (h:i<ps.length),0≤ps[i]∧ps[i]<ps.length
 b:∀ (i:Nat) (h:i<bs.length),-1≤bs[i].1∧bs[i].1<ls.length∧0≤bs[i].2.1∧bs[i].2.1≤20000∧(bs[i].1 = -1→bs[i].2.1=0)∧0≤bs[i].2.2∧bs[i].2.2≤1073741824
def oY (m st er sl:Int):Prop:=0≤m∧m≤1048576∧0≤st∧st≤1048576∧0≤er∧er≤1048576∧0≤sl∧sl≤1048576
def sI (ks:List KD) (ls:List LT) (lot:Int):Int:=if lot<0 then 0 else (ks.getD (ls.getD lot.toNat (0,0,false)).1.toNat (⟨#[]⟩,0)).2
theorem zW3 {ks:List KD}{ls:List LT}{ps:List Int}{bs:List BX}(f:yU9 ks ls ps bs){lot:Int}(h:lot<ls.length):0≤sI ks ls lot∧sI ks ls lot≤1048576:=by
 unfold sI;split
 ·omega
 ·have hl:lot.toNat<ls.length:=by omega
  have h1:=f.l lot.toNat hl;have hk:ls[lot.toNat].1.toNat<ks.length:=by omega
  have h2:=f.k _ hk;simp only [List.getD,aB hl,nR,aB hk];exact h2
def yM0 (st id k:Int) (ids:List Int):Int:=if k=0 then (if (ids.length:Int)-(if id∈ids then 1 else 0) > st then 0 else if id∈ids then 0 else 1) else 0
def zB5 (st er sl id ct w k n:Int) (ids:List Int):Bool:=
 if k=0 then decide ((ids.length:Int)-(if id∈ids then 1 else 0)≤st)
 else if k=1 then jK w (n-er) (n+er)
 else if k=2 then decide (n-sl≤ct)
 else if k=3 then decide (n=ct)
 else if k=5 then decide (n=id)
 else true
def zB1 (sl ct k n done:Int):Bool:=if k=2 then jK done 0 ct&&jK done (n-sl) (n+sl) else if k=4 then decide (done=0)||decide (done=1) else decide (done=0)
def BM (l:List Int) (n:Int) (i:Nat):Prop:=0≤l.getD i 0∧l.getD i 0≤n-1∧(0<i→l.getD (i-1) 0<l.getD i 0)
open Classical in
noncomputable def LZ (l:List Int) (n:Int):Bool:=decide (∀ i,i<l.length→BM l n i)
end Go.Proofs.Q
namespace Go.Proofs.Q
open Go Go.Ab
attribute [local irreducible] VC AW bW aM
theorem vC (n f t:Int):aM Tryz.prog 106 [.i n,.i f,.i t] [] (.b (jK n f t)) []:=by
 refine bS T Tryz.func106 rfl rfl rfl rfl ?_
 (repeat' (first|refine wS ?_|refine wR ?_|(refine rg 0 (aV ?_))|(refine rg 1 (dJ rfl (vV (iR rfl rfl) (mV ?_)));refine cD rfl rfl ?_ ?_<;>(intro hb;rw [hb];(try simp only [nm] at hb);try omega);(all_goals first|(refine gT (mW rfl (gT (mW rfl (gT (vV (iQ rfl rfl) ?_))))))|(iterate 3 refine gF ?_));(all_goals (refine pW rfl (aV ?_))))|refine nZ ?_));all_goals
  refine dU (.inl rfl) rfl (oM ?_);simp [jK];try omega
theorem zT (l:List Int) (v:Int) (hl:l.length≤9223372036854775807):aM Tryz.prog 80 [.rowE (ints l) 1,.i v] [] (.i (zV l v 0)) []:=by
 have hlen:(ints l).length=l.length:=by simp
 refine bS T Tryz.func80 rfl rfl rfl rfl ?_
 (repeat' (first|refine wS ?_|refine wB ?_|(refine rg 0 (aV ?_))|(refine rg 1 (mW rfl (qW T rfl (mV ?_))))|refine nZ ?_));refine dI (X:={k:Nat // k≤l.length∧zV l v 0=zV (l.drop k) v k}) (fun k=>[(0,.rowE (ints l) 1),(1,.i v),(7,.i (ints l).length),(8,.i k.1)]) (fun _=>[]) (fun k=>l.length-k.1) ⟨0,by simp,rfl⟩ (gQ []) ?_
 rintro ⟨k,hk,hf⟩;dsimp only;by_cases hlt:k<l.length
 ·have hd:=ZK (v:=v) hlt
  repeat' (first|refine wS ?_|refine wB ?_|refine wK ?_|refine wR ?_|(refine wC rfl ?_ ?_<;>(intro hb;(try simp only [nm] at hb);try omega))|(refine rg 2 (vV (aK rfl rfl) ?_))|(refine rg 3 (mW rfl (aV ?_)))|(refine rg 4 (dJ rfl (mW rfl (vV (ix T rfl (by omega) (dY l) (mC (k:=k) (by omega))) (lW T rfl (vV (fB rfl rfl) ?_))))))|(refine rg 5 (mW rfl (aV ?_)))|(refine rg 6 (vV (cK rfl rfl (by omega) (by omega)) (mV ?_)))|refine nZ ?_)
  ·refine dU (.inl rfl) rfl ?_;rw [hf,hd,if_pos hb];rfl
  ·refine ⟨⟨k+1,by omega,?_⟩,by dsimp only;omega,gQ []⟩
   rw [hf,hd,if_neg hb]
 ·(repeat' (first|refine wS ?_|refine wR ?_|refine wE ?_|(refine wC rfl (fun hb=>?_) (fun hb=>?_) <;> (((try simp only [nm] at hb);try omega)))|(refine rg 2 (vV (aK rfl rfl) ?_))|(refine rg 7 (aV ?_))|(refine nZ ?_)));refine dU (.inl rfl) rfl ?_
  rw [hf,cY (by omega)];rfl
theorem N7 (l:List Int) (v:Int) (hl:l.length≤9223372036854775807):aM Tryz.prog 48 [.rowE (ints l) 1,.i v] [] (.b (decide (v∈l))) []:=by
 refine bS T Tryz.func48 rfl rfl rfl rfl ?_
 (repeat' (first|refine wS ?_|refine wR ?_|(refine rg 0 (aV ?_))|(refine rg 1 (dJ rfl (vV (kC (zT l v hl)) (vV (iR rfl rfl) (aV ?_)))))|refine nZ ?_));refine dU (.inl rfl) rfl (oM ?_)
 rw [K9];simp only [decide_eq_true_eq];exact PN l v 0 (by omega)
theorem yM9 {ks:List KD}{ls:List LT}{ps:List Int}{bs:List BX}(f:yU9 ks ls ps bs){lot:Int}(h:lot<ls.length):aM Tryz.prog 134 [.rowE (jA ks) 2,.rowE (kE ls) 3,.i lot] [] (.i (sI ks ls lot)) []:=by
 by_cases h0:lot<0
 ·refine bS T Tryz.func134 rfl rfl rfl rfl ?_
  (repeat' (first|refine wS ?_|refine wR ?_|(refine wC rfl ?_ ?_<;>(intro hb;(try simp only [nm] at hb);try omega))|(refine rg 0 (aV ?_))|(refine rg 1 (mW rfl (vV (aK rfl rfl) ?_)))|(refine rg 2 (aV ?_))|refine nZ ?_));refine dU (.inl rfl) rfl ?_
  unfold sI;rw [if_pos h0];rfl
 ·have hl:lot.toNat<ls.length:=by omega
  have h1:=f.l lot.toNat hl;have hk:ls[lot.toNat].1.toNat<ks.length:=by omega
  have hkl:(jA ks).length=ks.length:=by simp
  have hll:(kE ls).length=ls.length:=by simp
  have e:sI ks ls lot=ks[ls[lot.toNat].1.toNat].2:=by
   unfold sI;rw [if_neg h0];simp only [List.getD,aB hl,nR,aB hk]
  refine bS T Tryz.func134 rfl rfl rfl rfl ?_
  (repeat' (first|refine wS ?_|refine wK ?_|refine wR ?_|(refine wC rfl ?_ ?_<;>(intro hb;(try simp only [nm] at hb);try omega))|(refine rg 0 (aV ?_))|(refine rg 1 (mW rfl (vV (aK rfl rfl) ?_)))|(refine rg 3 (dJ rfl (mW rfl (vV (ix T rfl (by omega) (E9 ls) (Q7 hl)) (iK T rfl (vV (ix T rfl (by omega) (yK ks) (I3 hk)) (iK T rfl (aV ?_))))))))|refine nZ ?_));refine dU (.inl rfl) rfl ?_
  rw [e];rfl
theorem R0 (l:List Int):(ints l).flatten.all AV.one=true:=by
 rw [bJ];intro x hx;obtain ⟨e,he,hx⟩:=List.mem_flatten.1 hx;obtain ⟨p,_,rfl⟩:=bD.1 he;simp at hx;subst hx;rfl
abbrev nU (f t:Int):AV:=.agg [.i f,.i t]
def F6 (f t:Int):Bool:=decide (max f 0<min t 20001)
def LN (f t:Int):Int:=if F6 f t then max f 0 else 0
def cutT (f t:Int):Int:=if F6 f t then min t 20001 else 0
theorem FE (f t:Int):(F6 f t=true∧LN f t=max f 0∧cutT f t=min t 20001∧max f 0<min t 20001)∨(F6 f t=false∧LN f t=0∧cutT f t=0∧min t 20001≤max f 0):=by
 by_cases h:max f 0<min t 20001
 ·left;simp [F6,LN,cutT,h]
 ·right;simp only [F6,LN,cutT,h];simp;omega
theorem zG1 {a b c d:Int}{e e':Bool}(h1:a=c) (h2:b=d) (h3:e=e'):AV.tup [nU a b,.b e]=AV.tup [nU c d,.b e']:=by rw [h1,h2,h3]
theorem KI (f t:Int):aM Tryz.prog 184 [nU f t] [] (.tup [nU (LN f t) (cutT f t),.b (F6 f t)]) []:=by
 refine bS T Tryz.func184 rfl rfl rfl rfl ?_
 (repeat' (first|(first|(refine eU ?_)|(refine sD ?_)|(refine xD ?_)|(refine pQ ?_))|(first|(refine vV (by first|exact eD rfl|exact bR T rfl rfl rfl|exact bA T rfl rfl rfl rfl|exact iR rfl rfl|exact N2 rfl rfl|exact zX rfl rfl|exact eT T rfl rfl rfl rfl) ?_)|(refine bC T rfl rfl rfl rfl rfl rfl (by decide) rfl ?_)|(refine iI ?_)|(refine cO (by first|exact cN T rfl|exact dR rfl rfl) rfl ?_))|((refine uU rfl (fun hb=>?_) (fun hb=>?_)<;>(try simp only [nm] at hb)))));all_goals
  refine dU (.inl rfl) rfl ?_;rcases FE f t with ⟨h1,h2,h3,h4⟩ | ⟨h1,h2,h3,h4⟩
  all_goals (first|omega | (rw [h1,h2,h3];refine zG1 ?_ ?_ ?_ <;> first|rfl | omega))
def yU (f t n:Int):Bool:=decide (f≤n)&&decide (n<t)
theorem zZ2 (f t n:Int):aM Tryz.prog 137 [nU f t,.i n] [] (.b (yU f t n)) []:=by
 refine bS T Tryz.func137 rfl rfl rfl rfl ?_
 (repeat' (first|(first|(refine eU ?_)|(refine sD ?_)|(refine pQ ?_))|(first|(refine vV (by first|exact bV rfl|exact eD rfl|exact bR T rfl rfl rfl|exact bA T rfl rfl rfl rfl|exact jE rfl rfl|exact iM rfl rfl|exact aK rfl rfl|exact iQ rfl rfl) ?_)|(refine iI ?_)|(refine GV rfl rfl ?_ rfl)|(refine GW rfl rfl ?_ rfl)|(refine vD rfl rfl (fun hb=>?_) (fun hb=>?_) rfl<;>(rw [hb];(try simp only [nm] at hb)))|(refine cO (dR rfl rfl) rfl ?_))));all_goals
  refine dU (.inl rfl) rfl (oM ?_);simp [yU];try omega
theorem yD3 (a b c d:Int):aM Tryz.prog 135 [nU a b,nU c d] [] (.tup [nU (LN (max a c) (min b d)) (cutT (max a c) (min b d)),.b (F6 (max a c) (min b d))]) []:=by
 refine bS T Tryz.func135 rfl rfl rfl rfl ?_
 (repeat' (first|(first|(refine eU ?_)|(refine sD ?_)|(refine pQ ?_))|(first|(refine vV (by first|exact eD rfl|exact bR T rfl rfl rfl|exact bA T rfl rfl rfl rfl|exact jG rfl rfl|exact N2 rfl rfl|exact zX rfl rfl|exact eT T rfl rfl rfl rfl|exact gD rfl rfl (KI _ _) rfl rfl rfl) ?_)|(refine bC T rfl rfl rfl rfl rfl rfl (by decide) rfl ?_)|(refine iI ?_)|(refine cO (by first|exact cN T rfl|exact dR rfl rfl) rfl ?_))));refine rQ
theorem zZ3:aM Tryz.prog 183 [] [] (nU 0 20001) []:=by
 refine bS T Tryz.func183 rfl rfl rfl rfl ?_
 (repeat' (first|(first|(refine eU ?_)|(refine sD ?_)|(refine pQ ?_))|(first|(refine vV (by exact eT T rfl rfl rfl rfl) ?_)|(refine bC T rfl rfl rfl rfl rfl rfl (by decide) rfl ?_)|(refine iI ?_)|(refine cO (cN T rfl) rfl ?_))));refine rQ
def yW (l:List Int):Bool:=l.all fun n=>decide (0≤n)&&decide (n≤1099511627776)
theorem TP (l:List Int) (k:Nat) (h:k<l.length):yW (l.drop k)=(decide (0≤l[k])&&decide (l[k]≤1099511627776)&&yW (l.drop (k+1))):=by
 rw [aP h];rfl
theorem Q0 (l:List Int) (hm:l.length≤1000):aM Tryz.prog 182 [.rowE (ints l) 1] [] (.b (yW l)) []:=by
 refine bS T Tryz.func182 rfl rfl rfl rfl ?_
 (repeat' (first|(first|(refine eU ?_)|(refine sD ?_)|(refine yY ?_))|(first|(refine vV (by first|exact bV rfl|exact eD rfl|exact mZ T rfl rfl) ?_)|(refine iI ?_))));refine dI (X:={k:Nat // k≤(ints l).length∧yW l=yW (l.drop k)}) (fun k=>[(5,.rowE (ints l) 1),(6,.i (ints l).length),(7,.i k.1)]) (fun _=>[]) (fun k=>(ints l).length-k.1) ⟨0,by simp,rfl⟩ (gQ []) ?_
 rintro ⟨k,hk,hf⟩;dsimp only;have hlen:(ints l).length=l.length:=by simp
 repeat' (first|(first|(refine eU ?_)|(refine sD ?_)|(refine yY ?_)|(refine xD ?_)|(refine pQ ?_)|(refine WV ?_))|(first|(refine vV (by first|exact eD rfl|exact aK rfl rfl) ?_)|(refine iI ?_))|((refine uU rfl (fun hb=>?_) (fun hb=>?_)<;>(try simp only [nm] at hb))))
 ·have hlt:k<l.length:=by omega
  have hs:=TP l k hlt;refine C6 (S7 T rfl rfl rfl rfl rfl (by omega) (dY l) (mC hlt)) rfl ?_
  (repeat' (first|(first|(refine eU ?_)|(refine sD ?_)|(refine xD ?_)|(refine pQ ?_))|(first|(refine vV (by first|exact bV rfl|exact eD rfl|exact bA T rfl rfl rfl rfl|exact jE rfl rfl|exact iM rfl rfl|exact cK rfl rfl (by omega) (by omega)|exact aK rfl rfl|exact fK rfl rfl) ?_)|(refine iI ?_)|(refine GV rfl rfl ?_ rfl)|(refine GW rfl rfl ?_ rfl)|(refine vD rfl rfl (fun hb=>?_) (fun hb=>?_) rfl<;>(rw [hb];(try simp only [nm] at hb))))|(first|(refine wT ?_)|(refine uU rfl (fun hb=>?_) (fun hb=>?_)<;>(try simp only [nm] at hb)))));all_goals first
   | (refine dU (.inl rfl) rfl (oM ?_);rw [hf,hs];simp;omega)
   | (refine ⟨⟨k+1,by omega,?_⟩,by simp;omega,gQ []⟩;rw [hf,hs];simp;omega)
 ·refine dU (.inl rfl) rfl (oM ?_);rw [hf,cY (by omega)];rfl
theorem zO6 {a b:Int}(h:0≤a∧a≤1099511627776∧0≤b∧b≤1099511627776):yW [a,b]=true:=by simp [yW];omega
theorem zO8 {a b:Int}(h:¬ (0≤a∧a≤1099511627776∧0≤b∧b≤1099511627776)):yW [a,b]=false:=by
 rw [← fA];simp [yW];omega
theorem zO5 {a b c d:Int}(h:0≤a∧a≤1099511627776∧0≤b∧b≤1099511627776∧0≤c∧c≤1099511627776∧0≤d∧d≤1099511627776):yW [a,b,c,d]=true:=by simp [yW];omega
theorem zO7 {a b c d:Int}(h:¬ (0≤a∧a≤1099511627776∧0≤b∧b≤1099511627776∧0≤c∧c≤1099511627776∧0≤d∧d≤1099511627776)):yW [a,b,c,d]=false:=by
 rw [← fA];simp [yW];omega
theorem yF6 {a b:Int}(h:0≤a∧a≤1099511627776∧0≤b∧b≤1099511627776):aM Tryz.prog 182 [.rowE (ints [a,b]) 1] [] (.b true) []:=zO6 h▸Q0 [a,b] (by simp)
theorem yF8 {a b:Int}(h:¬ (0≤a∧a≤1099511627776∧0≤b∧b≤1099511627776)):aM Tryz.prog 182 [.rowE (ints [a,b]) 1] [] (.b false) []:=zO8 h▸Q0 [a,b] (by simp)
theorem LH {a b c d:Int}(h:0≤a∧a≤1099511627776∧0≤b∧b≤1099511627776∧0≤c∧c≤1099511627776∧0≤d∧d≤1099511627776):aM Tryz.prog 182 [.rowE (ints [a,b,c,d]) 1] [] (.b true) []:=zO5 h▸Q0 [a,b,c,d] (by simp)
theorem yF7 {a b c d:Int}(h:¬ (0≤a∧a≤1099511627776∧0≤b∧b≤1099511627776∧0≤c∧c≤1099511627776∧0≤d∧d≤1099511627776)):aM Tryz.prog 182 [.rowE (ints [a,b,c,d]) 1] [] (.b false) []:=zO7 h▸Q0 [a,b,c,d] (by simp)
theorem YF (f t n s:Int) (hf:0≤f∧f≤20001∧0≤t∧t≤20001) (h:0≤n∧n≤1099511627776∧0≤s∧s≤1099511627776):aM Tryz.prog 136 [nU f t,.i n,.i s] [] (.tup [nU (LN (f-n-s) (t-max (n-s) 0)) (cutT (f-n-s) (t-max (n-s) 0)),.b (F6 (f-n-s) (t-max (n-s) 0))]) []:=by
 refine bS T Tryz.func136 rfl rfl rfl rfl ?_
 (repeat' (first|(first|(refine eU ?_)|(refine sD ?_)|(refine xD ?_)|(refine pQ ?_))|(first|(refine vV (by first|exact bV rfl|exact eD rfl|exact bR T rfl rfl rfl|exact bA T rfl rfl rfl rfl|exact dC rfl rfl (by omega) (by omega)|exact dS rfl|exact jG rfl rfl|exact N2 rfl rfl|exact eT T rfl rfl rfl rfl|exact gD rfl rfl (KI _ _) rfl rfl rfl|exact eH rfl rfl (yF6 h) (by ((repeat (first|exact .nil|exact .v _|refine .cons ?_ ?_|refine .sl rfl (by simp) ?_));done)) rfl rfl) ?_)|(refine bC T rfl rfl rfl rfl rfl rfl (by decide) rfl ?_)|(refine iI ?_)|(refine cO (by first|exact cN T rfl|exact dR rfl rfl|exact bG T rfl rfl (by decide) (by decide) rfl rfl rfl) rfl ?_))|((refine wU ?_))));exact rQ
theorem SW (f t n s:Int) (h:¬ (0≤n∧n≤1099511627776∧0≤s∧s≤1099511627776)):aM Tryz.prog 136 [nU f t,.i n,.i s] [] (.tup [nU 0 0,.b false]) []:=by
 refine bS T Tryz.func136 rfl rfl rfl rfl ?_
 (repeat' (first|(first|(refine eU ?_)|(refine sD ?_)|(refine pQ ?_))|(first|(refine vV (by first|exact bV rfl|exact eD rfl|exact dS rfl|exact eT T rfl rfl rfl rfl|exact eH rfl rfl (yF8 h) (by ((repeat (first|exact .nil|exact .v _|refine .cons ?_ ?_|refine .sl rfl (by simp) ?_));done)) rfl rfl) ?_)|(refine bC T rfl rfl rfl rfl rfl rfl (by decide) rfl ?_)|(refine iI ?_)|(refine cO (by first|exact cN T rfl|exact dR rfl rfl|exact bG T rfl rfl (by decide) (by decide) rfl rfl rfl) rfl ?_))|((refine wT ?_))));exact rQ
def LJ (a b c d:Int):Prop:=0≤a∧a≤1099511627776∧0≤b∧b≤1099511627776∧0≤c∧c≤1099511627776∧0≤d∧d≤1099511627776
theorem SD (t u w e:Int) (h:¬ LJ t u w e):aM Tryz.prog 133 [.i t,.i u,.i w,.i e] [] (.tup [nU 0 0,.b false]) []:=by
 refine bS T Tryz.func133 rfl rfl rfl rfl ?_
 (repeat' (first|(first|(refine eU ?_)|(refine sD ?_)|(refine pQ ?_))|(first|(refine vV (by first|exact bV rfl|exact eD rfl|exact dS rfl|exact eT T rfl rfl rfl rfl|exact eH rfl rfl (yF7 h) (by ((repeat (first|exact .nil|exact .v _|refine .cons ?_ ?_|refine .sl rfl (by simp) ?_));done)) rfl rfl) ?_)|(refine bC T rfl rfl rfl rfl rfl rfl (by decide) rfl ?_)|(refine iI ?_)|(refine cO (by first|exact cN T rfl|exact bG T rfl rfl (by decide) (by decide) rfl rfl rfl) rfl ?_))|((refine wT ?_))));exact rQ
theorem MW (t u w e:Int) (h:LJ t u w e) (h1:w+e-t<0∨u=0∧0<w-e-t):aM Tryz.prog 133 [.i t,.i u,.i w,.i e] [] (.tup [nU 0 0,.b false]) []:=by
 have h':=h;unfold LJ at h';refine bS T Tryz.func133 rfl rfl rfl rfl ?_
 (repeat' (first|(first|(refine eU ?_)|(refine sD ?_)|(refine yY ?_)|(refine xD ?_)|(refine pQ ?_))|(first|(refine vV (by first|exact bV rfl|exact eD rfl|exact jE rfl rfl|exact iM rfl rfl|exact cK rfl rfl (by omega) (by omega)|exact dC rfl rfl (by omega) (by omega)|exact aK rfl rfl|exact fK rfl rfl|exact fB rfl rfl|exact dS rfl|exact eT T rfl rfl rfl rfl|exact eH rfl rfl (LH h) (by ((repeat (first|exact .nil|exact .v _|refine .cons ?_ ?_|refine .sl rfl (by simp) ?_));done)) rfl rfl) ?_)|(refine bC T rfl rfl rfl rfl rfl rfl (by decide) rfl ?_)|(refine iI ?_)|(refine GV rfl rfl ?_ rfl)|(refine GW rfl rfl ?_ rfl)|(refine UU rfl rfl ?_ rfl)|(refine vD rfl rfl (fun hb=>?_) (fun hb=>?_) rfl<;>(rw [hb];(try simp only [nm] at hb)))|(refine cO (by first|exact cN T rfl|exact bG T rfl rfl (by decide) (by decide) rfl rfl rfl) rfl ?_))|(first|(refine wT ?_)|(refine wU ?_)|(refine uU rfl (fun hb=>?_) (fun hb=>?_)<;>(try simp only [nm] at hb)))));all_goals first|omega | exact rQ | skip
theorem MX (t u w e:Int) (h:LJ t u w e) (h1:0≤w+e-t) (h2:u=0) (h3:w-e-t≤0):aM Tryz.prog 133 [.i t,.i u,.i w,.i e] [] (.tup [nU 0 20001,.b true]) []:=by
 have h':=h;unfold LJ at h';refine bS T Tryz.func133 rfl rfl rfl rfl ?_
 (repeat' (first|(first|(refine eU ?_)|(refine sD ?_)|(refine yY ?_)|(refine xD ?_)|(refine pQ ?_))|(first|(refine vV (by first|exact bV rfl|exact eD rfl|exact jE rfl rfl|exact iM rfl rfl|exact cK rfl rfl (by omega) (by omega)|exact dC rfl rfl (by omega) (by omega)|exact aK rfl rfl|exact fK rfl rfl|exact fB rfl rfl|exact dS rfl|exact eT T rfl rfl rfl rfl|exact eH rfl rfl (LH h) (by ((repeat (first|exact .nil|exact .v _|refine .cons ?_ ?_|refine .sl rfl (by simp) ?_));done)) rfl rfl|exact kC (zZ3)) ?_)|(refine bC T rfl rfl rfl rfl rfl rfl (by decide) rfl ?_)|(refine iI ?_)|(refine GV rfl rfl ?_ rfl)|(refine GW rfl rfl ?_ rfl)|(refine UU rfl rfl ?_ rfl)|(refine vD rfl rfl (fun hb=>?_) (fun hb=>?_) rfl<;>(rw [hb];(try simp only [nm] at hb)))|(refine cO (by first|exact cN T rfl|exact bG T rfl rfl (by decide) (by decide) rfl rfl rfl) rfl ?_))|(first|(refine wT ?_)|(refine wU ?_)|(refine uU rfl (fun hb=>?_) (fun hb=>?_)<;>(try simp only [nm] at hb)))));all_goals first|exact rQ | (exfalso;omega)
def yV2 (t u w e:Int):Int:=(max (w-e-t) 0+u-1) / u
def yV1 (t u w e:Int):Int:=(w+e-t) / u+1
theorem SE (t u w e:Int) (h:LJ t u w e) (h1:0≤w+e-t) (h2:0<u):aM Tryz.prog 133 [.i t,.i u,.i w,.i e] [] (.tup [nU (LN (yV2 t u w e) (yV1 t u w e)) (cutT (yV2 t u w e) (yV1 t u w e)),.b (F6 (yV2 t u w e) (yV1 t u w e))]) []:=by
 have h':=h;unfold LJ at h';have q1:=Int.ediv_nonneg h1 (Int.le_of_lt h2);have q2:=Int.ediv_le_self u h1;refine bS T Tryz.func133 rfl rfl rfl rfl ?_
 (repeat' (first|(first|(refine eU ?_)|(refine sD ?_)|(refine yY ?_)|(refine xD ?_)|(refine pQ ?_))|(first|(refine vV (by first|exact bV rfl|exact eD rfl|exact jE rfl rfl|exact iM rfl rfl|exact cK rfl rfl (by omega) (by omega)|exact dC rfl rfl (by omega) (by omega)|exact aK rfl rfl|exact fK rfl rfl|exact fB rfl rfl|exact dS rfl|exact eT T rfl rfl rfl rfl|exact eH rfl rfl (LH h) (by ((repeat (first|exact .nil|exact .v _|refine .cons ?_ ?_|refine .sl rfl (by simp) ?_));done)) rfl rfl) ?_)|(refine bC T rfl rfl rfl rfl rfl rfl (by decide) rfl ?_)|(refine iI ?_)|(refine GV rfl rfl ?_ rfl)|(refine GW rfl rfl ?_ rfl)|(refine UU rfl rfl ?_ rfl)|(refine vD rfl rfl (fun hb=>?_) (fun hb=>?_) rfl<;>(rw [hb];(try simp only [nm] at hb)))|(refine cO (by first|exact cN T rfl|exact bG T rfl rfl (by decide) (by decide) rfl rfl rfl) rfl ?_))|(first|(refine dV rfl (by first|exact bV rfl|exact cK rfl rfl (by omega) (by omega)|exact dC rfl rfl (by omega) (by omega)|exact yE1 rfl rfl (by omega) (by omega) (by omega)|exact jG rfl rfl|exact N2 rfl rfl|exact eT T rfl rfl rfl rfl|exact gD rfl rfl (KI _ _) rfl rfl rfl) ?_)|(refine LM rfl rfl (by (dsimp only [List.nil_append,List.cons_append,mR,List.append_nil];done)) ?_))|(refine QY (id:=8) [[],[0],[],[0,1,2],rN 4,[],rN 6,[],[],[7,8],[7,8,9],rN 11,rN 12,rN 13,rN 13] (rM 46 15) [[],[],[46,47],[],[],rM 46 5,[],rM 46 7,rM 46 8,rM 46 7,rM 46 7,[],[],[],[59]] cP (by decide +kernel) ?_)|(first|(refine wT ?_)|(refine wU ?_)|(refine uU rfl (fun hb=>?_) (fun hb=>?_)<;>(try simp only [nm] at hb)))));all_goals first|omega | exact rQ
end Go.Proofs.Q
namespace Go.Ld
open Go.Ab Go.Proofs.Q
abbrev SP:=Int × Int
abbrev W:=List Int × Int × List SP
abbrev G:=List Int × List W
abbrev fS (l:List SP):List (List AV):=l.map fun p=>[AV.i p.1,AV.i p.2]
abbrev wA (w:W):List AV:=[.rowE (Go.Proofs.Q.ints w.1) 1,.i w.2.1,.rowE (fS w.2.2) 2]
abbrev gN (l:List W):List (List AV):=l.map wA
abbrev gA (g:G):List AV:=[.rowE (Go.Proofs.Q.ints g.1) 1,.rowE (gN g.2) 3]
abbrev kY (l:List G):List (List AV):=l.map gA
def cI (a b:Int):Int:=if a<b then -1 else if b<a then 1 else 0
def AJ (a b:Int):Int:=if a=0 then b else a
def cL:List Int→List Int→Int
 | [],[]=>0
 | [],_::_=>-1
 | _::_,[]=>1
 | x::a,y::b=>AJ (cI x y) (cL a b)
def cS (x y:SP):Int:=AJ (cI x.1 y.1) (cI x.2 y.2)
def cB:List SP→List SP→Int
 | [],[]=>0
 | [],_::_=>-1
 | _::_,[]=>1
 | x::a,y::b=>AJ (cS x y) (cB a b)
def pY (a b:W):Int:=AJ (cL a.1 b.1) (cB a.2.2 b.2.2)
def eY (a b:W):Int:=AJ (pY a b) (cI a.2.1 b.2.1)
structure JQ {α:Type} (c:α→α→Int):Prop where
 eq:∀ a b,c a b=0↔a=b
 neg:∀ a b,c a b = - c b a
 tr:∀ a b d,c a b<0→c b d<0→c a d<0
theorem JQ.rfl' {α:Type}{c:α→α→Int}(h:JQ c) (a:α):c a a=0:=(h.eq a a).2 rfl
theorem JQ.le_tr {α:Type}{c:α→α→Int}(h:JQ c){a b d:α}(h1:c a b≤0) (h2:c b d≤0):c a d≤0:=by
 by_cases e:c a b=0
 ·rw [(h.eq _ _).1 e];exact h2
 ·by_cases e':c b d=0
  ·rw [← (h.eq _ _).1 e'];exact h1
  ·have:=h.tr a b d (by omega) (by omega);omega
theorem sA:JQ cI where
  eq a b:=by unfold cI;split <;> (try split) <;> omega
  neg a b:=by unfold cI;split <;> split <;> (try split) <;> omega
  tr a b d := by unfold cI; repeat' split
                 all_goals omega
theorem KP {a b:Int}:AJ a b=0↔a=0∧b=0:=by unfold AJ;split <;> omega
theorem KO {a b:Int}:AJ (-a) (-b) = - AJ a b:=by unfold AJ;split <;> split <;> omega
theorem TC {a b:Int}:AJ a b<0↔a<0∨a=0∧b<0:=by unfold AJ;split <;> omega
theorem JQ.lex {α β γ:Type}{c:α→α→Int}{d:β→β→Int}(hc:JQ c) (hd:JQ d) (f:γ→α) (g:γ→β) (inj:∀ x y,f x=f y→g x=g y→x=y):JQ fun x y=>AJ (c (f x) (f y)) (d (g x) (g y)) where
 eq a b:=by
  rw [KP,hc.eq,hd.eq];exact ⟨fun h=>inj _ _ h.1 h.2,fun h=>by rw [h];exact ⟨rfl,rfl⟩⟩
 neg a b:=by rw [hc.neg,hd.neg,KO]
 tr a b e h1 h2:=by
  simp only [TC] at *;rcases h1 with h1 | ⟨h1,h1'⟩
  ·rcases h2 with h2 | ⟨h2,h2'⟩
   ·exact .inl (hc.tr _ _ _ h1 h2)
   ·rw [(hc.eq _ _).1 h2] at h1;exact .inl h1
  ·rw [(hc.eq _ _).1 h1];rcases h2 with h2 | ⟨h2,h2'⟩
   ·exact .inl h2
   ·exact .inr ⟨h2,hd.tr _ _ _ h1' h2'⟩
theorem zR1:JQ cL where
 eq:=fun a=>by
  induction a with
  | nil=>intro b;cases b <;> simp [cL]
  | cons x a ih=>intro b; cases b with
   | nil=>simp [cL]
   | cons y b=>simp only [cL,KP,sA.eq,ih,List.cons.injEq]
 neg:=fun a=>by
  induction a with
  | nil=>intro b;cases b <;> simp [cL]
  | cons x a ih=>intro b; cases b with
   | nil=>simp [cL]
   | cons y b=>simp only [cL];rw [sA.neg,ih,KO]
 tr:=fun a=>by
  induction a with
  | nil=>intro b d;cases b <;> cases d <;> simp [cL]
  | cons x a ih=>
   intro b d h1 h2;cases b with
   | nil=>simp [cL] at h1
   | cons y b=>cases d with
    | nil=>simp [cL] at h2
    | cons z d=>
     simp only [cL,TC] at *;rcases h1 with h1 | ⟨h1,h1'⟩
     ·rcases h2 with h2 | ⟨h2,h2'⟩
      ·exact .inl (sA.tr _ _ _ h1 h2)
      ·rw [(sA.eq _ _).1 h2] at h1;exact .inl h1
     ·rw [(sA.eq _ _).1 h1];rcases h2 with h2 | ⟨h2,h2'⟩
      ·exact .inl h2
      ·exact .inr ⟨h2,ih _ _ h1' h2'⟩
theorem FJ:JQ cS:=JQ.lex sA sA (·.1) (·.2) fun x y h1 h2=>Prod.ext h1 h2
theorem zR2:JQ cB where
 eq:=fun a=>by
  induction a with
  | nil=>intro b;cases b <;> simp [cB]
  | cons x a ih=>intro b; cases b with
   | nil=>simp [cB]
   | cons y b=>simp only [cB,KP,FJ.eq,ih,List.cons.injEq]
 neg:=fun a=>by
  induction a with
  | nil=>intro b;cases b <;> simp [cB]
  | cons x a ih=>intro b; cases b with
   | nil=>simp [cB]
   | cons y b=>simp only [cB];rw [FJ.neg,ih,KO]
 tr:=fun a=>by
  induction a with
  | nil=>intro b d;cases b <;> cases d <;> simp [cB]
  | cons x a ih=>
   intro b d h1 h2;cases b with
   | nil=>simp [cB] at h1
   | cons y b=>cases d with
    | nil=>simp [cB] at h2
    | cons z d=>
     simp only [cB,TC] at *;rcases h1 with h1 | ⟨h1,h1'⟩
     ·rcases h2 with h2 | ⟨h2,h2'⟩
      ·exact .inl (FJ.tr _ _ _ h1 h2)
      ·rw [(FJ.eq _ _).1 h2] at h1;exact .inl h1
     ·rw [(FJ.eq _ _).1 h1];rcases h2 with h2 | ⟨h2,h2'⟩
      ·exact .inl h2
      ·exact .inr ⟨h2,ih _ _ h1' h2'⟩
theorem OS:JQ (fun x y:List Int × List SP=>AJ (cL x.1 y.1) (cB x.2 y.2)):=JQ.lex zR1 zR2 (·.1) (·.2) fun x y h1 h2=>Prod.ext h1 h2
theorem jT:JQ eY:=JQ.lex OS sA (fun w:W=>(w.1,w.2.2)) (fun w=>w.2.1) fun x y h1 h2=>by
 obtain ⟨a,b,c⟩:=x;obtain ⟨a',b',c'⟩:=y;simp at h1 h2;obtain ⟨h1,h3⟩:=h1;rw [h1,h2,h3]
theorem qJ {a b:W}:pY a b=0↔a.1=b.1∧a.2.2=b.2.2:=by unfold pY;rw [KP,zR1.eq,zR2.eq]
def GJ {α:Type}(c:α→α→Int) (w:α):List α→List α
 | []=>[w]
 | x::l=>if c w x≤0 then w::x::l else x::GJ c w l
def eN {α:Type}(c:α→α→Int):List α→List α
 | []=>[]
 | x::l=>GJ c x (eN c l)
theorem I7 {α:Type}(c:α→α→Int) (w:α):∀ l,(GJ c w l).Perm (w::l)
 | []=>.refl _
 | x::l=>by
  unfold GJ;split
  ·exact .refl _
  ·exact ((I7 c w l).cons x).trans (.swap _ _ _)
theorem dW {α:Type}(c:α→α→Int):∀ l,(eN c l).Perm l
 | []=>.refl _
 | x::l=>(I7 c x _).trans ((dW c l).cons x)
theorem WC {α:Type}{c:α→α→Int}(h:JQ c) (w:α):∀ {l:List α},l.Pairwise (fun a b=>c a b≤0)→(GJ c w l).Pairwise (fun a b=>c a b≤0)
 | [],_=>mO _ _
 | x::l,hl=>by
  rw [fJ] at hl;unfold GJ;split
  ·rename_i hw;rw [fJ,fJ];refine ⟨fun y hy=>?_,hl⟩
   rcases bQ.1 hy with rfl | hy
   ·exact hw
   ·exact h.le_tr hw (hl.1 y hy)
  ·rename_i hw;rw [fJ];refine ⟨fun y hy=>?_,WC h w hl.2⟩
   rcases bQ.1 ((I7 c w l).mem_iff.1 hy) with rfl | hy
   ·have:=h.neg x y;omega
   ·exact hl.1 y hy
theorem lZ {α:Type}{c:α→α→Int}(h:JQ c):∀ l,(eN c l).Pairwise (fun a b=>c a b≤0)
 | []=>.nil
 | x::l=>WC h x (lZ h l)
theorem M4 {α:Type}{c:α→α→Int}(h:JQ c){l m:List α}(hp:m.Perm l) (hm:m.Pairwise (fun a b=>c a b≤0)):m=eN c l:=
 List.Perm.eq_of_pairwise (le:=fun a b=>c a b≤0) (fun a b _ _ h1 h2=>(h.eq a b).1 (by have:=h.neg a b;omega)) hm (lZ h l) (hp.trans (dW c l).symm)
def lF {α:Type}(e:α→α→Bool) (p:α):List α→List α
 | []=>[]
 | y::l=>if e y p then lF e y l else y::lF e y l
def F7 {α:Type}(e:α→α→Bool):List α→List α
 | []=>[]
 | x::l=>x::lF e x l
def L8 (a b:W):Bool:=decide (pY a b=0)
def gX (l:List W):List W:=F7 L8 (eN eY l)
structure Cx where
 m:Int
 st:Int
 er:Int
 sl:Int
 ks:List KD
 ls:List LT
 bs:List BX
structure Ev where
 k:Int
 a:Int
 b:Int
 n:Int
 ids:List Int
def gP (w:W) (i:Nat):Int:=w.1.getD i 0
def gC (w:W) (i:Nat):SP:=w.2.2.getD i (0,0)
def sC (w:W) (i:Nat) (r:SP):W:=(w.1,w.2.1,w.2.2.set i r)
def T3 (f t:Int):SP × Bool:=((LN f t,cutT f t),F6 f t)
def IY (a b c d:Int):Bool:=decide (0≤a∧a≤1099511627776∧0≤b∧b≤1099511627776∧0≤c∧c≤1099511627776∧0≤d∧d≤1099511627776)
def zD3 (t u w e:Int):SP × Bool:=if IY t u w e=true then (if w+e-t<0∨u=0∧0<w-e-t then ((0,0),false) else if u=0 then ((0,20001),true) else T3 (yV2 t u w e) (yV1 t u w e)) else ((0,0),false)
def xH (t u w e:Int) (r:SP):SP × Bool:=let q:=zD3 t u w e;if q.2 then T3 (max r.1 q.1.1) (min r.2 q.1.2) else q
def E5 (r:SP) (n s:Int):SP × Bool:=if 0≤n∧n≤1099511627776∧0≤s∧s≤1099511627776 then T3 (r.1-n-s) (r.2-max (n-s) 0) else ((0,0),false)
def kV (c:Cx) (w:W) (i:Nat) (s:Ev):W × Bool:=
 if s.k=0 then (if gP w i∈s.ids then (w,decide ((s.ids.length:Int)-1≤c.st)) else ((w.1,w.2.1+1,w.2.2),decide ((s.ids.length:Int)≤c.st)))
 else if s.k=1 then
  let b:=c.bs.getD (gP w i).toNat (0,0,0)
  let q:=xH b.2.2 (sI c.ks c.ls b.1) s.n c.er (gC w i)
  (sC w i q.1,q.2)
 else if s.k=2 then let q:=E5 (gC w i) s.n c.sl;(sC w i q.1,q.2)
 else if s.k=3 then (sC w i (s.n,s.n+1),yU (gC w i).1 (gC w i).2 s.n)
 else if s.k=5 then (w,decide (gP w i=s.n))
 else (w,true)
def qC (w:W) (i k:Nat):W:=((w.1.set i (gP w k)).set k (gP w i),w.2.1,(w.2.2.set i (gC w k)).set k (gC w i))
def qB (l:List G) (b:Int):Int:=match l.findIdx? fun g=>decide (b∈g.1) with
 | some i=>i
 | none=>-1
def L6 (a b:G) (x y:W) (l:List Int):W:=(l.map (fun k=>if k∈a.1 then gP x (a.1.idxOf k) else gP y (b.1.idxOf k)),x.2.1+y.2.1,l.map (fun k=>if k∈a.1 then gC x (a.1.idxOf k) else gC y (b.1.idxOf k)))
def qQ (a b:G) (l:List Int):List W:=a.2.flatMap fun x=>b.2.map fun y=>L6 a b x y l
def mJ (l:List G) (i:Nat):G:=l.getD i ([],[])
def nG (x y:G):G:=let bodies:=eN cI (x.1++y.1);(bodies,qQ x y bodies)
def join (l:List G) (a b:Int):Option (List G):=
 let i:=qB l a;let k:=qB l b
 if i=k then some l else
 let x:=mJ l i.toNat;let y:=mJ l k.toNat
 if 6<x.1.length+y.1.length∨1000<x.2.length*y.2.length then none else
 some ((l.set (min i k).toNat (nG x y)).eraseIdx (max i k).toNat)
def gW (g:G):Int:=match g.2 with
 | []=>0
 | w::l=>l.foldl (fun m x=>if x.2.1<m then x.2.1 else m) w.2.1
def E1 (g:G) (i:Nat):Bool:=match g.2 with
 | []=>false
 | f::l=>(f::l).all fun w=>decide (gP w i=gP f i∧gC w i=gC f i)
def iS (g:G):Option Nat:=if g.1.length<2∨g.2=[] then none else (List.range g.1.length).find? (E1 g)
def iV (g:G):W:=g.2.headD ([],0,[])
def oG (g:G) (k:Nat):G:=([g.1.getD k 0],[([gP (iV g) k],0,[gC (iV g) k])])
def kG (g:G) (k:Nat):G:=(g.1.eraseIdx k,gX (g.2.map fun w=>(w.1.eraseIdx k,w.2.1,w.2.2.eraseIdx k)))
def mA:Nat→G→List G
 | 0,g=>[g]
 | n+1,g=>match iS g with
  | none=>[g]
  | some k=>oG g k::mA n (kG g k)
def cG (a b:G):Int:=cI (a.1.headD 0) (b.1.headD 0)
def sK (l:List G):List G:=eN cG (l.flatMap fun g=>mA g.1.length g)
def kL (l:List G):Int:=(l.map gW).sum
def paid (c:Cx) (all:List G):List G:=all.map fun g=>(g.1,g.2.filter fun w=>decide (w.2.1+(kL all-gW g)≤c.m))
def xI (c:Cx) (all:List G):List G:=sK (paid c all)
def mY (c:Cx) (s:Ev) (g:G):List W:=
 let i:=g.1.idxOf s.a
 g.2.flatMap fun w=>(if (kV c w i s).2 then [(kV c w i s).1] else [])++(if s.k=4 then [qC w i (g.1.idxOf s.b)] else [])
def yI4 (l:List Int) (n:Int):Bool:=(List.range l.length).all fun i=>decide (0≤l.getD i 0∧l.getD i 0≤n-1∧(0<i→l.getD (i-1) 0<l.getD i 0))
def iP (n:Int) (s:Ev):Bool:=decide (0≤s.a∧s.a≤n-1)&&decide (s.k=0∨s.ids.length=0)&&decide (s.k=4∨s.b=0) &&
 (if s.k=0 then decide (s.n=0)&&yI4 s.ids n else if s.k=1∨s.k=2∨s.k=3 then decide (0≤s.n∧s.n≤1099511627776) else if s.k=4 then decide (s.n=0∧s.a+1≤s.b∧s.b≤n-1) else if s.k=5 then decide (0≤s.n∧s.n≤n-1) else false)
def tI (c:Cx) (l all:List G) (s:Ev):Int × List G:=
 let at_:=(qB all s.a).toNat
 let g:=mJ all at_
 let ws:=gX (mY c s g)
 if ws=[] then (26,l) else if 1000<ws.length then (6,l) else
 let out:=xI c (all.set at_ (g.1,ws))
 if out.any (fun g=>g.2.isEmpty) then (26,l) else (0,out)
def fI (c:Cx) (l:List G) (s:Ev):Int × List G:=
 if iP c.bs.length s then
  (if s.k=4 then (match join l s.a s.b with
   | none=>(6,l)
   | some all=>tI c l all s)
  else tI c l l s)
 else (1,l)
def rU (c:Cx):List G:=(List.range c.bs.length).map fun (i:Nat)=>([(i:Int)],[([(i:Int)],0,[((c.bs.getD i (0,0,0)).2.1,(c.bs.getD i (0,0,0)).2.1+1)])])
theorem yA6 {a b d:W}(h1:pY a b<0) (h2:pY b d<0):pY a d<0:=OS.tr (a.1,a.2.2) (b.1,b.2.2) (d.1,d.2.2) h1 h2
theorem TA {a b d:W}(h:pY b a=0):pY a d=pY b d:=by
 obtain ⟨h1,h2⟩:=qJ.1 h;unfold pY;rw [h1,h2]
theorem WP {a b:W}(h:eY a b≤0):pY a b<0∨pY a b=0∧a.2.1≤b.2.1:=by
 unfold eY AJ at h;split at h
 ·rename_i e;refine .inr ⟨e,?_⟩;unfold cI at h;split at h <;> (try split at h) <;> omega
 ·omega
theorem A6 {α:Type}(e:α→α→Bool):∀ (p:α) (l:List α),(lF e p l).Sublist l
 | _,[]=>.slnil
 | p,y::l=>by
  unfold lF;split
  ·exact (A6 e y l).cons _
  ·exact (A6 e y l).cons_cons _
theorem JC {α:Type}(e:α→α→Bool):∀ (l:List α),(F7 e l).Sublist l
 | []=>.slnil
 | x::l=>(A6 e x l).cons_cons _
theorem rC {l:List W}{w:W}(h:w∈gX l):w∈l:=(dW eY l).mem_iff.1 ((JC _ _).mem h)
theorem tK (l:List W):(gX l).length≤l.length:=by
 have:=(JC L8 (eN eY l)).length_le;rw [(dW eY l).length_eq] at this;exact this
theorem xP:∀ (l:List W) (q p:W),(p::l).Pairwise (fun a b=>eY a b≤0)→pY q p=0→q.2.1≤p.2.1→∀ w,w∈p::l→∃ v,v∈q::lF L8 p l∧pY v w=0∧v.2.1≤w.2.1
 | [],q,p,hs,h1,h2,w,hw=>by
  rcases bQ.1 hw with rfl | hw
  ·exact ⟨q,aR,h1,h2⟩
  ·cases hw
 | y::l,q,p,hs,h1,h2,w,hw=>by
  have hs':=fJ.1 hs;rcases bQ.1 hw with rfl | hw
  ·exact ⟨q,aR,h1,h2⟩
  ·unfold lF;by_cases e:L8 y p=true
   ·rw [if_pos e];have e':pY y p=0:=by unfold L8 at e;simpa using e
    have hpy:pY p y=0:=by obtain ⟨a,b⟩:=qJ.1 e';exact qJ.2 ⟨a.symm,b.symm⟩
    rcases WP (hs'.1 y aR) with hl | ⟨_,hl⟩
    ·omega
    ·refine xP l q y hs'.2 ?_ (by omega) w hw
     obtain ⟨a,b⟩:=qJ.1 h1;obtain ⟨a',b'⟩:=qJ.1 hpy;exact qJ.2 ⟨a.trans a',b.trans b'⟩
   ·rw [if_neg e];obtain ⟨v,hv,h3,h4⟩:=xP l y y hs'.2 (qJ.2 ⟨rfl,rfl⟩) (eW _) w hw;exact ⟨v,aH _ hv,h3,h4⟩
theorem zN {l:List W}{w:W}(h:w∈l):∃ v,v∈gX l∧v.1=w.1∧v.2.2=w.2.2∧v.2.1≤w.2.1:=by
 have hs:=lZ jT l;have hw:=(dW eY l).mem_iff.2 h;unfold gX;generalize eN eY l=m at *;cases m with
 | nil=>cases hw
 | cons x m=>
  obtain ⟨v,hv,h1,h2⟩:=xP m x x hs (qJ.2 ⟨rfl,rfl⟩) (eW _) w hw;exact ⟨v,hv,(qJ.1 h1).1,(qJ.1 h1).2,h2⟩
theorem AX:∀ (l:List W) (p:W),(p::l).Pairwise (fun a b=>eY a b≤0)→(∀ z,z∈lF L8 p l→pY p z<0)∧(lF L8 p l).Pairwise (fun a b=>pY a b<0)
 | [],p,_=>⟨fun z hz=>(by cases hz),.nil⟩
 | y::l,p,hs=>by
  have hs':=fJ.1 hs;obtain ⟨h1,h2⟩:=AX l y hs'.2;unfold lF;by_cases e:L8 y p=true
  ·rw [if_pos e];have e':pY y p=0:=by unfold L8 at e;simpa using e
   exact ⟨fun z hz=>by rw [TA e'];exact h1 z hz,h2⟩
  ·rw [if_neg e];have e':pY p y<0:=by
    rcases WP (hs'.1 y aR) with hl | ⟨hl,_⟩
    ·exact hl
    ·exfalso;apply e;unfold L8;obtain ⟨a,b⟩:=qJ.1 hl;simp [qJ.2 ⟨a.symm,b.symm⟩]
   refine ⟨fun z hz=>?_,fJ.2 ⟨h1,h2⟩⟩
   rcases bQ.1 hz with rfl | hz
   ·exact e'
   ·exact yA6 e' (h1 z hz)
theorem DY (l:List W):(gX l).Pairwise (fun a b=>pY a b<0):=by
 have hs:=lZ jT l;unfold gX;generalize eN eY l=m at *;cases m with
 | nil=>exact .nil
 | cons x m=>exact fJ.2 (AX m x hs)
theorem AI {l:List W}:gX l=[]↔l=[]:=by
 constructor
 ·intro h;cases l with
  | nil=>rfl
  | cons x l=>obtain ⟨v,hv,_⟩:=zN (l:=x::l) (w:=x) aR;rw [h] at hv;cases hv
 ·rintro rfl;rfl
abbrev As:=Int→Int × SP
def pM (bs:List Int) (w:W) (f:As):Prop:=w.1=bs.map (fun b=>(f b).1)∧w.2.2=bs.map (fun b=>(f b).2)
def O4 (g:G) (f:As) (m:Int):Prop:=∃ w,w∈g.2∧pM g.1 w f∧w.2.1≤m
def Sem:List G→As→Int→Prop
 | [],_,M=>0≤M
 | g::gs,f,M=>∃ m,O4 g f m∧Sem gs f (M-m)
theorem O4.mono {g:G}{f:As}{m m':Int}(h:O4 g f m) (hm:m≤m'):O4 g f m':=by
 obtain ⟨w,h1,h2,h3⟩:=h;exact ⟨w,h1,h2,by omega⟩
theorem Sem.mono:∀ {gs:List G}{f:As}{M M':Int},Sem gs f M→M≤M'→Sem gs f M'
 | [],f,M,M',h,hm=>by unfold Sem at *;omega
 | g::gs,f,M,M',⟨m,h1,h2⟩,hm=>⟨m,h1,h2.mono (by omega)⟩
theorem VF {g:G}{f:As}{M:Int}:Sem [g] f M↔O4 g f M:=by
 constructor
 ·rintro ⟨m,h1,h2⟩;unfold Sem at h2;exact h1.mono (by omega)
 ·intro h;exact ⟨M,h,by unfold Sem;omega⟩
theorem KF:∀ (a b:List G) (f:As) (M:Int),Sem (a++b) f M↔∃ m,Sem a f m∧Sem b f (M-m)
 | [],b,f,M=>by
  constructor
  ·intro h;exact ⟨0,by unfold Sem;omega,by rw [O5];exact h⟩
  ·rintro ⟨m,h1,h2⟩;unfold Sem at h1;exact h2.mono (by omega)
 | g::a,b,f,M=>by
  simp only [List.cons_append,Sem];constructor
  ·rintro ⟨m,h1,h2⟩;obtain ⟨m',h3,h4⟩:=(KF a b f _).1 h2;exact ⟨m+m',⟨m,h1,h3.mono (by omega)⟩,h4.mono (by omega)⟩
  ·rintro ⟨m,⟨m',h1,h2⟩,h3⟩;exact ⟨m',h1,(KF a b f _).2 ⟨m-m',h2,h3.mono (by omega)⟩⟩
theorem pU {a b:List G}(h:a.Perm b):∀ {f:As}{M:Int},Sem a f M↔Sem b f M:=by
 induction h with
 | nil=>intro f M;exact Iff.rfl
 | cons x _ ih=>intro f M;simp only [Sem,ih]
 | swap x y l=>
  intro f M;simp only [Sem];constructor
  ·rintro ⟨m,h1,m',h2,h3⟩;exact ⟨m',h2,m,h1,h3.mono (by omega)⟩
  ·rintro ⟨m,h1,m',h2,h3⟩;exact ⟨m',h2,m,h1,h3.mono (by omega)⟩
 | trans _ _ ih1 ih2=>intro f M;rw [ih1,ih2]
theorem NV {F:G→List G}{f:As}:∀ {gs:List G},(∀ g,g∈gs→∀ M,Sem (F g) f M↔O4 g f M)→∀ {M:Int},Sem (gs.flatMap F) f M↔Sem gs f M
 | [],_,M=>Iff.rfl
 | g::gs,h,M=>by
  rw [bP,KF];simp only [Sem,NV (fun g hg=>h g (aH _ hg)),h g aR]
theorem AK {bs:List Int}{l:List W}{f:As}{m:Int}:O4 (bs,gX l) f m↔O4 (bs,l) f m:=by
 constructor
 ·rintro ⟨w,h1,h2,h3⟩;exact ⟨w,rC h1,h2,h3⟩
 ·rintro ⟨w,h1,h2,h3⟩;obtain ⟨v,hv,a,b,d⟩:=zN h1;exact ⟨v,hv,⟨a.trans h2.1,b.trans h2.2⟩,GQ d h3⟩
def SB (r:SP):Prop:=0≤r.1∧r.1<r.2∧r.2≤20001
structure JM (n k:Nat) (w:W):Prop where
 pl:w.1.length=k
 cl:w.2.2.length=k
 pr:∀ x,x∈w.1→0≤x∧x<n
 nd:w.1.Nodup
 m0:0≤w.2.1
 m1:w.2.1≤4000000
 sp:∀ r,r∈w.2.2→SB r
structure H2 (n:Nat) (g:G):Prop where
 ne:g.1≠[]
 up:g.1.Pairwise (· < ·)
 rg:∀ b,b∈g.1→0≤b∧b<n
 ln:g.1.length≤6
 ws:∀ w,w∈g.2→JM n g.1.length w
 same:∀ w v,w∈g.2→v∈g.2→w.1.Perm v.1
theorem H2.nd {n:Nat}{g:G}(h:H2 n g):g.1.Nodup:=h.up.imp (fun h=>by omega)
theorem Z1:∀ (l:List W) (a:Int),l.foldl (fun m x=>if x.2.1<m then x.2.1 else m) a≤a∧(∀ x,x∈l→l.foldl (fun m x=>if x.2.1<m then x.2.1 else m) a≤x.2.1)∧(l.foldl (fun m x=>if x.2.1<m then x.2.1 else m) a=a∨∃ x,x∈l∧l.foldl (fun m x=>if x.2.1<m then x.2.1 else m) a=x.2.1)
 | [],a=>⟨eW _,fun x hx=>(by cases hx),.inl rfl⟩
 | y::l,a=>by
  rw [K6];obtain ⟨h1,h2,h3⟩:=Z1 l (if y.2.1<a then y.2.1 else a)
  generalize l.foldl (fun m x=>if x.2.1<m then x.2.1 else m) (if y.2.1<a then y.2.1 else a)=q at *
  refine ⟨by split at h1 <;> omega,fun x hx=>?_,?_⟩
  ·rcases bQ.1 hx with rfl | hx
   ·split at h1 <;> omega
   ·exact h2 x hx
  ·rcases h3 with h3 | ⟨x,hx,h3⟩
   ·split at h3
    ·exact .inr ⟨y,aR,h3⟩
    ·exact .inl h3
   ·exact .inr ⟨x,aH _ hx,h3⟩
theorem vO {g:G}{w:W}(h:w∈g.2):gW g≤w.2.1:=by
 unfold gW;cases hg:g.2 with
 | nil=>rw [hg] at h;cases h
 | cons x l=>
  rw [hg] at h;obtain ⟨h1,h2,h3⟩:=Z1 l x.2.1;rcases bQ.1 h with rfl | h
  ·exact h1
  ·exact h2 _ h
theorem vA {g:G}(h:g.2≠[]):∃ w,w∈g.2∧w.2.1=gW g:=by
 unfold gW;cases hg:g.2 with
 | nil=>exact absurd hg h
 | cons x l=>
  obtain ⟨h1,h2,h3⟩:=Z1 l x.2.1;rcases h3 with h3 | ⟨y,hy,h3⟩
  ·exact ⟨x,aR,h3.symm⟩
  ·exact ⟨y,aH _ hy,h3.symm⟩
theorem YN {g:G}{f:As}{m:Int}(h:O4 g f m):gW g≤m:=by
 obtain ⟨w,h1,_,h3⟩:=h;exact GQ (vO h1) h3
theorem HE:∀ {gs:List G}{f:As}{M:Int},Sem gs f M→kL gs≤M
 | [],f,M,h=>by unfold Sem at h;simpa [kL] using h
 | g::gs,f,M,⟨m,h1,h2⟩=>by
  have:=YN h1;have:=HE h2;simp only [kL,List.map_cons,xE8] at *;omega
def yX0 (c:Cx) (S:Int) (all:List G):List G:=all.map fun g=>(g.1,g.2.filter fun w=>decide (w.2.1+(S-gW g)≤c.m))
theorem W4 {c:Cx}{S:Int}:∀ {gs:List G}{f:As}{M:Int},M+(S-kL gs)≤c.m→(Sem (yX0 c S gs) f M↔Sem gs f M)
 | [],f,M,h=>Iff.rfl
 | g::gs,f,M,h=>by
  have e:kL (g::gs)=gW g+kL gs:=by simp [kL]
  constructor
  ·rintro ⟨m,⟨w,h1,h2,h3⟩,h4⟩;have h1':=(dX.1 h1).1;have:=vO h1';exact ⟨m,⟨w,h1',h2,h3⟩,(W4 (by omega)).1 h4⟩
  ·rintro ⟨m,⟨w,h1,h2,h3⟩,h4⟩;have:=vO h1;have:=HE h4;refine ⟨m,⟨w,?_,h2,h3⟩,(W4 (by omega)).2 h4⟩
   rw [dX];refine ⟨h1,?_⟩;simp only [decide_eq_true_eq];omega
theorem zG5 {c:Cx}{gs:List G}{f:As}{M:Int}(h:M≤c.m):Sem (paid c gs) f M↔Sem gs f M:=W4 (S:=kL gs) (by omega)
theorem ET {bs:List Int}{w:W}{f:As}(h:pM bs w f){i:Nat}(hi:i<bs.length):gP w i=(f bs[i]).1:=by
 unfold gP;rw [h.1];simp [List.getD,hi]
theorem EU {bs:List Int}{w:W}{f:As}(h:pM bs w f){i:Nat}(hi:i<bs.length):gC w i=(f bs[i]).2:=by
 unfold gC;rw [h.2];simp [List.getD,hi]
theorem yJ {α β:Type}(f:α→β):∀ (l:List α) (k:Nat),(l.map f).eraseIdx k=(l.eraseIdx k).map f
 | [],_=>rfl
 | x::l,0=>rfl
 | x::l,k+1=>by simp [yJ f l k]
def yG4 (k:Nat) (w:W):W:=(w.1.eraseIdx k,w.2.1,w.2.2.eraseIdx k)
theorem zZ {α:Type}:∀ {k:Nat}{a b:List α}(x:α),a.length=b.length→a.getD k x=b.getD k x→a.eraseIdx k=b.eraseIdx k→a=b
 | _,[],[],_,_,_,_=>rfl
 | _,[],_::_,_,h,_,_=>by simp at h
 | _,_::_,[],_,h,_,_=>by simp at h
 | 0,y::a,z::b,x,h,h1,h2=>by
  simp at h1 h2;rw [h1,h2]
 | k+1,y::a,z::b,x,h,h1,h2=>by
  simp at h h1 h2;rw [h2.1,zZ x h (by simpa using h1) h2.2]
theorem EX {bs:List Int}{w:W}{f:As}{k:Nat}(hk:k<bs.length) (h1:w.1.length=bs.length) (h2:w.2.2.length=bs.length) :
  pM bs w f↔pM (bs.eraseIdx k) (yG4 k w) f∧gP w k=(f (bs.getD k 0)).1∧gC w k=(f (bs.getD k 0)).2:=by
 have hb:bs.getD k 0=bs[k]:=by simp [List.getD,hk]
 constructor
 ·intro h;refine ⟨⟨?_,?_⟩,?_,?_⟩
  ·show w.1.eraseIdx k=_;rw [h.1,yJ]
  ·show w.2.2.eraseIdx k=_;rw [h.2,yJ]
  ·rw [hb];exact ET h hk
  ·rw [hb];exact EU h hk
 ·rintro ⟨h,h3,h4⟩;rw [hb] at h3 h4;constructor
  ·refine zZ (k:=k) 0 (by simp [h1]) ?_ (by rw [yJ];exact h.1)
   rw [show w.1.getD k 0=gP w k from rfl,h3];simp [List.getD,hk]
  ·refine zZ (k:=k) (0,0) (by simp [h2]) ?_ (by rw [yJ];exact h.2)
   rw [show w.2.2.getD k (0,0)=gC w k from rfl,h4];simp [List.getD,hk]
theorem SO {g:G}{i:Nat}(hne:g.2≠[]):E1 g i=true↔∀ w,w∈g.2→gP w i=gP (iV g) i∧gC w i=gC (iV g) i:=by
 unfold E1 iV;cases hg:g.2 with
 | nil=>exact absurd hg hne
 | cons f l=>simp
theorem kO {g:G}{k:Nat}(h:iS g=some k):2≤g.1.length∧g.2≠[]∧k<g.1.length∧∀ w,w∈g.2→gP w k=gP (iV g) k∧gC w k=gC (iV g) k:=by
 unfold iS at h;split at h
 ·cases h
 ·rename_i hc;have hne:g.2≠[]:=fun e=>hc (.inr e)
  have h1:=List.find?_some h;have h2:=List.mem_of_find?_eq_some h;rw [fG] at h2;exact ⟨by omega,hne,h2,(SO hne).1 h1⟩
theorem jR {g:G}(h:g.2≠[]):iV g∈g.2:=by
 unfold iV;cases hg:g.2 with
 | nil=>exact absurd hg h
 | cons f l=>simp
theorem OV {g:G}{k:Nat}{f:As}{m:Int}:O4 (oG g k) f m↔gP (iV g) k=(f (g.1.getD k 0)).1∧gC (iV g) k=(f (g.1.getD k 0)).2∧0≤m:=by
 unfold O4 oG;constructor
 ·rintro ⟨w,h1,h2,h3⟩;simp at h1;subst h1;obtain ⟨h4,h5⟩:=h2;simp at h4 h5;exact ⟨h4,h5,h3⟩
 ·rintro ⟨h1,h2,h3⟩;exact ⟨_,bE.2 rfl,⟨by simp [h1],by simp [h2]⟩,h3⟩
theorem YM {n:Nat}{g:G}(ok:H2 n g){k:Nat}(hc:iS g=some k){f:As}{M:Int}:(∃ m,O4 (oG g k) f m∧O4 (kG g k) f (M-m))↔O4 g f M:=by
 obtain ⟨h1,hne,hk,hs⟩:=kO hc;have hr:∀ M,O4 (kG g k) f M↔∃ w,w∈g.2∧pM (g.1.eraseIdx k) (yG4 k w) f∧w.2.1≤M:=by
  intro M;unfold kG;rw [AK];unfold O4;constructor
  ·rintro ⟨v,hv,a,b⟩;obtain ⟨w,hw,rfl⟩:=bD.1 hv;exact ⟨w,hw,a,b⟩
  ·rintro ⟨w,hw,a,b⟩;exact ⟨yG4 k w,bD.2 ⟨w,hw,rfl⟩,a,b⟩
 constructor
 ·rintro ⟨m,h2,h3⟩;obtain ⟨a,b,c⟩:=OV.1 h2;obtain ⟨w,hw,d,e⟩:=(hr _).1 h3;have:=ok.ws w hw;exact ⟨w,hw,(EX hk this.pl this.cl).2 ⟨d,by rw [(hs w hw).1];exact a,by rw [(hs w hw).2];exact b⟩,by omega⟩
 ·rintro ⟨w,hw,d,e⟩;have:=ok.ws w hw;obtain ⟨a,b,c⟩:=(EX hk this.pl this.cl).1 d;refine ⟨0,OV.2 ⟨by rw [← (hs w hw).1];exact b,by rw [← (hs w hw).2];exact c,eW _⟩,(hr _).2 ⟨w,hw,a,by omega⟩⟩
theorem xK {α:Type}{l:List α}{k:Nat}{x:α}(h:x∈l.eraseIdx k):x∈l:=(MP l k).mem h
theorem JM.erase {n k:Nat}{w:W}(h:JM n k w){i:Nat}(hi:i<k):JM n (k-1) (yG4 i w) where
 pl:=by show (w.1.eraseIdx i).length=_;rw [gM,h.pl,if_pos hi]
 cl:=by show (w.2.2.eraseIdx i).length=_;rw [gM,h.cl,if_pos hi]
 pr x hx:=h.pr x (xK hx)
 nd:=h.nd.sublist (MP _ _)
 m0:=h.m0
 m1:=h.m1
 sp r hr:=h.sp r (xK hr)
theorem kM {α:Type}:∀ (l:List α) (i:Nat) (x:α),i<l.length→(l.getD i x::l.eraseIdx i).Perm l
 | [],i,x,h=>by simp at h
 | y::l,0,x,h=>by simp
 | y::l,i+1,x,h=>by
  simp only [List.getD_cons_succ,List.eraseIdx_cons_succ];exact (List.Perm.swap _ _ _).trans ((kM l i x (by simpa using h)).cons y)
theorem JM.at {n k:Nat}{w:W}(h:JM n k w){i:Nat}(hi:i<k):0≤gP w i∧gP w i<n∧SB (gC w i):=by
 unfold gP gC;have h1:i<w.1.length:=by rw [h.pl];exact hi
 have h2:i<w.2.2.length:=by rw [h.cl];exact hi
 simp only [List.getD,aB h1,aB h2,nR];exact ⟨(h.pr _ (aO h1)).1,(h.pr _ (aO h1)).2,h.sp _ (aO h2)⟩
theorem H2.one {n:Nat}{g:G}(h:H2 n g){k:Nat}(hc:iS g=some k):H2 n (oG g k):=by
 obtain ⟨h1,hne,hk,hs⟩:=kO hc;have hf:=h.ws _ (jR hne);have ha:=hf.at hk;refine ⟨by simp [oG],by simp [oG],?_,by simp [oG],?_,?_⟩
 ·intro b hb;simp only [oG,bE] at hb;subst hb;simp only [List.getD,aB hk,nR];exact h.rg _ (aO hk)
 ·intro w hw;simp only [oG,bE] at hw;subst hw;exact ⟨rfl,rfl,by intro x hx;simp at hx;subst hx;exact ⟨ha.1,ha.2.1⟩,by simp,by simp,by simp,by intro r hr;simp at hr;subst hr;exact ha.2.2⟩
 ·intro w v hw hv;simp only [oG,bE] at hw hv;subst hw;subst hv;exact .refl _
theorem H2.rest {n:Nat}{g:G}(h:H2 n g){k:Nat}(hc:iS g=some k):H2 n (kG g k):=by
 obtain ⟨h1,hne,hk,hs⟩:=kO hc;have hl:(g.1.eraseIdx k).length=g.1.length-1:=by rw [gM,if_pos hk]
 have hm:∀ w,w∈(kG g k).2→∃ v,v∈g.2∧w=yG4 k v:=by
  intro w hw;obtain ⟨v,hv,rfl⟩:=bD.1 (rC hw);exact ⟨v,hv,rfl⟩
 refine ⟨?_,h.up.sublist (MP _ _),fun b hb=>h.rg b (xK hb),?_,?_,?_⟩
 ·intro e;have:(g.1.eraseIdx k).length=0:=by rw [show g.1.eraseIdx k=[] from e];rfl
  omega
 ·show (g.1.eraseIdx k).length≤6;have:=h.ln;omega
 ·intro w hw;obtain ⟨v,hv,rfl⟩:=hm w hw;show JM n (g.1.eraseIdx k).length _;rw [hl];exact (h.ws v hv).erase hk
 ·intro w v hw hv;obtain ⟨w,hw',rfl⟩:=hm w hw;obtain ⟨v,hv',rfl⟩:=hm v hv;clear hw hv;have hw:=hw';have hv:=hv';have h3:=h.same w v hw hv;have e1:=kM w.1 k 0 (by rw [(h.ws w hw).pl];exact hk)
  have e2:=kM v.1 k 0 (by rw [(h.ws v hv).pl];exact hk)
  have e3:w.1.getD k 0=v.1.getD k 0:=((hs w hw).1).trans ((hs v hv).1).symm;rw [e3] at e1;exact (List.perm_cons _).1 (e1.trans (h3.trans e2.symm))
theorem KN {n:Nat}:∀ (m:Nat){g:G},H2 n g→∀ x,x∈mA m g→H2 n x
 | 0,g,h,x,hx=>by simp [mA] at hx;subst hx;exact h
 | m+1,g,h,x,hx=>by
  unfold mA at hx;split at hx
  ·simp at hx;subst hx;exact h
  ·rename_i k hc;rcases bQ.1 hx with rfl | hx
   ·exact h.one hc
   ·exact KN m (h.rest hc) x hx
theorem NU {n:Nat}{f:As}:∀ (m:Nat){g:G},H2 n g→∀ {M:Int},Sem (mA m g) f M↔O4 g f M
 | 0,g,h,M=>VF
 | m+1,g,h,M=>by
  unfold mA;split
  ·exact VF
  ·rename_i k hc;simp only [Sem,NU m (h.rest hc)];exact YM h hc
theorem XU {n:Nat}{f:As}{l:List G}(h:∀ g,g∈l→H2 n g){M:Int}:Sem (sK l) f M↔Sem l f M:=by
 unfold sK;rw [pU (dW _ _)];exact NV fun g hg M=>NU _ (h g hg)
theorem HQ {n:Nat}:∀ (m:Nat){g:G},H2 n g→g.1.length≤m→∀ x,x∈mA m g→iS x=none
 | 0,g,h,hl,x,hx=>by exact absurd (fH.1 (Nat.le_zero.1 hl)) h.ne
 | m+1,g,h,hl,x,hx=>by
  unfold mA at hx;split at hx
  ·rename_i hc;simp at hx;subst hx;exact hc
  ·rename_i k hc;obtain ⟨h1,hne,hk,hs⟩:=kO hc;rcases bQ.1 hx with rfl | hx
   ·simp [iS,oG]
   ·refine HQ m (h.rest hc) ?_ x hx;show (g.1.eraseIdx k).length≤m;rw [gM,if_pos hk];omega
theorem E7 {n:Nat}:∀ (m:Nat){g:G},H2 n g→((mA m g).flatMap (·.1)).Perm g.1
 | 0,g,h=>by simp [mA]
 | m+1,g,h=>by
  unfold mA;split
  ·simp
  ·rename_i k hc;obtain ⟨h1,hne,hk,hs⟩:=kO hc;rw [bP];exact (List.Perm.append_left _ (E7 m (h.rest hc))).trans (kM g.1 k 0 hk)
theorem yA3 {m:Nat}:∀ {g:G},g.2≠[]→∀ x,x∈mA m g→x.2≠[]:=by
 induction m with
 | zero=>intro g h x hx;simp [mA] at hx;subst hx;exact h
 | succ m ih=>
  intro g h x hx;unfold mA at hx;split at hx
  ·simp at hx;subst hx;exact h
  ·rename_i k hc;rcases bQ.1 hx with rfl | hx
   ·simp [oG]
   ·refine ih ?_ x hx;show gX _≠[];rw [Ne,AI,nB];exact h
theorem OP {g:G}(h:g.2=[]):∀ m,mA m g=[g]
 | 0=>rfl
 | m+1=>by unfold mA;rw [show iS g=none by unfold iS;rw [if_pos (.inr h)]]
theorem OQ {m:Nat}:∀ {g:G}{K:Nat},1≤K→g.2.length≤K→∀ x,x∈mA m g→x.2.length≤K:=by
 induction m with
 | zero=>intro g K _ h x hx;simp [mA] at hx;subst hx;exact h
 | succ m ih=>
  intro g K h1 h x hx;unfold mA at hx;split at hx
  ·simp at hx;subst hx;exact h
  ·rename_i k hc;rcases bQ.1 hx with rfl | hx
   ·simpa [oG] using h1
   ·refine ih h1 ?_ x hx;exact bL (tK _) (by rw [aU];exact h)
def upd (f:As) (a:Int) (x:Int × SP):As:=fun b=>if b=a then x else f b
def MS (f:As) (a b:Int):As:=fun x=>if x=a then f b else if x=b then f a else f x
def zF (c:Cx) (s:Ev) (x:Int × SP):(Int × SP) × Int × Bool:=
 if s.k=0 then (if x.1∈s.ids then (x,0,decide ((s.ids.length:Int)-1≤c.st)) else (x,1,decide ((s.ids.length:Int)≤c.st)))
 else if s.k=1 then
  let b:=c.bs.getD x.1.toNat (0,0,0)
  let q:=xH b.2.2 (sI c.ks c.ls b.1) s.n c.er x.2
  ((x.1,q.1),0,q.2)
 else if s.k=2 then let q:=E5 x.2 s.n c.sl;((x.1,q.1),0,q.2)
 else if s.k=3 then ((x.1,(s.n,s.n+1)),0,yU x.2.1 x.2.2 s.n)
 else if s.k=5 then (x,0,decide (x.1=s.n))
 else (x,0,true)
theorem NR {α:Type}{l:List α}{i:Nat}(x:α) (h:i<l.length):l.set i (l.getD i x)=l:=by
 simp [List.getD,h]
theorem J8 {c:Cx}{w:W}{i:Nat}{s:Ev}(h:i<w.2.2.length) :
  kV c w i s=((w.1,w.2.1+(zF c s (gP w i,gC w i)).2.1,w.2.2.set i (zF c s (gP w i,gC w i)).1.2),(zF c s (gP w i,gC w i)).2.2):=by
 have e:w.2.2.set i (gC w i)=w.2.2:=NR _ h;unfold kV zF;split
 ·split <;> simp [e]
 ·split
  ·simp [sC]
  ·split
   ·simp [sC]
   ·split
    ·simp [sC]
    ·split <;> simp [e]
theorem LV {c:Cx}{s:Ev}{x:Int × SP}:(zF c s x).1.1=x.1:=by
 unfold zF
 repeat' split
 all_goals rfl
def K3 (c:Cx) (s:Ev) (f f':As) (d:Int):Prop:=
 ((zF c s (f s.a)).2.2=true∧f'=upd f s.a (zF c s (f s.a)).1∧d=(zF c s (f s.a)).2.1)∨(s.k=4∧f'=MS f s.a s.b∧d=0)
theorem vS {bs:List Int}{w:W}{f:As}(h1:w.1.length=bs.length) (h2:w.2.2.length=bs.length) :
  pM bs w f↔∀ j (hj:j<bs.length),gP w j=(f bs[j]).1∧gC w j=(f bs[j]).2:=by
 constructor
 ·intro h j hj;exact ⟨ET h hj,EU h hj⟩
 ·intro h;constructor
  ·refine lP (by simp [h1]) fun j hj hj'=>?_
   have:=(h j (by omega)).1
   unfold gP at this;simp only [List.getD,aB hj,nR] at this;simp [this]
  ·refine lP (by simp [h2]) fun j hj hj'=>?_
   have:=(h j (by omega)).2
   unfold gC at this;simp only [List.getD,aB hj,nR] at this;simp [this]
theorem zU {bs:List Int}{a:Int}(ha:a∈bs):∃ h:bs.idxOf a<bs.length,bs[bs.idxOf a]=a:=by
 have h:=iE ha;exact ⟨h,List.getElem_idxOf h⟩
theorem EE {bs:List Int}(hn:bs.Nodup){i j:Nat}(hi:i<bs.length) (hj:j<bs.length) (h:bs[i]=bs[j]):i=j:=(yJ2 hn).1 h
theorem fU {α:Type}{l:List α}{i j:Nat}{x d:α}(hj:i<l.length):(l.set i x).getD j d=if j=i then x else l.getD j d:=by
 by_cases e:j=i
 ·subst e;simp [List.getD,hj]
 ·rw [if_neg e];simp [List.getD,iN (Ne.symm e)]
theorem zK2 {c:Cx}{n:Nat}{g:G}(ok:H2 n g){s:Ev}(ha:s.a∈g.1) (hb:s.k=4→s.b∈g.1∧s.a≠s.b){f':As}{M:Int} :
  O4 (g.1,gX (mY c s g)) f' M↔∃ f d,K3 c s f f' d∧O4 g f (M-d):=by
 rw [AK];obtain ⟨hi,hia⟩:=zU ha;have hnd:=ok.nd;constructor
 ·rintro ⟨v,hv,hf,hm⟩;unfold mY at hv;obtain ⟨w,hw,hv⟩:=gO.1 hv;have wo:=ok.ws w hw;have h1:=wo.pl;have h2:=wo.cl;rcases bH.1 hv with hv | hv
  ·split at hv
   ·rename_i hok;simp only [bE] at hv;subst hv;rw [J8 (by omega)] at hok hf hm
    simp only at hok hf hm;generalize hi':g.1.idxOf s.a=i at *;have hf':=(vS (w:=(w.1,w.2.1+(zF c s (gP w i,gC w i)).2.1,w.2.2.set i (zF c s (gP w i,gC w i)).1.2)) h1 (by simp [h2])).1 hf
    have ea:upd f' s.a (gP w i,gC w i) s.a=(gP w i,gC w i):=by unfold upd;rw [if_pos rfl]
    refine ⟨upd f' s.a (gP w i,gC w i),_,.inl ⟨by rw [ea];exact hok,?_,rfl⟩,w,hw,(vS h1 h2).2 fun j hj=>?_,by rw [ea];show w.2.1≤_;omega⟩
    ·rw [ea];funext b;unfold upd;by_cases e:b=s.a
     ·rw [if_pos e,e];obtain ⟨q1,q2⟩:=hf' i hi;rw [hia] at q1 q2;refine Prod.ext ?_ ?_
      ·rw [LV,← q1];rfl
      ·rw [← q2];unfold gC;rw [fU (by omega),if_pos rfl]
     ·rw [if_neg e,if_neg e]
    ·obtain ⟨q1,q2⟩:=hf' j hj;unfold upd;by_cases e:g.1[j]=s.a
     ·rw [if_pos e];have:j=i:=EE hnd hj hi (e.trans hia.symm);subst this;exact ⟨rfl,rfl⟩
     ·rw [if_neg e];refine ⟨by rw [← q1];rfl,?_⟩
      rw [← q2];unfold gC;rw [fU (by omega),if_neg]
      rintro rfl;exact e hia
   ·cases hv
  ·split at hv
   ·rename_i hk;simp only [bE] at hv;subst hv;obtain ⟨hbm,hab⟩:=hb hk;obtain ⟨hj,hjb⟩:=zU hbm;generalize hi':g.1.idxOf s.a=i at *;generalize hj':g.1.idxOf s.b=k at *;have hik:i≠k:=by rintro rfl;exact hab (hia.symm.trans hjb)
    have hf':=(vS (w:=qC w i k) (by simp [qC,h1]) (by simp [qC,h2])).1 hf
    refine ⟨MS f' s.a s.b,0,.inr ⟨hk,?_,rfl⟩,w,hw,(vS h1 h2).2 fun j hj0=>?_,by have:(qC w i k).2.1=w.2.1:=rfl;omega⟩
    ·funext x;unfold MS;by_cases e:x=s.a
     ·subst e;rw [if_pos rfl,if_neg (Ne.symm hab),if_pos rfl]
     ·by_cases e':x=s.b
      ·subst e';rw [if_neg e,if_pos rfl,if_pos rfl]
      ·rw [if_neg e,if_neg e',if_neg e,if_neg e']
    ·unfold MS;by_cases e:g.1[j]=s.a
     ·rw [if_pos e];have:j=i:=EE hnd hj0 hi (e.trans hia.symm);subst this;obtain ⟨q1,q2⟩:=hf' k hj;rw [hjb] at q1 q2;rw [← q1,← q2];constructor
      ·unfold gP qC;simp only;rw [fU (by simp;omega),if_pos rfl];rfl
      ·unfold gC qC;simp only;rw [fU (by simp;omega),if_pos rfl];rfl
     ·rw [if_neg e];by_cases e':g.1[j]=s.b
      ·rw [if_pos e'];have:j=k:=EE hnd hj0 hj (e'.trans hjb.symm);subst this;obtain ⟨q1,q2⟩:=hf' i hi;rw [hia] at q1 q2;rw [← q1,← q2];constructor
       ·unfold gP qC;simp only;rw [fU (by simp;omega),if_neg hik,fU (by omega),if_pos rfl];rfl
       ·unfold gC qC;simp only;rw [fU (by simp;omega),if_neg hik,fU (by omega),if_pos rfl];rfl
      ·rw [if_neg e'];have n1:j≠i:=by rintro rfl;exact e hia
       have n2:j≠k:=by rintro rfl;exact e' hjb
       obtain ⟨q1,q2⟩:=hf' j hj0;rw [← q1,← q2];constructor
       ·unfold gP qC;simp only;rw [fU (by simp;omega),if_neg n2,fU (by omega),if_neg n1]
       ·unfold gC qC;simp only;rw [fU (by simp;omega),if_neg n2,fU (by omega),if_neg n1]
   ·cases hv
 ·rintro ⟨f,d,hst,w,hw,hf,hm⟩;have wo:=ok.ws w hw;have h1:=wo.pl;have h2:=wo.cl;have hf':=(vS h1 h2).1 hf;have hxa:(gP w (g.1.idxOf s.a),gC w (g.1.idxOf s.a))=f s.a:=by
   obtain ⟨q1,q2⟩:=hf' _ hi;rw [hia] at q1 q2;exact Prod.ext q1 q2
  rcases hst with ⟨hok,rfl,rfl⟩ | ⟨hk,rfl,rfl⟩
  ·refine ⟨(kV c w (g.1.idxOf s.a) s).1,gO.2 ⟨w,hw,bH.2 (.inl ?_)⟩,?_,?_⟩
   ·rw [if_pos (by rw [J8 (by omega),hxa];exact hok)];exact bE.2 rfl
   ·rw [J8 (by omega),hxa]
    refine (vS (bs:=g.1) (w:=(w.1,w.2.1+(zF c s (f s.a)).2.1,w.2.2.set (g.1.idxOf s.a) (zF c s (f s.a)).1.2)) h1 (by simp [h2])).2 fun j hj=>?_
    obtain ⟨q1,q2⟩:=hf' j hj;unfold upd;by_cases e:g.1[j]=s.a
    ·rw [if_pos e];have:j=g.1.idxOf s.a:=EE hnd hj hi (e.trans hia.symm);refine ⟨?_,?_⟩
     ·rw [LV];show gP w j=_;rw [q1,e]
     ·unfold gC;simp only;rw [fU (by omega),if_pos this]
    ·rw [if_neg e];refine ⟨q1,?_⟩;unfold gC;simp only;rw [fU (by omega),if_neg (by rintro rfl;exact e hia)]
     exact q2
   ·rw [J8 (by omega),hxa];show w.2.1+_≤_;omega
  ·obtain ⟨hbm,hab⟩:=hb hk;obtain ⟨hj,hjb⟩:=zU hbm;have hxb:gP w (g.1.idxOf s.b)=(f s.b).1∧gC w (g.1.idxOf s.b)=(f s.b).2:=by
    obtain ⟨q1,q2⟩:=hf' _ hj;rw [hjb] at q1 q2;exact ⟨q1,q2⟩
   have hxa':gP w (g.1.idxOf s.a)=(f s.a).1∧gC w (g.1.idxOf s.a)=(f s.a).2:=by rw [← hxa];exact ⟨rfl,rfl⟩
   refine ⟨qC w (g.1.idxOf s.a) (g.1.idxOf s.b),gO.2 ⟨w,hw,bH.2 (.inr (by rw [if_pos hk];exact bE.2 rfl))⟩,?_,by show w.2.1≤M;omega⟩
   generalize hi':g.1.idxOf s.a=i at *;generalize hj':g.1.idxOf s.b=k at *;have hik:i≠k:=by rintro rfl;exact hab (hia.symm.trans hjb)
   refine (vS (by simp [qC,h1]) (by simp [qC,h2])).2 fun j hj0=>?_
   unfold MS;by_cases e:g.1[j]=s.a
   ·rw [if_pos e];have:j=i:=EE hnd hj0 hi (e.trans hia.symm);subst this;rw [← hxb.1,← hxb.2];constructor
    ·unfold gP qC;simp only;rw [fU (by simp;omega),if_neg hik,fU (by omega),if_pos rfl];rfl
    ·unfold gC qC;simp only;rw [fU (by simp;omega),if_neg hik,fU (by omega),if_pos rfl];rfl
   ·rw [if_neg e];by_cases e':g.1[j]=s.b
    ·rw [if_pos e'];have:j=k:=EE hnd hj0 hj (e'.trans hjb.symm);subst this;rw [← hxa'.1,← hxa'.2];constructor
     ·unfold gP qC;simp only;rw [fU (by simp;omega),if_pos rfl];rfl
     ·unfold gC qC;simp only;rw [fU (by simp;omega),if_pos rfl];rfl
    ·rw [if_neg e'];have n1:j≠i:=by rintro rfl;exact e hia
     have n2:j≠k:=by rintro rfl;exact e' hjb
     obtain ⟨q1,q2⟩:=hf' j hj0;rw [← q1,← q2];constructor
     ·unfold gP qC;simp only;rw [fU (by simp;omega),if_neg n2,fU (by omega),if_neg n1]
     ·unfold gC qC;simp only;rw [fU (by simp;omega),if_neg n2,fU (by omega),if_neg n1]
theorem X8 {g:G}{f f':As}{M:Int}(h:∀ b,b∈g.1→f b=f' b):O4 g f M↔O4 g f' M:=by
 unfold O4 pM;rw [kA (g:=fun b=>(f' b).1) (fun b hb=>by rw [h b hb]),kA (g:=fun b=>(f' b).2) (fun b hb=>by rw [h b hb])]
theorem uX {f f':As}:∀ {gs:List G}{M:Int},(∀ g,g∈gs→∀ b,b∈g.1→f b=f' b)→(Sem gs f M↔Sem gs f' M)
 | [],M,_=>Iff.rfl
 | g::gs,M,h=>by
  simp only [Sem,X8 (h g aR),uX (fun x hx=>h x (aH _ hx))]
end Go.Ld
