/-
  Texts of the logic and of the layer,in one module (part 7).
-/
import Derived.Test.YtmmmeebiobjnbaaGreatV6
set_option linter.unusedVariables false
set_option linter.unusedSimpArgs false
set_option linter.unnecessarySimpa false
namespace Go.Ld
open Go.Ab Go.Proofs.YtmmmeebiobjnbaaGreat
theorem yB2 : ∀ i : Nat,i < 3 → ([0,1,2] : List Nat)[i]? = some i := by decide
theorem YG {r : Int} {L : List AV} (h : AV.idfL L = true) : AV.idfL [AV.pr [.i r] 0,.pr [.pr L 0] 0] = true := by simp [AV.idfL,AV.idf,h]
theorem sS {h : Hp} {i : Nat} {θ : Nat → Nat} {cs : List AV} (hk : h[i]? = some (.cells cs)) (hi : AV.idfL cs = true) : h[i]? = some ((AB.cells cs).map θ) := by
  rw [hk];show _ = some (AB.cells (AV.mapL θ cs));rw [rS θ cs hi]
theorem EZ {h : Hp} (x : W) : nP h (.agg (wA x)) (.agg (wA x)) := .agg (.cons (.row _ _ _) (.cons (.v _) (.cons (.row _ _ _) .nil)))
end Go.Ld
namespace Go.Proofs.YtmmmeebiobjnbaaGreat
open Go Go.Ab Go.Ld
attribute [local irreducible] VC AW cF aS
set_option maxHeartbeats 4000000
theorem UD {F : FuncId} {r : Int} {L : List AV} {q : W → Bool} (l : List W) (hl : l.length ≤ 1000000) (hL : AV.idfL L = true) (hp : AV.plnL L = true) (hF : ∀ x,x ∈ l → aS Tryz.prog F [.agg (wA x),.pr [.i r] 0,.pr [.pr L 0] 0] [] (.b (q x)) []) :
    aS Tryz.prog 100 [.sl 0 0 l.length 3,.clo (.func F) [] [.pr [.i r] 0,.ptr 1 0]] [.arr (gE l) 3,.cells [.ptr 2 0],.cells L] (.sl 0 0 (gH q l).length 3) [.arr (gE (gH q l)) 3,.cells [.ptr 2 0],.cells L] := by
  have hll : (gE l).length = l.length := fF l;have hi : AV.idfL [AV.pr [.i r] 0,.pr [.pr L 0] 0] = true := YG hL;have hix := XX hl hi hF;have hvc : ∀ {X : AB} {Y : Hp},mB (X :: .cells [.ptr 2 0] :: .cells L :: Y) [AV.pr [.i r] 0,.ptr 1 0] [.pr [.i r] 0,.pr [.pr L 0] 0] := fun {X Y} => .cons (.pr _ _) (.cons (.ptr rfl (.cons (.ptr rfl (kV _ hp)) .nil)) .nil);have hvw : nP [.arr (gE l) 3,.cells [.ptr 2 0],.cells L] (.sl 0 0 l.length 3) (.rowE (gE l) 3) := nW rfl hll.symm (qD (fun _ => rfl) _);refine bW T Tryz.func100 rfl rfl rfl rfl ?_;rcases B9 q l 0 with ⟨h1,h2⟩ | ⟨j,hj,h1,h2,h3⟩
  · rw [h1] at hix;have hk : gH q l = l := oL.2 fun x hx => by rw [h2 x hx];rfl
    rw [hk]
    (repeat' (first|refine wS ?_|refine wR ?_|refine wT ?_|(refine rg 0 (aV ?_))|(refine rg 1 (dH rfl (vV (by exact fB rfl rfl hix (.cons hvw (.cons (.clo .nil hvc) .nil)) rfl rfl) ?_));refine aV ?_)|(refine rg 2 (mW rfl (vV (dX rfl rfl) ?_)))|(refine rg 3 (mW rfl (aV ?_)))|refine nZ ?_));all_goals first | (exfalso;omega) | exact ⟨.inl rfl,[0,1,2],_,rfl,rfl,rfl,⟨.inr (aC rfl rfl (bU _)),.inr rfl,.inr (sS rfl hL),trivial⟩,by decide,yB2⟩
  · rw [h1,Nat.zero_add] at hix;have hk0 : gH q (l.take (j + 1)) = l.take j := by
      rw [xD hj,if_pos h2];exact oL.2 fun x hx => by rw [h3 x hx];rfl
    have hkl : (gH q (l.take (j + 1))).length = j := by rw [hk0];simp;omega
    have hka : gH q (l.take (j + 1)) ++ l.drop (gH q (l.take (j + 1))).length = l := by rw [hkl,hk0,bP]
    have hkf : gH q l = gH q (l.take l.length) := by rw [dA]
    rw [hkf]
    (repeat' (first|refine wS ?_|refine wB ?_|refine wK ?_|refine wU ?_|(refine rg 0 (aV ?_))|(refine rg 1 (dH rfl (vV (by exact fB rfl rfl hix (.cons hvw (.cons (.clo .nil hvc) .nil)) rfl rfl) ?_));refine aV ?_)|(refine rg 2 (mW rfl (vV (dX rfl rfl) ?_)))|(refine iA 4 rfl rfl rfl (by omega) (by omega) ?_)|refine nZ ?_));all_goals try (exfalso;omega)
    refine dQ (X := {m : Nat // m ≤ l.length}) (fun m => [(0,.sl 0 0 l.length 3),(1,.clo (.func F) [] [.pr [.i r] 0,.ptr 1 0]),(5,.i (gH q (l.take m.1)).length),(6,.i m.1)]) (fun m => [.arr (gE (gH q (l.take m.1) ++ l.drop (gH q (l.take m.1)).length)) 3,.cells [.ptr 2 0],.cells L]) (fun m => l.length - m.1) ⟨j + 1,hj⟩ ⟨[0,1,2],rfl,⟨rfl,rfl,by dsimp only;rw [hkl];rfl,rfl,trivial⟩,⟨.inr (aC rfl (by dsimp only;rw [hka]) (bU _)),.inr rfl,.inr (sS rfl hL),trivial⟩,by decide,yB2⟩ ?_
    rintro ⟨m,hm⟩;dsimp only;have hle := KH q l m;by_cases hlt : m < l.length
    · have hs := xD (q := q) hlt;have hget := ON (G := gH q (l.take m)) (l := l) (m := m) (i := 0 + (m : Int).toNat) hle hlt (by omega)
      have hg2 := ON (G := gH q (l.take m)) (l := l) (m := (gH q (l.take m)).length) (i := 0 + (((gH q (l.take m)).length : Nat) : Int).toNat) (aX _) (by omega) (by omega)
      rw [oQ hlt] at hget;have hset := zS1 (G := gH q (l.take m)) (l := l) (x := l[m]) (j := (((gH q (l.take m)).length : Nat) : Int)) (by omega) rfl
      have hc := hF l[m] (aQ hlt);have hal := TG (G := gH q (l.take m)) (l := l) (by omega)
      generalize l[m] = x at *;generalize l.getD (gH q (l.take m)).length w0 = y at *;generalize hG : gH q (l.take m) = G at *;generalize hA : gE (G ++ l.drop G.length) = A at *;cases e : q x
      · rw [e] at hc hs;rw [if_neg (by simp)] at hs
        (repeat' (first|refine wS ?_|refine wB ?_|refine wK ?_|refine wT ?_|(refine wC rfl ?_ ?_<;>(intro hb;(try simp only [nm] at hb);try (exfalso;omega)))|(refine rg 5 (dH rfl (qW T rfl (vV (aM rfl rfl) ?_))))|(refine rg 7 (dH rfl (vV (by exact aK T rfl rfl rfl rfl rfl (by omega) (by omega)) ?_));refine vV (by exact aJ T rfl rfl (bM rfl hget) rfl) ?_;refine cD (cK T rfl) rfl (bA T rfl rfl rfl rfl rfl rfl (by decide) rfl ?_))|(refine rg 8 (mW rfl (vV (aJ T rfl rfl rfl rfl) (vV (by exact fB rfl rfl hc (.cons (EZ x) hvc) rfl rfl) ?_)));refine vV (dI rfl) ?_)|(refine rg 9 (dH rfl (vV (aJ T rfl rfl rfl rfl) (vV (by exact aK T rfl rfl rfl rfl rfl (by omega) (by omega)) ?_)));refine bA T rfl rfl rfl rfl rfl rfl (by decide) (lZ rfl hg2 rfl) ?_)|(refine iA 10 rfl rfl rfl (by omega) (by omega) ?_)|(refine iA 6 rfl rfl rfl (by omega) (by omega) ?_)|refine nZ ?_));all_goals try (exfalso;omega)
        all_goals exact ⟨⟨m + 1,hlt⟩,by dsimp only;omega,[0,1,2],rfl,⟨rfl,rfl,by rw [hs];simp only [aF];rfl,rfl,trivial⟩,⟨.inr (aC rfl (by rw [hs];exact hset) (bU _)),.inr rfl,.inr (sS rfl hL),trivial⟩,by decide,yB2⟩
      · rw [e] at hc hs;rw [if_pos rfl] at hs
        (repeat' (first|refine wS ?_|refine wB ?_|refine wK ?_|refine wU ?_|(refine wC rfl ?_ ?_<;>(intro hb;(try simp only [nm] at hb);try (exfalso;omega)))|(refine rg 5 (dH rfl (qW T rfl (vV (aM rfl rfl) ?_))))|(refine rg 7 (dH rfl (vV (by exact aK T rfl rfl rfl rfl rfl (by omega) (by omega)) ?_));refine vV (by exact aJ T rfl rfl (bM rfl hget) rfl) ?_;refine cD (cK T rfl) rfl (bA T rfl rfl rfl rfl rfl rfl (by decide) rfl ?_))|(refine rg 8 (mW rfl (vV (aJ T rfl rfl rfl rfl) (vV (by exact fB rfl rfl hc (.cons (EZ x) hvc) rfl rfl) ?_)));refine vV (dI rfl) ?_)|(refine iA 6 rfl rfl rfl (by omega) (by omega) ?_)|refine nZ ?_));all_goals try (exfalso;omega)
        all_goals exact ⟨⟨m + 1,hlt⟩,by dsimp only;omega,[0,1,2],rfl,⟨rfl,rfl,by rw [hs];rfl,rfl,trivial⟩,⟨.inr (aC rfl (by rw [hs];exact hA.symm) (bU _)),.inr rfl,.inr (sS rfl hL),trivial⟩,by decide,yB2⟩
    · obtain rfl : m = l.length := by omega
      have hal := TG (G := gH q (l.take l.length)) (l := l) (by omega)
      have htk := VN (G := gH q (l.take l.length)) (l := l);generalize gH q (l.take l.length) = G at *
      (repeat' (first|refine wS ?_|refine wR ?_|refine wE ?_|(refine wC rfl ?_ ?_<;>(intro hb;(try simp only [nm] at hb);try (exfalso;omega)))|(refine rg 5 (dH rfl (qW T rfl (vV (aM rfl rfl) ?_))))|(refine rg 11 (dH rfl (vV (by exact jM T rfl rfl rfl rfl rfl rfl (by omega) (by omega) (by omega)) ?_));refine M1 T rfl rfl rfl ⟨rfl,rfl,by decide⟩ rfl (by rw [hal];omega) ?_)|(refine rg 12 (dH rfl (vV (by exact jM T rfl rfl rfl rfl rfl rfl (by omega) (by omega) (by omega)) ?_));refine aV ?_)|refine nZ ?_));all_goals try (exfalso;omega)
      all_goals exact ⟨.inl rfl,[0,1,2],_,rfl,(by show AV.sl 0 0 ((G.length : Int) - 0).toNat 3 = AV.sl 0 0 G.length 3;rw [show ((G.length : Int) - 0).toNat = G.length by omega]),rfl,⟨.inr (aC rfl htk (bU _)),.inr rfl,.inr (sS rfl hL),trivial⟩,by decide,yB2⟩
end Go.Proofs.YtmmmeebiobjnbaaGreat
namespace Go.Ab
open Go
theorem OT {P : Program} {f : FuncId} {args : List AV} {hin hout : Hp} {es : List (List AV)} {len sz k : Nat} (hk : k = hout.length) (hn : len = es.length) (hi : AV.idfL es.flatten = true) (h : aS P f args hin (.sl k 0 len sz) (hout ++ [.arr es sz])) : aS P f args hin (.rowE es sz) (hout ++ [.gone]) := by
  refine ⟨h.1,fun ρ S w vs hs ha => (h.2 ρ S w vs hs ha).mono ?_⟩;rintro e w' ⟨y,ρ',S',rfl,h2,h3⟩;rw [hn] at h3;have hb : (hout ++ [AB.arr es sz])[k]? = some (.arr es sz) := by subst hk;simp
  have e : (hout ++ [AB.arr es sz]).set k .gone = hout ++ [.gone] := by subst hk;simp
  exact ⟨y,_,_,rfl,e ▸ h2.freeze (k := k) hb,uH hi (h2.blk k _ hb) h3⟩
theorem H3 (L : List Nat) : ∀ i : Nat,i < 1 → (0 :: L)[i]? = some i := fun i hi => by cases i with | zero => rfl | succ i => omega
end Go.Ab
namespace Go.Proofs.YtmmmeebiobjnbaaGreat
open Go Go.Ab Go.Ld
attribute [local irreducible] VC AW cF aS
set_option maxHeartbeats 4000000
theorem zE3 (c : Cx) (gs all : List G) {n : Nat} (ok : nQ n all) (up : LY all) (hne : ∀ g,g ∈ all → g.2 ≠ []) :
    aS Tryz.prog 65 [.ptr 0 0,.rowE (kE all) 2] [.cells (jT c gs)] (.rowE (kE (uQ c all)) 2) [.cells (jT c gs),.gone] := by
  have h12 : all.length ≤ 12 := bL ok.len ok.ln;have hal : (kE all).length = all.length := jK _;have hlb : ∀ g,g ∈ all → 0 ≤ gJ g ∧ gJ g ≤ 4000000 := fun g hg => DY (ok.ok g hg) (hne g hg);have hsb := FD hlb;refine OT (k := 1) (hout := [.cells (jT c gs)]) rfl (by rw [jK] : (uQ c all).length = (kE (uQ c all)).length) (fX (eH _)) ?_
  refine bW T Tryz.func65 rfl rfl rfl rfl ?_
  repeat' (first|refine wS ?_|(refine rg 0 (cD (cQ rfl rfl) rfl (aV ?_)))|(refine rg 1 (aV ?_))|refine nZ ?_)
  (repeat' (first|refine wB ?_|(refine rg 2 (mW rfl (qW T rfl (mV ?_))))|refine nZ ?_));refine dQ (X := {k : Nat // k ≤ all.length}) (fun k => [(1,.rowE (kE all) 2),(2,.ptr 1 0),(5,.i (jS (all.take k.1))),(16,.rowE (kE all) 2),(17,.i (kE all).length),(18,.i k.1)]) (fun _ => [.cells (jT c gs),.cells [.ptr 0 0]]) (fun k => all.length - k.1) ⟨0,cM _⟩ ⟨[0,1],rfl,(by repeat first|exact trivial|refine ⟨rfl,?_⟩),⟨.inr rfl,.inr rfl,trivial⟩,by decide,H3 _⟩ ?_
  rintro ⟨k,hk⟩;dsimp only;by_cases hlt : k < all.length
  · have hg := GB hlt;have hs := VT hlt;have hb := FD (l := all.take k) fun g hg => hlb g (eK hg);have hkl : (all.take k).length ≤ 12 := by rw [bG];omega
    have hl1 := hlb _ (aQ hlt);have hc := QD all[k] (hne _ (aQ hlt)) (by have := ok.ws _ (aQ hlt);omega)
    generalize all[k] = g at *;generalize jS (all.take k) = S at *;generalize gJ g = v at *
    (repeat' (first|refine wS ?_|refine wB ?_|refine wK ?_|(refine wC rfl ?_ ?_<;>(intro hb;(try simp only [nm] at hb);try (exfalso;omega)))|(refine rg 3 (vV (aM rfl rfl) ?_))|(refine rg 4 (vV (ix T rfl (by omega) (rB _) hg) (lW T rfl (cD (cK T rfl) rfl (bA T rfl rfl rfl rfl rfl rfl (by decide) rfl ?_)))))|(refine rg 5 (mW rfl (lW T rfl (vV (kC (hc)) (vV (cC rfl rfl (by omega) (by omega)) (aV ?_))))))|(refine rg 6 (vV (cC rfl rfl (by omega) (by omega)) (mV ?_)))|refine nZ ?_));all_goals first | (exfalso;omega) | exact ⟨⟨k + 1,hlt⟩,by dsimp only;omega,[0,1],rfl,⟨rfl,rfl,by dsimp only;rw [hs];rfl,rfl,rfl,rfl,trivial⟩,⟨.inr rfl,.inr rfl,trivial⟩,by decide,H3 _⟩
  obtain rfl : k = all.length := by omega
  rw [dA]
  (repeat' (first|refine wS ?_|refine wB ?_|refine wE ?_|(refine wC rfl ?_ ?_<;>(intro hb;(try simp only [nm] at hb);try (exfalso;omega)))|(refine rg 3 (vV (aM rfl rfl) ?_))|(refine rg 7 (vV (dJ rfl) (qC 8 2 rfl (by decide) ?_)))|(refine rg 8 (mW rfl (qW T rfl (mV ?_))))|refine nZ ?_));all_goals try (exfalso;omega)
  refine dQ (X := {k : Nat // k ≤ all.length}) (fun k => [(2,.ptr 1 0),(5,.i (jS all)),(8,.sl 2 0 k.1 2),(27,.rowE (kE all) 2),(28,.i (kE all).length),(29,.i k.1)]) (fun k => [.cells (jT c gs),.cells [.ptr 0 0],.arr (kE ((paid c all).take k.1)) 2]) (fun k => all.length - k.1) ⟨0,cM _⟩ ⟨[0,1,2],rfl,(by repeat first|exact trivial|refine ⟨rfl,?_⟩),⟨.inr rfl,.inr rfl,.inr rfl,trivial⟩,by decide,H3 _⟩ ?_
  clear hk hlt;rintro ⟨k,hk⟩;dsimp only;have hpl := XA c all;by_cases hlt : k < all.length
  · have hg := GB hlt;have hp := SS (c := c) hlt;have hl1 := hlb _ (aQ hlt);have hgo := ok.ok _ (aQ hlt);have hgw := ok.ws _ (aQ hlt);have hc := QD all[k] (hne _ (aQ hlt)) (by omega)
    have htl : ((paid c all).take k).length = k := by rw [bG];omega
    generalize (paid c all).take k = Q at *;generalize all[k] = g at *;obtain ⟨bs,ws⟩ := g;dsimp only at hgw hp;generalize hv : gJ (bs,ws) = v at *;generalize jS all = S at *;have hcl := LG ws (by omega)
    have hd := UD (r := S - v) (L := jT c gs) (q := fun w => decide (w.2.1 + (S - v) > c.m)) ws (by omega) rfl rfl (fun x hx => zE5 c gs x (S - v) ⟨(hgo.ws x hx).m0,(hgo.ws x hx).m1⟩ (by omega))
    generalize gH (fun w => decide (w.2.1 + (S - v) > c.m)) ws = ws' at *;have hQl : (kE Q).length = k := by rw [jK,htl]
    have hQ : kE (Q ++ [(bs,ws')]) = kE Q ++ [[.rowE (ints bs) 1,.rowE (gE ws') 3]] := by rw [kE,bY];rfl
    rw [← hp] at hQ;generalize kE Q = Q' at *
    (repeat' (first|refine wS ?_|refine wB ?_|refine wK ?_|(refine wC rfl ?_ ?_<;>(intro hb;(try simp only [nm] at hb);try (exfalso;omega)))|(refine rg 9 (vV (aM rfl rfl) ?_))|(refine rg 10 (vV (ix T rfl (by omega) (rB _) hg) (lW T rfl (cD (cK T rfl) rfl (bA T rfl rfl rfl rfl rfl rfl (by decide) rfl ?_)))))|(refine rg 11 (mW rfl (lW T rfl (vV (kC (hc)) (vV (cP rfl rfl (by omega) (by omega)) (cD (cK T rfl) rfl (bA T rfl rfl rfl rfl rfl rfl (by decide) rfl ?_)))))))|refine nZ ?_));all_goals try (exfalso;omega)
    refine gY 11 rfl rfl rfl ?_
    repeat' (first|(refine rg 12 (iB T rfl (cD (by exact fL rfl rfl hcl (.inr ⟨rfl,rfl,by simp⟩)) rfl ?_));refine vV (by exact kU rfl rfl) ?_;refine eP [5,1,0] rfl rfl (hd) rfl rfl (by decide) ⟨.inr (aC rfl (bE _ (bU _)) (bU _)),.inr rfl,.inr rfl,trivial⟩ (by simp) rfl ?_;refine mL (es := gE ws') 41 rfl (congrArg (fun x=>some (AB.arr x 3)) (bE _ (bU _))) (fF _).symm (fX (bU _)) ?_;refine fW T rfl (bA T rfl rfl rfl rfl rfl rfl (by decide) rfl ?_))|(refine rg 13 (mW rfl (lW T rfl (cD (by exact bD T rfl rfl (by decide) (by decide) rfl rfl rfl) rfl ?_)));refine fY T rfl rfl rfl rfl rfl rfl (by omega) (jJ.whole rfl rfl) rfl (by simp;omega) (by simp;omega) rfl ?_;refine aV ?_)|(refine rg 14 (vV (cC rfl rfl (by omega) (by omega)) (mV ?_)))|refine nZ ?_)
    show ∃ x',_;exact ⟨⟨k + 1,hlt⟩,by dsimp only;omega,⟨[0,1,7],rfl,(by repeat first|exact trivial|refine ⟨rfl,?_⟩),⟨.inr rfl,.inr rfl,.inr (aC rfl (by dsimp only;rw [hQ];exact jN hQl.symm) (eH _)),trivial⟩,by decide,H3 _⟩⟩
  obtain rfl : k = all.length := by omega
  rw [← hpl,dA,hpl];have pok := ok.paid c;have pst := pC.start pok (PC up (c := c));rw [← hpl];generalize hL : paid c all = L at *;rw [show uQ c all = qR L by rw [← hL];rfl]
  (repeat' (first|refine wS ?_|refine wB ?_|refine wE ?_|(refine wC rfl ?_ ?_<;>(intro hb;(try simp only [nm] at hb);try (exfalso;omega)))|(refine rg 9 (vV (aM rfl rfl) ?_))|(refine rg 15 (aV ?_))|refine nZ ?_));all_goals try (exfalso;omega)
  refine dQ (X := {q : List G × Nat // pC n L q.1 q.2}) (fun q => [(8,.sl 1 0 q.1.1.length 2),(12,.i q.1.2)]) (fun q => [.cells (jT c gs),.arr (kE q.1.1) 2]) (fun q => 100 * zO7 q.1.1 + (q.1.1.length - q.1.2)) ⟨(L,0),pst⟩ ⟨[0,2],rfl,(by repeat first|exact trivial|refine ⟨rfl,?_⟩),⟨.inr rfl,.inr (aC rfl rfl (eH _)),trivial⟩,by decide,H3 _⟩ ?_
  clear hsb hlb hne h12 hal pok up ok;rintro ⟨⟨o,i⟩,hq⟩;dsimp only at hq ⊢;have hol : (kE o).length = o.length := jK _;have ho12 : o.length ≤ 12 := bL hq.ok.len hq.ok.ln;have hio := hq.hi;by_cases hlt : i < o.length
  · have hgi : o[i]? = some o[i] := aB hlt;have hgm := aQ hlt;generalize o[i] = g at *;have hgo := hq.ok.ok g hgm;have hgw := hq.ok.ws g hgm;have hsz := hgo.sz hgw;have q1 := zK (L := o) (j := (i : Int)) (i := i) hgi rfl;have hcc := UH g hsz;cases hcr : iI g with
    | none =>
      have hk := hq.keep hgi hcr;rw [show zS g = -1 by unfold zS;rw [hcr]] at hcc
      (repeat' (first|refine wS ?_|refine wB ?_|refine wK ?_|refine wU ?_|(refine wC rfl ?_ ?_<;>(intro hb;(try simp only [nm] at hb);try (exfalso;omega)))|(refine rg 16 (dH rfl (qW T rfl (vV (aM rfl rfl) ?_))))|(refine rg 18 (dH rfl (vV (by exact aK T rfl rfl rfl rfl rfl (by omega) (by omega)) ?_));refine vV (by exact aJ T rfl rfl (bM rfl q1) rfl) ?_;refine vV (kC (hcc)) (aV ?_))|(refine rg 19 (mW rfl (vV (gO rfl rfl) ?_)))|(refine iA 17 rfl rfl rfl (by omega) (by omega) ?_)|refine nZ ?_));all_goals try (exfalso;omega)
      exact ⟨⟨(o,i + 1),hk⟩,by dsimp only;omega,⟨[0,1],rfl,(by repeat first|exact trivial|refine ⟨rfl,?_⟩),⟨.inr rfl,.inr (aC rfl rfl (eH _)),trivial⟩,by decide,H3 _⟩⟩
    | some k =>
      have hk := hq.next hgi hcr
      obtain ⟨f1,f2,f3,_⟩ := jW hcr;have hwg := XJ hgi hcr;have hno := PZ hq.ok hgi hcr;have hsp := zE9 g hsz f3 f1 f2 (by omega)
      have hll : (o.set i (jP g k) ++ [nD g k]).length = o.length + 1 := by simp
      have hso := zF1 (o.set i (jP g k) ++ [nD g k]) hno.dist (by have := hno.len;have := hno.ln;omega) hno.hd
      have hw2 : zO7 (DQ o i k g) = zO7 (o.set i (jP g k) ++ [nD g k]) := UZ (dK _ _);have hl2 : (DQ o i k g).length = o.length + 1 := by rw [DQ,(dK _ _).length_eq,hll]
      rw [show zS g = (k : Int) by unfold zS;rw [hcr]] at hcc
      have t1 := J1 (L := o) (j := (i : Int)) (i := i) (x := jP g k) rfl;have e1 : kE (o.set i (jP g k) ++ [nD g k]) = (kE o).set (0 + (i : Int).toNat) (gA (jP g k)) ++ [gA (nD g k)] := by rw [t1,kE,bY];rfl
      have e2 : ((kE o).set (0 + (i : Int).toNat) (gA (jP g k))).length = o.length := by rw [hC,hol]
      change aS _ _ _ _ _ [.arr (kE (DQ o i k g)) 2] at hso;rw [hll] at hso;generalize DQ o i k g = o' at *;generalize hN : o.set i (jP g k) ++ [nD g k] = N at *;generalize jP g k = r at *;generalize nD g k = u at *;obtain ⟨rb,rw_⟩ := r;obtain ⟨ub,uw⟩ := u
      (repeat' (first|refine wS ?_|refine wB ?_|refine wK ?_|refine wT ?_|(refine wC rfl ?_ ?_<;>(intro hb;(try simp only [nm] at hb);try (exfalso;omega)))|(refine rg 16 (dH rfl (qW T rfl (vV (aM rfl rfl) ?_))))|(refine rg 18 (dH rfl (vV (by exact aK T rfl rfl rfl rfl rfl (by omega) (by omega)) ?_));refine vV (by exact aJ T rfl rfl (bM rfl q1) rfl) ?_;refine vV (kC (hcc)) (aV ?_))|(refine rg 19 (mW rfl (vV (gO rfl rfl) ?_)))|(refine rg 20 (dH rfl (vV (by exact aK T rfl rfl rfl rfl rfl (by omega) (by omega)) ?_));refine vV (by exact aJ T rfl rfl (bM rfl q1) rfl) ?_;refine mW rfl (vV (kC (hsp)) (mW rfl (xW rfl (xW rfl (cD (cK T rfl) rfl (cD (cK T rfl) rfl (bA T rfl rfl rfl rfl rfl rfl (by decide) rfl (bA T rfl rfl rfl rfl rfl rfl (by decide) rfl ?_)))))))))|(refine rg 21 (dH rfl (vV (aJ T rfl rfl rfl rfl) (vV (by exact aK T rfl rfl rfl rfl rfl (by omega) (by omega)) ?_)));refine bA T rfl rfl rfl rfl rfl rfl (by decide) (lZ rfl q1 rfl) ?_)|(refine rg 22 (mW rfl (vV (aJ T rfl rfl rfl rfl) (cD (by exact bD T rfl rfl (by decide) (by decide) rfl rfl rfl) rfl ?_)));refine fY T rfl rfl rfl rfl rfl rfl (by simp) (jJ.whole rfl rfl) rfl (by simp;omega) (by simp;omega) rfl ?_;refine aV ?_)|refine nZ ?_));all_goals try (exfalso;omega)
      refine fC [(8,.sl 1 0 (o.length + 1) 2),(12,.i i)] [.cells (jT c gs),.arr (kE N) 2] ⟨[0,5],rfl,(by repeat first|exact trivial|refine ⟨rfl,?_⟩),⟨.inr rfl,.inr (aC rfl (by rw [e1];exact jN e2.symm) (eH _)),trivial⟩,by decide,H3 _⟩ ?_
      (repeat' (first|(refine rg 23 (mW rfl (eP [1] rfl rfl (hso) rfl rfl (by decide) ⟨.inr (aC rfl rfl (eH _)),trivial⟩ (by simp) rfl ?_)))|(refine rg 24 (aV ?_))|(refine iA 17 rfl rfl rfl (by omega) (by omega) ?_)|refine nZ ?_));all_goals try (exfalso;omega)
      exact ⟨⟨(o',0),hk⟩,by dsimp only;omega,⟨[0,1],rfl,⟨by dsimp only;rw [hl2];rfl,rfl,trivial⟩,⟨.inr rfl,.inr (aC rfl (bE _ (eH _)) (eH _)),trivial⟩,by decide,H3 _⟩⟩
  · have hfin := hq.fin (by omega)
    rw [hfin]
    (repeat' (first|refine wS ?_|refine wR ?_|refine wE ?_|(refine wC rfl ?_ ?_<;>(intro hb;(try simp only [nm] at hb);try (exfalso;omega)))|(refine rg 16 (dH rfl (qW T rfl (vV (aM rfl rfl) ?_))))|(refine rg 25 (mW rfl (aV ?_)))|refine nZ ?_));all_goals first | (exfalso;omega) | exact ⟨.inl rfl,[0,1],_,rfl,rfl,rfl,⟨.inr rfl,.inr (aC rfl rfl (eH _)),trivial⟩,by decide,H3 _⟩
end Go.Proofs.YtmmmeebiobjnbaaGreat
namespace Go.Ld
open Go.Ab Go.Proofs.YtmmmeebiobjnbaaGreat
structure nR (c : Cx) (M : Int) (gs : List G) : Prop where
  out : nQ c.bs.length gs
  up : LY gs
  ne : ∀ g,g ∈ gs → g.2 ≠ []
  ml : ∀ g,g ∈ gs → ∀ w,w ∈ g.2 → w.2.1 ≤ M
  cov : (gs.flatMap (·.1)).Perm (nats (List.range c.bs.length))
  idn : (gs.flatMap fun g => (iL g).1).Perm (nats (List.range c.bs.length))
  wl : ∀ g,g ∈ gs → g.2.length ≤ 1000
structure oY (c : Cx) (gs : List G) : Prop where
  mid : nR c c.m gs
  cer : ∀ g,g ∈ gs → iI g = none
  asc : ∀ g,g ∈ gs → g.2.Pairwise fun a b => oP a b < 0
theorem B3 (n : Nat) : (nats (List.range n)).Nodup := List.Pairwise.map (R := fun a b => a ≠ b) _ (fun a b h e => h (Int.ofNat.inj e)) zO3
theorem vO {n : Nat} {b : Int} : b ∈ nats (List.range n) ↔ 0 ≤ b ∧ b < n := by
  constructor
  · intro h;obtain ⟨i,hi,rfl⟩ := bC.1 h;have := eW.1 hi;exact ⟨by omega,by omega⟩
  · intro h;exact bC.2 ⟨b.toNat,eW.2 (by omega),by omega⟩
theorem nR.find {c : Cx} {M : Int} {gs : List G} (h : nR c M gs) {b : Int} (hb : 0 ≤ b ∧ b < c.bs.length) : ∃ g,g ∈ gs ∧ b ∈ g.1 := by
  have := h.cov.mem_iff.2 (vO.2 hb);obtain ⟨g,hg,hbg⟩ := gG.1 this;exact ⟨g,hg,hbg⟩
theorem DK {α : Type} {A B l : List Int} {x y : List α} {d : α} (hA : A.Nodup) (hB : B.Nodup) (dj : ∀ b,b ∈ A → b ∉ B) (hl : l.Perm (A ++ B)) (hx : x.length = A.length) (hy : y.length = B.length) :
    (l.map fun k => if k ∈ A then x.getD (A.idxOf k) d else y.getD (B.idxOf k) d).Perm (x ++ y) := by
  refine (hl.map _).trans ?_;rw [bY];have e1 : A.map (fun k => if k ∈ A then x.getD (A.idxOf k) d else y.getD (B.idxOf k) d) = x := by
    refine lB (by simp [hx]) fun i h1 h2 => ?_
    rw [oW,if_pos (aQ _),hA.idxOf_getElem,aD,aB h2];rfl
  have e2 : B.map (fun k => if k ∈ A then x.getD (A.idxOf k) d else y.getD (B.idxOf k) d) = y := by
    refine lB (by simp [hy]) fun i h1 h2 => ?_
    have hb : B[i]'(by simpa using h1) ∈ B := aQ _
    rw [oW,if_neg (fun q => dj _ q hb),hB.idxOf_getElem,aD,aB h2];rfl
  rw [e1,e2]
structure vA (n : Nat) (x y : G) : Prop where
  gx : A4 n x
  gy : A4 n y
  nx : x.2 ≠ []
  ny : y.2 ≠ []
  dj : ∀ b,b ∈ x.1 → b ∉ y.1
  di : ∀ b,b ∈ (iL x).1 → b ∉ (iL y).1
  ln : x.1.length + y.1.length ≤ 6
theorem B5 {x y : G} {w : W} (h : w ∈ (mK x y).2) : ∃ u v,u ∈ x.2 ∧ v ∈ y.2 ∧ w = E2 x y u v (mK x y).1 := by
  obtain ⟨u,hu,h⟩ := gG.1 h;obtain ⟨v,hv,h⟩ := bC.1 h;exact ⟨u,v,hu,hv,h.symm⟩
theorem mP (x y : G) : (mK x y).1.Perm (x.1 ++ y.1) := dK _ _
theorem vA.pair {n : Nat} {x y : G} (h : vA n x y) {u v : W} (hu : u ∈ x.2) (hv : v ∈ y.2) : (E2 x y u v (mK x y).1).1.Perm (u.1 ++ v.1) ∧ (E2 x y u v (mK x y).1).2.2.Perm (u.2.2 ++ v.2.2) :=
  ⟨DK h.gx.nd h.gy.nd h.dj (mP x y) (h.gx.ws u hu).pl (h.gy.ws v hv).pl,DK h.gx.nd h.gy.nd h.dj (mP x y) (h.gx.ws u hu).cl (h.gy.ws v hv).cl⟩
theorem vA.same {n : Nat} {x y : G} (h : vA n x y) {w : W} (hw : w ∈ (mK x y).2) : w.1.Perm ((iL x).1 ++ (iL y).1) := by
  obtain ⟨u,v,hu,hv,rfl⟩ := B5 hw;exact (h.pair hu hv).1.trans ((h.gx.same _ _ hu (jF h.nx)).append (h.gy.same _ _ hv (jF h.ny)))
theorem vA.ok {n : Nat} {x y : G} (h : vA n x y) {M : Int} (h1 : ∀ w, w ∈ x.2 → w.2.1 ≤ M) (h2 : ∀ w, w ∈ y.2 → w.2.1 ≤ M) (hM : M ≤ 2000000) : A4 n (mK x y) where
  ne e := by
    have := (mP x y).length_eq;rw [e] at this;have := fH.2 h.gx.ne;simp at *;omega
  up := by
    have h1 := lM qM (x.1 ++ y.1);have hnd : (mK x y).1.Nodup := (mP x y).nodup_iff.2 (cT.2 ⟨h.gx.nd,h.gy.nd,fun a ha b hb e => h.dj a ha (e ▸ hb)⟩);refine (h1.and hnd).imp fun {a b} h => ?_
    have := h.1;have := h.2;unfold cI at *;by_cases e : a < b
    · exact e
    · rw [if_neg e] at *;by_cases e' : b < a
      · rw [if_pos e'] at *;omega
      · omega
  rg b hb := by
    rcases bH.1 ((mP x y).mem_iff.1 hb) with hb | hb
    · exact h.gx.rg b hb
    · exact h.gy.rg b hb
  ln := by rw [(mP x y).length_eq,aF];exact h.ln
  ws w hw := by
    have hs := h.same hw;obtain ⟨u,v,hu,hv,rfl⟩ := B5 hw;obtain ⟨p1,p2⟩ := h.pair hu hv;have ou := h.gx.ws u hu;have ov := h.gy.ws v hv;refine ⟨aY _,aY _,fun b hb => ?_,hs.nodup_iff.2 (cT.2 ⟨(h.gx.ws _ (jF h.nx)).nd,(h.gy.ws _ (jF h.ny)).nd,fun a ha b hb e => h.di a ha (e ▸ hb)⟩),?_,?_,fun r hr => ?_⟩
    · rcases bH.1 (p1.mem_iff.1 hb) with hb | hb
      · exact ou.pr b hb
      · exact ov.pr b hb
    · have := ou.m0;have := ov.m0;show 0 ≤ u.2.1 + v.2.1;omega
    · have := h1 u hu;have := h2 v hv;show u.2.1 + v.2.1 ≤ 4000000;omega
    · rcases bH.1 (p2.mem_iff.1 hr) with hr | hr
      · exact ou.sp r hr
      · exact ov.sp r hr
  same w v hw hv := (h.same hw).trans (h.same hv).symm
theorem XW {x y : G} (hx : x.2 ≠ []) (hy : y.2 ≠ []) : (mK x y).2 ≠ [] := by
  show pF x y _ ≠ [];unfold pF;cases hu : x.2 with
  | nil => exact absurd hu hx
  | cons u l =>
    cases hv : y.2 with
    | nil => exact absurd hv hy
    | cons v m => simp
theorem EA (x y : G) : (mK x y).2.length = x.2.length * y.2.length := by
  show (pF x y _).length = _;unfold pF;generalize eC cI (x.1 ++ y.1) = l
  induction x.2 with
  | nil => simp
  | cons u m ih => rw [bJ,aF,ih,aY,List.length_cons,Nat.succ_mul,pY]
theorem mE {α : Type} {l : List α} {i k : Nat} {u v : α} (J : α) (hik : i < k) (hi : l[i]? = some u) (hk : l[k]? = some v) : ∃ P Q R,l = P ++ u :: (Q ++ v :: R) ∧ (l.set i J).eraseIdx k = P ++ J :: (Q ++ R) := by
  obtain ⟨hl,e2⟩ := aA.1 hk;have hil : i < l.length := by omega
  have e1 : l[i] = u := (aA.1 hi).2;have d1 : l.drop i = u :: l.drop (i + 1) := by rw [aT hil,e1]
  have d2 : l.drop k = v :: l.drop (k + 1) := by rw [aT hl,e2]
  have d3 : l.drop (i + 1) = (l.drop (i + 1)).take (k - (i + 1)) ++ v :: l.drop (k + 1) := by
    have : l.drop (i + 1) = (l.drop (i + 1)).take (k - (i + 1)) ++ (l.drop (i + 1)).drop (k - (i + 1)) := (bP _ _).symm;rw [MG,show i + 1 + (k - (i + 1)) = k by omega,d2] at this
    exact this
  have e : l = l.take i ++ u :: ((l.drop (i + 1)).take (k - (i + 1)) ++ v :: l.drop (k + 1)) := by
    rw [← d3,← d1,bP]
  refine ⟨_,_,_,e,?_⟩;have ht : (l.take i).length = i := by rw [bG];omega
  have hq : ((l.drop (i + 1)).take (k - (i + 1))).length = k - (i + 1) := by rw [bG,dD];omega
  generalize l.take i = P at *;generalize (l.drop (i + 1)).take (k - (i + 1)) = Q at *;generalize l.drop (k + 1) = R at *;clear d1 d2 d3;subst e;rw [iP _ _ (by omega),show i - P.length = 0 by omega,List.set_cons_zero,List.eraseIdx_append_of_length_le (by omega),show k - P.length = (k - (i + 1)) + 1 by omega,List.eraseIdx_cons_succ,List.eraseIdx_append_of_length_le (by omega),hq,eB,List.eraseIdx_cons_zero]
theorem zN7 (l : List Int) (n : Int) : zN8 l n = GZ l n := by
  by_cases h : ∀ i,i < l.length → S9 l n i
  · rw [BJ h];unfold zN8;exact bI.2 fun i hi => decide_eq_true (h i (eW.1 hi))
  · obtain ⟨i,hi⟩ := Classical.not_forall.1 h;obtain ⟨hi,ho⟩ := Classical.not_forall.1 hi;rw [GY hi ho];unfold zN8;unfold S9 at ho;exact List.all_eq_false.2 ⟨i,eW.2 hi,fun q => ho (of_decide_eq_true q)⟩
theorem zM4 {p q : Prop} [Decidable p] [Decidable q] : decide (p ∧ q) = (decide p && decide q) := by simp
theorem rA (n k a b m : Int) (ids : List Int) : iC n ⟨k,a,b,m,ids⟩ = (jA a 0 (n - 1) && decide (k = 0 ∨ ids.length = 0) && decide (k = 4 ∨ b = 0) && (if k = 0 then decide (m = 0) && GZ ids n else if k = 1 ∨ k = 2 ∨ k = 3 then jA m 0 1099511627776 else if k = 4 then decide (m = 0) && jA b (a + 1) (n - 1) else if k = 5 then jA m 0 (n - 1) else false)) := by
  unfold iC jA;simp only [zM4,zN7]
end Go.Ld
namespace Go.Proofs.YtmmmeebiobjnbaaGreat
open Go Go.Ab Go.Ld
attribute [local irreducible] VC AW cF aS
set_option maxHeartbeats 4000000
theorem JE (n k a b m : Int) (ids : List Int) (hl : ids.length ≤ 9223372036854775807) (hn : 0 ≤ n ∧ n ≤ 1000) :
    aS Tryz.prog 18 [.i n,oG k a b m ids] [] (.b (iC n ⟨k,a,b,m,ids⟩)) [] := by
  have hil : (ints ids).length = ids.length := by simp
  have ca := oM a 0 (n - 1);have cs := ER ids n hl hn;cases hA : jA a 0 (n - 1)
  · rw [hA] at ca;have e : iC n ⟨k,a,b,m,ids⟩ = (false) := by rw [rA];first | (rw [hA];rfl) | (rw [hAb];rcases h1 with h | h;(rw [decide_eq_false (by omega : ¬ (k = 0 ∨ ids.length = 0))];simp);(rw [decide_eq_false (by omega : ¬ (k = 4 ∨ b = 0))];simp)) | (rw [hAb,decide_eq_true hid,decide_eq_true hbz];simp only [oD];first | rw [if_pos k0] | rw [if_neg k0,if_pos k1] | rw [if_neg k0,if_neg k1,if_pos k4] | rw [if_neg k0,if_neg k1,if_neg k4,if_pos k5] | rw [if_neg k0,if_neg k1,if_neg k4,if_neg k5])
    rw [e];refine bW T Tryz.func18 rfl rfl rfl rfl ?_
    (repeat' (first|refine wS ?_|refine wR ?_|refine wT ?_|(refine rg 0 (cD (cQ rfl rfl) rfl (aV ?_)))|(refine rg 1 (iB T rfl (mW rfl (vV (cP rfl rfl (by omega) (by omega)) (vV (kC (ca)) (vV (dI rfl) (mV ?_))))));(iterate 4 refine gF ?_);(iterate 4 refine gU ?_);refine gF (pW rfl (mV ?_));(iterate 4 refine gF ?_);(iterate 3 refine gU ?_);refine gF (pV ?_))|(refine rg 2 (aV ?_))|refine nZ ?_));exact rQ
  · rw [hA] at ca;have hAb := hA;simp only [jA,aL,decide_eq_true_eq] at hA;by_cases h1 : k ≠ 0 ∧ 0 < ids.length ∨ k ≠ 4 ∧ b ≠ 0
    · have e : iC n ⟨k,a,b,m,ids⟩ = (false) := by rw [rA];first | (rw [hA];rfl) | (rw [hAb];rcases h1 with h | h;(rw [decide_eq_false (by omega : ¬ (k = 0 ∨ ids.length = 0))];simp);(rw [decide_eq_false (by omega : ¬ (k = 4 ∨ b = 0))];simp)) | (rw [hAb,decide_eq_true hid,decide_eq_true hbz];simp only [oD];first | rw [if_pos k0] | rw [if_neg k0,if_pos k1] | rw [if_neg k0,if_neg k1,if_pos k4] | rw [if_neg k0,if_neg k1,if_neg k4,if_pos k5] | rw [if_neg k0,if_neg k1,if_neg k4,if_neg k5])
      rw [e];refine bW T Tryz.func18 rfl rfl rfl rfl ?_
      (repeat' (first|refine wS ?_|refine wR ?_|refine wT ?_|(refine wC rfl ?_ ?_<;>(intro hb;(try simp only [nm] at hb);try (exfalso;omega)))|(refine rg 0 (cD (cQ rfl rfl) rfl (aV ?_)))|(refine rg 1 (iB T rfl (mW rfl (vV (cP rfl rfl (by omega) (by omega)) (vV (kC (ca)) (vV (dI rfl) (mW rfl (yP T rfl (yO T rfl (yV (fZ rfl rfl) ?_)))))))));refine yM ?_;refine bO rfl rfl ?_ ?_<;>(intro hb;rw [hb];(try simp only [nm] at hb);try (exfalso;omega));(all_goals first|(refine gT (fW T rfl (gT (lW T rfl (gT (qW T rfl (gT (vV (eU rfl rfl) ?_))))))))|(iterate 4 refine gF ?_));(all_goals (refine gT (pW rfl (pW rfl (mV ?_)))));(all_goals first|(refine gK ?_)|(refine bO rfl rfl ?_ ?_<;>(intro hb;rw [hb];(try simp only [nm] at hb);try (exfalso;omega))));(all_goals first|(refine gT (fW T rfl (gT (lW T rfl (gT (vV (fZ rfl rfl) (gT (mV ?_))))))))|(iterate 4 refine gF ?_));(all_goals first|(refine gK ?_)|(refine bO rfl rfl ?_ ?_<;>(intro hb;rw [hb];(try simp only [nm] at hb);try (exfalso;omega))));(all_goals first|(refine gT (fW T rfl (gT (lW T rfl (gT (vV (fZ rfl rfl) ?_))))))|(iterate 3 refine gU ?_));(all_goals first|(refine gT (pV ?_))|(refine gF ?_));(all_goals (refine pV ?_)))|(refine rg 2 (aV ?_))|refine nZ ?_));all_goals exact rQ
    · have hid : k = 0 ∨ ids.length = 0 := by omega
      have hbz : k = 4 ∨ b = 0 := by omega
      by_cases k0 : k = 0
      · have e : iC n ⟨k,a,b,m,ids⟩ = (decide (m = 0) && GZ ids n) := by rw [rA];first | (rw [hA];rfl) | (rw [hAb];rcases h1 with h | h;(rw [decide_eq_false (by omega : ¬ (k = 0 ∨ ids.length = 0))];simp);(rw [decide_eq_false (by omega : ¬ (k = 4 ∨ b = 0))];simp)) | (rw [hAb,decide_eq_true hid,decide_eq_true hbz];simp only [oD];first | rw [if_pos k0] | rw [if_neg k0,if_pos k1] | rw [if_neg k0,if_neg k1,if_pos k4] | rw [if_neg k0,if_neg k1,if_neg k4,if_pos k5] | rw [if_neg k0,if_neg k1,if_neg k4,if_neg k5])
        rw [e];refine bW T Tryz.func18 rfl rfl rfl rfl ?_
        (repeat' (first|refine wS ?_|refine wB ?_|refine wK ?_|refine wR ?_|(refine wC rfl ?_ ?_<;>(intro hb;(try simp only [nm] at hb);try (exfalso;omega)))|(refine rg 0 (cD (cQ rfl rfl) rfl (aV ?_)))|(refine rg 1 (iB T rfl (mW rfl (vV (cP rfl rfl (by omega) (by omega)) (vV (kC (ca)) (vV (dI rfl) (mW rfl (yP T rfl (yO T rfl (yV (fZ rfl rfl) ?_)))))))));refine yM ?_;refine bO rfl rfl ?_ ?_<;>(intro hb;rw [hb];(try simp only [nm] at hb);try (exfalso;omega));(all_goals ((iterate 4 refine gF ?_);refine gT (pW rfl (pW rfl (mW rfl (yP T rfl (yO T rfl (yV (fZ rfl rfl) (yM ?_)))))));refine bO rfl rfl ?_ ?_<;>(intro hb;rw [hb];(try simp only [nm] at hb);try (exfalso;omega))));(all_goals (refine yP T rfl (yO T rfl (yV (fZ rfl rfl) (gT (pW rfl (pV ?_))))))))|(refine rg 3 (GG T ?_))|(refine rg 4 (vV (dX rfl rfl) (aV ?_)))|(refine rg 5 (iB T rfl (vV (dX rfl rfl) (mV ?_)));refine bO rfl rfl ?_ ?_<;>(intro hb;rw [hb];(try simp only [nm] at hb);try (exfalso;omega));(all_goals first|(refine gT (fW T rfl (gT (lW T rfl (gT (mW rfl (gT (vV (kC (cs)) ?_))))))))|(iterate 4 refine gF ?_));(all_goals (refine pW rfl (aV ?_))))|refine nZ ?_));all_goals first | (exfalso;omega) | (refine dC (.inl rfl) rfl (nB ?_);simp [*])
      · by_cases k1 : k = 1 ∨ k = 2 ∨ k = 3
        · have e : iC n ⟨k,a,b,m,ids⟩ = (jA m 0 1099511627776) := by rw [rA];first | (rw [hA];rfl) | (rw [hAb];rcases h1 with h | h;(rw [decide_eq_false (by omega : ¬ (k = 0 ∨ ids.length = 0))];simp);(rw [decide_eq_false (by omega : ¬ (k = 4 ∨ b = 0))];simp)) | (rw [hAb,decide_eq_true hid,decide_eq_true hbz];simp only [oD];first | rw [if_pos k0] | rw [if_neg k0,if_pos k1] | rw [if_neg k0,if_neg k1,if_pos k4] | rw [if_neg k0,if_neg k1,if_neg k4,if_pos k5] | rw [if_neg k0,if_neg k1,if_neg k4,if_neg k5])
          rw [e];refine bW T Tryz.func18 rfl rfl rfl rfl ?_
          (repeat' (first|refine wS ?_|refine wB ?_|refine wK ?_|refine wR ?_|(refine wC rfl ?_ ?_<;>(intro hb;(try simp only [nm] at hb);try (exfalso;omega)))|(refine rg 0 (cD (cQ rfl rfl) rfl (aV ?_)))|(refine rg 1 (iB T rfl (mW rfl (vV (cP rfl rfl (by omega) (by omega)) (vV (kC (ca)) (vV (dI rfl) (mW rfl (yP T rfl (yO T rfl (yV (fZ rfl rfl) ?_)))))))));refine yM ?_;refine bO rfl rfl ?_ ?_<;>(intro hb;rw [hb];(try simp only [nm] at hb);try (exfalso;omega));(all_goals (refine yP T rfl (yO T rfl (gT (qW T rfl (yV (eU rfl rfl) (gT (pW rfl (pW rfl (mV ?_))))))));refine bO rfl rfl ?_ ?_<;>(intro hb;rw [hb];(try simp only [nm] at hb);try (exfalso;omega))));(all_goals (refine yP T rfl (yO T rfl (yV (fZ rfl rfl) (yM ?_)));refine bO rfl rfl ?_ ?_<;>(intro hb;rw [hb];(try simp only [nm] at hb);try (exfalso;omega))));(all_goals (refine yP T rfl (yO T rfl (yV (fZ rfl rfl) (gT (pW rfl (pV ?_))))))))|(refine rg 3 (GG T ?_))|(refine rg 4 (vV (dX rfl rfl) (aV ?_)))|(refine rg 6 (vV (dX rfl rfl) (aV ?_)))|(refine rg 7 (vV (dX rfl rfl) (aV ?_)))|(refine rg 8 (vV (dX rfl rfl) (aV ?_)))|(refine rg 9 (iB T rfl (vV (by exact fE rfl rfl (oM _ _ _) rfl rfl rfl) ?_));refine aV ?_)|refine nZ ?_));all_goals first | (exfalso;omega) | exact rQ
        · by_cases k4 : k = 4
          · have e : iC n ⟨k,a,b,m,ids⟩ = (decide (m = 0) && jA b (a + 1) (n - 1)) := by rw [rA];first | (rw [hA];rfl) | (rw [hAb];rcases h1 with h | h;(rw [decide_eq_false (by omega : ¬ (k = 0 ∨ ids.length = 0))];simp);(rw [decide_eq_false (by omega : ¬ (k = 4 ∨ b = 0))];simp)) | (rw [hAb,decide_eq_true hid,decide_eq_true hbz];simp only [oD];first | rw [if_pos k0] | rw [if_neg k0,if_pos k1] | rw [if_neg k0,if_neg k1,if_pos k4] | rw [if_neg k0,if_neg k1,if_neg k4,if_pos k5] | rw [if_neg k0,if_neg k1,if_neg k4,if_neg k5])
            rw [e];refine bW T Tryz.func18 rfl rfl rfl rfl ?_
            (repeat' (first|refine wS ?_|refine wB ?_|refine wK ?_|refine wR ?_|refine wU ?_|(refine wC rfl ?_ ?_<;>(intro hb;(try simp only [nm] at hb);try (exfalso;omega)))|(refine rg 0 (cD (cQ rfl rfl) rfl (aV ?_)))|(refine rg 1 (iB T rfl (mW rfl (vV (cP rfl rfl (by omega) (by omega)) (vV (kC (ca)) (vV (dI rfl) (mW rfl (yP T rfl (yO T rfl (yV (fZ rfl rfl) ?_)))))))));refine yM ?_;refine bO rfl rfl ?_ ?_<;>(intro hb;rw [hb];(try simp only [nm] at hb);try (exfalso;omega));(all_goals (refine yP T rfl (yO T rfl (gT (qW T rfl (yV (eU rfl rfl) (gT (pW rfl (pW rfl (mV ?_))))))));refine bO rfl rfl ?_ ?_<;>(intro hb;rw [hb];(try simp only [nm] at hb);try (exfalso;omega))));(all_goals (refine yP T rfl (yO T rfl (yV (fZ rfl rfl) (yM ?_)));refine bO rfl rfl ?_ ?_<;>(intro hb;rw [hb];(try simp only [nm] at hb);try (exfalso;omega))));(all_goals ((iterate 3 refine gF ?_);refine gT (pW rfl (pV ?_)))))|(refine rg 3 (GG T ?_))|(refine rg 4 (vV (dX rfl rfl) (aV ?_)))|(refine rg 6 (vV (dX rfl rfl) (aV ?_)))|(refine rg 7 (vV (dX rfl rfl) (aV ?_)))|(refine rg 8 (vV (dX rfl rfl) (aV ?_)))|(refine rg 10 (vV (dX rfl rfl) (aV ?_)))|(refine rg 11 (iB T rfl (vV (dX rfl rfl) (mV ?_)));refine bO rfl rfl ?_ ?_<;>(intro hb;rw [hb];(try simp only [nm] at hb);try (exfalso;omega));(all_goals first|(refine gT (fW T rfl (gT (lW T rfl (gT (fW T rfl (gT (lW T rfl (gT (vV (cC rfl rfl (by omega) (by omega)) ?_)))))))));refine gT (mW rfl (gT (vV (cP rfl rfl (by omega) (by omega)) (gT (vV (by exact fE rfl rfl (oM _ _ _) rfl rfl rfl) ?_))))))|(iterate 8 refine gF ?_));(all_goals (refine pW rfl (aV ?_))))|refine nZ ?_));all_goals first | (exfalso;omega) | (refine dC (.inl rfl) rfl (nB ?_);simp [*])
          · by_cases k5 : k = 5
            · have e : iC n ⟨k,a,b,m,ids⟩ = (jA m 0 (n - 1)) := by rw [rA];first | (rw [hA];rfl) | (rw [hAb];rcases h1 with h | h;(rw [decide_eq_false (by omega : ¬ (k = 0 ∨ ids.length = 0))];simp);(rw [decide_eq_false (by omega : ¬ (k = 4 ∨ b = 0))];simp)) | (rw [hAb,decide_eq_true hid,decide_eq_true hbz];simp only [oD];first | rw [if_pos k0] | rw [if_neg k0,if_pos k1] | rw [if_neg k0,if_neg k1,if_pos k4] | rw [if_neg k0,if_neg k1,if_neg k4,if_pos k5] | rw [if_neg k0,if_neg k1,if_neg k4,if_neg k5])
              rw [e];refine bW T Tryz.func18 rfl rfl rfl rfl ?_
              (repeat' (first|refine wS ?_|refine wB ?_|refine wK ?_|refine wR ?_|(refine wC rfl ?_ ?_<;>(intro hb;(try simp only [nm] at hb);try (exfalso;omega)))|(refine rg 0 (cD (cQ rfl rfl) rfl (aV ?_)))|(refine rg 1 (iB T rfl (mW rfl (vV (cP rfl rfl (by omega) (by omega)) (vV (kC (ca)) (vV (dI rfl) (mW rfl (yP T rfl (yO T rfl (yV (fZ rfl rfl) ?_)))))))));refine yM ?_;refine bO rfl rfl ?_ ?_<;>(intro hb;rw [hb];(try simp only [nm] at hb);try (exfalso;omega));(all_goals (refine yP T rfl (yO T rfl (gT (qW T rfl (yV (eU rfl rfl) (gT (pW rfl (pW rfl (mV ?_))))))));refine bO rfl rfl ?_ ?_<;>(intro hb;rw [hb];(try simp only [nm] at hb);try (exfalso;omega))));(all_goals (refine yP T rfl (yO T rfl (yV (fZ rfl rfl) (yM ?_)));refine bO rfl rfl ?_ ?_<;>(intro hb;rw [hb];(try simp only [nm] at hb);try (exfalso;omega))));(all_goals (refine yP T rfl (yO T rfl (yV (fZ rfl rfl) (gT (pW rfl (pV ?_))))))))|(refine rg 3 (GG T ?_))|(refine rg 4 (vV (dX rfl rfl) (aV ?_)))|(refine rg 6 (vV (dX rfl rfl) (aV ?_)))|(refine rg 7 (vV (dX rfl rfl) (aV ?_)))|(refine rg 8 (vV (dX rfl rfl) (aV ?_)))|(refine rg 10 (vV (dX rfl rfl) (aV ?_)))|(refine rg 12 (vV (dX rfl rfl) (aV ?_)))|(refine rg 13 (iB T rfl (mW rfl (vV (cP rfl rfl (by omega) (by omega)) (vV (by exact fE rfl rfl (oM _ _ _) rfl rfl rfl) ?_))));refine aV ?_)|refine nZ ?_));all_goals first | (exfalso;omega) | exact rQ
            · have e : iC n ⟨k,a,b,m,ids⟩ = (false) := by rw [rA];first | (rw [hA];rfl) | (rw [hAb];rcases h1 with h | h;(rw [decide_eq_false (by omega : ¬ (k = 0 ∨ ids.length = 0))];simp);(rw [decide_eq_false (by omega : ¬ (k = 4 ∨ b = 0))];simp)) | (rw [hAb,decide_eq_true hid,decide_eq_true hbz];simp only [oD];first | rw [if_pos k0] | rw [if_neg k0,if_pos k1] | rw [if_neg k0,if_neg k1,if_pos k4] | rw [if_neg k0,if_neg k1,if_neg k4,if_pos k5] | rw [if_neg k0,if_neg k1,if_neg k4,if_neg k5])
              rw [e];refine bW T Tryz.func18 rfl rfl rfl rfl ?_
              (repeat' (first|refine wS ?_|refine wB ?_|refine wK ?_|refine wR ?_|(refine wC rfl ?_ ?_<;>(intro hb;(try simp only [nm] at hb);try (exfalso;omega)))|(refine rg 0 (cD (cQ rfl rfl) rfl (aV ?_)))|(refine rg 1 (iB T rfl (mW rfl (vV (cP rfl rfl (by omega) (by omega)) (vV (kC (ca)) (vV (dI rfl) (mW rfl (yP T rfl (yO T rfl (yV (fZ rfl rfl) ?_)))))))));refine yM ?_;refine bO rfl rfl ?_ ?_<;>(intro hb;rw [hb];(try simp only [nm] at hb);try (exfalso;omega));(all_goals (refine yP T rfl (yO T rfl (gT (qW T rfl (yV (eU rfl rfl) (gT (pW rfl (pW rfl (mV ?_))))))));refine bO rfl rfl ?_ ?_<;>(intro hb;rw [hb];(try simp only [nm] at hb);try (exfalso;omega))));(all_goals (refine yP T rfl (yO T rfl (yV (fZ rfl rfl) (yM ?_)));refine bO rfl rfl ?_ ?_<;>(intro hb;rw [hb];(try simp only [nm] at hb);try (exfalso;omega))));(all_goals (refine yP T rfl (yO T rfl (yV (fZ rfl rfl) (gT (pW rfl (pV ?_))))))))|(refine rg 3 (GG T ?_))|(refine rg 4 (vV (dX rfl rfl) (aV ?_)))|(refine rg 6 (vV (dX rfl rfl) (aV ?_)))|(refine rg 7 (vV (dX rfl rfl) (aV ?_)))|(refine rg 8 (vV (dX rfl rfl) (aV ?_)))|(refine rg 10 (vV (dX rfl rfl) (aV ?_)))|(refine rg 12 (vV (dX rfl rfl) (aV ?_)))|(refine rg 14 (aV ?_))|refine nZ ?_));all_goals first | (exfalso;omega) | exact rQ
end Go.Proofs.YtmmmeebiobjnbaaGreat
namespace Go.Ld
open Go.Ab Go.Proofs.YtmmmeebiobjnbaaGreat
theorem GA {l : List Int} (h : l ≠ []) : l.headD 0 ∈ l := by
  cases l with
  | nil => exact absurd rfl h
  | cons x l => exact aR
theorem YK {l : List Int} (h : l.Pairwise (· < ·)) {z : Int} (hz : z ∈ l) : l.headD 0 ≤ z := by
  cases l with
  | nil => cases hz
  | cons x l =>
    rcases bS.1 hz with rfl | hz
    · exact eM _
    · have := (eV.1 h).1 z hz;show x ≤ z;omega
theorem zQ3 {a b : Int} : cI a b ≤ 0 ↔ a ≤ b := by unfold cI;split <;> (try split) <;> omega
theorem H7 {l : List G} : LY l ↔ (l.map fun g => g.1.headD 0).Pairwise (fun a b => a ≤ b) := by
  rw [zC5];exact ⟨fun h => h.imp fun {a b} h => zQ3.1 h,fun h => h.imp fun {a b} h => zQ3.2 h⟩
theorem PH {c : Cx} {M : Int} {gs P Q R : List G} {u v J : G} (h : nR c M gs) (e : gs = P ++ u :: (Q ++ v :: R)) (hM : 0 ≤ M) {M' : Int} (hMM : M ≤ M')
    (hp : J.1.Perm (u.1 ++ v.1)) (hJ : A4 c.bs.length J) (hne : J.2 ≠ []) (hf : (iL J).1.Perm ((iL u).1 ++ (iL v).1)) (hm : ∀ w,w ∈ J.2 → w.2.1 ≤ M') (hl : J.2.length ≤ 1000) : nR c M' (P ++ J :: (Q ++ R)) := by
  have hmem : ∀ g,g ∈ P ++ J :: (Q ++ R) → g = J ∨ g ∈ gs := fun g hg => by
    subst e;simp only [bH,bS] at hg ⊢;rcases hg with hg | hg | hg | hg
    · exact .inr (.inl hg)
    · exact .inl hg
    · exact .inr (.inr (.inr (.inl hg)))
    · exact .inr (.inr (.inr (.inr (.inr hg))))
  have fl : ∀ F : G → List Int,(F J).Perm (F u ++ F v) → ((P ++ J :: (Q ++ R)).flatMap F).Perm (gs.flatMap F) := fun F hF => by
    subst e;simp only [fT,bJ,bV];refine List.Perm.append_left _ ?_;refine (hF.append_right _).trans ?_;rw [bV];refine List.Perm.append_left _ ?_;rw [← bV,← bV];exact List.perm_append_comm.append_right _
  have cov := (fl (·.1) hp).trans h.cov;have hlen : (gs.flatMap (·.1)).length = ((P ++ J :: (Q ++ R)).flatMap (·.1)).length := (fl (·.1) hp).length_eq.symm;refine ⟨⟨fun g hg => ?_,(fl (·.1) hp).nodup_iff.2 h.out.nd,by rw [← hlen];exact h.out.ln,fun g hg => ?_⟩,?_,fun g hg => ?_,fun g hg => ?_,cov,(fl _ hf).trans h.idn,fun g hg => ?_⟩
  · rcases hmem g hg with rfl | hg
    · exact hJ
    · exact h.out.ok g hg
  · rcases hmem g hg with rfl | hg
    · omega
    · exact h.out.ws g hg
  · have hu : u ∈ gs := by subst e;simp
    have hv : v ∈ gs := by subst e;simp
    have hup := H7.1 h.up;have ou := h.out.ok u hu;have ov := h.out.ok v hv;have huv : u.1.headD 0 ≤ v.1.headD 0 := by
      subst e;simp only [bY,List.map_cons] at hup;exact (eV.1 (eX.1 hup).2.1).1 _ (by simp)
    have hh : J.1.headD 0 = u.1.headD 0 := by
      have h1 : J.1.headD 0 ≤ u.1.headD 0 := YK hJ.up (hp.mem_iff.2 (bH.2 (.inl (GA ou.ne))));have h2 : u.1.headD 0 ≤ J.1.headD 0 := by
        rcases bH.1 (hp.mem_iff.1 (GA hJ.ne)) with hq | hq
        · exact YK ou.up hq
        · have := YK ov.up hq;omega
      omega
    refine H7.2 (hup.sublist ?_);subst e;simp only [bY,List.map_cons,hh];refine List.Sublist.append_left (List.Sublist.cons_cons _ (List.Sublist.append_left (List.sublist_cons_self _ _) _)) _
  · rcases hmem g hg with rfl | hg
    · exact hne
    · exact h.ne g hg
  · rcases hmem g hg with rfl | hg
    · exact hm
    · exact fun w hw => H2 (h.ml g hg w hw) hMM
  · rcases hmem g hg with rfl | hg
    · exact hl
    · exact h.wl g hg
theorem XV {c : Cx} {gs all : List G} {a b : Int} (h : nR c c.m gs) (hm0 : 0 ≤ c.m) (hm1 : c.m ≤ 1048576) (ha : 0 ≤ a ∧ a < c.bs.length) (hb : 0 ≤ b ∧ b < c.bs.length) (e : join gs a b = some all) :
    nR c (2 * c.m) all ∧ ∃ g,g ∈ all ∧ a ∈ g.1 ∧ b ∈ g.1 := by
  obtain ⟨i,x,hi,hix,hax⟩ := iR (h.find ha);obtain ⟨k,y,hk,hky,hby⟩ := iR (h.find hb);have hx := aN hix;have hy := aN hky;unfold join at e;dsimp only at e;rw [hi,hk] at e;split at e
  · rename_i hik;obtain rfl : i = k := by omega
    cases e;have : x = y := by rw [hix] at hky;exact Option.some.inj hky
    subst this;exact ⟨⟨h.out,h.up,h.ne,fun g hg w hw => by have := h.ml g hg w hw;omega,h.cov,h.idn,h.wl⟩,x,hx,hax,hby⟩
  · rename_i hik;have hxy : x ≠ y := fun q => by
      subst q;have h1 := (aA.1 hix).2;have h2 := (aA.1 hky).2;have l1 := (aA.1 hix).1;have l2 := (aA.1 hky).1;have nd : (gs.map fun g => g.1.headD 0).Nodup := by
        have := h.out.nd;have aux : ∀ o : List G,(∀ g,g ∈ o → g.1 ≠ []) → (o.flatMap (·.1)).Nodup → (o.map fun g => g.1.headD 0).Nodup := by
          intro o
          induction o with
          | nil => intro _ _;exact eQ
          | cons g o ih =>
            intro hg hn;rw [bJ] at hn;obtain ⟨n1,n2,n3⟩ := cT.1 hn;rw [List.map_cons,fG];refine ⟨fun hc => ?_,ih (fun g h => hg g (aI _ h)) n2⟩;obtain ⟨g',hg',e'⟩ := bC.1 hc;exact n3 _ (GA (hg g aR)) _ (oR hg' (e' ▸ GA (hg g' (aI _ hg')))) rfl
        exact aux gs (fun g hg => (h.out.ok g hg).ne) this
      have e1 : (gs.map fun g => g.1.headD 0)[i]'(by simpa using l1) = (gs.map fun g => g.1.headD 0)[k]'(by simpa using l2) := by rw [oW,oW,h1,h2]
      have := (zO5 nd).1 e1;omega
    have gi : lY gs ((i : Int)).toNat = x := by unfold lY;rw [aD];show (gs[i]?).getD _ = x;rw [hix];rfl
    have gk : lY gs ((k : Int)).toNat = y := by unfold lY;rw [aD];show (gs[k]?).getD _ = y;rw [hky];rfl
    rw [gi,gk] at e;split at e
    · cases e
    · rename_i hsz;have hln : x.1.length + y.1.length ≤ 6 := by omega
      have hwl : x.2.length * y.2.length ≤ 1000 := by omega
      cases e;have dj : ∀ (u v : G),u ∈ gs → v ∈ gs → u ≠ v → ∀ b,b ∈ u.1 → b ∉ v.1 := fun u v hu hv huv b h1 h2 => huv (U6 h.out.nd hu hv h1 h2);have ndi : (gs.flatMap fun g => (iL g).1).Nodup := h.idn.nodup_iff.2 (B3 _);have ndi' : ((gs.map fun g => ((iL g).1,g.2)).flatMap (·.1)).Nodup := by rw [BT];exact ndi
      have jo : vA c.bs.length x y := by
        refine ⟨h.out.ok x hx,h.out.ok y hy,h.ne x hx,h.ne y hy,dj x y hx hy hxy,fun b h1 h2 => ?_,hln⟩
        have l1 := (aA.1 hix).1;have l2 := (aA.1 hky).1;rcases iW (show i ≠ k by omega) with hlt | hlt
        · obtain ⟨P,Q,R,e1,-⟩ := mE x hlt hix hky;rw [e1] at ndi;simp only [fT,bJ] at ndi;exact (cT.1 (cT.1 ndi).2.1).2.2 b h1 b (by simp [h2]) rfl
        · obtain ⟨P,Q,R,e1,-⟩ := mE y hlt hky hix;rw [e1] at ndi;simp only [fT,bJ] at ndi;exact (cT.1 (cT.1 ndi).2.1).2.2 b h2 b (by simp [h1]) rfl
      have hJ := jo.ok (h.ml x hx) (h.ml y hy) (by omega)
      have hJn := XW (h.ne x hx) (h.ne y hy);have hJf := jo.same (jF hJn);have hJm : ∀ w,w ∈ (mK x y).2 → w.2.1 ≤ 2 * c.m := fun w hw => by
        obtain ⟨u,v,hu,hv,rfl⟩ := B5 hw;have := h.ml x hx u hu;have := h.ml y hy v hv;show u.2.1 + v.2.1 ≤ _;omega
      have hJp := mP x y;have hJl : (mK x y).2.length ≤ 1000 := by rw [EA];exact hwl
      have hJa : a ∈ (mK x y).1 := hJp.mem_iff.2 (bH.2 (.inl hax));have hJb : b ∈ (mK x y).1 := hJp.mem_iff.2 (bH.2 (.inr hby));generalize mK x y = J at *;rcases iW (show i ≠ k by omega) with hlt | hlt
      · obtain ⟨P,Q,R,e1,e2⟩ := mE J hlt hix hky;rw [show (min (i : Int) (k : Int)).toNat = i by omega,show (max (i : Int) (k : Int)).toNat = k by omega,e2]
        exact ⟨PH h e1 hm0 (by omega) hJp hJ hJn hJf hJm hJl,J,by simp,hJa,hJb⟩
      · obtain ⟨P,Q,R,e1,e2⟩ := mE J hlt hky hix;rw [show (min (i : Int) (k : Int)).toNat = k by omega,show (max (i : Int) (k : Int)).toNat = i by omega,e2]
        exact ⟨PH h e1 hm0 (by omega) (hJp.trans yQ) hJ hJn (hJf.trans yQ) hJm hJl,J,by simp,hJa,hJb⟩
theorem RC {f t : Int} (h : (K3 f t).2 = true) : MN (K3 f t).1 := by
  have := BA f t;unfold K3 at h ⊢;unfold MN;dsimp only at h ⊢;rcases this with ⟨h1,h2,h3,h4⟩ | ⟨h1,_⟩
  · rw [h2,h3];omega
  · rw [h1] at h;cases h
theorem RU {t u w e : Int} {r : SP} (h : (uP t u w e r).2 = true) : MN (uP t u w e r).1 := by
  unfold uP at h ⊢;dsimp only at h ⊢;split at h
  · rename_i hq;rw [if_pos hq];exact RC h
  · rename_i hq;exact absurd h hq
theorem WU {n s : Int} {r : SP} (h : (zE r n s).2 = true) : MN (zE r n s).1 := by
  unfold zE at h ⊢;split at h
  · rename_i hq;rw [if_pos hq];exact RC h
  · cases h
theorem EU.sC {n q : Nat} {w : W} (h : EU n q w) {i : Nat} {r : SP} (hr : MN r) : EU n q (sC w i r) where
  pl := h.pl
  cl := by show (w.2.2.set i r).length = q;rw [hC];exact h.cl
  pr := h.pr
  nd := h.nd
  m0 := h.m0
  m1 := h.m1
  sp x hx := by
    rcases fS hx with hx | rfl
    · exact h.sp x hx
    · exact hr
theorem UL {c : Cx} {n q : Nat} {w : W} {i : Nat} {s : Ev} (h : EU n q w) (hi : i < q) (hs : 0 ≤ s.n) (hm : w.2.1 ≤ 3000000) (hb : (kA c w i s).2 = true) : EU n q (kA c w i s).1 ∧ (kA c w i s).1.1 = w.1 ∧ (kA c w i s).1.2.1 ≤ w.2.1 + 1 := by
  obtain ⟨g1,g2,g3⟩ := h.at hi;unfold kA at hb ⊢;by_cases k0 : s.k = 0
  · rw [if_pos k0] at hb ⊢;split
    · exact ⟨h,rfl,by dsimp only;omega⟩
    · exact ⟨⟨h.pl,h.cl,h.pr,h.nd,by have := h.m0;dsimp only;omega,by dsimp only;omega,h.sp⟩,rfl,by dsimp only;omega⟩
  rw [if_neg k0] at hb ⊢;by_cases k1 : s.k = 1
  · rw [if_pos k1] at hb ⊢;dsimp only at hb ⊢;exact ⟨h.sC (RU hb),rfl,by show w.2.1 ≤ _;omega⟩
  rw [if_neg k1] at hb ⊢;by_cases k2 : s.k = 2
  · rw [if_pos k2] at hb ⊢;dsimp only at hb ⊢;exact ⟨h.sC (WU hb),rfl,by show w.2.1 ≤ _;omega⟩
  rw [if_neg k2] at hb ⊢;by_cases k3 : s.k = 3
  · rw [if_pos k3] at hb ⊢;dsimp only at hb ⊢;unfold vT at hb;simp only [aL,decide_eq_true_eq] at hb;unfold MN at g3;exact ⟨h.sC (show MN (s.n,s.n + 1) from ⟨by dsimp only;omega,by dsimp only;omega,by dsimp only;omega⟩),rfl,by show w.2.1 ≤ _;omega⟩
  rw [if_neg k3] at hb ⊢;split
  · exact ⟨h,rfl,by dsimp only;omega⟩
  · exact ⟨h,rfl,by dsimp only;omega⟩
theorem CP {α : Type} {l : List α} {i k : Nat} {d : α} (hi : i < l.length) (hk : k < l.length) : ((l.set i (l.getD k d)).set k (l.getD i d)).Perm l := by
  have e1 : l.getD k d = l[k] := by rw [aD,aB hk];rfl
  have e2 : l.getD i d = l[i] := by rw [aD,aB hi];rfl
  rw [e1,e2];exact List.set_set_perm hi hk
theorem zL6 {n q : Nat} {w : W} {i k : Nat} (h : EU n q w) (hi : i < q) (hk : k < q) : EU n q (oT w i k) ∧ (oT w i k).1.Perm w.1 := by
  have p1 : (oT w i k).1.Perm w.1 := CP (by rw [h.pl];exact hi) (by rw [h.pl];exact hk)
  have p2 : (oT w i k).2.2.Perm w.2.2 := CP (by rw [h.cl];exact hi) (by rw [h.cl];exact hk)
  exact ⟨⟨p1.length_eq.trans h.pl,p2.length_eq.trans h.cl,fun x hx => h.pr x (p1.mem_iff.1 hx),p1.nodup_iff.2 h.nd,h.m0,h.m1,fun r hr => h.sp r (p2.mem_iff.1 hr)⟩,p1⟩
theorem JV {c : Cx} {M : Int} {gs : List G} (h : nR c M gs) (hM : M ≤ 2200000) {g : G} (hg : g ∈ gs) {s : Ev} (hs : 0 ≤ s.n) (ha : s.a ∈ g.1) (hb : s.k = 4 → s.b ∈ g.1) {w : W} (hw : w ∈ mG c s g) : EU c.bs.length g.1.length w ∧ w.1.Perm (iL g).1 ∧ w.2.1 ≤ M + 1 := by
  have og := h.out.ok g hg;obtain ⟨v,hv,hw⟩ := gG.1 hw;have ov := og.ws v hv;have hvm := h.ml g hg v hv;have hp := og.same v _ hv (jF (h.ne g hg));obtain ⟨hi,_⟩ := xF ha;rcases bH.1 hw with hw | hw
  · split at hw
    · rename_i hbt;obtain rfl := bK.1 hw;obtain ⟨h1,h2,h3⟩ := UL ov hi hs (by omega) hbt
      exact ⟨h1,h2 ▸ hp,by omega⟩
    · cases hw
  · split at hw
    · rename_i hk;obtain rfl := bK.1 hw;obtain ⟨hj,_⟩ := xF (hb hk);obtain ⟨h1,h2⟩ := zL6 ov hi hj;exact ⟨h1,h2.trans hp,by show v.2.1 ≤ _;omega⟩
    · cases hw
theorem TA {c : Cx} {s : Ev} {g : G} : (mG c s g).length ≤ 2 * g.2.length := by
  unfold mG;dsimp only
  induction g.2 with
  | nil => simp
  | cons w l ih =>
    rw [bJ,aF,List.length_cons,aF];have h1 : ∀ {p : Prop} [Decidable p] {x : W},(if p then [x] else []).length ≤ 1 := by
      intro p _ x;split <;> simp
    have := @h1 ((kA c w (g.1.idxOf s.a) s).2 = true) _ (kA c w (g.1.idxOf s.a) s).1;have := @h1 (s.k = 4) _ (oT w (g.1.idxOf s.a) (g.1.idxOf s.b));omega
theorem zG7 {c : Cx} {M M' : Int} {gs : List G} (h : nR c M gs) {i : Nat} {g : G} (hi : gs[i]? = some g) {ws : List W} (hne : ws ≠ []) (hl : ws.length ≤ 1000) (hM : M ≤ M')
    (hw : ∀ w,w ∈ ws → EU c.bs.length g.1.length w ∧ w.1.Perm (iL g).1 ∧ w.2.1 ≤ M') : nR c M' (gs.set i (g.1,ws)) := by
  have hg := aN hi;have og := h.out.ok g hg;obtain ⟨A,B,e1,e2⟩ := pL (y := (g.1,ws)) hi;rw [e2];subst e1;have hmem : ∀ x,x ∈ A ++ (g.1,ws) :: B → x = (g.1,ws) ∨ x ∈ A ++ g :: B := fun x hx => by
    simp only [bH,bS] at hx ⊢;rcases hx with hx | hx | hx
    · exact .inr (.inl hx)
    · exact .inl hx
    · exact .inr (.inr (.inr hx))
  have hbod : ((A ++ (g.1,ws) :: B).flatMap (·.1)) = ((A ++ g :: B).flatMap (·.1)) := by simp only [fT,bJ]
  have hf := (hw _ (jF (g := (g.1,ws)) hne)).2.1;have ok : A4 c.bs.length (g.1,ws) := ⟨og.ne,og.up,og.rg,og.ln,fun w h => (hw w h).1,fun w v h1 h2 => (hw w h1).2.1.trans (hw v h2).2.1.symm⟩;refine ⟨⟨fun x hx => ?_,by rw [hbod];exact h.out.nd,by rw [hbod];exact h.out.ln,fun x hx => ?_⟩,?_,fun x hx => ?_,fun x hx => ?_,by rw [hbod];exact h.cov,?_,fun x hx => ?_⟩
  · rcases hmem x hx with rfl | hx
    · exact ok
    · exact h.out.ok x hx
  · rcases hmem x hx with rfl | hx
    · show ws.length ≤ 2000;omega
    · exact h.out.ws x hx
  · have := H7.1 h.up;refine H7.2 ?_;simp only [bY,List.map_cons] at this ⊢;exact this
  · rcases hmem x hx with rfl | hx
    · exact hne
    · exact h.ne x hx
  · rcases hmem x hx with rfl | hx
    · exact fun w hw' => (hw w hw').2.2
    · exact fun w hw' => H2 (h.ml x hx w hw') hM
  · refine List.Perm.trans ?_ h.idn;simp only [fT,bJ];exact List.Perm.append_left _ (hf.append_right _)
  · rcases hmem x hx with rfl | hx
    · exact hl
    · exact h.wl x hx
theorem JF {g : G} {k : Nat} {w : W} (h : w ∈ (jP g k).2) : ∃ v,v ∈ g.2 ∧ w = zL8 k v := by
  obtain ⟨v,hv,e⟩ := bC.1 (pO h);exact ⟨v,hv,e.symm⟩
theorem PR {g : G} {k : Nat} (h : g.2 ≠ []) : (jP g k).2 ≠ [] := fun e => h (by
  have := P8.1 e
  exact mI.1 this)
theorem zG9 {m : Nat} {M : Int} (hM : 0 ≤ M) : ∀ {g : G},(∀ w,w ∈ g.2 → w.2.1 ≤ M) → ∀ x,x ∈ lN m g → ∀ w,w ∈ x.2 → w.2.1 ≤ M := by
  induction m with
  | zero => intro g h x hx;simp [lN] at hx;subst hx;exact h
  | succ m ih =>
    intro g h x hx;unfold lN at hx;split at hx
    · simp at hx;subst hx;exact h
    · rename_i k hk;rcases bS.1 hx with rfl | hx
      · intro w hw;obtain rfl := bK.1 hw;exact hM
      · refine ih (fun w hw => ?_) x hx;obtain ⟨v,hv,rfl⟩ := JF hw;exact h v hv
theorem WV {m : Nat} : ∀ {g : G},g.2.Pairwise (fun a b => oP a b < 0) → ∀ x,x ∈ lN m g → x.2.Pairwise (fun a b => oP a b < 0) := by
  induction m with
  | zero => intro g h x hx;simp [lN] at hx;subst hx;exact h
  | succ m ih =>
    intro g h x hx;unfold lN at hx;split at hx
    · simp at hx;subst hx;exact h
    · rcases bS.1 hx with rfl | hx
      · exact mC _ _
      · exact ih (Z8 _) x hx
theorem JO {n : Nat} : ∀ (m : Nat) {g : G}, A4 n g → g.2 ≠ [] → ((lN m g).flatMap fun x => (iL x).1).Perm (iL g).1
  | 0,g,h,hne => by simp [lN]
  | m + 1,g,h,hne => by
    unfold lN;split
    · simp
    · rename_i k hk;have hr := PR (k := k) hne;obtain ⟨v,hv,e⟩ := JF (jF hr);have ih := JO m (h.rest hk) hr;rw [bJ];have ofw := h.ws _ (jF hne);have ov := h.ws v hv;obtain ⟨_,_,hkl,hs⟩ := jW hk;have hgv := (hs v hv).1;refine (List.Perm.append_left _ ih).trans ?_;rw [e];show (gP (iL g) k :: (v.1.eraseIdx k)).Perm _;rw [← hgv];exact (jV v.1 k 0 (by rw [ov.pl];exact hkl)).trans (h.same _ _ hv (jF hne))
theorem sE {α β γ : Type} {F : β → List γ} {F' : α → List γ} {P : α → List β} : ∀ {l : List α}, (∀ g, g ∈ l → ((P g).flatMap F).Perm (F' g)) → ((l.flatMap P).flatMap F).Perm (l.flatMap F')
  | [],_ => .refl _
  | g :: l,h => by
    rw [bJ,fT,bJ];exact (h g aR).append (sE fun x hx => h x (aI _ hx))
theorem Q4 {α β γ : Type} {F : β → List γ} {F' : α → List γ} {f : α → β} : ∀ {l : List α}, (∀ g, g ∈ l → (F (f g)).Perm (F' g)) → ((l.map f).flatMap F).Perm (l.flatMap F')
  | [],_ => .refl _
  | g :: l,h => by
    rw [List.map_cons,bJ,bJ];exact (h g aR).append (Q4 fun x hx => h x (aI _ hx))
theorem VU : ∀ {l : List G}, (∀ g, g ∈ l → 0 ≤ gJ g) → 0 ≤ jS l
  | [],_ => eM _
  | g :: l,h => by
    have := VU fun x hx => h x (aI _ hx);have := h g aR;show 0 ≤ gJ g + jS l;omega
theorem VV : ∀ {l : List G}, (∀ g, g ∈ l → 0 ≤ gJ g) → ∀ {g : G}, g ∈ l → gJ g ≤ jS l
  | x :: l,h,g,hg => by
    have h0 := VU fun x hx => h x (aI _ hx);have h1 := h x aR;show gJ g ≤ gJ x + jS l;rcases bS.1 hg with rfl | hg
    · omega
    · have := VV (fun x hx => h x (aI _ hx)) hg;omega
theorem WW {c : Cx} {L : List G} (h : nR c c.m L) (hm0 : 0 ≤ c.m) (hasc : ∀ g,g ∈ L → g.2.Pairwise fun a b => oP a b < 0) : oY c (qR L) := by
  have hp := dK cG (L.flatMap fun g => lN g.1.length g);have hmem : ∀ x,x ∈ qR L → ∃ g,g ∈ L ∧ x ∈ lN g.1.length g := fun x hx => gG.1 (hp.mem_iff.1 hx);have bod : ((qR L).flatMap (·.1)).Perm (L.flatMap (·.1)) := (hp.flatMap_right _).trans (sE fun g hg => zG _ (h.out.ok g hg));have idn : ((qR L).flatMap fun g => (iL g).1).Perm (L.flatMap fun g => (iL g).1) := (hp.flatMap_right _).trans (sE fun g hg => JO _ (h.out.ok g hg) (h.ne g hg));have wl : ∀ x,x ∈ qR L → x.2.length ≤ 1000 := fun x hx => by
    obtain ⟨g,hg,hx⟩ := hmem x hx;exact JN (by omega) (h.wl g hg) x hx
  refine ⟨⟨⟨fun x hx => ?_,bod.nodup_iff.2 h.out.nd,by rw [bod.length_eq];exact h.out.ln,fun x hx => by have := wl x hx;omega⟩,sI _,fun x hx => ?_,fun x hx => ?_,bod.trans h.cov,idn.trans h.idn,wl⟩,fun x hx => ?_,fun x hx => ?_⟩
  all_goals obtain ⟨g,hg,hx⟩ := hmem x hx
  · exact FO _ (h.out.ok g hg) x hx
  · exact zG8 (h.ne g hg) x hx
  · exact zG9 hm0 (h.ml g hg) x hx
  · exact DH _ (h.out.ok g hg) (aX _) x hx
  · exact WV (hasc g hg) x hx
theorem WZ {c : Cx} {M : Int} {gs : List G} (h : nR c M gs) (hne : ∀ g,g ∈ paid c gs → g.2 ≠ []) : nR c c.m (paid c gs) := by
  have h0 : ∀ g,g ∈ gs → 0 ≤ gJ g := fun g hg => (DY (h.out.ok g hg) (h.ne g hg)).1;refine ⟨h.out.paid c,PC h.up,hne,fun g hg w hw => ?_,by rw [N2];exact h.cov,?_,fun g hg => ?_⟩
  · obtain ⟨x,hx,rfl⟩ := bC.1 hg;have := of_decide_eq_true (eJ.1 hw).2;have := VV h0 hx;omega
  · refine List.Perm.trans (Q4 (F' := fun g => (iL g).1) fun g hg => ?_) h.idn;have h1 := hne _ (bC.2 ⟨g,hg,rfl⟩);have h2 := jF h1;exact (h.out.ok g hg).same _ _ (eJ.1 h2).1 (jF (h.ne g hg))
  · obtain ⟨x,hx,rfl⟩ := bC.1 hg;exact bL (fQ _ _) (h.wl x hx)
theorem zE2 {c : Cx} {M : Int} {gs : List G} (h : nR c M gs) (hm0 : 0 ≤ c.m) (hasc : ∀ g,g ∈ gs → g.2.Pairwise fun a b => oP a b < 0) (hne : ∀ g,g ∈ uQ c gs → g.2 ≠ []) : oY c (uQ c gs) := by
  refine WW (WZ h fun g hg e => ?_) hm0 fun g hg => ?_
  · refine hne g ?_ e;refine (dK cG _).mem_iff.2 (gG.2 ⟨g,hg,?_⟩);rw [JM e];exact bK.2 rfl
  · obtain ⟨x,hx,rfl⟩ := bC.1 hg;exact (hasc x hx).sublist List.filter_sublist
theorem mJ {n : Int} {s : Ev} (h : iC n s = true) (hn : n ≤ 1000000) : (0 ≤ s.a ∧ s.a < n) ∧ (s.k = 4 → s.a < s.b ∧ s.b < n) ∧ 0 ≤ s.n ∧ s.n ≤ 1099511627776 := by
  obtain ⟨k,a,b,m,ids⟩ := s;unfold iC at h;simp only [aL,decide_eq_true_eq] at h;obtain ⟨⟨⟨h1,h2⟩,h3⟩,h4⟩ := h;dsimp only;refine ⟨by omega,fun hk => ?_,?_⟩
  · subst hk;simp at h4;omega
  · by_cases k0 : k = 0
    · subst k0;simp at h4;omega
    · rw [if_neg k0] at h4;split at h4
      · simp at h4;omega
      · split at h4
        · simp at h4;omega
        · split at h4
          · simp at h4;omega
          · cases h4
theorem TJ {gs all : List G} {a b : Int} (e : join gs a b = some all) (ha : ∃ g,g ∈ gs ∧ a ∈ g.1) : ∀ g,g ∈ all → g ∈ gs ∨ a ∈ g.1 := by
  intro g hg;obtain ⟨i,x,hi,hix,hax⟩ := iR ha;unfold join at e;dsimp only at e;split at e
  · cases e;exact .inl hg
  · split at e
    · cases e
    · cases e;rcases fS (List.mem_of_mem_eraseIdx hg) with hg | rfl
      · exact .inl hg
      · refine .inr ((mP _ _).mem_iff.2 (bH.2 (.inl ?_)));rw [hi];unfold lY;rw [aD,show ((i : Int)).toNat = i from rfl,hix]
        exact hax
structure yJ (c : Cx) (M : Int) (all : List G) (s : Ev) : Prop where
  mid : nR c M all
  asc : ∀ g,g ∈ all → (g.2.Pairwise fun a b => oP a b < 0) ∨ s.a ∈ g.1
  a : 0 ≤ s.a ∧ s.a < c.bs.length
  b : s.k = 4 → ∃ g,g ∈ all ∧ s.a ∈ g.1 ∧ s.b ∈ g.1
  n0 : 0 ≤ s.n
  n1 : s.n ≤ 1099511627776
theorem yJ.at {c : Cx} {M : Int} {all : List G} {s : Ev} (h : yJ c M all s) : ∃ (i : Nat) (g : G),oS all s.a = (i : Int) ∧ all[i]? = some g ∧ g ∈ all ∧ lY all (oS all s.a).toNat = g ∧ s.a ∈ g.1 ∧ (s.k = 4 → s.b ∈ g.1) := by
  obtain ⟨i,g,hi,hg,ha⟩ := iR (h.mid.find h.a);have hm := aN hg;refine ⟨i,g,hi,hg,hm,?_,ha,fun hk => ?_⟩
  · rw [hi];unfold lY;rw [aD,show ((i : Int)).toNat = i from rfl,hg];rfl
  · obtain ⟨x,hx,h1,h2⟩ := h.b hk;rw [U6 h.mid.out.nd hm hx ha h1];exact h2
theorem yJ.next {c : Cx} {M : Int} {all : List G} {s : Ev} (h : yJ c M all s) (hM : M ≤ 2200000) {i : Nat} {g : G} (hi : all[i]? = some g) (ha : s.a ∈ g.1) (hb : s.k = 4 → s.b ∈ g.1) (hne : gL (mG c s g) ≠ []) (hl : (gL (mG c s g)).length ≤ 1000) :
    nR c (M + 1) (all.set i (g.1,gL (mG c s g))) ∧ ∀ x,x ∈ all.set i (g.1,gL (mG c s g)) → x.2.Pairwise fun a b => oP a b < 0 := by
  have hg := aN hi;refine ⟨zG7 h.mid hi hne hl (by omega) fun w hw => JV h.mid hM hg h.n0 ha hb (pO hw),fun x hx => ?_⟩
  obtain ⟨A,B,e1,e2⟩ := pL (y := (g.1,gL (mG c s g))) hi;rw [e2] at hx;have nd := h.mid.out.nd;have hall : x = (g.1,gL (mG c s g)) ∨ x ∈ all ∧ s.a ∉ x.1 := by
    subst e1;simp only [fT,bJ] at nd;obtain ⟨_,n1,n2⟩ := cT.1 nd;obtain ⟨_,_,n3⟩ := cT.1 n1;simp only [bH,bS] at hx ⊢;rcases hx with hx | hx | hx
    · exact .inr ⟨.inl hx,fun q => n2 _ (oR hx q) _ (bH.2 (.inl ha)) rfl⟩
    · exact .inl hx
    · exact .inr ⟨.inr (.inr hx),fun q => n3 _ ha _ (oR hx q) rfl⟩
  rcases hall with rfl | ⟨h1,h2⟩
  · exact Z8 _
  · exact (h.asc x h1).resolve_right h2
theorem PN {c : Cx} {M : Int} {l all : List G} {s : Ev} (h : yJ c M all s) (hM : M ≤ 2200000) (hm0 : 0 ≤ c.m) (hl : oY c l) : oY c (sW c l all s).2 := by
  obtain ⟨i,g,hi,hg,hgm,hat,ha,hb⟩ := h.at;unfold sW;dsimp only;rw [hat];split
  · exact hl
  · rename_i hne;split
    · exact hl
    · rename_i hwl;split
      · exact hl
      · rename_i hany;obtain ⟨hm,hasc⟩ := h.next hM hg ha hb hne (by omega)
        rw [hi] at hany ⊢;refine zE2 hm hm0 hasc fun x hx e => hany (lD.2 ⟨x,hx,by rw [e];rfl⟩)
theorem vH {c : Cx} {gs : List G} {s : Ev} (h : oY c gs) (hn : c.bs.length ≤ 1000) (hm0 : 0 ≤ c.m) (hr : iC c.bs.length s = true) (hk : s.k ≠ 4) : yJ c c.m gs s := by
  obtain ⟨h1,h2,h3,h4⟩ := mJ hr (by omega)
  exact ⟨h.mid,fun g hg => .inl (h.asc g hg),h1,fun q => absurd q hk,h3,h4⟩
theorem sU {c : Cx} {gs all : List G} {s : Ev} (h : oY c gs) (hn : c.bs.length ≤ 1000) (hm0 : 0 ≤ c.m) (hm1 : c.m ≤ 1048576) (hr : iC c.bs.length s = true) (hk : s.k = 4) (e : join gs s.a s.b = some all) : yJ c (2 * c.m) all s := by
  obtain ⟨h1,h2,h3,h4⟩ := mJ hr (by omega)
  have h2 := h2 hk;obtain ⟨j1,j2⟩ := XV h.mid hm0 hm1 h1 ⟨by omega,by omega⟩ e
  exact ⟨j1,fun g hg => (TJ e (h.mid.find h1) g hg).imp_left fun hg => h.asc g hg,h1,fun _ => j2,h3,h4⟩
theorem nR.n12 {c : Cx} {M : Int} {gs : List G} (h : nR c M gs) : c.bs.length ≤ 12 := by
  have := h.cov.length_eq;have := h.out.ln;simp at *;omega
theorem FI {c : Cx} {gs : List G} {s : Ev} (h : oY c gs) (hm0 : 0 ≤ c.m) (hm1 : c.m ≤ 1048576) : oY c (fK c gs s).2 := by
  have hn := h.mid.n12;unfold fK;split
  · rename_i hr;split
    · rename_i hk;split
      · exact h
      · rename_i all e;exact PN (sU h (by omega) hm0 hm1 hr hk e) (by omega) hm0 h
    · rename_i hk;exact PN (vH h (by omega) hm0 hr hk) (by omega) hm0 h
  · exact h
def IJ (c : Cx) (s : Ev) (g : G) (w : W) : List W :=
  (if (kA c w (g.1.idxOf s.a) s).2 then [(kA c w (g.1.idxOf s.a) s).1] else []) ++ (if s.k = 4 then [oT w (g.1.idxOf s.a) (g.1.idxOf s.b)] else [])
def vM (c : Cx) (s : Ev) (g : G) (k : Nat) : List W := (g.2.take k).flatMap (IJ c s g)
theorem TB (c : Cx) (s : Ev) (g : G) : vM c s g g.2.length = mG c s g := by unfold vM;rw [dA];rfl
theorem AD {c : Cx} {s : Ev} {g : G} {k : Nat} (h : k < g.2.length) : vM c s g (k + 1) = vM c s g k ++ IJ c s g g.2[k] := by
  unfold vM;rw [aU h,fT,bJ,zO6,List.append_nil]
theorem SB {c : Cx} {s : Ev} {g : G} {w : W} : (IJ c s g w).length ≤ 2 := by
  unfold IJ;rw [aF];split <;> split <;> simp
theorem DR {c : Cx} {s : Ev} {g : G} : ∀ {k : Nat}, k ≤ g.2.length → (vM c s g k).length ≤ 2 * k
  | 0,_ => by simp [vM]
  | k + 1,h => by
    rw [AD (by omega),aF]
    have := DR (c := c) (s := s) (g := g) (k := k) (by omega)
    have := SB (c := c) (s := s) (g := g) (w := g.2[k]'(by omega))
    omega
theorem wX (l : List Int) : AB.rf (.arr (Go.Ab.ints l) 1) = true := by
  show (Go.Ab.ints l).all AV.rfL = true;rw [bI];intro e he;obtain ⟨x,_,rfl⟩ := bC.1 he;rfl
theorem WK (l : List SP) : AB.rf (.arr (fJ l) 2) = true := by
  show (fJ l).all AV.rfL = true;rw [bI];intro e he;obtain ⟨x,_,rfl⟩ := bC.1 he;rfl
theorem zG0 (a : List Int) (b : List SP) : [AB.arr (Go.Ab.ints a) 1,.arr (fJ b) 2].all AB.rf = true := by
  simp only [T3,wX,WK,List.all_nil,Bool.and_self]
theorem IE {c : Cx} {n : Nat} {gs : List G} (h : nQ n gs) : nQ n (uQ c gs) := by
  have h := h.paid c;unfold uQ;generalize paid c gs = L at *;have hp := dK cG (L.flatMap fun g => lN g.1.length g);have hmem : ∀ x,x ∈ qR L → ∃ g,g ∈ L ∧ x ∈ lN g.1.length g := fun x hx => gG.1 (hp.mem_iff.1 hx);have bod : ((qR L).flatMap (·.1)).Perm (L.flatMap (·.1)) := (hp.flatMap_right _).trans (sE fun g hg => zG _ (h.ok g hg));refine ⟨fun x hx => ?_,bod.nodup_iff.2 h.nd,by rw [bod.length_eq];exact h.ln,fun x hx => ?_⟩
  all_goals obtain ⟨g,hg,hx⟩ := hmem x hx
  · exact FO _ (h.ok g hg) x hx
  · exact JN (by omega) (h.ws g hg) x hx
abbrev wM (s : Ev) : List AV := [.i s.k,.i s.a,.i s.b,.i s.n,.rowE (Go.Ab.ints s.ids) 1]
end Go.Ld
namespace Go.Proofs.YtmmmeebiobjnbaaGreat
open Go Go.Ab Go.Ld
attribute [local irreducible] VC AW cF aS iZ
set_option maxHeartbeats 4000000
theorem zS3 (g : G) : aS Tryz.prog 67 [UW g] [] (.b g.2.isEmpty) [] := by
  obtain ⟨bs,ws⟩ := g;cases ws with
  | nil =>
    refine bW T Tryz.func67 rfl rfl rfl rfl ?_
    (repeat' (first|refine wS ?_|refine wR ?_|(refine rg 0 (cD (cQ rfl rfl) rfl (aV ?_)))|(refine rg 1 (iB T rfl (qW T rfl (vV (dX rfl rfl) (aV ?_)))))|refine nZ ?_));all_goals first | (exfalso;omega) | exact rQ
  | cons w ws =>
    have hl : (gE (w :: ws)).length ≠ 0 := by rw [fF];simp
    refine bW T Tryz.func67 rfl rfl rfl rfl ?_
    (repeat' (first|refine wS ?_|refine wR ?_|(refine rg 0 (cD (cQ rfl rfl) rfl (aV ?_)))|(refine rg 1 (iB T rfl (qW T rfl (vV (dX rfl rfl) (aV ?_)))))|refine nZ ?_));all_goals first | (exfalso;omega) | exact rQ
noncomputable def zZ7 : Code := match Tryz.f46.body with
  | some (.seq _ (.seq _ (.seq _ (.seq _ c)))) => c
  | _ => .skip
noncomputable def yD7 : Code := match zZ7 with
  | .seq a _ => a
  | _ => .skip
noncomputable def yD8 : Code := match zZ7 with
  | .seq _ b => b
  | _ => .skip
theorem MX (c : Cx) (l all : List G) (s : Ev) {M : Int} (hc : iY c) (h : yJ c M all s) (hM : M ≤ 2200000) (hids : s.ids.length ≤ 9223372036854775807) :
    AW Tryz.prog (Tryz.f46.ntmps,1) yD7 [(0,.ptr 0 0),(3,.pr (wM s) 0),(5,.sl 1 0 all.length 2)] [.cells (jT c l),.arr (kE all) 2] (JY (fun v h => AW Tryz.prog (Tryz.f46.ntmps,1) yD8 v h (WL T Tryz.f46.results.toList 1 (.i (sW c l all s).1) [.cells (jT c (sW c l all s).2)])) (WL T Tryz.f46.results.toList 1 (.i (sW c l all s).1) [.cells (jT c (sW c l all s).2)])) := by
  obtain ⟨i,g,hi,hg,hgm,hat,ha,hb⟩ := h.at;have hn12 := h.mid.n12;have hal : (kE all).length = all.length := jK _;have hl12 : all.length ≤ 12 := bL h.mid.out.len h.mid.out.ln;have og := h.mid.out.ok g hgm;have hwl := h.mid.wl g hgm;have hln := og.ln;have hil := (aA.1 hg).1;have f1 := zN all s.a (by omega) (fun g hg => by have := (h.mid.out.ok g hg).ln;omega)
  have hvw : ∀ {x : AB} {r : Hp},nP (x :: .arr (kE all) 2 :: r) (.sl 1 0 all.length 2) (.rowE (kE all) 2) := fun {x r} => nW rfl hal.symm (qD (fun _ => rfl) _);have hix := xE g.1 s.a (by omega)
  have hxi : xG g.1 s.a 0 = ((g.1.idxOf s.a : Nat) : Int) := by have := B8 g.1 s.a 0 ha;simpa using this
  rw [hxi] at hix;rw [hi] at f1;have q1 := zK (L := all) (j := (i : Int)) (i := i) hg rfl;unfold sW;dsimp only;rw [hat,hi,bQ];obtain ⟨bs,ws⟩ := g;dsimp only at *;have hwsl : (gE ws).length = ws.length := fF _
  (repeat' (first|refine wS ?_|(refine rg 9 (mW rfl (fW T rfl (vV (aJ T rfl rfl rfl rfl) (vV (by exact fB rfl rfl f1 (.cons hvw (.cons (.v _) .nil)) rfl rfl) ?_))));refine aV ?_)|(refine rg 10 (dH rfl (vV (by exact aK T rfl rfl rfl rfl rfl (by omega) (by omega)) ?_));refine fW T rfl (vV (by exact aJ T rfl rfl (bM rfl q1) rfl) ?_);refine vV (by exact eS T rfl rfl rfl rfl) ?_;refine cD (cK T rfl) rfl (bA T rfl rfl rfl rfl rfl rfl (by decide) rfl ?_))|refine nZ ?_));all_goals try (exfalso;omega)
  refine nY 2 1 3 rfl rfl (by decide) ?_
  (repeat' (first|refine wS ?_|refine wB ?_|(refine rg 11 (fW T rfl (vV (aJ T rfl rfl rfl rfl) (fW T rfl (vV (aJ T rfl rfl rfl rfl) (vV (kC (hix)) (aV ?_)))))))|(refine rg 12 (dH rfl (vV (by exact aK T rfl rfl rfl rfl rfl (by omega) (by omega)) ?_));refine fW T rfl (vV (by exact aJ T rfl rfl (bM rfl q1) rfl) ?_);refine qW T rfl (mV ?_))|refine nZ ?_));all_goals try (exfalso;omega)
  refine dQ (X := {k : Nat // k ≤ ws.length}) (fun k => [(0,.ptr 0 0),(3,.pr (wM s) 0),(5,.sl 1 0 all.length 2),(8,.i i),(9,.ptr 2 0),(10,.i (bs.idxOf s.a : Nat)),(63,.rowE (gE ws) 3),(64,.i (gE ws).length),(65,.i k.1)]) (fun k => [.cells (jT c l),.arr (kE all) 2,.cells [.rowE (ints bs) 1,.sl 3 0 (vM c s (bs,ws) k.1).length 3],.arr (gE (vM c s (bs,ws) k.1)) 3]) (fun k => ws.length - k.1) ⟨0,cM _⟩ ⟨[0,1,2,3],rfl,(by repeat first|exact trivial|refine ⟨rfl,?_⟩),⟨.inr rfl,.inr (aC rfl rfl (eH _)),.inr rfl,.inr rfl,trivial⟩,by decide,H3 _⟩ ?_
  rintro ⟨k,hk⟩;dsimp only;by_cases hlt : k < ws.length
  · have hgk := A5 hlt;have hst := AD (c := c) (s := s) (g := (bs,ws)) (k := k) hlt;have hal2 := DR (c := c) (s := s) (g := (bs,ws)) (k := k) hk;have ow := og.ws ws[k] (aQ hlt);obtain ⟨hidx,_⟩ := xF ha;have hbw := ZO c l ws[k] s hc ow rfl hidx (by show bs.length ≤ 1000;omega) hids ⟨h.n0,h.n1⟩
    obtain ⟨e1,e2⟩ := GU c ws[k] (bs.idxOf s.a) s;have hk4 : s.k = 4 → (kA c ws[k] (bs.idxOf s.a) s).2 = true := fun q => by unfold kA;rw [q];rfl
    have hex : s.k = 4 → ∃ j : Nat,xG bs s.b 0 = (j : Int) ∧ j = bs.idxOf s.b ∧ j < bs.length := fun q => by
      obtain ⟨hj,_⟩ := xF (hb q);exact ⟨bs.idxOf s.b,by have := B8 bs s.b 0 (hb q);simpa using this,rfl,hj⟩
    have hiy := xE bs s.b (by omega)
    unfold IJ at hst;dsimp only at hst;have hpl := ow.pl;have hcl := ow.cl;have hal3 : (gE (vM c s (bs,ws) k)).length = (vM c s (bs,ws) k).length := fF _;generalize vM c s (bs,ws) k = acc at *;generalize hN : vM c s (bs,ws) (k + 1) = acc' at *;generalize bs.idxOf s.a = ia at *;generalize hw : ws[k] = w at *;generalize kA c w ia s = z at *;obtain ⟨⟨zp,zm,zc⟩,zb⟩ := z;dsimp only at e1 e2 hst hk4 hbw;subst e1;obtain ⟨wp,wm,wc⟩ := w;dsimp only at *;have hz1 : (ints wp).length = wp.length := cW _;have hz2 : (fJ zc).length = zc.length := iH _
    (repeat' (first|refine wS ?_|refine wB ?_|refine wK ?_|(refine wC rfl ?_ ?_<;>(intro hb;(try simp only [nm] at hb);try (exfalso;omega)))|(refine rg 13 (vV (aM rfl rfl) ?_))|(refine rg 14 (vV (ix T rfl (by omega) (pD _) hgk) (lW T rfl (cD (cK T rfl) rfl (bA T rfl rfl rfl rfl rfl rfl (by decide) rfl ?_)))))|refine nZ ?_));all_goals try (exfalso;omega)
    refine gY 12 (cs := wA (wp,wm,wc)) rfl rfl rfl ?_
    (repeat' (first|refine wS ?_|(refine rg 15 (mW rfl (lW T rfl (mW rfl (lW T rfl (cD (by exact fL rfl rfl hbw (.inl ⟨.cons (.ptr rfl (kV _ rfl)) (.cons (EZ _) (.cons (.v _) (.cons (.agg (kV _ rfl)) .nil))),zG0 _ _⟩)) rfl ?_)))));refine mW rfl (xW rfl (xW rfl (cD (cK T rfl) rfl (bA T rfl rfl rfl rfl rfl rfl (by decide) rfl (aV ?_))))))|refine nZ ?_));all_goals try (exfalso;omega)
    refine fC [(0, .ptr 0 0), (3, .pr (wM s) 0), (5, .sl 1 0 all.length 2), (8, .i i), (9, .ptr 2 0), (10, .i ia), (63, .rowE (gE ws) 3), (64, .i (gE ws).length), (65, .i k), (12, .pr (wA (wp, wm, wc)) 0), (13, .ptr 6 0), (14, .b zb)] [.cells (jT c l), .arr (kE all) 2, .cells [.rowE (ints bs) 1, .sl 3 0 acc.length 3], .arr (gE acc) 3, .arr (ints wp) 1, .arr (fJ zc) 2, .cells [.sl 4 0 wp.length 1, .i zm, .sl 5 0 wc.length 2]]
      ⟨[0,1,2,3,5,6,7],rfl,(by repeat first|exact trivial|refine ⟨rfl,?_⟩),⟨.inr rfl,.inr (aC rfl rfl (eH _)),.inr rfl,.inr (aC rfl rfl (bU _)),.inr (aC rfl (bE _ (bB _)) (bB _)),.inr (aC rfl (bE _ (eZ _)) (eZ _)),.inr rfl,trivial⟩,by decide,H3 _⟩ ?_
    refine nK 6 0 (es := ints wp) rfl rfl rfl hz1.symm (fX (bB _)) ?_;refine nK 6 2 (es := fJ zc) rfl rfl rfl (by omega) (fX (eZ _)) ?_
    refine gY 13 (cs := wA (wp,zm,zc)) rfl rfl rfl ?_;refine fC [(0, .ptr 0 0), (3, .pr (wM s) 0), (5, .sl 1 0 all.length 2), (8, .i i), (9, .ptr 2 0), (10, .i ia), (63, .rowE (gE ws) 3), (64, .i (gE ws).length), (65, .i k), (12, .pr (wA (wp, wm, wc)) 0), (13, .pr (wA (wp, zm, zc)) 0), (14, .b zb)] [.cells (jT c l), .arr (kE all) 2, .cells [.rowE (ints bs) 1, .sl 3 0 acc.length 3], .arr (gE acc) 3]
      ⟨[0,1,2,3],rfl,(by repeat first|exact trivial|refine ⟨rfl,?_⟩),⟨.inr rfl,.inr (aC rfl rfl (eH _)),.inr rfl,.inr (aC rfl rfl (bU _)),trivial⟩,by decide,H3 _⟩ ?_
    have hA1 : ∀ (l : List W) (w : W),gE (l ++ [w]) = gE l ++ [wA w] := fun l w => by rw [gE,bY];rfl
    by_cases k4 : s.k = 4
    · obtain rfl := hk4 k4;rw [if_pos rfl,if_pos k4] at hst;obtain ⟨j,hj1,hj2,hj3⟩ := hex k4;rw [hj1] at hiy;rw [← hj2] at hst;have hxc := zV7 (wp,wm,wc) (i := ia) (k := j) ⟨by dsimp only;omega,by dsimp only;omega⟩ (by dsimp only;omega) (by dsimp only;omega) (by dsimp only;omega)
      generalize oT (wp,wm,wc) ia j = u at *;obtain ⟨up,um,uc⟩ := u;have hW := hA1 acc (wp,zm,zc);have hW2 := hA1 (acc ++ [(wp,zm,zc)]) (up,um,uc);rw [bV,← hst] at hW2;have hacl : acc'.length = acc.length + 2 := by rw [hst];simp
      have hWl : (gE (acc ++ [(wp,zm,zc)])).length = acc.length + 1 := by rw [fF];simp
      have hidA := bU (acc ++ [(wp,zm,zc)]);generalize gE (acc ++ [(wp,zm,zc)]) = B at *;generalize gE acc = A at *
      (repeat' (first|refine wS ?_|refine wT ?_|(refine rg 16 (mV ?_))|(refine rg 17 (iB T rfl (lW T rfl (cD (by exact bD T rfl rfl (by decide) (by decide) rfl rfl rfl) rfl ?_)));refine fY T rfl rfl rfl rfl rfl rfl (by omega) (jJ.whole rfl rfl) rfl (by simp;omega) (by simp;omega) rfl ?_;refine fW T rfl (bA T rfl rfl rfl rfl rfl rfl (by decide) rfl ?_))|refine nZ ?_));all_goals try (exfalso;omega)
      refine fC [(0, .ptr 0 0), (3, .pr (wM s) 0), (5, .sl 1 0 all.length 2), (8, .i i), (9, .ptr 2 0), (10, .i ia), (63, .rowE (gE ws) 3), (64, .i (gE ws).length), (65, .i k), (12, .pr (wA (wp, wm, wc)) 0)] [.cells (jT c l), .arr (kE all) 2, .cells [.rowE (ints bs) 1, .sl 3 0 (acc.length + 1) 3], .arr B 3]
        ⟨[0,1,2,5],rfl,(by repeat first|exact trivial|refine ⟨rfl,?_⟩),⟨.inr rfl,.inr (aC rfl rfl (eH _)),.inr rfl,.inr (aC rfl (by rw [hW];exact jN hal3.symm) hidA),trivial⟩,by decide,H3 _⟩ ?_
      (repeat' (first|refine wT ?_|(refine rg 18 (iB T rfl (vV (kZ rfl rfl k4) ?_)))|(refine mH (id := 19) 128 [[],[0],[],[],[],[4],[],[6],rM 4 4,rM 2 7,rM 2 8,rN 11] (rM 87 12) [[],[],[87,88],[87,88,89],rM 87 4,rM 87 4,rM 87 6,rM 87 6,rM 87 4,[87,88],[87,88],[]] [(11,3)] cO rfl (by decide +kernel) (cE rfl rfl rfl rfl (by exact bF T rfl rfl rfl) ?_);refine cE rfl rfl rfl rfl (by exact aJ T rfl rfl rfl rfl) ?_;refine cE rfl rfl rfl rfl (by exact aJ T rfl rfl rfl rfl) ?_;refine cE rfl rfl rfl rfl (by exact bN rfl) ?_;refine cE rfl rfl rfl rfl (by exact bF T rfl rfl rfl) ?_;refine cE rfl rfl rfl rfl (by exact aJ T rfl rfl rfl rfl) ?_;refine cE rfl rfl rfl rfl (by exact bF T rfl rfl rfl) ?_;refine cE rfl rfl rfl rfl (by exact aJ T rfl rfl rfl rfl) ?_;refine cE rfl rfl rfl rfl (by exact kC (hiy)) ?_;refine cE rfl rfl rfl rfl (by exact kC (hxc)) ?_;refine uJ rfl rfl rfl rfl (by exact bD T rfl rfl (by decide) (by decide) rfl rfl rfl) rfl ?_;refine mQ rfl rfl rfl rfl (aG rfl) (by exact lL T rfl rfl rfl rfl rfl rfl (by omega) (jJ.whole rfl rfl) rfl (by simp;omega) (by simp;omega)) ?_;refine qK rfl rfl rfl (by exact rfl) ?_;refine fW T rfl (bA T rfl rfl rfl rfl rfl rfl (by decide) rfl ?_))|(refine rg 20 (vV (cC rfl rfl (by omega) (by omega)) (mV ?_)))|refine nZ ?_));all_goals try (exfalso;omega)
      exact ⟨⟨k + 1,hlt⟩,by dsimp only;omega,⟨[0,1,2,5],rfl,(by repeat first|exact trivial|refine ⟨rfl,?_⟩),⟨.inr rfl,.inr (aC rfl rfl (eH _)),.inr (by dsimp only;rw [hN,hacl];rfl),.inr (aC rfl (by dsimp only;rw [hN,hW2];exact jN hWl.symm) (bU _)),trivial⟩,by decide,H3 _⟩⟩
    · rw [if_neg k4,List.append_nil] at hst;cases zb with
      | true =>
        rw [if_pos rfl] at hst;have hW := hA1 acc (wp,zm,zc);rw [← hst] at hW;have hacl : acc'.length = acc.length + 1 := by rw [hst];simp
        generalize gE acc = A at *
        (repeat' (first|refine wS ?_|refine wK ?_|refine wT ?_|refine wU ?_|(refine rg 16 (mV ?_))|(refine rg 17 (iB T rfl (lW T rfl (cD (by exact bD T rfl rfl (by decide) (by decide) rfl rfl rfl) rfl ?_)));refine fY T rfl rfl rfl rfl rfl rfl (by omega) (jJ.whole rfl rfl) rfl (by simp;omega) (by simp;omega) rfl ?_;refine fW T rfl (bA T rfl rfl rfl rfl rfl rfl (by decide) rfl ?_))|(refine rg 18 (iB T rfl (vV (gX rfl rfl (by omega)) ?_)))|(refine rg 20 (vV (cC rfl rfl (by omega) (by omega)) (mV ?_)))|refine nZ ?_));all_goals try (exfalso;omega)
        exact ⟨⟨k + 1,hlt⟩,by dsimp only;omega,⟨[0,1,2,5],rfl,(by repeat first|exact trivial|refine ⟨rfl,?_⟩),⟨.inr rfl,.inr (aC rfl rfl (eH _)),.inr (by dsimp only;rw [hN,hacl];rfl),.inr (aC rfl (by dsimp only;rw [hN,hW];exact jN hal3.symm) (bU _)),trivial⟩,by decide,H3 _⟩⟩
      | false =>
        rw [if_neg (by simp),List.append_nil] at hst
        subst hst
        (repeat' (first|refine wS ?_|refine wK ?_|refine wU ?_|(refine rg 16 (mV ?_))|(refine rg 18 (iB T rfl (vV (gX rfl rfl (by omega)) ?_)))|(refine rg 20 (vV (cC rfl rfl (by omega) (by omega)) (mV ?_)))|refine nZ ?_));all_goals try (exfalso;omega)
        exact ⟨⟨k + 1,hlt⟩,by dsimp only;omega,⟨[0,1,2,3],rfl,(by repeat first|exact trivial|refine ⟨rfl,?_⟩),⟨.inr rfl,.inr (aC rfl rfl (eH _)),.inr (by dsimp only;rw [hN];rfl),.inr (aC rfl (by dsimp only;rw [hN]) (bU _)),trivial⟩,by decide,H3 _⟩⟩
  · obtain rfl : k = ws.length := by omega
    have hNA := TB c s (bs,ws);dsimp only at hNA;rw [hNA];have hnl := TA (c := c) (s := s) (g := (bs,ws));dsimp only at hnl;have hno : ∀ w,w ∈ mG c s (bs,ws) → EU c.bs.length bs.length w := fun w hw => (JV h.mid hM hgm h.n0 ha hb hw).1;have hoc := DM (mG c s (bs,ws)) (by omega) (fun w hw => ⟨by have := (hno w hw).pl;omega,by have := (hno w hw).cl;omega⟩)
    have hnx := h.next hM hg ha hb
    dsimp only at hnx;have hol := rP (mG c s (bs,ws));have hNl : (gE (mG c s (bs,ws))).length = (mG c s (bs,ws)).length := fF _;generalize mG c s (bs,ws) = nw at *
    (repeat' (first|refine wS ?_|refine wE ?_|(refine wC rfl ?_ ?_<;>(intro hb;(try simp only [nm] at hb);try (exfalso;omega)))|(refine rg 13 (vV (aM rfl rfl) ?_))|refine nZ ?_));all_goals try (exfalso;omega)
    refine nK 2 1 (es := gE nw) rfl rfl rfl hNl.symm (fX (bU _)) ?_;generalize gL nw = ow at *;have how : (gE ow).length = ow.length := fF _
    (repeat' (first|refine wS ?_|refine wB ?_|(refine rg 21 (iB T rfl (vV (kC (hoc)) (fW T rfl (bA T rfl rfl rfl rfl rfl rfl (by decide) rfl ?_)))))|refine nZ ?_));all_goals try (exfalso;omega)
    refine fC [(0,.ptr 0 0),(3,.pr (wM s) 0),(5,.sl 1 0 all.length 2),(8,.i i),(9,.ptr 2 0)] [.cells (jT c l),.arr (kE all) 2,.cells (gA (bs,ow))] ⟨[0,1,2],rfl,(by repeat first|exact trivial|refine ⟨rfl,?_⟩),⟨.inr rfl,.inr (aC rfl rfl (eH _)),.inr rfl,trivial⟩,by decide,H3 _⟩ ?_
    by_cases h0 : ow = []
    · subst h0;rw [if_pos rfl]
      (repeat' (first|refine wS ?_|refine wR ?_|refine wT ?_|(refine rg 22 (iB T rfl (qW T rfl (vV (dX rfl rfl) (aV ?_)))))|(refine rg 23 (aV ?_))|refine nZ ?_));all_goals try (exfalso;omega)
      exact ⟨.inl rfl,[0],_,rfl,rfl,rfl,⟨.inr rfl,trivial⟩,by decide,H3 _⟩
    · rw [if_neg h0];have hop := fH.2 h0;by_cases h1 : 1000 < ow.length
      · rw [if_pos h1]
        (repeat' (first|refine wS ?_|refine wR ?_|(refine wC rfl ?_ ?_<;>(intro hb;(try simp only [nm] at hb);try (exfalso;omega)))|(refine rg 22 (iB T rfl (qW T rfl (vV (dX rfl rfl) (aV ?_)))))|(refine rg 24 (iB T rfl (qW T rfl (vV (eU rfl rfl) (aV ?_)))))|(refine rg 25 (aV ?_))|refine nZ ?_));all_goals try (exfalso;omega)
        exact ⟨.inl rfl,[0],_,rfl,rfl,rfl,⟨.inr rfl,trivial⟩,by decide,H3 _⟩
      · rw [if_neg h1];obtain ⟨hm1,hasc⟩ := hnx h0 (by omega)
        have hty := zE3 c l (all.set i (bs,ow)) hm1.out hm1.up hm1.ne;have hset := J1 (L := all) (j := (i : Int)) (i := i) (x := (bs,ow)) rfl;have hto := (IE hm1.out (c := c)).len;have hto2 := (IE hm1.out (c := c)).ln;have hcf := zU7 (l := uQ c (all.set i (bs,ow))) (F := 67) (caps := []) (p := fun g => g.2.isEmpty) (by omega) rfl (fun x hx => zS3 x)
        have hNl2 : all.length = (kE (all.set i (bs,ow))).length := by rw [jK,hC]
        (repeat' (first|refine wS ?_|refine wK ?_|(refine wC rfl ?_ ?_<;>(intro hb;(try simp only [nm] at hb);try (exfalso;omega)))|(refine rg 22 (iB T rfl (qW T rfl (vV (dX rfl rfl) (aV ?_)))))|(refine rg 24 (iB T rfl (qW T rfl (vV (eU rfl rfl) (aV ?_)))))|(refine rg 26 (dH rfl (lW T rfl (vV (by exact aK T rfl rfl rfl rfl rfl (by omega) (by omega)) ?_)));refine bA T rfl rfl rfl rfl rfl rfl (by decide) (lZ rfl q1 rfl) ?_)|refine nZ ?_));all_goals try (exfalso;omega)
        generalize all.set i (bs,ow) = N at *;refine fC [(0,.ptr 0 0),(5,.sl 1 0 all.length 2)] [.cells (jT c l),.arr (kE N) 2] ⟨[0,1],rfl,(by repeat first|exact trivial|refine ⟨rfl,?_⟩),⟨.inr rfl,.inr (aC rfl hset (eH _)),trivial⟩,by decide,H3 _⟩ ?_
        refine OM 5 (es := kE N) rfl rfl hNl2 (fX (eH _)) ?_;generalize uQ c N = out at *
        (repeat' (first|refine wS ?_|(refine rg 27 (dH rfl (eP [0] rfl rfl (hty) rfl rfl (by decide) ⟨.inr rfl,trivial⟩ (by simp) rfl ?_));refine aV ?_)|refine nZ ?_));all_goals try (exfalso;omega)
        cases hany : out.any fun g => g.2.isEmpty with
        | true =>
          rw [hany] at hcf;rw [if_pos rfl]
          (repeat' (first|refine wS ?_|refine wR ?_|refine wT ?_|(refine rg 28 (mW rfl (vV (kC (hcf)) ?_)))|(refine rg 29 (aV ?_))|refine nZ ?_));all_goals try (exfalso;omega)
          exact ⟨.inl rfl,[0],_,rfl,rfl,rfl,⟨.inr rfl,trivial⟩,by decide,H3 _⟩
        | false =>
          rw [hany] at hcf;rw [if_neg (by simp)]
          (repeat' (first|refine wS ?_|refine wK ?_|refine wR ?_|refine wU ?_|(refine rg 28 (mW rfl (vV (kC (hcf)) ?_)))|(refine rg 30 (dH rfl (nV ?_));refine fW T rfl (bA T rfl rfl rfl rfl rfl rfl (by decide) rfl ?_))|(refine rg 31 (aV ?_))|refine nZ ?_));all_goals try (exfalso;omega)
          exact ⟨.inl rfl,[0],_,rfl,rfl,rfl,⟨.inr rfl,trivial⟩,by decide,H3 _⟩
theorem zP4 (c : Cx) (gs : List G) (s : Ev) (hc : iY c) (h : oY c gs) (hids : s.ids.length ≤ 9223372036854775807) :
    aS Tryz.prog 46 [.ptr 0 0,zV8 s] [.cells (jT c gs)] (.i (fK c gs s).1) [.cells (jT c (fK c gs s).2)] := by
  have hn12 := h.mid.n12;obtain ⟨hm0,hm1,_⟩ := hc.s;have hgl : (kE gs).length = gs.length := jK _;have hgl12 : gs.length ≤ 12 := bL h.mid.out.len h.mid.out.ln;have hbl : (dR c.bs).length = c.bs.length := aY _;have hright := JE c.bs.length s.k s.a s.b s.n s.ids hids ⟨by omega,by omega⟩
  have hcl := K4 gs (by omega)
  have hst := vH (s := s) h (by omega) hm0
  have hjo := fun (hr : iC c.bs.length s = true) (hk : s.k = 4) (all : List G) => sU (s := s) (all := all) h (by omega) hm0 hm1 hr hk
  unfold fK;generalize hv : iC c.bs.length s = v at *;rw [← hbl] at hright;cases v with
  | false =>
    rw [if_neg (by simp)]
    refine bW T Tryz.func46 rfl rfl rfl rfl ?_
    (repeat' (first|refine wS ?_|(refine rg 0 (cD (cQ rfl rfl) rfl (aV ?_)))|refine nZ ?_));refine gY 3 (cs := wM s) rfl rfl rfl ?_
    (repeat' (first|refine wS ?_|refine wR ?_|refine wT ?_|(refine cH (id := 1) 128 yM7 (rM 15 8) yM8 cO rfl (by decide +kernel) (dN rfl (dV rfl (by exact cJ rfl rfl) ?_));refine dP T rfl (dO T rfl (dV rfl (lK T rfl rfl) (dO T rfl (dV rfl (kC (hright)) (dV rfl (dI rfl) (dE ?_)))))))|(refine rg 2 (aV ?_))|refine nZ ?_));all_goals try (exfalso;omega)
    exact ⟨.inl rfl,[0],_,rfl,rfl,rfl,⟨.inr rfl,trivial⟩,by decide,H3 _⟩
  | true =>
    rw [if_pos rfl];by_cases k4 : s.k = 4
    · rw [if_pos k4];obtain ⟨r1,r2,_⟩ := mJ hv (by omega)
      have r2 := r2 k4;have fa := h.mid.find r1;have fb := h.mid.find (b := s.b) ⟨by omega,by omega⟩
      cases hj : join gs s.a s.b with
      | none =>
        dsimp only;have hjc := zJ0 gs s.a s.b h.mid.out fa fb hj;refine bW T Tryz.func46 rfl rfl rfl rfl ?_
        (repeat' (first|refine wS ?_|(refine rg 0 (cD (cQ rfl rfl) rfl (aV ?_)))|refine nZ ?_));refine gY 3 (cs := wM s) rfl rfl rfl ?_
        (repeat' (first|refine wS ?_|refine wK ?_|refine wU ?_|(refine cH (id := 1) 128 yM7 (rM 15 8) yM8 cO rfl (by decide +kernel) (dN rfl (dV rfl (by exact cJ rfl rfl) ?_));refine dP T rfl (dO T rfl (dV rfl (lK T rfl rfl) (dO T rfl (dV rfl (kC (hright)) (dV rfl (dI rfl) (dE ?_)))))))|(refine rg 3 (mW rfl (nV ?_));refine iB T rfl (cD (by exact fL rfl rfl hcl (.inr ⟨rfl,rfl,by simp⟩)) rfl ?_);refine aV ?_)|refine nZ ?_));all_goals try (exfalso;omega)
        refine fC [(0,.ptr 0 0),(3,.pr (wM s) 0),(5,.sl 1 0 gs.length 2)] [.cells (jT c gs),.arr (kE gs) 2] ⟨[0,2],rfl,(by repeat first|exact trivial|refine ⟨rfl,?_⟩),⟨.inr rfl,.inr (aC rfl (bE _ (eH _)) (eH _)),trivial⟩,by decide,H3 _⟩ ?_
        refine OM 5 (es := kE gs) rfl rfl hgl.symm (fX (eH _)) ?_
        (repeat' (first|refine wS ?_|refine wR ?_|refine wT ?_|(refine rg 4 (iB T rfl (vV (kZ rfl rfl k4) ?_)))|(refine rg 5 (mW rfl (iB T rfl (iB T rfl (vV (kC (hjc)) (mW rfl (xW rfl (xW rfl (rK ?_)))))))))|(refine rg 6 (mW rfl (vV (fZ rfl rfl) ?_)))|(refine rg 7 (mW rfl (aV ?_)))|refine nZ ?_));all_goals try (exfalso;omega)
        exact ⟨.inl rfl,[0],_,rfl,rfl,rfl,⟨.inr rfl,trivial⟩,by decide,H3 _⟩
      | some all =>
        dsimp only;have hso := hjo rfl k4 all hj;refine bW T Tryz.func46 rfl rfl rfl rfl ?_
        (repeat' (first|refine wS ?_|(refine rg 0 (cD (cQ rfl rfl) rfl (aV ?_)))|refine nZ ?_));refine gY 3 (cs := wM s) rfl rfl rfl ?_
        (repeat' (first|refine wS ?_|refine wK ?_|refine wU ?_|(refine cH (id := 1) 128 yM7 (rM 15 8) yM8 cO rfl (by decide +kernel) (dN rfl (dV rfl (by exact cJ rfl rfl) ?_));refine dP T rfl (dO T rfl (dV rfl (lK T rfl rfl) (dO T rfl (dV rfl (kC (hright)) (dV rfl (dI rfl) (dE ?_)))))))|(refine rg 3 (mW rfl (nV ?_));refine iB T rfl (cD (by exact fL rfl rfl hcl (.inr ⟨rfl,rfl,by simp⟩)) rfl ?_);refine aV ?_)|refine nZ ?_));all_goals try (exfalso;omega)
        refine fC [(0,.ptr 0 0),(3,.pr (wM s) 0),(5,.sl 1 0 gs.length 2)] [.cells (jT c gs),.arr (kE gs) 2] ⟨[0,2],rfl,(by repeat first|exact trivial|refine ⟨rfl,?_⟩),⟨.inr rfl,.inr (aC rfl (bE _ (eH _)) (eH _)),trivial⟩,by decide,H3 _⟩ ?_
        by_cases hs : oS gs s.a = oS gs s.b
        · have hjc := zI8 gs s.a s.b h.mid.out fa fb hs;have : all = gs := by unfold join at hj;dsimp only at hj;rw [if_pos hs] at hj;exact (Option.some.inj hj).symm
          subst this
          (repeat' (first|refine wS ?_|refine wK ?_|refine wT ?_|refine wU ?_|(refine rg 4 (iB T rfl (vV (kZ rfl rfl k4) ?_)))|(refine rg 5 (mW rfl (iB T rfl (iB T rfl (eP [1] rfl rfl (hjc) rfl rfl (by decide) ⟨.inr (aC rfl rfl (eH _)),trivial⟩ (by simp) rfl ?_))));refine mW rfl (xW rfl (xW rfl (rK ?_))))|(refine rg 6 (mW rfl (vV (fZ rfl rfl) ?_)))|(refine rg 8 (mW rfl (aV ?_)))|refine nZ ?_));all_goals try (exfalso;omega)
          refine fC [(0,.ptr 0 0),(3,.pr (wM s) 0),(5,.sl 1 0 all.length 2)] [.cells (jT c all),.arr (kE all) 2] ⟨[0,1],rfl,(by repeat first|exact trivial|refine ⟨rfl,?_⟩),⟨.inr rfl,.inr (aC rfl (bE _ (eH _)) (eH _)),trivial⟩,by decide,H3 _⟩ ?_
          exact MX c all all s hc hso (by omega) hids
        · have hjc := zI9 gs s.a s.b h.mid.out fa fb hj hs;refine OM 5 (es := kE gs) rfl rfl hgl.symm (fX (eH _)) ?_
          (repeat' (first|refine wS ?_|refine wK ?_|refine wT ?_|refine wU ?_|(refine rg 4 (iB T rfl (vV (kZ rfl rfl k4) ?_)))|(refine rg 5 (mW rfl (iB T rfl (iB T rfl (cD (by exact fL rfl rfl hjc (.inr ⟨rfl,rfl,by simp⟩)) rfl ?_))));refine mW rfl (xW rfl (xW rfl (rK ?_))))|(refine rg 6 (mW rfl (vV (fZ rfl rfl) ?_)))|(refine rg 8 (mW rfl (aV ?_)))|refine nZ ?_));all_goals try (exfalso;omega)
          refine fC [(0,.ptr 0 0),(3,.pr (wM s) 0),(5,.sl 1 0 all.length 2)] [.cells (jT c gs),.arr (kE all) 2] ⟨[0,2],rfl,(by repeat first|exact trivial|refine ⟨rfl,?_⟩),⟨.inr rfl,.inr (aC rfl (bE _ (eH _)) (eH _)),trivial⟩,by decide,H3 _⟩ ?_
          exact MX c gs all s hc hso (by omega) hids
    · rw [if_neg k4];refine bW T Tryz.func46 rfl rfl rfl rfl ?_
      (repeat' (first|refine wS ?_|(refine rg 0 (cD (cQ rfl rfl) rfl (aV ?_)))|refine nZ ?_));refine gY 3 (cs := wM s) rfl rfl rfl ?_
      (repeat' (first|refine wS ?_|refine wK ?_|refine wU ?_|(refine cH (id := 1) 128 yM7 (rM 15 8) yM8 cO rfl (by decide +kernel) (dN rfl (dV rfl (by exact cJ rfl rfl) ?_));refine dP T rfl (dO T rfl (dV rfl (lK T rfl rfl) (dO T rfl (dV rfl (kC (hright)) (dV rfl (dI rfl) (dE ?_)))))))|(refine rg 3 (mW rfl (nV ?_));refine iB T rfl (cD (by exact fL rfl rfl hcl (.inr ⟨rfl,rfl,by simp⟩)) rfl ?_);refine aV ?_)|(refine rg 4 (iB T rfl (vV (gX rfl rfl (by omega)) ?_)))|refine nZ ?_));all_goals try (exfalso;omega)
      refine fC [(0,.ptr 0 0),(3,.pr (wM s) 0),(5,.sl 1 0 gs.length 2)] [.cells (jT c gs),.arr (kE gs) 2] ⟨[0,2],rfl,(by repeat first|exact trivial|refine ⟨rfl,?_⟩),⟨.inr rfl,.inr (aC rfl (bE _ (eH _)) (eH _)),trivial⟩,by decide,H3 _⟩ ?_
      exact MX c gs gs s hc (hst rfl k4) (by omega) hids
end Go.Proofs.YtmmmeebiobjnbaaGreat
namespace Go.Ld
open Go.Ab Go.Proofs.YtmmmeebiobjnbaaGreat
def T0 (c : Cx) (i : Nat) : G := ([(i : Int)],[([(i : Int)],0,[((c.bs.getD i (0,0,0)).2.1,(c.bs.getD i (0,0,0)).2.1 + 1)])])
theorem xB (c : Cx) : pT c = (List.range c.bs.length).map (T0 c) := rfl
theorem AQ {α β : Type} (f : α → β) : ∀ l : List α, (l.flatMap fun x => [f x]) = l.map f
  | [] => rfl
  | x :: l => by rw [bJ,AQ f l];rfl
theorem XN {c : Cx} (hc : iY c) (hn : c.bs.length ≤ 12) (hm : 0 ≤ c.m) : oY c (pT c) := by
  rw [xB];have hmem : ∀ g,g ∈ (List.range c.bs.length).map (T0 c) → ∃ i,i < c.bs.length ∧ g = T0 c i := fun g hg => by
    obtain ⟨i,hi,e⟩ := bC.1 hg;exact ⟨i,eW.1 hi,e.symm⟩
  have fl : (((List.range c.bs.length).map (T0 c)).flatMap (·.1)) = nats (List.range c.bs.length) := by
    rw [BT];exact AQ _ _
  have fw : (((List.range c.bs.length).map (T0 c)).flatMap fun g => (iL g).1) = nats (List.range c.bs.length) := by
    rw [BT];exact AQ _ _
  refine ⟨⟨⟨fun g hg => ?_,by rw [fl];exact B3 _,by rw [fl];simpa using hn,fun g hg => ?_⟩,?_,fun g hg => ?_,fun g hg w hw => ?_,by rw [fl],by rw [fw],fun g hg => ?_⟩,fun g hg => ?_,fun g hg => ?_⟩
  · obtain ⟨i,hi,rfl⟩ := hmem g hg;have hb := hc.f.b i hi;have e : c.bs.getD i (0,0,0) = c.bs[i] := by rw [aD,aB hi];rfl
    unfold T0;rw [e];generalize c.bs[i] = x at *;refine ⟨by simp,mC _ _,fun b hb => by obtain rfl := bK.1 hb;omega,by simp,fun w hw => ?_,fun w v hw hv => by obtain rfl := bK.1 hw;obtain rfl := bK.1 hv;exact .refl _⟩
    obtain rfl := bK.1 hw;refine ⟨rfl,rfl,fun b hb => by obtain rfl := bK.1 hb;omega,mC _ _,eM _,by dsimp only;omega,fun r hr => ?_⟩
    obtain rfl := bK.1 hr;unfold MN;dsimp only;omega
  · obtain ⟨i,hi,rfl⟩ := hmem g hg;show 1 ≤ 2000;omega
  · refine H7.2 ?_;rw [CG];show ((List.range c.bs.length).map fun i : Nat => ((i : Int))).Pairwise _;refine zC5.2 ((CF).imp fun {a b} h => by omega)
  · obtain ⟨i,hi,rfl⟩ := hmem g hg;unfold T0;simp
  · obtain ⟨i,hi,rfl⟩ := hmem g hg;obtain rfl := bK.1 hw;exact hm
  · obtain ⟨i,hi,rfl⟩ := hmem g hg;show 1 ≤ 1000;omega
  · obtain ⟨i,hi,rfl⟩ := hmem g hg;unfold iI;rw [if_pos (.inl (by show 1 < 2;omega))]
  · obtain ⟨i,hi,rfl⟩ := hmem g hg;exact mC _ _
def T1 (gs : List G) (b : Int) : Option (G × Nat) := match gs.findIdx? fun g => decide (b ∈ g.1) with
  | some i => some (lY gs i,(lY gs i).1.idxOf b)
  | none => none
theorem J2 {gs : List G} {b : Int} {g : G} {i : Nat} (h : T1 gs b = some (g,i)) : ∃ k : Nat,oS gs b = (k : Int) ∧ gs[k]? = some g ∧ b ∈ g.1 ∧ i = g.1.idxOf b := by
  unfold T1 at h;cases hq : gs.findIdx? fun g => decide (b ∈ g.1) with
  | none => rw [hq] at h;cases h
  | some k =>
    rw [hq] at h;dsimp only at h;cases h;obtain ⟨hk,hb,_⟩ := List.findIdx?_eq_some_iff_getElem.1 hq;have e : lY gs k = gs[k] := by unfold lY;rw [aD,aB hk];rfl
    refine ⟨k,by unfold oS;rw [hq],by rw [e];exact aB hk,by rw [e];simpa using hb,rfl⟩
theorem YO {gs : List G} {b : Int} (h : T1 gs b = none) : oS gs b = -1 := by
  unfold T1 at h;cases hq : gs.findIdx? fun g => decide (b ∈ g.1) with
  | none => unfold oS;rw [hq]
  | some k => rw [hq] at h;cases h
theorem AL {gs : List G} {b : Int} (h : ∃ g,g ∈ gs ∧ b ∈ g.1) : ∃ g,T1 gs b = some (g,g.1.idxOf b) ∧ g ∈ gs ∧ b ∈ g.1 := by
  cases hq : T1 gs b with
  | none =>
    obtain ⟨i,g,h1,_⟩ := iR h;have := YO hq;omega
  | some x =>
    obtain ⟨g,i⟩ := x;obtain ⟨k,_,h2,h3,rfl⟩ := J2 hq;exact ⟨g,rfl,aN h2,h3⟩
end Go.Ld
namespace Go.Proofs.YtmmmeebiobjnbaaGreat
open Go Go.Ab Go.Ld
attribute [local irreducible] VC AW cF aS iZ
set_option maxHeartbeats 4000000
theorem zJ8 (c : Cx) (gs : List G) (b : Int) (hl : gs.length ≤ 1000000) (hg : ∀ g,g ∈ gs → g.1.length ≤ 1000000) {g : G} {i : Nat} (h : T1 gs b = some (g,i)) :
    aS Tryz.prog 55 [.pr (jT c gs) 0,.i b] [] (.tup [UW g,.i i,.b true]) [] := by
  obtain ⟨k,h1,h2,h3,rfl⟩ := J2 h;have hf := zN gs b hl hg;rw [h1] at hf;have hgl : (kE gs).length = gs.length := jK _;have hkl := (aA.1 h2).1;have q : (kE gs)[((k : Int)).toNat]? = some (gA g) := by rw [bQ,bT,h2];rfl
  have hix := xE g.1 b (by have := hg g (aN h2);omega)
  have hxi : xG g.1 b 0 = ((g.1.idxOf b : Nat) : Int) := by have := B8 g.1 b 0 h3;simpa using this
  rw [hxi] at hix;generalize g.1.idxOf b = ia at *;obtain ⟨bs,ws⟩ := g;dsimp only at *;refine bW T Tryz.func55 rfl rfl rfl rfl ?_
  (repeat' (first|refine wS ?_|refine wK ?_|refine wR ?_|refine wU ?_|(refine rg 0 (cD (cK T rfl) rfl (rK ?_)))|(refine rg 1 (mW rfl (nV ?_));refine iB T rfl (mW rfl (vV (kC (hf)) (aV ?_))))|(refine rg 2 (mW rfl (vV (aM rfl rfl) ?_)))|(refine tJ (id := 4) 17 34 [[],[0],[0,1],[0,1,2],[],rN 5,rN 6,[],[7],[7,8],[7,8,9],[],rM 7 5,rM 7 6,rM 7 7,[],rM 7 9,rN 17,rN 18,rN 19] [[],[0],[0,1],[0,1,2],[],rN 5,rN 6,[],[7],[7,8],[7,8,9],[],rM 7 5,rM 7 6,rM 7 7,[],rM 7 9] (rM 17 17) [[],[],[],[],rM 17 4,[],[],rM 17 7,rM 17 7,rM 17 7,rM 17 7,rM 17 11,rM 17 7,rM 17 7,rM 17 7,rM 17 15,rM 17 7] cO rfl (by decide +kernel) (by decide +kernel) ?_;(dsimp only [List.take,List.drop]);refine dN rfl (dV rfl (by exact cJ rfl rfl) ?_);refine dP T rfl (dO T rfl (dN rfl (dV rfl (ix T rfl (by omega) (rB _) q) (dO T rfl (dN rfl (dV rfl (by exact cJ rfl rfl) ?_))))));refine dP T rfl (dO T rfl (dN rfl (dV rfl (ix T rfl (by omega) (rB _) q) (dP T rfl (dO T rfl (dN rfl (dV rfl (kC (hix)) (dE ?_))))))));refine iK ?_;refine bA T rfl rfl rfl rfl rfl rfl (by decide) rfl (rK ?_))|refine nZ ?_));all_goals try (exfalso;omega)
  all_goals exact ⟨.inl rfl,[],_,rfl,rfl,rfl,trivial,by decide,kQ _⟩
end Go.Proofs.YtmmmeebiobjnbaaGreat
namespace Go.Ld
open Go.Ab Go.Proofs.YtmmmeebiobjnbaaGreat
def F5 (g : G) (i : Nat) : List Int := g.2.map fun w => gP w i
theorem TQ {g : G} {i k : Nat} (h : k < g.2.length) : (F5 g i).take (k + 1) = (F5 g i).take k ++ [gP g.2[k] i] := by
  unfold F5;rw [← kK,← kK,aU h,bY];rfl
end Go.Ld
namespace Go.Proofs.YtmmmeebiobjnbaaGreat
open Go Go.Ab Go.Ld
attribute [local irreducible] VC AW cF aS iZ
set_option maxHeartbeats 4000000
theorem ZX {G l : List Int} {m : Nat} (hg : G.length ≤ m) (hm : m < l.length) : (ints (G ++ l.drop G.length))[0 + (m : Int).toNat]? = some [AV.i l[m]] := by
  rw [Nat.zero_add,bQ,bT,aE hg,dZ,show G.length + (m - G.length) = m by omega,aB hm];rfl
theorem zF2 {G l : List Int} {x : Int} (hg : G.length < l.length) : (ints (G ++ l.drop G.length)).set (0 + (G.length : Int).toNat) [AV.i x] = ints ((G ++ [x]) ++ l.drop (G ++ [x]).length) := by
  rw [Nat.zero_add,bQ,← pZ,iP _ _ (aX _),eB,aT hg,List.set_cons_zero];simp
theorem PW {G l : List Int} (hg : G.length ≤ l.length) : (ints (G ++ l.drop G.length)).length = l.length := by simp;omega
theorem VM {G l : List Int} : (ints (G ++ l.drop G.length)).take (0 + (G.length : Int).toNat) = ints G := by
  rw [Nat.zero_add,bQ,← kK,pS (aX _),bR (aX _)]
def jQ (l : List Int) : Nat → List Int
  | 0 => []
  | m + 1 => if 0 < m ∧ l.getD m 0 = l.getD (m - 1) 0 then jQ l m else jQ l m ++ [l.getD m 0]
def yH (l : List Int) : List Int := jQ l l.length
theorem BD {l : List Int} {m : Nat} (h : 0 < m) (e : l.getD m 0 = l.getD (m - 1) 0) : jQ l (m + 1) = jQ l m := by
  unfold jQ;rw [if_pos ⟨h,e⟩];cases m <;> rfl
theorem LF {l : List Int} {m : Nat} (e : l.getD m 0 ≠ l.getD (m - 1) 0) : jQ l (m + 1) = jQ l m ++ [l.getD m 0] := by
  unfold jQ;rw [if_neg (fun q => e q.2)];cases m <;> rfl
theorem LD (l : List Int) : jQ l 1 = [l.getD 0 0] := by
  unfold jQ;rw [if_neg (fun q => Nat.lt_irrefl _ q.1)];rfl
theorem xH {l : List Int} {m : Nat} (h : m < l.length) : l.getD m 0 = l[m] := by rw [aD,aB h];rfl
theorem RI {G l : List Int} {m : Nat} {i : Nat} (hg : G.length ≤ m) (hm : m < l.length) (hi : i = m) : (ints (G ++ l.drop G.length))[i]? = some [AV.i (l.getD m 0)] := by
  have := ZX hg hm;rw [Nat.zero_add,bQ] at this;rw [hi,this,xH hm]
theorem RJ {l : List Int} {m i : Nat} (hm : m < l.length) (hi : i = m) : (ints l)[i]? = some [AV.i (l.getD m 0)] := by
  rw [hi,lO hm,xH hm]
theorem EJ (l : List Int) (hl : l.length ≤ 1000000) : aS Tryz.prog 53 [.sl 0 0 l.length 1] [.arr (ints l) 1] (.sl 0 0 (yH l).length 1) [.arr (ints (yH l)) 1] := by
  have hll : (ints l).length = l.length := by simp
  refine bW T Tryz.func53 rfl rfl rfl rfl ?_;by_cases h2 : l.length < 2
  · have hk : yH l = l := by
      match l,h2 with
      | [],_ => rfl
      | [a],_ => exact LD _
      | _ :: _ :: _,h => exact absurd h (by simp)
    rw [hk]
    (repeat' (first|refine wS ?_|refine wR ?_|(refine wC rfl ?_ ?_<;>(intro hb;(try simp only [nm] at hb);try (exfalso;omega)))|(refine rg 0 (aV ?_))|(refine rg 1 (mW rfl (qW T rfl (vV (aM rfl rfl) ?_))))|(refine rg 2 (mW rfl (aV ?_)))|refine nZ ?_));all_goals first | (exfalso;omega) | exact ⟨.inl rfl,[0],_,rfl,rfl,rfl,⟨.inr (aC rfl rfl (bB _)),trivial⟩,by decide,FU⟩
  · (repeat' (first|refine wS ?_|refine wB ?_|refine wK ?_|(refine wC rfl (fun hb => ?_) (fun hb => ?_) <;> (((try simp only [nm] at hb);try (exfalso;omega))))|(refine rg 0 (aV ?_))|(refine rg 1 (mW rfl (qW T rfl (vV (aM rfl rfl) ?_))))|(refine rg 3 (aV ?_))|(refine nZ ?_)));all_goals try (exfalso;omega)
    refine dQ (X := {k : Nat // 1 ≤ k ∧ k ≤ l.length ∧ jQ l k = l.take k}) (fun k => [(0,.sl 0 0 l.length 1),(3,.i k.1)]) (fun _ => [.arr (ints l) 1]) (fun k => l.length - k.1) ⟨1,by omega,by omega,by rw [LD,xH (by omega),aU (by omega)];rfl⟩ ⟨[0],rfl,by (repeat (first | exact trivial | refine ⟨rfl,?_⟩)),⟨.inr (aC rfl rfl (bB _)),trivial⟩,by decide,FU⟩ ?_
    rintro ⟨k,hk1,hk,hkc⟩;dsimp only;by_cases hlt : k < l.length
    · have e1 := RJ (i := 0 + (k : Int).toNat) hlt (by omega)
      have e2 := RJ (l := l) (m := k - 1) (i := 0 + ((k : Int) - 1).toNat) (by omega) (by omega)
      by_cases hd : l.getD k 0 = l.getD (k - 1) 0
      · have hc1 := BD (l := l) hk1 hd;rw [hkc] at hc1;generalize l.getD k 0 = a at *;generalize l.getD (k - 1) 0 = b at *
        (repeat' (first|refine wS ?_|refine wB ?_|refine wK ?_|refine wT ?_|(refine wC rfl ?_ ?_<;>(intro hb;(try simp only [nm] at hb);try (exfalso;omega)))|(refine rg 4 (dH rfl (qW T rfl (vV (aM rfl rfl) ?_))))|(refine cH (id := 6) 61 yM9 (rM 16 10) yN0 cO rfl (by decide +kernel) (dN rfl (dN rfl (dV rfl (by exact aK T rfl rfl rfl rfl rfl (by omega) (by omega)) ?_)));refine dV rfl (by exact aJ T rfl rfl (bM rfl e1) rfl) ?_;refine dN rfl (dN rfl (dV rfl (cP rfl rfl (by omega) (by omega)) (dV rfl (by exact aK T rfl rfl rfl rfl rfl (by omega) (by omega)) ?_)));refine dV rfl (by exact aJ T rfl rfl (bM rfl e2) rfl) ?_;refine dV rfl (kZ rfl rfl (by omega)) (dE ?_))|(refine rg 7 (dH rfl (vV (by exact jM T rfl rfl rfl rfl rfl rfl (by omega) (by omega) (by omega)) ?_));refine aV ?_)|(refine rg 8 (aV ?_))|refine nZ ?_));all_goals try (exfalso;omega)
        have hl1 : (jQ l (k + 1)).length = k := by rw [hc1];simp;omega
        refine dQ (X := {j : Nat // 1 ≤ j ∧ k + j ≤ l.length ∧ (jQ l (k + j)).length + 1 ≤ k + j}) (fun j => [(0,.sl 0 0 l.length 1),(3,.i (jQ l (k + j.1)).length),(4,.sl 0 (0 + (k : Int).toNat) ((l.length : Int) - (k : Int)).toNat 1),(5,.i j.1)]) (fun j => [.arr (ints (jQ l (k + j.1) ++ l.drop (jQ l (k + j.1)).length)) 1]) (fun j => l.length - (k + j.1)) ⟨1,by omega,by omega,by omega⟩ ⟨[0],rfl,⟨rfl,by dsimp only;rw [hl1];rfl,rfl,rfl,trivial⟩,⟨.inr (aC rfl (by dsimp only;rw [hl1,hc1,bP]) (bB _)),trivial⟩,by decide,FU⟩ ?_
        clear e1 e2 hd hl1 hc1;rintro ⟨j,hj1,hj,hjc⟩;dsimp only;by_cases hjl : k + j < l.length
        · have e1 := RI (G := jQ l (k + j)) (l := l) (m := k + j) (i := 0 + (k : Int).toNat + (j : Int).toNat) (by omega) hjl (by omega)
          have e2 := RI (G := jQ l (k + j)) (l := l) (m := k + j - 1) (i := 0 + (k : Int).toNat + ((j : Int) - 1).toNat) (by omega) (by omega) (by omega)
          have e3 := ZX (G := jQ l (k + j)) (l := l) (aX _) (by omega)
          have hset := zF2 (G := jQ l (k + j)) (l := l) (x := l.getD (k + j) 0) (by omega)
          have hal := PW (G := jQ l (k + j)) (l := l) (by omega)
          have hdup := BD (l := l) (m := k + j) (by omega)
          have hnew := LF (l := l) (m := k + j);have hnl : ∀ G : List Int,(G ++ [l.getD (k + j) 0]).length = G.length + 1 := fun G => by simp
          rw [show k + j + 1 = k + (j + 1) by omega] at hdup hnew
          generalize l.getD (k + j) 0 = a at *;generalize l.getD (k + j - 1) 0 = b at *;generalize l[(jQ l (k + j)).length] = y at *;generalize jQ l (k + j) = G at *;by_cases hd : a = b
          · have hdup := hdup hd;generalize hA : ints (G ++ l.drop G.length) = A at *
            (repeat' (first|refine wS ?_|refine wB ?_|refine wK ?_|refine wU ?_|(refine wC rfl ?_ ?_<;>(intro hb;(try simp only [nm] at hb);try (exfalso;omega)))|(refine rg 9 (dH rfl (qW T rfl (vV (aM rfl rfl) ?_))))|(refine cH (id := 11) 61 yM9 (rM 35 10) yN1 cO rfl (by decide +kernel) (dN rfl (dN rfl (dV rfl (by exact aK T rfl rfl rfl rfl rfl (by omega) (by omega)) ?_)));refine dV rfl (by exact aJ T rfl rfl (bM rfl e1) rfl) ?_;refine dN rfl (dN rfl (dV rfl (cP rfl rfl (by omega) (by omega)) (dV rfl (by exact aK T rfl rfl rfl rfl rfl (by omega) (by omega)) ?_)));refine dV rfl (by exact aJ T rfl rfl (bM rfl e2) rfl) ?_;refine dV rfl (C1 rfl rfl (by omega)) (dE ?_))|(refine iA 10 rfl rfl rfl (by omega) (by omega) ?_)|refine nZ ?_));all_goals try (exfalso;omega)
            all_goals exact ⟨⟨j + 1,by omega,by omega,by rw [hdup];omega⟩,by dsimp only;omega,[0],rfl,⟨rfl,by dsimp only;rw [hdup];rfl,rfl,rfl,trivial⟩,⟨.inr (aC rfl (by dsimp only;rw [hdup];exact hA.symm) (bB _)),trivial⟩,by decide,FU⟩
          · have hnew := hnew hd;have hgl := hnl G;generalize hA : ints (G ++ l.drop G.length) = A at *
            (repeat' (first|refine wS ?_|refine wB ?_|refine wK ?_|refine wT ?_|(refine wC rfl ?_ ?_<;>(intro hb;(try simp only [nm] at hb);try (exfalso;omega)))|(refine rg 9 (dH rfl (qW T rfl (vV (aM rfl rfl) ?_))))|(refine cH (id := 11) 61 yM9 (rM 35 10) yN1 cO rfl (by decide +kernel) (dN rfl (dN rfl (dV rfl (by exact aK T rfl rfl rfl rfl rfl (by omega) (by omega)) ?_)));refine dV rfl (by exact aJ T rfl rfl (bM rfl e1) rfl) ?_;refine dN rfl (dN rfl (dV rfl (cP rfl rfl (by omega) (by omega)) (dV rfl (by exact aK T rfl rfl rfl rfl rfl (by omega) (by omega)) ?_)));refine dV rfl (by exact aJ T rfl rfl (bM rfl e2) rfl) ?_;refine dV rfl (V0 rfl rfl (by omega)) (dE ?_))|(refine rg 12 (dH rfl (dH rfl (vV (by exact aK T rfl rfl rfl rfl rfl (by omega) (by omega)) ?_)));refine vV (by exact aJ T rfl rfl (bM rfl e1) rfl) ?_;refine vV (by exact aK T rfl rfl rfl rfl rfl (by omega) (by omega)) ?_;refine bA T rfl rfl rfl rfl rfl rfl (by decide) (lZ rfl e3 rfl) ?_)|(refine iA 13 rfl rfl rfl (by omega) (by omega) ?_)|(refine iA 10 rfl rfl rfl (by omega) (by omega) ?_)|refine nZ ?_));all_goals try (exfalso;omega)
            all_goals exact ⟨⟨j + 1,by omega,by omega,by rw [hnew];omega⟩,by dsimp only;omega,[0],rfl,⟨rfl,by dsimp only;rw [hnew,hgl];rfl,rfl,rfl,trivial⟩,⟨.inr (aC rfl (by dsimp only;rw [hnew];exact hset) (bB _)),trivial⟩,by decide,FU⟩
        · have hkj : k + j = l.length := by omega
          have hcm : yH l = jQ l (k + j) := by rw [hkj];rfl
          have hal := PW (G := jQ l (k + j)) (l := l) (by omega)
          have htk := VM (G := jQ l (k + j)) (l := l);rw [hcm];generalize jQ l (k + j) = G at *
          (repeat' (first|refine wS ?_|refine wR ?_|refine wE ?_|(refine wC rfl ?_ ?_<;>(intro hb;(try simp only [nm] at hb);try (exfalso;omega)))|(refine rg 9 (dH rfl (qW T rfl (vV (aM rfl rfl) ?_))))|(refine rg 14 (dH rfl (vV (by exact jM T rfl rfl rfl rfl rfl rfl (by omega) (by omega) (by omega)) ?_));refine IA T rfl rfl rfl rfl rfl (by rw [hal];omega) ?_)|(refine rg 15 (dH rfl (vV (by exact jM T rfl rfl rfl rfl rfl rfl (by omega) (by omega) (by omega)) ?_));refine aV ?_)|refine nZ ?_));all_goals try (exfalso;omega)
          all_goals exact ⟨.inl rfl,[0],_,rfl,(by show AV.sl 0 0 ((G.length : Int) - 0).toNat 1 = AV.sl 0 0 G.length 1;rw [show ((G.length : Int) - 0).toNat = G.length by omega]),rfl,⟨.inr (aC rfl htk (bB _)),trivial⟩,by decide,FU⟩
      · have hnew := LF (l := l) hd;rw [hkc,xH hlt,← aU hlt] at hnew;generalize l.getD k 0 = a at *;generalize l.getD (k - 1) 0 = b at *
        (repeat' (first|refine wS ?_|refine wB ?_|refine wK ?_|refine wU ?_|(refine wC rfl ?_ ?_<;>(intro hb;(try simp only [nm] at hb);try (exfalso;omega)))|(refine rg 4 (dH rfl (qW T rfl (vV (aM rfl rfl) ?_))))|(refine cH (id := 6) 61 yM9 (rM 16 10) yN0 cO rfl (by decide +kernel) (dN rfl (dN rfl (dV rfl (by exact aK T rfl rfl rfl rfl rfl (by omega) (by omega)) ?_)));refine dV rfl (by exact aJ T rfl rfl (bM rfl e1) rfl) ?_;refine dN rfl (dN rfl (dV rfl (cP rfl rfl (by omega) (by omega)) (dV rfl (by exact aK T rfl rfl rfl rfl rfl (by omega) (by omega)) ?_)));refine dV rfl (by exact aJ T rfl rfl (bM rfl e2) rfl) ?_;refine dV rfl (gX rfl rfl (by omega)) (dE ?_))|(refine iA 5 rfl rfl rfl (by omega) (by omega) ?_)|refine nZ ?_));all_goals try (exfalso;omega)
        all_goals exact ⟨⟨k + 1,by omega,hlt,hnew⟩,by dsimp only;omega,[0],rfl,by (repeat (first | exact trivial | refine ⟨rfl,?_⟩)),⟨.inr (aC rfl rfl (bB _)),trivial⟩,by decide,FU⟩
    · obtain rfl : k = l.length := by omega
      have hcm : yH l = l := by
        show jQ l l.length = l;rw [hkc,dA]
      rw [hcm]
      (repeat' (first|refine wS ?_|refine wR ?_|refine wE ?_|(refine wC rfl ?_ ?_<;>(intro hb;(try simp only [nm] at hb);try (exfalso;omega)))|(refine rg 4 (dH rfl (qW T rfl (vV (aM rfl rfl) ?_))))|(refine rg 16 (mW rfl (aV ?_)))|refine nZ ?_));all_goals first | (exfalso;omega) | exact ⟨.inl rfl,[0],_,rfl,rfl,rfl,⟨.inr (aC rfl rfl (bB _)),trivial⟩,by decide,FU⟩
theorem BC (l : List Int) (x : Int) : ∀ m, m ≤ l.length → (x ∈ jQ l m ↔ x ∈ l.take m)
  | 0,_ => by simp [jQ]
  | m + 1,hm => by
    have ih := BC l x m (by omega)
    rw [aU (by omega)]
    by_cases e : 0 < m ∧ l.getD m 0 = l.getD (m - 1) 0
    · rw [BD e.1 e.2,ih,bH,bK];refine ⟨.inl,fun h => h.elim id fun h => ?_⟩
      have e2 := e.2;rw [xH (by omega),xH (by omega)] at e2
      rw [h,e2];exact List.mem_take_iff_getElem.2 ⟨m - 1,by omega,rfl⟩
    · have : jQ l (m + 1) = jQ l m ++ [l.getD m 0] := by
        unfold jQ;rw [if_neg e];cases m <;> rfl
      rw [this,bH,bH,ih,xH (by omega)]
theorem oU (l : List Int) : ∀ m, (jQ l m).length ≤ m
  | 0 => by simp [jQ]
  | m + 1 => by
    have ih := oU l m;unfold jQ;split
    · omega
    · simp;omega
abbrev uC (g : G) (i : Nat) : List Int := yH (iU (F5 g i))
theorem zS6 (c : Cx) (gs : List G) (b : Int) (h : oY c gs) {g : G} {i : Nat} (hg : T1 gs b = some (g,i)) :
    aS Tryz.prog 35 [.pr (jT c gs) 0,.i b] [] (.sl 0 0 (uC g i).length 1) [.arr (ints (uC g i)) 1] := by
  unfold uC;obtain ⟨k0,h1,h2,h3,h4⟩ := J2 hg;have hgm := aN h2;have og := h.mid.out.ok g hgm;have hwl := h.mid.wl g hgm;have hl12 : gs.length ≤ 12 := bL h.mid.out.len h.mid.out.ln;have hgr := zJ8 c gs b (by omega) (fun x hx => by have := (h.mid.out.ok x hx).ln;omega) hg
  have hi : i < g.1.length := by rw [h4];exact gW h3
  have hln := og.ln;have hil : (F5 g i).length = g.2.length := aY _;have htk : ∀ k (h : k < g.2.length),_ := fun k h => TQ (g := g) (i := i) h;have hwg : ∀ k (h : k < g.2.length),(ints g.2[k].1)[((i : Int)).toNat]? = some [.i (gP g.2[k] i)] ∧ (ints g.2[k].1).length = g.1.length := fun k h => by
    have := (og.ws _ (aQ h)).pl;exact ⟨qG 0 (by omega) rfl,by rw [cW];exact this⟩
  have hs1 := MW (F5 g i) (by omega)
  have hsl := wV (F5 g i);have hs2 := EJ (iU (F5 g i)) (by omega)
  rw [hsl] at hs2;obtain ⟨bs,ws⟩ := g;dsimp only at *;generalize F5 (bs,ws) i = P at *;have hwsl : (gE ws).length = ws.length := fF _;refine bW T Tryz.func35 rfl rfl rfl rfl ?_
  (repeat' (first|refine wS ?_|(refine rg 0 (aV ?_))|(refine rg 1 (dH rfl (vV (kC (hgr)) (mW rfl (xW rfl (xW rfl (xW rfl (cD (cK T rfl) rfl (bA T rfl rfl rfl rfl rfl rfl (by decide) rfl (rK ?_))))))))))|refine nZ ?_));all_goals try (exfalso;omega)
  refine gY 5 (cs := gA (bs,ws)) rfl rfl rfl ?_
  (repeat' (first|refine wS ?_|(refine rg 2 (vV (dJ rfl) (qC 8 1 rfl (by decide) ?_)))|refine nZ ?_));all_goals try (exfalso;omega)
  (repeat' (first|refine wB ?_|(refine rg 3 (iB T rfl (qW T rfl (mV ?_))))|refine nZ ?_));all_goals try (exfalso;omega)
  refine dQ (X := {k : Nat // k ≤ ws.length}) (fun k => [(6,.i i),(8,.sl 0 0 k.1 1),(19,.rowE (gE ws) 3),(20,.i (gE ws).length),(21,.i k.1)]) (fun k => [.arr (ints (P.take k.1)) 1]) (fun k => ws.length - k.1) ⟨0,cM _⟩ ⟨[1],rfl,(by repeat first|exact trivial|refine ⟨rfl,?_⟩),⟨.inr rfl,trivial⟩,by decide,kQ _⟩ ?_
  rintro ⟨k,hk⟩;dsimp only;by_cases hlt : k < ws.length
  · have hgk := A5 hlt;obtain ⟨q1,q2⟩ := hwg k hlt;have q3 := htk k hlt;have q4 : (ints (P.take k)).length = k := by rw [cW,bG];omega
    have q5 : ints (P.take (k + 1)) = ints (P.take k) ++ [[.i (gP ws[k] i)]] := by rw [q3,O2]
    generalize ints (P.take k) = A at *;generalize gP ws[k] i = v at *;generalize ws[k] = w at *;obtain ⟨wp,wm,wc⟩ := w;dsimp only at *
    (repeat' (first|refine wS ?_|refine wB ?_|refine wK ?_|(refine wC rfl ?_ ?_<;>(intro hb;(try simp only [nm] at hb);try (exfalso;omega)))|(refine rg 4 (vV (aM rfl rfl) ?_))|(refine rg 5 (vV (ix T rfl (by omega) (pD _) hgk) (lW T rfl (cD (cK T rfl) rfl (bA T rfl rfl rfl rfl rfl rfl (by decide) rfl ?_)))))|(refine rg 6 (mW rfl (iB T rfl (mW rfl (vV (ix T rfl (by omega) (dU _) q1) (lW T rfl (cD (by exact bD T rfl rfl (by decide) (by decide) rfl rfl rfl) rfl ?_))))));refine fY T rfl rfl rfl rfl rfl rfl (by omega) (jJ.whole rfl rfl) rfl (by simp;omega) (by simp;omega) rfl ?_;refine aV ?_)|(refine rg 7 (vV (cC rfl rfl (by omega) (by omega)) (mV ?_)))|refine nZ ?_));all_goals try (exfalso;omega)
    exact ⟨⟨k + 1,hlt⟩,by dsimp only;omega,⟨[3],rfl,(by repeat first|exact trivial|refine ⟨rfl,?_⟩),⟨.inr (aC rfl (by dsimp only;rw [q5];exact jN q4.symm) (bB _)),trivial⟩,by decide,kQ _⟩⟩
  · obtain rfl : k = ws.length := by omega
    rw [show P.take ws.length = P by rw [← hil,dA]]
    rw [← hil] at *
    (repeat' (first|refine wS ?_|refine wR ?_|refine wE ?_|(refine wC rfl ?_ ?_<;>(intro hb;(try simp only [nm] at hb);try (exfalso;omega)))|(refine rg 4 (vV (aM rfl rfl) ?_))|(refine rg 8 (mW rfl (eP [0] rfl rfl (hs1) rfl rfl (by decide) ⟨.inr (aC rfl rfl (bB _)),trivial⟩ (by simp) rfl ?_)))|(refine rg 9 (mW rfl (eP [0] rfl rfl (hs2) rfl rfl (by decide) ⟨.inr (aC rfl (bE _ (bB _)) (bB _)),trivial⟩ (by simp) rfl ?_));refine aV ?_)|refine nZ ?_));all_goals try (exfalso;omega)
    exact ⟨.inl rfl,[0],_,rfl,rfl,rfl,⟨.inr (aC rfl (bE _ (bB _)) (bB _)),trivial⟩,by decide,kQ _⟩
end Go.Proofs.YtmmmeebiobjnbaaGreat
namespace Go.Ld
open Go.Ab Go.Proofs.YtmmmeebiobjnbaaGreat
def YH (a b : SP) : SP := (min a.1 b.1,max a.2 b.2)
def SJ (g : G) (i k : Nat) : SP := (g.2.take k).foldl (fun r w => YH r (gC w i)) (gC (iL g) i)
def zF7 (g : G) (i : Nat) : SP := SJ g i g.2.length
theorem SI {g : G} {i k : Nat} (h : k < g.2.length) : SJ g i (k + 1) = YH (SJ g i k) (gC g.2[k] i) := by
  unfold SJ;rw [aU h,zC8];rfl
end Go.Ld
namespace Go.Proofs.YtmmmeebiobjnbaaGreat
open Go Go.Ab Go.Ld
attribute [local irreducible] VC AW cF aS iZ
set_option maxHeartbeats 4000000
end Go.Proofs.YtmmmeebiobjnbaaGreat
namespace Go.Ld
open Go.Ab Go.Proofs.YtmmmeebiobjnbaaGreat
def Q2 (g : G) (p q : List Int) (w : W) (i : Nat) : Bool := decide (gP w i = p.getD (g.1.getD i 0).toNat 0) && vT (gC w i).1 (gC w i).2 (q.getD (p.getD (g.1.getD i 0).toNat 0).toNat 0)
def AS (g : G) (p q : List Int) (w : W) : Bool := (List.range g.1.length).all (Q2 g p q w)
end Go.Ld
namespace Go.Proofs.YtmmmeebiobjnbaaGreat
open Go Go.Ab Go.Ld
attribute [local irreducible] VC AW cF aS iZ
set_option maxHeartbeats 4000000
end Go.Proofs.YtmmmeebiobjnbaaGreat
namespace Go.Ld
open Go.Ab Go.Proofs.YtmmmeebiobjnbaaGreat
def ZN (g : G) (p q : List Int) (m : Int) (w : W) : Int := if AS g p q w && (decide (m < 0) || decide (w.2.1 < m)) then w.2.1 else m
def R4 (g : G) (p q : List Int) (k : Nat) : Int := (g.2.take k).foldl (ZN g p q) (-1)
def E5 (g : G) (p q : List Int) : Int := R4 g p q g.2.length
theorem OK {g : G} {p q : List Int} {k : Nat} (h : k < g.2.length) : R4 g p q (k + 1) = ZN g p q (R4 g p q k) g.2[k] := by
  unfold R4;rw [aU h,zC8];rfl
def zR9 (gs : List G) (p q : List Int) (k : Nat) : Int := ((gs.take k).map fun g => E5 g p q).sum
def zX2 (c : Cx) (gs : List G) (p q : List Int) : Bool :=
  decide (p.length = c.bs.length) && decide (q.length = p.length) && Go.Pm.permB p && gs.all (fun g => decide (0 ≤ E5 g p q)) && decide (zR9 gs p q gs.length ≤ c.m)
end Go.Ld
namespace Go.Proofs.YtmmmeebiobjnbaaGreat
open Go Go.Ab Go.Ld Go.Pm
attribute [local irreducible] VC AW cF aS iZ
set_option maxHeartbeats 4000000
theorem zJ6 (n : Int) (h : n ≤ 17592186043904) : aS Tryz.prog 50 [.i n] [] (.sl 0 0 n.toNat 1) [.arr (ints (nats (List.range n.toNat))) 1] := by
  refine bW T Tryz.func50 rfl rfl rfl rfl ?_
  (repeat' (first|refine wS ?_|refine wB ?_|(refine rg 0 (aV ?_))|(refine rg 1 (aV ?_))|(refine rg 2 (mW rfl (vV (zM rfl rfl) (mV ?_))))|refine nZ ?_));refine zW9 3 1 rfl (by decide) ?_
  refine dQ (X := {i : Nat // i ≤ n.toNat}) (fun i => [(3,.sl 0 0 i.1 1),(6,.i (max n 0)),(7,.i (i.1 : Int))]) (fun i => [.arr (ints (nats (List.range i.1))) 1]) (fun i => n.toNat - i.1) ⟨0,cM _⟩ ⟨[0],rfl,⟨rfl,rfl,rfl,trivial⟩,⟨.inr rfl,trivial⟩,by decide,N4⟩ ?_
  rintro ⟨i,hi⟩;dsimp only;have hl : (ints (nats (List.range i))).length = i := by simp
  by_cases hlt : i < n.toNat
  · have hs : ints (nats (List.range i)) ++ [[AV.i (i : Int)]] = ints (nats (List.range (i + 1))) := by rw [D4,TD]
    (repeat' (first|refine wS ?_|refine wB ?_|refine wK ?_|(refine wC rfl ?_ ?_<;>(intro hb;(try simp only [nm] at hb);try (exfalso;omega)))|(refine rg 3 (vV (aM rfl rfl) ?_))|(refine rg 4 (mW rfl (aV ?_)))|(refine rg 5 (dH rfl (cD (by exact bD T rfl rfl (by decide) (by decide) rfl rfl rfl) rfl ?_));refine fY T rfl rfl rfl rfl rfl rfl (by simp) (jJ.whole rfl rfl) rfl (by simp;omega) (by simp;omega) rfl ?_;refine aV ?_)|(refine rg 6 (vV (cC rfl rfl (by omega) (by omega)) (mV ?_)))|refine nZ ?_));all_goals first | (exfalso;omega) | skip
    exact ⟨⟨i + 1,hlt⟩,by dsimp only;omega,[2],rfl,⟨rfl,rfl,rfl,trivial⟩,⟨.inr (aC rfl ((jN hl.symm).trans hs) (bB _)),trivial⟩,by decide,N4⟩
  · obtain rfl : i = n.toNat := by omega
    (repeat' (first|refine wS ?_|refine wR ?_|refine wE ?_|(refine wC rfl ?_ ?_<;>(intro hb;(try simp only [nm] at hb);try (exfalso;omega)))|(refine rg 3 (vV (aM rfl rfl) ?_))|(refine rg 7 (mW rfl (aV ?_)))|refine nZ ?_));all_goals first | (exfalso;omega) | exact ⟨.inl rfl,[0],_,rfl,rfl,rfl,⟨.inr (aC rfl rfl (bB _)),trivial⟩,by decide,N4⟩
end Go.Proofs.YtmmmeebiobjnbaaGreat
namespace Go.Ab
open Go
theorem pB.freezeEl {n : Nat × Nat} {c : oI} {ρ : Pl} {S : Nat → Prop} {env : eA} {h : Hp} {a : Act} {w : World} {j f k len sz sz2 : Nat} {es es' es2 : List (List AV)} (s : pB n c ρ S env h a w) (hj : h[j]? = some (.arr es sz)) (hne : j ≠ k) (h0 : es ≠ []) (hf : es.flatten[f]? = some (.sl k 0 len sz2)) (hk : h[k]? = some (.arr es2 sz2)) (hn : len = es2.length) (hi : AV.idfL es2.flatten = true)
    (hl : ∀ e,e ∈ es' → e.length = sz) (he : es'.flatten = es.flatten.set f (.rowE es2 sz2)) :
    pB n c ρ (fun b => S b ∨ ∃ o,ρ k = some (b,o)) env ((h.set k .gone).set j (.arr es' sz)) a w := by
  have h1 := s.hs.freeze hk;have hj' : (h.set k .gone)[j]? = some (.arr es sz) := by rw [iG (Ne.symm hne)];exact hj
  refine ⟨s.size,s.defers.st (fun _ h => .inl h),fun t' x hx => HG (fun _ h => .inl h) (s.env t' x hx),h1.alter hj' (fun _ => ?_) (by simp),s.cm⟩
  have hb := s.hs.blk j _ hj;simp only [RB] at hb ⊢;obtain ⟨b1,b2,b3⟩ := hb;refine ⟨hl,b2,?_⟩;rcases b3 with ⟨e,_⟩ | ⟨b,o,ys,e1,e2,e3⟩
  · exact absurd e h0
  · refine .inr ⟨b,o,ys,e1,e2,?_⟩;rw [he];refine W2 (fun _ h => .inl h) (fun y hy => ?_) hf e3;rw [hn] at hy;exact uH hi (s.hs.blk k _ hk) hy
section
variable {P : Program} {n : Nat × Nat} {ops : Array Oper} {env : eA} {h : Hp} {K : eA → Hp → Prop} {rest : List Oper} {Q : Exit → eA → Hp → Prop} {code : Code}
theorem LP (j f : Nat) {k len sz sz2 : Nat} {es : List (List AV)} (es' : List (List AV)) {es2 : List (List AV)} (hj : h[j]? = some (.arr es sz)) (hne : j ≠ k) (h0 : es ≠ []) (hf : es.flatten[f]? = some (.sl k 0 len sz2)) (hk : h[k]? = some (.arr es2 sz2)) (hn : len = es2.length) (hi : AV.idfL es2.flatten = true)
    (hl : ∀ e,e ∈ es' → e.length = sz) (he : es'.flatten = es.flatten.set f (.rowE es2 sz2)) (hv : AW P n code env ((h.set k .gone).set j (.arr es' sz)) Q) : AW P n code env h Q :=
  fun c ρ S a w QQ s hQ => hv c ρ _ a w QQ (s.freezeEl hj hne h0 hf hk hn hi hl he) hQ
end
end Go.Ab
namespace Go.Ld
open Go.Ab Go.Proofs.YtmmmeebiobjnbaaGreat
theorem zA8 {es : List (List AV)} (h : ∀ e,e ∈ es → e.all AV.one = true) : es.flatten.all AV.one = true := by
  rw [bI];intro x hx;obtain ⟨e,he,hx⟩ := zO4.1 hx;exact bI.1 (h e he) x hx
theorem FS {α : Type} {f : α → List AV} (hf : ∀ x,(f x).all AV.one = true) (l : List α) : (l.map f).flatten.all AV.one = true := zA8 fun e he => by
  obtain ⟨x,_,rfl⟩ := bC.1 he;exact hf x
theorem FZ {α : Type} {f : α → List AV} (hf : ∀ x,AV.idfL (f x) = true) (l : List α) : ∀ e,e ∈ l.map f → AV.idfL e = true := fun e he => by
  obtain ⟨x,_,rfl⟩ := bC.1 he;exact hf x
def IS (n : Int) : Bool := decide (n < 0 ∨ 1048576 < n)
def IU (c : Cx) : Bool := [c.m,c.st,c.er,c.sl].any IS
theorem SF {c : Cx} : IU c = false ↔ lS c.m c.st c.er c.sl := by
  unfold IU lS IS;simp;omega
end Go.Ld
namespace Go.Proofs.YtmmmeebiobjnbaaGreat
open Go Go.Ab Go.Ld
attribute [local irreducible] VC AW cF aS iZ
set_option maxHeartbeats 4000000
theorem ZI (l : List KD) (hl : l.length ≤ 1000000) : aS Tryz.prog 51 [.rowE (gN l) 2] [] (.rowE (gN l) 2) [] := by
  have hll : (gN l).length = l.length := aY _;have hid := FZ (f := fun b : KD => [AV.v (.string b.1),AV.i b.2]) (fun _ => rfl) l;have hon := FS (f := fun b : KD => [AV.v (.string b.1),AV.i b.2]) (fun _ => rfl) l;refine kH (len := l.length) hll.symm (fX hid) ?_;refine bW T Tryz.func51 rfl rfl rfl rfl ?_
  repeat' (first|refine wS ?_|refine wK ?_|refine wT ?_|refine wU ?_|(refine rg 0 (aV ?_))|(refine rg 1 (mV ?_);refine sO T rfl rfl rfl rfl fun b hb=>?_;cases b)|refine nZ ?_)
  · (repeat' (first|refine wR ?_|(refine rg 3 (cD (by exact bD T rfl rfl (by decide) (by decide) rfl rfl rfl) rfl ?_);refine mW rfl (fY T rfl rfl rfl rfl rfl rfl (by decide) (.row (vQ l)) hon (by simp;omega) (by simp;omega) rfl ?_);refine aV ?_)|(refine nZ ?_)));exact ⟨.inl rfl,[1],_,rfl,(by show AV.sl 1 0 (0 + (gN l).length) 2 = AV.sl 1 0 l.length 2;simp),rfl,⟨.inr (aC rfl rfl hid),trivial⟩,by decide,N4⟩
  · have hl0 : l = [] := fP.1 (Classical.byContradiction fun h => by have := hb (by omega);cases this)
    subst hl0
    (repeat' (first|refine wR ?_|(refine rg 2 (vV (dJ rfl) (qC 2 2 rfl (by decide) ?_)))|refine nZ ?_));exact ⟨.inl rfl,[0],_,rfl,rfl,rfl,⟨.inr (aC rfl rfl hid),trivial⟩,by decide,N4⟩
theorem LH (l : List LT) (hl : l.length ≤ 1000000) : aS Tryz.prog 31 [.rowE (iS l) 3] [] (.rowE (iS l) 3) [] := by
  have hll : (iS l).length = l.length := aY _;have hid := FZ (f := fun b : LT => [AV.i b.1,AV.i b.2.1,AV.b b.2.2]) (fun _ => rfl) l;have hon := FS (f := fun b : LT => [AV.i b.1,AV.i b.2.1,AV.b b.2.2]) (fun _ => rfl) l;refine kH (len := l.length) hll.symm (fX hid) ?_;refine bW T Tryz.func31 rfl rfl rfl rfl ?_
  repeat' (first|refine wS ?_|refine wK ?_|refine wT ?_|refine wU ?_|(refine rg 0 (aV ?_))|(refine rg 1 (mV ?_);refine sO T rfl rfl rfl rfl fun b hb=>?_;cases b)|refine nZ ?_)
  · (repeat' (first|refine wR ?_|(refine rg 3 (cD (by exact bD T rfl rfl (by decide) (by decide) rfl rfl rfl) rfl ?_);refine mW rfl (fY T rfl rfl rfl rfl rfl rfl (by decide) (.row (zH l)) hon (by simp;omega) (by simp;omega) rfl ?_);refine aV ?_)|(refine nZ ?_)));exact ⟨.inl rfl,[1],_,rfl,(by show AV.sl 1 0 (0 + (iS l).length) 3 = AV.sl 1 0 l.length 3;simp),rfl,⟨.inr (aC rfl rfl hid),trivial⟩,by decide,N4⟩
  · have hl0 : l = [] := fP.1 (Classical.byContradiction fun h => by have := hb (by omega);cases this)
    subst hl0
    (repeat' (first|refine wR ?_|(refine rg 2 (vV (dJ rfl) (qC 2 3 rfl (by decide) ?_)))|refine nZ ?_));exact ⟨.inl rfl,[0],_,rfl,rfl,rfl,⟨.inr (aC rfl rfl hid),trivial⟩,by decide,N4⟩
theorem LJ (l : List BX) (hl : l.length ≤ 1000000) : aS Tryz.prog 32 [.rowE (dR l) 3] [] (.rowE (dR l) 3) [] := by
  have hll : (dR l).length = l.length := aY _;have hid := FZ (f := fun b : BX => [AV.i b.1,AV.i b.2.1,AV.i b.2.2]) (fun _ => rfl) l;have hon := FS (f := fun b : BX => [AV.i b.1,AV.i b.2.1,AV.i b.2.2]) (fun _ => rfl) l;refine kH (len := l.length) hll.symm (fX hid) ?_;refine bW T Tryz.func32 rfl rfl rfl rfl ?_
  repeat' (first|refine wS ?_|refine wK ?_|refine wT ?_|refine wU ?_|(refine rg 0 (aV ?_))|(refine rg 1 (mV ?_);refine sO T rfl rfl rfl rfl fun b hb=>?_;cases b)|refine nZ ?_)
  · (repeat' (first|refine wR ?_|(refine rg 3 (cD (by exact bD T rfl rfl (by decide) (by decide) rfl rfl rfl) rfl ?_);refine mW rfl (fY T rfl rfl rfl rfl rfl rfl (by decide) (.row (kG l)) hon (by simp;omega) (by simp;omega) rfl ?_);refine aV ?_)|(refine nZ ?_)));exact ⟨.inl rfl,[1],_,rfl,(by show AV.sl 1 0 (0 + (dR l).length) 3 = AV.sl 1 0 l.length 3;simp),rfl,⟨.inr (aC rfl rfl hid),trivial⟩,by decide,N4⟩
  · have hl0 : l = [] := fP.1 (Classical.byContradiction fun h => by have := hb (by omega);cases this)
    subst hl0
    (repeat' (first|refine wR ?_|(refine rg 2 (vV (dJ rfl) (qC 2 3 rfl (by decide) ?_)))|refine nZ ?_));exact ⟨.inl rfl,[0],_,rfl,rfl,rfl,⟨.inr (aC rfl rfl hid),trivial⟩,by decide,N4⟩
theorem zF3 (n : Int) : aS Tryz.prog 69 [.i n] [] (.b (IS n)) [] := by
  unfold IS;by_cases h : n < 0
  · rw [decide_eq_true (.inl h)];refine bW T Tryz.func69 rfl rfl rfl rfl ?_
    (repeat' (first|refine wS ?_|refine wR ?_|(refine rg 0 (aV ?_))|(refine rg 1 (mW rfl (vV (zK3 rfl rfl (by omega)) (mV ?_)));(iterate 2 refine gF ?_);refine pW rfl (aV ?_))|refine nZ ?_));all_goals first | (exfalso;omega) | exact rQ
  · refine bW T Tryz.func69 rfl rfl rfl rfl ?_
    (repeat' (first|refine wS ?_|refine wR ?_|(refine rg 0 (aV ?_))|(refine rg 1 (mW rfl (vV (zK4 rfl rfl (by omega)) (mW rfl (yN rfl (yV (eU rfl rfl) (pW rfl (aV ?_))))))))|refine nZ ?_));all_goals first | (exfalso;omega) | (refine dC (.inl rfl) rfl (nB ?_);simp;omega)
theorem BY (c : Cx) : aS Tryz.prog 48 [.agg [.i c.m,.i c.st,.i c.er,.i c.sl]] [] (.b (!IU c)) [] := by
  have hh := zU6 (l := [c.m,c.st,c.er,c.sl]) (F := 69) (caps := []) (p := IS) (by simp) rfl (fun x hx => zF3 x)
  change aS _ _ _ _ (.b (IU c)) _ at hh;generalize IU c = v at *;refine bW T Tryz.func48 rfl rfl rfl rfl ?_
  (repeat' (first|refine wS ?_|refine wR ?_|(refine rg 0 (cD (cQ rfl rfl) rfl (aV ?_)))|(refine rg 1 (iB T rfl (iB T rfl (iB T rfl (iB T rfl (cD (by exact bD T rfl rfl (by decide) (by decide) rfl rfl rfl) rfl ?_)))));refine mL 11 rfl rfl rfl rfl ?_;refine vV (kC (hh)) (vV (dI rfl) (aV ?_)))|refine nZ ?_));all_goals first | (exfalso;omega) | exact rQ
end Go.Proofs.YtmmmeebiobjnbaaGreat
namespace Go.Ld
open Go.Ab Go.Proofs.YtmmmeebiobjnbaaGreat
abbrev zI5 (c : Cx) (x : AV) : List AV := [.i c.m,.i c.st,.i c.er,.i c.sl,.rowE (gN c.ks) 2,.rowE (iS c.ls) 3,.rowE (dR c.bs) 3,x]
theorem NZ {h : Hp} {i sz : Nat} {θ : Nat → Nat} {A A' : List (List AV)} {E E' : List AV} (hk : h[i]? = some (.arr (A' ++ [E']) sz)) (hA : A' = A) (hE : E' = AV.mapL θ E) (hi : ∀ e,e ∈ A → AV.idfL e = true) : h[i]? = some ((AB.arr (A ++ [E]) sz).map θ) := by
  subst hA hE;rw [hk];simp only [AB.map,bY,bE θ hi];rfl
theorem zK9 {A : List (List AV)} {x y : AV} : (A ++ [[x,y]]).flatten[A.flatten.length]? = some x := by simp
theorem zK8 {A : List (List AV)} {x y : AV} : (A ++ [[x,y]]).flatten[A.flatten.length + 1]? = some y := by
  rw [fI,aE (by omega)];simp
theorem zK7 {A : List (List AV)} {x y z : AV} : (A ++ [[z,y]]).flatten = (A ++ [[x,y]]).flatten.set A.flatten.length z := by
  rw [fI,fI,iP _ _ (by omega)];simp
theorem zK6 {A : List (List AV)} {x y z : AV} : (A ++ [[x,z]]).flatten = (A ++ [[x,y]]).flatten.set (A.flatten.length + 1) z := by
  rw [fI,fI,iP _ _ (by omega)];simp
theorem XO (c : Cx) : (pT c).length = c.bs.length := by rw [xB];simp
theorem TC {c : Cx} {k : Nat} (h : k < c.bs.length) : (pT c).take (k + 1) = (pT c).take k ++ [T0 c k] := by
  rw [xB,← kK,← kK,aU (by simpa using h),bY]
  simp
end Go.Ld
namespace Go.Proofs.YtmmmeebiobjnbaaGreat
open Go Go.Ab Go.Ld
attribute [local irreducible] VC AW cF aS iZ
set_option maxHeartbeats 4000000
theorem yA5 (c : Cx) (hc : iY c) (hid : aS Tryz.prog 50 [.i (dR c.bs).length] [] (.rowE (ints (nats (List.range c.bs.length))) 1) []) (htr : aS Tryz.prog 49 [.rowE (gN c.ks) 2,.rowE (iS c.ls) 3,.rowE (ints (nats (List.range c.bs.length))) 1,.rowE (dR c.bs) 3] [] (.b true) []) :
    aS Tryz.prog 30 [.agg [.i c.m,.i c.st,.i c.er,.i c.sl],.rowE (gN c.ks) 2,.rowE (iS c.ls) 3,.rowE (dR c.bs) 3] [] (.tup [.ptr 0 0,.i 0]) [.cells (jT c (pT c))] := by
  have hn1 := hc.f.n1;have hn8 := hc.f.n8;have hk10 := hc.f.k10;have hl10 := hc.f.l10;have hnl : (nats (List.range c.bs.length)).length = c.bs.length := by simp
  have hsn := BY c;rw [SF.2 hc.s] at hsn;have h1 := ZI c.ks (by omega)
  have h2 := LH c.ls (by omega)
  have h3 := LJ c.bs (by omega)
  have hbl : (dR c.bs).length = c.bs.length := aY _;have hNl := XO c;refine bW T Tryz.func30 rfl rfl rfl rfl ?_
  (repeat' (first|refine wS ?_|(refine rg 0 (cD (cQ rfl rfl) rfl (rK ?_)))|refine nZ ?_));refine gY 4 rfl rfl rfl ?_
  (repeat' (first|refine wS ?_|refine wK ?_|refine wU ?_|(refine rg 1 (lW T rfl (vV (kC (hsn)) (vV (dI rfl) (mW rfl (yN rfl (yN rfl (yN rfl (gT (qV T ?_)))))))));refine yV (kC (hid)) (yN rfl (yV (kC (htr)) (yV (dI rfl) (pV ?_)))))|(refine cH (id := 3) 69 [[],[],[1],[],[1,2,3],[],rM 1 5,rN 7,rN 8] (rM 27 9) [[],[27],[27],[27,28,29],[27],rM 27 5,[27],[],[]] cO rfl (by decide +kernel) (dO T rfl (dN rfl (dV rfl (kC (h1)) (dN rfl (dV rfl (kC (h2)) (dN rfl (dV rfl (kC (h3)) (dV rfl (by exact eS T rfl rfl rfl rfl) ?_))))))));refine F9 rfl rfl rfl (by exact cQ rfl rfl) rfl ?_;refine dE ?_;refine aV ?_)|refine nZ ?_));all_goals try (exfalso;omega)
  refine fC [(3,.rowE (dR c.bs) 3),(10,.ptr 0 0)] [.cells (zI5 c .nils)] ⟨[1],rfl,(by repeat first|exact trivial|refine ⟨rfl,?_⟩),⟨.inr rfl,trivial⟩,by decide,kQ _⟩ ?_
  refine nY 0 7 2 rfl rfl (by decide) ?_
  (repeat' (first|refine wB ?_|(refine rg 4 (mW rfl (qW T rfl (mV ?_))))|refine nZ ?_));all_goals try (exfalso;omega)
  refine dQ (X := {k : Nat // k ≤ c.bs.length}) (fun k => [(10,.ptr 0 0),(36,.rowE (dR c.bs) 3),(37,.i (dR c.bs).length),(38,.i k.1)]) (fun k => [.cells (zI5 c (.sl 1 0 k.1 2)),.arr (kE ((pT c).take k.1)) 2]) (fun k => c.bs.length - k.1) ⟨0,cM _⟩ ⟨[0,1],rfl,(by repeat first|exact trivial|refine ⟨rfl,?_⟩),⟨.inr rfl,.inr rfl,trivial⟩,by decide,kQ _⟩ ?_
  rintro ⟨k,hk⟩;dsimp only;by_cases hlt : k < c.bs.length
  · have hb := hc.f.b k hlt;have hbx : c.bs[k]? = some (c.bs.getD k (0,0,0)) := by rw [aD,aB hlt];rfl
    have hge : c.bs[k] = c.bs.getD k (0,0,0) := by rw [aD,aB hlt];rfl
    rw [hge] at hb;have qb : (dR c.bs)[((k : Int)).toNat]? = some [.i (c.bs.getD k (0,0,0)).1,.i (c.bs.getD k (0,0,0)).2.1,.i (c.bs.getD k (0,0,0)).2.2] := by rw [bQ,bT,hbx];rfl
    have hsu := TC hlt;have hA : kE ((pT c).take (k + 1)) = kE ((pT c).take k) ++ [gA (T0 c k)] := by rw [hsu,kE,bY];rfl
    have hAl : (kE ((pT c).take k)).length = k := by rw [jK,bG];omega
    have hAi := eH ((pT c).take k);have hA3 := rB ((pT c).take k);have hAi2 := eH ((pT c).take (k + 1));unfold T0 at hA;generalize c.bs.getD k (0,0,0) = bx at *;obtain ⟨lot,cnt,ta⟩ := bx;dsimp only at *;generalize hG : kE ((pT c).take k) = A at *
    (repeat' (first|refine wS ?_|refine wB ?_|refine wK ?_|(refine wC rfl ?_ ?_<;>(intro hb;(try simp only [nm] at hb);try (exfalso;omega)))|(refine rg 5 (vV (aM rfl rfl) ?_))|(refine rg 6 (mW rfl (vV (ix T rfl (by omega) (kG _) qb) (lW T rfl (cD (cK T rfl) rfl (aW rfl (bA T rfl rfl rfl rfl rfl rfl (by decide) rfl ?_)))))))|refine nZ ?_));all_goals try (exfalso;omega)
    refine gY 12 (cs := [.i lot,.i cnt,.i ta]) rfl rfl rfl ?_
    (repeat' (first|(refine rg 7 (mW rfl (cD (by exact bD T rfl rfl (by decide) (by decide) rfl rfl rfl) rfl ?_));refine mL 44 rfl rfl rfl rfl ?_;refine iB T rfl (iB T rfl (vV (cC rfl rfl (by omega) (by omega)) (vV (by exact eS T rfl rfl rfl rfl) ?_)));refine cD (by exact bD T rfl rfl (by decide) (by decide) rfl rfl rfl) rfl ?_;refine mL 51 rfl rfl rfl rfl ?_;refine vV (by exact eS T rfl rfl rfl rfl) ?_;refine cD (cK T rfl) rfl (bA T rfl rfl rfl rfl rfl rfl (by decide) rfl ?_))|refine nZ ?_));all_goals try (exfalso;omega)
    refine gY 13 (cs := wA ([(k : Int)],0,[(cnt,cnt + 1)])) rfl rfl rfl ?_;refine fC [(10,.ptr 0 0),(36,.rowE (dR c.bs) 3),(37,.i (dR c.bs).length),(38,.i k),(11,.i k),(13,.pr (wA ([(k : Int)],0,[(cnt,cnt + 1)])) 0)] [.cells (zI5 c (.sl 1 0 k 2)),.arr A 2] ⟨[0,1],rfl,(by repeat first|exact trivial|refine ⟨rfl,?_⟩),⟨.inr rfl,.inr (aC rfl rfl hAi),trivial⟩,by decide,kQ _⟩ ?_
    (repeat' (first|(refine mH (id := 8) 69 [[],[],[1],[1,2],[1,2,3],[],[5],[],[7],rM 5 4,rM 5 5,rM 1 10,rN 12,rN 13,rN 14] (rM 53 14) [[],[53],[53],[53],[53],rM 53 5,rM 53 5,rM 53 7,rM 53 7,rM 53 5,rM 53 5,[53],[],[],[]] [(11,1),(14,0)] cO rfl (by decide +kernel) (cE rfl rfl rfl rfl (by exact bN rfl) ?_);refine cE rfl rfl rfl rfl (by exact bN rfl) ?_;refine cE rfl rfl rfl rfl (by exact cJ rfl rfl) ?_;refine cE rfl rfl rfl rfl (by exact bF T rfl rfl rfl) ?_;refine cE rfl rfl rfl rfl (by exact aJ T rfl rfl rfl rfl) ?_;refine cE rfl rfl rfl rfl (by exact bN rfl) ?_;refine uJ rfl rfl rfl rfl (by exact bD T rfl rfl (by decide) (by decide) rfl rfl rfl) rfl ?_;refine cE rfl rfl rfl rfl (by exact aJ T rfl rfl rfl rfl) ?_;refine uJ rfl rfl rfl rfl (by exact bD T rfl rfl (by decide) (by decide) rfl rfl rfl) rfl ?_;refine cE rfl rfl rfl rfl (by exact eS T rfl rfl rfl rfl) ?_;refine uJ rfl rfl rfl rfl (by exact bD T rfl rfl (by decide) (by decide) rfl rfl rfl) rfl ?_;refine mQ rfl rfl rfl rfl (aG rfl) (by exact lL T rfl rfl rfl rfl rfl rfl (by omega) (jJ.whole rfl rfl) rfl (by simp;omega) (by simp;omega)) ?_;refine cE rfl rfl rfl rfl (by exact cJ rfl rfl) ?_;refine cE rfl rfl rfl rfl (by exact bF T rfl rfl rfl) ?_;refine uW rfl rfl rfl rfl (aG rfl) T rfl rfl rfl rfl rfl rfl (by decide) rfl ?_;refine qK rfl rfl rfl (by exact rfl) ?_)|refine nZ ?_));all_goals try (exfalso;omega)
    show AW _ _ _ _ _ _;refine fC [(10, .ptr 0 0), (36, .rowE (dR c.bs) 3), (37, .i (dR c.bs).length), (38, .i k)] [.cells (zI5 c (.sl 3 0 (k + 1) 2)), .arr (ints [(k : Int)]) 1, .arr (gE [([(k : Int)], 0, [(cnt, cnt + 1)])]) 3, .arr (A ++ [[.sl 1 0 1 1, .sl 2 0 1 3]]) 2]
      ⟨[0,2,3,5],rfl,(by repeat first|exact trivial|refine ⟨rfl,?_⟩),⟨.inr rfl,.inr rfl,.inr rfl,.inr (NZ rfl (by rw [jR];exact bR (by omega)) rfl hAi),trivial⟩,by decide,kQ _⟩ ?_
    have hE : ∀ (x y : AV) (e : List AV),e ∈ A ++ [[x,y]] → e.length = 2 := fun x y e he => by
      rcases bH.1 he with he | he
      · exact hA3 e he
      · rw [bK.1 he];rfl
    refine LP 3 A.flatten.length (A ++ [[.rowE (ints [(k : Int)]) 1,.sl 2 0 1 3]]) rfl (by decide) (by simp) zK9 rfl rfl rfl (hE _ _) zK7 ?_
    refine LP 3 (A.flatten.length + 1) (A ++ [[.rowE (ints [(k : Int)]) 1,.rowE (gE [([(k : Int)],0,[(cnt,cnt + 1)])]) 3]]) rfl (by decide) (by simp) zK8 rfl rfl rfl (hE _ _) zK6 ?_
    (repeat' (first|(refine rg 9 (vV (cC rfl rfl (by omega) (by omega)) (mV ?_)))|refine nZ ?_));all_goals try (exfalso;omega)
    exact ⟨⟨k + 1,hlt⟩,by dsimp only;omega,⟨[0,3],rfl,(by repeat first|exact trivial|refine ⟨rfl,?_⟩),⟨.inr rfl,.inr (aC rfl (by dsimp only;rw [hA]) hAi2),trivial⟩,by decide,kQ _⟩⟩
  · obtain rfl : k = c.bs.length := by omega
    rw [← hNl,dA,hNl];refine nK 0 7 (es := kE (pT c)) rfl rfl rfl (by rw [jK,hNl]) (fX (eH _)) ?_
    (repeat' (first|refine wS ?_|refine wR ?_|refine wE ?_|(refine wC rfl ?_ ?_<;>(intro hb;(try simp only [nm] at hb);try (exfalso;omega)))|(refine rg 5 (vV (aM rfl rfl) ?_))|(refine rg 10 (mW rfl (rK ?_)))|refine nZ ?_));all_goals try (exfalso;omega)
    all_goals exact ⟨.inl rfl,[0],_,rfl,rfl,rfl,⟨.inr rfl,trivial⟩,by decide,kQ _⟩
end Go.Proofs.YtmmmeebiobjnbaaGreat
namespace Go.Ld
open Go.Ab Go.Proofs.YtmmmeebiobjnbaaGreat
def RP (p q : List Int) (x : Int × SP) (b : Int) : Prop := x.1 = p.getD b.toNat 0 ∧ vT x.2.1 x.2.2 (q.getD (p.getD b.toNat 0).toNat 0) = true
theorem zL4 {g : G} {p q : List Int} {w : W} : AS g p q w = true ↔ ∀ i,i < g.1.length → RP p q (gP w i,gC w i) (g.1.getD i 0) := by
  unfold AS Q2 RP;rw [bI];constructor
  · intro h i hi;have := h i (eW.2 hi);simp only [aL,decide_eq_true_eq] at this;exact this
  · intro h i hi;have := h i (eW.1 hi);simp only [aL,decide_eq_true_eq];exact this
theorem BH {g : G} {p q : List Int} (h0 : ∀ w, w ∈ g.2 → 0 ≤ w.2.1) : ∀ k, k ≤ g.2.length → (R4 g p q k = -1 ∧ ∀ w, w ∈ g.2.take k → AS g p q w = false) ∨ (∃ w, w ∈ g.2.take k ∧ AS g p q w = true ∧ w.2.1 = R4 g p q k ∧ ∀ v, v ∈ g.2.take k → AS g p q v = true → R4 g p q k ≤ v.2.1)
  | 0,_ => .inl ⟨rfl,fun w hw => by simp at hw⟩
  | k + 1,hk => by
    have ih := BH (p := p) (q := q) h0 k (by omega)
    have hx := h0 g.2[k] (aQ _);rw [OK (by omega)]
    have ht : ∀ w,w ∈ g.2.take (k + 1) ↔ w ∈ g.2.take k ∨ w = g.2[k] := fun w => by
      rw [aU (by omega),bH,bK]
    simp only [ht];unfold ZN;generalize g.2[k] = x at *;generalize R4 g p q k = m at *;cases hf : AS g p q x with
    | false =>
      rw [Bool.false_and,if_neg (by simp)]
      rcases ih with ⟨h1,h2⟩ | ⟨w,h1,h2,h3,h4⟩
      · refine .inl ⟨h1,fun w hw => ?_⟩
        rcases hw with hw | rfl
        · exact h2 w hw
        · exact hf
      · refine .inr ⟨w,.inl h1,h2,h3,fun v hv hvf => ?_⟩
        rcases hv with hv | rfl
        · exact h4 v hv hvf
        · rw [hf] at hvf;cases hvf
    | true =>
      rw [oD];rcases ih with ⟨h1,h2⟩ | ⟨w,h1,h2,h3,h4⟩
      · rw [decide_eq_true (show m < 0 by omega),Bool.true_or,if_pos rfl]
        refine .inr ⟨x,.inr rfl,hf,rfl,fun v hv hvf => ?_⟩
        rcases hv with hv | rfl
        · rw [h2 v hv] at hvf;cases hvf
        · exact eM _
      · have hm0 : 0 ≤ m := by rw [← h3];exact h0 w (eK h1)
        rw [decide_eq_false (show ¬ m < 0 by omega),Bool.false_or]
        by_cases hlt : x.2.1 < m
        · rw [if_pos (decide_eq_true hlt)];refine .inr ⟨x,.inr rfl,hf,rfl,fun v hv hvf => ?_⟩
          rcases hv with hv | rfl
          · have := h4 v hv hvf;omega
          · exact eM _
        · rw [if_neg (by simpa using hlt)]
          refine .inr ⟨w,.inl h1,h2,h3,fun v hv hvf => ?_⟩
          rcases hv with hv | rfl
          · exact h4 v hv hvf
          · omega
theorem EO {g : G} {p q : List Int} (h0 : ∀ w,w ∈ g.2 → 0 ≤ w.2.1) : (E5 g p q = -1 ∧ ∀ w,w ∈ g.2 → AS g p q w = false) ∨ (∃ w,w ∈ g.2 ∧ AS g p q w = true ∧ w.2.1 = E5 g p q ∧ ∀ v,v ∈ g.2 → AS g p q v = true → E5 g p q ≤ v.2.1) := by
  have := BH (p := p) (q := q) h0 g.2.length (aX _);rw [dA] at this;exact this
def ES (g : G) (w : W) : As := fun b => (gP w (g.1.idxOf b),gC w (g.1.idxOf b))
theorem K8 {n : Nat} {g : G} {w : W} (ok : A4 n g) (hw : EU n g.1.length w) : oF g.1 w (ES g w) := by
  unfold oF ES gP gC;constructor
  · refine lB (by rw [aY];exact hw.pl) fun i h1 h2 => ?_
    rw [oW,ok.nd.idxOf_getElem];dsimp only;rw [aD,aB h1];rfl
  · refine lB (by rw [aY];exact hw.cl) fun i h1 h2 => ?_
    rw [oW,ok.nd.idxOf_getElem];dsimp only;rw [aD,aB h1];rfl
theorem YW {n : Nat} {g : G} {p q : List Int} {w : W} {f : As} (ok : A4 n g) (hf : oF g.1 w f) : AS g p q w = true ↔ ∀ b,b ∈ g.1 → RP p q (f b) b := by
  rw [zL4];have key : ∀ i (hi : i < g.1.length),(gP w i,gC w i) = f g.1[i] ∧ g.1.getD i 0 = g.1[i] := fun i hi => by
    rw [AN hf hi,AO hf hi];exact ⟨rfl,by rw [aD,aB hi];rfl⟩
  constructor
  · intro h b hb;obtain ⟨i,hi,rfl⟩ := List.getElem_of_mem hb;have := h i hi;rw [(key i hi).1,(key i hi).2] at this;exact this
  · intro h i hi;rw [(key i hi).1,(key i hi).2];exact h _ (aQ hi)
theorem zB2 {n : Nat} {p q : List Int} : ∀ {gs : List G},(gs.flatMap (·.1)).Nodup → (∀ g,g ∈ gs → A4 n g) → ∀ {M : Int},
    ((∀ g,g ∈ gs → 0 ≤ E5 g p q) ∧ (gs.map fun g => E5 g p q).sum ≤ M) ↔ ∃ f : As,(∀ g,g ∈ gs → ∀ b,b ∈ g.1 → RP p q (f b) b) ∧ Sem gs f M
  | [],_,_,M => by
    constructor
    · rintro ⟨_,h⟩;exact ⟨fun _ => (0,(0,0)),by simp,by simpa [Sem] using h⟩
    · rintro ⟨f,_,h⟩;exact ⟨by simp,by simpa [Sem] using h⟩
  | g :: gs,hnd,hok,M => by
    rw [bJ] at hnd;obtain ⟨_,n2,n3⟩ := cT.1 hnd;have og := hok g aR;have h0 : ∀ w,w ∈ g.2 → 0 ≤ w.2.1 := fun w hw => (og.ws w hw).m0;have ih := fun M => zB2 (p := p) (q := q) (gs := gs) n2 (fun x hx => hok x (aI _ hx)) (M := M);rw [List.map_cons,yG0];constructor
    · rintro ⟨h1,h2⟩;rcases EO (p := p) (q := q) h0 with ⟨b1,_⟩ | ⟨w,b1,b2,b3,b4⟩
      · have := h1 g aR;omega
      obtain ⟨f,f1,f2⟩ := (ih (M - E5 g p q)).1 ⟨fun x hx => h1 x (aI _ hx),by omega⟩
      have ow := og.ws w b1;have hfi := K8 og ow
      let f' : As := fun b => if b ∈ g.1 then ES g w b else f b
      have e1 : ∀ b,b ∈ g.1 → f' b = ES g w b := fun b hb => if_pos hb
      have e2 : ∀ x,x ∈ gs → ∀ b,b ∈ x.1 → f' b = f b := fun x hx b hb => if_neg fun q => n3 b q b (oR hx hb) rfl;have hfi' : oF g.1 w f' := ⟨hfi.1.trans (jL fun b hb => by rw [e1 b hb]),hfi.2.trans (jL fun b hb => by rw [e1 b hb])⟩
      refine ⟨f',fun x hx b hb => ?_,E5 g p q,⟨w,b1,hfi',by omega⟩,(sJ e2).2 f2⟩
      rcases bS.1 hx with rfl | hx
      · exact (YW og hfi').1 b2 b hb
      · rw [e2 x hx b hb];exact f1 x hx b hb
    · rintro ⟨f,f1,m,⟨w,w1,w2,w3⟩,f2⟩;have hfw := (YW (p := p) (q := q) og w2).2 (f1 g aR);obtain ⟨i1,i2⟩ := (ih (M - m)).2 ⟨f,fun x hx => f1 x (aI _ hx),f2⟩;rcases EO (p := p) (q := q) h0 with ⟨_,b2⟩ | ⟨v,b1,b2,b3,b4⟩
      · rw [b2 w w1] at hfw;cases hfw
      · have := b4 w w1 hfw;have := h0 v b1;refine ⟨fun x hx => ?_,by omega⟩
        rcases bS.1 hx with rfl | hx
        · omega
        · exact i1 x hx
theorem HD {c : Cx} {gs : List G} {p q : List Int} (h : oY c gs) : zX2 c gs p q = true ↔ p.length = c.bs.length ∧ q.length = p.length ∧ Go.Pm.permB p = true ∧ ∃ f : As,(∀ b : Int,0 ≤ b → b < c.bs.length → RP p q (f b) b) ∧ Sem gs f c.m := by
  have hs := zB2 (p := p) (q := q) h.mid.out.nd h.mid.out.ok (M := c.m);have e : zR9 gs p q gs.length = (gs.map fun g => E5 g p q).sum := by unfold zR9;rw [dA]
  unfold zX2;simp only [aL,decide_eq_true_eq,bI,e,and_assoc];rw [hs];have hb : ∀ f : As,(∀ g,g ∈ gs → ∀ b,b ∈ g.1 → RP p q (f b) b) ↔ ∀ b : Int,0 ≤ b → b < c.bs.length → RP p q (f b) b := fun f => by
    constructor
    · intro h1 b b0 b1;obtain ⟨g,hg,hbg⟩ := h.mid.find ⟨b0,b1⟩;exact h1 g hg b hbg
    · intro h1 g hg b hbg;have := (h.mid.out.ok g hg).rg b hbg;exact h1 b this.1 this.2
  simp only [hb]
theorem QY {n : Nat} {g : G} {w : W} {f : As} (ok : A4 n g) (ow : EU n g.1.length w) : oF g.1 w f ↔ ∀ b,b ∈ g.1 → ES g w b = f b := by
  have h := K8 ok ow;constructor
  · intro hf b hb;have e1 := h.1.symm.trans hf.1;have e2 := h.2.symm.trans hf.2;exact Prod.ext (R8.1 e1 b hb) (R8.1 e2 b hb)
  · intro hp;exact ⟨h.1.trans (jL fun b hb => by rw [hp b hb]),h.2.trans (jL fun b hb => by rw [hp b hb])⟩
theorem DL {n : Nat} {x y : G} (jo : vA n x y) {u v : W} (hu : u ∈ x.2) (hv : v ∈ y.2) {f : As} : oF (mK x y).1 (E2 x y u v (mK x y).1) f ↔ oF x.1 u f ∧ oF y.1 v f := by
  rw [QY jo.gx (jo.gx.ws u hu),QY jo.gy (jo.gy.ws v hv)];have hm : ∀ b,b ∈ (mK x y).1 ↔ b ∈ x.1 ∨ b ∈ y.1 := fun b => (mP x y).mem_iff.trans bH;generalize (mK x y).1 = l at *;have e1 : ∀ b,(if b ∈ x.1 then gP u (x.1.idxOf b) else gP v (y.1.idxOf b)) = (if b ∈ x.1 then ES x u b else ES y v b).1 := fun b => by split <;> rfl
  have e2 : ∀ b,(if b ∈ x.1 then gC u (x.1.idxOf b) else gC v (y.1.idxOf b)) = (if b ∈ x.1 then ES x u b else ES y v b).2 := fun b => by split <;> rfl
  unfold oF E2;simp only [e1,e2];rw [R8,R8];constructor
  · rintro ⟨h1,h2⟩;have h : ∀ b,b ∈ l → (if b ∈ x.1 then ES x u b else ES y v b) = f b := fun b hb => Prod.ext (h1 b hb) (h2 b hb)
    refine ⟨fun b hb => ?_,fun b hb => ?_⟩
    · have := h b ((hm b).2 (.inl hb));rwa [if_pos hb] at this
    · have := h b ((hm b).2 (.inr hb));rwa [if_neg (fun q => jo.dj b q hb)] at this
  · rintro ⟨h1,h2⟩;have h : ∀ b,b ∈ l → (if b ∈ x.1 then ES x u b else ES y v b) = f b := fun b hb => by
      by_cases hx : b ∈ x.1
      · rw [if_pos hx];exact h1 b hx
      · rw [if_neg hx];exact h2 b (((hm b).1 hb).resolve_left hx)
    exact ⟨fun b hb => by rw [h b hb],fun b hb => by rw [h b hb]⟩
theorem XI {n : Nat} {x y : G} (jo : vA n x y) {f : As} {M : Int} : G9 (mK x y) f M ↔ ∃ m,G9 x f m ∧ G9 y f (M - m) := by
  constructor
  · rintro ⟨w,hw,hf,hm⟩;obtain ⟨u,v,hu,hv,rfl⟩ := B5 hw;obtain ⟨h1,h2⟩ := (DL jo hu hv).1 hf;change u.2.1 + v.2.1 ≤ M at hm;exact ⟨u.2.1,⟨u,hu,h1,eM _⟩,v,hv,h2,by omega⟩
  · rintro ⟨m,⟨u,hu,h1,h3⟩,v,hv,h2,h4⟩;refine ⟨E2 x y u v (mK x y).1,gG.2 ⟨u,hu,bC.2 ⟨v,hv,rfl⟩⟩,(DL jo hu hv).2 ⟨h1,h2⟩,?_⟩;show u.2.1 + v.2.1 ≤ M;omega
theorem PL {u v J : G} {L : List G} {f : As} (h : ∀ M,G9 J f M ↔ ∃ m,G9 u f m ∧ G9 v f (M - m)) {M : Int} : Sem (J :: L) f M ↔ Sem (u :: v :: L) f M := by
  simp only [Sem,h];constructor
  · rintro ⟨m,⟨m',h1,h2⟩,h3⟩;exact ⟨m',h1,m - m',h2,h3.mono (by omega)⟩
  · rintro ⟨m,h1,m',h2,h3⟩;exact ⟨m + m',⟨m,h1,by rw [show m + m' - m = m' by omega];exact h2⟩,h3.mono (by omega)⟩
theorem zF {P Q R : List G} {u v : G} : (P ++ u :: (Q ++ v :: R)).Perm (u :: v :: (P ++ (Q ++ R))) := by
  refine List.perm_middle.trans (List.Perm.cons _ ?_);rw [← bV,← bV];exact iN
theorem XU {c : Cx} {gs all : List G} {a b : Int} (h : nR c c.m gs) (ha : 0 ≤ a ∧ a < c.bs.length) (hb : 0 ≤ b ∧ b < c.bs.length) (e : join gs a b = some all) {f : As} {M : Int} : Sem all f M ↔ Sem gs f M := by
  obtain ⟨i,x,hi,hix,hax⟩ := iR (h.find ha);obtain ⟨k,y,hk,hky,hby⟩ := iR (h.find hb);have hx := aN hix;have hy := aN hky;unfold join at e;dsimp only at e;rw [hi,hk] at e;split at e
  · cases e;exact Iff.rfl
  · rename_i hik;have gi : lY gs ((i : Int)).toNat = x := by unfold lY;rw [aD];show (gs[i]?).getD _ = x;rw [hix];rfl
    have gk : lY gs ((k : Int)).toNat = y := by unfold lY;rw [aD];show (gs[k]?).getD _ = y;rw [hky];rfl
    rw [gi,gk] at e;split at e
    · cases e
    · rename_i hsz;cases e;have nd := h.out.nd;have ndi : (gs.flatMap fun g => (iL g).1).Nodup := h.idn.nodup_iff.2 (B3 _)
      have jo : vA c.bs.length x y := by
        rcases iW (show i ≠ k by omega) with hlt | hlt
        · obtain ⟨P,Q,R,e1,-⟩ := mE x hlt hix hky;rw [e1] at ndi nd;simp only [fT,bJ] at ndi nd;exact ⟨h.out.ok x hx,h.out.ok y hy,h.ne x hx,h.ne y hy,fun b h1 h2 => (cT.1 (cT.1 nd).2.1).2.2 b h1 b (by simp [h2]) rfl,fun b h1 h2 => (cT.1 (cT.1 ndi).2.1).2.2 b h1 b (by simp [h2]) rfl,by omega⟩
        · obtain ⟨P,Q,R,e1,-⟩ := mE y hlt hky hix;rw [e1] at ndi nd;simp only [fT,bJ] at ndi nd;exact ⟨h.out.ok x hx,h.out.ok y hy,h.ne x hx,h.ne y hy,fun b h1 h2 => (cT.1 (cT.1 nd).2.1).2.2 b h2 b (by simp [h1]) rfl,fun b h1 h2 => (cT.1 (cT.1 ndi).2.1).2.2 b h2 b (by simp [h1]) rfl,by omega⟩
      have h1 := fun M => XI jo (f := f) (M := M);have h2 : ∀ M,G9 (mK x y) f M ↔ ∃ m,G9 y f m ∧ G9 x f (M - m) := fun M => by
        rw [h1];constructor
        · rintro ⟨m,a,b⟩;exact ⟨M - m,b,by rw [show M - (M - m) = m by omega];exact a⟩
        · rintro ⟨m,a,b⟩;exact ⟨M - m,b,by rw [show M - (M - m) = m by omega];exact a⟩
      generalize mK x y = J at *;rcases iW (show i ≠ k by omega) with hlt | hlt
      · obtain ⟨P,Q,R,e1,e2⟩ := mE J hlt hix hky;rw [show (min (i : Int) (k : Int)).toNat = i by omega,show (max (i : Int) (k : Int)).toNat = k by omega,e2,e1,oN zF,oN iN]
        exact PL h1
      · obtain ⟨P,Q,R,e1,e2⟩ := mE J hlt hky hix;rw [show (min (i : Int) (k : Int)).toNat = k by omega,show (max (i : Int) (k : Int)).toNat = i by omega,e2,e1,oN zF,oN iN]
        exact PL h2
theorem zG6 {c : Cx} {M0 : Int} {all : List G} {s : Ev} (h : yJ c M0 all s) {i : Nat} {g : G} (hi : all[i]? = some g) (ha : s.a ∈ g.1) (hb : s.k = 4 → s.b ∈ g.1 ∧ s.a ≠ s.b) {f' : As} {M : Int} :
    Sem (all.set i (g.1,gL (mG c s g))) f' M ↔ ∃ f d,D2 c s f f' d ∧ Sem all f (M - d) := by
  have hg := aN hi;have og := h.mid.out.ok g hg;have nd := h.mid.out.nd;obtain ⟨A,B,e1,e2⟩ := pL (y := (g.1,gL (mG c s g))) hi;have hon := fun M => XH (c := c) og ha hb (f' := f') (M := M);have hoff : ∀ f d,D2 c s f f' d → ∀ x,x ∈ A ++ B → ∀ b,b ∈ x.1 → f' b = f b := fun f d st x hx b hbx => by
    have hbg : b ∉ g.1 := fun q => by
      rw [e1] at nd;simp only [fT,bJ] at nd;obtain ⟨_,n1,n2⟩ := cT.1 nd;obtain ⟨_,_,n3⟩ := cT.1 n1;rcases bH.1 hx with hx | hx
      · exact n2 b (oR hx hbx) b (bH.2 (.inl q)) rfl
      · exact n3 b q b (oR hx hbx) rfl
    rcases st with ⟨_,rfl,_⟩ | ⟨hk,rfl,_⟩
    · unfold upd;rw [if_neg (fun q : b = s.a => hbg (q ▸ ha))]
    · unfold HQ;rw [if_neg (fun q : b = s.a => hbg (q ▸ ha)),if_neg (fun q : b = s.b => hbg (q ▸ (hb hk).1))]
  rw [e2,oN iN];have e1' : ∀ f M,Sem all f M ↔ Sem (g :: (A ++ B)) f M := fun f M => by rw [e1];exact oN iN
  simp only [e1',Sem,hon];constructor
  · rintro ⟨m,⟨f,d,st,h1⟩,h2⟩;exact ⟨f,d,st,m - d,h1,((sJ (hoff f d st)).1 h2).mono (by omega)⟩
  · rintro ⟨f,d,st,m,h1,h2⟩;exact ⟨m + d,⟨f,d,st,h1.mono (by omega)⟩,((sJ (hoff f d st)).2 h2).mono (by omega)⟩
theorem IZ {c : Cx} {M0 : Int} {l all : List G} {s : Ev} (h : yJ c M0 all s) (hM : M0 ≤ 2200000) (hab : s.k = 4 → s.a ≠ s.b) {f' : As} {M : Int} (hm : M ≤ c.m) :
    ((sW c l all s).1 = 0 → (Sem (sW c l all s).2 f' M ↔ ∃ f d,D2 c s f f' d ∧ Sem all f (M - d))) ∧ ((sW c l all s).1 = 26 → ¬ ∃ f d,D2 c s f f' d ∧ Sem all f (M - d)) := by
  obtain ⟨i,g,hi,hg,hgm,hat,ha,hb⟩ := h.at;have hp := zG6 (c := c) h hg ha (fun hk => ⟨hb hk,hab hk⟩) (f' := f') (M := M);have hnx := h.next hM hg ha hb
  unfold sW;dsimp only;rw [hat,hi,bQ];by_cases h0 : gL (mG c s g) = []
  · rw [if_pos h0];refine ⟨fun q => (by cases q),fun _ q => ?_⟩
    have hs := hp.2 q;obtain ⟨A,B,e1,e2⟩ := pL (y := (g.1,gL (mG c s g))) hg;rw [e2,oN iN] at hs;obtain ⟨m,⟨w,hw,_⟩,_⟩ := hs;rw [h0] at hw;cases hw
  · rw [if_neg h0];by_cases h1 : 1000 < (gL (mG c s g)).length
    · rw [if_pos h1];exact ⟨fun q => (by cases q),fun q => (by cases q)⟩
    · rw [if_neg h1];obtain ⟨hm1,hasc⟩ := hnx h0 (by omega)
      generalize all.set i (g.1,gL (mG c s g)) = N at *;have ht : Sem (uQ c N) f' M ↔ Sem N f' M := by
        unfold uQ;rw [SG (hm1.out.paid c).ok,WD hm]
      by_cases hany : (uQ c N).any (fun g => g.2.isEmpty) = true
      · rw [if_pos hany];refine ⟨fun q => (by cases q),fun _ q => ?_⟩
        have hs := ht.2 (hp.2 q);obtain ⟨x,hx,hxe⟩ := lD.1 hany;obtain ⟨A,B,e⟩ := US hx;rw [e,oN iN] at hs;obtain ⟨m,⟨w,hw,_⟩,_⟩ := hs;rw [List.isEmpty_iff.1 hxe] at hw;cases hw
      · rw [if_neg hany];exact ⟨fun _ => ht.trans hp,fun q => (by cases q)⟩
theorem tZ {c : Cx} {gs : List G} {s : Ev} (h : oY c gs) (hm0 : 0 ≤ c.m) (hm1 : c.m ≤ 1048576) (hr : iC c.bs.length s = true) {f' : As} {M : Int} (hm : M ≤ c.m) :
    ((fK c gs s).1 = 0 → (Sem (fK c gs s).2 f' M ↔ ∃ f d,D2 c s f f' d ∧ Sem gs f (M - d))) ∧ ((fK c gs s).1 = 26 → ¬ ∃ f d,D2 c s f f' d ∧ Sem gs f (M - d)) := by
  have hn := h.mid.n12;obtain ⟨r1,r2,_⟩ := mJ hr (by omega)
  have hab : s.k = 4 → s.a ≠ s.b := fun hk => by have := r2 hk;omega
  unfold fK;rw [if_pos hr];by_cases hk : s.k = 4
  · rw [if_pos hk];cases hj : join gs s.a s.b with
    | none => exact ⟨fun q => (by cases q),fun q => (by cases q)⟩
    | some all =>
      dsimp only;have := IZ (l := gs) (sU h (by omega) hm0 hm1 hr hk hj) (by omega) hab (f' := f') hm
      have hb := r2 hk;have js : ∀ f M,Sem all f M ↔ Sem gs f M := fun f M => XU h.mid r1 ⟨by omega,by omega⟩ hj
      simp only [js] at this;exact this
  · rw [if_neg hk];exact IZ (l := gs) (vH h (by omega) hm0 hr hk) (by omega) hab hm
def c0 : Cx := ⟨1,1,0,0,[(⟨#[110,117,116]⟩,10)],[(0,0,false),(0,0,false),(0,0,false)],[(0,5,0),(1,3,0),(2,2,0)]⟩
theorem ID {c : Cx} (hc : iY c) : uM c.ks c.ls (nats (List.range c.bs.length)) c.bs :=
  ⟨hc.f.len,fun i hi => vO.2 ⟨by omega,by simp at hi;omega⟩,hc.f.k,hc.f.l,hc.f.b⟩
end Go.Ld
namespace Go.Proofs.YtmmmeebiobjnbaaGreat
open Go Go.Ab Go.Ld
attribute [local irreducible] VC AW cF aS iZ
set_option maxHeartbeats 4000000
theorem zJ7 (n : Nat) (h : n ≤ 17592186043904) : aS Tryz.prog 50 [.i (n : Int)] [] (.rowE (ints (nats (List.range n))) 1) [] := by
  have h1 := zJ6 (n : Int) (by omega)
  rw [bQ] at h1;exact kH (by simp) (fX (bB _)) h1
theorem zT5 (c : Cx) (hc : iY c) : aS Tryz.prog 30 [.agg [.i c.m,.i c.st,.i c.er,.i c.sl],.rowE (gN c.ks) 2,.rowE (iS c.ls) 3,.rowE (dR c.bs) 3] [] (.tup [.ptr 0 0,.i 0]) [.cells (jT c (pT c))] := by
  have hbl : (dR c.bs).length = c.bs.length := aY _;have h8 := hc.f.n8;have h9 := hc.f.k10;have h10 := hc.f.l10;have hnl : (nats (List.range c.bs.length)).length = c.bs.length := by simp
  refine yA5 c hc ?_ (FF (ID hc) (by omega) (by omega) (by omega))
  rw [hbl];exact zJ7 _ (by omega)
end Go.Proofs.YtmmmeebiobjnbaaGreat
namespace Go.Ld
open Go.Ab Go.Proofs.YtmmmeebiobjnbaaGreat
def e1 : Ev := ⟨4,0,1,0,[]⟩
def e2 : Ev := ⟨0,0,0,0,[1]⟩
def yH7 : List G := pT c0
def yH6 : List G := (fK c0 yH7 e1).2
def yI3 : List G := (fK c0 yH6 e2).2
def yI2 : List G := (fK c0 yI3 e2).2
theorem x0 : (fK c0 yH7 e1).1 = 0 := by decide +kernel
theorem x1 : (fK c0 yH6 e2).1 = 0 := by decide +kernel
theorem a3 : zX2 c0 yI2 [1,0,2] [5,3,2] = true := by unfold zX2 Go.Pm.permB;rw [sT];decide +kernel
end Go.Ld
namespace Go.Proofs.YtmmmeebiobjnbaaGreat
open Go Go.Ab Go.Ld
attribute [local irreducible] VC AW cF aS iZ
set_option maxHeartbeats 4000000
theorem WI (a b : List Int) (ha : a.length ≤ 9223372036854775807) : aS Tryz.prog 25 [.rowE (ints a) 1,.rowE (ints b) 1] [] (.b (decide (a = b))) [] := by
  have hal : (ints a).length = a.length := by simp
  have hbl : (ints b).length = b.length := by simp
  by_cases hl : a.length = b.length
  · refine bW T Tryz.func25 rfl rfl rfl rfl ?_
    (repeat' (first|refine wS ?_|refine wB ?_|refine wK ?_|(refine wC rfl ?_ ?_<;>(intro hb;(try simp only [nm] at hb);try (exfalso;omega)))|(refine rg 0 (aV ?_))|(refine rg 1 (mW rfl (qW T rfl (mW rfl (qW T rfl (vV (fZ rfl rfl) ?_))))))|(refine rg 3 (aV ?_))|refine nZ ?_));all_goals try (exfalso;omega)
    refine dQ (X := {i : Nat // i ≤ a.length ∧ a.take i = b.take i}) (fun i => [(0,.rowE (ints a) 1),(1,.rowE (ints b) 1),(5,.i i.1)]) (fun _ => []) (fun i => a.length - i.1) ⟨0,by omega,rfl⟩ (gM []) ?_
    rintro ⟨i,hi,hg⟩;dsimp only;by_cases hlt : i < a.length
    · have q1 := lO (l := a) (k := i) hlt;have q2 := lO (l := b) (k := i) (by omega)
      by_cases e : a[i] = b[i]
      · (repeat' (first|refine wS ?_|refine wB ?_|refine wK ?_|(refine wC rfl (fun hb => ?_) (fun hb => ?_) <;> (((try simp only [nm] at hb);try (exfalso;omega))))|(refine rg 4 (dH rfl (qW T rfl (vV (aM rfl rfl) ?_))))|(refine cH (id := 6) 26 yN2 (rM 17 9) yN3 cO rfl (by decide +kernel) (dN rfl (dN rfl (dV rfl (ix T rfl (by omega) (dU a) q1) (dO T rfl (dN rfl (dN rfl (dV rfl (ix T rfl (by omega) (dU b) q2) (dO T rfl (dV rfl (fZ rfl rfl) ?_)))))))));refine dE ?_)|(refine iA 5 rfl rfl rfl (by omega) (by omega) ?_)|(refine nZ ?_)));all_goals try (exfalso;omega)
        refine ⟨⟨i + 1,hlt,?_⟩,by dsimp only;omega,gM []⟩
        rw [aU hlt,aU (by omega),hg,e]
      · rw [show decide (a = b) = false from decide_eq_false (fun h => e (by subst h;rfl))]
        (repeat' (first|refine wS ?_|refine wB ?_|refine wK ?_|refine wR ?_|(refine wC rfl ?_ ?_<;>(intro hb;(try simp only [nm] at hb);try (exfalso;omega)))|(refine rg 4 (dH rfl (qW T rfl (vV (aM rfl rfl) ?_))))|(refine cH (id := 6) 26 yN2 (rM 17 9) yN3 cO rfl (by decide +kernel) (dN rfl (dN rfl (dV rfl (ix T rfl (by omega) (dU a) q1) (dO T rfl (dN rfl (dN rfl (dV rfl (ix T rfl (by omega) (dU b) q2) (dO T rfl (dV rfl (fZ rfl rfl) ?_)))))))));refine dE ?_)|(refine rg 7 (aV ?_))|refine nZ ?_));all_goals first | (exfalso;omega) | exact rQ
    · rw [bR (by omega),bR (by omega)] at hg
      rw [show decide (a = b) = true from decide_eq_true hg]
      (repeat' (first|refine wS ?_|refine wR ?_|refine wE ?_|(refine wC rfl ?_ ?_<;>(intro hb;(try simp only [nm] at hb);try (exfalso;omega)))|(refine rg 4 (dH rfl (qW T rfl (vV (aM rfl rfl) ?_))))|(refine rg 8 (aV ?_))|refine nZ ?_));all_goals first | (exfalso;omega) | exact rQ
  · rw [show decide (a = b) = false from decide_eq_false (fun h => hl (by rw [h]))]
    refine bW T Tryz.func25 rfl rfl rfl rfl ?_
    (repeat' (first|refine wS ?_|refine wR ?_|(refine wC rfl ?_ ?_<;>(intro hb;(try simp only [nm] at hb);try (exfalso;omega)))|(refine rg 0 (aV ?_))|(refine rg 1 (mW rfl (qW T rfl (mW rfl (qW T rfl (vV (fZ rfl rfl) ?_))))))|(refine rg 2 (aV ?_))|refine nZ ?_));all_goals first | (exfalso;omega) | exact rQ
theorem LZ {S : Nat → Prop} {w : World} {ρ : Pl} {a b d e : AV} {y : Value} (h : R S w (.agg [a,b,d,e,.nils]) ρ y) : R S w (.agg [a,b,d,e,.rowE [] 1]) ρ y := by
  simp only [R] at h ⊢;obtain ⟨ys,e1,h1⟩ := h;exact ⟨ys,e1,lU (fun _ h => h) (fun _ => lU (fun _ h => h) fun _ => lU (fun _ h => h) fun _ => lU (fun _ h => h) fun _ => lU (fun _ h => OX h) fun _ h => h) h1⟩
end Go.Proofs.YtmmmeebiobjnbaaGreat
namespace Go.Ld
open Go.Ab Go.Proofs.YtmmmeebiobjnbaaGreat Go.Pm
theorem Z1 {g : G} {i : Nat} {x : Int} : x ∈ uC g i ↔ ∃ w,w ∈ g.2 ∧ gP w i = x := by
  unfold uC yH;rw [BC _ _ _ (aX _),dA];have : x ∈ iU (F5 g i) ↔ x ∈ F5 g i := (sorted_perm _).mem_iff;rw [this];unfold F5;rw [bC]
theorem JD {g : G} {i : Nat} : ∀ k, k ≤ g.2.length → ∀ w, w ∈ g.2.take k → (SJ g i k).1 ≤ (gC w i).1 ∧ (gC w i).2 ≤ (SJ g i k).2
  | 0,_,w,hw => by simp at hw
  | k + 1,hk,w,hw => by
    rw [SI (by omega)]
    rw [aU (by omega)] at hw
    unfold YH;dsimp only;rcases bH.1 hw with hw | hw
    · have := JD (i := i) k (by omega) w hw
      omega
    · obtain rfl := bK.1 hw;omega
theorem zF6 {g : G} {i : Nat} {w : W} (hw : w ∈ g.2) : (zF7 g i).1 ≤ (gC w i).1 ∧ (gC w i).2 ≤ (zF7 g i).2 :=
  JD _ (aX _) w (by rw [dA];exact hw)
theorem vG : ∀ {gs : List G} {f : As} {M : Int}, Sem gs f M → ∀ {g : G}, g ∈ gs → ∃ w, w ∈ g.2 ∧ oF g.1 w f
  | [],_,_,_,_,hg => by cases hg
  | x :: gs,f,M,⟨m,⟨w,h1,h2,_⟩,h3⟩,g,hg => by
    rcases bS.1 hg with rfl | hg
    · exact ⟨w,h1,h2⟩
    · exact vG h3 hg
theorem T9 {c : Cx} {gs : List G} {p q : List Int} (h : oY c gs) (ha : zX2 c gs p q = true) {b : Int} (hb : 0 ≤ b ∧ b < c.bs.length) {g : G} {i : Nat} (hg : T1 gs b = some (g,i)) :
    p.getD b.toNat 0 ∈ uC g i ∧ (zF7 g i).1 ≤ q.getD (p.getD b.toNat 0).toNat 0 ∧ q.getD (p.getD b.toNat 0).toNat 0 < (zF7 g i).2 := by
  obtain ⟨_,_,_,f,hf,hs⟩ := (HD h).1 ha;obtain ⟨k,h1,h2,h3,h4⟩ := J2 hg;obtain ⟨w,hw,hfw⟩ := vG hs (aN h2);have hi : i < g.1.length := by rw [h4];exact gW h3
  have hib : g.1[i] = b := by
    obtain ⟨hx,e⟩ := xF h3;subst h4;exact e
  have e1 := AN hfw hi;have e2 := AO hfw hi;rw [hib] at e1 e2;obtain ⟨o1,o2⟩ := hf b hb.1 hb.2;have hc := zF6 (i := i) hw;rw [e2] at hc;unfold vT at o2;simp only [aL,decide_eq_true_eq] at o2;exact ⟨Z1.2 ⟨w,hw,by rw [e1,o1]⟩,by omega,by omega⟩
end Go.Ld
namespace Go.Ld
open Go.Ab Go.Proofs.YtmmmeebiobjnbaaGreat
abbrev oH (l : List Ev) : List (List AV) := l.map wM
def yY (l : List Ev) : Nat := l.countP fun s => decide (s.k = 4)
def GJ (l : List Ev) (m : Nat) : Bool := (l.take (m + 1)).all (fun s => decide (s.ids.length ≤ 12)) && decide (l.length ≤ m) && decide (yY (l.take (m + 1)) ≤ 5)
theorem uI (l : List Ev) : ∀ e,e ∈ oH l → e.length = 5 := by intro e he;obtain ⟨n,_,rfl⟩ := bC.1 he;rfl
theorem KZ {l : List Ev} {k : Nat} (h : k < l.length) : (oH l)[(k : Int).toNat]? = some (wM l[k]) := by simp [h]
end Go.Ld
namespace Go.Proofs.YtmmmeebiobjnbaaGreat
open Go Go.Ab Go.Ld
attribute [local irreducible] VC AW cF aS iZ
set_option maxHeartbeats 4000000
theorem zV4 (l : List Ev) (m : Nat) (hm : m ≤ 1000) (hids : ∀ s,s ∈ l → s.ids.length ≤ 9223372036854775807) : aS Tryz.prog 27 [.rowE (oH l) 5,.i m] [] (.b (GJ l m)) [] := by
  have hll : (oH l).length = l.length := aY _;have hbad : ∀ k (hk : k < l.length),k ≤ m → ¬ l[k].ids.length ≤ 12 → GJ l m = false := fun k hk hkm hb => by
    unfold GJ;rw [show (l.take (m + 1)).all (fun s => decide (s.ids.length ≤ 12)) = false from List.all_eq_false.2 ⟨l[k],List.mem_take_iff_getElem.2 ⟨k,by omega,rfl⟩,by simpa using hb⟩];rfl
  have hgood : (∀ s,s ∈ l.take (m + 1) → s.ids.length ≤ 12) → GJ l m = (decide (l.length ≤ m) && decide (yY (l.take (m + 1)) ≤ 5)) := fun h => by
    unfold GJ;rw [bI.2 fun s hs => decide_eq_true (h s hs),oD]
  generalize GJ l m = R at *;refine bW T Tryz.func27 rfl rfl rfl rfl ?_
  (repeat' (first|refine wS ?_|refine wB ?_|(refine rg 0 (aV ?_))|(refine rg 1 (aV ?_))|(refine rg 2 (aV ?_))|refine nZ ?_));refine dQ (X := {k : Nat // k ≤ l.length ∧ k ≤ m + 1 ∧ ∀ s,s ∈ l.take k → s.ids.length ≤ 12}) (fun k => [(0,.rowE (oH l) 5),(1,.i m),(5,.i (yY (l.take k.1))),(6,.i k.1)]) (fun _ => []) (fun k => l.length - k.1) ⟨0,cM _,cM _,fun s hs => by simp at hs⟩ (gM []) ?_
  rintro ⟨k,hk,hkm,hall⟩;dsimp only;have hsw : yY (l.take k) ≤ k := bL List.countP_le_length (by rw [bG];omega)
  by_cases hlt : k < l.length ∧ k ≤ m
  · obtain ⟨h1,h2⟩ := hlt;have hg := KZ h1;have hts : l.take (k + 1) = l.take k ++ [l[k]] := aU h1;have hs1 : yY (l.take (k + 1)) = yY (l.take k) + (if l[k].k = 4 then 1 else 0) := by rw [hts];unfold yY;rw [UR];simp [List.countP_cons]
    have hbk := hbad k h1 h2;have hx := hids l[k] (aQ h1);have hil : (Go.Ab.ints l[k].ids).length = l[k].ids.length := aY _;have hall2 : l[k].ids.length ≤ 12 → ∀ s,s ∈ l.take (k + 1) → s.ids.length ≤ 12 := fun hq s hs => by
      rw [hts] at hs;rcases bH.1 hs with hs | hs
      · exact hall s hs
      · rw [bK.1 hs];exact hq
    generalize l[k] = s at *;generalize hS1 : yY (l.take (k + 1)) = S1 at *;generalize yY (l.take k) = S at *;by_cases hi : s.ids.length ≤ 12
    · by_cases h4 : s.k = 4
      · rw [if_pos h4] at hs1
        (repeat' (first|refine wS ?_|refine wB ?_|refine wK ?_|refine wT ?_|(refine wC rfl ?_ ?_<;>(intro hb;(try simp only [nm] at hb);try (exfalso;omega)))|(refine rg 3 (dH rfl (qW T rfl (vV (aM rfl rfl) (mV ?_))));refine bO rfl rfl ?_ ?_<;>(intro hb;rw [hb];(try simp only [nm] at hb);try (exfalso;omega));(all_goals (refine yN rfl (yN rfl (yV (iF rfl rfl) (pV ?_))))))|(refine rg 5 (dH rfl (vV (ix T rfl (by omega) (uI _) hg) (iB T rfl (qW T rfl (vV (eU rfl rfl) ?_))))))|(refine rg 7 (dH rfl (vV (ix T rfl (by omega) (uI _) hg) (iB T rfl (vV (kZ rfl rfl (by omega)) ?_)))))|(refine iA 8 rfl rfl rfl (by omega) (by omega) ?_)|(refine iA 4 rfl rfl rfl (by omega) (by omega) ?_)|refine nZ ?_));all_goals try (exfalso;omega)
        exact ⟨⟨k + 1,h1,by omega,hall2 hi⟩,by dsimp only;omega,[],rfl,⟨rfl,rfl,by dsimp only;rw [hS1,hs1];rfl,rfl,trivial⟩,trivial,eQ,kQ _⟩
      · rw [if_neg h4] at hs1
        (repeat' (first|refine wS ?_|refine wB ?_|refine wK ?_|refine wU ?_|(refine wC rfl ?_ ?_<;>(intro hb;(try simp only [nm] at hb);try (exfalso;omega)))|(refine rg 3 (dH rfl (qW T rfl (vV (aM rfl rfl) (mV ?_))));refine bO rfl rfl ?_ ?_<;>(intro hb;rw [hb];(try simp only [nm] at hb);try (exfalso;omega));(all_goals (refine yN rfl (yN rfl (yV (iF rfl rfl) (pV ?_))))))|(refine rg 5 (dH rfl (vV (ix T rfl (by omega) (uI _) hg) (iB T rfl (qW T rfl (vV (eU rfl rfl) ?_))))))|(refine rg 7 (dH rfl (vV (ix T rfl (by omega) (uI _) hg) (iB T rfl (vV (gX rfl rfl (by omega)) ?_)))))|(refine iA 4 rfl rfl rfl (by omega) (by omega) ?_)|refine nZ ?_));all_goals try (exfalso;omega)
        exact ⟨⟨k + 1,h1,by omega,hall2 hi⟩,by dsimp only;omega,[],rfl,⟨rfl,rfl,by dsimp only;rw [hS1,hs1];rfl,rfl,trivial⟩,trivial,eQ,kQ _⟩
    · have hR := hbk hi;subst hR
      (repeat' (first|refine wS ?_|refine wB ?_|refine wK ?_|refine wR ?_|(refine wC rfl ?_ ?_<;>(intro hb;(try simp only [nm] at hb);try (exfalso;omega)))|(refine rg 3 (dH rfl (qW T rfl (vV (aM rfl rfl) (mV ?_))));refine bO rfl rfl ?_ ?_<;>(intro hb;rw [hb];(try simp only [nm] at hb);try (exfalso;omega));(all_goals (refine yN rfl (yN rfl (yV (iF rfl rfl) (pV ?_))))))|(refine rg 5 (dH rfl (vV (ix T rfl (by omega) (uI _) hg) (iB T rfl (qW T rfl (vV (eU rfl rfl) ?_))))))|(refine rg 6 (aV ?_))|refine nZ ?_));all_goals try (exfalso;omega)
      all_goals exact rQ
  · have hke : l.take k = l.take (m + 1) := by
      rcases jC k l.length with h | h
      · rw [show k = m + 1 by omega]
      · rw [bR h,bR (by omega)]
    rw [hke] at hall hsw ⊢;have hR := hgood hall;subst hR;generalize yY (l.take (m + 1)) = S at *
    (repeat' (first|refine wS ?_|refine wR ?_|refine wE ?_|refine wU ?_|(refine wC rfl ?_ ?_<;>(intro hb;(try simp only [nm] at hb);try (exfalso;omega)))|(refine rg 3 (dH rfl (qW T rfl (vV (aM rfl rfl) (mV ?_))));refine bO rfl rfl ?_ ?_<;>(intro hb;rw [hb];(try simp only [nm] at hb);try (exfalso;omega));(all_goals first|(refine gT (mW rfl (gT (mW rfl (gT (vV (iF rfl rfl) ?_))))))|(iterate 3 refine gF ?_));(all_goals (refine pV ?_)))|(refine rg 9 (mW rfl (qW T rfl (mW rfl (vV (iF rfl rfl) (mV ?_)))));refine bO rfl rfl ?_ ?_<;>(intro hb;rw [hb];(try simp only [nm] at hb);try (exfalso;omega));(all_goals first|(refine gT (mW rfl (gT (vV (iF rfl rfl) ?_))))|(iterate 2 refine gF ?_));(all_goals (refine pW rfl (aV ?_))))|refine nZ ?_));all_goals try (exfalso;omega)
    all_goals (refine dC (.inl rfl) rfl (nB ?_);first | rfl | (rw [EY];simp;omega) | (simp [*];omega) | skip)
end Go.Proofs.YtmmmeebiobjnbaaGreat
namespace Go.Proofs.YtmmmeebiobjnbaaGreat
open Go Go.Ab
attribute [local irreducible] VC AW cF aS
set_option maxHeartbeats 4000000
def zD1 (N : Nat) (ks : List KD) (ls : List LT) (ps : List Int) (bs : List BX) : Prop := 1 ≤ ps.length ∧ ps.length ≤ N ∧ bs.length ≤ N ∧ ks.length ≤ 10 ∧ ls.length ≤ 10
theorem YR (N : Nat) (hN : N ≤ 8) (ks : List KD) (ls : List LT) (ps : List Int) (bs : List BX) (m st er sl : Int) (h : ¬ zD1 N ks ls ps bs) :
    aS Tryz.prog 9 [wQ ks ls ps bs,iE m st er sl,.i N] [] (.b false) [] := by
  unfold zD1 at h;have e1 : (gN ks).length = ks.length := by simp
  have e2 : (iS ls).length = ls.length := by simp
  have e3 : (ints ps).length = ps.length := by simp
  have e4 : (dR bs).length = bs.length := by simp
  refine bW T Tryz.func9 rfl rfl rfl rfl ?_
  (repeat' (first|refine wS ?_|refine wR ?_|(refine rg 0 (cD (cQ rfl rfl) rfl (cD (cQ rfl rfl) rfl (aV ?_))))|(refine rg 1 (iB T rfl (qW T rfl (vV (gO rfl rfl) (mV ?_))));refine bO rfl rfl ?_ ?_<;>(intro hb;rw [hb];(try simp only [nm] at hb);try (exfalso;omega));(all_goals first|(refine gT (fW T rfl (gT (lW T rfl (gT (qW T rfl (gT (mW rfl (gT (vV (iF rfl rfl) ?_))))))))))|(iterate 5 refine gF ?_));(all_goals (refine pW rfl (mV ?_)));(all_goals first|(refine gK ?_)|(refine bO rfl rfl ?_ ?_<;>(intro hb;rw [hb];(try simp only [nm] at hb);try (exfalso;omega))));(all_goals first|(refine gT (fW T rfl (gT (lW T rfl (gT (qW T rfl (gT (mW rfl (gT (vV (iF rfl rfl) ?_))))))))))|(iterate 5 refine gF ?_));(all_goals (refine pW rfl (mV ?_)));(all_goals first|(refine gK ?_)|(refine bO rfl rfl ?_ ?_<;>(intro hb;rw [hb];(try simp only [nm] at hb);try (exfalso;omega))));(all_goals first|(refine gT (fW T rfl (gT (lW T rfl (gT (qW T rfl (gT (vV (iF rfl rfl) ?_))))))))|(iterate 4 refine gF ?_));(all_goals (refine pW rfl (mV ?_)));(all_goals first|(refine gK ?_)|(refine bO rfl rfl ?_ ?_<;>(intro hb;rw [hb];(try simp only [nm] at hb);try (exfalso;omega))));(all_goals first|(refine gT (fW T rfl (gT (lW T rfl (gT (qW T rfl (gT (vV (iF rfl rfl) ?_))))))))|(iterate 4 refine gF ?_));(all_goals (refine pW rfl (mV ?_)));(all_goals first|(refine gK ?_)|(refine bO rfl rfl ?_ ?_<;>(intro hb;rw [hb];(try simp only [nm] at hb);try (exfalso;omega))));(all_goals ((iterate 2 refine gF ?_);refine pW rfl (mV ?_);(iterate 9 refine gF ?_);refine pW rfl (aV ?_))))|refine nZ ?_));all_goals first | exact rQ | (exfalso;omega) | (refine dC (.inl rfl) rfl (nB ?_);simp;omega)
theorem J8 (N : Nat) (hN : N ≤ 8) (ks : List KD) (ls : List LT) (ps : List Int) (bs : List BX) (m st er sl : Int) (h : zD1 N ks ls ps bs) {v w : Bool} (hs : A9 m st er sl = v) (ht : sQ ks ls ps bs = w) :
    aS Tryz.prog 9 [wQ ks ls ps bs,iE m st er sl,.i N] [] (.b (v && w)) [] := by
  unfold zD1 at h;have e1 : (gN ks).length = ks.length := by simp
  have e2 : (iS ls).length = ls.length := by simp
  have e3 : (ints ps).length = ps.length := by simp
  have e4 : (dR bs).length = bs.length := by simp
  have c1 := hs ▸ WC m st er sl;have c2 := ht ▸ zE1 ks ls ps bs (by omega) (by omega) (by omega) (by omega)
  cases v <;> cases w
  all_goals
    refine bW T Tryz.func9 rfl rfl rfl rfl ?_
    repeat' (first|refine wS ?_|refine wR ?_|(refine rg 0 (cD (cQ rfl rfl) rfl (cD (cQ rfl rfl) rfl (aV ?_))))|(refine rg 1 (iB T rfl (qW T rfl (vV (gO rfl rfl) (mV ?_))));refine bO rfl rfl ?_ ?_<;>(intro hb;rw [hb];(try simp only [nm] at hb);try (exfalso;omega));(all_goals (refine yP T rfl (yO T rfl (gT (qW T rfl (yN rfl (yV (iF rfl rfl) (pW rfl (mV ?_)))))));refine bO rfl rfl ?_ ?_<;>(intro hb;rw [hb];(try simp only [nm] at hb);try (exfalso;omega))));(all_goals (refine yP T rfl (yO T rfl (gT (qW T rfl (yN rfl (yV (iF rfl rfl) (pW rfl (mV ?_)))))));refine bO rfl rfl ?_ ?_<;>(intro hb;rw [hb];(try simp only [nm] at hb);try (exfalso;omega))));(all_goals (refine yP T rfl (yO T rfl (gT (qW T rfl (yV (iF rfl rfl) (pW rfl (mV ?_))))));refine bO rfl rfl ?_ ?_<;>(intro hb;rw [hb];(try simp only [nm] at hb);try (exfalso;omega))));(all_goals (refine yP T rfl (yO T rfl (gT (qW T rfl (yV (iF rfl rfl) (pW rfl (mV ?_))))));refine bO rfl rfl ?_ ?_<;>(intro hb;rw [hb];(try simp only [nm] at hb);try (exfalso;omega))));(all_goals (refine yO T rfl (yV (kC (c1)) (pW rfl (mV ?_)))));(all_goals first|(refine gT (fW T rfl (gT (lW T rfl (gT (fW T rfl (gT (lW T rfl (gT (fV T ?_)))))))));refine gT (lW T rfl (gT (fW T rfl (gT (lW T rfl (gT (vV (kC (c2)) ?_))))))))|(iterate 9 refine gF ?_));(all_goals (refine pW rfl (aV ?_))))|refine nZ ?_)
  all_goals first | exact rQ | (exfalso;omega)
theorem zL3 (N : Nat) (hN : N ≤ 8) (ks : List KD) (ls : List LT) (ps : List Int) (bs : List BX) (m st er sl : Int) :
    aS Tryz.prog 9 [wQ ks ls ps bs,iE m st er sl,.i N] [] (.b false) [] ∨
    (aS Tryz.prog 9 [wQ ks ls ps bs,iE m st er sl,.i N] [] (.b true) [] ∧ zD0 ks ls ps bs ∧ lS m st er sl ∧ uM ks ls ps bs ∧ ps.length ≤ N) := by
  by_cases h : zD1 N ks ls ps bs
  · cases hs : A9 m st er sl
    · cases ht : sQ ks ls ps bs
      · exact .inl (J8 N hN ks ls ps bs m st er sl h hs ht)
      · exact .inl (J8 N hN ks ls ps bs m st er sl h hs ht)
    · cases ht : sQ ks ls ps bs
      · exact .inl (J8 N hN ks ls ps bs m st er sl h hs ht)
      · exact .inr ⟨J8 N hN ks ls ps bs m st er sl h hs ht,zV3 ⟨h.1,by have := h.2.1;omega,by have := h.2.2.1;omega,h.2.2.2.1,h.2.2.2.2⟩ ht,SE hs,by unfold sQ at ht;simpa using ht,h.2.1⟩
  · exact .inl (YR N hN ks ls ps bs m st er sl h)
end Go.Proofs.YtmmmeebiobjnbaaGreat
namespace Go.Ld
open Go.Ab Go.Proofs.YtmmmeebiobjnbaaGreat
theorem WQ {c : Cx} {gs : List G} (h : oY c gs) {g : G} (hg : g ∈ gs) {i : Nat} (hi : i < g.1.length) : ∀ x,x ∈ uC g i → 0 ≤ x ∧ x < c.bs.length := by
  intro x hx;obtain ⟨w,hw,rfl⟩ := Z1.1 hx;obtain ⟨a,b,_⟩ := ((h.mid.out.ok g hg).ws w hw).at hi;exact ⟨a,b⟩
theorem I6 {g : G} {i : Nat} : (uC g i).length ≤ g.2.length := by
  unfold uC yH;refine bL (oU _ _) ?_;have : (iU (F5 g i)).length = (F5 g i).length := (Go.Pm.sorted_perm _).length_eq;rw [this];unfold F5;rw [aY];exact aX _
end Go.Ld
