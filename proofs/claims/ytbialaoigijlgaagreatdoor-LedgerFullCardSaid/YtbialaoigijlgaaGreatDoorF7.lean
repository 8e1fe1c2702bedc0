/-
  Texts of the logic and of the layer,in one module (part 7).
-/
import Derived.Test.YtbialaoigijlgaaGreatDoorF6
import Derived.Shelf.Lay
import Derived.Shelf.Strings.Builder1
import Derived.Shelf.Strconv.Itoa4
import Derived.Ground.NamesProg
set_option linter.unusedVariables false
set_option linter.unusedSimpArgs false
set_option linter.unnecessarySimpa false
namespace Go.Ld
open Go.Ab Go.Proofs.YtbialaoigijlgaaGreatDoor
def Q5 (g : G) (i : Nat) : List Int := g.2.map fun w => gP w i
theorem KM {g : G} {i k : Nat} (h : k < g.2.length) : (Q5 g i).take (k + 1) = (Q5 g i).take k ++ [gP g.2[k] i] := by
  unfold Q5;rw [← jU,← jU,aO h,cN];rfl
end Go.Ld
namespace Go.Proofs.YtbialaoigijlgaaGreatDoor
open Go Go.Ab Go.Ld
attribute [local irreducible] VC AW bT aQ jI
set_option maxHeartbeats 4000000
theorem QN {G l : List Int} {m : Nat} (hg : G.length ≤ m) (hm : m < l.length) : (ints (G ++ l.drop G.length))[0 + (m : Int).toNat]? = some [AV.i l[m]] := by
  rw [Nat.zero_add,bR,bJ,aE hg,eA,show G.length + (m - G.length) = m by omega,aB hm];rfl
theorem SR {G l : List Int} {x : Int} (hg : G.length < l.length) : (ints (G ++ l.drop G.length)).set (0 + (G.length : Int).toNat) [AV.i x] = ints ((G ++ [x]) ++ l.drop (G ++ [x]).length) := by
  rw [Nat.zero_add,bR,← Q9,jO _ _ (aX _),eX,aT hg,List.set_cons_zero];simp
theorem HK {G l : List Int} (hg : G.length ≤ l.length) : (ints (G ++ l.drop G.length)).length = l.length := by simp;omega
theorem MG {G l : List Int} : (ints (G ++ l.drop G.length)).take (0 + (G.length : Int).toNat) = ints G := by
  rw [Nat.zero_add,bR,← jU,List.take_append_of_le_length (aX _),cF (aX _)]
def kA (l : List Int) : Nat → List Int
  | 0 => []
  | m + 1 => if 0 < m ∧ l.getD m 0 = l.getD (m - 1) 0 then kA l m else kA l m ++ [l.getD m 0]
def N6 (l : List Int) : List Int := kA l l.length
theorem DS {l : List Int} {m : Nat} (h : 0 < m) (e : l.getD m 0 = l.getD (m - 1) 0) : kA l (m + 1) = kA l m := by
  unfold kA;rw [if_pos ⟨h,e⟩];cases m <;> rfl
theorem DR {l : List Int} {m : Nat} (e : l.getD m 0 ≠ l.getD (m - 1) 0) : kA l (m + 1) = kA l m ++ [l.getD m 0] := by
  unfold kA;rw [if_neg (fun q => e q.2)];cases m <;> rfl
theorem DQ (l : List Int) : kA l 1 = [l.getD 0 0] := by
  unfold kA;rw [if_neg (fun q => Nat.lt_irrefl _ q.1)];rfl
theorem I6 {l : List Int} {m : Nat} (h : m < l.length) : l.getD m 0 = l[m] := by rw [aC,aB h];rfl
theorem IM {G l : List Int} {m : Nat} {i : Nat} (hg : G.length ≤ m) (hm : m < l.length) (hi : i = m) : (ints (G ++ l.drop G.length))[i]? = some [AV.i (l.getD m 0)] := by
  have := QN hg hm;rw [Nat.zero_add,bR] at this;rw [hi,this,I6 hm]
theorem IN {l : List Int} {m i : Nat} (hm : m < l.length) (hi : i = m) : (ints l)[i]? = some [AV.i (l.getD m 0)] := by
  rw [hi,lU hm,I6 hm]
theorem LC (l : List Int) (hl : l.length ≤ 1000000) : aQ Tryz.prog 49 [.sl 0 0 l.length 1] [.arr (ints l) 1] (.sl 0 0 (N6 l).length 1) [.arr (ints (N6 l)) 1] := by
  have hll : (ints l).length = l.length := by simp
  refine bK T Tryz.func49 rfl rfl rfl rfl ?_;by_cases h2 : l.length < 2
  · have hk : N6 l = l := by
      match l,h2 with
      | [],_ => rfl
      | [a],_ => exact DQ _
      | _ :: _ :: _,h => exact absurd h (by simp)
    rw [hk]
    (repeat' (first|refine wS ?_|refine wR ?_|(refine wC rfl ?_ ?_<;>(intro hb;(try simp only [nm] at hb);try (exfalso;omega)))|(refine rg 0 (aV ?_))|(refine rg 1 (mW rfl (qW T rfl (vV (aN rfl rfl) ?_))))|(refine rg 2 (mW rfl (aV ?_)))|refine nZ ?_));all_goals first | (exfalso;omega) | exact ⟨.inl rfl,[0],_,rfl,rfl,rfl,⟨.inr (aG rfl rfl (bO _)),trivial⟩,by decide,Q3⟩
  · (repeat' (first|refine wS ?_|refine wB ?_|refine wK ?_|(refine wC rfl (fun hb => ?_) (fun hb => ?_) <;> (((try simp only [nm] at hb);try (exfalso;omega))))|(refine rg 0 (aV ?_))|(refine rg 1 (mW rfl (qW T rfl (vV (aN rfl rfl) ?_))))|(refine rg 3 (aV ?_))|(refine nZ ?_)));all_goals try (exfalso;omega)
    refine cT (X := {k : Nat // 1 ≤ k ∧ k ≤ l.length ∧ kA l k = l.take k}) (fun k => [(0,.sl 0 0 l.length 1),(3,.i k.1)]) (fun _ => [.arr (ints l) 1]) (fun k => l.length - k.1) ⟨1,by omega,by omega,by rw [DQ,I6 (by omega),aO (by omega)];rfl⟩ ⟨[0],rfl,by (repeat (first | exact trivial | refine ⟨rfl,?_⟩)),⟨.inr (aG rfl rfl (bO _)),trivial⟩,by decide,Q3⟩ ?_
    rintro ⟨k,hk1,hk,hkc⟩;dsimp only;by_cases hlt : k < l.length
    · have e1 := IN (i := 0 + (k : Int).toNat) hlt (by omega)
      have e2 := IN (l := l) (m := k - 1) (i := 0 + ((k : Int) - 1).toNat) (by omega) (by omega)
      by_cases hd : l.getD k 0 = l.getD (k - 1) 0
      · have hc1 := DS (l := l) hk1 hd;rw [hkc] at hc1;generalize l.getD k 0 = a at *;generalize l.getD (k - 1) 0 = b at *
        (repeat' (first|refine wS ?_|refine wB ?_|refine wK ?_|refine wT ?_|(refine wC rfl ?_ ?_<;>(intro hb;(try simp only [nm] at hb);try (exfalso;omega)))|(refine rg 4 (eG rfl (qW T rfl (vV (aN rfl rfl) ?_))))|(refine cK (id := 6) 61 zL9 (rM 16 10) zM0 cM rfl (by decide +kernel) (dN rfl (dN rfl (dV rfl (by exact aL T rfl rfl rfl rfl rfl (by omega) (by omega)) ?_)));refine dV rfl (by exact aS T rfl rfl (bI rfl e1) rfl) ?_;refine dN rfl (dN rfl (dV rfl (cJ rfl rfl (by omega) (by omega)) (dV rfl (by exact aL T rfl rfl rfl rfl rfl (by omega) (by omega)) ?_)));refine dV rfl (by exact aS T rfl rfl (bI rfl e2) rfl) ?_;refine dV rfl (jZ rfl rfl (by omega)) (dE ?_))|(refine rg 7 (eG rfl (vV (by exact jH T rfl rfl rfl rfl rfl rfl (by omega) (by omega) (by omega)) ?_));refine aV ?_)|(refine rg 8 (aV ?_))|refine nZ ?_));all_goals try (exfalso;omega)
        have hl1 : (kA l (k + 1)).length = k := by rw [hc1];simp;omega
        refine cT (X := {j : Nat // 1 ≤ j ∧ k + j ≤ l.length ∧ (kA l (k + j)).length + 1 ≤ k + j}) (fun j => [(0,.sl 0 0 l.length 1),(3,.i (kA l (k + j.1)).length),(4,.sl 0 (0 + (k : Int).toNat) ((l.length : Int) - (k : Int)).toNat 1),(5,.i j.1)]) (fun j => [.arr (ints (kA l (k + j.1) ++ l.drop (kA l (k + j.1)).length)) 1]) (fun j => l.length - (k + j.1)) ⟨1,by omega,by omega,by omega⟩ ⟨[0],rfl,⟨rfl,by dsimp only;rw [hl1];rfl,rfl,rfl,trivial⟩,⟨.inr (aG rfl (by dsimp only;rw [hl1,hc1,bG]) (bO _)),trivial⟩,by decide,Q3⟩ ?_
        clear e1 e2 hd hl1 hc1;rintro ⟨j,hj1,hj,hjc⟩;dsimp only;by_cases hjl : k + j < l.length
        · have e1 := IM (G := kA l (k + j)) (l := l) (m := k + j) (i := 0 + (k : Int).toNat + (j : Int).toNat) (by omega) hjl (by omega)
          have e2 := IM (G := kA l (k + j)) (l := l) (m := k + j - 1) (i := 0 + (k : Int).toNat + ((j : Int) - 1).toNat) (by omega) (by omega) (by omega)
          have e3 := QN (G := kA l (k + j)) (l := l) (aX _) (by omega)
          have hset := SR (G := kA l (k + j)) (l := l) (x := l.getD (k + j) 0) (by omega)
          have hal := HK (G := kA l (k + j)) (l := l) (by omega)
          have hdup := DS (l := l) (m := k + j) (by omega)
          have hnew := DR (l := l) (m := k + j);have hnl : ∀ G : List Int,(G ++ [l.getD (k + j) 0]).length = G.length + 1 := fun G => by simp
          rw [show k + j + 1 = k + (j + 1) by omega] at hdup hnew
          generalize l.getD (k + j) 0 = a at *;generalize l.getD (k + j - 1) 0 = b at *;generalize l[(kA l (k + j)).length] = y at *;generalize kA l (k + j) = G at *;by_cases hd : a = b
          · have hdup := hdup hd;generalize hA : ints (G ++ l.drop G.length) = A at *
            (repeat' (first|refine wS ?_|refine wB ?_|refine wK ?_|refine wU ?_|(refine wC rfl ?_ ?_<;>(intro hb;(try simp only [nm] at hb);try (exfalso;omega)))|(refine rg 9 (eG rfl (qW T rfl (vV (aN rfl rfl) ?_))))|(refine cK (id := 11) 61 zL9 (rM 35 10) zM1 cM rfl (by decide +kernel) (dN rfl (dN rfl (dV rfl (by exact aL T rfl rfl rfl rfl rfl (by omega) (by omega)) ?_)));refine dV rfl (by exact aS T rfl rfl (bI rfl e1) rfl) ?_;refine dN rfl (dN rfl (dV rfl (cJ rfl rfl (by omega) (by omega)) (dV rfl (by exact aL T rfl rfl rfl rfl rfl (by omega) (by omega)) ?_)));refine dV rfl (by exact aS T rfl rfl (bI rfl e2) rfl) ?_;refine dV rfl (jY rfl rfl (by omega)) (dE ?_))|(refine iA 10 rfl rfl rfl (by omega) (by omega) ?_)|refine nZ ?_));all_goals try (exfalso;omega)
            all_goals exact ⟨⟨j + 1,by omega,by omega,by rw [hdup];omega⟩,by dsimp only;omega,[0],rfl,⟨rfl,by dsimp only;rw [hdup];rfl,rfl,rfl,trivial⟩,⟨.inr (aG rfl (by dsimp only;rw [hdup];exact hA.symm) (bO _)),trivial⟩,by decide,Q3⟩
          · have hnew := hnew hd;have hgl := hnl G;generalize hA : ints (G ++ l.drop G.length) = A at *
            (repeat' (first|refine wS ?_|refine wB ?_|refine wK ?_|refine wT ?_|(refine wC rfl ?_ ?_<;>(intro hb;(try simp only [nm] at hb);try (exfalso;omega)))|(refine rg 9 (eG rfl (qW T rfl (vV (aN rfl rfl) ?_))))|(refine cK (id := 11) 61 zL9 (rM 35 10) zM1 cM rfl (by decide +kernel) (dN rfl (dN rfl (dV rfl (by exact aL T rfl rfl rfl rfl rfl (by omega) (by omega)) ?_)));refine dV rfl (by exact aS T rfl rfl (bI rfl e1) rfl) ?_;refine dN rfl (dN rfl (dV rfl (cJ rfl rfl (by omega) (by omega)) (dV rfl (by exact aL T rfl rfl rfl rfl rfl (by omega) (by omega)) ?_)));refine dV rfl (by exact aS T rfl rfl (bI rfl e2) rfl) ?_;refine dV rfl (tJ rfl rfl (by omega)) (dE ?_))|(refine rg 12 (eG rfl (eG rfl (vV (by exact aL T rfl rfl rfl rfl rfl (by omega) (by omega)) ?_)));refine vV (by exact aS T rfl rfl (bI rfl e1) rfl) ?_;refine vV (by exact aL T rfl rfl rfl rfl rfl (by omega) (by omega)) ?_;refine aR T rfl rfl rfl rfl rfl rfl (by decide) (lJ rfl e3 rfl) ?_)|(refine iA 13 rfl rfl rfl (by omega) (by omega) ?_)|(refine iA 10 rfl rfl rfl (by omega) (by omega) ?_)|refine nZ ?_));all_goals try (exfalso;omega)
            all_goals exact ⟨⟨j + 1,by omega,by omega,by rw [hnew];omega⟩,by dsimp only;omega,[0],rfl,⟨rfl,by dsimp only;rw [hnew,hgl];rfl,rfl,rfl,trivial⟩,⟨.inr (aG rfl (by dsimp only;rw [hnew];exact hset) (bO _)),trivial⟩,by decide,Q3⟩
        · have hkj : k + j = l.length := by omega
          have hcm : N6 l = kA l (k + j) := by rw [hkj];rfl
          have hal := HK (G := kA l (k + j)) (l := l) (by omega)
          have htk := MG (G := kA l (k + j)) (l := l);rw [hcm];generalize kA l (k + j) = G at *
          (repeat' (first|refine wS ?_|refine wR ?_|refine wE ?_|(refine wC rfl ?_ ?_<;>(intro hb;(try simp only [nm] at hb);try (exfalso;omega)))|(refine rg 9 (eG rfl (qW T rfl (vV (aN rfl rfl) ?_))))|(refine rg 14 (eG rfl (vV (by exact jH T rfl rfl rfl rfl rfl rfl (by omega) (by omega) (by omega)) ?_));refine LZ T rfl rfl rfl rfl rfl (by rw [hal];omega) ?_)|(refine rg 15 (eG rfl (vV (by exact jH T rfl rfl rfl rfl rfl rfl (by omega) (by omega) (by omega)) ?_));refine aV ?_)|refine nZ ?_));all_goals try (exfalso;omega)
          all_goals exact ⟨.inl rfl,[0],_,rfl,(by show AV.sl 0 0 ((G.length : Int) - 0).toNat 1 = AV.sl 0 0 G.length 1;rw [show ((G.length : Int) - 0).toNat = G.length by omega]),rfl,⟨.inr (aG rfl htk (bO _)),trivial⟩,by decide,Q3⟩
      · have hnew := DR (l := l) hd;rw [hkc,I6 hlt,← aO hlt] at hnew;generalize l.getD k 0 = a at *;generalize l.getD (k - 1) 0 = b at *
        (repeat' (first|refine wS ?_|refine wB ?_|refine wK ?_|refine wU ?_|(refine wC rfl ?_ ?_<;>(intro hb;(try simp only [nm] at hb);try (exfalso;omega)))|(refine rg 4 (eG rfl (qW T rfl (vV (aN rfl rfl) ?_))))|(refine cK (id := 6) 61 zL9 (rM 16 10) zM0 cM rfl (by decide +kernel) (dN rfl (dN rfl (dV rfl (by exact aL T rfl rfl rfl rfl rfl (by omega) (by omega)) ?_)));refine dV rfl (by exact aS T rfl rfl (bI rfl e1) rfl) ?_;refine dN rfl (dN rfl (dV rfl (cJ rfl rfl (by omega) (by omega)) (dV rfl (by exact aL T rfl rfl rfl rfl rfl (by omega) (by omega)) ?_)));refine dV rfl (by exact aS T rfl rfl (bI rfl e2) rfl) ?_;refine dV rfl (fX rfl rfl (by omega)) (dE ?_))|(refine iA 5 rfl rfl rfl (by omega) (by omega) ?_)|refine nZ ?_));all_goals try (exfalso;omega)
        all_goals exact ⟨⟨k + 1,by omega,hlt,hnew⟩,by dsimp only;omega,[0],rfl,by (repeat (first | exact trivial | refine ⟨rfl,?_⟩)),⟨.inr (aG rfl rfl (bO _)),trivial⟩,by decide,Q3⟩
    · obtain rfl : k = l.length := by omega
      have hcm : N6 l = l := by
        show kA l l.length = l;rw [hkc,cO]
      rw [hcm]
      (repeat' (first|refine wS ?_|refine wR ?_|refine wE ?_|(refine wC rfl ?_ ?_<;>(intro hb;(try simp only [nm] at hb);try (exfalso;omega)))|(refine rg 4 (eG rfl (qW T rfl (vV (aN rfl rfl) ?_))))|(refine rg 16 (mW rfl (aV ?_)))|refine nZ ?_));all_goals first | (exfalso;omega) | exact ⟨.inl rfl,[0],_,rfl,rfl,rfl,⟨.inr (aG rfl rfl (bO _)),trivial⟩,by decide,Q3⟩
abbrev lN (g : G) (i : Nat) : List Int := N6 (hO (Q5 g i))
theorem W9 (c : Cx) (gs : List G) (b : Int) (h : oQ c gs) {g : G} {i : Nat} (hg : qL gs b = some (g,i)) :
    aQ Tryz.prog 11 [.pr (fQ c gs) 0,.i b] [] (.sl 0 0 (lN g i).length 1) [.arr (ints (lN g i)) 1] := by
  unfold lN;obtain ⟨k0,h1,h2,h3,h4⟩ := oZ hg;have hgm := aJ h2;have og := h.mid.out.ok g hgm;have hwl := h.mid.wl g hgm;have hl12 : gs.length ≤ 12 := bX h.mid.out.len h.mid.out.ln;have hgr := I5 c gs b (by omega) (fun x hx => by have := (h.mid.out.ok x hx).ln;omega) hg
  have hi : i < g.1.length := by rw [h4];exact kX h3
  have hln := og.ln;have hil : (Q5 g i).length = g.2.length := bN _;have htk : ∀ k (h : k < g.2.length),_ := fun k h => KM (g := g) (i := i) h;have hwg : ∀ k (h : k < g.2.length),(ints g.2[k].1)[((i : Int)).toNat]? = some [.i (gP g.2[k] i)] ∧ (ints g.2[k].1).length = g.1.length := fun k h => by
    have := (og.ws _ (aK h)).pl;exact ⟨mE 0 (by omega) rfl,by rw [cY];exact this⟩
  have hs1 := MS (Q5 g i) (by omega)
  have hsl := oM (Q5 g i);have hs2 := LC (hO (Q5 g i)) (by omega)
  rw [hsl] at hs2;obtain ⟨bs,ws⟩ := g;dsimp only at *;generalize Q5 (bs,ws) i = P at *;have hwsl : (eW ws).length = ws.length := eB _;refine bK T Tryz.func11 rfl rfl rfl rfl ?_
  (repeat' (first|refine wS ?_|(refine rg 0 (aV ?_))|(refine rg 1 (eG rfl (vV (kC (hgr)) (mW rfl (xW rfl (xW rfl (xW rfl (bS (bH T rfl) rfl (aR T rfl rfl rfl rfl rfl rfl (by decide) rfl (pG ?_))))))))))|refine nZ ?_));all_goals try (exfalso;omega)
  refine fJ 5 (cs := gA (bs,ws)) rfl rfl rfl ?_
  (repeat' (first|refine wS ?_|(refine rg 2 (vV (fA rfl) (pH 8 1 rfl (by decide) ?_)))|refine nZ ?_));all_goals try (exfalso;omega)
  (repeat' (first|refine wB ?_|(refine rg 3 (iX T rfl (qW T rfl (mV ?_))))|refine nZ ?_));all_goals try (exfalso;omega)
  refine cT (X := {k : Nat // k ≤ ws.length}) (fun k => [(6,.i i),(8,.sl 0 0 k.1 1),(19,.rowE (eW ws) 3),(20,.i (eW ws).length),(21,.i k.1)]) (fun k => [.arr (ints (P.take k.1)) 1]) (fun k => ws.length - k.1) ⟨0,bW _⟩ ⟨[1],rfl,(by repeat first|exact trivial|refine ⟨rfl,?_⟩),⟨.inr rfl,trivial⟩,by decide,jJ _⟩ ?_
  rintro ⟨k,hk⟩;dsimp only;by_cases hlt : k < ws.length
  · have hgk := nE hlt;obtain ⟨q1,q2⟩ := hwg k hlt;have q3 := htk k hlt;have q4 : (ints (P.take k)).length = k := by rw [cY,aU];omega
    have q5 : ints (P.take (k + 1)) = ints (P.take k) ++ [[.i (gP ws[k] i)]] := by rw [q3,C3]
    generalize ints (P.take k) = A at *;generalize gP ws[k] i = v at *;generalize ws[k] = w at *;obtain ⟨wp,wm,wc⟩ := w;dsimp only at *
    (repeat' (first|refine wS ?_|refine wB ?_|refine wK ?_|(refine wC rfl ?_ ?_<;>(intro hb;(try simp only [nm] at hb);try (exfalso;omega)))|(refine rg 4 (vV (aN rfl rfl) ?_))|(refine rg 5 (vV (ix T rfl (by omega) (jE _) hgk) (lW T rfl (bS (bH T rfl) rfl (aR T rfl rfl rfl rfl rfl rfl (by decide) rfl ?_)))))|(refine rg 6 (mW rfl (iX T rfl (mW rfl (vV (ix T rfl (by omega) (cP _) q1) (lW T rfl (bS (by exact bC T rfl rfl (by decide) (by decide) rfl rfl rfl) rfl ?_))))));refine fY T rfl rfl rfl rfl rfl rfl (by omega) (kE.whole rfl rfl) rfl (by simp;omega) (by simp;omega) rfl ?_;refine aV ?_)|(refine rg 7 (vV (bF rfl rfl (by omega) (by omega)) (mV ?_)))|refine nZ ?_));all_goals try (exfalso;omega)
    exact ⟨⟨k + 1,hlt⟩,by dsimp only;omega,⟨[3],rfl,(by repeat first|exact trivial|refine ⟨rfl,?_⟩),⟨.inr (aG rfl (by dsimp only;rw [q5];exact kJ q4.symm) (bO _)),trivial⟩,by decide,jJ _⟩⟩
  · obtain rfl : k = ws.length := by omega
    rw [show P.take ws.length = P by rw [← hil,cO]]
    rw [← hil] at *
    (repeat' (first|refine wS ?_|refine wR ?_|refine wE ?_|(refine wC rfl ?_ ?_<;>(intro hb;(try simp only [nm] at hb);try (exfalso;omega)))|(refine rg 4 (vV (aN rfl rfl) ?_))|(refine rg 8 (mW rfl (dW [0] rfl rfl (hs1) rfl rfl (by decide) ⟨.inr (aG rfl rfl (bO _)),trivial⟩ (by simp) rfl ?_)))|(refine rg 9 (mW rfl (dW [0] rfl rfl (hs2) rfl rfl (by decide) ⟨.inr (aG rfl (cC _ (bO _)) (bO _)),trivial⟩ (by simp) rfl ?_));refine aV ?_)|refine nZ ?_));all_goals try (exfalso;omega)
    exact ⟨.inl rfl,[0],_,rfl,rfl,rfl,⟨.inr (aG rfl (cC _ (bO _)) (bO _)),trivial⟩,by decide,jJ _⟩
end Go.Proofs.YtbialaoigijlgaaGreatDoor
namespace Go.Ld
open Go.Ab Go.Proofs.YtbialaoigijlgaaGreatDoor
def VW (a b : SP) : SP := (min a.1 b.1,max a.2 b.2)
def JH (g : G) (i k : Nat) : SP := (g.2.take k).foldl (fun r w => VW r (gC w i)) (gC (iD g) i)
def CE (g : G) (i : Nat) : SP := JH g i g.2.length
theorem JG {g : G} {i k : Nat} (h : k < g.2.length) : JH g i (k + 1) = VW (JH g i k) (gC g.2[k] i) := by
  unfold JH;rw [aO h,RU];rfl
def ZY (l : List Int) : Int × Bool := if l.length = 1 then (l.getD 0 0,true) else (0,false)
def OH (c : Cx) (l : List Int) (r : SP) (lot : Int) : Int := if l.length = 0 ∨ l.any (fun id => decide ((c.bs.getD id.toNat (0,0,0)).1 ≠ lot)) = true then 0 else r.1
end Go.Ld
namespace Go.Proofs.YtbialaoigijlgaaGreatDoor
open Go Go.Ab Go.Ld
attribute [local irreducible] VC AW bT aQ jI
set_option maxHeartbeats 4000000
theorem zJ (c : Cx) (gs : List G) (b : Int) (h : oQ c gs) {g : G} {i : Nat} (hg : qL gs b = some (g,i)) :
    aQ Tryz.prog 9 [.pr (fQ c gs) 0,.i b] [] (.sl 0 0 g.1.length 1) [.arr (ints g.1) 1] := by
  obtain ⟨k0,h1,h2,h3,h4⟩ := oZ hg;have hl12 : gs.length ≤ 12 := bX h.mid.out.len h.mid.out.ln;have hln := (h.mid.out.ok g (aJ h2)).ln;have hgr := I5 c gs b (by omega) (fun x hx => by have := (h.mid.out.ok x hx).ln;omega) hg
  have hcl := AE g.1 (by omega)
  obtain ⟨bs,ws⟩ := g;dsimp only at *;refine bK T Tryz.func9 rfl rfl rfl rfl ?_
  (repeat' (first|refine wS ?_|refine wR ?_|(refine rg 0 (aV ?_))|(refine rg 1 (eG rfl (vV (kC (hgr)) (mW rfl (xW rfl (xW rfl (xW rfl (bS (bH T rfl) rfl (aR T rfl rfl rfl rfl rfl rfl (by decide) rfl (pG ?_))))))))))|(refine rg 2 (iX T rfl (bS (by exact fM rfl rfl hcl (.inr ⟨rfl,rfl,by simp⟩)) rfl ?_));refine aV ?_)|refine nZ ?_));all_goals try (exfalso;omega)
  exact ⟨.inl rfl,[1],_,rfl,rfl,rfl,⟨.inr (aG rfl (cC _ (bO _)) (bO _)),trivial⟩,by decide,jJ _⟩
theorem xP (c : Cx) (gs : List G) (b : Int) (h : oQ c gs) {g : G} {i : Nat} (hg : qL gs b = some (g,i)) :
    aQ Tryz.prog 12 [.pr (fQ c gs) 0,.i b] [] (.tup [.i (ZY (lN g i)).1,.b (ZY (lN g i)).2]) [] := by
  have hp := W9 c gs b h hg;generalize lN g i = P at *;have hl : (ints P).length = P.length := cY _;unfold ZY;by_cases h1 : P.length = 1
  · rw [if_pos h1];have q := zE (l := P) (j := (0 : Int)) (i := 0) 0 (by omega) rfl
    refine bK T Tryz.func12 rfl rfl rfl rfl ?_
    (repeat' (first|refine wS ?_|refine wK ?_|(refine wC rfl ?_ ?_<;>(intro hb;(try simp only [nm] at hb);try (exfalso;omega)))|(refine rg 0 (pG ?_))|(refine rg 1 (eG rfl (bS (by exact fM rfl rfl hp (.inr ⟨rfl,rfl,by simp⟩)) rfl ?_));refine aV ?_)|(refine rg 2 (mW rfl (qW T rfl (vV (fL rfl rfl) ?_))))|refine nZ ?_));all_goals try (exfalso;omega)
    refine eM [(6,.sl 0 0 P.length 1)] [.arr (ints P) 1] ⟨[0],rfl,(by repeat first|exact trivial|refine ⟨rfl,?_⟩),⟨.inr (aG rfl (cC _ (bO _)) (bO _)),trivial⟩,by decide,jJ _⟩ ?_
    (repeat' (first|refine wR ?_|(refine rg 4 (mW rfl (vV (by exact aL T rfl rfl rfl rfl rfl (by omega) (by omega)) ?_));refine vV (by exact aS T rfl rfl (bI rfl q) rfl) ?_;refine pG ?_)|refine nZ ?_));all_goals try (exfalso;omega)
    all_goals exact ⟨.inl rfl,[],_,rfl,rfl,rfl,trivial,by decide,jJ _⟩
  · rw [if_neg h1];refine bK T Tryz.func12 rfl rfl rfl rfl ?_
    (repeat' (first|refine wS ?_|refine wR ?_|(refine wC rfl ?_ ?_<;>(intro hb;(try simp only [nm] at hb);try (exfalso;omega)))|(refine rg 0 (pG ?_))|(refine rg 1 (eG rfl (bS (by exact fM rfl rfl hp (.inr ⟨rfl,rfl,by simp⟩)) rfl ?_));refine aV ?_)|(refine rg 2 (mW rfl (qW T rfl (vV (fL rfl rfl) ?_))))|(refine rg 3 (pG ?_))|refine nZ ?_));all_goals try (exfalso;omega)
    all_goals exact rQ
theorem HG (c : Cx) (gs : List G) (b : Int) (h : oQ c gs) {g : G} {i : Nat} (hg : qL gs b = some (g,i)) :
    aQ Tryz.prog 21 [.pr (fQ c gs) 0,.i b] [] (jT (CE g i).1 (CE g i).2) [] := by
  obtain ⟨k0,h1,h2,h3,h4⟩ := oZ hg;have hgm := aJ h2;have og := h.mid.out.ok g hgm;have hwl := h.mid.wl g hgm;have hne := h.mid.ne g hgm;have hl12 : gs.length ≤ 12 := bX h.mid.out.len h.mid.out.ln;have hgr := I5 c gs b (by omega) (fun x hx => by have := (h.mid.out.ok x hx).ln;omega) hg
  have hi : i < g.1.length := by rw [h4];exact kX h3
  have hln := og.ln;have hwg : ∀ k (h : k < g.2.length),(eO g.2[k].2.2)[((i : Int)).toNat]? = some [.i (gC g.2[k] i).1,.i (gC g.2[k] i).2] ∧ (eO g.2[k].2.2).length = g.1.length := fun k h => by
    have := (og.ws _ (aK h)).cl;exact ⟨oT (by omega) rfl,by rw [fU];exact this⟩
  have hst : ∀ k (h : k < g.2.length),_ := fun k h => JG (g := g) (i := i) h;have h0 : 0 < g.2.length := dZ.2 hne;have hf0 : JH g i 0 = gC g.2[0] i := by
    obtain ⟨bs,ws⟩ := g;cases ws with
    | nil => exact absurd rfl hne
    | cons w l => rfl
  unfold CE;obtain ⟨bs,ws⟩ := g;dsimp only at *;generalize JH (bs,ws) i = F at *;have hwsl : (eW ws).length = ws.length := eB _;have hg0 := nE h0;obtain ⟨q1,q2⟩ := hwg 0 h0;rw [← hf0] at q1;refine bK T Tryz.func21 rfl rfl rfl rfl ?_
  (repeat' (first|refine wS ?_|(refine rg 0 (bS (bH T rfl) rfl ?_))|(refine rg 1 (eG rfl (vV (kC (hgr)) (mW rfl (xW rfl (xW rfl (xW rfl (bS (bH T rfl) rfl (aR T rfl rfl rfl rfl rfl rfl (by decide) rfl (pG ?_))))))))))|refine nZ ?_));all_goals try (exfalso;omega)
  refine fJ 5 (cs := gA (bs,ws)) rfl rfl rfl ?_;generalize hw0 : ws[0] = w0 at *;obtain ⟨wp0,wm0,wc0⟩ := w0;dsimp only at *
  (repeat' (first|refine wS ?_|refine wB ?_|refine wK ?_|refine wU ?_|(refine rg 2 (mW rfl (vV (fB rfl) ?_)))|(refine rg 4 (iX T rfl (vV (ix T rfl (by omega) (jE _) hg0) (iX T rfl (mW rfl (vV (ix T rfl (by omega) (gW _) q1) (lW T rfl (bS (bH T rfl) rfl (aR T rfl rfl rfl rfl rfl rfl (by decide) rfl ?_)))))))))|(refine rg 5 (iX T rfl (qW T rfl (mV ?_))))|refine nZ ?_));all_goals try (exfalso;omega)
  refine cT (X := {k : Nat // k ≤ ws.length}) (fun k => [(4,.ptr 0 0),(6,.i i),(8,.ptr 1 0),(30,.rowE (eW ws) 3),(31,.i (eW ws).length),(32,.i k.1)]) (fun k => [.cells [.i 0,.i 0],.cells [.i (F k.1).1,.i (F k.1).2]]) (fun k => ws.length - k.1) ⟨0,bW _⟩ ⟨[0,2],rfl,(by repeat first|exact trivial|refine ⟨rfl,?_⟩),⟨.inr rfl,.inr rfl,trivial⟩,by decide,jJ _⟩ ?_
  rintro ⟨k,hk⟩;dsimp only;by_cases hlt : k < ws.length
  · have hgk := nE hlt;obtain ⟨q1,q2⟩ := hwg k hlt;have q3 := hst k hlt;have hh := XB (F k).1 (F k).2 (gC ws[k] i).1 (gC ws[k] i).2;generalize hF1 : F (k + 1) = f1 at *;generalize F k = f at *;generalize gC ws[k] i = r at *;generalize ws[k] = w at *;obtain ⟨wp,wm,wc⟩ := w;dsimp only at *
    (repeat' (first|refine wS ?_|refine wB ?_|refine wK ?_|(refine wC rfl ?_ ?_<;>(intro hb;(try simp only [nm] at hb);try (exfalso;omega)))|(refine rg 6 (vV (aN rfl rfl) ?_))|(refine rg 7 (vV (ix T rfl (by omega) (jE _) hgk) (lW T rfl (bS (bH T rfl) rfl (aR T rfl rfl rfl rfl rfl rfl (by decide) rfl ?_)))))|(refine cK (id := 8) 45 [[],[],[1],[],[1,2,3],rM 1 4,rN 6] (rM 36 7) [[],[36],[36],[36,37,38],[36],[36],[]] cM rfl (by decide +kernel) (dO T rfl (dP T rfl (dO T rfl (dN rfl (dV rfl (ix T rfl (by omega) (gW _) q1) (dO T rfl (dV rfl (kC (hh)) (dE ?_))))))));refine aR T rfl rfl rfl rfl rfl rfl (by decide) rfl ?_)|(refine rg 9 (vV (bF rfl rfl (by omega) (by omega)) (mV ?_)))|refine nZ ?_));all_goals try (exfalso;omega)
    exact ⟨⟨k + 1,hlt⟩,by dsimp only;omega,⟨[0,1],rfl,(by repeat first|exact trivial|refine ⟨rfl,?_⟩),⟨.inr rfl,.inr (by dsimp only;rw [hF1,q3];rfl),trivial⟩,by decide,jJ _⟩⟩
  · obtain rfl : k = ws.length := by omega
    (repeat' (first|refine wS ?_|refine wR ?_|refine wE ?_|(refine wC rfl ?_ ?_<;>(intro hb;(try simp only [nm] at hb);try (exfalso;omega)))|(refine rg 6 (vV (aN rfl rfl) ?_))|(refine rg 10 (lW T rfl (aR T rfl rfl rfl rfl rfl rfl (by decide) rfl ?_)))|refine nZ ?_));all_goals try (exfalso;omega)
    all_goals exact ⟨.inl rfl,[],_,rfl,rfl,rfl,trivial,by decide,jJ _⟩
theorem zD3 : Z6 Tryz.prog 56 0 = some (3,0) := by kernel_rfl
theorem OI (c : Cx) (gs : List G) (lot id : Int) (h : 0 ≤ id ∧ id < c.bs.length) : aQ Tryz.prog 54 [.i id,.pr [.pr (fQ c gs) 0] 0,.pr [.i lot] 0] [] (.b (decide ((c.bs.getD id.toNat (0,0,0)).1 ≠ lot))) [] := by
  have hbx : c.bs[id.toNat]? = some (c.bs.getD id.toNat (0,0,0)) := by
    rw [aC,aB (by omega)];rfl
  have hbxl : (gJ c.bs).length = c.bs.length := bN _;have qb : (gJ c.bs)[id.toNat]? = some [.i (c.bs.getD id.toNat (0,0,0)).1,.i (c.bs.getD id.toNat (0,0,0)).2.1,.i (c.bs.getD id.toNat (0,0,0)).2.2] := by rw [bJ,hbx];rfl
  generalize c.bs.getD id.toNat (0,0,0) = bx at *;obtain ⟨x1,x2,x3⟩ := bx;dsimp only at *;refine bK T Tryz.func54 rfl rfl rfl rfl ?_
  (repeat' (first|refine wS ?_|refine wR ?_|(refine rg 0 (aV ?_))|(refine cK (id := 1) 15 [[],[0],[0,1],[0,1,2],[],rN 5,rN 6,rN 7,[],rN 9] (rM 5 10) [[],[],[],[],rM 5 4,[],[],[],rM 5 8,[]] cM rfl (by decide +kernel) (dO T rfl (dV rfl (by exact dR rfl rfl) ?_));refine dP T rfl (dO T rfl (dN rfl (dV rfl (ix T rfl (by omega) (pY _) qb) (dP T rfl (dO T rfl (dO T rfl (dV rfl (fL rfl rfl) (dE ?_))))))));refine aV ?_)|refine nZ ?_));all_goals try (exfalso;omega)
  all_goals refine eC (.inl rfl) rfl (sO ?_)
  all_goals simp
theorem M2 (c : Cx) (gs : List G) (b lot : Int) (h : oQ c gs) {g : G} {i : Nat} (hg : qL gs b = some (g,i)) (hr : ∀ x,x ∈ lN g i → 0 ≤ x ∧ x < c.bs.length) (hpl : (lN g i).length ≤ 1000000) :
    aQ Tryz.prog 22 [.pr (fQ c gs) 0,.i b,.i lot] [] (.i (OH c (lN g i) (CE g i) lot)) [] := by
  have hp := W9 c gs b h hg;have hrg := HG c gs b h hg;generalize lN g i = P at *;generalize CE g i = r at *;obtain ⟨r1,r2⟩ := r;dsimp only at *;have hl : (ints P).length = P.length := cY _;have hc := OY (l := P) (F := 54) (caps := [.pr [.pr (fQ c gs) 0] 0,.pr [.i lot] 0]) (p := fun id => decide ((c.bs.getD id.toNat (0,0,0)).1 ≠ lot)) hpl rfl (fun x hx => OI c gs lot x (hr x hx));unfold OH;by_cases h0 : P.length = 0
  · rw [if_pos (.inl h0)];refine bK T Tryz.func22 rfl rfl rfl rfl ?_
    (repeat' (first|refine wS ?_|(refine rg 0 (bS (cW rfl rfl) rfl (bS (cW rfl rfl) rfl (aV ?_))))|refine nZ ?_));refine fJ 3 rfl rfl rfl ?_
    refine fJ 5 rfl rfl rfl ?_
    (repeat' (first|refine wS ?_|(refine rg 1 (lW T rfl (mW rfl (bS (by exact fM rfl rfl hp (.inr ⟨rfl,rfl,by simp⟩)) rfl ?_)));refine aV ?_)|refine nZ ?_));refine eM [(1,.i b),(3,.pr [.pr (fQ c gs) 0] 0),(5,.pr [.i lot] 0),(7,.sl 0 0 P.length 1)] [.arr (ints P) 1] ⟨[2],rfl,(by repeat first|exact trivial|refine ⟨rfl,?_⟩),⟨.inr (aG rfl (cC _ (bO _)) (bO _)),trivial⟩,by decide,jJ _⟩ ?_
    refine xY 7 (es := ints P) rfl rfl hl.symm (gI (bO _)) ?_
    (repeat' (first|refine wS ?_|refine wR ?_|refine wT ?_|(refine rg 2 (mW rfl (qW T rfl (vV (jZ rfl rfl (by omega)) (mV ?_))));(iterate 3 refine gF ?_);refine pV ?_)|(refine rg 3 (aV ?_))|refine nZ ?_));all_goals try (exfalso;omega)
    all_goals exact rQ
  · cases ha : P.any fun id => decide ((c.bs.getD id.toNat (0,0,0)).1 ≠ lot) with
    | true =>
      rw [ha] at hc;rw [if_pos (.inr rfl)];refine bK T Tryz.func22 rfl rfl rfl rfl ?_
      (repeat' (first|refine wS ?_|(refine rg 0 (bS (cW rfl rfl) rfl (bS (cW rfl rfl) rfl (aV ?_))))|refine nZ ?_));refine fJ 3 rfl rfl rfl ?_
      refine fJ 5 rfl rfl rfl ?_
      (repeat' (first|refine wS ?_|(refine rg 1 (lW T rfl (mW rfl (bS (by exact fM rfl rfl hp (.inr ⟨rfl,rfl,by simp⟩)) rfl ?_)));refine aV ?_)|refine nZ ?_));refine eM [(1,.i b),(3,.pr [.pr (fQ c gs) 0] 0),(5,.pr [.i lot] 0),(7,.sl 0 0 P.length 1)] [.arr (ints P) 1] ⟨[2],rfl,(by repeat first|exact trivial|refine ⟨rfl,?_⟩),⟨.inr (aG rfl (cC _ (bO _)) (bO _)),trivial⟩,by decide,jJ _⟩ ?_
      refine xY 7 (es := ints P) rfl rfl hl.symm (gI (bO _)) ?_
      (repeat' (first|refine wS ?_|refine wR ?_|refine wT ?_|(refine rg 2 (mW rfl (qW T rfl (vV (fX rfl rfl (by omega)) (mW rfl (yN rfl (yV (by exact iS rfl rfl) ?_))))));refine yV (kC (hc)) (pV ?_))|(refine rg 3 (aV ?_))|refine nZ ?_));all_goals try (exfalso;omega)
      all_goals exact rQ
    | false =>
      rw [ha] at hc;rw [if_neg (by rintro (q | q);exact h0 q;cases q)]
      refine bK T Tryz.func22 rfl rfl rfl rfl ?_
      (repeat' (first|refine wS ?_|(refine rg 0 (bS (cW rfl rfl) rfl (bS (cW rfl rfl) rfl (aV ?_))))|refine nZ ?_));refine fJ 3 rfl rfl rfl ?_
      refine fJ 5 rfl rfl rfl ?_
      (repeat' (first|refine wS ?_|(refine rg 1 (lW T rfl (mW rfl (bS (by exact fM rfl rfl hp (.inr ⟨rfl,rfl,by simp⟩)) rfl ?_)));refine aV ?_)|refine nZ ?_));refine eM [(1,.i b),(3,.pr [.pr (fQ c gs) 0] 0),(5,.pr [.i lot] 0),(7,.sl 0 0 P.length 1)] [.arr (ints P) 1] ⟨[2],rfl,(by repeat first|exact trivial|refine ⟨rfl,?_⟩),⟨.inr (aG rfl (cC _ (bO _)) (bO _)),trivial⟩,by decide,jJ _⟩ ?_
      refine xY 7 (es := ints P) rfl rfl hl.symm (gI (bO _)) ?_
      (repeat' (first|refine wS ?_|refine wK ?_|refine wR ?_|refine wU ?_|(refine rg 2 (mW rfl (qW T rfl (vV (fX rfl rfl (by omega)) (mW rfl (yN rfl (yV (by exact iS rfl rfl) ?_))))));refine yV (kC (hc)) (pV ?_))|(refine rg 4 (lW T rfl (mW rfl (vV (kC (hrg)) (vV (by exact U1 T rfl zD3 rfl rfl) ?_))));refine aV ?_)|refine nZ ?_));all_goals try (exfalso;omega)
      all_goals exact rQ
end Go.Proofs.YtbialaoigijlgaaGreatDoor
namespace Go.Ld
open Go.Ab Go.Proofs.YtbialaoigijlgaaGreatDoor
def VU (g : G) (p q : List Int) (w : W) (i : Nat) : Bool := decide (gP w i = p.getD (g.1.getD i 0).toNat 0) && DD (gC w i).1 (gC w i).2 (q.getD (p.getD (g.1.getD i 0).toNat 0).toNat 0)
def KW (g : G) (p q : List Int) (w : W) : Bool := (List.range g.1.length).all (VU g p q w)
theorem UM {g : G} {p q : List Int} {w : W} (h : ∀ i,i < g.1.length → VU g p q w i = true) : KW g p q w = true := bA.2 fun i hi => h i (fF.1 hi)
theorem XO {g : G} {p q : List Int} {w : W} {i : Nat} (hi : i < g.1.length) (h : VU g p q w i = false) : KW g p q w = false := RV.2 ⟨i,fF.2 hi,by rw [h];simp⟩
structure zB3 (n : Nat) (p q : List Int) : Prop where
  pl : p.length = n
  ql : q.length = n
  pr : ∀ i,i < n → 0 ≤ p.getD i 0 ∧ p.getD i 0 < n
end Go.Ld
namespace Go.Proofs.YtbialaoigijlgaaGreatDoor
open Go Go.Ab Go.Ld
attribute [local irreducible] VC AW bT aQ jI
set_option maxHeartbeats 4000000
theorem RD {n : Nat} (g : G) (p q : List Int) (w : W) (hg : G6 n g) (hw : AR n g.1.length w) (hp : zB3 n p q) (hn : n ≤ 1000) :
    aQ Tryz.prog 56 [.agg (wA w),.pr (gA g) 0,.pr [.rowE (ints p) 1] 0,.pr [.rowE (ints q) 1] 0] [] (.b (KW g p q w)) [] := by
  have hln := hg.ln;have hyes := UM (g := g) (p := p) (q := q) (w := w);have hno := fun (i : Nat) (hi : i < g.1.length) => XO (g := g) (p := p) (q := q) (w := w) hi;have hpp := hw.pl;have hcc := hw.cl;have hgi : ∀ i,i < g.1.length → 0 ≤ g.1.getD i 0 ∧ g.1.getD i 0 < n := fun i hi => by
    rw [aC,aB hi];exact hg.rg _ (aK hi)
  have hlp : (ints p).length = n := by rw [cY];exact hp.pl
  have hlq : (ints q).length = n := by rw [cY];exact hp.ql
  obtain ⟨bs,ws⟩ := g;obtain ⟨wp,wm,wc⟩ := w;dsimp only at *;have hlb : (ints bs).length = bs.length := cY _;have hl1 : (ints wp).length = bs.length := by rw [cY];exact hpp
  have hl2 : (eO wc).length = bs.length := by rw [fU];exact hcc
  generalize KW (bs,ws) p q (wp,wm,wc) = R at *;refine bK T Tryz.func56 rfl rfl rfl rfl ?_
  (repeat' (first|refine wS ?_|refine wB ?_|(refine rg 0 (bS (cW rfl rfl) rfl (aV ?_)))|(refine rg 1 (iX T rfl (qW T rfl (mV ?_))))|refine nZ ?_));all_goals try (exfalso;omega)
  refine fJ 4 (cs := wA (wp,wm,wc)) rfl rfl rfl ?_;refine cT (X := {k : Nat // k ≤ bs.length ∧ ∀ i,i < k → VU (bs,ws) p q (wp,wm,wc) i = true}) (fun k => [(2,.pr [.rowE (ints p) 1] 0),(3,.pr [.rowE (ints q) 1] 0),(4,.pr (wA (wp,wm,wc)) 0),(9,.rowE (ints bs) 1),(10,.i (ints bs).length),(11,.i k.1)]) (fun _ => []) (fun k => bs.length - k.1) ⟨0,bW _,H3⟩ (gO []) ?_;rintro ⟨k,hk,hall⟩;dsimp only;by_cases hlt : k < bs.length
  · obtain ⟨g1,g2⟩ := hgi k hlt;have qb := mE (l := bs) (j := (k : Int)) (i := k) 0 (by omega) rfl
    have qp := mE (l := wp) (j := (k : Int)) (i := k) 0 (by omega) rfl
    have qc := oT (l := wc) (j := (k : Int)) (i := k) (by omega) rfl
    have hok : VU (bs,ws) p q (wp,wm,wc) k = (decide (wp.getD k 0 = p.getD (bs.getD k 0).toNat 0) && DD (wc.getD k (0,0)).1 (wc.getD k (0,0)).2 (q.getD (p.getD (bs.getD k 0).toNat 0).toNat 0)) := rfl;have hn2 := hno k hlt;generalize bs.getD k 0 = b at *;obtain ⟨p1,p2⟩ := hp.pr b.toNat (by omega)
    have qp2 := mE (l := p) (j := b) (i := b.toNat) 0 (by have := hp.pl;omega) (by omega)
    generalize p.getD b.toNat 0 = x at *;have qq := mE (l := q) (j := x) (i := x.toNat) 0 (by have := hp.ql;omega) (by omega)
    generalize q.getD x.toNat 0 = y at *;generalize wp.getD k 0 = v at *;generalize wc.getD k (0,0) = r at *;obtain ⟨r1,r2⟩ := r;dsimp only at *;have hh := HF r1 r2 y;by_cases hv : v = x
    · rw [decide_eq_true hv,iY] at hok;generalize DD r1 r2 y = hb' at *;cases hb' with
      | true =>
        (repeat' (first|refine wS ?_|refine wB ?_|refine wK ?_|refine wU ?_|(refine wC rfl ?_ ?_<;>(intro hb;(try simp only [nm] at hb);try (exfalso;omega)))|(refine rg 2 (vV (aN rfl rfl) ?_))|(refine rg 3 (mW rfl (vV (ix T rfl (by omega) (cP _) qb) (lW T rfl (pG ?_)))))|(refine cK (id := 4) 43 zM2 (rM 16 26) zM3 cM rfl (by decide +kernel) (dP T rfl (dO T rfl (dN rfl (dV rfl (ix T rfl (by omega) (cP _) qp) (dO T rfl (dO T rfl (dN rfl (dV rfl (ix T rfl (by omega) (cP _) qp2) (dL T ?_)))))))));refine dV rfl (fL rfl rfl) (dM ?_);refine qN rfl rfl rfl rfl ?_ ?_<;>(intro hb;rw [hb];(try simp only [nm] at hb);try (exfalso;omega))<;>(refine tF T ?_);(all_goals (refine tO T rfl (tN rfl (dT rfl (ix T rfl (by omega) (gW _) qc) (tO T rfl (tO T rfl (tO T rfl (tN rfl (dT rfl (ix T rfl (by omega) (cP _) qp2) (tO T rfl (dT rfl (ix T rfl (by omega) (cP _) qq) ?_)))))))));refine tO T rfl (dT rfl (kC (hh)) (dT rfl (fB rfl) (dV rfl (jA rfl rfl) (dE ?_)))))))|(refine rg 6 (vV (bF rfl rfl (by omega) (by omega)) (mV ?_)))|refine nZ ?_));all_goals try (exfalso;omega)
        exact ⟨⟨k + 1,hlt,fun i hi => by
          rcases gS i k with h | h
          · exact hall i h
          · obtain rfl : i = k := by omega
            exact hok⟩,by dsimp only;omega,[],rfl,⟨rfl,rfl,rfl,rfl,rfl,rfl,trivial⟩,trivial,dA,jJ _⟩
      | false =>
        have hR := hn2 hok;subst hR
        (repeat' (first|refine wS ?_|refine wB ?_|refine wK ?_|refine wR ?_|refine wT ?_|(refine wC rfl ?_ ?_<;>(intro hb;(try simp only [nm] at hb);try (exfalso;omega)))|(refine rg 2 (vV (aN rfl rfl) ?_))|(refine rg 3 (mW rfl (vV (ix T rfl (by omega) (cP _) qb) (lW T rfl (pG ?_)))))|(refine cK (id := 4) 43 zM2 (rM 16 26) zM3 cM rfl (by decide +kernel) (dP T rfl (dO T rfl (dN rfl (dV rfl (ix T rfl (by omega) (cP _) qp) (dO T rfl (dO T rfl (dN rfl (dV rfl (ix T rfl (by omega) (cP _) qp2) (dL T ?_)))))))));refine dV rfl (fL rfl rfl) (dM ?_);refine qN rfl rfl rfl rfl ?_ ?_<;>(intro hb;rw [hb];(try simp only [nm] at hb);try (exfalso;omega))<;>(refine tF T ?_);(all_goals (refine tO T rfl (tN rfl (dT rfl (ix T rfl (by omega) (gW _) qc) (tO T rfl (tO T rfl (tO T rfl (tN rfl (dT rfl (ix T rfl (by omega) (cP _) qp2) (tO T rfl (dT rfl (ix T rfl (by omega) (cP _) qq) ?_)))))))));refine tO T rfl (dT rfl (kC (hh)) (dT rfl (fB rfl) (dV rfl (jA rfl rfl) (dE ?_)))))))|(refine rg 5 (aV ?_))|refine nZ ?_));all_goals try (exfalso;omega)
        all_goals exact rQ
    · rw [decide_eq_false hv,jD] at hok;have hR := hn2 hok;subst hR
      (repeat' (first|refine wS ?_|refine wB ?_|refine wK ?_|refine wR ?_|refine wT ?_|(refine wC rfl ?_ ?_<;>(intro hb;(try simp only [nm] at hb);try (exfalso;omega)))|(refine rg 2 (vV (aN rfl rfl) ?_))|(refine rg 3 (mW rfl (vV (ix T rfl (by omega) (cP _) qb) (lW T rfl (pG ?_)))))|(refine cK (id := 4) 43 zM2 (rM 16 26) zM3 cM rfl (by decide +kernel) (dP T rfl (dO T rfl (dN rfl (dV rfl (ix T rfl (by omega) (cP _) qp) (dO T rfl (dO T rfl (dN rfl (dV rfl (ix T rfl (by omega) (cP _) qp2) (dL T ?_)))))))));refine dV rfl (fL rfl rfl) (dM ?_);refine qN rfl rfl rfl rfl ?_ ?_<;>(intro hb;rw [hb];(try simp only [nm] at hb);try (exfalso;omega))<;>(refine dG ?_);(all_goals (refine tG rfl (tG rfl (tG rfl (tG rfl (tG rfl (tG rfl (tG rfl (tG rfl (tG rfl (dG ?_)))))))));refine tG rfl (tG rfl (tG rfl (dV rfl (jM rfl rfl) (dE ?_)))))))|(refine rg 5 (aV ?_))|refine nZ ?_));all_goals try (exfalso;omega)
      all_goals exact rQ
  · obtain rfl : k = bs.length := by omega
    have hR := hyes hall;subst hR
    (repeat' (first|refine wS ?_|refine wR ?_|refine wE ?_|(refine wC rfl ?_ ?_<;>(intro hb;(try simp only [nm] at hb);try (exfalso;omega)))|(refine rg 2 (vV (aN rfl rfl) ?_))|(refine rg 7 (aV ?_))|refine nZ ?_));all_goals try (exfalso;omega)
    all_goals exact rQ
end Go.Proofs.YtbialaoigijlgaaGreatDoor
namespace Go.Ld
open Go.Ab Go.Proofs.YtbialaoigijlgaaGreatDoor
def IK (g : G) (p q : List Int) (m : Int) (w : W) : Int := if KW g p q w && (decide (m < 0) || decide (w.2.1 < m)) then w.2.1 else m
def zS (g : G) (p q : List Int) (k : Nat) : Int := (g.2.take k).foldl (IK g p q) (-1)
def pL (g : G) (p q : List Int) : Int := zS g p q g.2.length
theorem O0 {g : G} {p q : List Int} {k : Nat} (h : k < g.2.length) : zS g p q (k + 1) = IK g p q (zS g p q k) g.2[k] := by
  unfold zS;rw [aO h,RU];rfl
theorem C8 {g : G} {p q : List Int} (h : ∀ w, w ∈ g.2 → 0 ≤ w.2.1 ∧ w.2.1 ≤ 4000000) : ∀ k, k ≤ g.2.length → -1 ≤ zS g p q k ∧ zS g p q k ≤ 4000000
  | 0,_ => by unfold zS;simp
  | k + 1,hk => by
    have ih := C8 (p := p) (q := q) h k (by omega)
    have := h g.2[k] (aK _);rw [O0 (by omega)]
    unfold IK;split <;> omega
def A5 (gs : List G) (p q : List Int) (k : Nat) : Int := ((gs.take k).map fun g => pL g p q).sum
theorem JA {gs : List G} {p q : List Int} {k : Nat} (h : k < gs.length) : A5 gs p q (k + 1) = A5 gs p q k + pL gs[k] p q := by
  unfold A5;rw [aO h,cN,YL];simp
def zC3 (c : Cx) (gs : List G) (p q : List Int) : Bool :=
  decide (p.length = c.bs.length) && decide (q.length = p.length) && Go.Pm.permB p && gs.all (fun g => decide (0 ≤ pL g p q)) && decide (A5 gs p q gs.length ≤ c.m)
theorem NP {n : Nat} {p q : List Int} (h : Go.Pm.permB p = true) (hp : p.length = n) (hq : q.length = p.length) : zB3 n p q := by
  refine ⟨hp,by omega,fun i hi => ?_⟩
  have e : hO p = nats (List.range p.length) := of_decide_eq_true h;have hm : p.getD i 0 ∈ p := by rw [aC,aB (by omega)];exact aK _
  have := (Go.Pm.sorted_perm p).mem_iff.2 hm;rw [e,hp] at this;exact vH.1 this
end Go.Ld
namespace Go.Proofs.YtbialaoigijlgaaGreatDoor
open Go Go.Ab Go.Ld Go.Pm
attribute [local irreducible] VC AW bT aQ jI
set_option maxHeartbeats 4000000
theorem CM (p : List Int) (hl : p.length ≤ 17592186043904) : aQ Tryz.prog 55 [.rowE (ints p) 1] [] (.b (permB p)) [] := by
  have h1 := yJ p;have h2 := J9 p hl;have hlen : (ints (hO p)).length = p.length := by simp [oM]
  have hsl := oM p;have hB : permB p = decide (hO p = nats (List.range p.length)) := rfl;rw [hB];generalize hO p = B at *;have hrl : (nats (List.range p.length)).length = p.length := by simp
  refine bK T Tryz.func55 rfl rfl rfl rfl ?_
  (repeat' (first|refine wS ?_|refine wB ?_|(refine rg 0 (aV ?_))|(refine rg 1 (mW rfl (vV (by exact eS rfl rfl h1 rfl rfl rfl) ?_));refine vV (by exact eS rfl rfl h2 rfl rfl rfl) ?_;refine qW T rfl (mV ?_))|refine nZ ?_));refine cT (X := {i : Nat // i ≤ p.length ∧ B.take i = (nats (List.range p.length)).take i}) (fun i => [(7,.rowE (ints B) 1),(8,.i (ints B).length),(9,.i (i.1 : Int))]) (fun _ => []) (fun i => p.length - i.1) ⟨0,bW _,rfl⟩ (gO []) ?_
  rintro ⟨i,hi,hg⟩;dsimp only;by_cases hlt : i < p.length
  · have q1 := mE (l := B) (j := (i : Int)) (i := i) 0 (by omega) rfl
    have hx : B.getD i 0 = B[i]'(by omega) := by rw [aC,aB (by omega)];rfl
    by_cases e : (i : Int) = B.getD i 0
    · have hg2 : B.take (i + 1) = (nats (List.range p.length)).take (i + 1) := by
        rw [aO (by omega),aO (by omega),hg,← hx,← e]
        simp
      generalize B.getD i 0 = x at *
      (repeat' (first|refine wS ?_|refine wB ?_|refine wK ?_|refine wU ?_|(refine wC rfl ?_ ?_<;>(intro hb;(try simp only [nm] at hb);try (exfalso;omega)))|(refine rg 2 (vV (aN rfl rfl) ?_))|(refine rg 3 (mW rfl (vV (ix T rfl (by omega) (cP B) q1) (lW T rfl (pG ?_)))))|(refine rg 4 (eG rfl (vV (jY rfl rfl (by omega)) ?_)))|(refine rg 6 (vV (bF rfl rfl (by omega) (by omega)) (mV ?_)))|refine nZ ?_));all_goals first | (exfalso;omega) | exact ⟨⟨i + 1,hlt,hg2⟩,by dsimp only;omega,gO []⟩
    · rw [show decide (B = nats (List.range p.length)) = false from decide_eq_false (fun h => e (by rw [hx];simp [h]))]
      generalize B.getD i 0 = x at *
      (repeat' (first|refine wS ?_|refine wB ?_|refine wK ?_|refine wR ?_|refine wT ?_|(refine wC rfl ?_ ?_<;>(intro hb;(try simp only [nm] at hb);try (exfalso;omega)))|(refine rg 2 (vV (aN rfl rfl) ?_))|(refine rg 3 (mW rfl (vV (ix T rfl (by omega) (cP B) q1) (lW T rfl (pG ?_)))))|(refine rg 4 (eG rfl (vV (tJ rfl rfl (by omega)) ?_)))|(refine rg 5 (aV ?_))|refine nZ ?_));all_goals first | (exfalso;omega) | exact rQ
  · rw [cF (by omega),cF (by omega)] at hg
    rw [show decide (B = nats (List.range p.length)) = true from decide_eq_true hg]
    (repeat' (first|refine wS ?_|refine wR ?_|refine wE ?_|(refine wC rfl ?_ ?_<;>(intro hb;(try simp only [nm] at hb);try (exfalso;omega)))|(refine rg 2 (vV (aN rfl rfl) ?_))|(refine rg 7 (aV ?_))|refine nZ ?_));all_goals first | (exfalso;omega) | exact rQ
theorem TT (n : Int) (h : n ≤ 17592186043904) : aQ Tryz.prog 14 [.i n] [] (.sl 0 0 n.toNat 1) [.arr (ints (nats (List.range n.toNat))) 1] := by
  refine bK T Tryz.func14 rfl rfl rfl rfl ?_
  (repeat' (first|refine wS ?_|refine wB ?_|(refine rg 0 (aV ?_))|(refine rg 1 (aV ?_))|(refine rg 2 (mW rfl (vV (vM rfl rfl) (mV ?_))))|refine nZ ?_));refine YG 3 1 rfl (by decide) ?_
  refine cT (X := {i : Nat // i ≤ n.toNat}) (fun i => [(3,.sl 0 0 i.1 1),(6,.i (max n 0)),(7,.i (i.1 : Int))]) (fun i => [.arr (ints (nats (List.range i.1))) 1]) (fun i => n.toNat - i.1) ⟨0,bW _⟩ ⟨[0],rfl,⟨rfl,rfl,rfl,trivial⟩,⟨.inr rfl,trivial⟩,by decide,H3⟩ ?_
  rintro ⟨i,hi⟩;dsimp only;have hl : (ints (nats (List.range i))).length = i := by simp
  by_cases hlt : i < n.toNat
  · have hs : ints (nats (List.range i)) ++ [[AV.i (i : Int)]] = ints (nats (List.range (i + 1))) := by rw [List.range_succ,JW]
    (repeat' (first|refine wS ?_|refine wB ?_|refine wK ?_|(refine wC rfl ?_ ?_<;>(intro hb;(try simp only [nm] at hb);try (exfalso;omega)))|(refine rg 3 (vV (aN rfl rfl) ?_))|(refine rg 4 (mW rfl (aV ?_)))|(refine rg 5 (eG rfl (bS (by exact bC T rfl rfl (by decide) (by decide) rfl rfl rfl) rfl ?_));refine fY T rfl rfl rfl rfl rfl rfl (by simp) (kE.whole rfl rfl) rfl (by simp;omega) (by simp;omega) rfl ?_;refine aV ?_)|(refine rg 6 (vV (bF rfl rfl (by omega) (by omega)) (mV ?_)))|refine nZ ?_));all_goals first | (exfalso;omega) | skip
    exact ⟨⟨i + 1,hlt⟩,by dsimp only;omega,[2],rfl,⟨rfl,rfl,rfl,trivial⟩,⟨.inr (aG rfl ((kJ hl.symm).trans hs) (bO _)),trivial⟩,by decide,H3⟩
  · obtain rfl : i = n.toNat := by omega
    (repeat' (first|refine wS ?_|refine wR ?_|refine wE ?_|(refine wC rfl ?_ ?_<;>(intro hb;(try simp only [nm] at hb);try (exfalso;omega)))|(refine rg 3 (vV (aN rfl rfl) ?_))|(refine rg 7 (mW rfl (aV ?_)))|refine nZ ?_));all_goals first | (exfalso;omega) | exact ⟨.inl rfl,[0],_,rfl,rfl,rfl,⟨.inr (aG rfl rfl (bO _)),trivial⟩,by decide,H3⟩
theorem LM (c : Cx) (gs : List G) (p q : List Int) (h : oQ c gs) (hm : c.m ≤ 1048576) (hpl : p.length ≤ 17592186043904) (hql : q.length ≤ 17592186043904) :
    aQ Tryz.prog 23 [.pr (fQ c gs) 0,.rowE (ints p) 1,.rowE (ints q) 1] [] (.b (zC3 c gs p q)) [] := by
  have hn12 := h.mid.n12;have hl12 : gs.length ≤ 12 := bX h.mid.out.len h.mid.out.ln;have hbl : (gJ c.bs).length = c.bs.length := bN _;have hlp : (ints p).length = p.length := cY _;have hlq : (ints q).length = q.length := cY _;have hgl : (gZ gs).length = gs.length := gY _;have hpr := CM p hpl;have hpq := fun hB h1 h2 => NP (n := c.bs.length) (p := p) (q := q) hB h1 h2;have hbst : ∀ g,g ∈ gs → -1 ≤ pL g p q ∧ pL g p q ≤ 4000000 := fun g hg => C8 (fun w hw => ⟨((h.mid.out.ok g hg).ws w hw).m0,((h.mid.out.ok g hg).ws w hw).m1⟩) _ (aX _);unfold zC3;generalize hB : permB p = pb at *;by_cases h1 : p.length = c.bs.length
  · rw [decide_eq_true h1,iY];by_cases h2 : q.length = p.length
    · rw [decide_eq_true h2,iY];cases pb with
      | false =>
        rw [jD,jD];refine bK T Tryz.func23 rfl rfl rfl rfl ?_
        (repeat' (first|refine wS ?_|(refine rg 0 (bS (cW rfl rfl) rfl (bS (cW rfl rfl) rfl (aV ?_))))|refine nZ ?_));refine fJ 4 rfl rfl rfl ?_
        refine fJ 5 rfl rfl rfl ?_
        (repeat' (first|refine wS ?_|refine wR ?_|refine wT ?_|(refine cK (id := 1) 80 zM4 (rM 14 20) zM5 cM rfl (by decide +kernel) (dO T rfl (dV rfl (fS T rfl rfl) (dN rfl (dV rfl (by exact dR rfl rfl) ?_))));refine dP T rfl (dO T rfl (dV rfl (fS T rfl rfl) (dV rfl (jY rfl rfl (by omega)) (dN rfl (tO T rfl (dT rfl (fS T rfl rfl) (tO T rfl (dT rfl (fS T rfl rfl) (dT rfl (jY rfl rfl (by omega)) ?_)))))))));refine dV rfl (jA rfl rfl) (dN rfl (tO T rfl (dT rfl (kC (hpr)) (dT rfl (fB rfl) (dV rfl (jA rfl rfl) (dE ?_)))))))|(refine rg 2 (aV ?_))|refine nZ ?_));all_goals try (exfalso;omega)
        all_goals exact rQ
      | true =>
        rw [iY];have hpq := hpq rfl h1 h2;have hno : ∀ k (hk : k < gs.length),pL gs[k] p q < 0 → (gs.all (fun g => decide (0 ≤ pL g p q)) && decide (A5 gs p q gs.length ≤ c.m)) = false := fun k hk hb => by
          rw [show gs.all (fun g => decide (0 ≤ pL g p q)) = false from RV.2 ⟨gs[k],aK hk,by simp;omega⟩];rfl
        have hyes : (∀ k (hk : k < gs.length),0 ≤ pL gs[k] p q) → (gs.all (fun g => decide (0 ≤ pL g p q)) && decide (A5 gs p q gs.length ≤ c.m)) = decide (A5 gs p q gs.length ≤ c.m) := fun hb => by
          rw [show gs.all (fun g => decide (0 ≤ pL g p q)) = true from bA.2 fun x hx => by
            obtain ⟨k,hk,rfl⟩ := List.getElem_of_mem hx
            exact decide_eq_true (hb k hk)];rfl
        generalize (gs.all (fun g => decide (0 ≤ pL g p q)) && decide (A5 gs p q gs.length ≤ c.m)) = R at *;refine bK T Tryz.func23 rfl rfl rfl rfl ?_
        (repeat' (first|refine wS ?_|(refine rg 0 (bS (cW rfl rfl) rfl (bS (cW rfl rfl) rfl (aV ?_))))|refine nZ ?_));refine fJ 4 rfl rfl rfl ?_
        refine fJ 5 rfl rfl rfl ?_
        (repeat' (first|refine wS ?_|refine wB ?_|refine wK ?_|refine wU ?_|(refine cK (id := 1) 80 zM4 (rM 14 20) zM5 cM rfl (by decide +kernel) (dO T rfl (dV rfl (fS T rfl rfl) (dN rfl (dV rfl (by exact dR rfl rfl) ?_))));refine dP T rfl (dO T rfl (dV rfl (fS T rfl rfl) (dV rfl (jY rfl rfl (by omega)) (dN rfl (tO T rfl (dT rfl (fS T rfl rfl) (tO T rfl (dT rfl (fS T rfl rfl) (dT rfl (jY rfl rfl (by omega)) ?_)))))))));refine dV rfl (jA rfl rfl) (dN rfl (tO T rfl (dT rfl (kC (hpr)) (dT rfl (fB rfl) (dV rfl (jA rfl rfl) (dE ?_)))))))|(refine rg 3 (aV ?_))|(refine rg 4 (mW rfl (nV ?_));refine iX T rfl (qW T rfl (mV ?_)))|refine nZ ?_));all_goals try (exfalso;omega)
        refine cT (X := {k : Nat // k ≤ gs.length ∧ (∀ j (hj : j < gs.length),j < k → 0 ≤ pL gs[j] p q) ∧ 0 ≤ A5 gs p q k ∧ A5 gs p q k ≤ 4000000 * k}) (fun k => [(0,.pr (fQ c gs) 0),(4,.pr [.rowE (ints p) 1] 0),(5,.pr [.rowE (ints q) 1] 0),(7,.i (A5 gs p q k.1)),(37,.rowE (gZ gs) 2),(38,.i (gZ gs).length),(39,.i k.1)]) (fun _ => []) (fun k => gs.length - k.1) ⟨0,bW _,fun j hj h => absurd h (dD _),iI _,iI _⟩ (gO []) ?_;rintro ⟨k,hk,hall,hs0,hs1⟩;dsimp only;by_cases hlt : k < gs.length
        · have hgk := zH hlt;have hgm := aK hlt;have og := h.mid.out.ok _ hgm;have hwl := h.mid.wl _ hgm;have hno := hno k hlt;have hsk := JA (p := p) (q := q) hlt;have hbk := hbst _ hgm;have hall2 : 0 ≤ pL gs[k] p q → ∀ j (hj : j < gs.length),j < k + 1 → 0 ≤ pL gs[j] p q := fun hb j hj hjk => by
            rcases gS j k with h' | h'
            · exact hall j hj h'
            · obtain rfl : j = k := by omega
              exact hb
          clear hyes hall;generalize hg : gs[k] = g at *;have hcl : ∀ w,w ∈ g.2 → _ := fun w hw => RD g p q w og (og.ws w hw) hpq (by omega)
          have hbs : ∀ j (hj : j < g.2.length),_ := fun j hj => O0 (g := g) (p := p) (q := q) hj;have hbb : ∀ j,j ≤ g.2.length → _ := fun j hj => C8 (g := g) (p := p) (q := q) (fun w hw => ⟨(og.ws w hw).m0,(og.ws w hw).m1⟩) j hj;have hmw : ∀ w,w ∈ g.2 → 0 ≤ w.2.1 ∧ w.2.1 ≤ 4000000 := fun w hw => ⟨(og.ws w hw).m0,(og.ws w hw).m1⟩;unfold pL at hbk hsk hno hall2;generalize hS : A5 gs p q (k + 1) = S1 at *;generalize A5 gs p q k = S at *;have hbs0 : zS g p q 0 = -1 := rfl;unfold IK at hbs;obtain ⟨bs,ws⟩ := g;dsimp only at *;generalize zS (bs,ws) p q = B at *;generalize KW (bs,ws) p q = FB at *;have hwsl : (eW ws).length = ws.length := eB _
          (repeat' (first|refine wS ?_|refine wB ?_|refine wK ?_|(refine wC rfl ?_ ?_<;>(intro hb;(try simp only [nm] at hb);try (exfalso;omega)))|(refine rg 5 (vV (aN rfl rfl) ?_))|(refine rg 6 (vV (ix T rfl (by omega) (lL _) hgk) (lW T rfl (bS (bH T rfl) rfl (aR T rfl rfl rfl rfl rfl rfl (by decide) rfl ?_)))))|refine nZ ?_));all_goals try (exfalso;omega)
          refine fJ 9 (cs := gA (bs,ws)) rfl rfl rfl ?_
          (repeat' (first|refine wS ?_|refine wB ?_|(refine rg 7 (vV (by exact iS rfl rfl) ?_);refine aV ?_)|(refine rg 8 (aV ?_))|(refine rg 9 (iX T rfl (qW T rfl (mV ?_))))|refine nZ ?_));all_goals try (exfalso;omega)
          refine cT (X := {j : Nat // j ≤ ws.length}) (fun j => [(0,.pr (fQ c gs) 0),(4,.pr [.rowE (ints p) 1] 0),(5,.pr [.rowE (ints q) 1] 0),(7,.i S),(37,.rowE (gZ gs) 2),(38,.i (gZ gs).length),(39,.i k),(10,.clo (.func 56) [] [.pr (gA (bs,ws)) 0,.pr [.rowE (ints p) 1] 0,.pr [.rowE (ints q) 1] 0]),(11,.i (B j.1)),(45,.rowE (eW ws) 3),(46,.i (eW ws).length),(47,.i j.1)]) (fun _ => []) (fun j => ws.length - j.1) ⟨0,bW _⟩ ⟨[],rfl,⟨rfl,rfl,rfl,rfl,rfl,rfl,rfl,rfl,by dsimp only;rw [hbs0];rfl,rfl,rfl,rfl,trivial⟩,trivial,dA,jJ _⟩ ?_
          rintro ⟨j,hj⟩;dsimp only;by_cases hjl : j < ws.length
          · have hgj := nE hjl;have hwm := aK hjl;have hc1 := hcl _ hwm;have hb1 := hbs j hjl;have hb2 := hbb j hj;have hm1 := hmw _ hwm;generalize ws[j] = w at *;generalize FB w = fb at *;generalize hB1 : B (j + 1) = B1 at *;generalize B j = B0 at *;obtain ⟨wp,wm,wc⟩ := w;dsimp only at *;have hnx : B1 = B (j + 1) := hB1.symm;cases fb with
            | false =>
              rw [jD,if_neg (by simp)] at hb1
              (repeat' (first|refine wS ?_|refine wB ?_|refine wK ?_|refine wU ?_|(refine wC rfl ?_ ?_<;>(intro hb;(try simp only [nm] at hb);try (exfalso;omega)))|(refine rg 10 (vV (aN rfl rfl) ?_))|(refine rg 11 (vV (ix T rfl (by omega) (jE _) hgj) (lW T rfl (bS (bH T rfl) rfl (aR T rfl rfl rfl rfl rfl rfl (by decide) rfl ?_)))))|(refine rg 12 (mW rfl (lW T rfl (vV (by exact eS rfl rfl hc1 rfl rfl rfl) ?_)));refine mV ?_;(iterate 3 refine gF ?_);(iterate 4 refine gU ?_);refine gF (pV ?_))|(refine rg 14 (vV (bF rfl rfl (by omega) (by omega)) (mV ?_)))|refine nZ ?_));all_goals try (exfalso;omega)
              exact ⟨⟨j + 1,hjl⟩,by dsimp only;omega,[],rfl,⟨rfl,rfl,rfl,rfl,rfl,rfl,rfl,rfl,by dsimp only;rw [hB1,hb1];rfl,rfl,rfl,rfl,trivial⟩,trivial,dA,jJ _⟩
            | true =>
              rw [iY] at hb1;by_cases hb0 : B0 < 0
              · rw [decide_eq_true hb0,Bool.true_or,if_pos rfl] at hb1
                (repeat' (first|refine wS ?_|refine wB ?_|refine wK ?_|refine wT ?_|(refine rg 10 (vV (pO rfl rfl (by omega)) ?_))|(refine rg 11 (vV (ix T rfl (by omega) (jE _) hgj) (lW T rfl (bS (bH T rfl) rfl (aR T rfl rfl rfl rfl rfl rfl (by decide) rfl ?_)))))|(refine rg 12 (mW rfl (lW T rfl (vV (by exact eS rfl rfl hc1 rfl rfl rfl) ?_)));refine mW rfl (yN rfl (yV (pO rfl rfl (by omega)) (yM ?_)));(iterate 4 refine gF ?_);refine gT (pW rfl (pV ?_)))|(refine rg 13 (iX T rfl (aV ?_)))|(refine rg 14 (vV (bF rfl rfl (by omega) (by omega)) (mV ?_)))|refine nZ ?_));all_goals try (exfalso;omega)
                exact ⟨⟨j + 1,hjl⟩,by dsimp only;omega,[],rfl,⟨rfl,rfl,rfl,rfl,rfl,rfl,rfl,rfl,by dsimp only;rw [hB1,hb1];rfl,rfl,rfl,rfl,trivial⟩,trivial,dA,jJ _⟩
              · rw [decide_eq_false hb0,Bool.false_or] at hb1;by_cases hwb : wm < B0
                · rw [if_pos (decide_eq_true hwb)] at hb1
                  (repeat' (first|refine wS ?_|refine wB ?_|refine wK ?_|refine wT ?_|(refine rg 10 (vV (pO rfl rfl (by omega)) ?_))|(refine rg 11 (vV (ix T rfl (by omega) (jE _) hgj) (lW T rfl (bS (bH T rfl) rfl (aR T rfl rfl rfl rfl rfl rfl (by decide) rfl ?_)))))|(refine rg 12 (mW rfl (lW T rfl (vV (by exact eS rfl rfl hc1 rfl rfl rfl) ?_)));refine mW rfl (yN rfl (yV (zL rfl rfl (by omega)) (yN rfl (yP T rfl (yO T rfl (yN rfl (yV (pO rfl rfl (by omega)) (gT (pV ?_)))))))));refine pV ?_)|(refine rg 13 (iX T rfl (aV ?_)))|(refine rg 14 (vV (bF rfl rfl (by omega) (by omega)) (mV ?_)))|refine nZ ?_));all_goals try (exfalso;omega)
                  exact ⟨⟨j + 1,hjl⟩,by dsimp only;omega,[],rfl,⟨rfl,rfl,rfl,rfl,rfl,rfl,rfl,rfl,by dsimp only;rw [hB1,hb1];rfl,rfl,rfl,rfl,trivial⟩,trivial,dA,jJ _⟩
                · rw [if_neg (by simpa using hwb)] at hb1
                  (repeat' (first|refine wS ?_|refine wB ?_|refine wK ?_|refine wT ?_|refine wU ?_|(refine rg 10 (vV (pO rfl rfl (by omega)) ?_))|(refine rg 11 (vV (ix T rfl (by omega) (jE _) hgj) (lW T rfl (bS (bH T rfl) rfl (aR T rfl rfl rfl rfl rfl rfl (by decide) rfl ?_)))))|(refine rg 12 (mW rfl (lW T rfl (vV (by exact eS rfl rfl hc1 rfl rfl rfl) ?_)));refine mW rfl (yN rfl (yV (zL rfl rfl (by omega)) (yN rfl (yP T rfl (yO T rfl (yN rfl (yV (zL rfl rfl (by omega)) (gT (pV ?_)))))))));refine pV ?_)|(refine rg 14 (vV (bF rfl rfl (by omega) (by omega)) (mV ?_)))|refine nZ ?_));all_goals try (exfalso;omega)
                  exact ⟨⟨j + 1,hjl⟩,by dsimp only;omega,[],rfl,⟨rfl,rfl,rfl,rfl,rfl,rfl,rfl,rfl,by dsimp only;rw [hB1,hb1];rfl,rfl,rfl,rfl,trivial⟩,trivial,dA,jJ _⟩
          · obtain rfl : j = ws.length := by omega
            by_cases hbn : B ws.length < 0
            · have hR := hno hbn;subst hR
              (repeat' (first|refine wS ?_|refine wR ?_|refine wE ?_|(refine wC rfl ?_ ?_<;>(intro hb;(try simp only [nm] at hb);try (exfalso;omega)))|(refine rg 10 (vV (aN rfl rfl) ?_))|(refine rg 15 (mW rfl (vV (aN rfl rfl) ?_)))|(refine rg 16 (aV ?_))|refine nZ ?_));all_goals try (exfalso;omega)
              all_goals exact rQ
            · (repeat' (first|refine wS ?_|refine wK ?_|refine wE ?_|(refine wC rfl (fun hb => ?_) (fun hb => ?_) <;> (((try simp only [nm] at hb);try (exfalso;omega))))|(refine rg 10 (vV (aN rfl rfl) ?_))|(refine rg 15 (mW rfl (vV (aN rfl rfl) ?_)))|(refine rg 17 (eG rfl (vV (bF rfl rfl (by omega) (by omega)) (aV ?_))))|(refine rg 18 (vV (bF rfl rfl (by omega) (by omega)) (mV ?_)))|(refine nZ ?_)));all_goals try (exfalso;omega)
              exact ⟨⟨k + 1,hlt,hall2 (by omega),by rw [hS];omega,by rw [hS];omega⟩,by dsimp only;omega,[],rfl,⟨rfl,rfl,rfl,by dsimp only;rw [hS,hsk];rfl,rfl,rfl,rfl,trivial⟩,trivial,dA,jJ _⟩
        · obtain rfl : k = gs.length := by omega
          have hR := hyes fun j hj => hall j hj hj
          subst hR
          (repeat' (first|refine wS ?_|refine wR ?_|refine wE ?_|(refine wC rfl ?_ ?_<;>(intro hb;(try simp only [nm] at hb);try (exfalso;omega)))|(refine rg 5 (vV (aN rfl rfl) ?_))|(refine rg 19 (eG rfl (nV ?_));refine fW T rfl (iX T rfl (vV (oC rfl rfl) (aV ?_))))|refine nZ ?_));all_goals try (exfalso;omega)
          all_goals exact rQ
    · rw [decide_eq_false h2,jD,jD,jD];refine bK T Tryz.func23 rfl rfl rfl rfl ?_
      (repeat' (first|refine wS ?_|(refine rg 0 (bS (cW rfl rfl) rfl (bS (cW rfl rfl) rfl (aV ?_))))|refine nZ ?_));refine fJ 4 rfl rfl rfl ?_
      refine fJ 5 rfl rfl rfl ?_
      (repeat' (first|refine wS ?_|refine wR ?_|refine wT ?_|(refine cK (id := 1) 80 zM4 (rM 14 20) zM5 cM rfl (by decide +kernel) (dO T rfl (dV rfl (fS T rfl rfl) (dN rfl (dV rfl (by exact dR rfl rfl) ?_))));refine dP T rfl (dO T rfl (dV rfl (fS T rfl rfl) (dV rfl (jY rfl rfl (by omega)) (dN rfl (tO T rfl (dT rfl (fS T rfl rfl) (tO T rfl (dT rfl (fS T rfl rfl) (dT rfl (tJ rfl rfl (by omega)) ?_)))))))));refine dV rfl (jA rfl rfl) (dN rfl (tG rfl (tG rfl (tG rfl (dV rfl (jM rfl rfl) (dE ?_)))))))|(refine rg 2 (aV ?_))|refine nZ ?_));all_goals try (exfalso;omega)
      all_goals exact rQ
  · rw [decide_eq_false h1,jD,jD,jD,jD];refine bK T Tryz.func23 rfl rfl rfl rfl ?_
    (repeat' (first|refine wS ?_|(refine rg 0 (bS (cW rfl rfl) rfl (bS (cW rfl rfl) rfl (aV ?_))))|refine nZ ?_));refine fJ 4 rfl rfl rfl ?_
    refine fJ 5 rfl rfl rfl ?_
    (repeat' (first|refine wS ?_|refine wR ?_|refine wT ?_|(refine cK (id := 1) 80 zM4 (rM 14 20) zM5 cM rfl (by decide +kernel) (dO T rfl (dV rfl (fS T rfl rfl) (dN rfl (dV rfl (by exact dR rfl rfl) ?_))));refine dP T rfl (dO T rfl (dV rfl (fS T rfl rfl) (dV rfl (tJ rfl rfl (by omega)) (dN rfl (tG rfl (tG rfl (tG rfl (tG rfl (dG ?_)))))))));refine dV rfl (jM rfl rfl) (dN rfl (tG rfl (tG rfl (tG rfl (dV rfl (jM rfl rfl) (dE ?_)))))))|(refine rg 2 (aV ?_))|refine nZ ?_));all_goals try (exfalso;omega)
    all_goals exact rQ
end Go.Proofs.YtbialaoigijlgaaGreatDoor
namespace Go.Ab
open Go
theorem nU.freezeEl {n : Nat × Nat} {c : mR} {ρ : Pl} {S : Nat → Prop} {env : dI} {h : Hp} {a : Act} {w : World} {j f k len sz sz2 : Nat} {es es' es2 : List (List AV)} (s : nU n c ρ S env h a w) (hj : h[j]? = some (.arr es sz)) (hne : j ≠ k) (h0 : es ≠ []) (hf : es.flatten[f]? = some (.sl k 0 len sz2)) (hk : h[k]? = some (.arr es2 sz2)) (hn : len = es2.length) (hi : AV.idfL es2.flatten = true)
    (hl : ∀ e,e ∈ es' → e.length = sz) (he : es'.flatten = es.flatten.set f (.rowE es2 sz2)) :
    nU n c ρ (fun b => S b ∨ ∃ o,ρ k = some (b,o)) env ((h.set k .gone).set j (.arr es' sz)) a w := by
  have h1 := s.hs.freeze hk;have hj' : (h.set k .gone)[j]? = some (.arr es sz) := by rw [iU (Ne.symm hne)];exact hj
  refine ⟨s.size,s.defers.st (fun _ h => .inl h),fun t' x hx => RG (fun _ h => .inl h) (s.env t' x hx),h1.alter hj' (fun _ => ?_) (by simp),s.cm⟩
  have hb := s.hs.blk j _ hj;simp only [RB] at hb ⊢;obtain ⟨b1,b2,b3⟩ := hb;refine ⟨hl,b2,?_⟩;rcases b3 with ⟨e,_⟩ | ⟨b,o,ys,e1,e2,e3⟩
  · exact absurd e h0
  · refine .inr ⟨b,o,ys,e1,e2,?_⟩;rw [he];refine AU (fun _ h => .inl h) (fun y hy => ?_) hf e3;rw [hn] at hy;exact zN hi (s.hs.blk k _ hk) hy
section
variable {P : Program} {n : Nat × Nat} {ops : Array Oper} {env : dI} {h : Hp} {K : dI → Hp → Prop} {rest : List Oper} {Q : Exit → dI → Hp → Prop} {code : Code}
theorem EC (j f : Nat) {k len sz sz2 : Nat} {es : List (List AV)} (es' : List (List AV)) {es2 : List (List AV)} (hj : h[j]? = some (.arr es sz)) (hne : j ≠ k) (h0 : es ≠ []) (hf : es.flatten[f]? = some (.sl k 0 len sz2)) (hk : h[k]? = some (.arr es2 sz2)) (hn : len = es2.length) (hi : AV.idfL es2.flatten = true)
    (hl : ∀ e,e ∈ es' → e.length = sz) (he : es'.flatten = es.flatten.set f (.rowE es2 sz2)) (hv : AW P n code env ((h.set k .gone).set j (.arr es' sz)) Q) : AW P n code env h Q :=
  fun c ρ S a w QQ s hQ => hv c ρ _ a w QQ (s.freezeEl hj hne h0 hf hk hn hi hl he) hQ
end
end Go.Ab
namespace Go.Ld
open Go.Ab Go.Proofs.YtbialaoigijlgaaGreatDoor
theorem RC {es : List (List AV)} (h : ∀ e,e ∈ es → e.all AV.one = true) : es.flatten.all AV.one = true := by
  rw [bA];intro x hx;obtain ⟨e,he,hx⟩ := List.mem_flatten.1 hx;exact bA.1 (h e he) x hx
theorem X8 {α : Type} {f : α → List AV} (hf : ∀ x,(f x).all AV.one = true) (l : List α) : (l.map f).flatten.all AV.one = true := RC fun e he => by
  obtain ⟨x,_,rfl⟩ := bL.1 he;exact hf x
theorem Y8 {α : Type} {f : α → List AV} (hf : ∀ x,AV.idfL (f x) = true) (l : List α) : ∀ e,e ∈ l.map f → AV.idfL e = true := fun e he => by
  obtain ⟨x,_,rfl⟩ := bL.1 he;exact hf x
def BY (n : Int) : Bool := decide (n < 0 ∨ 1048576 < n)
def BZ (c : Cx) : Bool := [c.m,c.st,c.er,c.sl].any BY
theorem JF {c : Cx} : BZ c = false ↔ sS c.m c.st c.er c.sl := by
  unfold BZ sS BY;simp;omega
end Go.Ld
namespace Go.Proofs.YtbialaoigijlgaaGreatDoor
open Go Go.Ab Go.Ld
attribute [local irreducible] VC AW bT aQ jI
set_option maxHeartbeats 4000000
theorem PX (l : List KD) (hl : l.length ≤ 1000000) : aQ Tryz.prog 26 [.rowE (lS l) 2] [] (.rowE (lS l) 2) [] := by
  have hll : (lS l).length = l.length := bN _;have hid := Y8 (f := fun b : KD => [AV.v (.string b.1),AV.i b.2]) (fun _ => rfl) l;have hon := X8 (f := fun b : KD => [AV.v (.string b.1),AV.i b.2]) (fun _ => rfl) l;refine nT (len := l.length) hll.symm (gI hid) ?_;refine bK T Tryz.func26 rfl rfl rfl rfl ?_
  repeat' (first|refine wS ?_|refine wK ?_|refine wT ?_|refine wU ?_|(refine rg 0 (aV ?_))|(refine rg 1 (mV ?_);refine qE T rfl rfl rfl rfl fun b hb=>?_;cases b)|refine nZ ?_)
  · (repeat' (first|refine wR ?_|(refine rg 3 (bS (by exact bC T rfl rfl (by decide) (by decide) rfl rfl rfl) rfl ?_);refine mW rfl (fY T rfl rfl rfl rfl rfl rfl (by decide) (.row (B8 l)) hon (by simp;omega) (by simp;omega) rfl ?_);refine aV ?_)|(refine nZ ?_)));exact ⟨.inl rfl,[1],_,rfl,(by show AV.sl 1 0 (0 + (lS l).length) 2 = AV.sl 1 0 l.length 2;simp),rfl,⟨.inr (aG rfl rfl hid),trivial⟩,by decide,H3⟩
  · have hl0 : l = [] := fG.1 (Classical.byContradiction fun h => by have := hb (by omega);cases this)
    subst hl0
    (repeat' (first|refine wR ?_|(refine rg 2 (vV (fA rfl) (pH 2 2 rfl (by decide) ?_)))|refine nZ ?_));exact ⟨.inl rfl,[0],_,rfl,rfl,rfl,⟨.inr (aG rfl rfl hid),trivial⟩,by decide,H3⟩
theorem PW (l : List LT) (hl : l.length ≤ 1000000) : aQ Tryz.prog 27 [.rowE (qI l) 3] [] (.rowE (qI l) 3) [] := by
  have hll : (qI l).length = l.length := bN _;have hid := Y8 (f := fun b : LT => [AV.i b.1,AV.i b.2.1,AV.b b.2.2]) (fun _ => rfl) l;have hon := X8 (f := fun b : LT => [AV.i b.1,AV.i b.2.1,AV.b b.2.2]) (fun _ => rfl) l;refine nT (len := l.length) hll.symm (gI hid) ?_;refine bK T Tryz.func27 rfl rfl rfl rfl ?_
  repeat' (first|refine wS ?_|refine wK ?_|refine wT ?_|refine wU ?_|(refine rg 0 (aV ?_))|(refine rg 1 (mV ?_);refine qE T rfl rfl rfl rfl fun b hb=>?_;cases b)|refine nZ ?_)
  · (repeat' (first|refine wR ?_|(refine rg 3 (bS (by exact bC T rfl rfl (by decide) (by decide) rfl rfl rfl) rfl ?_);refine mW rfl (fY T rfl rfl rfl rfl rfl rfl (by decide) (.row (M0 l)) hon (by simp;omega) (by simp;omega) rfl ?_);refine aV ?_)|(refine nZ ?_)));exact ⟨.inl rfl,[1],_,rfl,(by show AV.sl 1 0 (0 + (qI l).length) 3 = AV.sl 1 0 l.length 3;simp),rfl,⟨.inr (aG rfl rfl hid),trivial⟩,by decide,H3⟩
  · have hl0 : l = [] := fG.1 (Classical.byContradiction fun h => by have := hb (by omega);cases this)
    subst hl0
    (repeat' (first|refine wR ?_|(refine rg 2 (vV (fA rfl) (pH 2 3 rfl (by decide) ?_)))|refine nZ ?_));exact ⟨.inl rfl,[0],_,rfl,rfl,rfl,⟨.inr (aG rfl rfl hid),trivial⟩,by decide,H3⟩
theorem PY (l : List BX) (hl : l.length ≤ 1000000) : aQ Tryz.prog 28 [.rowE (gJ l) 3] [] (.rowE (gJ l) 3) [] := by
  have hll : (gJ l).length = l.length := bN _;have hid := Y8 (f := fun b : BX => [AV.i b.1,AV.i b.2.1,AV.i b.2.2]) (fun _ => rfl) l;have hon := X8 (f := fun b : BX => [AV.i b.1,AV.i b.2.1,AV.i b.2.2]) (fun _ => rfl) l;refine nT (len := l.length) hll.symm (gI hid) ?_;refine bK T Tryz.func28 rfl rfl rfl rfl ?_
  repeat' (first|refine wS ?_|refine wK ?_|refine wT ?_|refine wU ?_|(refine rg 0 (aV ?_))|(refine rg 1 (mV ?_);refine qE T rfl rfl rfl rfl fun b hb=>?_;cases b)|refine nZ ?_)
  · (repeat' (first|refine wR ?_|(refine rg 3 (bS (by exact bC T rfl rfl (by decide) (by decide) rfl rfl rfl) rfl ?_);refine mW rfl (fY T rfl rfl rfl rfl rfl rfl (by decide) (.row (pY l)) hon (by simp;omega) (by simp;omega) rfl ?_);refine aV ?_)|(refine nZ ?_)));exact ⟨.inl rfl,[1],_,rfl,(by show AV.sl 1 0 (0 + (gJ l).length) 3 = AV.sl 1 0 l.length 3;simp),rfl,⟨.inr (aG rfl rfl hid),trivial⟩,by decide,H3⟩
  · have hl0 : l = [] := fG.1 (Classical.byContradiction fun h => by have := hb (by omega);cases this)
    subst hl0
    (repeat' (first|refine wR ?_|(refine rg 2 (vV (fA rfl) (pH 2 3 rfl (by decide) ?_)))|refine nZ ?_));exact ⟨.inl rfl,[0],_,rfl,rfl,rfl,⟨.inr (aG rfl rfl hid),trivial⟩,by decide,H3⟩
theorem SS (n : Int) : aQ Tryz.prog 58 [.i n] [] (.b (BY n)) [] := by
  unfold BY;by_cases h : n < 0
  · rw [decide_eq_true (.inl h)];refine bK T Tryz.func58 rfl rfl rfl rfl ?_
    (repeat' (first|refine wS ?_|refine wR ?_|(refine rg 0 (aV ?_))|(refine rg 1 (mW rfl (vV (pO rfl rfl (by omega)) (mV ?_)));(iterate 2 refine gF ?_);refine pW rfl (aV ?_))|refine nZ ?_));all_goals first | (exfalso;omega) | exact rQ
  · refine bK T Tryz.func58 rfl rfl rfl rfl ?_
    (repeat' (first|refine wS ?_|refine wR ?_|(refine rg 0 (aV ?_))|(refine rg 1 (mW rfl (vV (zL rfl rfl (by omega)) (mW rfl (yN rfl (yV (gN rfl rfl) (pW rfl (aV ?_))))))))|refine nZ ?_));all_goals first | (exfalso;omega) | (refine eC (.inl rfl) rfl (sO ?_);simp;omega)
theorem P8 (c : Cx) : aQ Tryz.prog 24 [.agg [.i c.m,.i c.st,.i c.er,.i c.sl]] [] (.b (!BZ c)) [] := by
  have hh := OY (l := [c.m,c.st,c.er,c.sl]) (F := 58) (caps := []) (p := BY) (by simp) rfl (fun x hx => SS x)
  change aQ _ _ _ _ (.b (BZ c)) _ at hh;generalize BZ c = v at *;refine bK T Tryz.func24 rfl rfl rfl rfl ?_
  (repeat' (first|refine wS ?_|refine wR ?_|(refine rg 0 (bS (cW rfl rfl) rfl (aV ?_)))|(refine rg 1 (iX T rfl (iX T rfl (iX T rfl (iX T rfl (bS (by exact bC T rfl rfl (by decide) (by decide) rfl rfl rfl) rfl ?_)))));refine kM 11 rfl rfl rfl rfl ?_;refine vV (kC (hh)) (vV (fB rfl) (aV ?_)))|refine nZ ?_));all_goals first | (exfalso;omega) | exact rQ
end Go.Proofs.YtbialaoigijlgaaGreatDoor
namespace Go.Ld
open Go.Ab Go.Proofs.YtbialaoigijlgaaGreatDoor
abbrev TK (c : Cx) (x : AV) : List AV := [.i c.m,.i c.st,.i c.er,.i c.sl,.rowE (lS c.ks) 2,.rowE (qI c.ls) 3,.rowE (gJ c.bs) 3,x]
theorem XT {h : Hp} {i sz : Nat} {θ : Nat → Nat} {A A' : List (List AV)} {E E' : List AV} (hk : h[i]? = some (.arr (A' ++ [E']) sz)) (hA : A' = A) (hE : E' = AV.mapL θ E) (hi : ∀ e,e ∈ A → AV.idfL e = true) : h[i]? = some ((AB.arr (A ++ [E]) sz).map θ) := by
  subst hA hE;rw [hk];simp only [AB.map,cN,cC θ hi];rfl
theorem UI {A : List (List AV)} {x y : AV} : (A ++ [[x,y]]).flatten[A.flatten.length]? = some x := by simp
theorem UH {A : List (List AV)} {x y : AV} : (A ++ [[x,y]]).flatten[A.flatten.length + 1]? = some y := by
  rw [fO,aE (by omega)];simp
theorem UG {A : List (List AV)} {x y z : AV} : (A ++ [[z,y]]).flatten = (A ++ [[x,y]]).flatten.set A.flatten.length z := by
  rw [fO,fO,jO _ _ (by omega)];simp
theorem UF {A : List (List AV)} {x y z : AV} : (A ++ [[x,z]]).flatten = (A ++ [[x,y]]).flatten.set (A.flatten.length + 1) z := by
  rw [fO,fO,jO _ _ (by omega)];simp
theorem OE (c : Cx) : (rL c).length = c.bs.length := by rw [X9];simp
theorem JV {c : Cx} {k : Nat} (h : k < c.bs.length) : (rL c).take (k + 1) = (rL c).take k ++ [Q0 c k] := by
  rw [X9,← jU,← jU,aO (by simpa using h),cN]
  simp
end Go.Ld
namespace Go.Proofs.YtbialaoigijlgaaGreatDoor
open Go Go.Ab Go.Ld
attribute [local irreducible] VC AW bT aQ jI
set_option maxHeartbeats 4000000
theorem ZP (c : Cx) (hc : D4 c) (hid : aQ Tryz.prog 14 [.i (gJ c.bs).length] [] (.rowE (ints (nats (List.range c.bs.length))) 1) []) (htr : aQ Tryz.prog 25 [.rowE (lS c.ks) 2,.rowE (qI c.ls) 3,.rowE (ints (nats (List.range c.bs.length))) 1,.rowE (gJ c.bs) 3] [] (.b true) []) :
    aQ Tryz.prog 6 [.agg [.i c.m,.i c.st,.i c.er,.i c.sl],.rowE (lS c.ks) 2,.rowE (qI c.ls) 3,.rowE (gJ c.bs) 3] [] (.tup [.ptr 0 0,.i 0]) [.cells (fQ c (rL c))] := by
  have hn1 := hc.f.n1;have hn8 := hc.f.n8;have hk10 := hc.f.k10;have hl10 := hc.f.l10;have hnl : (nats (List.range c.bs.length)).length = c.bs.length := by simp
  have hsn := P8 c;rw [JF.2 hc.s] at hsn;have h1 := PX c.ks (by omega)
  have h2 := PW c.ls (by omega)
  have h3 := PY c.bs (by omega)
  have hbl : (gJ c.bs).length = c.bs.length := bN _;have hNl := OE c;refine bK T Tryz.func6 rfl rfl rfl rfl ?_
  (repeat' (first|refine wS ?_|(refine rg 0 (bS (cW rfl rfl) rfl (pG ?_)))|refine nZ ?_));refine fJ 4 rfl rfl rfl ?_
  (repeat' (first|refine wS ?_|refine wK ?_|refine wU ?_|(refine rg 1 (lW T rfl (vV (kC (hsn)) (vV (fB rfl) (mW rfl (yN rfl (yN rfl (yN rfl (gT (qV T ?_)))))))));refine yV (kC (hid)) (yN rfl (yV (kC (htr)) (yV (fB rfl) (pV ?_)))))|(refine cK (id := 3) 69 [[],[],[1],[],[1,2,3],[],rM 1 5,rN 7,rN 8] (rM 27 9) [[],[27],[27],[27,28,29],[27],rM 27 5,[27],[],[]] cM rfl (by decide +kernel) (dO T rfl (dN rfl (dV rfl (kC (h1)) (dN rfl (dV rfl (kC (h2)) (dN rfl (dV rfl (kC (h3)) (dV rfl (by exact eH T rfl rfl rfl rfl) ?_))))))));refine xU rfl rfl rfl (by exact cW rfl rfl) rfl ?_;refine dE ?_;refine aV ?_)|refine nZ ?_));all_goals try (exfalso;omega)
  refine eM [(3,.rowE (gJ c.bs) 3),(10,.ptr 0 0)] [.cells (TK c .nils)] ⟨[1],rfl,(by repeat first|exact trivial|refine ⟨rfl,?_⟩),⟨.inr rfl,trivial⟩,by decide,jJ _⟩ ?_
  refine tZ 0 7 2 rfl rfl (by decide) ?_
  (repeat' (first|refine wB ?_|(refine rg 4 (mW rfl (qW T rfl (mV ?_))))|refine nZ ?_));all_goals try (exfalso;omega)
  refine cT (X := {k : Nat // k ≤ c.bs.length}) (fun k => [(10,.ptr 0 0),(36,.rowE (gJ c.bs) 3),(37,.i (gJ c.bs).length),(38,.i k.1)]) (fun k => [.cells (TK c (.sl 1 0 k.1 2)),.arr (gZ ((rL c).take k.1)) 2]) (fun k => c.bs.length - k.1) ⟨0,bW _⟩ ⟨[0,1],rfl,(by repeat first|exact trivial|refine ⟨rfl,?_⟩),⟨.inr rfl,.inr rfl,trivial⟩,by decide,jJ _⟩ ?_
  rintro ⟨k,hk⟩;dsimp only;by_cases hlt : k < c.bs.length
  · have hb := hc.f.b k hlt;have hbx : c.bs[k]? = some (c.bs.getD k (0,0,0)) := by rw [aC,aB hlt];rfl
    have hge : c.bs[k] = c.bs.getD k (0,0,0) := by rw [aC,aB hlt];rfl
    rw [hge] at hb;have qb : (gJ c.bs)[((k : Int)).toNat]? = some [.i (c.bs.getD k (0,0,0)).1,.i (c.bs.getD k (0,0,0)).2.1,.i (c.bs.getD k (0,0,0)).2.2] := by rw [bR,bJ,hbx];rfl
    have hsu := JV hlt;have hA : gZ ((rL c).take (k + 1)) = gZ ((rL c).take k) ++ [gA (Q0 c k)] := by rw [hsu,gZ,cN];rfl
    have hAl : (gZ ((rL c).take k)).length = k := by rw [gY,aU];omega
    have hAi := dX ((rL c).take k);have hA3 := lL ((rL c).take k);have hAi2 := dX ((rL c).take (k + 1));unfold Q0 at hA;generalize c.bs.getD k (0,0,0) = bx at *;obtain ⟨lot,cnt,ta⟩ := bx;dsimp only at *;generalize hG : gZ ((rL c).take k) = A at *
    (repeat' (first|refine wS ?_|refine wB ?_|refine wK ?_|(refine wC rfl ?_ ?_<;>(intro hb;(try simp only [nm] at hb);try (exfalso;omega)))|(refine rg 5 (vV (aN rfl rfl) ?_))|(refine rg 6 (mW rfl (vV (ix T rfl (by omega) (pY _) qb) (lW T rfl (bS (bH T rfl) rfl (aW rfl (aR T rfl rfl rfl rfl rfl rfl (by decide) rfl ?_)))))))|refine nZ ?_));all_goals try (exfalso;omega)
    refine fJ 12 (cs := [.i lot,.i cnt,.i ta]) rfl rfl rfl ?_
    (repeat' (first|(refine rg 7 (mW rfl (bS (by exact bC T rfl rfl (by decide) (by decide) rfl rfl rfl) rfl ?_));refine kM 44 rfl rfl rfl rfl ?_;refine iX T rfl (iX T rfl (vV (bF rfl rfl (by omega) (by omega)) (vV (by exact eH T rfl rfl rfl rfl) ?_)));refine bS (by exact bC T rfl rfl (by decide) (by decide) rfl rfl rfl) rfl ?_;refine kM 51 rfl rfl rfl rfl ?_;refine vV (by exact eH T rfl rfl rfl rfl) ?_;refine bS (bH T rfl) rfl (aR T rfl rfl rfl rfl rfl rfl (by decide) rfl ?_))|refine nZ ?_));all_goals try (exfalso;omega)
    refine fJ 13 (cs := wA ([(k : Int)],0,[(cnt,cnt + 1)])) rfl rfl rfl ?_;refine eM [(10,.ptr 0 0),(36,.rowE (gJ c.bs) 3),(37,.i (gJ c.bs).length),(38,.i k),(11,.i k),(13,.pr (wA ([(k : Int)],0,[(cnt,cnt + 1)])) 0)] [.cells (TK c (.sl 1 0 k 2)),.arr A 2] ⟨[0,1],rfl,(by repeat first|exact trivial|refine ⟨rfl,?_⟩),⟨.inr rfl,.inr (aG rfl rfl hAi),trivial⟩,by decide,jJ _⟩ ?_
    (repeat' (first|(refine pZ (id := 8) 69 [[],[],[1],[1,2],[1,2,3],[],[5],[],[7],rM 5 4,rM 5 5,rM 1 10,rN 12,rN 13,rN 14] (rM 53 14) [[],[53],[53],[53],[53],rM 53 5,rM 53 5,rM 53 7,rM 53 7,rM 53 5,rM 53 5,[53],[],[],[]] [(11,1),(14,0)] cM rfl (by decide +kernel) (eT rfl rfl rfl rfl (by exact bU rfl) ?_);refine eT rfl rfl rfl rfl (by exact bU rfl) ?_;refine eT rfl rfl rfl rfl (by exact dR rfl rfl) ?_;refine eT rfl rfl rfl rfl (by exact bV T rfl rfl rfl) ?_;refine eT rfl rfl rfl rfl (by exact aS T rfl rfl rfl rfl) ?_;refine eT rfl rfl rfl rfl (by exact bU rfl) ?_;refine F4 rfl rfl rfl rfl (by exact bC T rfl rfl (by decide) (by decide) rfl rfl rfl) rfl ?_;refine eT rfl rfl rfl rfl (by exact aS T rfl rfl rfl rfl) ?_;refine F4 rfl rfl rfl rfl (by exact bC T rfl rfl (by decide) (by decide) rfl rfl rfl) rfl ?_;refine eT rfl rfl rfl rfl (by exact eH T rfl rfl rfl rfl) ?_;refine F4 rfl rfl rfl rfl (by exact bC T rfl rfl (by decide) (by decide) rfl rfl rfl) rfl ?_;refine vP rfl rfl rfl rfl (aM rfl) (by exact qA T rfl rfl rfl rfl rfl rfl (by omega) (kE.whole rfl rfl) rfl (by simp;omega) (by simp;omega)) ?_;refine eT rfl rfl rfl rfl (by exact dR rfl rfl) ?_;refine eT rfl rfl rfl rfl (by exact bV T rfl rfl rfl) ?_;refine Z9 rfl rfl rfl rfl (aM rfl) T rfl rfl rfl rfl rfl rfl (by decide) rfl ?_;refine wV rfl rfl rfl (by exact rfl) ?_)|refine nZ ?_));all_goals try (exfalso;omega)
    show AW _ _ _ _ _ _;refine eM [(10, .ptr 0 0), (36, .rowE (gJ c.bs) 3), (37, .i (gJ c.bs).length), (38, .i k)] [.cells (TK c (.sl 3 0 (k + 1) 2)), .arr (ints [(k : Int)]) 1, .arr (eW [([(k : Int)], 0, [(cnt, cnt + 1)])]) 3, .arr (A ++ [[.sl 1 0 1 1, .sl 2 0 1 3]]) 2]
      ⟨[0,2,3,5],rfl,(by repeat first|exact trivial|refine ⟨rfl,?_⟩),⟨.inr rfl,.inr rfl,.inr rfl,.inr (XT rfl (by rw [nC];exact cF (by omega)) rfl hAi),trivial⟩,by decide,jJ _⟩ ?_
    have hE : ∀ (x y : AV) (e : List AV),e ∈ A ++ [[x,y]] → e.length = 2 := fun x y e he => by
      rcases bQ.1 he with he | he
      · exact hA3 e he
      · rw [dS.1 he];rfl
    refine EC 3 A.flatten.length (A ++ [[.rowE (ints [(k : Int)]) 1,.sl 2 0 1 3]]) rfl (by decide) (by simp) UI rfl rfl rfl (hE _ _) UG ?_
    refine EC 3 (A.flatten.length + 1) (A ++ [[.rowE (ints [(k : Int)]) 1,.rowE (eW [([(k : Int)],0,[(cnt,cnt + 1)])]) 3]]) rfl (by decide) (by simp) UH rfl rfl rfl (hE _ _) UF ?_
    (repeat' (first|(refine rg 9 (vV (bF rfl rfl (by omega) (by omega)) (mV ?_)))|refine nZ ?_));all_goals try (exfalso;omega)
    exact ⟨⟨k + 1,hlt⟩,by dsimp only;omega,⟨[0,3],rfl,(by repeat first|exact trivial|refine ⟨rfl,?_⟩),⟨.inr rfl,.inr (aG rfl (by dsimp only;rw [hA]) hAi2),trivial⟩,by decide,jJ _⟩⟩
  · obtain rfl : k = c.bs.length := by omega
    rw [← hNl,cO,hNl];refine lX 0 7 (es := gZ (rL c)) rfl rfl rfl (by rw [gY,hNl]) (gI (dX _)) ?_
    (repeat' (first|refine wS ?_|refine wR ?_|refine wE ?_|(refine wC rfl ?_ ?_<;>(intro hb;(try simp only [nm] at hb);try (exfalso;omega)))|(refine rg 5 (vV (aN rfl rfl) ?_))|(refine rg 10 (mW rfl (pG ?_)))|refine nZ ?_));all_goals try (exfalso;omega)
    all_goals exact ⟨.inl rfl,[0],_,rfl,rfl,rfl,⟨.inr rfl,trivial⟩,by decide,jJ _⟩
end Go.Proofs.YtbialaoigijlgaaGreatDoor
namespace Go.Ld
open Go.Ab Go.Proofs.YtbialaoigijlgaaGreatDoor
def c0 : Cx := ⟨1,1,0,0,[(⟨#[110,117,116]⟩,10)],[(0,0,false),(0,0,false),(0,0,false)],[(0,5,0),(1,3,0),(2,2,0)]⟩
theorem DZ : D4 c0 := ⟨⟨by decide,by decide,by decide,by decide,by decide,by decide,by decide,by decide,by decide⟩,by unfold sS c0;decide⟩
theorem MB {c : Cx} (hc : D4 c) : IQ c.ks c.ls (nats (List.range c.bs.length)) c.bs :=
  ⟨hc.f.len,fun i hi => vH.2 ⟨by omega,by simp at hi;omega⟩,hc.f.k,hc.f.l,hc.f.b⟩
end Go.Ld
namespace Go.Proofs.YtbialaoigijlgaaGreatDoor
open Go Go.Ab Go.Ld
attribute [local irreducible] VC AW bT aQ jI
set_option maxHeartbeats 4000000
theorem TU (n : Nat) (h : n ≤ 17592186043904) : aQ Tryz.prog 14 [.i (n : Int)] [] (.rowE (ints (nats (List.range n))) 1) [] := by
  have h1 := TT (n : Int) (by omega)
  rw [bR] at h1;exact nT (by simp) (gI (bO _)) h1
theorem OF (c : Cx) (hc : D4 c) : aQ Tryz.prog 6 [.agg [.i c.m,.i c.st,.i c.er,.i c.sl],.rowE (lS c.ks) 2,.rowE (qI c.ls) 3,.rowE (gJ c.bs) 3] [] (.tup [.ptr 0 0,.i 0]) [.cells (fQ c (rL c))] := by
  have hbl : (gJ c.bs).length = c.bs.length := bN _;have h8 := hc.f.n8;have h9 := hc.f.k10;have h10 := hc.f.l10;have hnl : (nats (List.range c.bs.length)).length = c.bs.length := by simp
  refine ZP c hc ?_ (W4 (MB hc) (by omega) (by omega) (by omega))
  rw [hbl];exact TU _ (by omega)
theorem TW : aQ Tryz.prog 20 [] [] (.ptr 0 0) [.cells (fQ c0 (rL c0))] := by
  have hn := OF c0 DZ;change aQ _ _ [.agg [.i 1,.i 1,.i 0,.i 0],.rowE [[.v (.string ⟨#[110,117,116]⟩),.i 10]] 2,.rowE [[.i 0,.i 0,.b false],[.i 0,.i 0,.b false],[.i 0,.i 0,.b false]] 3,.rowE [[.i 0,.i 5,.i 0],[.i 1,.i 3,.i 0],[.i 2,.i 2,.i 0]] 3] _ _ _ at hn;generalize hL : fQ c0 (rL c0) = L at *;have hLi : AV.idfL L = true := by rw [← hL];rfl
  refine bK T Tryz.func20 rfl rfl rfl rfl ?_
  (repeat' (first|refine wS ?_|(refine rg 0 (aV ?_))|(refine rg 1 (vV (by exact eH T rfl rfl rfl rfl) ?_);refine bS (by exact bC T rfl rfl (by decide) (by decide) rfl rfl rfl) rfl ?_;refine kM 7 rfl rfl rfl rfl ?_;refine aV ?_)|(refine rg 2 (vV (by exact eH T rfl rfl rfl rfl) ?_);refine vV (by exact eH T rfl rfl rfl rfl) ?_;refine vV (by exact eH T rfl rfl rfl rfl) ?_;refine bS (by exact bC T rfl rfl (by decide) (by decide) rfl rfl rfl) rfl ?_;refine kM 11 rfl rfl rfl rfl ?_;refine aV ?_)|(refine rg 3 (vV (by exact eH T rfl rfl rfl rfl) ?_);refine vV (by exact eH T rfl rfl rfl rfl) ?_;refine vV (by exact eH T rfl rfl rfl rfl) ?_;refine bS (by exact bC T rfl rfl (by decide) (by decide) rfl rfl rfl) rfl ?_;refine kM 15 rfl rfl rfl rfl ?_;refine aV ?_)|refine nZ ?_));all_goals try (exfalso;omega)
  (repeat' (first|refine wS ?_|refine wK ?_|refine wR ?_|refine wU ?_|(refine rg 4 (vV (by exact eH T rfl rfl rfl rfl) ?_);refine eG rfl (mW rfl (bS (by exact fM rfl rfl hn (.inr ⟨rfl,rfl,by simp⟩)) rfl ?_));refine mW rfl (xW rfl (xW rfl (pG ?_))))|(refine rg 5 (mW rfl (vV (fL rfl rfl) ?_)))|(refine rg 7 (mW rfl (aV ?_)))|refine nZ ?_));all_goals try (exfalso;omega)
  exact ⟨.inl rfl,[3],_,rfl,rfl,rfl,⟨.inr (by show some (AB.cells (AV.mapL _ L)) = some (AB.cells (AV.mapL _ L));rw [mU _ L hLi,mU _ L hLi]),trivial⟩,by decide,jJ _⟩
end Go.Proofs.YtbialaoigijlgaaGreatDoor
namespace Go.Ld
open Go.Ab Go.Proofs.YtbialaoigijlgaaGreatDoor
def e1 : Ev := ⟨4,0,1,0,[]⟩
def e2 : Ev := ⟨0,0,0,0,[1]⟩
def XH : List G := rL c0
def F3 : List G := (qG c0 XH e1).2
def LU : List G := (qG c0 F3 e2).2
def DE : List G := (qG c0 LU e2).2
theorem zG0 : oQ c0 XH := OD DZ (by decide) (by decide)
theorem WU : oQ c0 F3 := K2 zG0 (by decide) (by decide)
theorem zD7 : oQ c0 LU := K2 WU (by decide) (by decide)
theorem zC0 : oQ c0 DE := K2 zD7 (by decide) (by decide)
theorem x0 : (qG c0 XH e1).1 = 0 := by decide +kernel
theorem x1 : (qG c0 F3 e2).1 = 0 := by decide +kernel
theorem x2 : (qG c0 LU e2).1 = 0 := by decide +kernel
theorem zC2 : qL F3 0 = some (mP F3 0,0) := by kernel_rfl
theorem zI3 : qL F3 2 = some (mP F3 1,0) := by kernel_rfl
theorem zI2 : qL LU 0 = some (mP LU 0,0) := by kernel_rfl
theorem zE2 : qL DE 0 = some (mP DE 0,0) := by kernel_rfl
theorem zI5 : (mP F3 0).1 = [0,1] := by decide +kernel
theorem zI4 : (mP DE 0).1 = [0] := by decide +kernel
theorem zB9 : lN (mP F3 0) 0 = [0,1] := by unfold lN;rw [nH];decide +kernel
theorem zD6 : lN (mP F3 1) 0 = [2] := by unfold lN;rw [nH];decide +kernel
theorem zH0 : (ZY (lN (mP LU 0) 0)).2 = false := by unfold lN;rw [nH];decide +kernel
theorem zB8 : lN (mP DE 0) 0 = [1] := by unfold lN;rw [nH];decide +kernel
theorem zF7 : CE (mP F3 0) 0 = (3,6) := by decide +kernel
theorem zG9 : CE (mP F3 1) 0 = (2,3) := by decide +kernel
theorem zG8 : CE (mP DE 0) 0 = (3,4) := by decide +kernel
theorem a3 : zC3 c0 DE [1,0,2] [5,3,2] = true := by unfold zC3 Go.Pm.permB;rw [nH];decide +kernel
end Go.Ld
namespace Go.Proofs.YtbialaoigijlgaaGreatDoor
open Go Go.Ab Go.Ld
attribute [local irreducible] VC AW bT aQ jI
set_option maxHeartbeats 4000000
theorem FD (a b : List Int) (ha : a.length ≤ 9223372036854775807) : aQ Tryz.prog 13 [.rowE (ints a) 1,.rowE (ints b) 1] [] (.b (decide (a = b))) [] := by
  have hal : (ints a).length = a.length := by simp
  have hbl : (ints b).length = b.length := by simp
  by_cases hl : a.length = b.length
  · refine bK T Tryz.func13 rfl rfl rfl rfl ?_
    (repeat' (first|refine wS ?_|refine wB ?_|refine wK ?_|(refine wC rfl ?_ ?_<;>(intro hb;(try simp only [nm] at hb);try (exfalso;omega)))|(refine rg 0 (aV ?_))|(refine rg 1 (mW rfl (qW T rfl (mW rfl (qW T rfl (vV (fL rfl rfl) ?_))))))|(refine rg 3 (aV ?_))|refine nZ ?_));all_goals try (exfalso;omega)
    refine cT (X := {i : Nat // i ≤ a.length ∧ a.take i = b.take i}) (fun i => [(0,.rowE (ints a) 1),(1,.rowE (ints b) 1),(5,.i i.1)]) (fun _ => []) (fun i => a.length - i.1) ⟨0,by omega,rfl⟩ (gO []) ?_
    rintro ⟨i,hi,hg⟩;dsimp only;by_cases hlt : i < a.length
    · have q1 := lU (l := a) (k := i) hlt;have q2 := lU (l := b) (k := i) (by omega)
      by_cases e : a[i] = b[i]
      · (repeat' (first|refine wS ?_|refine wB ?_|refine wK ?_|(refine wC rfl (fun hb => ?_) (fun hb => ?_) <;> (((try simp only [nm] at hb);try (exfalso;omega))))|(refine rg 4 (eG rfl (qW T rfl (vV (aN rfl rfl) ?_))))|(refine cK (id := 6) 26 zM6 (rM 17 9) zM7 cM rfl (by decide +kernel) (dN rfl (dN rfl (dV rfl (ix T rfl (by omega) (cP a) q1) (dO T rfl (dN rfl (dN rfl (dV rfl (ix T rfl (by omega) (cP b) q2) (dO T rfl (dV rfl (fL rfl rfl) ?_)))))))));refine dE ?_)|(refine iA 5 rfl rfl rfl (by omega) (by omega) ?_)|(refine nZ ?_)));all_goals try (exfalso;omega)
        refine ⟨⟨i + 1,hlt,?_⟩,by dsimp only;omega,gO []⟩
        rw [aO hlt,aO (by omega),hg,e]
      · rw [show decide (a = b) = false from decide_eq_false (fun h => e (by subst h;rfl))]
        (repeat' (first|refine wS ?_|refine wB ?_|refine wK ?_|refine wR ?_|(refine wC rfl ?_ ?_<;>(intro hb;(try simp only [nm] at hb);try (exfalso;omega)))|(refine rg 4 (eG rfl (qW T rfl (vV (aN rfl rfl) ?_))))|(refine cK (id := 6) 26 zM6 (rM 17 9) zM7 cM rfl (by decide +kernel) (dN rfl (dN rfl (dV rfl (ix T rfl (by omega) (cP a) q1) (dO T rfl (dN rfl (dN rfl (dV rfl (ix T rfl (by omega) (cP b) q2) (dO T rfl (dV rfl (fL rfl rfl) ?_)))))))));refine dE ?_)|(refine rg 7 (aV ?_))|refine nZ ?_));all_goals first | (exfalso;omega) | exact rQ
    · rw [cF (by omega),cF (by omega)] at hg
      rw [show decide (a = b) = true from decide_eq_true hg]
      (repeat' (first|refine wS ?_|refine wR ?_|refine wE ?_|(refine wC rfl ?_ ?_<;>(intro hb;(try simp only [nm] at hb);try (exfalso;omega)))|(refine rg 4 (eG rfl (qW T rfl (vV (aN rfl rfl) ?_))))|(refine rg 8 (aV ?_))|refine nZ ?_));all_goals first | (exfalso;omega) | exact rQ
  · rw [show decide (a = b) = false from decide_eq_false (fun h => hl (by rw [h]))]
    refine bK T Tryz.func13 rfl rfl rfl rfl ?_
    (repeat' (first|refine wS ?_|refine wR ?_|(refine wC rfl ?_ ?_<;>(intro hb;(try simp only [nm] at hb);try (exfalso;omega)))|(refine rg 0 (aV ?_))|(refine rg 1 (mW rfl (qW T rfl (mW rfl (qW T rfl (vV (fL rfl rfl) ?_))))))|(refine rg 2 (aV ?_))|refine nZ ?_));all_goals first | (exfalso;omega) | exact rQ
theorem O7 {S : Nat → Prop} {w : World} {ρ : Pl} {a b d e : AV} {y : Value} (h : R S w (.agg [a,b,d,e,.nils]) ρ y) : R S w (.agg [a,b,d,e,.rowE [] 1]) ρ y := by
  simp only [R] at h ⊢;obtain ⟨ys,e1,h1⟩ := h;exact ⟨ys,e1,gB (fun _ h => h) (fun _ => gB (fun _ h => h) fun _ => gB (fun _ h => h) fun _ => gB (fun _ h => h) fun _ => gB (fun _ h => yB h) fun _ h => h) h1⟩
theorem WQ : aQ Tryz.prog 8 [.ptr 0 0,.agg [.i 4,.i 0,.i 1,.i 0,.nils]] [.cells (fQ c0 XH)] (.i 0) [.cells (fQ c0 F3)] := by
  have h := CB c0 XH e1 DZ zG0 (by decide)
  rw [x0] at h;exact wZ h fun S w ρ ys => gB (fun _ h => h) fun ys => gB (fun _ h => O7 h) fun _ h => h
theorem WP : aQ Tryz.prog 8 [.ptr 0 0,.agg [.i 0,.i 0,.i 0,.i 0,.rowE [[.i 1]] 1]] [.cells (fQ c0 F3)] (.i 0) [.cells (fQ c0 LU)] := by
  have h := CB c0 F3 e2 DZ WU (by decide)
  rw [x1] at h;exact h
theorem WO : aQ Tryz.prog 8 [.ptr 0 0,.agg [.i 0,.i 0,.i 0,.i 0,.rowE [[.i 1]] 1]] [.cells (fQ c0 LU)] (.i 0) [.cells (fQ c0 DE)] := by
  have h := CB c0 LU e2 DZ zD7 (by decide)
  rw [x2] at h;exact h
theorem NI : aQ Tryz.prog 9 [.pr (fQ c0 F3) 0,.i 0] [] (.sl 0 0 2 1) [.arr [[.i 0],[.i 1]] 1] := by
  have h := zJ c0 F3 0 WU zC2;rw [zI5] at h;exact h
theorem NH : aQ Tryz.prog 9 [.pr (fQ c0 DE) 0,.i 0] [] (.sl 0 0 1 1) [.arr [[.i 0]] 1] := by
  have h := zJ c0 DE 0 zC0 zE2;rw [zI4] at h;exact h
theorem SX : aQ Tryz.prog 11 [.pr (fQ c0 F3) 0,.i 0] [] (.sl 0 0 2 1) [.arr [[.i 0],[.i 1]] 1] := by
  have h := W9 c0 F3 0 WU zC2;rw [zB9] at h;exact h
theorem ND : aQ Tryz.prog 21 [.pr (fQ c0 F3) 0,.i 0] [] (jT 3 6) [] := by
  have h := HG c0 F3 0 WU zC2;rw [zF7] at h;exact h
theorem NG : aQ Tryz.prog 22 [.pr (fQ c0 F3) 0,.i 0,.i 0] [] (.i 0) [] := by
  have h := M2 c0 F3 0 0 WU zC2 (by rw [zB9];decide) (by rw [zB9];decide)
  rw [zB9,zF7] at h;exact h
theorem NF : aQ Tryz.prog 22 [.pr (fQ c0 F3) 0,.i 2,.i 2] [] (.i 2) [] := by
  have h := M2 c0 F3 2 2 WU zI3 (by rw [zD6];decide) (by rw [zD6];decide)
  rw [zD6,zG9] at h;exact h
theorem NE : aQ Tryz.prog 22 [.pr (fQ c0 DE) 0,.i 0,.i 1] [] (.i 3) [] := by
  have h := M2 c0 DE 0 1 zC0 zE2 (by rw [zB8];decide) (by rw [zB8];decide)
  rw [zB8,zG8] at h;exact h
theorem ZI : ∃ v : Int,aQ Tryz.prog 12 [.pr (fQ c0 LU) 0,.i 0] [] (.tup [.i v,.b false]) [] := by
  have h := xP c0 LU 0 zD7 zI2;rw [zH0] at h;exact ⟨_,h⟩
theorem ZH : aQ Tryz.prog 12 [.pr (fQ c0 DE) 0,.i 0] [] (.tup [.i 1,.b true]) [] := by
  have h := xP c0 DE 0 zC0 zE2;rw [zB8] at h;exact h
theorem NJ : aQ Tryz.prog 23 [.pr (fQ c0 DE) 0,.rowE [[.i 1],[.i 0],[.i 2]] 1,.rowE [[.i 5],[.i 3],[.i 2]] 1] [] (.b true) [] := by
  have h := LM c0 DE [1,0,2] [5,3,2] zC0 (by decide) (by decide) (by decide)
  rw [a3] at h;exact h
theorem ZJ : Tryz.prog.underlying 26 = some (.pointer 70) := by kernel_rfl
theorem R8 : aQ Tryz.prog 5 [] [] (.b true) [] := by
  have hgv := TW;change aQ _ _ _ _ _ [.cells (fQ c0 XH)] at hgv;have s1 := WQ;have s2 := WP;have s3 := WO;have k1 := NI;have k2 := SX;have k3 := ND;have k4 := NG;have k5 := NF;obtain ⟨v,k6⟩ := ZI;have k7 := ZH;have k8 := NE;have k9 := NH;have k10 := NJ;generalize XH = G0 at *;generalize F3 = G1 at *;generalize LU = G2 at *;generalize DE = G3 at *;have t1 := FD [0,1] [0,1] (by decide)
  rw [show decide (([0,1] : List Int) = [0,1]) = true from rfl] at t1
  have t2 := FD [0] [0] (by decide)
  rw [show decide (([0] : List Int) = [0]) = true from rfl] at t2
  refine bK T Tryz.func5 rfl rfl rfl rfl ?_
  (repeat' (first|refine wS ?_|(refine rg 0 (aV ?_))|(refine rg 1 (bS (by exact fM rfl rfl hgv (.inr ⟨rfl,rfl,by simp⟩)) rfl ?_);refine aV ?_)|refine nZ ?_));refine eM [(1,.ptr 0 0)] [.cells (fQ c0 G0)] ⟨[0],rfl,(by repeat first|exact trivial|refine ⟨rfl,?_⟩),⟨.inr rfl,trivial⟩,by decide,jJ _⟩ ?_
  (repeat' (first|refine wS ?_|refine wK ?_|refine wU ?_|(refine rg 2 (mW rfl (vV (by exact xT ZJ rfl rfl rfl) ?_)))|(refine rg 4 (mW rfl (vV (by exact eH T rfl rfl rfl rfl) ?_));refine dW [0] rfl rfl (s1) rfl rfl (by decide) ⟨.inr rfl,trivial⟩ (by simp) rfl ?_;refine aV ?_)|refine nZ ?_));all_goals try (exfalso;omega)
  refine eM [(1,.ptr 0 0),(2,.i 0)] [.cells (fQ c0 G1)] ⟨[0],rfl,(by repeat first|exact trivial|refine ⟨rfl,?_⟩),⟨.inr rfl,trivial⟩,by decide,jJ _⟩ ?_
  (repeat' (first|refine wS ?_|(refine rg 5 (mW rfl (bS (by exact fM rfl rfl k1 (.inl ⟨.cons (.ptr rfl (eR _ rfl)) (.cons (.v _) .nil),rfl⟩)) rfl ?_));refine kM 17 rfl rfl rfl rfl ?_;refine bS (by exact bC T rfl rfl (by decide) (by decide) rfl rfl rfl) rfl ?_;refine kM 18 rfl rfl rfl rfl ?_;refine vV (kC (t1)) (mW rfl (yN rfl (gT (bS (by exact fM rfl rfl k2 (.inl ⟨.cons (.ptr rfl (eR _ rfl)) (.cons (.v _) .nil),rfl⟩)) rfl ?_))));refine kM 22 rfl rfl rfl rfl ?_;refine gT (bS (by exact bC T rfl rfl (by decide) (by decide) rfl rfl rfl) rfl ?_);refine kM 23 rfl rfl rfl rfl ?_;refine yV (kC (t1)) (pW rfl (mW rfl (yN rfl (yV (by exact eI rfl rfl k3 (.cons (.ptr rfl (eR _ rfl)) (.cons (.v _) .nil)) rfl rfl) ?_))));refine yV (by exact eH T rfl rfl rfl rfl) ?_;refine yV (UE VR rfl rfl) (pW rfl (mW rfl (yN rfl (yV (by exact eI rfl rfl k4 (.cons (.ptr rfl (eR _ rfl)) (.cons (.v _) (.cons (.v _) .nil))) rfl rfl) ?_))));refine yV (fC rfl rfl) (pW rfl (mW rfl (yN rfl (yV (by exact eI rfl rfl k5 (.cons (.ptr rfl (eR _ rfl)) (.cons (.v _) (.cons (.v _) .nil))) rfl rfl) ?_))));refine yV (fC rfl rfl) (pW rfl (aV ?_)))|refine nZ ?_));all_goals try (exfalso;omega)
  refine eM [(1,.ptr 0 0),(2,.i 0),(3,.b true)] [.cells (fQ c0 G1)] ⟨[0],rfl,(by repeat first|exact trivial|refine ⟨rfl,?_⟩),⟨.inr rfl,trivial⟩,by decide,jJ _⟩ ?_
  (repeat' (first|refine wS ?_|(refine rg 6 (mW rfl (bS (by exact bC T rfl rfl (by decide) (by decide) rfl rfl rfl) rfl ?_));refine kM 43 rfl rfl rfl rfl ?_;refine vV (by exact eH T rfl rfl rfl rfl) ?_;refine dW [0] rfl rfl (s2) rfl rfl (by decide) ⟨.inr rfl,trivial⟩ (by simp) rfl ?_;refine aV ?_)|refine nZ ?_));all_goals try (exfalso;omega)
  refine eM [(1,.ptr 0 0),(2,.i 0),(3,.b true),(4,.i 0)] [.cells (fQ c0 G2)] ⟨[0],rfl,(by repeat first|exact trivial|refine ⟨rfl,?_⟩),⟨.inr rfl,trivial⟩,by decide,jJ _⟩ ?_
  (repeat' (first|refine wS ?_|(refine rg 7 (mW rfl (vV (by exact eI rfl rfl k6 (.cons (.ptr rfl (eR _ rfl)) (.cons (.v _) .nil)) rfl rfl) ?_));refine mW rfl (xW rfl (xW rfl (pG ?_))))|refine nZ ?_));all_goals try (exfalso;omega)
  refine eM [(1,.ptr 0 0),(2,.i 0),(3,.b true),(4,.i 0),(6,.b false)] [.cells (fQ c0 G2)] ⟨[0],rfl,(by repeat first|exact trivial|refine ⟨rfl,?_⟩),⟨.inr rfl,trivial⟩,by decide,jJ _⟩ ?_
  (repeat' (first|refine wS ?_|(refine rg 8 (mW rfl (bS (by exact bC T rfl rfl (by decide) (by decide) rfl rfl rfl) rfl ?_));refine kM 52 rfl rfl rfl rfl ?_;refine vV (by exact eH T rfl rfl rfl rfl) ?_;refine dW [0] rfl rfl (s3) rfl rfl (by decide) ⟨.inr rfl,trivial⟩ (by simp) rfl ?_;refine aV ?_)|refine nZ ?_));all_goals try (exfalso;omega)
  refine eM [(1,.ptr 0 0),(2,.i 0),(3,.b true),(4,.i 0),(6,.b false),(7,.i 0)] [.cells (fQ c0 G3)] ⟨[0],rfl,(by repeat first|exact trivial|refine ⟨rfl,?_⟩),⟨.inr rfl,trivial⟩,by decide,jJ _⟩ ?_
  (repeat' (first|refine wS ?_|(refine rg 9 (mW rfl (vV (by exact eI rfl rfl k7 (.cons (.ptr rfl (eR _ rfl)) (.cons (.v _) .nil)) rfl rfl) ?_));refine mW rfl (xW rfl (xW rfl (pG ?_))))|refine nZ ?_));all_goals try (exfalso;omega)
  refine eM [(1,.ptr 0 0),(2,.i 0),(3,.b true),(4,.i 0),(6,.b false),(7,.i 0),(8,.i 1),(9,.b true)] [.cells (fQ c0 G3)] ⟨[0],rfl,(by repeat first|exact trivial|refine ⟨rfl,?_⟩),⟨.inr rfl,trivial⟩,by decide,jJ _⟩ ?_
  (repeat' (first|refine wR ?_|(refine rg 10 (mW rfl (vV (fC rfl rfl) (mW rfl (yN rfl (pW rfl (mW rfl (yN rfl (yV (fC rfl rfl) (pV ?_)))))))));refine mW rfl (yN rfl (yV (fB rfl) (pW rfl (mW rfl (yN rfl (yV (fC rfl rfl) (pW rfl (mW rfl (yM ?_)))))))));refine pW rfl (mW rfl (yN rfl (yV (fC rfl rfl) (pW rfl (mW rfl (yN rfl (yV (by exact eI rfl rfl k8 (.cons (.ptr rfl (eR _ rfl)) (.cons (.v _) (.cons (.v _) .nil))) rfl rfl) ?_)))))));refine yV (fC rfl rfl) (pW rfl (mW rfl (yN rfl (gT (bS (by exact fM rfl rfl k9 (.inl ⟨.cons (.ptr rfl (eR _ rfl)) (.cons (.v _) .nil),rfl⟩)) rfl ?_)))));refine kM 91 rfl rfl rfl rfl ?_;refine gT (bS (by exact bC T rfl rfl (by decide) (by decide) rfl rfl rfl) rfl ?_);refine kM 92 rfl rfl rfl rfl ?_;refine yV (kC (t2)) (pW rfl (mW rfl (yN rfl (gT (bS (by exact bC T rfl rfl (by decide) (by decide) rfl rfl rfl) rfl ?_)))));refine kM 97 rfl rfl rfl rfl ?_;refine gT (bS (by exact bC T rfl rfl (by decide) (by decide) rfl rfl rfl) rfl ?_);refine kM 98 rfl rfl rfl rfl ?_;refine yV (by exact eI rfl rfl k10 (.cons (.ptr rfl (eR _ rfl)) (.cons (.row _ _ _) (.cons (.row _ _ _) .nil))) rfl rfl) ?_;refine pW rfl (aV ?_))|refine nZ ?_));all_goals try (exfalso;omega)
  all_goals exact rQ
end Go.Proofs.YtbialaoigijlgaaGreatDoor
namespace Go.Ld
open Go.Ab Go.Proofs.YtbialaoigijlgaaGreatDoor Go.Pm
end Go.Ld
namespace Go.Ld
open Go.Ab Go.Proofs.YtbialaoigijlgaaGreatDoor
end Go.Ld
namespace Go.Proofs.YtbialaoigijlgaaGreatDoor
open Go Go.Ab Go.Ld
attribute [local irreducible] VC AW bT aQ jI
set_option maxHeartbeats 4000000
end Go.Proofs.YtbialaoigijlgaaGreatDoor
namespace Go.Proofs.YtbialaoigijlgaaGreatDoor
open Go Go.Ab
attribute [local irreducible] VC AW bT aQ
set_option maxHeartbeats 4000000
end Go.Proofs.YtbialaoigijlgaaGreatDoor
namespace Go.Ld
open Go.Ab Go.Proofs.YtbialaoigijlgaaGreatDoor
structure PQ (c : Cx) (p q : List Int) : Prop where
  pl : p.length = c.bs.length
  ql : q.length = c.bs.length
  pp : p.Perm (nats (List.range c.bs.length))
  q0 : ∀ x,x ∈ q → 0 ≤ x ∧ x ≤ 20000
theorem PQ.at {c : Cx} {p q : List Int} (h : PQ c p q) {b : Int} (h0 : 0 ≤ b) (h1 : b < c.bs.length) : 0 ≤ p.getD b.toNat 0 ∧ p.getD b.toNat 0 < c.bs.length := by
  have hl := h.pl;have hm : p.getD b.toNat 0 ∈ p := by rw [aC,aB (by omega)];exact aK _
  exact vH.1 (h.pp.mem_iff.1 hm)
theorem PQ.inj {c : Cx} {p q : List Int} (h : PQ c p q) {a b : Int} (h0 : 0 ≤ a) (h1 : a < c.bs.length) (h2 : 0 ≤ b) (h3 : b < c.bs.length) (e : p.getD a.toNat 0 = p.getD b.toNat 0) : a = b := by
  have hl := h.pl;have nd : p.Nodup := h.pp.nodup_iff.2 (Y0 _);rw [aC,aB (by omega),aC,aB (by omega)] at e
  have := (List.getElem_inj nd).1 e;omega
theorem PQ.ct {c : Cx} {p q : List Int} (h : PQ c p q) {x : Int} (h0 : 0 ≤ x) (h1 : x < c.bs.length) : 0 ≤ q.getD x.toNat 0 ∧ q.getD x.toNat 0 ≤ 20000 := by
  have hl := h.ql;refine h.q0 _ ?_;rw [aC,aB (by omega)];exact aK _
theorem D4.box {c : Cx} (h : D4 c) {x : Int} (h0 : 0 ≤ x) (h1 : x < c.bs.length) : (0 ≤ (c.bs.getD x.toNat (0,0,0)).2.2 ∧ (c.bs.getD x.toNat (0,0,0)).2.2 ≤ 1073741824) ∧ (0 ≤ rX c.ks c.ls (c.bs.getD x.toNat (0,0,0)).1 ∧ rX c.ks c.ls (c.bs.getD x.toNat (0,0,0)).1 ≤ 1048576) := by
  have hx : x.toNat < c.bs.length := by omega
  have hb := h.f.b _ hx;have e : c.bs.getD x.toNat (0,0,0) = c.bs[x.toNat] := by rw [aC,aB hx];rfl
  rw [e];exact ⟨by omega,SC h.f hb.2.1⟩
theorem MV {c : Cx} {gs : List G} {s : Ev} (h : (qG c gs s).1 ≠ 0) : (qG c gs s).2 = gs := by
  have h2 : ∀ all,(H0 c gs all s).1 ≠ 0 → (H0 c gs all s).2 = gs := fun all h => by
    unfold H0 at h ⊢;dsimp only at h ⊢;split
    · rfl
    · rename_i h1;rw [if_neg h1] at h;split
      · rfl
      · rename_i h2;rw [if_neg h2] at h;split
        · rfl
        · rename_i h3;rw [if_neg h3] at h;exact absurd rfl h
  unfold qG at h ⊢;split
  · rename_i h1;rw [if_pos h1] at h;split
    · rename_i h3;rw [if_pos h3] at h;cases hj : join gs s.a s.b with
      | none => rfl
      | some all => rw [hj] at h;exact h2 all h
    · rename_i h3;rw [if_neg h3] at h;exact h2 gs h
  · rfl
end Go.Ld
namespace Go.Proofs.YtbialaoigijlgaaGreatDoor
open Go Go.Ab Go.Shelf Go.Proofs
shelf_lay LaysM.n246 Nm 246 at Tryz as laysFmt
theorem PF (n : Int) (h0 : -9223372036854775808 ≤ n) (h1 : n ≤ 9223372036854775807) : aQ Tryz.prog 138 [.i n,.i 10] [] (.s (Go.Lib.itoa n)) [] :=
  AP (name := "internal/strconv.uint64pow10") (gi := 0) (tab := Go.Lib.pow10Tab) ⟨_, Tryz.func138, by kernel_rfl, by kernel_rfl⟩ (fun n w h2 h3 h4 => Any.internal_strconv_FormatInt_10 laysFmt n h2 h3 w h4) (by kernel_rfl) (by unfold zK Go.Lib.pow10Tab; simp [yC, Function.comp_def]) n h0 h1 -- gi: the number of the table among the seat's variables (3 in 46z, 0 in 39z)
theorem VS : (Tryz.prog.info? 79).map (·.size) = some 2 := by kernel_rfl
theorem ZT : liesAt Tryz.prog Tryz.prog.depth 79 (2 / Tryz.prog.cellsOf 79) 0 79 1 = true := by kernel_rfl
theorem ZA : Tryz.prog.underlying 151 = some .unsafePointer := by kernel_rfl
theorem SD : Tryz.prog.underlying 76 = some (.pointer 79) := by kernel_rfl
set_option maxHeartbeats 1000000 in
set_option maxRecDepth 100000 in
theorem QA (b : Nat) (w : World) (h0 : w.cell? ⟨b,0,none⟩ = some (.pointer none)) (hsh : w.shape? b = some (79,2)) (hfz : w.frozen? ⟨b,0,none⟩ = false) :
    Calls Tryz.prog 69 #[.pointer (some ⟨b,0,none⟩)] w fun e w' => e = .returned (.tuple #[]) ∧ w' = w.setCell ⟨b,0,none⟩ (.pointer (some ⟨b,0,none⟩)) := by
  obtain ⟨j,hj,hjs⟩ := eP.1 VS
  go_enter Tryz.func69,Tryz.ntmps69
  go_wp2
  rw [Go.Lib.run_to_unsafe w ⟨b,0,none⟩ SD ZA hj (by rw [hjs];decide) hsh (Nat.zero_lt_succ 1)]
  simp only [Result.andThen];rw [Oper.upon_value]
  go_wp2
  rw [run_callFunc_extern Tryz.func106 (by kernel_rfl) (by kernel_rfl) (by kernel_rfl) (e := Extern.AbiNoEscape.same) (by kernel_rfl)]
  rw [Go.Lib.run_noEscape];simp only [Result.andThen];rw [Oper.upon_value]
  go_wp2
  rw [Go.Lib.run_from_unsafe w ⟨b,0,none⟩ ZA SD hj hsh ZT];simp only [Result.andThen];rw [Oper.upon_value]
  go_wp2
  go_end0
  exact ⟨rfl,rfl⟩
theorem LJ (x : AV) : aQ Tryz.prog 69 [.ptr 0 0] [.var 79 [.v (.pointer none),x]] (.tup []) [.cells [.ptr 0 0,x]] :=
  Q7 ⟨_,Tryz.func69,by kernel_rfl,by kernel_rfl⟩ (fun b w h1 h2 h3 => QA b w h1 h2 h3)
end Go.Proofs.YtbialaoigijlgaaGreatDoor
namespace Go.Proofs.YtbialaoigijlgaaGreatDoor
open Go Go.Ab
attribute [local irreducible] VC AW bT aQ
set_option maxHeartbeats 4000000
theorem VQ : GR Tryz.prog 9 := by unfold GR;kernel_rfl
theorem ZE : Tryz.prog.underlying 9 = some .string := by kernel_rfl
theorem zA8 : Tryz.prog.underlying 120 = some (.pointer 5) := by kernel_rfl
theorem zA9 : Tryz.prog.cellsOf 5 = 1 := by kernel_rfl
theorem zE1 : ∀ i : Nat,i < 2 → ([0,1,2] : List Nat)[i]? = some i := by decide
theorem zG2 : ∀ i : Nat,i < 2 → ([0,1] : List Nat)[i]? = some i := by decide
theorem QB (l : List UInt8) : aQ Tryz.prog 69 [.ptr 0 0] [.cells [.ptr 0 0,.sl 1 0 l.length 1],.buf 5 l] (.tup []) [.cells [.ptr 0 0,.sl 1 0 l.length 1],.buf 5 l] := by
  obtain ⟨j,hj,_⟩ := eP.1 VS;refine bK T Tryz.func69 rfl rfl rfl rfl ?_
  (repeat' (first|refine wS ?_|refine wK ?_|refine wU ?_|(refine rg 0 (mW rfl (nV ?_));refine iX T rfl (vV (by exact xT SD rfl rfl rfl) ?_))|(refine rg 2 (mW rfl (nV ?_));refine iX T rfl (mW rfl (vV (by exact FS SD hj rfl rfl) ?_)))|refine nZ ?_));all_goals exact ⟨.inr rfl,[0,1],_,rfl,rfl,rfl,⟨.inr rfl,.inr rfl,trivial⟩,by decide,zG2⟩
theorem H8 (l s : List UInt8) (hl : l.length + s.length ≤ 100000000000) : aQ Tryz.prog 29 [.ptr 0 0,.s s] [.cells [.ptr 0 0,.sl 1 0 l.length 1],.buf 5 l] (.tup [.i s.length,.v .nilIface]) [.cells [.ptr 0 0,.sl 2 0 (l.length + s.length) 1],.gone,.buf 5 (l ++ s)] := by
  refine bK T Tryz.func29 rfl rfl rfl rfl ?_
  (repeat' (first|refine wS ?_|refine wR ?_|(refine rg 0 (pG ?_))|(refine rg 1 (mW rfl (dW [0,1] rfl rfl (QB l) rfl rfl (by decide) ⟨.inr rfl,.inr rfl,trivial⟩ (by simp) rfl ?_)))|(refine rg 2 (eG rfl (nV ?_));refine iX T rfl (mW rfl (J5 T (e := 5) ZE rfl rfl rfl rfl rfl rfl rfl rfl (by omega) rfl ?_));refine nV ?_;refine fW T rfl (aR T rfl rfl rfl rfl rfl rfl (by decide) rfl ?_))|(refine rg 3 (mW rfl (vV (IC VQ rfl) (pG ?_))))|refine nZ ?_));all_goals exact ⟨.inl rfl,[0,1,2],_,rfl,rfl,rfl,⟨.inr rfl,.inl rfl,.inr rfl,trivial⟩,by decide,zE1⟩
theorem ZS : ∀ i : Nat,i < 1 → ([0,2] : List Nat)[i]? = some i := by decide
theorem BG (s : List UInt8) (hl : s.length ≤ 100000000000) : aQ Tryz.prog 29 [.ptr 0 0,.s s] [.var 79 [.v (.pointer none),.nils]] (.tup [.i s.length,.v .nilIface]) [.cells [.ptr 0 0,.sl 1 0 s.length 1],.buf 5 s] := by
  refine bK T Tryz.func29 rfl rfl rfl rfl ?_
  (repeat' (first|refine wS ?_|(refine rg 0 (pG ?_))|(refine rg 1 (mW rfl (dW [0] rfl rfl (LJ .nils) rfl rfl (by decide) ⟨.inr rfl,trivial⟩ (by simp) rfl ?_)))|refine nZ ?_));refine eM [(0,.ptr 0 0),(1,.s s)] [.cells [.ptr 0 0,.nils]] ⟨[0],rfl,(by repeat first|exact trivial|refine ⟨rfl,?_⟩),(by (repeat (first | exact trivial | refine ⟨Or.inl rfl,?_⟩ | refine ⟨Or.inr rfl,?_⟩))),by decide,Q3⟩ ?_
  refine VE 0 1 5 rfl rfl ?_;dsimp only [zI1,zI0,List.append_nil,zH9,zH8,zH7,zH6,zH5,zH4,iR,kV,kK,oP,BO,uT,D9,D7,D6,D8,uS,uV,uR,uU,Nat.zero_add,zH3,Nat.reduceAdd,zH2,zH1]
  repeat' (first|refine wS ?_|refine wR ?_|(refine rg 2 (eG rfl (nV ?_));refine iX T rfl (mW rfl (J5 T (e := 5) (lb := []) ZE rfl rfl rfl rfl rfl rfl rfl rfl (by simp;omega) rfl ?_));refine nV ?_;refine fW T rfl (aR T rfl rfl rfl rfl rfl rfl (by decide) rfl ?_))|(refine rg 3 (mW rfl (vV (IC VQ rfl) (pG ?_))))|refine nZ ?_)
  simp only [List.length_nil,Nat.zero_add,List.nil_append]
  all_goals exact ⟨.inl rfl,[0,2],_,rfl,rfl,rfl,⟨.inr rfl,.inr rfl,trivial⟩,by decide,ZS⟩
theorem BS (l : List UInt8) (h0 : l ≠ []) (hl : l.length ≤ 100000000000) : aQ Tryz.prog 33 [.ptr 0 0] [.cells [.ptr 0 0,.sl 1 0 l.length 1],.buf 5 l] (.s l) [.gone,.gone] := by
  have hpos : 0 < l.length := dZ.2 h0;refine bK T Tryz.func33 rfl rfl rfl rfl ?_
  (repeat' (first|refine wS ?_|refine wR ?_|(refine rg 0 (aV ?_))|(refine pZ (id := 1) 14 [[],[0],[0,1],[0,1,2],rN 4,[],[5],[5,6],[5,6,7],rM 5 4,rN 10] (rM 3 11) [[],[],[],[],[],rM 3 5,rM 3 5,rM 3 5,rM 3 5,rM 3 5,[]] [(10,1)] cM rfl (by decide +kernel) (eT rfl rfl rfl rfl (by exact bU rfl) ?_);refine eT rfl rfl rfl rfl (by exact dR rfl rfl) ?_;refine eT rfl rfl rfl rfl (by exact bV T rfl rfl rfl) ?_;refine eT rfl rfl rfl rfl (by exact aS T rfl rfl rfl rfl) ?_;refine eT rfl rfl rfl rfl (by exact Z0 rfl (by omega)) ?_;refine eT rfl rfl rfl rfl (by exact bU rfl) ?_;refine eT rfl rfl rfl rfl (by exact dR rfl rfl) ?_;refine eT rfl rfl rfl rfl (by exact bV T rfl rfl rfl) ?_;refine eT rfl rfl rfl rfl (by exact aS T rfl rfl rfl rfl) ?_;refine eT rfl rfl rfl rfl (by exact U0 T rfl rfl) ?_;refine XU rfl rfl rfl rfl (aM rfl) (by exact H4 zA8 zA9 rfl rfl rfl h0 (by omega) rfl) ?_;refine wV rfl rfl rfl (by exact rfl) ?_;refine aV ?_)|refine nZ ?_));all_goals exact ⟨.inl rfl,[0,1],_,rfl,rfl,rfl,⟨.inl rfl,.inl rfl,trivial⟩,by decide,zG2⟩
end Go.Proofs.YtbialaoigijlgaaGreatDoor
namespace Go.Proofs.YtbialaoigijlgaaGreatDoor
open Go Go.Ab
theorem KF {l : List Int} {k : Nat} (h : k < l.length) : (ints l)[k]? = some [AV.i l[k]] := by simp [h]
section
variable {P : Program} {env : dI} {h : Hp} {d : Option Nat} {ty : TypeId} {pos : String} {af : Array Edge} {g : Option (Nat × Bool)}
end
attribute [local irreducible] VC AW bT aQ
set_option maxHeartbeats 4000000
def P5 (n : Int) : Prop := -9223372036854775808 ≤ n ∧ n ≤ 9223372036854775807
theorem Y3 : ∀ (k u : Nat), u < 10 ^ (k + 1) → Go.Lib.nDigits u ≤ k + 1
  | 0,u,h => by rw [Go.Lib.nDigits_small (by simpa using h)];exact aX _
  | k + 1,u,h => by
    by_cases hu : u < 10
    · rw [Go.Lib.nDigits_small hu];omega
    · rw [Go.Lib.nDigits_big hu];have := Y3 k (u / 10) (by rw [Nat.div_lt_iff_lt_mul (by decide)];rw [Nat.pow_succ] at h;exact h)
      omega
theorem zC {n : Int} (h : P5 n) : (Go.Lib.itoa n).length ≤ 21 := by
  obtain ⟨h0,h1⟩ := h;unfold Go.Lib.itoa;split
  · rw [List.length_cons,Go.Lib.decDigits_length]
    have := Y3 19 n.natAbs (by have : (10 : Nat) ^ (19 + 1) = 100000000000000000000 := (by decide);omega)
    omega
  · rw [Go.Lib.decDigits_length]
    have := Y3 19 n.toNat (by have : (10 : Nat) ^ (19 + 1) = 100000000000000000000 := (by decide);omega)
    omega
def oH (n : Int) : List UInt8 := Go.Lib.itoa n ++ [59]
def xB (l : List Int) (k : Nat) : List UInt8 := Go.Lib.itoa l.length ++ [91] ++ ((l.take k).map oH).flatten
def oV (l : List Int) : List UInt8 := xB l l.length ++ [93]
theorem mX {n : Int} (h : P5 n) : (oH n).length ≤ 22 := by have := zC h;simp [oH];omega
theorem VI (l : List Int) (k : Nat) : xB l k ≠ [] := by simp [xB]
theorem LN {l : List Int} {k : Nat} (h : k < l.length) : xB l (k + 1) = xB l k ++ oH l[k] := by
  unfold xB;rw [aO h,cN,fO];simp
theorem EH {l : List Int} (hw : ∀ x,x ∈ l → P5 x) (hl : l.length ≤ 1000000) : ∀ k,(xB l k).length ≤ 22 + 22 * l.length := by
  intro k;unfold xB;have h1 := zC (n := (l.length : Int)) ⟨by omega,by omega⟩
  have h2 : ∀ m : List Int,(∀ x,x ∈ m → P5 x) → ((m.map oH).flatten).length ≤ 22 * m.length := by
    intro m
    induction m with
    | nil => intro _;simp
    | cons x m ih =>
      intro hm;have h3 := mX (hm x bB);have h4 := ih fun y hy => hm y (aY _ hy);simp only [List.map_cons,dU,aD,List.length_cons];omega
  have h3 := h2 (l.take k) fun x hx => hw x (eD hx);have h4 : (l.take k).length ≤ l.length := by rw [aU];omega
  simp only [aD,List.length_cons,List.length_nil];omega
theorem TP {n : Int} (h : P5 n) : aQ Tryz.prog 107 [.i n] [] (.s (Go.Lib.itoa n)) [] := by
  have hc := PF n h.1 h.2;refine bK T Tryz.func107 rfl rfl rfl rfl ?_
  (repeat' (first|refine wS ?_|refine wR ?_|(refine rg 0 (aV ?_))|(refine rg 1 (mW rfl (vV (kC (hc)) (aV ?_))))|refine nZ ?_));all_goals exact rQ
theorem ON {n : Int} (h : P5 n) : aQ Tryz.prog 71 [.i n] [] (.s (Go.Lib.itoa n)) [] := by
  have hc := TP h;refine bK T Tryz.func71 rfl rfl rfl rfl ?_
  (repeat' (first|refine wS ?_|refine wR ?_|(refine rg 0 (aV ?_))|(refine rg 1 (mW rfl (vV (kC (hc)) (aV ?_))))|refine nZ ?_));all_goals exact rQ
theorem J1 {n : Int} (h : P5 n) : aQ Tryz.prog 32 [.i n] [] (.s (oH n)) [] := by
  have hc := ON h;have hl := zC h;refine bK T Tryz.func32 rfl rfl rfl rfl ?_
  (repeat' (first|refine wS ?_|refine wR ?_|(refine rg 0 (aV ?_))|(refine rg 1 (mW rfl (vV (kC (hc)) (vV (tQ rfl rfl (by simp only [aD,List.length_cons,List.length_nil];omega)) ?_)));refine aV ?_)|refine nZ ?_));all_goals exact rQ
theorem WG {n : Int} (h : P5 n) (h0 : 0 ≤ n) : aQ Tryz.prog 31 [.i n] [] (.s (oH n)) [] := by
  have hc := J1 h;refine bK T Tryz.func31 rfl rfl rfl rfl ?_
  (repeat' (first|refine wS ?_|refine wK ?_|refine wR ?_|(refine wC rfl ?_ ?_<;>(intro hb;(try simp only [nm] at hb);try (exfalso;omega)))|(refine rg 0 (aV ?_))|(refine rg 1 (mW rfl (vV (aN rfl rfl) ?_)))|(refine rg 3 (mW rfl (vV (kC (hc)) (aV ?_))))|refine nZ ?_));all_goals first | (exfalso;omega) | exact rQ
theorem WX {l : List Int} (hw : ∀ x,x ∈ l → P5 x) (hl : l.length ≤ 1000000) : aQ Tryz.prog 70 [.rowE (ints l) 1,.clo (.func 32) [] []] [] (.s (oV l)) [] := by
  have hlen : (ints l).length = l.length := by simp
  have hI : P5 (l.length : Int) := ⟨by omega,by omega⟩
  have hc : aQ Tryz.prog 71 [.i (ints l).length] [] (.s (Go.Lib.itoa l.length)) [] := by rw [hlen];exact ON hI
  have hi := zC hI;have hbl := EH hw hl;have h00 : xB l 0 = Go.Lib.itoa l.length ++ [91] := by simp [xB]
  refine bK T Tryz.func70 rfl rfl rfl rfl ?_
  (repeat' (first|refine wS ?_|refine wB ?_|(refine rg 0 (aV ?_))|(refine rg 1 (bS (U2 T rfl rfl) rfl ?_))|(refine rg 2 (mW rfl (qW T rfl (vV (kC (hc)) (vV (tQ rfl rfl (by simp only [aD,List.length_cons,List.length_nil];omega)) ?_))));refine dW [0] rfl rfl (BG _ (by simp only [aD,List.length_cons,List.length_nil];omega)) rfl rfl (by decide) ⟨.inr rfl,trivial⟩ (by simp) rfl ?_)|(refine rg 3 (mW rfl (qW T rfl (mV ?_))))|refine nZ ?_));refine cT (X := {k : Nat // k ≤ l.length}) (fun k => [(0,.rowE (ints l) 1),(1,.clo (.func 32) [] []),(5,.ptr 0 0),(13,.rowE (ints l) 1),(14,.i (ints l).length),(15,.i k.1)]) (fun k => [.cells [.ptr 0 0,.sl 1 0 (xB l k.1).length 1],.buf 5 (xB l k.1)]) (fun k => l.length - k.1) ⟨0,by omega⟩ ⟨[0,1],rfl,(by repeat first|exact trivial|refine ⟨rfl,?_⟩),⟨.inr (by rw [h00];rfl),.inr (by rw [h00];rfl),trivial⟩,by decide,H3⟩ ?_
  rintro ⟨k,hk⟩;dsimp only;have hbk := hbl k;by_cases hlt : k < l.length
  · have hIx := hw _ (aK hlt);have hcx := J1 hIx;have hlx := mX hIx;have hnx := LN hlt;have hbn := hbl (k + 1);have hnl : (xB l (k + 1)).length = (xB l k).length + (oH l[k]).length := by rw [hnx,aD]
    have hg := KF hlt;rw [hnx] at hbn;generalize l[k] = x at *
    (repeat' (first|refine wS ?_|refine wB ?_|refine wK ?_|(refine wC rfl ?_ ?_<;>(intro hb;(try simp only [nm] at hb);try (exfalso;omega)))|(refine rg 4 (vV (aN rfl rfl) ?_))|(refine rg 5 (vV (ix T rfl (by omega) (cP _) hg) (lW T rfl (aV ?_))))|(refine rg 6 (eG rfl (vV (kC (hcx)) (dW [0,1] rfl rfl (H8 (xB l k) (oH x) (by omega)) rfl rfl (by decide) ⟨.inr rfl,.inr rfl,trivial⟩ (by simp) rfl ?_))))|(refine rg 7 (vV (bF rfl rfl (by omega) (by omega)) (mV ?_)))|refine nZ ?_));all_goals first | (exfalso;omega) | exact ⟨⟨k + 1,hlt⟩,by dsimp only;omega,[0,2],rfl,(by repeat first|exact trivial|refine ⟨rfl,?_⟩),⟨.inr (by dsimp only;rw [hnl];rfl),.inr (by dsimp only;rw [hnx];rfl),trivial⟩,by decide,H3⟩
  · have hkl : k = l.length := by omega
    subst hkl
    (repeat' (first|refine wS ?_|refine wR ?_|refine wE ?_|(refine wC rfl ?_ ?_<;>(intro hb;(try simp only [nm] at hb);try (exfalso;omega)))|(refine rg 4 (vV (aN rfl rfl) ?_))|(refine rg 8 (dW [0,1] rfl rfl (BS (xB l l.length) (VI _ _) (by omega)) rfl rfl (by decide) ⟨.inr rfl,.inr rfl,trivial⟩ (by simp) rfl ?_);refine vV (tQ rfl rfl (by simp only [List.length_cons,List.length_nil];omega)) ?_;refine aV ?_)|refine nZ ?_));all_goals first | (exfalso;omega) | exact rQ
theorem OA {l : List Int} (hw : ∀ x,x ∈ l → P5 x) (hl : l.length ≤ 1000000) : aQ Tryz.prog 30 [.rowE (ints l) 1] [] (.s (oV l)) [] := by
  have hc := WX hw hl;refine bK T Tryz.func30 rfl rfl rfl rfl ?_
  (repeat' (first|refine wS ?_|refine wR ?_|(refine rg 0 (aV ?_))|(refine rg 1 (mW rfl (vV (kC (hc)) (aV ?_))))|refine nZ ?_));all_goals exact rQ
end Go.Proofs.YtbialaoigijlgaaGreatDoor
namespace Go.Ld
open Go.Ab Go.Proofs.YtbialaoigijlgaaGreatDoor
def E0 (r : SP) : List UInt8 := oH r.1 ++ oH r.2
def oA (l : List SP) : List UInt8 := l.flatMap E0
def A0 (w : W) : List UInt8 := oV w.1 ++ oH w.2.1 ++ oA w.2.2
def lM (l : List W) : List UInt8 := l.flatMap A0
def rP (g : G) : List UInt8 := oV g.1 ++ oH g.2.length ++ lM g.2
def iJ (gs : List G) : List UInt8 := gs.flatMap rP
theorem mF {α β : Type} (F : α → List β) {l : List α} {k : Nat} (h : k < l.length) : (l.take (k + 1)).flatMap F = (l.take k).flatMap F ++ F l[k] := by
  rw [aO h,fP];simp
theorem wP {α β : Type} (F : α → List β) (n : Nat) : ∀ l : List α, (∀ x, x ∈ l → (F x).length ≤ n) → (l.flatMap F).length ≤ l.length * n
  | [],_ => by simp
  | x :: l,h => by
    have h1 := h x bB;have h2 := wP F n l fun y hy => h y (aY _ hy);rw [bZ,aD,List.length_cons,Nat.succ_mul];omega
structure zF0 (w : W) : Prop where
  p : ∀ x,x ∈ w.1 → P5 x
  pl : w.1.length ≤ 6
  m : P5 w.2.1
  c : ∀ r,r ∈ w.2.2 → P5 r.1 ∧ P5 r.2
  cl : w.2.2.length ≤ 6
structure zF1 (g : G) : Prop where
  b : ∀ x,x ∈ g.1 → P5 x
  bl : g.1.length ≤ 6
  w : ∀ w,w ∈ g.2 → zF0 w
  wl : g.2.length ≤ 1000
theorem xQ {x : Int} (h0 : -1000000000 ≤ x) (h1 : x ≤ 1000000000) : P5 x := ⟨by omega,by omega⟩
theorem ZF {c : Cx} {gs : List G} (h : oQ c gs) : ∀ g,g ∈ gs → zF1 g := fun g hg => by
  have og := h.mid.out.ok g hg;have n12 := h.mid.n12;refine ⟨fun x hx => ?_,og.ln,fun w hw => ?_,h.mid.wl g hg⟩
  · obtain ⟨a,b⟩ := og.rg x hx;exact xQ (by omega) (by omega)
  · have ow := og.ws w hw;refine ⟨fun x hx => ?_,by rw [ow.pl];exact og.ln,?_,fun r hr => ?_,by rw [ow.cl];exact og.ln⟩
    · obtain ⟨a,b⟩ := ow.pr x hx;exact xQ (by omega) (by omega)
    · have := ow.m0;have := ow.m1;exact xQ (by omega) (by omega)
    · have := ow.sp r hr;unfold RF at this;exact ⟨xQ (by omega) (by omega),xQ (by omega) (by omega)⟩
theorem wM {l : List Int} (hw : ∀ x,x ∈ l → P5 x) (hl : l.length ≤ 6) : (oV l).length ≤ 155 := by
  have := EH hw (by omega) l.length
  unfold oV;simp;omega
theorem JD {r : SP} (h : P5 r.1 ∧ P5 r.2) : (E0 r).length ≤ 44 := by
  have := mX h.1;have := mX h.2;unfold E0;simp;omega
theorem J8 {l : List SP} (h : ∀ r,r ∈ l → P5 r.1 ∧ P5 r.2) (hl : l.length ≤ 6) : (oA l).length ≤ 264 := by
  have := wP E0 44 l fun r hr => JD (h r hr);unfold oA;omega
theorem EV {w : W} (h : zF0 w) : (A0 w).length ≤ 441 := by
  have := wM h.p h.pl;have := mX h.m;have := J8 h.c h.cl;unfold A0;simp;omega
theorem D5 {l : List W} (h : ∀ w,w ∈ l → zF0 w) (hl : l.length ≤ 1000) : (lM l).length ≤ 441000 := by
  have := wP A0 441 l fun w hw => EV (h w hw);unfold lM;omega
theorem FQ {g : G} (h : zF1 g) : (rP g).length ≤ 441177 := by
  have := wM h.b h.bl;have := D5 h.w h.wl;have hl := h.wl;have : (oH (g.2.length : Int)).length ≤ 22 := mX (xQ (by omega) (by omega))
  unfold rP;simp;omega
theorem DF {l : List G} (h : ∀ g,g ∈ l → zF1 g) (hl : l.length ≤ 12) : (iJ l).length ≤ 6000000 := by
  have := wP rP 441177 l fun g hg => FQ (h g hg);unfold iJ;omega
end Go.Ld
namespace Go.Proofs.YtbialaoigijlgaaGreatDoor
open Go Go.Ab Go.Ld
attribute [local irreducible] VC AW bT aQ jI
set_option maxHeartbeats 4000000
theorem YR (c : Cx) (gs : List G) (b : Int) (h : oQ c gs) {g : G} {i : Nat} (hg : qL gs b = some (g,i)) :
    aQ Tryz.prog 10 [.pr (fQ c gs) 0,.i b] [] (.rowE (eW g.2) 3) [] := by
  obtain ⟨k0,h1,h2,h3,h4⟩ := oZ hg;have hgm := aJ h2;have og := h.mid.out.ok g hgm;have hwl := h.mid.wl g hgm;have hl12 : gs.length ≤ 12 := bX h.mid.out.len h.mid.out.ln;have hgr := I5 c gs b (by omega) (fun x hx => by have := (h.mid.out.ok x hx).ln;omega) hg
  have hln := og.ln;have hcl : ∀ k (h : k < g.2.length),aQ Tryz.prog 47 [P7 g.2[k]] [] (P7 g.2[k]) [] := fun k hk => by
    have ow := og.ws _ (aK hk);have e1 := ow.pl;have e2 := ow.cl;exact II _ ⟨by omega,by omega⟩
  obtain ⟨bs,ws⟩ := g;dsimp only at *;have hwsl : (eW ws).length = ws.length := eB _;refine nT (len := ws.length) hwsl.symm (gI (bD ws)) ?_;refine bK T Tryz.func10 rfl rfl rfl rfl ?_
  (repeat' (first|refine wS ?_|(refine rg 0 (aV ?_))|(refine rg 1 (eG rfl (vV (kC (hgr)) (mW rfl (xW rfl (xW rfl (xW rfl (bS (bH T rfl) rfl (aR T rfl rfl rfl rfl rfl rfl (by decide) rfl (pG ?_))))))))))|refine nZ ?_));all_goals try (exfalso;omega)
  refine fJ 5 (cs := gA (bs,ws)) rfl rfl rfl ?_
  (repeat' (first|refine wS ?_|(refine rg 2 (vV (fA rfl) (pH 8 3 rfl (by decide) ?_)))|refine nZ ?_));all_goals try (exfalso;omega)
  (repeat' (first|refine wB ?_|(refine rg 3 (iX T rfl (qW T rfl (mV ?_))))|refine nZ ?_));all_goals try (exfalso;omega)
  refine cT (X := {k : Nat // k ≤ ws.length}) (fun k => [(8,.sl 0 0 k.1 3),(19,.rowE (eW ws) 3),(20,.i (eW ws).length),(21,.i k.1)]) (fun k => [.arr (eW (ws.take k.1)) 3]) (fun k => ws.length - k.1) ⟨0,bW _⟩ ⟨[1],rfl,(by repeat first|exact trivial|refine ⟨rfl,?_⟩),⟨.inr rfl,trivial⟩,by decide,jJ _⟩ ?_
  rintro ⟨k,hk⟩;dsimp only;by_cases hlt : k < ws.length
  · have hgk := nE hlt;have hc := hcl k hlt;have q4 : (eW (ws.take k)).length = k := by rw [eB,aU];omega
    have q5 : eW (ws.take (k + 1)) = eW (ws.take k) ++ [wA ws[k]] := by rw [aO hlt,eW,cN];rfl
    have q6 := bD (ws.take (k + 1));have q7 := bD (ws.take k);generalize eW (ws.take k) = A at *;generalize ws[k] = w at *;obtain ⟨wp,wm,wc⟩ := w
    try dsimp only at *
    (repeat' (first|refine wS ?_|refine wB ?_|refine wK ?_|(refine wC rfl ?_ ?_<;>(intro hb;(try simp only [nm] at hb);try (exfalso;omega)))|(refine rg 4 (vV (aN rfl rfl) ?_))|(refine rg 5 (vV (ix T rfl (by omega) (jE _) hgk) (lW T rfl (bS (bH T rfl) rfl (aR T rfl rfl rfl rfl rfl rfl (by decide) rfl ?_)))))|refine nZ ?_));all_goals try (exfalso;omega)
    refine fJ 10 (cs := wA (wp,wm,wc)) rfl rfl rfl ?_
    (repeat' (first|(refine rg 6 (mW rfl (lW T rfl (vV (kC (hc)) (bS (by exact bC T rfl rfl (by decide) (by decide) rfl rfl rfl) rfl ?_))));refine fY T rfl rfl rfl rfl rfl rfl (by omega) (kE.whole rfl rfl) rfl (by simp;omega) (by simp;omega) rfl ?_;refine aV ?_)|(refine rg 7 (vV (bF rfl rfl (by omega) (by omega)) (mV ?_)))|refine nZ ?_));all_goals try (exfalso;omega)
    exact ⟨⟨k + 1,hlt⟩,by dsimp only;omega,⟨[3],rfl,(by repeat first|exact trivial|refine ⟨rfl,?_⟩),⟨.inr (aG rfl (by dsimp only;rw [q5];exact kJ q4.symm) q6),trivial⟩,by decide,jJ _⟩⟩
  · obtain rfl : k = ws.length := by omega
    rw [cO]
    (repeat' (first|refine wS ?_|refine wR ?_|refine wE ?_|(refine wC rfl ?_ ?_<;>(intro hb;(try simp only [nm] at hb);try (exfalso;omega)))|(refine rg 4 (vV (aN rfl rfl) ?_))|(refine rg 8 (mW rfl (aV ?_)))|refine nZ ?_));all_goals try (exfalso;omega)
    exact ⟨.inl rfl,[0],_,rfl,rfl,rfl,⟨.inr (aG rfl rfl (bD _)),trivial⟩,by decide,jJ _⟩
abbrev YW (z : List UInt8) : Hp := [AB.cells [.ptr 0 0,.sl 1 0 z.length 1],.buf 5 z]
theorem EA (c : Cx) (gs : List G) (h : oQ c gs) (hn : 0 < gs.length) : aQ Tryz.prog 7 [.pr (fQ c gs) 0] [] (.s (iJ gs)) [] := by
  have hsm := ZF h;have hl12 : gs.length ≤ 12 := bX h.mid.out.len h.mid.out.ln;have hgl := gY gs;have hbd : ∀ k,(iJ (gs.take k)).length ≤ 6000000 := fun k => DF (fun g hg => hsm g (eD hg)) (by rw [aU];omega)
  refine bK T Tryz.func7 rfl rfl rfl rfl ?_
  (repeat' (first|refine wS ?_|refine wB ?_|(refine rg 0 (aV ?_))|(refine rg 1 (bS (U2 T rfl rfl) rfl ?_))|(refine rg 2 (mW rfl (nV ?_));refine iX T rfl (qW T rfl (mV ?_)))|refine nZ ?_));refine cT (X := {k : Nat // k ≤ gs.length}) (fun k => [(3,.ptr 0 0),(13,.rowE (gZ gs) 2),(14,.i (gZ gs).length),(15,.i (k.1 : Int))]) (fun k => if k.1 = 0 then [.var 79 [.v (.pointer none),.nils]] else YW (iJ (gs.take k.1))) (fun k => gs.length - k.1) ⟨0,bW _⟩ ⟨[0],rfl,(by repeat first|exact trivial|refine ⟨rfl,?_⟩),⟨.inr rfl,trivial⟩,by decide,jJ _⟩ ?_
  rintro ⟨k,hk⟩;dsimp only;by_cases hlt : k < gs.length
  · have hgk := zH hlt;have hs := hsm _ (aK hlt);have hbk := hbd k;have hbk1 := hbd (k + 1);have htk : iJ (gs.take (k + 1)) = iJ (gs.take k) ++ rP gs[k] := mF rP hlt;generalize gs[k] = g at *;obtain ⟨gb,gw⟩ := g;obtain ⟨sb,sbl,sw,swl⟩ := hs;dsimp only at *;have hwl := eB gw;have hI : P5 (gw.length : Int) := xQ (by omega) (by omega)
    have c1 := OA sb (by omega)
    have c2 : aQ Tryz.prog 31 [.i ((eW gw).length : Int)] [] (.s (oH gw.length)) [] := by rw [hwl];exact WG hI (by omega)
    have l1 := wM sb sbl;have l2 := mX hI;have hz1 : iJ (gs.take k) ++ rP (gb,gw) = (iJ (gs.take k) ++ (oV gb ++ oH gw.length)) ++ lM gw := by
      show _ ++ (oV gb ++ oH gw.length ++ lM gw) = _;rw [bE (iJ (gs.take k))]
    have hz0 : k = 0 → iJ (gs.take k) = [] := fun e => by subst e;rfl
    generalize iJ (gs.take k) = A at *;generalize hy : oV gb ++ oH (gw.length : Int) = y at *;have hyl : y.length ≤ 177 := by rw [← hy,aD];omega
    apply Go.Ab.cutT
    · intro rest;by_cases k0 : k = 0
      · rw [if_pos k0]
        (repeat' (first|refine wS ?_|refine wB ?_|refine wK ?_|(refine wC rfl ?_ ?_<;>(intro hb;(try simp only [nm] at hb);try (exfalso;omega)))|(refine rg 3 (vV (aN rfl rfl) ?_))|(refine rg 4 (vV (ix T rfl (by omega) (lL _) hgk) (lW T rfl (bS (bH T rfl) rfl (aR T rfl rfl rfl rfl rfl rfl (by decide) rfl ?_)))))|refine nZ ?_));all_goals try (exfalso;omega)
        refine fJ 5 (cs := gA (gb,gw)) rfl rfl rfl ?_
        (repeat' (first|refine wS ?_|(refine lE (id := 5) 8 62 [[],[0],[0,1],[],[3],[3,4],rN 6,rN 7,rN 8] [[],[0],[0,1],[],[3],[3,4],rN 6,rN 7] (rM 19 8) zM8 cM rfl (by decide +kernel) (by decide +kernel) ?_;(dsimp only [List.take,List.drop]);refine dP T rfl (dO T rfl (dV rfl (kC (c1)) (dP T rfl (dO T rfl (dV rfl (fS T rfl rfl) (dV rfl (kC (c2)) (dV rfl (tQ rfl rfl (by omega)) (dE ?_))))))));refine fT ?_;refine dW [0] rfl rfl (BG (oV gb ++ oH (gw.length : Int)) (by rw [hy];omega)) rfl rfl (by decide) ⟨.inr rfl,trivial⟩ (by simp) rfl ?_)|refine nZ ?_));all_goals try (exfalso;omega)
        exact eM [(3,.ptr 0 0),(5,.pr (gA (gb,gw)) 0),(13,.rowE (gZ gs) 2),(14,.i (gZ gs).length),(15,.i (k : Int))] (YW (A ++ y)) ⟨[0,2],rfl,(by repeat first|exact trivial|refine ⟨rfl,?_⟩),⟨.inr (by rw [hz0 k0,← hy];rfl),.inr (by rw [hz0 k0,← hy];rfl),trivial⟩,by decide,jJ _⟩ rest.get
      · rw [if_neg k0]
        (repeat' (first|refine wS ?_|refine wB ?_|refine wK ?_|(refine wC rfl ?_ ?_<;>(intro hb;(try simp only [nm] at hb);try (exfalso;omega)))|(refine rg 3 (vV (aN rfl rfl) ?_))|(refine rg 4 (vV (ix T rfl (by omega) (lL _) hgk) (lW T rfl (bS (bH T rfl) rfl (aR T rfl rfl rfl rfl rfl rfl (by decide) rfl ?_)))))|refine nZ ?_));all_goals try (exfalso;omega)
        refine fJ 5 (cs := gA (gb,gw)) rfl rfl rfl ?_
        (repeat' (first|refine wS ?_|(refine lE (id := 5) 8 62 [[],[0],[0,1],[],[3],[3,4],rN 6,rN 7,rN 8] [[],[0],[0,1],[],[3],[3,4],rN 6,rN 7] (rM 19 8) zM8 cM rfl (by decide +kernel) (by decide +kernel) ?_;(dsimp only [List.take,List.drop]);refine dP T rfl (dO T rfl (dV rfl (kC (c1)) (dP T rfl (dO T rfl (dV rfl (fS T rfl rfl) (dV rfl (kC (c2)) (dV rfl (tQ rfl rfl (by omega)) (dE ?_))))))));refine fT ?_;refine dW [0,1] rfl rfl (H8 A (oV gb ++ oH (gw.length : Int)) (by rw [hy];omega)) rfl rfl (by decide) ⟨.inr rfl,.inr rfl,trivial⟩ (by simp) rfl ?_)|refine nZ ?_));all_goals try (exfalso;omega)
        exact eM [(3,.ptr 0 0),(5,.pr (gA (gb,gw)) 0),(13,.rowE (gZ gs) 2),(14,.i (gZ gs).length),(15,.i (k : Int))] (YW (A ++ y)) ⟨[0,3],rfl,(by repeat first|exact trivial|refine ⟨rfl,?_⟩),⟨.inr (by rw [← hy,@aD _ A _];rfl),.inr (by rw [← hy];rfl),trivial⟩,by decide,jJ _⟩ rest.get
    have hzl : (A ++ y).length ≤ 6000177 := by rw [aD];omega
    rw [hz1] at htk;generalize A ++ y = z at *;have hwb : ∀ j,(z ++ lM (gw.take j)).length ≤ 7000000 := fun j => by
      have := D5 (l := gw.take j) (fun w hw => sw w (eD hw)) (by rw [aU];omega)
      rw [aD];omega
    (repeat' (first|refine wB ?_|(refine rg 6 (iX T rfl (qW T rfl (mV ?_))))|refine nZ ?_));refine cT (X := {j : Nat // j ≤ gw.length}) (fun j => [(3,.ptr 0 0),(13,.rowE (gZ gs) 2),(14,.i (gZ gs).length),(15,.i (k : Int)),(29,.rowE (eW gw) 3),(30,.i (eW gw).length),(31,.i (j.1 : Int))]) (fun j => YW (z ++ lM (gw.take j.1))) (fun j => gw.length - j.1) ⟨0,bW _⟩ ⟨[0,1],rfl,(by repeat first|exact trivial|refine ⟨rfl,?_⟩),⟨.inr (by dsimp only;rw [show z ++ lM (gw.take 0) = z from List.append_nil z];rfl),.inr (by dsimp only;rw [show z ++ lM (gw.take 0) = z from List.append_nil z];rfl),trivial⟩,by decide,jJ _⟩ ?_
    rintro ⟨j,hj⟩;dsimp only;by_cases hjt : j < gw.length
    · have hwk := nE hjt;have hw := sw _ (aK hjt);have hb1 := hwb j;have hb2 := hwb (j + 1);have htw : lM (gw.take (j + 1)) = lM (gw.take j) ++ A0 gw[j] := mF A0 hjt;generalize gw[j] = w at *;obtain ⟨wp,wm,wc⟩ := w;obtain ⟨p1,p2,p3,p4,p5⟩ := hw;dsimp only at *;have hcl : (eO wc).length = wc.length := bN _;have d1 := OA p1 (by omega)
      have d2 := J1 p3;have m1 := wM p1 p2;have m2 := mX p3;have hx1 : z ++ lM (gw.take (j + 1)) = (z ++ lM (gw.take j) ++ (oV wp ++ oH wm)) ++ oA wc := by
        rw [htw];show _ ++ (_ ++ (oV wp ++ oH wm ++ oA wc)) = _;simp only [bE]
      generalize z ++ lM (gw.take j) = B at *;generalize hv : oV wp ++ oH wm = v at *;have hvl : v.length ≤ 177 := by rw [← hv,aD];omega
      (repeat' (first|refine wS ?_|refine wB ?_|refine wK ?_|(refine wC rfl ?_ ?_<;>(intro hb;(try simp only [nm] at hb);try (exfalso;omega)))|(refine rg 7 (vV (aN rfl rfl) ?_))|(refine rg 8 (vV (ix T rfl (by omega) (jE _) hwk) (lW T rfl (bS (bH T rfl) rfl (aR T rfl rfl rfl rfl rfl rfl (by decide) rfl ?_)))))|refine nZ ?_));all_goals try (exfalso;omega)
      refine fJ 7 (cs := wA (wp,wm,wc)) rfl rfl rfl ?_
      (repeat' (first|refine wS ?_|(refine lE (id := 9) 7 62 [[],[0],[0,1],[],[3],rN 5,rN 6,rN 7] [[],[0],[0,1],[],[3],rN 5,rN 6] (rM 35 7) [[],[],[],[35,36,37],[35,36,37],[],[]] cM rfl (by decide +kernel) (by decide +kernel) ?_;(dsimp only [List.take,List.drop]);refine dP T rfl (dO T rfl (dV rfl (kC (d1)) (dP T rfl (dO T rfl (dV rfl (kC (d2)) (dV rfl (tQ rfl rfl (by omega)) (dE ?_)))))));refine fT ?_;refine dW [0,1] rfl rfl (H8 B (oV wp ++ oH wm) (by rw [hv];omega)) rfl rfl (by decide) ⟨.inr rfl,.inr rfl,trivial⟩ (by simp) rfl ?_)|refine nZ ?_));all_goals try (exfalso;omega)
      refine eM [(3,.ptr 0 0),(13,.rowE (gZ gs) 2),(14,.i (gZ gs).length),(15,.i (k : Int)),(29,.rowE (eW gw) 3),(30,.i (eW gw).length),(31,.i (j : Int)),(7,.pr (wA (wp,wm,wc)) 0)] (YW (B ++ v)) ⟨[0,3],rfl,(by repeat first|exact trivial|refine ⟨rfl,?_⟩),⟨.inr (by rw [← hv,@aD _ B _];rfl),.inr (by rw [← hv];rfl),trivial⟩,by decide,jJ _⟩ ?_
      have hBl : (B ++ v).length ≤ 7000177 := by rw [aD];omega
      generalize B ++ v = u at *;have hsb : ∀ i,(u ++ oA (wc.take i)).length ≤ 8000000 := fun i => by
        have := J8 (l := wc.take i) (fun r hr => p4 r (eD hr)) (by rw [aU];omega)
        rw [aD];omega
      (repeat' (first|refine wB ?_|(refine rg 10 (iX T rfl (qW T rfl (mV ?_))))|refine nZ ?_));refine cT (X := {i : Nat // i ≤ wc.length}) (fun i => [(3,.ptr 0 0),(13,.rowE (gZ gs) 2),(14,.i (gZ gs).length),(15,.i (k : Int)),(29,.rowE (eW gw) 3),(30,.i (eW gw).length),(31,.i (j : Int)),(44,.rowE (eO wc) 2),(45,.i (eO wc).length),(46,.i (i.1 : Int))]) (fun i => YW (u ++ oA (wc.take i.1))) (fun i => wc.length - i.1) ⟨0,bW _⟩ ⟨[0,1],rfl,(by repeat first|exact trivial|refine ⟨rfl,?_⟩),⟨.inr (by dsimp only;rw [show u ++ oA (wc.take 0) = u from List.append_nil u];rfl),.inr (by dsimp only;rw [show u ++ oA (wc.take 0) = u from List.append_nil u];rfl),trivial⟩,by decide,jJ _⟩ ?_
      rintro ⟨i,hi⟩;dsimp only;by_cases hit : i < wc.length
      · have hrk : (eO wc)[((i : Int)).toNat]? = some [AV.i (wc[i]).1,AV.i (wc[i]).2] := by
          rw [bR,bJ,aB hit];rfl
        have hr := p4 _ (aK hit);have hb3 := hsb i;have hts : u ++ oA (wc.take (i + 1)) = u ++ oA (wc.take i) ++ E0 wc[i] := by
          rw [show oA (wc.take (i + 1)) = oA (wc.take i) ++ E0 wc[i] from mF E0 hit,bE]
        generalize wc[i] = r at *;obtain ⟨r1,r2⟩ := r;dsimp only at *;have f1 := J1 hr.1;have f2 := J1 hr.2;have n1 := mX hr.1;have n2 := mX hr.2;rw [show E0 (r1,r2) = oH r1 ++ oH r2 from rfl] at hts
        generalize u ++ oA (wc.take i) = D at *
        (repeat' (first|refine wS ?_|refine wB ?_|refine wK ?_|(refine wC rfl ?_ ?_<;>(intro hb;(try simp only [nm] at hb);try (exfalso;omega)))|(refine rg 11 (vV (aN rfl rfl) ?_))|(refine rg 12 (vV (ix T rfl (by omega) (gW _) hrk) (lW T rfl (bS (bH T rfl) rfl (aR T rfl rfl rfl rfl rfl rfl (by decide) rfl ?_)))))|refine nZ ?_));all_goals try (exfalso;omega)
        refine fJ 9 (cs := [.i r1,.i r2]) rfl rfl rfl ?_
        (repeat' (first|(refine lE (id := 13) 7 62 [[],[0],[0,1],[],[3],rN 5,rN 6,rN 7] [[],[0],[0,1],[],[3],rN 5,rN 6] (rM 50 7) [[],[],[],[50,51,52],[50,51,52],[],[]] cM rfl (by decide +kernel) (by decide +kernel) ?_;(dsimp only [List.take,List.drop]);refine dP T rfl (dO T rfl (dV rfl (by exact eS rfl rfl f1 rfl rfl rfl) ?_));refine dP T rfl (dO T rfl (dV rfl (by exact eS rfl rfl f2 rfl rfl rfl) ?_));refine dV rfl (tQ rfl rfl (by omega)) (dE ?_);refine fT ?_;refine dW [0,1] rfl rfl (H8 D (oH r1 ++ oH r2) (by rw [aD];omega)) rfl rfl (by decide) ⟨.inr rfl,.inr rfl,trivial⟩ (by simp) rfl ?_)|(refine rg 14 (vV (bF rfl rfl (by omega) (by omega)) (mV ?_)))|refine nZ ?_));all_goals try (exfalso;omega)
        exact ⟨⟨i + 1,hit⟩,by dsimp only;omega,⟨[0,3],rfl,(by repeat first|exact trivial|refine ⟨rfl,?_⟩),⟨.inr (by dsimp only;rw [hts,@aD _ D _];rfl),.inr (by dsimp only;rw [hts];rfl),trivial⟩,by decide,jJ _⟩⟩
      · obtain rfl : i = wc.length := by omega
        rw [cO]
        (repeat' (first|refine wS ?_|refine wE ?_|(refine wC rfl ?_ ?_<;>(intro hb;(try simp only [nm] at hb);try (exfalso;omega)))|(refine rg 11 (vV (aN rfl rfl) ?_))|(refine rg 15 (vV (bF rfl rfl (by omega) (by omega)) (mV ?_)))|refine nZ ?_));all_goals try (exfalso;omega)
        exact ⟨⟨j + 1,hjt⟩,by dsimp only;omega,⟨[0,1],rfl,(by repeat first|exact trivial|refine ⟨rfl,?_⟩),⟨.inr (by dsimp only;rw [hx1];rfl),.inr (by dsimp only;rw [hx1];rfl),trivial⟩,by decide,jJ _⟩⟩
    · obtain rfl : j = gw.length := by omega
      rw [cO]
      (repeat' (first|refine wS ?_|refine wE ?_|(refine wC rfl ?_ ?_<;>(intro hb;(try simp only [nm] at hb);try (exfalso;omega)))|(refine rg 7 (vV (aN rfl rfl) ?_))|(refine rg 16 (vV (bF rfl rfl (by omega) (by omega)) (mV ?_)))|refine nZ ?_));all_goals try (exfalso;omega)
      exact ⟨⟨k + 1,hlt⟩,by dsimp only;omega,⟨[0,1],rfl,(by repeat first|exact trivial|refine ⟨rfl,?_⟩),⟨.inr (by show _ = some (AB.map _ (AB.cells [.ptr 0 0,.sl 1 0 (iJ (gs.take (k + 1))).length 1]));rw [htk];rfl),.inr (by show _ = some (AB.map _ (AB.buf 5 (iJ (gs.take (k + 1)))));rw [htk];rfl),trivial⟩,by decide,jJ _⟩⟩
  · obtain rfl : k = gs.length := by omega
    rw [if_neg (by omega),cO]
    have hne : iJ gs ≠ [] := fun e => by
      have h1 : 0 < (oV (gs[0]).1).length := by unfold oV;simp
      have h2 : iJ (gs.take 1) = iJ (gs.take 0) ++ rP gs[0] := mF rP hn;have h3 : iJ gs = iJ (gs.take 1) ++ iJ (gs.drop 1) := by unfold iJ;rw [← fP,bG]
      have h4 := congrArg List.length e;rw [h3,h2] at h4;unfold rP at h4;simp only [aD,List.length_nil] at h4;omega
    have hb := hbd gs.length;rw [cO] at hb
    (repeat' (first|refine wS ?_|refine wR ?_|refine wE ?_|(refine wC rfl ?_ ?_<;>(intro hb;(try simp only [nm] at hb);try (exfalso;omega)))|(refine rg 3 (vV (aN rfl rfl) ?_))|(refine rg 17 (dW [0,1] rfl rfl (BS (iJ gs) hne (by omega)) rfl rfl (by decide) ⟨.inr rfl,.inr rfl,trivial⟩ (by simp) rfl ?_);refine aV ?_)|refine nZ ?_));all_goals first | (exfalso;omega) | exact rQ
end Go.Proofs.YtbialaoigijlgaaGreatDoor
namespace Go.Ld
open Go.Ab Go.Proofs.YtbialaoigijlgaaGreatDoor
end Go.Ld
namespace Go.Proofs.YtbialaoigijlgaaGreatDoor
open Go Go.Ab Go.Ld
attribute [local irreducible] VC AW bT aQ jI
set_option maxHeartbeats 4000000
end Go.Proofs.YtbialaoigijlgaaGreatDoor
namespace Go.Ab
open Go
theorem FU {P : Program} {env : dI} {h : Hp} {d : Option Nat} {ty : TypeId} {pos : String} {af : Array Edge} {g : Option (Nat × Bool)} {t t2 : TypeId} {x y : Operand} {a : List UInt8} (hx : evu env x = some (.s a)) (hy : evu env y = some (.s a)) : bT P ⟨d,.binOp .neq t x y t2,ty,pos,af,g⟩ env h 0 (fun _ => .b false) (fun _ => []) := by
  have := UA (P := P) (d := d) (ty := ty) (pos := pos) (af := af) (g := g) (h := h) (t := t) (t2 := t2) hx hy;simpa using this
end Go.Ab
namespace Go.Proofs.YtbialaoigijlgaaGreatDoor
open Go Go.Ab Go.Ld
attribute [local irreducible] VC AW bT aQ jI
set_option maxHeartbeats 4000000
end Go.Proofs.YtbialaoigijlgaaGreatDoor
namespace Go.Ld
open Go.Ab Go.Proofs.YtbialaoigijlgaaGreatDoor
def pT (n : Nat) : Cx := ⟨0,0,0,0,[],[],(List.range n).map fun i : Nat => (-1,0,(i : Int))⟩
def VZ (k : Nat) : Ev := ⟨4,k,(k : Int) + 1,0,[]⟩
def zA0 : Ev := ⟨5,0,0,0,[]⟩
def kQ (n : Nat) : Nat → List G
  | 0 => rL (pT n)
  | k + 1 => (qG (pT n) (kQ n k) (VZ k)).2
def MT (gs : List G) : Nat × Nat := match qL gs 0 with
  | some (g,_) => (g.1.length,g.2.length)
  | none => (0,0)
def HI (g : G) (i : Nat) : List Int := N6 (dK cI (Q5 g i))
theorem CK (g : G) (i : Nat) : lN g i = HI g i := by unfold lN HI;rw [nH]
def NL (gs : List G) : List Int := match qL gs 0 with
  | some (g,i) => HI g i
  | none => []
def ZN (gs : List G) : Bool := match qL gs 0 with
  | some (g,i) => decide (ZY (HI g i) = (0,true)) && decide (g.1 = [0])
  | none => false
def MN (n k : Nat) : Bool :=
  let r := qG (pT n) (kQ n k) (VZ k)
  if k + 2 ≤ 6 then decide (r.1 = 0) && decide (MT r.2 = (k + 2,2 ^ (k + 1))) else if k + 1 = 6 then decide (r.1 = 6) else decide (r.1 = 0)
def XS (n : Nat) : Bool :=
  let F := kQ n (n - 1)
  let r := qG (pT n) F zA0
  decide ((NL F).length = min n 2) && decide (r.1 = 0) && ZN r.2
def YH : Bool := (List.range 9).all fun n => decide (n < 2) || (((List.range n).all fun k => decide (n ≤ k + 1) || MN n k) && XS n)
theorem RA : YH = true := by kernel_rfl
theorem SL {n k : Nat} (h2 : 2 ≤ n) (h8 : n ≤ 8) (hk : k + 1 < n) : MN n k = true := by
  have h := RA;unfold YH at h;rw [bA] at h;have := h n (fF.2 (by omega))
  rw [qT,aP] at this;rcases this with h | ⟨h,_⟩
  · exact absurd (of_decide_eq_true h) (by omega)
  · rw [bA] at h;have := h k (fF.2 (by omega))
    rw [qT] at this;rcases this with h | h
    · exact absurd (of_decide_eq_true h) (by omega)
    · exact h
theorem XR {n : Nat} (h2 : 2 ≤ n) (h8 : n ≤ 8) : XS n = true := by
  have h := RA;unfold YH at h;rw [bA] at h;have := h n (fF.2 (by omega))
  rw [qT,aP] at this;rcases this with h | ⟨_,h⟩
  · exact absurd (of_decide_eq_true h) (by omega)
  · exact h
theorem AC (n : Nat) : (pT n).bs.length = n := by unfold pT;simp
theorem PS {n : Nat} (h2 : 2 ≤ n) (h8 : n ≤ 8) : D4 (pT n) := by
  have hl := AC n;have hnl : (nats (List.range (pT n).bs.length)).length = n := by simp [hl]
  refine ⟨⟨by omega,by omega,by omega,bW _,bW _,fun i h => absurd h (dD _),fun i h => absurd h (dD _),fun i h => ?_,fun i h => ?_⟩,?_⟩
  · have hm := vH.1 (aK h);rw [hnl];omega
  · have hi : i < n := by omega
    have e : (pT n).bs[i] = (-1,0,(i : Int)) := by
      show ((List.range n).map fun i : Nat => ((-1,0,(i : Int)) : BX))[i]'(by simpa using hi) = _
      rw [pK,List.getElem_range]
    rw [e];have h0 : (((pT n).ls.length : Nat) : Int) = 0 := rfl;rw [h0];dsimp only;omega
  · show sS 0 0 0 0;unfold sS;omega
theorem IA {n : Nat} (h2 : 2 ≤ n) (h8 : n ≤ 8) : ∀ k, oQ (pT n) (kQ n k)
  | 0 => OD (PS h2 h8) (by rw [AC];omega) (iI 0)
  | k + 1 => K2 (IA h2 h8 k) (iI 0) (by show (0 : Int) ≤ 1048576;omega)
theorem XJ {c : Cx} {gs : List G} (h : oQ c gs) (hn : 0 < c.bs.length) : ∃ g i,qL gs 0 = some (g,i) := by
  obtain ⟨g,e,_⟩ := XI (h.mid.find (b := 0) ⟨by omega,by omega⟩)
  exact ⟨g,_,e⟩
end Go.Ld
namespace Go.Proofs.YtbialaoigijlgaaGreatDoor
open Go Go.Ab Go.Ld
attribute [local irreducible] VC AW bT aQ jI
set_option maxHeartbeats 4000000
theorem TV (c : Cx) (gs : List G) (b : Int) (hl : gs.length ≤ 1000000) (hg : ∀ g,g ∈ gs → g.1.length ≤ 1000000) {g : G} {i : Nat} (h : qL gs b = some (g,i)) :
    aQ Tryz.prog 45 [.ptr 0 0,.i b] [.cells (fQ c gs)] (.tup [KQ g,.i i,.b true]) [.cells (fQ c gs)] := by
  obtain ⟨k,h1,h2,h3,rfl⟩ := oZ h;have hf := tT gs b hl hg;rw [h1] at hf;have hgl : (gZ gs).length = gs.length := gY _;have hkl := (aA.1 h2).1;have q : (gZ gs)[((k : Int)).toNat]? = some (gA g) := by rw [bR,bJ,h2];rfl
  have hix := rD g.1 b (by have := hg g (aJ h2);omega)
  have hxi : sJ g.1 b 0 = ((g.1.idxOf b : Nat) : Int) := by have := tI g.1 b 0 h3;simpa using this
  rw [hxi] at hix;generalize g.1.idxOf b = ia at *;obtain ⟨bs,ws⟩ := g;dsimp only at *;refine bK T Tryz.func45 rfl rfl rfl rfl ?_
  (repeat' (first|refine wS ?_|refine wK ?_|refine wR ?_|refine wU ?_|(refine rg 0 (bS (bH T rfl) rfl (pG ?_)))|(refine rg 1 (mW rfl (nV ?_));refine iX T rfl (mW rfl (vV (kC (hf)) (aV ?_))))|(refine rg 2 (mW rfl (vV (aN rfl rfl) ?_)))|(refine lE (id := 4) 17 34 zL6 zL7 (rM 17 17) zL8 cM rfl (by decide +kernel) (by decide +kernel) ?_;(dsimp only [List.take,List.drop]);refine dN rfl (dV rfl (by exact dR rfl rfl) ?_);refine dP T rfl (dO T rfl (dN rfl (dV rfl (ix T rfl (by omega) (lL _) q) (dO T rfl (dN rfl (dV rfl (by exact dR rfl rfl) ?_))))));refine dP T rfl (dO T rfl (dN rfl (dV rfl (ix T rfl (by omega) (lL _) q) (dP T rfl (dO T rfl (dN rfl (dV rfl (kC (hix)) (dE ?_))))))));refine fT ?_;refine aR T rfl rfl rfl rfl rfl rfl (by decide) rfl (pG ?_))|refine nZ ?_));all_goals try (exfalso;omega)
  all_goals exact ⟨.inl rfl,[0],_,rfl,rfl,rfl,⟨.inr rfl,trivial⟩,by decide,xA _⟩
theorem IU (c : Cx) (gs : List G) (b : Int) (h : oQ c gs) {g : G} {i : Nat} (hg : qL gs b = some (g,i)) :
    aQ Tryz.prog 10 [.ptr 0 0,.i b] [.cells (fQ c gs)] (.sl 1 0 g.2.length 3) [.cells (fQ c gs),.arr (eW g.2) 3] := by
  obtain ⟨k0,h1,h2,h3,h4⟩ := oZ hg;have hgm := aJ h2;have og := h.mid.out.ok g hgm;have hwl := h.mid.wl g hgm;have hl12 : gs.length ≤ 12 := bX h.mid.out.len h.mid.out.ln;have hgr := TV c gs b (by omega) (fun x hx => by have := (h.mid.out.ok x hx).ln;omega) hg
  have hln := og.ln;have hcl : ∀ k (h : k < g.2.length),aQ Tryz.prog 47 [P7 g.2[k]] [] (P7 g.2[k]) [] := fun k hk => by
    have ow := og.ws _ (aK hk);have e1 := ow.pl;have e2 := ow.cl;exact II _ ⟨by omega,by omega⟩
  obtain ⟨bs,ws⟩ := g;dsimp only at *;have hwsl : (eW ws).length = ws.length := eB _;refine bK T Tryz.func10 rfl rfl rfl rfl ?_
  (repeat' (first|refine wS ?_|(refine rg 0 (aV ?_))|(refine rg 1 (eG rfl (dW [0] rfl rfl (hgr) rfl rfl (by decide) ⟨.inr rfl,trivial⟩ (by simp) rfl ?_));refine mW rfl (xW rfl (xW rfl (xW rfl (bS (bH T rfl) rfl (aR T rfl rfl rfl rfl rfl rfl (by decide) rfl (pG ?_)))))))|refine nZ ?_));all_goals try (exfalso;omega)
  refine fJ 5 (cs := gA (bs,ws)) rfl rfl rfl ?_
  (repeat' (first|refine wS ?_|(refine rg 2 (vV (fA rfl) (pH 8 3 rfl (by decide) ?_)))|refine nZ ?_));all_goals try (exfalso;omega)
  (repeat' (first|refine wB ?_|(refine rg 3 (iX T rfl (qW T rfl (mV ?_))))|refine nZ ?_));all_goals try (exfalso;omega)
  refine cT (X := {k : Nat // k ≤ ws.length}) (fun k => [(8,.sl 1 0 k.1 3),(19,.rowE (eW ws) 3),(20,.i (eW ws).length),(21,.i k.1)]) (fun k => [.cells (fQ c gs),.arr (eW (ws.take k.1)) 3]) (fun k => ws.length - k.1) ⟨0,bW _⟩ ⟨[0,2],rfl,(by repeat first|exact trivial|refine ⟨rfl,?_⟩),⟨.inr rfl,.inr rfl,trivial⟩,by decide,xA _⟩ ?_
  rintro ⟨k,hk⟩;dsimp only;by_cases hlt : k < ws.length
  · have hgk := nE hlt;have hc := hcl k hlt;have q4 : (eW (ws.take k)).length = k := by rw [eB,aU];omega
    have q5 : eW (ws.take (k + 1)) = eW (ws.take k) ++ [wA ws[k]] := by rw [aO hlt,eW,cN];rfl
    have q6 := bD (ws.take (k + 1));have q7 := bD (ws.take k);generalize eW (ws.take k) = A at *;generalize ws[k] = w at *;obtain ⟨wp,wm,wc⟩ := w
    try dsimp only at *
    (repeat' (first|refine wS ?_|refine wB ?_|refine wK ?_|(refine wC rfl ?_ ?_<;>(intro hb;(try simp only [nm] at hb);try (exfalso;omega)))|(refine rg 4 (vV (aN rfl rfl) ?_))|(refine rg 5 (vV (ix T rfl (by omega) (jE _) hgk) (lW T rfl (bS (bH T rfl) rfl (aR T rfl rfl rfl rfl rfl rfl (by decide) rfl ?_)))))|refine nZ ?_));all_goals try (exfalso;omega)
    refine fJ 10 (cs := wA (wp,wm,wc)) rfl rfl rfl ?_
    (repeat' (first|(refine rg 6 (mW rfl (lW T rfl (vV (kC (hc)) (bS (by exact bC T rfl rfl (by decide) (by decide) rfl rfl rfl) rfl ?_))));refine fY T rfl rfl rfl rfl rfl rfl (by omega) (kE.whole rfl rfl) rfl (by simp;omega) (by simp;omega) rfl ?_;refine aV ?_)|(refine rg 7 (vV (bF rfl rfl (by omega) (by omega)) (mV ?_)))|refine nZ ?_));all_goals try (exfalso;omega)
    exact ⟨⟨k + 1,hlt⟩,by dsimp only;omega,⟨[0,4],rfl,(by repeat first|exact trivial|refine ⟨rfl,?_⟩),⟨.inr rfl,.inr (aG rfl (by dsimp only;rw [q5];exact kJ q4.symm) q6),trivial⟩,by decide,xA _⟩⟩
  · obtain rfl : k = ws.length := by omega
    rw [cO]
    (repeat' (first|refine wS ?_|refine wR ?_|refine wE ?_|(refine wC rfl ?_ ?_<;>(intro hb;(try simp only [nm] at hb);try (exfalso;omega)))|(refine rg 4 (vV (aN rfl rfl) ?_))|(refine rg 8 (mW rfl (aV ?_)))|refine nZ ?_));all_goals try (exfalso;omega)
    exact ⟨.inl rfl,[0,1],_,rfl,rfl,rfl,⟨.inr rfl,.inr (aG rfl rfl (bD _)),trivial⟩,by decide,xA _⟩
end Go.Proofs.YtbialaoigijlgaaGreatDoor
