/-
  Texts of the logic and of the layer,in one module (part 7).
-/
import Derived.Test.YtbialaoigijlgaaGreatDoorG6
import Derived.Shelf.Lay
import Derived.Shelf.Strings.Builder1
import Derived.Shelf.Strconv.Itoa4
import Derived.Ground.NamesProg
set_option linter.unusedVariables false
set_option linter.unusedSimpArgs false
set_option linter.unnecessarySimpa false
namespace Go.Ld
open Go.Ab Go.Proofs.YtbialaoigijlgaaGreatDoor
def CH (c : Cx) (s : Ev) (g : G) (w : W) : List W :=
  (if (jP c w (g.1.idxOf s.a) s).2 then [(jP c w (g.1.idxOf s.a) s).1] else []) ++ (if s.k = 4 then [D7 w (g.1.idxOf s.a) (g.1.idxOf s.b)] else [])
def sI (c : Cx) (s : Ev) (g : G) (k : Nat) : List W := (g.2.take k).flatMap (CH c s g)
theorem KI (c : Cx) (s : Ev) (g : G) : sI c s g g.2.length = pC c s g := by unfold sI;rw [dA];rfl
theorem M9 {c : Cx} {s : Ev} {g : G} {k : Nat} (h : k < g.2.length) : sI c s g (k + 1) = sI c s g k ++ CH c s g g.2[k] := by
  unfold sI;rw [aR h,fR,cD,WH,List.append_nil]
theorem JN {c : Cx} {s : Ev} {g : G} {w : W} : (CH c s g w).length ≤ 2 := by
  unfold CH;rw [aD];split <;> split <;> simp
theorem U2 {c : Cx} {s : Ev} {g : G} : ∀ {k : Nat}, k ≤ g.2.length → (sI c s g k).length ≤ 2 * k
  | 0,_ => by simp [sI]
  | k + 1,h => by
    rw [M9 (by omega),aD]
    have := U2 (c := c) (s := s) (g := g) (k := k) (by omega)
    have := JN (c := c) (s := s) (g := g) (w := g.2[k]'(by omega))
    omega
theorem TL (l : List Int) : AB.rf (.arr (Go.Ab.ints l) 1) = true := by
  show (Go.Ab.ints l).all AV.rfL = true;rw [bB];intro e he;obtain ⟨x,_,rfl⟩ := bM.1 he;rfl
theorem NL (l : List SP) : AB.rf (.arr (eO l) 2) = true := by
  show (eO l).all AV.rfL = true;rw [bB];intro e he;obtain ⟨x,_,rfl⟩ := bM.1 he;rfl
theorem TK (a : List Int) (b : List SP) : [AB.arr (Go.Ab.ints a) 1,.arr (eO b) 2].all AB.rf = true := by
  simp only [I5,TL,NL,List.all_nil,Bool.and_self]
theorem CD {c : Cx} {n : Nat} {gs : List G} (h : mF n gs) : mF n (K5 c gs) := by
  have h := h.paid c;unfold K5;generalize paid c gs = L at *;have hp := dU cG (L.flatMap fun g => mJ g.1.length g);have hmem : ∀ x,x ∈ xQ L → ∃ g,g ∈ L ∧ x ∈ mJ g.1.length g := fun x hx => nF.1 (hp.mem_iff.1 hx);have bod : ((xQ L).flatMap (·.1)).Perm (L.flatMap (·.1)) := (hp.flatMap_right _).trans (pS fun g hg => vM _ (h.ok g hg));refine ⟨fun x hx => ?_,bod.nodup_iff.2 h.nd,by rw [bod.length_eq];exact h.ln,fun x hx => ?_⟩
  all_goals obtain ⟨g,hg,hx⟩ := hmem x hx
  · exact Y6 _ (h.ok g hg) x hx
  · exact CX (by omega) (h.ws g hg) x hx
abbrev xR (s : Ev) : List AV := [.i s.k,.i s.a,.i s.b,.i s.n,.rowE (Go.Ab.ints s.ids) 1]
end Go.Ld
namespace Go.Proofs.YtbialaoigijlgaaGreatDoor
open Go Go.Ab Go.Ld
attribute [local irreducible] VC AW bV aO jR
set_option maxHeartbeats 4000000
theorem XO (g : G) : aO Tryz.prog 44 [MH g] [] (.b g.2.isEmpty) [] := by
  obtain ⟨bs,ws⟩ := g;cases ws with
  | nil =>
    refine bK T Tryz.func44 rfl rfl rfl rfl ?_
    (repeat' (first|refine wS ?_|refine wR ?_|(refine rg 0 (bT (cQ rfl rfl) rfl (aV ?_)))|(refine rg 1 (hO T rfl (qW T rfl (vV (eW rfl rfl) (aV ?_)))))|refine nZ ?_));all_goals first | (exfalso;omega) | exact rQ
  | cons w ws =>
    have hl : (eY (w :: ws)).length ≠ 0 := by rw [eD];simp
    refine bK T Tryz.func44 rfl rfl rfl rfl ?_
    (repeat' (first|refine wS ?_|refine wR ?_|(refine rg 0 (bT (cQ rfl rfl) rfl (aV ?_)))|(refine rg 1 (hO T rfl (qW T rfl (vV (eW rfl rfl) (aV ?_)))))|refine nZ ?_));all_goals first | (exfalso;omega) | exact rQ
noncomputable def zA8 : Code := match Tryz.f8.body with
  | some (.seq _ (.seq _ (.seq _ (.seq _ c)))) => c
  | _ => .skip
noncomputable def zG3 : Code := match zA8 with
  | .seq a _ => a
  | _ => .skip
noncomputable def zG4 : Code := match zA8 with
  | .seq _ b => b
  | _ => .skip
theorem FN (c : Cx) (l all : List G) (s : Ev) {M : Int} (hc : E5 c) (h : G9 c M all s) (hM : M ≤ 2200000) (hids : s.ids.length ≤ 9223372036854775807) :
    AW Tryz.prog (Tryz.f8.ntmps,1) zG3 [(0,.ptr 0 0),(3,.pr (xR s) 0),(5,.sl 1 0 all.length 2)] [.cells (fT c l),.arr (iB all) 2] (DD (fun v h => AW Tryz.prog (Tryz.f8.ntmps,1) zG4 v h (NM T Tryz.f8.results.toList 1 (.i (H8 c l all s).1) [.cells (fT c (H8 c l all s).2)])) (NM T Tryz.f8.results.toList 1 (.i (H8 c l all s).1) [.cells (fT c (H8 c l all s).2)])) := by
  obtain ⟨i,g,hi,hg,hgm,hat,ha,hb⟩ := h.at;have hn12 := h.mid.n12;have hal : (iB all).length = all.length := gZ _;have hl12 : all.length ≤ 12 := bW h.mid.out.len h.mid.out.ln;have og := h.mid.out.ok g hgm;have hwl := h.mid.wl g hgm;have hln := og.ln;have hil := (aA.1 hg).1;have f1 := vW all s.a (by omega) (fun g hg => by have := (h.mid.out.ok g hg).ln;omega)
  have hvw : ∀ {x : AB} {r : Hp},mT (x :: .arr (iB all) 2 :: r) (.sl 1 0 all.length 2) (.rowE (iB all) 2) := fun {x r} => rX rfl hal.symm (sG (fun _ => rfl) _);have hix := tT g.1 s.a (by omega)
  have hxi : tU g.1 s.a 0 = ((g.1.idxOf s.a : Nat) : Int) := by have := xD g.1 s.a 0 ha;simpa using this
  rw [hxi] at hix;rw [hi] at f1;have q1 := vS (L := all) (j := (i : Int)) (i := i) hg rfl;unfold H8;dsimp only;rw [hat,hi,bR];obtain ⟨bs,ws⟩ := g;dsimp only at *;have hwsl : (eY ws).length = ws.length := eD _
  (repeat' (first|refine wS ?_|(refine rg 9 (mW rfl (fW T rfl (vV (aT T rfl rfl rfl rfl) (vV (by exact eN rfl rfl f1 (.cons hvw (.cons (.v _) .nil)) rfl rfl) ?_))));refine aV ?_)|(refine rg 10 (dQ rfl (vV (by exact aL T rfl rfl rfl rfl rfl (by omega) (by omega)) ?_));refine fW T rfl (vV (by exact aT T rfl rfl (bJ rfl q1) rfl) ?_);refine vV (by exact fB T rfl rfl rfl rfl) ?_;refine bT (bH T rfl) rfl (aQ T rfl rfl rfl rfl rfl rfl (by decide) rfl ?_))|refine nZ ?_));all_goals try (exfalso;omega)
  refine uF 2 1 3 rfl rfl (by decide) ?_
  (repeat' (first|refine wS ?_|refine wB ?_|(refine rg 11 (fW T rfl (vV (aT T rfl rfl rfl rfl) (fW T rfl (vV (aT T rfl rfl rfl rfl) (vV (kC (hix)) (aV ?_)))))))|(refine rg 12 (dQ rfl (vV (by exact aL T rfl rfl rfl rfl rfl (by omega) (by omega)) ?_));refine fW T rfl (vV (by exact aT T rfl rfl (bJ rfl q1) rfl) ?_);refine qW T rfl (mV ?_))|refine nZ ?_));all_goals try (exfalso;omega)
  refine cK (X := {k : Nat // k ≤ ws.length}) (fun k => [(0,.ptr 0 0),(3,.pr (xR s) 0),(5,.sl 1 0 all.length 2),(8,.i i),(9,.ptr 2 0),(10,.i (bs.idxOf s.a : Nat)),(63,.rowE (eY ws) 3),(64,.i (eY ws).length),(65,.i k.1)]) (fun k => [.cells (fT c l),.arr (iB all) 2,.cells [.rowE (ints bs) 1,.sl 3 0 (sI c s (bs,ws) k.1).length 3],.arr (eY (sI c s (bs,ws) k.1)) 3]) (fun k => ws.length - k.1) ⟨0,bP _⟩ ⟨[0,1,2,3],rfl,(by repeat first|exact trivial|refine ⟨rfl,?_⟩),⟨.inr rfl,.inr (aG rfl rfl (eA _)),.inr rfl,.inr rfl,trivial⟩,by decide,yS _⟩ ?_
  rintro ⟨k,hk⟩;dsimp only;by_cases hlt : k < ws.length
  · have hgk := mH hlt;have hst := M9 (c := c) (s := s) (g := (bs,ws)) (k := k) hlt;have hal2 := U2 (c := c) (s := s) (g := (bs,ws)) (k := k) hk;have ow := og.ws ws[k] (aI hlt);obtain ⟨hidx,_⟩ := Z7 ha;have hbw := QW c l ws[k] s hc ow rfl hidx (by show bs.length ≤ 1000;omega) hids ⟨h.n0,h.n1⟩
    obtain ⟨e1,e2⟩ := AU c ws[k] (bs.idxOf s.a) s;have hk4 : s.k = 4 → (jP c ws[k] (bs.idxOf s.a) s).2 = true := fun q => by unfold jP;rw [q];rfl
    have hex : s.k = 4 → ∃ j : Nat,tU bs s.b 0 = (j : Int) ∧ j = bs.idxOf s.b ∧ j < bs.length := fun q => by
      obtain ⟨hj,_⟩ := Z7 (hb q);exact ⟨bs.idxOf s.b,by have := xD bs s.b 0 (hb q);simpa using this,rfl,hj⟩
    have hiy := tT bs s.b (by omega)
    unfold CH at hst;dsimp only at hst;have hpl := ow.pl;have hcl := ow.cl;have hal3 : (eY (sI c s (bs,ws) k)).length = (sI c s (bs,ws) k).length := eD _;generalize sI c s (bs,ws) k = acc at *;generalize hN : sI c s (bs,ws) (k + 1) = acc' at *;generalize bs.idxOf s.a = ia at *;generalize hw : ws[k] = w at *;generalize jP c w ia s = z at *;obtain ⟨⟨zp,zm,zc⟩,zb⟩ := z;dsimp only at e1 e2 hst hk4 hbw;subst e1;obtain ⟨wp,wm,wc⟩ := w;dsimp only at *;have hz1 : (ints wp).length = wp.length := cW _;have hz2 : (eO zc).length = zc.length := fO _
    (repeat' (first|refine wS ?_|refine wB ?_|refine wK ?_|(refine wC rfl ?_ ?_<;>(intro hb;(try simp only [nm] at hb);try (exfalso;omega)))|(refine rg 13 (vV (aJ rfl rfl) ?_))|(refine rg 14 (vV (ix T rfl (by omega) (jB _) hgk) (lW T rfl (bT (bH T rfl) rfl (aQ T rfl rfl rfl rfl rfl rfl (by decide) rfl ?_)))))|refine nZ ?_));all_goals try (exfalso;omega)
    refine fC 12 (cs := wA (wp,wm,wc)) rfl rfl rfl ?_
    (repeat' (first|refine wS ?_|(refine rg 15 (mW rfl (lW T rfl (mW rfl (lW T rfl (bT (by exact fZ rfl rfl hbw (.inl ⟨.cons (.ptr rfl (fK _ rfl)) (.cons (X4 _) (.cons (.v _) (.cons (.agg (fK _ rfl)) .nil))),TK _ _⟩)) rfl ?_)))));refine mW rfl (xW rfl (xW rfl (bT (bH T rfl) rfl (aQ T rfl rfl rfl rfl rfl rfl (by decide) rfl (aV ?_))))))|refine nZ ?_));all_goals try (exfalso;omega)
    refine eP [(0, .ptr 0 0), (3, .pr (xR s) 0), (5, .sl 1 0 all.length 2), (8, .i i), (9, .ptr 2 0), (10, .i ia), (63, .rowE (eY ws) 3), (64, .i (eY ws).length), (65, .i k), (12, .pr (wA (wp, wm, wc)) 0), (13, .ptr 6 0), (14, .b zb)] [.cells (fT c l), .arr (iB all) 2, .cells [.rowE (ints bs) 1, .sl 3 0 acc.length 3], .arr (eY acc) 3, .arr (ints wp) 1, .arr (eO zc) 2, .cells [.sl 4 0 wp.length 1, .i zm, .sl 5 0 wc.length 2]]
      ⟨[0,1,2,3,5,6,7],rfl,(by repeat first|exact trivial|refine ⟨rfl,?_⟩),⟨.inr rfl,.inr (aG rfl rfl (eA _)),.inr rfl,.inr (aG rfl rfl (bE _)),.inr (aG rfl (cE _ (bO _)) (bO _)),.inr (aG rfl (cE _ (eZ _)) (eZ _)),.inr rfl,trivial⟩,by decide,yS _⟩ ?_
    refine mB 6 0 (es := ints wp) rfl rfl rfl hz1.symm (gD (bO _)) ?_;refine mB 6 2 (es := eO zc) rfl rfl rfl (by omega) (gD (eZ _)) ?_
    refine fC 13 (cs := wA (wp,zm,zc)) rfl rfl rfl ?_;refine eP [(0, .ptr 0 0), (3, .pr (xR s) 0), (5, .sl 1 0 all.length 2), (8, .i i), (9, .ptr 2 0), (10, .i ia), (63, .rowE (eY ws) 3), (64, .i (eY ws).length), (65, .i k), (12, .pr (wA (wp, wm, wc)) 0), (13, .pr (wA (wp, zm, zc)) 0), (14, .b zb)] [.cells (fT c l), .arr (iB all) 2, .cells [.rowE (ints bs) 1, .sl 3 0 acc.length 3], .arr (eY acc) 3]
      ⟨[0,1,2,3],rfl,(by repeat first|exact trivial|refine ⟨rfl,?_⟩),⟨.inr rfl,.inr (aG rfl rfl (eA _)),.inr rfl,.inr (aG rfl rfl (bE _)),trivial⟩,by decide,yS _⟩ ?_
    have hA1 : ∀ (l : List W) (w : W),eY (l ++ [w]) = eY l ++ [wA w] := fun l w => by rw [eY,dB];rfl
    by_cases k4 : s.k = 4
    · obtain rfl := hk4 k4;rw [if_pos rfl,if_pos k4] at hst;obtain ⟨j,hj1,hj2,hj3⟩ := hex k4;rw [hj1] at hiy;rw [← hj2] at hst;have hxc := YQ (wp,wm,wc) (i := ia) (k := j) ⟨by dsimp only;omega,by dsimp only;omega⟩ (by dsimp only;omega) (by dsimp only;omega) (by dsimp only;omega)
      generalize D7 (wp,wm,wc) ia j = u at *;obtain ⟨up,um,uc⟩ := u;have hW := hA1 acc (wp,zm,zc);have hW2 := hA1 (acc ++ [(wp,zm,zc)]) (up,um,uc);rw [bD,← hst] at hW2;have hacl : acc'.length = acc.length + 2 := by rw [hst];simp
      have hWl : (eY (acc ++ [(wp,zm,zc)])).length = acc.length + 1 := by rw [eD];simp
      have hidA := bE (acc ++ [(wp,zm,zc)]);generalize eY (acc ++ [(wp,zm,zc)]) = B at *;generalize eY acc = A at *
      (repeat' (first|refine wS ?_|refine wT ?_|(refine rg 16 (mV ?_))|(refine rg 17 (hO T rfl (lW T rfl (bT (by exact bC T rfl rfl (by decide) (by decide) rfl rfl rfl) rfl ?_)));refine gR T rfl rfl rfl rfl rfl rfl (by omega) (kX.whole rfl rfl) rfl (by simp;omega) (by simp;omega) rfl ?_;refine fW T rfl (aQ T rfl rfl rfl rfl rfl rfl (by decide) rfl ?_))|refine nZ ?_));all_goals try (exfalso;omega)
      refine eP [(0, .ptr 0 0), (3, .pr (xR s) 0), (5, .sl 1 0 all.length 2), (8, .i i), (9, .ptr 2 0), (10, .i ia), (63, .rowE (eY ws) 3), (64, .i (eY ws).length), (65, .i k), (12, .pr (wA (wp, wm, wc)) 0)] [.cells (fT c l), .arr (iB all) 2, .cells [.rowE (ints bs) 1, .sl 3 0 (acc.length + 1) 3], .arr B 3]
        ⟨[0,1,2,5],rfl,(by repeat first|exact trivial|refine ⟨rfl,?_⟩),⟨.inr rfl,.inr (aG rfl rfl (eA _)),.inr rfl,.inr (aG rfl (by rw [hW];exact lT hal3.symm) hidA),trivial⟩,by decide,yS _⟩ ?_
      (repeat' (first|refine wT ?_|(refine rg 18 (hO T rfl (vV (kE rfl rfl k4) ?_)))|(refine pY (id := 19) 128 [[],[0],[],[],[],[4],[],[6],rM 4 4,rM 2 7,rM 2 8,rN 11] (rM 87 12) [[],[],[87,88],[87,88,89],rM 87 4,rM 87 4,rM 87 6,rM 87 6,rM 87 4,[87,88],[87,88],[]] [(11,3)] cN rfl (by decide +kernel) (eT rfl rfl rfl rfl (by exact bY T rfl rfl rfl) ?_);refine eT rfl rfl rfl rfl (by exact aT T rfl rfl rfl rfl) ?_;refine eT rfl rfl rfl rfl (by exact aT T rfl rfl rfl rfl) ?_;refine eT rfl rfl rfl rfl (by exact bU rfl) ?_;refine eT rfl rfl rfl rfl (by exact bY T rfl rfl rfl) ?_;refine eT rfl rfl rfl rfl (by exact aT T rfl rfl rfl rfl) ?_;refine eT rfl rfl rfl rfl (by exact bY T rfl rfl rfl) ?_;refine eT rfl rfl rfl rfl (by exact aT T rfl rfl rfl rfl) ?_;refine eT rfl rfl rfl rfl (by exact kC (hiy)) ?_;refine eT rfl rfl rfl rfl (by exact kC (hxc)) ?_;refine G5 rfl rfl rfl rfl (by exact bC T rfl rfl (by decide) (by decide) rfl rfl rfl) rfl ?_;refine vY rfl rfl rfl rfl (aN rfl) (by exact pZ T rfl rfl rfl rfl rfl rfl (by omega) (kX.whole rfl rfl) rfl (by simp;omega) (by simp;omega)) ?_;refine xH rfl rfl rfl (by exact rfl) ?_;refine fW T rfl (aQ T rfl rfl rfl rfl rfl rfl (by decide) rfl ?_))|(refine rg 20 (vV (bS rfl rfl (by omega) (by omega)) (mV ?_)))|refine nZ ?_));all_goals try (exfalso;omega)
      exact ⟨⟨k + 1,hlt⟩,by dsimp only;omega,⟨[0,1,2,5],rfl,(by repeat first|exact trivial|refine ⟨rfl,?_⟩),⟨.inr rfl,.inr (aG rfl rfl (eA _)),.inr (by dsimp only;rw [hN,hacl];rfl),.inr (aG rfl (by dsimp only;rw [hN,hW2];exact lT hWl.symm) (bE _)),trivial⟩,by decide,yS _⟩⟩
    · rw [if_neg k4,List.append_nil] at hst;cases zb with
      | true =>
        rw [if_pos rfl] at hst;have hW := hA1 acc (wp,zm,zc);rw [← hst] at hW;have hacl : acc'.length = acc.length + 1 := by rw [hst];simp
        generalize eY acc = A at *
        (repeat' (first|refine wS ?_|refine wK ?_|refine wT ?_|refine wU ?_|(refine rg 16 (mV ?_))|(refine rg 17 (hO T rfl (lW T rfl (bT (by exact bC T rfl rfl (by decide) (by decide) rfl rfl rfl) rfl ?_)));refine gR T rfl rfl rfl rfl rfl rfl (by omega) (kX.whole rfl rfl) rfl (by simp;omega) (by simp;omega) rfl ?_;refine fW T rfl (aQ T rfl rfl rfl rfl rfl rfl (by decide) rfl ?_))|(refine rg 18 (hO T rfl (vV (fP rfl rfl (by omega)) ?_)))|(refine rg 20 (vV (bS rfl rfl (by omega) (by omega)) (mV ?_)))|refine nZ ?_));all_goals try (exfalso;omega)
        exact ⟨⟨k + 1,hlt⟩,by dsimp only;omega,⟨[0,1,2,5],rfl,(by repeat first|exact trivial|refine ⟨rfl,?_⟩),⟨.inr rfl,.inr (aG rfl rfl (eA _)),.inr (by dsimp only;rw [hN,hacl];rfl),.inr (aG rfl (by dsimp only;rw [hN,hW];exact lT hal3.symm) (bE _)),trivial⟩,by decide,yS _⟩⟩
      | false =>
        rw [if_neg (by simp),List.append_nil] at hst
        subst hst
        (repeat' (first|refine wS ?_|refine wK ?_|refine wU ?_|(refine rg 16 (mV ?_))|(refine rg 18 (hO T rfl (vV (fP rfl rfl (by omega)) ?_)))|(refine rg 20 (vV (bS rfl rfl (by omega) (by omega)) (mV ?_)))|refine nZ ?_));all_goals try (exfalso;omega)
        exact ⟨⟨k + 1,hlt⟩,by dsimp only;omega,⟨[0,1,2,3],rfl,(by repeat first|exact trivial|refine ⟨rfl,?_⟩),⟨.inr rfl,.inr (aG rfl rfl (eA _)),.inr (by dsimp only;rw [hN];rfl),.inr (aG rfl (by dsimp only;rw [hN]) (bE _)),trivial⟩,by decide,yS _⟩⟩
  · obtain rfl : k = ws.length := by omega
    have hNA := KI c s (bs,ws);dsimp only at hNA;rw [hNA];have hnl := KH (c := c) (s := s) (g := (bs,ws));dsimp only at hnl;have hno : ∀ w,w ∈ pC c s (bs,ws) → BF c.bs.length bs.length w := fun w hw => (DB h.mid hM hgm h.n0 ha hb hw).1;have hoc := U0 (pC c s (bs,ws)) (by omega) (fun w hw => ⟨by have := (hno w hw).pl;omega,by have := (hno w hw).cl;omega⟩)
    have hnx := h.next hM hg ha hb
    dsimp only at hnx;have hol := vP (pC c s (bs,ws));have hNl : (eY (pC c s (bs,ws))).length = (pC c s (bs,ws)).length := eD _;generalize pC c s (bs,ws) = nw at *
    (repeat' (first|refine wS ?_|refine wE ?_|(refine wC rfl ?_ ?_<;>(intro hb;(try simp only [nm] at hb);try (exfalso;omega)))|(refine rg 13 (vV (aJ rfl rfl) ?_))|refine nZ ?_));all_goals try (exfalso;omega)
    refine mB 2 1 (es := eY nw) rfl rfl rfl hNl.symm (gD (bE _)) ?_;generalize iE nw = ow at *;have how : (eY ow).length = ow.length := eD _
    (repeat' (first|refine wS ?_|refine wB ?_|(refine rg 21 (hO T rfl (vV (kC (hoc)) (fW T rfl (aQ T rfl rfl rfl rfl rfl rfl (by decide) rfl ?_)))))|refine nZ ?_));all_goals try (exfalso;omega)
    refine eP [(0,.ptr 0 0),(3,.pr (xR s) 0),(5,.sl 1 0 all.length 2),(8,.i i),(9,.ptr 2 0)] [.cells (fT c l),.arr (iB all) 2,.cells (gA (bs,ow))] ⟨[0,1,2],rfl,(by repeat first|exact trivial|refine ⟨rfl,?_⟩),⟨.inr rfl,.inr (aG rfl rfl (eA _)),.inr rfl,trivial⟩,by decide,yS _⟩ ?_
    by_cases h0 : ow = []
    · subst h0;rw [if_pos rfl]
      (repeat' (first|refine wS ?_|refine wR ?_|refine wT ?_|(refine rg 22 (hO T rfl (qW T rfl (vV (eW rfl rfl) (aV ?_)))))|(refine rg 23 (aV ?_))|refine nZ ?_));all_goals try (exfalso;omega)
      exact ⟨.inl rfl,[0],_,rfl,rfl,rfl,⟨.inr rfl,trivial⟩,by decide,yS _⟩
    · rw [if_neg h0];have hop := dY.2 h0;by_cases h1 : 1000 < ow.length
      · rw [if_pos h1]
        (repeat' (first|refine wS ?_|refine wR ?_|(refine wC rfl ?_ ?_<;>(intro hb;(try simp only [nm] at hb);try (exfalso;omega)))|(refine rg 22 (hO T rfl (qW T rfl (vV (eW rfl rfl) (aV ?_)))))|(refine rg 24 (hO T rfl (qW T rfl (vV (fU rfl rfl) (aV ?_)))))|(refine rg 25 (aV ?_))|refine nZ ?_));all_goals try (exfalso;omega)
        exact ⟨.inl rfl,[0],_,rfl,rfl,rfl,⟨.inr rfl,trivial⟩,by decide,yS _⟩
      · rw [if_neg h1];obtain ⟨hm1,hasc⟩ := hnx h0 (by omega)
        have hty := SW c l (all.set i (bs,ow)) hm1.out hm1.up hm1.ne;have hset := zQ (L := all) (j := (i : Int)) (i := i) (x := (bs,ow)) rfl;have hto := (CD hm1.out (c := c)).len;have hto2 := (CD hm1.out (c := c)).ln;have hcf := YF (l := K5 c (all.set i (bs,ow))) (F := 44) (caps := []) (p := fun g => g.2.isEmpty) (by omega) rfl (fun x hx => XO x)
        have hNl2 : all.length = (iB (all.set i (bs,ow))).length := by rw [gZ,fX]
        (repeat' (first|refine wS ?_|refine wK ?_|(refine wC rfl ?_ ?_<;>(intro hb;(try simp only [nm] at hb);try (exfalso;omega)))|(refine rg 22 (hO T rfl (qW T rfl (vV (eW rfl rfl) (aV ?_)))))|(refine rg 24 (hO T rfl (qW T rfl (vV (fU rfl rfl) (aV ?_)))))|(refine rg 26 (dQ rfl (lW T rfl (vV (by exact aL T rfl rfl rfl rfl rfl (by omega) (by omega)) ?_)));refine aQ T rfl rfl rfl rfl rfl rfl (by decide) (lP rfl q1 rfl) ?_)|refine nZ ?_));all_goals try (exfalso;omega)
        generalize all.set i (bs,ow) = N at *;refine eP [(0,.ptr 0 0),(5,.sl 1 0 all.length 2)] [.cells (fT c l),.arr (iB N) 2] ⟨[0,1],rfl,(by repeat first|exact trivial|refine ⟨rfl,?_⟩),⟨.inr rfl,.inr (aG rfl hset (eA _)),trivial⟩,by decide,yS _⟩ ?_
        refine E0 5 (es := iB N) rfl rfl hNl2 (gD (eA _)) ?_;generalize K5 c N = out at *
        (repeat' (first|refine wS ?_|(refine rg 27 (dQ rfl (eJ [0] rfl rfl (hty) rfl rfl (by decide) ⟨.inr rfl,trivial⟩ (by simp) rfl ?_));refine aV ?_)|refine nZ ?_));all_goals try (exfalso;omega)
        cases hany : out.any fun g => g.2.isEmpty with
        | true =>
          rw [hany] at hcf;rw [if_pos rfl]
          (repeat' (first|refine wS ?_|refine wR ?_|refine wT ?_|(refine rg 28 (mW rfl (vV (kC (hcf)) ?_)))|(refine rg 29 (aV ?_))|refine nZ ?_));all_goals try (exfalso;omega)
          exact ⟨.inl rfl,[0],_,rfl,rfl,rfl,⟨.inr rfl,trivial⟩,by decide,yS _⟩
        | false =>
          rw [hany] at hcf;rw [if_neg (by simp)]
          (repeat' (first|refine wS ?_|refine wK ?_|refine wR ?_|refine wU ?_|(refine rg 28 (mW rfl (vV (kC (hcf)) ?_)))|(refine rg 30 (dQ rfl (nV ?_));refine fW T rfl (aQ T rfl rfl rfl rfl rfl rfl (by decide) rfl ?_))|(refine rg 31 (aV ?_))|refine nZ ?_));all_goals try (exfalso;omega)
          exact ⟨.inl rfl,[0],_,rfl,rfl,rfl,⟨.inr rfl,trivial⟩,by decide,yS _⟩
theorem HT (c : Cx) (gs : List G) (s : Ev) (hc : E5 c) (h : oU c gs) (hids : s.ids.length ≤ 9223372036854775807) :
    aO Tryz.prog 8 [.ptr 0 0,zJ2 s] [.cells (fT c gs)] (.i (yA c gs s).1) [.cells (fT c (yA c gs s).2)] := by
  have hn12 := h.mid.n12;obtain ⟨hm0,hm1,_⟩ := hc.s;have hgl : (iB gs).length = gs.length := gZ _;have hgl12 : gs.length ≤ 12 := bW h.mid.out.len h.mid.out.ln;have hbl : (fS c.bs).length = c.bs.length := bF _;have hright := NK c.bs.length s.k s.a s.b s.n s.ids hids ⟨by omega,by omega⟩
  have hcl := O6 gs (by omega)
  have hst := T4 (s := s) h (by omega) hm0
  have hjo := fun (hr : lZ c.bs.length s = true) (hk : s.k = 4) (all : List G) => L2 (s := s) (all := all) h (by omega) hm0 hm1 hr hk
  unfold yA;generalize hv : lZ c.bs.length s = v at *;rw [← hbl] at hright;cases v with
  | false =>
    rw [if_neg (by simp)]
    refine bK T Tryz.func8 rfl rfl rfl rfl ?_
    (repeat' (first|refine wS ?_|(refine rg 0 (bT (cQ rfl rfl) rfl (aV ?_)))|refine nZ ?_));refine fC 3 (cs := xR s) rfl rfl rfl ?_
    (repeat' (first|refine wS ?_|refine wR ?_|refine wT ?_|(refine cJ (id := 1) 128 zO4 (rM 15 8) zO5 cN rfl (by decide +kernel) (dN rfl (dV rfl (by exact eE rfl rfl) ?_));refine dP T rfl (dO T rfl (dV rfl (fY T rfl rfl) (dO T rfl (dV rfl (kC (hright)) (dV rfl (eL rfl) (dE ?_)))))))|(refine rg 2 (aV ?_))|refine nZ ?_));all_goals try (exfalso;omega)
    exact ⟨.inl rfl,[0],_,rfl,rfl,rfl,⟨.inr rfl,trivial⟩,by decide,yS _⟩
  | true =>
    rw [if_pos rfl];by_cases k4 : s.k = 4
    · rw [if_pos k4];obtain ⟨r1,r2,_⟩ := vI hv (by omega)
      have r2 := r2 k4;have fa := h.mid.find r1;have fb := h.mid.find (b := s.b) ⟨by omega,by omega⟩
      cases hj : join gs s.a s.b with
      | none =>
        dsimp only;have hjc := UJ gs s.a s.b h.mid.out fa fb hj;refine bK T Tryz.func8 rfl rfl rfl rfl ?_
        (repeat' (first|refine wS ?_|(refine rg 0 (bT (cQ rfl rfl) rfl (aV ?_)))|refine nZ ?_));refine fC 3 (cs := xR s) rfl rfl rfl ?_
        (repeat' (first|refine wS ?_|refine wK ?_|refine wU ?_|(refine cJ (id := 1) 128 zO4 (rM 15 8) zO5 cN rfl (by decide +kernel) (dN rfl (dV rfl (by exact eE rfl rfl) ?_));refine dP T rfl (dO T rfl (dV rfl (fY T rfl rfl) (dO T rfl (dV rfl (kC (hright)) (dV rfl (eL rfl) (dE ?_)))))))|(refine rg 3 (mW rfl (nV ?_));refine hO T rfl (bT (by exact fZ rfl rfl hcl (.inr ⟨rfl,rfl,by simp⟩)) rfl ?_);refine aV ?_)|refine nZ ?_));all_goals try (exfalso;omega)
        refine eP [(0,.ptr 0 0),(3,.pr (xR s) 0),(5,.sl 1 0 gs.length 2)] [.cells (fT c gs),.arr (iB gs) 2] ⟨[0,2],rfl,(by repeat first|exact trivial|refine ⟨rfl,?_⟩),⟨.inr rfl,.inr (aG rfl (cE _ (eA _)) (eA _)),trivial⟩,by decide,yS _⟩ ?_
        refine E0 5 (es := iB gs) rfl rfl hgl.symm (gD (eA _)) ?_
        (repeat' (first|refine wS ?_|refine wR ?_|refine wT ?_|(refine rg 4 (hO T rfl (vV (kE rfl rfl k4) ?_)))|(refine rg 5 (mW rfl (hO T rfl (hO T rfl (vV (kC (hjc)) (mW rfl (xW rfl (xW rfl (qA ?_)))))))))|(refine rg 6 (mW rfl (vV (fF rfl rfl) ?_)))|(refine rg 7 (mW rfl (aV ?_)))|refine nZ ?_));all_goals try (exfalso;omega)
        exact ⟨.inl rfl,[0],_,rfl,rfl,rfl,⟨.inr rfl,trivial⟩,by decide,yS _⟩
      | some all =>
        dsimp only;have hso := hjo rfl k4 all hj;refine bK T Tryz.func8 rfl rfl rfl rfl ?_
        (repeat' (first|refine wS ?_|(refine rg 0 (bT (cQ rfl rfl) rfl (aV ?_)))|refine nZ ?_));refine fC 3 (cs := xR s) rfl rfl rfl ?_
        (repeat' (first|refine wS ?_|refine wK ?_|refine wU ?_|(refine cJ (id := 1) 128 zO4 (rM 15 8) zO5 cN rfl (by decide +kernel) (dN rfl (dV rfl (by exact eE rfl rfl) ?_));refine dP T rfl (dO T rfl (dV rfl (fY T rfl rfl) (dO T rfl (dV rfl (kC (hright)) (dV rfl (eL rfl) (dE ?_)))))))|(refine rg 3 (mW rfl (nV ?_));refine hO T rfl (bT (by exact fZ rfl rfl hcl (.inr ⟨rfl,rfl,by simp⟩)) rfl ?_);refine aV ?_)|refine nZ ?_));all_goals try (exfalso;omega)
        refine eP [(0,.ptr 0 0),(3,.pr (xR s) 0),(5,.sl 1 0 gs.length 2)] [.cells (fT c gs),.arr (iB gs) 2] ⟨[0,2],rfl,(by repeat first|exact trivial|refine ⟨rfl,?_⟩),⟨.inr rfl,.inr (aG rfl (cE _ (eA _)) (eA _)),trivial⟩,by decide,yS _⟩ ?_
        by_cases hs : nE gs s.a = nE gs s.b
        · have hjc := UH gs s.a s.b h.mid.out fa fb hs;have : all = gs := by unfold join at hj;dsimp only at hj;rw [if_pos hs] at hj;exact (Option.some.inj hj).symm
          subst this
          (repeat' (first|refine wS ?_|refine wK ?_|refine wT ?_|refine wU ?_|(refine rg 4 (hO T rfl (vV (kE rfl rfl k4) ?_)))|(refine rg 5 (mW rfl (hO T rfl (hO T rfl (eJ [1] rfl rfl (hjc) rfl rfl (by decide) ⟨.inr (aG rfl rfl (eA _)),trivial⟩ (by simp) rfl ?_))));refine mW rfl (xW rfl (xW rfl (qA ?_))))|(refine rg 6 (mW rfl (vV (fF rfl rfl) ?_)))|(refine rg 8 (mW rfl (aV ?_)))|refine nZ ?_));all_goals try (exfalso;omega)
          refine eP [(0,.ptr 0 0),(3,.pr (xR s) 0),(5,.sl 1 0 all.length 2)] [.cells (fT c all),.arr (iB all) 2] ⟨[0,1],rfl,(by repeat first|exact trivial|refine ⟨rfl,?_⟩),⟨.inr rfl,.inr (aG rfl (cE _ (eA _)) (eA _)),trivial⟩,by decide,yS _⟩ ?_
          exact FN c all all s hc hso (by omega) hids
        · have hjc := UI gs s.a s.b h.mid.out fa fb hj hs;refine E0 5 (es := iB gs) rfl rfl hgl.symm (gD (eA _)) ?_
          (repeat' (first|refine wS ?_|refine wK ?_|refine wT ?_|refine wU ?_|(refine rg 4 (hO T rfl (vV (kE rfl rfl k4) ?_)))|(refine rg 5 (mW rfl (hO T rfl (hO T rfl (bT (by exact fZ rfl rfl hjc (.inr ⟨rfl,rfl,by simp⟩)) rfl ?_))));refine mW rfl (xW rfl (xW rfl (qA ?_))))|(refine rg 6 (mW rfl (vV (fF rfl rfl) ?_)))|(refine rg 8 (mW rfl (aV ?_)))|refine nZ ?_));all_goals try (exfalso;omega)
          refine eP [(0,.ptr 0 0),(3,.pr (xR s) 0),(5,.sl 1 0 all.length 2)] [.cells (fT c gs),.arr (iB all) 2] ⟨[0,2],rfl,(by repeat first|exact trivial|refine ⟨rfl,?_⟩),⟨.inr rfl,.inr (aG rfl (cE _ (eA _)) (eA _)),trivial⟩,by decide,yS _⟩ ?_
          exact FN c gs all s hc hso (by omega) hids
    · rw [if_neg k4];refine bK T Tryz.func8 rfl rfl rfl rfl ?_
      (repeat' (first|refine wS ?_|(refine rg 0 (bT (cQ rfl rfl) rfl (aV ?_)))|refine nZ ?_));refine fC 3 (cs := xR s) rfl rfl rfl ?_
      (repeat' (first|refine wS ?_|refine wK ?_|refine wU ?_|(refine cJ (id := 1) 128 zO4 (rM 15 8) zO5 cN rfl (by decide +kernel) (dN rfl (dV rfl (by exact eE rfl rfl) ?_));refine dP T rfl (dO T rfl (dV rfl (fY T rfl rfl) (dO T rfl (dV rfl (kC (hright)) (dV rfl (eL rfl) (dE ?_)))))))|(refine rg 3 (mW rfl (nV ?_));refine hO T rfl (bT (by exact fZ rfl rfl hcl (.inr ⟨rfl,rfl,by simp⟩)) rfl ?_);refine aV ?_)|(refine rg 4 (hO T rfl (vV (fP rfl rfl (by omega)) ?_)))|refine nZ ?_));all_goals try (exfalso;omega)
      refine eP [(0,.ptr 0 0),(3,.pr (xR s) 0),(5,.sl 1 0 gs.length 2)] [.cells (fT c gs),.arr (iB gs) 2] ⟨[0,2],rfl,(by repeat first|exact trivial|refine ⟨rfl,?_⟩),⟨.inr rfl,.inr (aG rfl (cE _ (eA _)) (eA _)),trivial⟩,by decide,yS _⟩ ?_
      exact FN c gs gs s hc (hst rfl k4) (by omega) hids
end Go.Proofs.YtbialaoigijlgaaGreatDoor
namespace Go.Ld
open Go.Ab Go.Proofs.YtbialaoigijlgaaGreatDoor
def R0 (c : Cx) (i : Nat) : G := ([(i : Int)],[([(i : Int)],0,[((c.bs.getD i (0,0,0)).2.1,(c.bs.getD i (0,0,0)).2.1 + 1)])])
theorem Z2 (c : Cx) : sJ c = (List.range c.bs.length).map (R0 c) := rfl
theorem N9 {α β : Type} (f : α → β) : ∀ l : List α, (l.flatMap fun x => [f x]) = l.map f
  | [] => rfl
  | x :: l => by rw [cD,N9 f l];rfl
theorem OS {c : Cx} (hc : E5 c) (hn : c.bs.length ≤ 12) (hm : 0 ≤ c.m) : oU c (sJ c) := by
  rw [Z2];have hmem : ∀ g,g ∈ (List.range c.bs.length).map (R0 c) → ∃ i,i < c.bs.length ∧ g = R0 c i := fun g hg => by
    obtain ⟨i,hi,e⟩ := bM.1 hg;exact ⟨i,fN.1 hi,e.symm⟩
  have fl : (((List.range c.bs.length).map (R0 c)).flatMap (·.1)) = nats (List.range c.bs.length) := by
    rw [Q4];exact N9 _ _
  have fw : (((List.range c.bs.length).map (R0 c)).flatMap fun g => (iH g).1) = nats (List.range c.bs.length) := by
    rw [Q4];exact N9 _ _
  refine ⟨⟨⟨fun g hg => ?_,by rw [fl];exact Z3 _,by rw [fl];simpa using hn,fun g hg => ?_⟩,?_,fun g hg => ?_,fun g hg w hw => ?_,by rw [fl],by rw [fw],fun g hg => ?_⟩,fun g hg => ?_,fun g hg => ?_⟩
  · obtain ⟨i,hi,rfl⟩ := hmem g hg;have hb := hc.f.b i hi;have e : c.bs.getD i (0,0,0) = c.bs[i] := by rw [aC,aB hi];rfl
    unfold R0;rw [e];generalize c.bs[i] = x at *;refine ⟨by simp,kM _ _,fun b hb => by obtain rfl := dR.1 hb;omega,by simp,fun w hw => ?_,fun w v hw hv => by obtain rfl := dR.1 hw;obtain rfl := dR.1 hv;exact .refl _⟩
    obtain rfl := dR.1 hw;refine ⟨rfl,rfl,fun b hb => by obtain rfl := dR.1 hb;omega,kM _ _,kJ _,by dsimp only;omega,fun r hr => ?_⟩
    obtain rfl := dR.1 hr;unfold RU;dsimp only;omega
  · obtain ⟨i,hi,rfl⟩ := hmem g hg;show 1 ≤ 2000;omega
  · refine yX.2 ?_;rw [sW];show ((List.range c.bs.length).map fun i : Nat => ((i : Int))).Pairwise _;refine SF.2 ((List.pairwise_lt_range).imp fun {a b} h => by omega)
  · obtain ⟨i,hi,rfl⟩ := hmem g hg;unfold R0;simp
  · obtain ⟨i,hi,rfl⟩ := hmem g hg;obtain rfl := dR.1 hw;exact hm
  · obtain ⟨i,hi,rfl⟩ := hmem g hg;show 1 ≤ 1000;omega
  · obtain ⟨i,hi,rfl⟩ := hmem g hg;unfold gL;rw [if_pos (.inl (by show 1 < 2;omega))]
  · obtain ⟨i,hi,rfl⟩ := hmem g hg;exact kM _ _
def uV (gs : List G) (b : Int) : Option (G × Nat) := match gs.findIdx? fun g => decide (b ∈ g.1) with
  | some i => some (mX gs i,(mX gs i).1.idxOf b)
  | none => none
theorem sQ {gs : List G} {b : Int} {g : G} {i : Nat} (h : uV gs b = some (g,i)) : ∃ k : Nat,nE gs b = (k : Int) ∧ gs[k]? = some g ∧ b ∈ g.1 ∧ i = g.1.idxOf b := by
  unfold uV at h;cases hq : gs.findIdx? fun g => decide (b ∈ g.1) with
  | none => rw [hq] at h;cases h
  | some k =>
    rw [hq] at h;dsimp only at h;cases h;obtain ⟨hk,hb,_⟩ := List.findIdx?_eq_some_iff_getElem.1 hq;have e : mX gs k = gs[k] := by unfold mX;rw [aC,aB hk];rfl
    refine ⟨k,by unfold nE;rw [hq],by rw [e];exact aB hk,by rw [e];simpa using hb,rfl⟩
theorem PS {gs : List G} {b : Int} (h : uV gs b = none) : nE gs b = -1 := by
  unfold uV at h;cases hq : gs.findIdx? fun g => decide (b ∈ g.1) with
  | none => unfold nE;rw [hq]
  | some k => rw [hq] at h;cases h
theorem PR {gs : List G} {b : Int} (h : ∃ g,g ∈ gs ∧ b ∈ g.1) : ∃ g,uV gs b = some (g,g.1.idxOf b) ∧ g ∈ gs ∧ b ∈ g.1 := by
  cases hq : uV gs b with
  | none =>
    obtain ⟨i,g,h1,_⟩ := kB h;have := PS hq;omega
  | some x =>
    obtain ⟨g,i⟩ := x;obtain ⟨k,_,h2,h3,rfl⟩ := sQ hq;exact ⟨g,rfl,aM h2,h3⟩
end Go.Ld
namespace Go.Proofs.YtbialaoigijlgaaGreatDoor
open Go Go.Ab Go.Ld
attribute [local irreducible] VC AW bV aO jR
set_option maxHeartbeats 4000000
theorem J4 (c : Cx) (gs : List G) (b : Int) (hl : gs.length ≤ 1000000) (hg : ∀ g,g ∈ gs → g.1.length ≤ 1000000) {g : G} {i : Nat} (h : uV gs b = some (g,i)) :
    aO Tryz.prog 45 [.pr (fT c gs) 0,.i b] [] (.tup [MH g,.i i,.b true]) [] := by
  obtain ⟨k,h1,h2,h3,rfl⟩ := sQ h;have hf := vW gs b hl hg;rw [h1] at hf;have hgl : (iB gs).length = gs.length := gZ _;have hkl := (aA.1 h2).1;have q : (iB gs)[((k : Int)).toNat]? = some (gA g) := by rw [bR,bI,h2];rfl
  have hix := tT g.1 b (by have := hg g (aM h2);omega)
  have hxi : tU g.1 b 0 = ((g.1.idxOf b : Nat) : Int) := by have := xD g.1 b 0 h3;simpa using this
  rw [hxi] at hix;generalize g.1.idxOf b = ia at *;obtain ⟨bs,ws⟩ := g;dsimp only at *;refine bK T Tryz.func45 rfl rfl rfl rfl ?_
  (repeat' (first|refine wS ?_|refine wK ?_|refine wR ?_|refine wU ?_|(refine rg 0 (bT (bH T rfl) rfl (qA ?_)))|(refine rg 1 (mW rfl (nV ?_));refine hO T rfl (mW rfl (vV (kC (hf)) (aV ?_))))|(refine rg 2 (mW rfl (vV (aJ rfl rfl) ?_)))|(refine mC (id := 4) 17 34 [[],[0],[0,1],[0,1,2],[],rN 5,rN 6,[],[7],[7,8],[7,8,9],[],rM 7 5,rM 7 6,rM 7 7,[],rM 7 9,rN 17,rN 18,rN 19] [[],[0],[0,1],[0,1,2],[],rN 5,rN 6,[],[7],[7,8],[7,8,9],[],rM 7 5,rM 7 6,rM 7 7,[],rM 7 9] (rM 17 17) [[],[],[],[],rM 17 4,[],[],rM 17 7,rM 17 7,rM 17 7,rM 17 7,rM 17 11,rM 17 7,rM 17 7,rM 17 7,rM 17 15,rM 17 7] cN rfl (by decide +kernel) (by decide +kernel) ?_;(dsimp only [List.take,List.drop]);refine dN rfl (dV rfl (by exact eE rfl rfl) ?_);refine dP T rfl (dO T rfl (dN rfl (dV rfl (ix T rfl (by omega) (mS _) q) (dO T rfl (dN rfl (dV rfl (by exact eE rfl rfl) ?_))))));refine dP T rfl (dO T rfl (dN rfl (dV rfl (ix T rfl (by omega) (mS _) q) (dP T rfl (dO T rfl (dN rfl (dV rfl (kC (hix)) (dE ?_))))))));refine gB ?_;refine aQ T rfl rfl rfl rfl rfl rfl (by decide) rfl (qA ?_))|refine nZ ?_));all_goals try (exfalso;omega)
  all_goals exact ⟨.inl rfl,[],_,rfl,rfl,rfl,trivial,by decide,jT _⟩
end Go.Proofs.YtbialaoigijlgaaGreatDoor
namespace Go.Ld
open Go.Ab Go.Proofs.YtbialaoigijlgaaGreatDoor
def Z9 (g : G) (i : Nat) : List Int := g.2.map fun w => gP w i
theorem KZ {g : G} {i k : Nat} (h : k < g.2.length) : (Z9 g i).take (k + 1) = (Z9 g i).take k ++ [gP g.2[k] i] := by
  unfold Z9;rw [← jY,← jY,aR h,dB];rfl
end Go.Ld
namespace Go.Proofs.YtbialaoigijlgaaGreatDoor
open Go Go.Ab Go.Ld
attribute [local irreducible] VC AW bV aO jR
set_option maxHeartbeats 4000000
theorem RF {G l : List Int} {m : Nat} (hg : G.length ≤ m) (hm : m < l.length) : (ints (G ++ l.drop G.length))[0 + (m : Int).toNat]? = some [AV.i l[m]] := by
  rw [Nat.zero_add,bR,bI,aE hg,eC,show G.length + (m - G.length) = m by omega,aB hm];rfl
theorem TG {G l : List Int} {x : Int} (hg : G.length < l.length) : (ints (G ++ l.drop G.length)).set (0 + (G.length : Int).toNat) [AV.i x] = ints ((G ++ [x]) ++ l.drop (G ++ [x]).length) := by
  rw [Nat.zero_add,bR,← R8,jQ _ _ (aX _),eX,aS hg,List.set_cons_zero];simp
theorem IA {G l : List Int} (hg : G.length ≤ l.length) : (ints (G ++ l.drop G.length)).length = l.length := by simp;omega
theorem MT {G l : List Int} : (ints (G ++ l.drop G.length)).take (0 + (G.length : Int).toNat) = ints G := by
  rw [Nat.zero_add,bR,← jY,List.take_append_of_le_length (aX _),cF (aX _)]
def kF (l : List Int) : Nat → List Int
  | 0 => []
  | m + 1 => if 0 < m ∧ l.getD m 0 = l.getD (m - 1) 0 then kF l m else kF l m ++ [l.getD m 0]
def V7 (l : List Int) : List Int := kF l l.length
theorem EE {l : List Int} {m : Nat} (h : 0 < m) (e : l.getD m 0 = l.getD (m - 1) 0) : kF l (m + 1) = kF l m := by
  unfold kF;rw [if_pos ⟨h,e⟩];cases m <;> rfl
theorem ED {l : List Int} {m : Nat} (e : l.getD m 0 ≠ l.getD (m - 1) 0) : kF l (m + 1) = kF l m ++ [l.getD m 0] := by
  unfold kF;rw [if_neg (fun q => e q.2)];cases m <;> rfl
theorem EC (l : List Int) : kF l 1 = [l.getD 0 0] := by
  unfold kF;rw [if_neg (fun q => Nat.lt_irrefl _ q.1)];rfl
theorem J5 {l : List Int} {m : Nat} (h : m < l.length) : l.getD m 0 = l[m] := by rw [aC,aB h];rfl
theorem JB {G l : List Int} {m : Nat} {i : Nat} (hg : G.length ≤ m) (hm : m < l.length) (hi : i = m) : (ints (G ++ l.drop G.length))[i]? = some [AV.i (l.getD m 0)] := by
  have := RF hg hm;rw [Nat.zero_add,bR] at this;rw [hi,this,J5 hm]
theorem JC {l : List Int} {m i : Nat} (hm : m < l.length) (hi : i = m) : (ints l)[i]? = some [AV.i (l.getD m 0)] := by
  rw [hi,kS hm,J5 hm]
theorem LQ (l : List Int) (hl : l.length ≤ 1000000) : aO Tryz.prog 49 [.sl 0 0 l.length 1] [.arr (ints l) 1] (.sl 0 0 (V7 l).length 1) [.arr (ints (V7 l)) 1] := by
  have hll : (ints l).length = l.length := by simp
  refine bK T Tryz.func49 rfl rfl rfl rfl ?_;by_cases h2 : l.length < 2
  · have hk : V7 l = l := by
      match l,h2 with
      | [],_ => rfl
      | [a],_ => exact EC _
      | _ :: _ :: _,h => exact absurd h (by simp)
    rw [hk]
    (repeat' (first|refine wS ?_|refine wR ?_|(refine wC rfl ?_ ?_<;>(intro hb;(try simp only [nm] at hb);try (exfalso;omega)))|(refine rg 0 (aV ?_))|(refine rg 1 (mW rfl (qW T rfl (vV (aJ rfl rfl) ?_))))|(refine rg 2 (mW rfl (aV ?_)))|refine nZ ?_));all_goals first | (exfalso;omega) | exact ⟨.inl rfl,[0],_,rfl,rfl,rfl,⟨.inr (aG rfl rfl (bO _)),trivial⟩,by decide,R3⟩
  · (repeat' (first|refine wS ?_|refine wB ?_|refine wK ?_|(refine wC rfl (fun hb => ?_) (fun hb => ?_) <;> (((try simp only [nm] at hb);try (exfalso;omega))))|(refine rg 0 (aV ?_))|(refine rg 1 (mW rfl (qW T rfl (vV (aJ rfl rfl) ?_))))|(refine rg 3 (aV ?_))|(refine nZ ?_)));all_goals try (exfalso;omega)
    refine cK (X := {k : Nat // 1 ≤ k ∧ k ≤ l.length ∧ kF l k = l.take k}) (fun k => [(0,.sl 0 0 l.length 1),(3,.i k.1)]) (fun _ => [.arr (ints l) 1]) (fun k => l.length - k.1) ⟨1,by omega,by omega,by rw [EC,J5 (by omega),aR (by omega)];rfl⟩ ⟨[0],rfl,by (repeat (first | exact trivial | refine ⟨rfl,?_⟩)),⟨.inr (aG rfl rfl (bO _)),trivial⟩,by decide,R3⟩ ?_
    rintro ⟨k,hk1,hk,hkc⟩;dsimp only;by_cases hlt : k < l.length
    · have e1 := JC (i := 0 + (k : Int).toNat) hlt (by omega)
      have e2 := JC (l := l) (m := k - 1) (i := 0 + ((k : Int) - 1).toNat) (by omega) (by omega)
      by_cases hd : l.getD k 0 = l.getD (k - 1) 0
      · have hc1 := EE (l := l) hk1 hd;rw [hkc] at hc1;generalize l.getD k 0 = a at *;generalize l.getD (k - 1) 0 = b at *
        (repeat' (first|refine wS ?_|refine wB ?_|refine wK ?_|refine wT ?_|(refine wC rfl ?_ ?_<;>(intro hb;(try simp only [nm] at hb);try (exfalso;omega)))|(refine rg 4 (dQ rfl (qW T rfl (vV (aJ rfl rfl) ?_))))|(refine cJ (id := 6) 61 zO6 (rM 16 10) zO7 cN rfl (by decide +kernel) (dN rfl (dN rfl (dV rfl (by exact aL T rfl rfl rfl rfl rfl (by omega) (by omega)) ?_)));refine dV rfl (by exact aT T rfl rfl (bJ rfl e1) rfl) ?_;refine dN rfl (dN rfl (dV rfl (cO rfl rfl (by omega) (by omega)) (dV rfl (by exact aL T rfl rfl rfl rfl rfl (by omega) (by omega)) ?_)));refine dV rfl (by exact aT T rfl rfl (bJ rfl e2) rfl) ?_;refine dV rfl (kE rfl rfl (by omega)) (dE ?_))|(refine rg 7 (dQ rfl (vV (by exact jL T rfl rfl rfl rfl rfl rfl (by omega) (by omega) (by omega)) ?_));refine aV ?_)|(refine rg 8 (aV ?_))|refine nZ ?_));all_goals try (exfalso;omega)
        have hl1 : (kF l (k + 1)).length = k := by rw [hc1];simp;omega
        refine cK (X := {j : Nat // 1 ≤ j ∧ k + j ≤ l.length ∧ (kF l (k + j)).length + 1 ≤ k + j}) (fun j => [(0,.sl 0 0 l.length 1),(3,.i (kF l (k + j.1)).length),(4,.sl 0 (0 + (k : Int).toNat) ((l.length : Int) - (k : Int)).toNat 1),(5,.i j.1)]) (fun j => [.arr (ints (kF l (k + j.1) ++ l.drop (kF l (k + j.1)).length)) 1]) (fun j => l.length - (k + j.1)) ⟨1,by omega,by omega,by omega⟩ ⟨[0],rfl,⟨rfl,by dsimp only;rw [hl1];rfl,rfl,rfl,trivial⟩,⟨.inr (aG rfl (by dsimp only;rw [hl1,hc1,bG]) (bO _)),trivial⟩,by decide,R3⟩ ?_
        clear e1 e2 hd hl1 hc1;rintro ⟨j,hj1,hj,hjc⟩;dsimp only;by_cases hjl : k + j < l.length
        · have e1 := JB (G := kF l (k + j)) (l := l) (m := k + j) (i := 0 + (k : Int).toNat + (j : Int).toNat) (by omega) hjl (by omega)
          have e2 := JB (G := kF l (k + j)) (l := l) (m := k + j - 1) (i := 0 + (k : Int).toNat + ((j : Int) - 1).toNat) (by omega) (by omega) (by omega)
          have e3 := RF (G := kF l (k + j)) (l := l) (aX _) (by omega)
          have hset := TG (G := kF l (k + j)) (l := l) (x := l.getD (k + j) 0) (by omega)
          have hal := IA (G := kF l (k + j)) (l := l) (by omega)
          have hdup := EE (l := l) (m := k + j) (by omega)
          have hnew := ED (l := l) (m := k + j);have hnl : ∀ G : List Int,(G ++ [l.getD (k + j) 0]).length = G.length + 1 := fun G => by simp
          rw [show k + j + 1 = k + (j + 1) by omega] at hdup hnew
          generalize l.getD (k + j) 0 = a at *;generalize l.getD (k + j - 1) 0 = b at *;generalize l[(kF l (k + j)).length] = y at *;generalize kF l (k + j) = G at *;by_cases hd : a = b
          · have hdup := hdup hd;generalize hA : ints (G ++ l.drop G.length) = A at *
            (repeat' (first|refine wS ?_|refine wB ?_|refine wK ?_|refine wU ?_|(refine wC rfl ?_ ?_<;>(intro hb;(try simp only [nm] at hb);try (exfalso;omega)))|(refine rg 9 (dQ rfl (qW T rfl (vV (aJ rfl rfl) ?_))))|(refine cJ (id := 11) 61 zO6 (rM 35 10) zO8 cN rfl (by decide +kernel) (dN rfl (dN rfl (dV rfl (by exact aL T rfl rfl rfl rfl rfl (by omega) (by omega)) ?_)));refine dV rfl (by exact aT T rfl rfl (bJ rfl e1) rfl) ?_;refine dN rfl (dN rfl (dV rfl (cO rfl rfl (by omega) (by omega)) (dV rfl (by exact aL T rfl rfl rfl rfl rfl (by omega) (by omega)) ?_)));refine dV rfl (by exact aT T rfl rfl (bJ rfl e2) rfl) ?_;refine dV rfl (oW rfl rfl (by omega)) (dE ?_))|(refine iA 10 rfl rfl rfl (by omega) (by omega) ?_)|refine nZ ?_));all_goals try (exfalso;omega)
            all_goals exact ⟨⟨j + 1,by omega,by omega,by rw [hdup];omega⟩,by dsimp only;omega,[0],rfl,⟨rfl,by dsimp only;rw [hdup];rfl,rfl,rfl,trivial⟩,⟨.inr (aG rfl (by dsimp only;rw [hdup];exact hA.symm) (bO _)),trivial⟩,by decide,R3⟩
          · have hnew := hnew hd;have hgl := hnl G;generalize hA : ints (G ++ l.drop G.length) = A at *
            (repeat' (first|refine wS ?_|refine wB ?_|refine wK ?_|refine wT ?_|(refine wC rfl ?_ ?_<;>(intro hb;(try simp only [nm] at hb);try (exfalso;omega)))|(refine rg 9 (dQ rfl (qW T rfl (vV (aJ rfl rfl) ?_))))|(refine cJ (id := 11) 61 zO6 (rM 35 10) zO8 cN rfl (by decide +kernel) (dN rfl (dN rfl (dV rfl (by exact aL T rfl rfl rfl rfl rfl (by omega) (by omega)) ?_)));refine dV rfl (by exact aT T rfl rfl (bJ rfl e1) rfl) ?_;refine dN rfl (dN rfl (dV rfl (cO rfl rfl (by omega) (by omega)) (dV rfl (by exact aL T rfl rfl rfl rfl rfl (by omega) (by omega)) ?_)));refine dV rfl (by exact aT T rfl rfl (bJ rfl e2) rfl) ?_;refine dV rfl (rD rfl rfl (by omega)) (dE ?_))|(refine rg 12 (dQ rfl (dQ rfl (vV (by exact aL T rfl rfl rfl rfl rfl (by omega) (by omega)) ?_)));refine vV (by exact aT T rfl rfl (bJ rfl e1) rfl) ?_;refine vV (by exact aL T rfl rfl rfl rfl rfl (by omega) (by omega)) ?_;refine aQ T rfl rfl rfl rfl rfl rfl (by decide) (lP rfl e3 rfl) ?_)|(refine iA 13 rfl rfl rfl (by omega) (by omega) ?_)|(refine iA 10 rfl rfl rfl (by omega) (by omega) ?_)|refine nZ ?_));all_goals try (exfalso;omega)
            all_goals exact ⟨⟨j + 1,by omega,by omega,by rw [hnew];omega⟩,by dsimp only;omega,[0],rfl,⟨rfl,by dsimp only;rw [hnew,hgl];rfl,rfl,rfl,trivial⟩,⟨.inr (aG rfl (by dsimp only;rw [hnew];exact hset) (bO _)),trivial⟩,by decide,R3⟩
        · have hkj : k + j = l.length := by omega
          have hcm : V7 l = kF l (k + j) := by rw [hkj];rfl
          have hal := IA (G := kF l (k + j)) (l := l) (by omega)
          have htk := MT (G := kF l (k + j)) (l := l);rw [hcm];generalize kF l (k + j) = G at *
          (repeat' (first|refine wS ?_|refine wR ?_|refine wE ?_|(refine wC rfl ?_ ?_<;>(intro hb;(try simp only [nm] at hb);try (exfalso;omega)))|(refine rg 9 (dQ rfl (qW T rfl (vV (aJ rfl rfl) ?_))))|(refine rg 14 (dQ rfl (vV (by exact jL T rfl rfl rfl rfl rfl rfl (by omega) (by omega) (by omega)) ?_));refine MM T rfl rfl rfl rfl rfl (by rw [hal];omega) ?_)|(refine rg 15 (dQ rfl (vV (by exact jL T rfl rfl rfl rfl rfl rfl (by omega) (by omega) (by omega)) ?_));refine aV ?_)|refine nZ ?_));all_goals try (exfalso;omega)
          all_goals exact ⟨.inl rfl,[0],_,rfl,(by show AV.sl 0 0 ((G.length : Int) - 0).toNat 1 = AV.sl 0 0 G.length 1;rw [show ((G.length : Int) - 0).toNat = G.length by omega]),rfl,⟨.inr (aG rfl htk (bO _)),trivial⟩,by decide,R3⟩
      · have hnew := ED (l := l) hd;rw [hkc,J5 hlt,← aR hlt] at hnew;generalize l.getD k 0 = a at *;generalize l.getD (k - 1) 0 = b at *
        (repeat' (first|refine wS ?_|refine wB ?_|refine wK ?_|refine wU ?_|(refine wC rfl ?_ ?_<;>(intro hb;(try simp only [nm] at hb);try (exfalso;omega)))|(refine rg 4 (dQ rfl (qW T rfl (vV (aJ rfl rfl) ?_))))|(refine cJ (id := 6) 61 zO6 (rM 16 10) zO7 cN rfl (by decide +kernel) (dN rfl (dN rfl (dV rfl (by exact aL T rfl rfl rfl rfl rfl (by omega) (by omega)) ?_)));refine dV rfl (by exact aT T rfl rfl (bJ rfl e1) rfl) ?_;refine dN rfl (dN rfl (dV rfl (cO rfl rfl (by omega) (by omega)) (dV rfl (by exact aL T rfl rfl rfl rfl rfl (by omega) (by omega)) ?_)));refine dV rfl (by exact aT T rfl rfl (bJ rfl e2) rfl) ?_;refine dV rfl (fP rfl rfl (by omega)) (dE ?_))|(refine iA 5 rfl rfl rfl (by omega) (by omega) ?_)|refine nZ ?_));all_goals try (exfalso;omega)
        all_goals exact ⟨⟨k + 1,by omega,hlt,hnew⟩,by dsimp only;omega,[0],rfl,by (repeat (first | exact trivial | refine ⟨rfl,?_⟩)),⟨.inr (aG rfl rfl (bO _)),trivial⟩,by decide,R3⟩
    · obtain rfl : k = l.length := by omega
      have hcm : V7 l = l := by
        show kF l l.length = l;rw [hkc,dA]
      rw [hcm]
      (repeat' (first|refine wS ?_|refine wR ?_|refine wE ?_|(refine wC rfl ?_ ?_<;>(intro hb;(try simp only [nm] at hb);try (exfalso;omega)))|(refine rg 4 (dQ rfl (qW T rfl (vV (aJ rfl rfl) ?_))))|(refine rg 16 (mW rfl (aV ?_)))|refine nZ ?_));all_goals first | (exfalso;omega) | exact ⟨.inl rfl,[0],_,rfl,rfl,rfl,⟨.inr (aG rfl rfl (bO _)),trivial⟩,by decide,R3⟩
abbrev oJ (g : G) (i : Nat) : List Int := V7 (iD (Z9 g i))
theorem FT (c : Cx) (gs : List G) (b : Int) (h : oU c gs) {g : G} {i : Nat} (hg : uV gs b = some (g,i)) :
    aO Tryz.prog 11 [.pr (fT c gs) 0,.i b] [] (.sl 0 0 (oJ g i).length 1) [.arr (ints (oJ g i)) 1] := by
  unfold oJ;obtain ⟨k0,h1,h2,h3,h4⟩ := sQ hg;have hgm := aM h2;have og := h.mid.out.ok g hgm;have hwl := h.mid.wl g hgm;have hl12 : gs.length ≤ 12 := bW h.mid.out.len h.mid.out.ln;have hgr := J4 c gs b (by omega) (fun x hx => by have := (h.mid.out.ok x hx).ln;omega) hg
  have hi : i < g.1.length := by rw [h4];exact lB h3
  have hln := og.ln;have hil : (Z9 g i).length = g.2.length := bF _;have htk : ∀ k (h : k < g.2.length),_ := fun k h => KZ (g := g) (i := i) h;have hwg : ∀ k (h : k < g.2.length),(ints g.2[k].1)[((i : Int)).toNat]? = some [.i (gP g.2[k] i)] ∧ (ints g.2[k].1).length = g.1.length := fun k h => by
    have := (og.ws _ (aI h)).pl;exact ⟨lD 0 (by omega) rfl,by rw [cW];exact this⟩
  have hs1 := NE (Z9 g i) (by omega)
  have hsl := oO (Z9 g i);have hs2 := LQ (iD (Z9 g i)) (by omega)
  rw [hsl] at hs2;obtain ⟨bs,ws⟩ := g;dsimp only at *;generalize Z9 (bs,ws) i = P at *;have hwsl : (eY ws).length = ws.length := eD _;refine bK T Tryz.func11 rfl rfl rfl rfl ?_
  (repeat' (first|refine wS ?_|(refine rg 0 (aV ?_))|(refine rg 1 (dQ rfl (vV (kC (hgr)) (mW rfl (xW rfl (xW rfl (xW rfl (bT (bH T rfl) rfl (aQ T rfl rfl rfl rfl rfl rfl (by decide) rfl (qA ?_))))))))))|refine nZ ?_));all_goals try (exfalso;omega)
  refine fC 5 (cs := gA (bs,ws)) rfl rfl rfl ?_
  (repeat' (first|refine wS ?_|(refine rg 2 (vV (fG rfl) (rL 8 1 rfl (by decide) ?_)))|refine nZ ?_));all_goals try (exfalso;omega)
  (repeat' (first|refine wB ?_|(refine rg 3 (hO T rfl (qW T rfl (mV ?_))))|refine nZ ?_));all_goals try (exfalso;omega)
  refine cK (X := {k : Nat // k ≤ ws.length}) (fun k => [(6,.i i),(8,.sl 0 0 k.1 1),(19,.rowE (eY ws) 3),(20,.i (eY ws).length),(21,.i k.1)]) (fun k => [.arr (ints (P.take k.1)) 1]) (fun k => ws.length - k.1) ⟨0,bP _⟩ ⟨[1],rfl,(by repeat first|exact trivial|refine ⟨rfl,?_⟩),⟨.inr rfl,trivial⟩,by decide,jT _⟩ ?_
  rintro ⟨k,hk⟩;dsimp only;by_cases hlt : k < ws.length
  · have hgk := mH hlt;obtain ⟨q1,q2⟩ := hwg k hlt;have q3 := htk k hlt;have q4 : (ints (P.take k)).length = k := by rw [cW,aU];omega
    have q5 : ints (P.take (k + 1)) = ints (P.take k) ++ [[.i (gP ws[k] i)]] := by rw [q3,D4]
    generalize ints (P.take k) = A at *;generalize gP ws[k] i = v at *;generalize ws[k] = w at *;obtain ⟨wp,wm,wc⟩ := w;dsimp only at *
    (repeat' (first|refine wS ?_|refine wB ?_|refine wK ?_|(refine wC rfl ?_ ?_<;>(intro hb;(try simp only [nm] at hb);try (exfalso;omega)))|(refine rg 4 (vV (aJ rfl rfl) ?_))|(refine rg 5 (vV (ix T rfl (by omega) (jB _) hgk) (lW T rfl (bT (bH T rfl) rfl (aQ T rfl rfl rfl rfl rfl rfl (by decide) rfl ?_)))))|(refine rg 6 (mW rfl (hO T rfl (mW rfl (vV (ix T rfl (by omega) (bZ _) q1) (lW T rfl (bT (by exact bC T rfl rfl (by decide) (by decide) rfl rfl rfl) rfl ?_))))));refine gR T rfl rfl rfl rfl rfl rfl (by omega) (kX.whole rfl rfl) rfl (by simp;omega) (by simp;omega) rfl ?_;refine aV ?_)|(refine rg 7 (vV (bS rfl rfl (by omega) (by omega)) (mV ?_)))|refine nZ ?_));all_goals try (exfalso;omega)
    exact ⟨⟨k + 1,hlt⟩,by dsimp only;omega,⟨[3],rfl,(by repeat first|exact trivial|refine ⟨rfl,?_⟩),⟨.inr (aG rfl (by dsimp only;rw [q5];exact lT q4.symm) (bO _)),trivial⟩,by decide,jT _⟩⟩
  · obtain rfl : k = ws.length := by omega
    rw [show P.take ws.length = P by rw [← hil,dA]]
    rw [← hil] at *
    (repeat' (first|refine wS ?_|refine wR ?_|refine wE ?_|(refine wC rfl ?_ ?_<;>(intro hb;(try simp only [nm] at hb);try (exfalso;omega)))|(refine rg 4 (vV (aJ rfl rfl) ?_))|(refine rg 8 (mW rfl (eJ [0] rfl rfl (hs1) rfl rfl (by decide) ⟨.inr (aG rfl rfl (bO _)),trivial⟩ (by simp) rfl ?_)))|(refine rg 9 (mW rfl (eJ [0] rfl rfl (hs2) rfl rfl (by decide) ⟨.inr (aG rfl (cE _ (bO _)) (bO _)),trivial⟩ (by simp) rfl ?_));refine aV ?_)|refine nZ ?_));all_goals try (exfalso;omega)
    exact ⟨.inl rfl,[0],_,rfl,rfl,rfl,⟨.inr (aG rfl (cE _ (bO _)) (bO _)),trivial⟩,by decide,jT _⟩
end Go.Proofs.YtbialaoigijlgaaGreatDoor
namespace Go.Ld
open Go.Ab Go.Proofs.YtbialaoigijlgaaGreatDoor
def WS (a b : SP) : SP := (min a.1 b.1,max a.2 b.2)
def JX (g : G) (i k : Nat) : SP := (g.2.take k).foldl (fun r w => WS r (gC w i)) (gC (iH g) i)
def CQ (g : G) (i : Nat) : SP := JX g i g.2.length
theorem JW {g : G} {i k : Nat} (h : k < g.2.length) : JX g i (k + 1) = WS (JX g i k) (gC g.2[k] i) := by
  unfold JX;rw [aR h,SI];rfl
def zF0 (l : List Int) : Int × Bool := if l.length = 1 then (l.getD 0 0,true) else (0,false)
def OW (c : Cx) (l : List Int) (r : SP) (lot : Int) : Int := if l.length = 0 ∨ l.any (fun id => decide ((c.bs.getD id.toNat (0,0,0)).1 ≠ lot)) = true then 0 else r.1
end Go.Ld
namespace Go.Proofs.YtbialaoigijlgaaGreatDoor
open Go Go.Ab Go.Ld
attribute [local irreducible] VC AW bV aO jR
set_option maxHeartbeats 4000000
theorem zT (c : Cx) (gs : List G) (b : Int) (h : oU c gs) {g : G} {i : Nat} (hg : uV gs b = some (g,i)) :
    aO Tryz.prog 9 [.pr (fT c gs) 0,.i b] [] (.sl 0 0 g.1.length 1) [.arr (ints g.1) 1] := by
  obtain ⟨k0,h1,h2,h3,h4⟩ := sQ hg;have hl12 : gs.length ≤ 12 := bW h.mid.out.len h.mid.out.ln;have hln := (h.mid.out.ok g (aM h2)).ln;have hgr := J4 c gs b (by omega) (fun x hx => by have := (h.mid.out.ok x hx).ln;omega) hg
  have hcl := AQ g.1 (by omega)
  obtain ⟨bs,ws⟩ := g;dsimp only at *;refine bK T Tryz.func9 rfl rfl rfl rfl ?_
  (repeat' (first|refine wS ?_|refine wR ?_|(refine rg 0 (aV ?_))|(refine rg 1 (dQ rfl (vV (kC (hgr)) (mW rfl (xW rfl (xW rfl (xW rfl (bT (bH T rfl) rfl (aQ T rfl rfl rfl rfl rfl rfl (by decide) rfl (qA ?_))))))))))|(refine rg 2 (hO T rfl (bT (by exact fZ rfl rfl hcl (.inr ⟨rfl,rfl,by simp⟩)) rfl ?_));refine aV ?_)|refine nZ ?_));all_goals try (exfalso;omega)
  exact ⟨.inl rfl,[1],_,rfl,rfl,rfl,⟨.inr (aG rfl (cE _ (bO _)) (bO _)),trivial⟩,by decide,jT _⟩
theorem N7 (c : Cx) (gs : List G) (b : Int) (h : oU c gs) {g : G} {i : Nat} (hg : uV gs b = some (g,i)) :
    aO Tryz.prog 12 [.pr (fT c gs) 0,.i b] [] (.tup [.i (zF0 (oJ g i)).1,.b (zF0 (oJ g i)).2]) [] := by
  have hp := FT c gs b h hg;generalize oJ g i = P at *;have hl : (ints P).length = P.length := cW _;unfold zF0;by_cases h1 : P.length = 1
  · rw [if_pos h1];have q := zO (l := P) (j := (0 : Int)) (i := 0) 0 (by omega) rfl
    refine bK T Tryz.func12 rfl rfl rfl rfl ?_
    (repeat' (first|refine wS ?_|refine wK ?_|(refine wC rfl ?_ ?_<;>(intro hb;(try simp only [nm] at hb);try (exfalso;omega)))|(refine rg 0 (qA ?_))|(refine rg 1 (dQ rfl (bT (by exact fZ rfl rfl hp (.inr ⟨rfl,rfl,by simp⟩)) rfl ?_));refine aV ?_)|(refine rg 2 (mW rfl (qW T rfl (vV (fF rfl rfl) ?_))))|refine nZ ?_));all_goals try (exfalso;omega)
    refine eP [(6,.sl 0 0 P.length 1)] [.arr (ints P) 1] ⟨[0],rfl,(by repeat first|exact trivial|refine ⟨rfl,?_⟩),⟨.inr (aG rfl (cE _ (bO _)) (bO _)),trivial⟩,by decide,jT _⟩ ?_
    (repeat' (first|refine wR ?_|(refine rg 4 (mW rfl (vV (by exact aL T rfl rfl rfl rfl rfl (by omega) (by omega)) ?_));refine vV (by exact aT T rfl rfl (bJ rfl q) rfl) ?_;refine qA ?_)|refine nZ ?_));all_goals try (exfalso;omega)
    all_goals exact ⟨.inl rfl,[],_,rfl,rfl,rfl,trivial,by decide,jT _⟩
  · rw [if_neg h1];refine bK T Tryz.func12 rfl rfl rfl rfl ?_
    (repeat' (first|refine wS ?_|refine wR ?_|(refine wC rfl ?_ ?_<;>(intro hb;(try simp only [nm] at hb);try (exfalso;omega)))|(refine rg 0 (qA ?_))|(refine rg 1 (dQ rfl (bT (by exact fZ rfl rfl hp (.inr ⟨rfl,rfl,by simp⟩)) rfl ?_));refine aV ?_)|(refine rg 2 (mW rfl (qW T rfl (vV (fF rfl rfl) ?_))))|(refine rg 3 (qA ?_))|refine nZ ?_));all_goals try (exfalso;omega)
    all_goals exact rQ
theorem HX (c : Cx) (gs : List G) (b : Int) (h : oU c gs) {g : G} {i : Nat} (hg : uV gs b = some (g,i)) :
    aO Tryz.prog 21 [.pr (fT c gs) 0,.i b] [] (jW (CQ g i).1 (CQ g i).2) [] := by
  obtain ⟨k0,h1,h2,h3,h4⟩ := sQ hg;have hgm := aM h2;have og := h.mid.out.ok g hgm;have hwl := h.mid.wl g hgm;have hne := h.mid.ne g hgm;have hl12 : gs.length ≤ 12 := bW h.mid.out.len h.mid.out.ln;have hgr := J4 c gs b (by omega) (fun x hx => by have := (h.mid.out.ok x hx).ln;omega) hg
  have hi : i < g.1.length := by rw [h4];exact lB h3
  have hln := og.ln;have hwg : ∀ k (h : k < g.2.length),(eO g.2[k].2.2)[((i : Int)).toNat]? = some [.i (gC g.2[k] i).1,.i (gC g.2[k] i).2] ∧ (eO g.2[k].2.2).length = g.1.length := fun k h => by
    have := (og.ws _ (aI h)).cl;exact ⟨oZ (by omega) rfl,by rw [fO];exact this⟩
  have hst : ∀ k (h : k < g.2.length),_ := fun k h => JW (g := g) (i := i) h;have h0 : 0 < g.2.length := dY.2 hne;have hf0 : JX g i 0 = gC g.2[0] i := by
    obtain ⟨bs,ws⟩ := g;cases ws with
    | nil => exact absurd rfl hne
    | cons w l => rfl
  unfold CQ;obtain ⟨bs,ws⟩ := g;dsimp only at *;generalize JX (bs,ws) i = F at *;have hwsl : (eY ws).length = ws.length := eD _;have hg0 := mH h0;obtain ⟨q1,q2⟩ := hwg 0 h0;rw [← hf0] at q1;refine bK T Tryz.func21 rfl rfl rfl rfl ?_
  (repeat' (first|refine wS ?_|(refine rg 0 (bT (bH T rfl) rfl ?_))|(refine rg 1 (dQ rfl (vV (kC (hgr)) (mW rfl (xW rfl (xW rfl (xW rfl (bT (bH T rfl) rfl (aQ T rfl rfl rfl rfl rfl rfl (by decide) rfl (qA ?_))))))))))|refine nZ ?_));all_goals try (exfalso;omega)
  refine fC 5 (cs := gA (bs,ws)) rfl rfl rfl ?_;generalize hw0 : ws[0] = w0 at *;obtain ⟨wp0,wm0,wc0⟩ := w0;dsimp only at *
  (repeat' (first|refine wS ?_|refine wB ?_|refine wK ?_|refine wU ?_|(refine rg 2 (mW rfl (vV (eL rfl) ?_)))|(refine rg 4 (hO T rfl (vV (ix T rfl (by omega) (jB _) hg0) (hO T rfl (mW rfl (vV (ix T rfl (by omega) (gX _) q1) (lW T rfl (bT (bH T rfl) rfl (aQ T rfl rfl rfl rfl rfl rfl (by decide) rfl ?_)))))))))|(refine rg 5 (hO T rfl (qW T rfl (mV ?_))))|refine nZ ?_));all_goals try (exfalso;omega)
  refine cK (X := {k : Nat // k ≤ ws.length}) (fun k => [(4,.ptr 0 0),(6,.i i),(8,.ptr 1 0),(30,.rowE (eY ws) 3),(31,.i (eY ws).length),(32,.i k.1)]) (fun k => [.cells [.i 0,.i 0],.cells [.i (F k.1).1,.i (F k.1).2]]) (fun k => ws.length - k.1) ⟨0,bP _⟩ ⟨[0,2],rfl,(by repeat first|exact trivial|refine ⟨rfl,?_⟩),⟨.inr rfl,.inr rfl,trivial⟩,by decide,jT _⟩ ?_
  rintro ⟨k,hk⟩;dsimp only;by_cases hlt : k < ws.length
  · have hgk := mH hlt;obtain ⟨q1,q2⟩ := hwg k hlt;have q3 := hst k hlt;have hh := YB (F k).1 (F k).2 (gC ws[k] i).1 (gC ws[k] i).2;generalize hF1 : F (k + 1) = f1 at *;generalize F k = f at *;generalize gC ws[k] i = r at *;generalize ws[k] = w at *;obtain ⟨wp,wm,wc⟩ := w;dsimp only at *
    (repeat' (first|refine wS ?_|refine wB ?_|refine wK ?_|(refine wC rfl ?_ ?_<;>(intro hb;(try simp only [nm] at hb);try (exfalso;omega)))|(refine rg 6 (vV (aJ rfl rfl) ?_))|(refine rg 7 (vV (ix T rfl (by omega) (jB _) hgk) (lW T rfl (bT (bH T rfl) rfl (aQ T rfl rfl rfl rfl rfl rfl (by decide) rfl ?_)))))|(refine cJ (id := 8) 45 [[],[],[1],[],[1,2,3],rM 1 4,rN 6] (rM 36 7) [[],[36],[36],[36,37,38],[36],[36],[]] cN rfl (by decide +kernel) (dO T rfl (dP T rfl (dO T rfl (dN rfl (dV rfl (ix T rfl (by omega) (gX _) q1) (dO T rfl (dV rfl (kC (hh)) (dE ?_))))))));refine aQ T rfl rfl rfl rfl rfl rfl (by decide) rfl ?_)|(refine rg 9 (vV (bS rfl rfl (by omega) (by omega)) (mV ?_)))|refine nZ ?_));all_goals try (exfalso;omega)
    exact ⟨⟨k + 1,hlt⟩,by dsimp only;omega,⟨[0,1],rfl,(by repeat first|exact trivial|refine ⟨rfl,?_⟩),⟨.inr rfl,.inr (by dsimp only;rw [hF1,q3];rfl),trivial⟩,by decide,jT _⟩⟩
  · obtain rfl : k = ws.length := by omega
    (repeat' (first|refine wS ?_|refine wR ?_|refine wE ?_|(refine wC rfl ?_ ?_<;>(intro hb;(try simp only [nm] at hb);try (exfalso;omega)))|(refine rg 6 (vV (aJ rfl rfl) ?_))|(refine rg 10 (lW T rfl (aQ T rfl rfl rfl rfl rfl rfl (by decide) rfl ?_)))|refine nZ ?_));all_goals try (exfalso;omega)
    all_goals exact ⟨.inl rfl,[],_,rfl,rfl,rfl,trivial,by decide,jT _⟩
theorem zG2 : AK Tryz.prog 56 0 = some (3,0) := by kernel_rfl
theorem OX (c : Cx) (gs : List G) (lot id : Int) (h : 0 ≤ id ∧ id < c.bs.length) : aO Tryz.prog 54 [.i id,.pr [.pr (fT c gs) 0] 0,.pr [.i lot] 0] [] (.b (decide ((c.bs.getD id.toNat (0,0,0)).1 ≠ lot))) [] := by
  have hbx : c.bs[id.toNat]? = some (c.bs.getD id.toNat (0,0,0)) := by
    rw [aC,aB (by omega)];rfl
  have hbxl : (fS c.bs).length = c.bs.length := bF _;have qb : (fS c.bs)[id.toNat]? = some [.i (c.bs.getD id.toNat (0,0,0)).1,.i (c.bs.getD id.toNat (0,0,0)).2.1,.i (c.bs.getD id.toNat (0,0,0)).2.2] := by rw [bI,hbx];rfl
  generalize c.bs.getD id.toNat (0,0,0) = bx at *;obtain ⟨x1,x2,x3⟩ := bx;dsimp only at *;refine bK T Tryz.func54 rfl rfl rfl rfl ?_
  (repeat' (first|refine wS ?_|refine wR ?_|(refine rg 0 (aV ?_))|(refine cJ (id := 1) 15 [[],[0],[0,1],[0,1,2],[],rN 5,rN 6,rN 7,[],rN 9] (rM 5 10) [[],[],[],[],rM 5 4,[],[],[],rM 5 8,[]] cN rfl (by decide +kernel) (dO T rfl (dV rfl (by exact eE rfl rfl) ?_));refine dP T rfl (dO T rfl (dN rfl (dV rfl (ix T rfl (by omega) (oS _) qb) (dP T rfl (dO T rfl (dO T rfl (dV rfl (fF rfl rfl) (dE ?_))))))));refine aV ?_)|refine nZ ?_));all_goals try (exfalso;omega)
  all_goals refine cY (.inl rfl) rfl (lS ?_)
  all_goals simp
theorem N2 (c : Cx) (gs : List G) (b lot : Int) (h : oU c gs) {g : G} {i : Nat} (hg : uV gs b = some (g,i)) (hr : ∀ x,x ∈ oJ g i → 0 ≤ x ∧ x < c.bs.length) (hpl : (oJ g i).length ≤ 1000000) :
    aO Tryz.prog 22 [.pr (fT c gs) 0,.i b,.i lot] [] (.i (OW c (oJ g i) (CQ g i) lot)) [] := by
  have hp := FT c gs b h hg;have hrg := HX c gs b h hg;generalize oJ g i = P at *;generalize CQ g i = r at *;obtain ⟨r1,r2⟩ := r;dsimp only at *;have hl : (ints P).length = P.length := cW _;have hc := PN (l := P) (F := 54) (caps := [.pr [.pr (fT c gs) 0] 0,.pr [.i lot] 0]) (p := fun id => decide ((c.bs.getD id.toNat (0,0,0)).1 ≠ lot)) hpl rfl (fun x hx => OX c gs lot x (hr x hx));unfold OW;by_cases h0 : P.length = 0
  · rw [if_pos (.inl h0)];refine bK T Tryz.func22 rfl rfl rfl rfl ?_
    (repeat' (first|refine wS ?_|(refine rg 0 (bT (cQ rfl rfl) rfl (bT (cQ rfl rfl) rfl (aV ?_))))|refine nZ ?_));refine fC 3 rfl rfl rfl ?_
    refine fC 5 rfl rfl rfl ?_
    (repeat' (first|refine wS ?_|(refine rg 1 (lW T rfl (mW rfl (bT (by exact fZ rfl rfl hp (.inr ⟨rfl,rfl,by simp⟩)) rfl ?_)));refine aV ?_)|refine nZ ?_));refine eP [(1,.i b),(3,.pr [.pr (fT c gs) 0] 0),(5,.pr [.i lot] 0),(7,.sl 0 0 P.length 1)] [.arr (ints P) 1] ⟨[2],rfl,(by repeat first|exact trivial|refine ⟨rfl,?_⟩),⟨.inr (aG rfl (cE _ (bO _)) (bO _)),trivial⟩,by decide,jT _⟩ ?_
    refine E0 7 (es := ints P) rfl rfl hl.symm (gD (bO _)) ?_
    (repeat' (first|refine wS ?_|refine wR ?_|refine wT ?_|(refine rg 2 (mW rfl (qW T rfl (vV (kE rfl rfl (by omega)) (mV ?_))));(iterate 3 refine gF ?_);refine pV ?_)|(refine rg 3 (aV ?_))|refine nZ ?_));all_goals try (exfalso;omega)
    all_goals exact rQ
  · cases ha : P.any fun id => decide ((c.bs.getD id.toNat (0,0,0)).1 ≠ lot) with
    | true =>
      rw [ha] at hc;rw [if_pos (.inr rfl)];refine bK T Tryz.func22 rfl rfl rfl rfl ?_
      (repeat' (first|refine wS ?_|(refine rg 0 (bT (cQ rfl rfl) rfl (bT (cQ rfl rfl) rfl (aV ?_))))|refine nZ ?_));refine fC 3 rfl rfl rfl ?_
      refine fC 5 rfl rfl rfl ?_
      (repeat' (first|refine wS ?_|(refine rg 1 (lW T rfl (mW rfl (bT (by exact fZ rfl rfl hp (.inr ⟨rfl,rfl,by simp⟩)) rfl ?_)));refine aV ?_)|refine nZ ?_));refine eP [(1,.i b),(3,.pr [.pr (fT c gs) 0] 0),(5,.pr [.i lot] 0),(7,.sl 0 0 P.length 1)] [.arr (ints P) 1] ⟨[2],rfl,(by repeat first|exact trivial|refine ⟨rfl,?_⟩),⟨.inr (aG rfl (cE _ (bO _)) (bO _)),trivial⟩,by decide,jT _⟩ ?_
      refine E0 7 (es := ints P) rfl rfl hl.symm (gD (bO _)) ?_
      (repeat' (first|refine wS ?_|refine wR ?_|refine wT ?_|(refine rg 2 (mW rfl (qW T rfl (vV (fP rfl rfl (by omega)) (mW rfl (yN rfl (yV (by exact iX rfl rfl) ?_))))));refine yV (kC (hc)) (pV ?_))|(refine rg 3 (aV ?_))|refine nZ ?_));all_goals try (exfalso;omega)
      all_goals exact rQ
    | false =>
      rw [ha] at hc;rw [if_neg (by rintro (q | q);exact h0 q;cases q)]
      refine bK T Tryz.func22 rfl rfl rfl rfl ?_
      (repeat' (first|refine wS ?_|(refine rg 0 (bT (cQ rfl rfl) rfl (bT (cQ rfl rfl) rfl (aV ?_))))|refine nZ ?_));refine fC 3 rfl rfl rfl ?_
      refine fC 5 rfl rfl rfl ?_
      (repeat' (first|refine wS ?_|(refine rg 1 (lW T rfl (mW rfl (bT (by exact fZ rfl rfl hp (.inr ⟨rfl,rfl,by simp⟩)) rfl ?_)));refine aV ?_)|refine nZ ?_));refine eP [(1,.i b),(3,.pr [.pr (fT c gs) 0] 0),(5,.pr [.i lot] 0),(7,.sl 0 0 P.length 1)] [.arr (ints P) 1] ⟨[2],rfl,(by repeat first|exact trivial|refine ⟨rfl,?_⟩),⟨.inr (aG rfl (cE _ (bO _)) (bO _)),trivial⟩,by decide,jT _⟩ ?_
      refine E0 7 (es := ints P) rfl rfl hl.symm (gD (bO _)) ?_
      (repeat' (first|refine wS ?_|refine wK ?_|refine wR ?_|refine wU ?_|(refine rg 2 (mW rfl (qW T rfl (vV (fP rfl rfl (by omega)) (mW rfl (yN rfl (yV (by exact iX rfl rfl) ?_))))));refine yV (kC (hc)) (pV ?_))|(refine rg 4 (lW T rfl (mW rfl (vV (kC (hrg)) (vV (by exact V3 T rfl zG2 rfl rfl) ?_))));refine aV ?_)|refine nZ ?_));all_goals try (exfalso;omega)
      all_goals exact rQ
end Go.Proofs.YtbialaoigijlgaaGreatDoor
namespace Go.Ld
open Go.Ab Go.Proofs.YtbialaoigijlgaaGreatDoor
def B6 (g : G) (p q : List Int) (w : W) (i : Nat) : Bool := decide (gP w i = p.getD (g.1.getD i 0).toNat 0) && DM (gC w i).1 (gC w i).2 (q.getD (p.getD (g.1.getD i 0).toNat 0).toNat 0)
def LL (g : G) (p q : List Int) (w : W) : Bool := (List.range g.1.length).all (B6 g p q w)
theorem VG {g : G} {p q : List Int} {w : W} (h : ∀ i,i < g.1.length → B6 g p q w i = true) : LL g p q w = true := bB.2 fun i hi => h i (fN.1 hi)
theorem YO {g : G} {p q : List Int} {w : W} {i : Nat} (hi : i < g.1.length) (h : B6 g p q w i = false) : LL g p q w = false := H3.2 ⟨i,fN.2 hi,by rw [h];simp⟩
structure zE0 (n : Nat) (p q : List Int) : Prop where
  pl : p.length = n
  ql : q.length = n
  pr : ∀ i,i < n → 0 ≤ p.getD i 0 ∧ p.getD i 0 < n
end Go.Ld
namespace Go.Proofs.YtbialaoigijlgaaGreatDoor
open Go Go.Ab Go.Ld
attribute [local irreducible] VC AW bV aO jR
set_option maxHeartbeats 4000000
theorem RS {n : Nat} (g : G) (p q : List Int) (w : W) (hg : H4 n g) (hw : BF n g.1.length w) (hp : zE0 n p q) (hn : n ≤ 1000) :
    aO Tryz.prog 56 [.agg (wA w),.pr (gA g) 0,.pr [.rowE (ints p) 1] 0,.pr [.rowE (ints q) 1] 0] [] (.b (LL g p q w)) [] := by
  have hln := hg.ln;have hyes := VG (g := g) (p := p) (q := q) (w := w);have hno := fun (i : Nat) (hi : i < g.1.length) => YO (g := g) (p := p) (q := q) (w := w) hi;have hpp := hw.pl;have hcc := hw.cl;have hgi : ∀ i,i < g.1.length → 0 ≤ g.1.getD i 0 ∧ g.1.getD i 0 < n := fun i hi => by
    rw [aC,aB hi];exact hg.rg _ (aI hi)
  have hlp : (ints p).length = n := by rw [cW];exact hp.pl
  have hlq : (ints q).length = n := by rw [cW];exact hp.ql
  obtain ⟨bs,ws⟩ := g;obtain ⟨wp,wm,wc⟩ := w;dsimp only at *;have hlb : (ints bs).length = bs.length := cW _;have hl1 : (ints wp).length = bs.length := by rw [cW];exact hpp
  have hl2 : (eO wc).length = bs.length := by rw [fO];exact hcc
  generalize LL (bs,ws) p q (wp,wm,wc) = R at *;refine bK T Tryz.func56 rfl rfl rfl rfl ?_
  (repeat' (first|refine wS ?_|refine wB ?_|(refine rg 0 (bT (cQ rfl rfl) rfl (aV ?_)))|(refine rg 1 (hO T rfl (qW T rfl (mV ?_))))|refine nZ ?_));all_goals try (exfalso;omega)
  refine fC 4 (cs := wA (wp,wm,wc)) rfl rfl rfl ?_;refine cK (X := {k : Nat // k ≤ bs.length ∧ ∀ i,i < k → B6 (bs,ws) p q (wp,wm,wc) i = true}) (fun k => [(2,.pr [.rowE (ints p) 1] 0),(3,.pr [.rowE (ints q) 1] 0),(4,.pr (wA (wp,wm,wc)) 0),(9,.rowE (ints bs) 1),(10,.i (ints bs).length),(11,.i k.1)]) (fun _ => []) (fun k => bs.length - k.1) ⟨0,bP _,I1⟩ (dS []) ?_;rintro ⟨k,hk,hall⟩;dsimp only;by_cases hlt : k < bs.length
  · obtain ⟨g1,g2⟩ := hgi k hlt;have qb := lD (l := bs) (j := (k : Int)) (i := k) 0 (by omega) rfl
    have qp := lD (l := wp) (j := (k : Int)) (i := k) 0 (by omega) rfl
    have qc := oZ (l := wc) (j := (k : Int)) (i := k) (by omega) rfl
    have hok : B6 (bs,ws) p q (wp,wm,wc) k = (decide (wp.getD k 0 = p.getD (bs.getD k 0).toNat 0) && DM (wc.getD k (0,0)).1 (wc.getD k (0,0)).2 (q.getD (p.getD (bs.getD k 0).toNat 0).toNat 0)) := rfl;have hn2 := hno k hlt;generalize bs.getD k 0 = b at *;obtain ⟨p1,p2⟩ := hp.pr b.toNat (by omega)
    have qp2 := lD (l := p) (j := b) (i := b.toNat) 0 (by have := hp.pl;omega) (by omega)
    generalize p.getD b.toNat 0 = x at *;have qq := lD (l := q) (j := x) (i := x.toNat) 0 (by have := hp.ql;omega) (by omega)
    generalize q.getD x.toNat 0 = y at *;generalize wp.getD k 0 = v at *;generalize wc.getD k (0,0) = r at *;obtain ⟨r1,r2⟩ := r;dsimp only at *;have hh := HW r1 r2 y;by_cases hv : v = x
    · rw [decide_eq_true hv,iO] at hok;generalize DM r1 r2 y = hb' at *;cases hb' with
      | true =>
        (repeat' (first|refine wS ?_|refine wB ?_|refine wK ?_|refine wU ?_|(refine wC rfl ?_ ?_<;>(intro hb;(try simp only [nm] at hb);try (exfalso;omega)))|(refine rg 2 (vV (aJ rfl rfl) ?_))|(refine rg 3 (mW rfl (vV (ix T rfl (by omega) (bZ _) qb) (lW T rfl (qA ?_)))))|(refine cJ (id := 4) 43 zO9 (rM 16 26) zP0 cN rfl (by decide +kernel) (dP T rfl (dO T rfl (dN rfl (dV rfl (ix T rfl (by omega) (bZ _) qp) (dO T rfl (dO T rfl (dN rfl (dV rfl (ix T rfl (by omega) (bZ _) qp2) (dL T ?_)))))))));refine dV rfl (fF rfl rfl) (dM ?_);refine qN rfl rfl rfl rfl ?_ ?_<;>(intro hb;rw [hb];(try simp only [nm] at hb);try (exfalso;omega))<;>(refine tF T ?_);(all_goals (refine tO T rfl (tN rfl (dT rfl (ix T rfl (by omega) (gX _) qc) (tO T rfl (tO T rfl (tO T rfl (tN rfl (dT rfl (ix T rfl (by omega) (bZ _) qp2) (tO T rfl (dT rfl (ix T rfl (by omega) (bZ _) qq) ?_)))))))));refine tO T rfl (dT rfl (kC (hh)) (dT rfl (eL rfl) (dV rfl (jF rfl rfl) (dE ?_)))))))|(refine rg 6 (vV (bS rfl rfl (by omega) (by omega)) (mV ?_)))|refine nZ ?_));all_goals try (exfalso;omega)
        exact ⟨⟨k + 1,hlt,fun i hi => by
          rcases gO i k with h | h
          · exact hall i h
          · obtain rfl : i = k := by omega
            exact hok⟩,by dsimp only;omega,[],rfl,⟨rfl,rfl,rfl,rfl,rfl,rfl,trivial⟩,trivial,cX,jT _⟩
      | false =>
        have hR := hn2 hok;subst hR
        (repeat' (first|refine wS ?_|refine wB ?_|refine wK ?_|refine wR ?_|refine wT ?_|(refine wC rfl ?_ ?_<;>(intro hb;(try simp only [nm] at hb);try (exfalso;omega)))|(refine rg 2 (vV (aJ rfl rfl) ?_))|(refine rg 3 (mW rfl (vV (ix T rfl (by omega) (bZ _) qb) (lW T rfl (qA ?_)))))|(refine cJ (id := 4) 43 zO9 (rM 16 26) zP0 cN rfl (by decide +kernel) (dP T rfl (dO T rfl (dN rfl (dV rfl (ix T rfl (by omega) (bZ _) qp) (dO T rfl (dO T rfl (dN rfl (dV rfl (ix T rfl (by omega) (bZ _) qp2) (dL T ?_)))))))));refine dV rfl (fF rfl rfl) (dM ?_);refine qN rfl rfl rfl rfl ?_ ?_<;>(intro hb;rw [hb];(try simp only [nm] at hb);try (exfalso;omega))<;>(refine tF T ?_);(all_goals (refine tO T rfl (tN rfl (dT rfl (ix T rfl (by omega) (gX _) qc) (tO T rfl (tO T rfl (tO T rfl (tN rfl (dT rfl (ix T rfl (by omega) (bZ _) qp2) (tO T rfl (dT rfl (ix T rfl (by omega) (bZ _) qq) ?_)))))))));refine tO T rfl (dT rfl (kC (hh)) (dT rfl (eL rfl) (dV rfl (jF rfl rfl) (dE ?_)))))))|(refine rg 5 (aV ?_))|refine nZ ?_));all_goals try (exfalso;omega)
        all_goals exact rQ
    · rw [decide_eq_false hv,jI] at hok;have hR := hn2 hok;subst hR
      (repeat' (first|refine wS ?_|refine wB ?_|refine wK ?_|refine wR ?_|refine wT ?_|(refine wC rfl ?_ ?_<;>(intro hb;(try simp only [nm] at hb);try (exfalso;omega)))|(refine rg 2 (vV (aJ rfl rfl) ?_))|(refine rg 3 (mW rfl (vV (ix T rfl (by omega) (bZ _) qb) (lW T rfl (qA ?_)))))|(refine cJ (id := 4) 43 zO9 (rM 16 26) zP0 cN rfl (by decide +kernel) (dP T rfl (dO T rfl (dN rfl (dV rfl (ix T rfl (by omega) (bZ _) qp) (dO T rfl (dO T rfl (dN rfl (dV rfl (ix T rfl (by omega) (bZ _) qp2) (dL T ?_)))))))));refine dV rfl (fF rfl rfl) (dM ?_);refine qN rfl rfl rfl rfl ?_ ?_<;>(intro hb;rw [hb];(try simp only [nm] at hb);try (exfalso;omega))<;>(refine dG ?_);(all_goals (refine tG rfl (tG rfl (tG rfl (tG rfl (tG rfl (tG rfl (tG rfl (tG rfl (tG rfl (dG ?_)))))))));refine tG rfl (tG rfl (tG rfl (dV rfl (jO rfl rfl) (dE ?_)))))))|(refine rg 5 (aV ?_))|refine nZ ?_));all_goals try (exfalso;omega)
      all_goals exact rQ
  · obtain rfl : k = bs.length := by omega
    have hR := hyes hall;subst hR
    (repeat' (first|refine wS ?_|refine wR ?_|refine wE ?_|(refine wC rfl ?_ ?_<;>(intro hb;(try simp only [nm] at hb);try (exfalso;omega)))|(refine rg 2 (vV (aJ rfl rfl) ?_))|(refine rg 7 (aV ?_))|refine nZ ?_));all_goals try (exfalso;omega)
    all_goals exact rQ
end Go.Proofs.YtbialaoigijlgaaGreatDoor
namespace Go.Ld
open Go.Ab Go.Proofs.YtbialaoigijlgaaGreatDoor
def IZ (g : G) (p q : List Int) (m : Int) (w : W) : Int := if LL g p q w && (decide (m < 0) || decide (w.2.1 < m)) then w.2.1 else m
def A5 (g : G) (p q : List Int) (k : Nat) : Int := (g.2.take k).foldl (IZ g p q) (-1)
def pM (g : G) (p q : List Int) : Int := A5 g p q g.2.length
theorem P2 {g : G} {p q : List Int} {k : Nat} (h : k < g.2.length) : A5 g p q (k + 1) = IZ g p q (A5 g p q k) g.2[k] := by
  unfold A5;rw [aR h,SI];rfl
theorem D9 {g : G} {p q : List Int} (h : ∀ w, w ∈ g.2 → 0 ≤ w.2.1 ∧ w.2.1 ≤ 4000000) : ∀ k, k ≤ g.2.length → -1 ≤ A5 g p q k ∧ A5 g p q k ≤ 4000000
  | 0,_ => by unfold A5;simp
  | k + 1,hk => by
    have ih := D9 (p := p) (q := q) h k (by omega)
    have := h g.2[k] (aI _);rw [P2 (by omega)]
    unfold IZ;split <;> omega
def B9 (gs : List G) (p q : List Int) (k : Nat) : Int := ((gs.take k).map fun g => pM g p q).sum
theorem JM {gs : List G} {p q : List Int} {k : Nat} (h : k < gs.length) : B9 gs p q (k + 1) = B9 gs p q k + pM gs[k] p q := by
  unfold B9;rw [aR h,dB,ZL];simp
def zF2 (c : Cx) (gs : List G) (p q : List Int) : Bool :=
  decide (p.length = c.bs.length) && decide (q.length = p.length) && Go.Pm.permB p && gs.all (fun g => decide (0 ≤ pM g p q)) && decide (B9 gs p q gs.length ≤ c.m)
theorem OA {n : Nat} {p q : List Int} (h : Go.Pm.permB p = true) (hp : p.length = n) (hq : q.length = p.length) : zE0 n p q := by
  refine ⟨hp,by omega,fun i hi => ?_⟩
  have e : iD p = nats (List.range p.length) := of_decide_eq_true h;have hm : p.getD i 0 ∈ p := by rw [aC,aB (by omega)];exact aI _
  have := (Go.Pm.sorted_perm p).mem_iff.2 hm;rw [e,hp] at this;exact zG.1 this
end Go.Ld
namespace Go.Proofs.YtbialaoigijlgaaGreatDoor
open Go Go.Ab Go.Ld Go.Pm
attribute [local irreducible] VC AW bV aO jR
set_option maxHeartbeats 4000000
theorem CW (p : List Int) (hl : p.length ≤ 17592186043904) : aO Tryz.prog 55 [.rowE (ints p) 1] [] (.b (permB p)) [] := by
  have h1 := yW p;have h2 := K8 p hl;have hlen : (ints (iD p)).length = p.length := by simp [oO]
  have hsl := oO p;have hB : permB p = decide (iD p = nats (List.range p.length)) := rfl;rw [hB];generalize iD p = B at *;have hrl : (nats (List.range p.length)).length = p.length := by simp
  refine bK T Tryz.func55 rfl rfl rfl rfl ?_
  (repeat' (first|refine wS ?_|refine wB ?_|(refine rg 0 (aV ?_))|(refine rg 1 (mW rfl (vV (by exact eQ rfl rfl h1 rfl rfl rfl) ?_));refine vV (by exact eQ rfl rfl h2 rfl rfl rfl) ?_;refine qW T rfl (mV ?_))|refine nZ ?_));refine cK (X := {i : Nat // i ≤ p.length ∧ B.take i = (nats (List.range p.length)).take i}) (fun i => [(7,.rowE (ints B) 1),(8,.i (ints B).length),(9,.i (i.1 : Int))]) (fun _ => []) (fun i => p.length - i.1) ⟨0,bP _,rfl⟩ (dS []) ?_
  rintro ⟨i,hi,hg⟩;dsimp only;by_cases hlt : i < p.length
  · have q1 := lD (l := B) (j := (i : Int)) (i := i) 0 (by omega) rfl
    have hx : B.getD i 0 = B[i]'(by omega) := by rw [aC,aB (by omega)];rfl
    by_cases e : (i : Int) = B.getD i 0
    · have hg2 : B.take (i + 1) = (nats (List.range p.length)).take (i + 1) := by
        rw [aR (by omega),aR (by omega),hg,← hx,← e]
        simp
      generalize B.getD i 0 = x at *
      (repeat' (first|refine wS ?_|refine wB ?_|refine wK ?_|refine wU ?_|(refine wC rfl ?_ ?_<;>(intro hb;(try simp only [nm] at hb);try (exfalso;omega)))|(refine rg 2 (vV (aJ rfl rfl) ?_))|(refine rg 3 (mW rfl (vV (ix T rfl (by omega) (bZ B) q1) (lW T rfl (qA ?_)))))|(refine rg 4 (dQ rfl (vV (oW rfl rfl (by omega)) ?_)))|(refine rg 6 (vV (bS rfl rfl (by omega) (by omega)) (mV ?_)))|refine nZ ?_));all_goals first | (exfalso;omega) | exact ⟨⟨i + 1,hlt,hg2⟩,by dsimp only;omega,dS []⟩
    · rw [show decide (B = nats (List.range p.length)) = false from decide_eq_false (fun h => e (by rw [hx];simp [h]))]
      generalize B.getD i 0 = x at *
      (repeat' (first|refine wS ?_|refine wB ?_|refine wK ?_|refine wR ?_|refine wT ?_|(refine wC rfl ?_ ?_<;>(intro hb;(try simp only [nm] at hb);try (exfalso;omega)))|(refine rg 2 (vV (aJ rfl rfl) ?_))|(refine rg 3 (mW rfl (vV (ix T rfl (by omega) (bZ B) q1) (lW T rfl (qA ?_)))))|(refine rg 4 (dQ rfl (vV (rD rfl rfl (by omega)) ?_)))|(refine rg 5 (aV ?_))|refine nZ ?_));all_goals first | (exfalso;omega) | exact rQ
  · rw [cF (by omega),cF (by omega)] at hg
    rw [show decide (B = nats (List.range p.length)) = true from decide_eq_true hg]
    (repeat' (first|refine wS ?_|refine wR ?_|refine wE ?_|(refine wC rfl ?_ ?_<;>(intro hb;(try simp only [nm] at hb);try (exfalso;omega)))|(refine rg 2 (vV (aJ rfl rfl) ?_))|(refine rg 7 (aV ?_))|refine nZ ?_));all_goals first | (exfalso;omega) | exact rQ
theorem UO (n : Int) (h : n ≤ 17592186043904) : aO Tryz.prog 14 [.i n] [] (.sl 0 0 n.toNat 1) [.arr (ints (nats (List.range n.toNat))) 1] := by
  refine bK T Tryz.func14 rfl rfl rfl rfl ?_
  (repeat' (first|refine wS ?_|refine wB ?_|(refine rg 0 (aV ?_))|(refine rg 1 (aV ?_))|(refine rg 2 (mW rfl (vV (tV rfl rfl) (mV ?_))))|refine nZ ?_));refine ZF 3 1 rfl (by decide) ?_
  refine cK (X := {i : Nat // i ≤ n.toNat}) (fun i => [(3,.sl 0 0 i.1 1),(6,.i (max n 0)),(7,.i (i.1 : Int))]) (fun i => [.arr (ints (nats (List.range i.1))) 1]) (fun i => n.toNat - i.1) ⟨0,bP _⟩ ⟨[0],rfl,⟨rfl,rfl,rfl,trivial⟩,⟨.inr rfl,trivial⟩,by decide,I1⟩ ?_
  rintro ⟨i,hi⟩;dsimp only;have hl : (ints (nats (List.range i))).length = i := by simp
  by_cases hlt : i < n.toNat
  · have hs : ints (nats (List.range i)) ++ [[AV.i (i : Int)]] = ints (nats (List.range (i + 1))) := by rw [List.range_succ,KL]
    (repeat' (first|refine wS ?_|refine wB ?_|refine wK ?_|(refine wC rfl ?_ ?_<;>(intro hb;(try simp only [nm] at hb);try (exfalso;omega)))|(refine rg 3 (vV (aJ rfl rfl) ?_))|(refine rg 4 (mW rfl (aV ?_)))|(refine rg 5 (dQ rfl (bT (by exact bC T rfl rfl (by decide) (by decide) rfl rfl rfl) rfl ?_));refine gR T rfl rfl rfl rfl rfl rfl (by simp) (kX.whole rfl rfl) rfl (by simp;omega) (by simp;omega) rfl ?_;refine aV ?_)|(refine rg 6 (vV (bS rfl rfl (by omega) (by omega)) (mV ?_)))|refine nZ ?_));all_goals first | (exfalso;omega) | skip
    exact ⟨⟨i + 1,hlt⟩,by dsimp only;omega,[2],rfl,⟨rfl,rfl,rfl,trivial⟩,⟨.inr (aG rfl ((lT hl.symm).trans hs) (bO _)),trivial⟩,by decide,I1⟩
  · obtain rfl : i = n.toNat := by omega
    (repeat' (first|refine wS ?_|refine wR ?_|refine wE ?_|(refine wC rfl ?_ ?_<;>(intro hb;(try simp only [nm] at hb);try (exfalso;omega)))|(refine rg 3 (vV (aJ rfl rfl) ?_))|(refine rg 7 (mW rfl (aV ?_)))|refine nZ ?_));all_goals first | (exfalso;omega) | exact ⟨.inl rfl,[0],_,rfl,rfl,rfl,⟨.inr (aG rfl rfl (bO _)),trivial⟩,by decide,I1⟩
theorem LY (c : Cx) (gs : List G) (p q : List Int) (h : oU c gs) (hm : c.m ≤ 1048576) (hpl : p.length ≤ 17592186043904) (hql : q.length ≤ 17592186043904) :
    aO Tryz.prog 23 [.pr (fT c gs) 0,.rowE (ints p) 1,.rowE (ints q) 1] [] (.b (zF2 c gs p q)) [] := by
  have hn12 := h.mid.n12;have hl12 : gs.length ≤ 12 := bW h.mid.out.len h.mid.out.ln;have hbl : (fS c.bs).length = c.bs.length := bF _;have hlp : (ints p).length = p.length := cW _;have hlq : (ints q).length = q.length := cW _;have hgl : (iB gs).length = gs.length := gZ _;have hpr := CW p hpl;have hpq := fun hB h1 h2 => OA (n := c.bs.length) (p := p) (q := q) hB h1 h2;have hbst : ∀ g,g ∈ gs → -1 ≤ pM g p q ∧ pM g p q ≤ 4000000 := fun g hg => D9 (fun w hw => ⟨((h.mid.out.ok g hg).ws w hw).m0,((h.mid.out.ok g hg).ws w hw).m1⟩) _ (aX _);unfold zF2;generalize hB : permB p = pb at *;by_cases h1 : p.length = c.bs.length
  · rw [decide_eq_true h1,iO];by_cases h2 : q.length = p.length
    · rw [decide_eq_true h2,iO];cases pb with
      | false =>
        rw [jI,jI];refine bK T Tryz.func23 rfl rfl rfl rfl ?_
        (repeat' (first|refine wS ?_|(refine rg 0 (bT (cQ rfl rfl) rfl (bT (cQ rfl rfl) rfl (aV ?_))))|refine nZ ?_));refine fC 4 rfl rfl rfl ?_
        refine fC 5 rfl rfl rfl ?_
        (repeat' (first|refine wS ?_|refine wR ?_|refine wT ?_|(refine cJ (id := 1) 80 zP1 (rM 14 20) zP2 cN rfl (by decide +kernel) (dO T rfl (dV rfl (fY T rfl rfl) (dN rfl (dV rfl (by exact eE rfl rfl) ?_))));refine dP T rfl (dO T rfl (dV rfl (fY T rfl rfl) (dV rfl (oW rfl rfl (by omega)) (dN rfl (tO T rfl (dT rfl (fY T rfl rfl) (tO T rfl (dT rfl (fY T rfl rfl) (dT rfl (oW rfl rfl (by omega)) ?_)))))))));refine dV rfl (jF rfl rfl) (dN rfl (tO T rfl (dT rfl (kC (hpr)) (dT rfl (eL rfl) (dV rfl (jF rfl rfl) (dE ?_)))))))|(refine rg 2 (aV ?_))|refine nZ ?_));all_goals try (exfalso;omega)
        all_goals exact rQ
      | true =>
        rw [iO];have hpq := hpq rfl h1 h2;have hno : ∀ k (hk : k < gs.length),pM gs[k] p q < 0 → (gs.all (fun g => decide (0 ≤ pM g p q)) && decide (B9 gs p q gs.length ≤ c.m)) = false := fun k hk hb => by
          rw [show gs.all (fun g => decide (0 ≤ pM g p q)) = false from H3.2 ⟨gs[k],aI hk,by simp;omega⟩];rfl
        have hyes : (∀ k (hk : k < gs.length),0 ≤ pM gs[k] p q) → (gs.all (fun g => decide (0 ≤ pM g p q)) && decide (B9 gs p q gs.length ≤ c.m)) = decide (B9 gs p q gs.length ≤ c.m) := fun hb => by
          rw [show gs.all (fun g => decide (0 ≤ pM g p q)) = true from bB.2 fun x hx => by
            obtain ⟨k,hk,rfl⟩ := List.getElem_of_mem hx
            exact decide_eq_true (hb k hk)];rfl
        generalize (gs.all (fun g => decide (0 ≤ pM g p q)) && decide (B9 gs p q gs.length ≤ c.m)) = R at *;refine bK T Tryz.func23 rfl rfl rfl rfl ?_
        (repeat' (first|refine wS ?_|(refine rg 0 (bT (cQ rfl rfl) rfl (bT (cQ rfl rfl) rfl (aV ?_))))|refine nZ ?_));refine fC 4 rfl rfl rfl ?_
        refine fC 5 rfl rfl rfl ?_
        (repeat' (first|refine wS ?_|refine wB ?_|refine wK ?_|refine wU ?_|(refine cJ (id := 1) 80 zP1 (rM 14 20) zP2 cN rfl (by decide +kernel) (dO T rfl (dV rfl (fY T rfl rfl) (dN rfl (dV rfl (by exact eE rfl rfl) ?_))));refine dP T rfl (dO T rfl (dV rfl (fY T rfl rfl) (dV rfl (oW rfl rfl (by omega)) (dN rfl (tO T rfl (dT rfl (fY T rfl rfl) (tO T rfl (dT rfl (fY T rfl rfl) (dT rfl (oW rfl rfl (by omega)) ?_)))))))));refine dV rfl (jF rfl rfl) (dN rfl (tO T rfl (dT rfl (kC (hpr)) (dT rfl (eL rfl) (dV rfl (jF rfl rfl) (dE ?_)))))))|(refine rg 3 (aV ?_))|(refine rg 4 (mW rfl (nV ?_));refine hO T rfl (qW T rfl (mV ?_)))|refine nZ ?_));all_goals try (exfalso;omega)
        refine cK (X := {k : Nat // k ≤ gs.length ∧ (∀ j (hj : j < gs.length),j < k → 0 ≤ pM gs[j] p q) ∧ 0 ≤ B9 gs p q k ∧ B9 gs p q k ≤ 4000000 * k}) (fun k => [(0,.pr (fT c gs) 0),(4,.pr [.rowE (ints p) 1] 0),(5,.pr [.rowE (ints q) 1] 0),(7,.i (B9 gs p q k.1)),(37,.rowE (iB gs) 2),(38,.i (iB gs).length),(39,.i k.1)]) (fun _ => []) (fun k => gs.length - k.1) ⟨0,bP _,fun j hj h => absurd h (dI _),kJ _,kJ _⟩ (dS []) ?_;rintro ⟨k,hk,hall,hs0,hs1⟩;dsimp only;by_cases hlt : k < gs.length
        · have hgk := zR hlt;have hgm := aI hlt;have og := h.mid.out.ok _ hgm;have hwl := h.mid.wl _ hgm;have hno := hno k hlt;have hsk := JM (p := p) (q := q) hlt;have hbk := hbst _ hgm;have hall2 : 0 ≤ pM gs[k] p q → ∀ j (hj : j < gs.length),j < k + 1 → 0 ≤ pM gs[j] p q := fun hb j hj hjk => by
            rcases gO j k with h' | h'
            · exact hall j hj h'
            · obtain rfl : j = k := by omega
              exact hb
          clear hyes hall;generalize hg : gs[k] = g at *;have hcl : ∀ w,w ∈ g.2 → _ := fun w hw => RS g p q w og (og.ws w hw) hpq (by omega)
          have hbs : ∀ j (hj : j < g.2.length),_ := fun j hj => P2 (g := g) (p := p) (q := q) hj;have hbb : ∀ j,j ≤ g.2.length → _ := fun j hj => D9 (g := g) (p := p) (q := q) (fun w hw => ⟨(og.ws w hw).m0,(og.ws w hw).m1⟩) j hj;have hmw : ∀ w,w ∈ g.2 → 0 ≤ w.2.1 ∧ w.2.1 ≤ 4000000 := fun w hw => ⟨(og.ws w hw).m0,(og.ws w hw).m1⟩;unfold pM at hbk hsk hno hall2;generalize hS : B9 gs p q (k + 1) = S1 at *;generalize B9 gs p q k = S at *;have hbs0 : A5 g p q 0 = -1 := rfl;unfold IZ at hbs;obtain ⟨bs,ws⟩ := g;dsimp only at *;generalize A5 (bs,ws) p q = B at *;generalize LL (bs,ws) p q = FB at *;have hwsl : (eY ws).length = ws.length := eD _
          (repeat' (first|refine wS ?_|refine wB ?_|refine wK ?_|(refine wC rfl ?_ ?_<;>(intro hb;(try simp only [nm] at hb);try (exfalso;omega)))|(refine rg 5 (vV (aJ rfl rfl) ?_))|(refine rg 6 (vV (ix T rfl (by omega) (mS _) hgk) (lW T rfl (bT (bH T rfl) rfl (aQ T rfl rfl rfl rfl rfl rfl (by decide) rfl ?_)))))|refine nZ ?_));all_goals try (exfalso;omega)
          refine fC 9 (cs := gA (bs,ws)) rfl rfl rfl ?_
          (repeat' (first|refine wS ?_|refine wB ?_|(refine rg 7 (vV (by exact iX rfl rfl) ?_);refine aV ?_)|(refine rg 8 (aV ?_))|(refine rg 9 (hO T rfl (qW T rfl (mV ?_))))|refine nZ ?_));all_goals try (exfalso;omega)
          refine cK (X := {j : Nat // j ≤ ws.length}) (fun j => [(0,.pr (fT c gs) 0),(4,.pr [.rowE (ints p) 1] 0),(5,.pr [.rowE (ints q) 1] 0),(7,.i S),(37,.rowE (iB gs) 2),(38,.i (iB gs).length),(39,.i k),(10,.clo (.func 56) [] [.pr (gA (bs,ws)) 0,.pr [.rowE (ints p) 1] 0,.pr [.rowE (ints q) 1] 0]),(11,.i (B j.1)),(45,.rowE (eY ws) 3),(46,.i (eY ws).length),(47,.i j.1)]) (fun _ => []) (fun j => ws.length - j.1) ⟨0,bP _⟩ ⟨[],rfl,⟨rfl,rfl,rfl,rfl,rfl,rfl,rfl,rfl,by dsimp only;rw [hbs0];rfl,rfl,rfl,rfl,trivial⟩,trivial,cX,jT _⟩ ?_
          rintro ⟨j,hj⟩;dsimp only;by_cases hjl : j < ws.length
          · have hgj := mH hjl;have hwm := aI hjl;have hc1 := hcl _ hwm;have hb1 := hbs j hjl;have hb2 := hbb j hj;have hm1 := hmw _ hwm;generalize ws[j] = w at *;generalize FB w = fb at *;generalize hB1 : B (j + 1) = B1 at *;generalize B j = B0 at *;obtain ⟨wp,wm,wc⟩ := w;dsimp only at *;have hnx : B1 = B (j + 1) := hB1.symm;cases fb with
            | false =>
              rw [jI,if_neg (by simp)] at hb1
              (repeat' (first|refine wS ?_|refine wB ?_|refine wK ?_|refine wU ?_|(refine wC rfl ?_ ?_<;>(intro hb;(try simp only [nm] at hb);try (exfalso;omega)))|(refine rg 10 (vV (aJ rfl rfl) ?_))|(refine rg 11 (vV (ix T rfl (by omega) (jB _) hgj) (lW T rfl (bT (bH T rfl) rfl (aQ T rfl rfl rfl rfl rfl rfl (by decide) rfl ?_)))))|(refine rg 12 (mW rfl (lW T rfl (vV (by exact eQ rfl rfl hc1 rfl rfl rfl) ?_)));refine mV ?_;(iterate 3 refine gF ?_);(iterate 4 refine gU ?_);refine gF (pV ?_))|(refine rg 14 (vV (bS rfl rfl (by omega) (by omega)) (mV ?_)))|refine nZ ?_));all_goals try (exfalso;omega)
              exact ⟨⟨j + 1,hjl⟩,by dsimp only;omega,[],rfl,⟨rfl,rfl,rfl,rfl,rfl,rfl,rfl,rfl,by dsimp only;rw [hB1,hb1];rfl,rfl,rfl,rfl,trivial⟩,trivial,cX,jT _⟩
            | true =>
              rw [iO] at hb1;by_cases hb0 : B0 < 0
              · rw [decide_eq_true hb0,Bool.true_or,if_pos rfl] at hb1
                (repeat' (first|refine wS ?_|refine wB ?_|refine wK ?_|refine wT ?_|(refine rg 10 (vV (tW rfl rfl (by omega)) ?_))|(refine rg 11 (vV (ix T rfl (by omega) (jB _) hgj) (lW T rfl (bT (bH T rfl) rfl (aQ T rfl rfl rfl rfl rfl rfl (by decide) rfl ?_)))))|(refine rg 12 (mW rfl (lW T rfl (vV (by exact eQ rfl rfl hc1 rfl rfl rfl) ?_)));refine mW rfl (yN rfl (yV (tW rfl rfl (by omega)) (yM ?_)));(iterate 4 refine gF ?_);refine gT (pW rfl (pV ?_)))|(refine rg 13 (hO T rfl (aV ?_)))|(refine rg 14 (vV (bS rfl rfl (by omega) (by omega)) (mV ?_)))|refine nZ ?_));all_goals try (exfalso;omega)
                exact ⟨⟨j + 1,hjl⟩,by dsimp only;omega,[],rfl,⟨rfl,rfl,rfl,rfl,rfl,rfl,rfl,rfl,by dsimp only;rw [hB1,hb1];rfl,rfl,rfl,rfl,trivial⟩,trivial,cX,jT _⟩
              · rw [decide_eq_false hb0,Bool.false_or] at hb1;by_cases hwb : wm < B0
                · rw [if_pos (decide_eq_true hwb)] at hb1
                  (repeat' (first|refine wS ?_|refine wB ?_|refine wK ?_|refine wT ?_|(refine rg 10 (vV (tW rfl rfl (by omega)) ?_))|(refine rg 11 (vV (ix T rfl (by omega) (jB _) hgj) (lW T rfl (bT (bH T rfl) rfl (aQ T rfl rfl rfl rfl rfl rfl (by decide) rfl ?_)))))|(refine rg 12 (mW rfl (lW T rfl (vV (by exact eQ rfl rfl hc1 rfl rfl rfl) ?_)));refine mW rfl (yN rfl (yV (rE rfl rfl (by omega)) (yN rfl (yP T rfl (yO T rfl (yN rfl (yV (tW rfl rfl (by omega)) (gT (pV ?_)))))))));refine pV ?_)|(refine rg 13 (hO T rfl (aV ?_)))|(refine rg 14 (vV (bS rfl rfl (by omega) (by omega)) (mV ?_)))|refine nZ ?_));all_goals try (exfalso;omega)
                  exact ⟨⟨j + 1,hjl⟩,by dsimp only;omega,[],rfl,⟨rfl,rfl,rfl,rfl,rfl,rfl,rfl,rfl,by dsimp only;rw [hB1,hb1];rfl,rfl,rfl,rfl,trivial⟩,trivial,cX,jT _⟩
                · rw [if_neg (by simpa using hwb)] at hb1
                  (repeat' (first|refine wS ?_|refine wB ?_|refine wK ?_|refine wT ?_|refine wU ?_|(refine rg 10 (vV (tW rfl rfl (by omega)) ?_))|(refine rg 11 (vV (ix T rfl (by omega) (jB _) hgj) (lW T rfl (bT (bH T rfl) rfl (aQ T rfl rfl rfl rfl rfl rfl (by decide) rfl ?_)))))|(refine rg 12 (mW rfl (lW T rfl (vV (by exact eQ rfl rfl hc1 rfl rfl rfl) ?_)));refine mW rfl (yN rfl (yV (rE rfl rfl (by omega)) (yN rfl (yP T rfl (yO T rfl (yN rfl (yV (rE rfl rfl (by omega)) (gT (pV ?_)))))))));refine pV ?_)|(refine rg 14 (vV (bS rfl rfl (by omega) (by omega)) (mV ?_)))|refine nZ ?_));all_goals try (exfalso;omega)
                  exact ⟨⟨j + 1,hjl⟩,by dsimp only;omega,[],rfl,⟨rfl,rfl,rfl,rfl,rfl,rfl,rfl,rfl,by dsimp only;rw [hB1,hb1];rfl,rfl,rfl,rfl,trivial⟩,trivial,cX,jT _⟩
          · obtain rfl : j = ws.length := by omega
            by_cases hbn : B ws.length < 0
            · have hR := hno hbn;subst hR
              (repeat' (first|refine wS ?_|refine wR ?_|refine wE ?_|(refine wC rfl ?_ ?_<;>(intro hb;(try simp only [nm] at hb);try (exfalso;omega)))|(refine rg 10 (vV (aJ rfl rfl) ?_))|(refine rg 15 (mW rfl (vV (aJ rfl rfl) ?_)))|(refine rg 16 (aV ?_))|refine nZ ?_));all_goals try (exfalso;omega)
              all_goals exact rQ
            · (repeat' (first|refine wS ?_|refine wK ?_|refine wE ?_|(refine wC rfl (fun hb => ?_) (fun hb => ?_) <;> (((try simp only [nm] at hb);try (exfalso;omega))))|(refine rg 10 (vV (aJ rfl rfl) ?_))|(refine rg 15 (mW rfl (vV (aJ rfl rfl) ?_)))|(refine rg 17 (dQ rfl (vV (bS rfl rfl (by omega) (by omega)) (aV ?_))))|(refine rg 18 (vV (bS rfl rfl (by omega) (by omega)) (mV ?_)))|(refine nZ ?_)));all_goals try (exfalso;omega)
              exact ⟨⟨k + 1,hlt,hall2 (by omega),by rw [hS];omega,by rw [hS];omega⟩,by dsimp only;omega,[],rfl,⟨rfl,rfl,rfl,by dsimp only;rw [hS,hsk];rfl,rfl,rfl,rfl,trivial⟩,trivial,cX,jT _⟩
        · obtain rfl : k = gs.length := by omega
          have hR := hyes fun j hj => hall j hj hj
          subst hR
          (repeat' (first|refine wS ?_|refine wR ?_|refine wE ?_|(refine wC rfl ?_ ?_<;>(intro hb;(try simp only [nm] at hb);try (exfalso;omega)))|(refine rg 5 (vV (aJ rfl rfl) ?_))|(refine rg 19 (dQ rfl (nV ?_));refine fW T rfl (hO T rfl (vV (iP rfl rfl) (aV ?_))))|refine nZ ?_));all_goals try (exfalso;omega)
          all_goals exact rQ
    · rw [decide_eq_false h2,jI,jI,jI];refine bK T Tryz.func23 rfl rfl rfl rfl ?_
      (repeat' (first|refine wS ?_|(refine rg 0 (bT (cQ rfl rfl) rfl (bT (cQ rfl rfl) rfl (aV ?_))))|refine nZ ?_));refine fC 4 rfl rfl rfl ?_
      refine fC 5 rfl rfl rfl ?_
      (repeat' (first|refine wS ?_|refine wR ?_|refine wT ?_|(refine cJ (id := 1) 80 zP1 (rM 14 20) zP2 cN rfl (by decide +kernel) (dO T rfl (dV rfl (fY T rfl rfl) (dN rfl (dV rfl (by exact eE rfl rfl) ?_))));refine dP T rfl (dO T rfl (dV rfl (fY T rfl rfl) (dV rfl (oW rfl rfl (by omega)) (dN rfl (tO T rfl (dT rfl (fY T rfl rfl) (tO T rfl (dT rfl (fY T rfl rfl) (dT rfl (rD rfl rfl (by omega)) ?_)))))))));refine dV rfl (jF rfl rfl) (dN rfl (tG rfl (tG rfl (tG rfl (dV rfl (jO rfl rfl) (dE ?_)))))))|(refine rg 2 (aV ?_))|refine nZ ?_));all_goals try (exfalso;omega)
      all_goals exact rQ
  · rw [decide_eq_false h1,jI,jI,jI,jI];refine bK T Tryz.func23 rfl rfl rfl rfl ?_
    (repeat' (first|refine wS ?_|(refine rg 0 (bT (cQ rfl rfl) rfl (bT (cQ rfl rfl) rfl (aV ?_))))|refine nZ ?_));refine fC 4 rfl rfl rfl ?_
    refine fC 5 rfl rfl rfl ?_
    (repeat' (first|refine wS ?_|refine wR ?_|refine wT ?_|(refine cJ (id := 1) 80 zP1 (rM 14 20) zP2 cN rfl (by decide +kernel) (dO T rfl (dV rfl (fY T rfl rfl) (dN rfl (dV rfl (by exact eE rfl rfl) ?_))));refine dP T rfl (dO T rfl (dV rfl (fY T rfl rfl) (dV rfl (rD rfl rfl (by omega)) (dN rfl (tG rfl (tG rfl (tG rfl (tG rfl (dG ?_)))))))));refine dV rfl (jO rfl rfl) (dN rfl (tG rfl (tG rfl (tG rfl (dV rfl (jO rfl rfl) (dE ?_)))))))|(refine rg 2 (aV ?_))|refine nZ ?_));all_goals try (exfalso;omega)
    all_goals exact rQ
end Go.Proofs.YtbialaoigijlgaaGreatDoor
namespace Go.Ab
open Go
theorem nX.freezeEl {n : Nat × Nat} {c : mZ} {ρ : Pl} {S : Nat → Prop} {env : dK} {h : Hp} {a : Act} {w : World} {j f k len sz sz2 : Nat} {es es' es2 : List (List AV)} (s : nX n c ρ S env h a w) (hj : h[j]? = some (.arr es sz)) (hne : j ≠ k) (h0 : es ≠ []) (hf : es.flatten[f]? = some (.sl k 0 len sz2)) (hk : h[k]? = some (.arr es2 sz2)) (hn : len = es2.length) (hi : AV.idfL es2.flatten = true)
    (hl : ∀ e,e ∈ es' → e.length = sz) (he : es'.flatten = es.flatten.set f (.rowE es2 sz2)) :
    nX n c ρ (fun b => S b ∨ ∃ o,ρ k = some (b,o)) env ((h.set k .gone).set j (.arr es' sz)) a w := by
  have h1 := s.hs.freeze hk;have hj' : (h.set k .gone)[j]? = some (.arr es sz) := by rw [iZ (Ne.symm hne)];exact hj
  refine ⟨s.size,s.defers.st (fun _ h => .inl h),fun t' x hx => RV (fun _ h => .inl h) (s.env t' x hx),h1.alter hj' (fun _ => ?_) (by simp),s.cm⟩
  have hb := s.hs.blk j _ hj;simp only [RB] at hb ⊢;obtain ⟨b1,b2,b3⟩ := hb;refine ⟨hl,b2,?_⟩;rcases b3 with ⟨e,_⟩ | ⟨b,o,ys,e1,e2,e3⟩
  · exact absurd e h0
  · refine .inr ⟨b,o,ys,e1,e2,?_⟩;rw [he];refine BI (fun _ h => .inl h) (fun y hy => ?_) hf e3;rw [hn] at hy;exact zW hi (s.hs.blk k _ hk) hy
section
variable {P : Program} {n : Nat × Nat} {ops : Array Oper} {env : dK} {h : Hp} {K : dK → Hp → Prop} {rest : List Oper} {Q : Exit → dK → Hp → Prop} {code : Code}
theorem EL (j f : Nat) {k len sz sz2 : Nat} {es : List (List AV)} (es' : List (List AV)) {es2 : List (List AV)} (hj : h[j]? = some (.arr es sz)) (hne : j ≠ k) (h0 : es ≠ []) (hf : es.flatten[f]? = some (.sl k 0 len sz2)) (hk : h[k]? = some (.arr es2 sz2)) (hn : len = es2.length) (hi : AV.idfL es2.flatten = true)
    (hl : ∀ e,e ∈ es' → e.length = sz) (he : es'.flatten = es.flatten.set f (.rowE es2 sz2)) (hv : AW P n code env ((h.set k .gone).set j (.arr es' sz)) Q) : AW P n code env h Q :=
  fun c ρ S a w QQ s hQ => hv c ρ _ a w QQ (s.freezeEl hj hne h0 hf hk hn hi hl he) hQ
end
end Go.Ab
namespace Go.Ld
open Go.Ab Go.Proofs.YtbialaoigijlgaaGreatDoor
theorem RQ {es : List (List AV)} (h : ∀ e,e ∈ es → e.all AV.one = true) : es.flatten.all AV.one = true := by
  rw [bB];intro x hx;obtain ⟨e,he,hx⟩ := List.mem_flatten.1 hx;exact bB.1 (h e he) x hx
theorem Z1 {α : Type} {f : α → List AV} (hf : ∀ x,(f x).all AV.one = true) (l : List α) : (l.map f).flatten.all AV.one = true := RQ fun e he => by
  obtain ⟨x,_,rfl⟩ := bM.1 he;exact hf x
theorem AA {α : Type} {f : α → List AV} (hf : ∀ x,AV.idfL (f x) = true) (l : List α) : ∀ e,e ∈ l.map f → AV.idfL e = true := fun e he => by
  obtain ⟨x,_,rfl⟩ := bM.1 he;exact hf x
def CM (n : Int) : Bool := decide (n < 0 ∨ 1048576 < n)
def CN (c : Cx) : Bool := [c.m,c.st,c.er,c.sl].any CM
theorem JV {c : Cx} : CN c = false ↔ qR c.m c.st c.er c.sl := by
  unfold CN qR CM;simp;omega
end Go.Ld
namespace Go.Proofs.YtbialaoigijlgaaGreatDoor
open Go Go.Ab Go.Ld
attribute [local irreducible] VC AW bV aO jR
set_option maxHeartbeats 4000000
theorem QM (l : List KD) (hl : l.length ≤ 1000000) : aO Tryz.prog 26 [.rowE (iC l) 2] [] (.rowE (iC l) 2) [] := by
  have hll : (iC l).length = l.length := bF _;have hid := AA (f := fun b : KD => [AV.v (.string b.1),AV.i b.2]) (fun _ => rfl) l;have hon := Z1 (f := fun b : KD => [AV.v (.string b.1),AV.i b.2]) (fun _ => rfl) l;refine kU (len := l.length) hll.symm (gD hid) ?_;refine bK T Tryz.func26 rfl rfl rfl rfl ?_
  repeat' (first|refine wS ?_|refine wK ?_|refine wT ?_|refine wU ?_|(refine rg 0 (aV ?_))|(refine rg 1 (mV ?_);refine qE T rfl rfl rfl rfl fun b hb=>?_;cases b)|refine nZ ?_)
  · (repeat' (first|refine wR ?_|(refine rg 3 (bT (by exact bC T rfl rfl (by decide) (by decide) rfl rfl rfl) rfl ?_);refine mW rfl (gR T rfl rfl rfl rfl rfl rfl (by decide) (.row (sK l)) hon (by simp;omega) (by simp;omega) rfl ?_);refine aV ?_)|(refine nZ ?_)));exact ⟨.inl rfl,[1],_,rfl,(by show AV.sl 1 0 (0 + (iC l).length) 2 = AV.sl 1 0 l.length 2;simp),rfl,⟨.inr (aG rfl rfl hid),trivial⟩,by decide,I1⟩
  · have hl0 : l = [] := fH.1 (Classical.byContradiction fun h => by have := hb (by omega);cases this)
    subst hl0
    (repeat' (first|refine wR ?_|(refine rg 2 (vV (fG rfl) (rL 2 2 rfl (by decide) ?_)))|refine nZ ?_));exact ⟨.inl rfl,[0],_,rfl,rfl,rfl,⟨.inr (aG rfl rfl hid),trivial⟩,by decide,I1⟩
theorem QL (l : List LT) (hl : l.length ≤ 1000000) : aO Tryz.prog 27 [.rowE (kZ l) 3] [] (.rowE (kZ l) 3) [] := by
  have hll : (kZ l).length = l.length := bF _;have hid := AA (f := fun b : LT => [AV.i b.1,AV.i b.2.1,AV.b b.2.2]) (fun _ => rfl) l;have hon := Z1 (f := fun b : LT => [AV.i b.1,AV.i b.2.1,AV.b b.2.2]) (fun _ => rfl) l;refine kU (len := l.length) hll.symm (gD hid) ?_;refine bK T Tryz.func27 rfl rfl rfl rfl ?_
  repeat' (first|refine wS ?_|refine wK ?_|refine wT ?_|refine wU ?_|(refine rg 0 (aV ?_))|(refine rg 1 (mV ?_);refine qE T rfl rfl rfl rfl fun b hb=>?_;cases b)|refine nZ ?_)
  · (repeat' (first|refine wR ?_|(refine rg 3 (bT (by exact bC T rfl rfl (by decide) (by decide) rfl rfl rfl) rfl ?_);refine mW rfl (gR T rfl rfl rfl rfl rfl rfl (by decide) (.row (vQ l)) hon (by simp;omega) (by simp;omega) rfl ?_);refine aV ?_)|(refine nZ ?_)));exact ⟨.inl rfl,[1],_,rfl,(by show AV.sl 1 0 (0 + (kZ l).length) 3 = AV.sl 1 0 l.length 3;simp),rfl,⟨.inr (aG rfl rfl hid),trivial⟩,by decide,I1⟩
  · have hl0 : l = [] := fH.1 (Classical.byContradiction fun h => by have := hb (by omega);cases this)
    subst hl0
    (repeat' (first|refine wR ?_|(refine rg 2 (vV (fG rfl) (rL 2 3 rfl (by decide) ?_)))|refine nZ ?_));exact ⟨.inl rfl,[0],_,rfl,rfl,rfl,⟨.inr (aG rfl rfl hid),trivial⟩,by decide,I1⟩
theorem QN (l : List BX) (hl : l.length ≤ 1000000) : aO Tryz.prog 28 [.rowE (fS l) 3] [] (.rowE (fS l) 3) [] := by
  have hll : (fS l).length = l.length := bF _;have hid := AA (f := fun b : BX => [AV.i b.1,AV.i b.2.1,AV.i b.2.2]) (fun _ => rfl) l;have hon := Z1 (f := fun b : BX => [AV.i b.1,AV.i b.2.1,AV.i b.2.2]) (fun _ => rfl) l;refine kU (len := l.length) hll.symm (gD hid) ?_;refine bK T Tryz.func28 rfl rfl rfl rfl ?_
  repeat' (first|refine wS ?_|refine wK ?_|refine wT ?_|refine wU ?_|(refine rg 0 (aV ?_))|(refine rg 1 (mV ?_);refine qE T rfl rfl rfl rfl fun b hb=>?_;cases b)|refine nZ ?_)
  · (repeat' (first|refine wR ?_|(refine rg 3 (bT (by exact bC T rfl rfl (by decide) (by decide) rfl rfl rfl) rfl ?_);refine mW rfl (gR T rfl rfl rfl rfl rfl rfl (by decide) (.row (oS l)) hon (by simp;omega) (by simp;omega) rfl ?_);refine aV ?_)|(refine nZ ?_)));exact ⟨.inl rfl,[1],_,rfl,(by show AV.sl 1 0 (0 + (fS l).length) 3 = AV.sl 1 0 l.length 3;simp),rfl,⟨.inr (aG rfl rfl hid),trivial⟩,by decide,I1⟩
  · have hl0 : l = [] := fH.1 (Classical.byContradiction fun h => by have := hb (by omega);cases this)
    subst hl0
    (repeat' (first|refine wR ?_|(refine rg 2 (vV (fG rfl) (rL 2 3 rfl (by decide) ?_)))|refine nZ ?_));exact ⟨.inl rfl,[0],_,rfl,rfl,rfl,⟨.inr (aG rfl rfl hid),trivial⟩,by decide,I1⟩
theorem TH (n : Int) : aO Tryz.prog 58 [.i n] [] (.b (CM n)) [] := by
  unfold CM;by_cases h : n < 0
  · rw [decide_eq_true (.inl h)];refine bK T Tryz.func58 rfl rfl rfl rfl ?_
    (repeat' (first|refine wS ?_|refine wR ?_|(refine rg 0 (aV ?_))|(refine rg 1 (mW rfl (vV (tW rfl rfl (by omega)) (mV ?_)));(iterate 2 refine gF ?_);refine pW rfl (aV ?_))|refine nZ ?_));all_goals first | (exfalso;omega) | exact rQ
  · refine bK T Tryz.func58 rfl rfl rfl rfl ?_
    (repeat' (first|refine wS ?_|refine wR ?_|(refine rg 0 (aV ?_))|(refine rg 1 (mW rfl (vV (rE rfl rfl (by omega)) (mW rfl (yN rfl (yV (fU rfl rfl) (pW rfl (aV ?_))))))))|refine nZ ?_));all_goals first | (exfalso;omega) | (refine cY (.inl rfl) rfl (lS ?_);simp;omega)
theorem Q8 (c : Cx) : aO Tryz.prog 24 [.agg [.i c.m,.i c.st,.i c.er,.i c.sl]] [] (.b (!CN c)) [] := by
  have hh := PN (l := [c.m,c.st,c.er,c.sl]) (F := 58) (caps := []) (p := CM) (by simp) rfl (fun x hx => TH x)
  change aO _ _ _ _ (.b (CN c)) _ at hh;generalize CN c = v at *;refine bK T Tryz.func24 rfl rfl rfl rfl ?_
  (repeat' (first|refine wS ?_|refine wR ?_|(refine rg 0 (bT (cQ rfl rfl) rfl (aV ?_)))|(refine rg 1 (hO T rfl (hO T rfl (hO T rfl (hO T rfl (bT (by exact bC T rfl rfl (by decide) (by decide) rfl rfl rfl) rfl ?_)))));refine lO 11 rfl rfl rfl rfl ?_;refine vV (kC (hh)) (vV (eL rfl) (aV ?_)))|refine nZ ?_));all_goals first | (exfalso;omega) | exact rQ
end Go.Proofs.YtbialaoigijlgaaGreatDoor
namespace Go.Ld
open Go.Ab Go.Proofs.YtbialaoigijlgaaGreatDoor
abbrev UF (c : Cx) (x : AV) : List AV := [.i c.m,.i c.st,.i c.er,.i c.sl,.rowE (iC c.ks) 2,.rowE (kZ c.ls) 3,.rowE (fS c.bs) 3,x]
theorem YS {h : Hp} {i sz : Nat} {θ : Nat → Nat} {A A' : List (List AV)} {E E' : List AV} (hk : h[i]? = some (.arr (A' ++ [E']) sz)) (hA : A' = A) (hE : E' = AV.mapL θ E) (hi : ∀ e,e ∈ A → AV.idfL e = true) : h[i]? = some ((AB.arr (A ++ [E]) sz).map θ) := by
  subst hA hE;rw [hk];simp only [AB.map,dB,cE θ hi];rfl
theorem VA {A : List (List AV)} {x y : AV} : (A ++ [[x,y]]).flatten[A.flatten.length]? = some x := by simp
theorem UZ {A : List (List AV)} {x y : AV} : (A ++ [[x,y]]).flatten[A.flatten.length + 1]? = some y := by
  rw [fQ,aE (by omega)];simp
theorem UY {A : List (List AV)} {x y z : AV} : (A ++ [[z,y]]).flatten = (A ++ [[x,y]]).flatten.set A.flatten.length z := by
  rw [fQ,fQ,jQ _ _ (by omega)];simp
theorem UX {A : List (List AV)} {x y z : AV} : (A ++ [[x,z]]).flatten = (A ++ [[x,y]]).flatten.set (A.flatten.length + 1) z := by
  rw [fQ,fQ,jQ _ _ (by omega)];simp
theorem OT (c : Cx) : (sJ c).length = c.bs.length := by rw [Z2];simp
theorem KJ {c : Cx} {k : Nat} (h : k < c.bs.length) : (sJ c).take (k + 1) = (sJ c).take k ++ [R0 c k] := by
  rw [Z2,← jY,← jY,aR (by simpa using h),dB]
  simp
end Go.Ld
namespace Go.Proofs.YtbialaoigijlgaaGreatDoor
open Go Go.Ab Go.Ld
attribute [local irreducible] VC AW bV aO jR
set_option maxHeartbeats 4000000
theorem zB6 (c : Cx) (hc : E5 c) (hid : aO Tryz.prog 14 [.i (fS c.bs).length] [] (.rowE (ints (nats (List.range c.bs.length))) 1) []) (htr : aO Tryz.prog 25 [.rowE (iC c.ks) 2,.rowE (kZ c.ls) 3,.rowE (ints (nats (List.range c.bs.length))) 1,.rowE (fS c.bs) 3] [] (.b true) []) :
    aO Tryz.prog 6 [.agg [.i c.m,.i c.st,.i c.er,.i c.sl],.rowE (iC c.ks) 2,.rowE (kZ c.ls) 3,.rowE (fS c.bs) 3] [] (.tup [.ptr 0 0,.i 0]) [.cells (fT c (sJ c))] := by
  have hn1 := hc.f.n1;have hn8 := hc.f.n8;have hk10 := hc.f.k10;have hl10 := hc.f.l10;have hnl : (nats (List.range c.bs.length)).length = c.bs.length := by simp
  have hsn := Q8 c;rw [JV.2 hc.s] at hsn;have h1 := QM c.ks (by omega)
  have h2 := QL c.ls (by omega)
  have h3 := QN c.bs (by omega)
  have hbl : (fS c.bs).length = c.bs.length := bF _;have hNl := OT c;refine bK T Tryz.func6 rfl rfl rfl rfl ?_
  (repeat' (first|refine wS ?_|(refine rg 0 (bT (cQ rfl rfl) rfl (qA ?_)))|refine nZ ?_));refine fC 4 rfl rfl rfl ?_
  (repeat' (first|refine wS ?_|refine wK ?_|refine wU ?_|(refine rg 1 (lW T rfl (vV (kC (hsn)) (vV (eL rfl) (mW rfl (yN rfl (yN rfl (yN rfl (gT (qV T ?_)))))))));refine yV (kC (hid)) (yN rfl (yV (kC (htr)) (yV (eL rfl) (pV ?_)))))|(refine cJ (id := 3) 69 [[],[],[1],[],[1,2,3],[],rM 1 5,rN 7,rN 8] (rM 27 9) [[],[27],[27],[27,28,29],[27],rM 27 5,[27],[],[]] cN rfl (by decide +kernel) (dO T rfl (dN rfl (dV rfl (kC (h1)) (dN rfl (dV rfl (kC (h2)) (dN rfl (dV rfl (kC (h3)) (dV rfl (by exact fB T rfl rfl rfl rfl) ?_))))))));refine yH rfl rfl rfl (by exact cQ rfl rfl) rfl ?_;refine dE ?_;refine aV ?_)|refine nZ ?_));all_goals try (exfalso;omega)
  refine eP [(3,.rowE (fS c.bs) 3),(10,.ptr 0 0)] [.cells (UF c .nils)] ⟨[1],rfl,(by repeat first|exact trivial|refine ⟨rfl,?_⟩),⟨.inr rfl,trivial⟩,by decide,jT _⟩ ?_
  refine uF 0 7 2 rfl rfl (by decide) ?_
  (repeat' (first|refine wB ?_|(refine rg 4 (mW rfl (qW T rfl (mV ?_))))|refine nZ ?_));all_goals try (exfalso;omega)
  refine cK (X := {k : Nat // k ≤ c.bs.length}) (fun k => [(10,.ptr 0 0),(36,.rowE (fS c.bs) 3),(37,.i (fS c.bs).length),(38,.i k.1)]) (fun k => [.cells (UF c (.sl 1 0 k.1 2)),.arr (iB ((sJ c).take k.1)) 2]) (fun k => c.bs.length - k.1) ⟨0,bP _⟩ ⟨[0,1],rfl,(by repeat first|exact trivial|refine ⟨rfl,?_⟩),⟨.inr rfl,.inr rfl,trivial⟩,by decide,jT _⟩ ?_
  rintro ⟨k,hk⟩;dsimp only;by_cases hlt : k < c.bs.length
  · have hb := hc.f.b k hlt;have hbx : c.bs[k]? = some (c.bs.getD k (0,0,0)) := by rw [aC,aB hlt];rfl
    have hge : c.bs[k] = c.bs.getD k (0,0,0) := by rw [aC,aB hlt];rfl
    rw [hge] at hb;have qb : (fS c.bs)[((k : Int)).toNat]? = some [.i (c.bs.getD k (0,0,0)).1,.i (c.bs.getD k (0,0,0)).2.1,.i (c.bs.getD k (0,0,0)).2.2] := by rw [bR,bI,hbx];rfl
    have hsu := KJ hlt;have hA : iB ((sJ c).take (k + 1)) = iB ((sJ c).take k) ++ [gA (R0 c k)] := by rw [hsu,iB,dB];rfl
    have hAl : (iB ((sJ c).take k)).length = k := by rw [gZ,aU];omega
    have hAi := eA ((sJ c).take k);have hA3 := mS ((sJ c).take k);have hAi2 := eA ((sJ c).take (k + 1));unfold R0 at hA;generalize c.bs.getD k (0,0,0) = bx at *;obtain ⟨lot,cnt,ta⟩ := bx;dsimp only at *;generalize hG : iB ((sJ c).take k) = A at *
    (repeat' (first|refine wS ?_|refine wB ?_|refine wK ?_|(refine wC rfl ?_ ?_<;>(intro hb;(try simp only [nm] at hb);try (exfalso;omega)))|(refine rg 5 (vV (aJ rfl rfl) ?_))|(refine rg 6 (mW rfl (vV (ix T rfl (by omega) (oS _) qb) (lW T rfl (bT (bH T rfl) rfl (aW rfl (aQ T rfl rfl rfl rfl rfl rfl (by decide) rfl ?_)))))))|refine nZ ?_));all_goals try (exfalso;omega)
    refine fC 12 (cs := [.i lot,.i cnt,.i ta]) rfl rfl rfl ?_
    (repeat' (first|(refine rg 7 (mW rfl (bT (by exact bC T rfl rfl (by decide) (by decide) rfl rfl rfl) rfl ?_));refine lO 44 rfl rfl rfl rfl ?_;refine hO T rfl (hO T rfl (vV (bS rfl rfl (by omega) (by omega)) (vV (by exact fB T rfl rfl rfl rfl) ?_)));refine bT (by exact bC T rfl rfl (by decide) (by decide) rfl rfl rfl) rfl ?_;refine lO 51 rfl rfl rfl rfl ?_;refine vV (by exact fB T rfl rfl rfl rfl) ?_;refine bT (bH T rfl) rfl (aQ T rfl rfl rfl rfl rfl rfl (by decide) rfl ?_))|refine nZ ?_));all_goals try (exfalso;omega)
    refine fC 13 (cs := wA ([(k : Int)],0,[(cnt,cnt + 1)])) rfl rfl rfl ?_;refine eP [(10,.ptr 0 0),(36,.rowE (fS c.bs) 3),(37,.i (fS c.bs).length),(38,.i k),(11,.i k),(13,.pr (wA ([(k : Int)],0,[(cnt,cnt + 1)])) 0)] [.cells (UF c (.sl 1 0 k 2)),.arr A 2] ⟨[0,1],rfl,(by repeat first|exact trivial|refine ⟨rfl,?_⟩),⟨.inr rfl,.inr (aG rfl rfl hAi),trivial⟩,by decide,jT _⟩ ?_
    (repeat' (first|(refine pY (id := 8) 69 [[],[],[1],[1,2],[1,2,3],[],[5],[],[7],rM 5 4,rM 5 5,rM 1 10,rN 12,rN 13,rN 14] (rM 53 14) [[],[53],[53],[53],[53],rM 53 5,rM 53 5,rM 53 7,rM 53 7,rM 53 5,rM 53 5,[53],[],[],[]] [(11,1),(14,0)] cN rfl (by decide +kernel) (eT rfl rfl rfl rfl (by exact bU rfl) ?_);refine eT rfl rfl rfl rfl (by exact bU rfl) ?_;refine eT rfl rfl rfl rfl (by exact eE rfl rfl) ?_;refine eT rfl rfl rfl rfl (by exact bY T rfl rfl rfl) ?_;refine eT rfl rfl rfl rfl (by exact aT T rfl rfl rfl rfl) ?_;refine eT rfl rfl rfl rfl (by exact bU rfl) ?_;refine G5 rfl rfl rfl rfl (by exact bC T rfl rfl (by decide) (by decide) rfl rfl rfl) rfl ?_;refine eT rfl rfl rfl rfl (by exact aT T rfl rfl rfl rfl) ?_;refine G5 rfl rfl rfl rfl (by exact bC T rfl rfl (by decide) (by decide) rfl rfl rfl) rfl ?_;refine eT rfl rfl rfl rfl (by exact fB T rfl rfl rfl rfl) ?_;refine G5 rfl rfl rfl rfl (by exact bC T rfl rfl (by decide) (by decide) rfl rfl rfl) rfl ?_;refine vY rfl rfl rfl rfl (aN rfl) (by exact pZ T rfl rfl rfl rfl rfl rfl (by omega) (kX.whole rfl rfl) rfl (by simp;omega) (by simp;omega)) ?_;refine eT rfl rfl rfl rfl (by exact eE rfl rfl) ?_;refine eT rfl rfl rfl rfl (by exact bY T rfl rfl rfl) ?_;refine AN rfl rfl rfl rfl (aN rfl) T rfl rfl rfl rfl rfl rfl (by decide) rfl ?_;refine xH rfl rfl rfl (by exact rfl) ?_)|refine nZ ?_));all_goals try (exfalso;omega)
    show AW _ _ _ _ _ _;refine eP [(10, .ptr 0 0), (36, .rowE (fS c.bs) 3), (37, .i (fS c.bs).length), (38, .i k)] [.cells (UF c (.sl 3 0 (k + 1) 2)), .arr (ints [(k : Int)]) 1, .arr (eY [([(k : Int)], 0, [(cnt, cnt + 1)])]) 3, .arr (A ++ [[.sl 1 0 1 1, .sl 2 0 1 3]]) 2]
      ⟨[0,2,3,5],rfl,(by repeat first|exact trivial|refine ⟨rfl,?_⟩),⟨.inr rfl,.inr rfl,.inr rfl,.inr (YS rfl (by rw [nH];exact cF (by omega)) rfl hAi),trivial⟩,by decide,jT _⟩ ?_
    have hE : ∀ (x y : AV) (e : List AV),e ∈ A ++ [[x,y]] → e.length = 2 := fun x y e he => by
      rcases bQ.1 he with he | he
      · exact hA3 e he
      · rw [dR.1 he];rfl
    refine EL 3 A.flatten.length (A ++ [[.rowE (ints [(k : Int)]) 1,.sl 2 0 1 3]]) rfl (by decide) (by simp) VA rfl rfl rfl (hE _ _) UY ?_
    refine EL 3 (A.flatten.length + 1) (A ++ [[.rowE (ints [(k : Int)]) 1,.rowE (eY [([(k : Int)],0,[(cnt,cnt + 1)])]) 3]]) rfl (by decide) (by simp) UZ rfl rfl rfl (hE _ _) UX ?_
    (repeat' (first|(refine rg 9 (vV (bS rfl rfl (by omega) (by omega)) (mV ?_)))|refine nZ ?_));all_goals try (exfalso;omega)
    exact ⟨⟨k + 1,hlt⟩,by dsimp only;omega,⟨[0,3],rfl,(by repeat first|exact trivial|refine ⟨rfl,?_⟩),⟨.inr rfl,.inr (aG rfl (by dsimp only;rw [hA]) hAi2),trivial⟩,by decide,jT _⟩⟩
  · obtain rfl : k = c.bs.length := by omega
    rw [← hNl,dA,hNl];refine mB 0 7 (es := iB (sJ c)) rfl rfl rfl (by rw [gZ,hNl]) (gD (eA _)) ?_
    (repeat' (first|refine wS ?_|refine wR ?_|refine wE ?_|(refine wC rfl ?_ ?_<;>(intro hb;(try simp only [nm] at hb);try (exfalso;omega)))|(refine rg 5 (vV (aJ rfl rfl) ?_))|(refine rg 10 (mW rfl (qA ?_)))|refine nZ ?_));all_goals try (exfalso;omega)
    all_goals exact ⟨.inl rfl,[0],_,rfl,rfl,rfl,⟨.inr rfl,trivial⟩,by decide,jT _⟩
end Go.Proofs.YtbialaoigijlgaaGreatDoor
namespace Go.Ld
open Go.Ab Go.Proofs.YtbialaoigijlgaaGreatDoor
def c0 : Cx := ⟨1,1,0,0,[(⟨#[110,117,116]⟩,10)],[(0,0,false),(0,0,false),(0,0,false)],[(0,5,0),(1,3,0),(2,2,0)]⟩
theorem EI : E5 c0 := ⟨⟨by decide,by decide,by decide,by decide,by decide,by decide,by decide,by decide,by decide⟩,by unfold qR c0;decide⟩
theorem MO {c : Cx} (hc : E5 c) : uI c.ks c.ls (nats (List.range c.bs.length)) c.bs :=
  ⟨hc.f.len,fun i hi => zG.2 ⟨by omega,by simp at hi;omega⟩,hc.f.k,hc.f.l,hc.f.b⟩
end Go.Ld
namespace Go.Proofs.YtbialaoigijlgaaGreatDoor
open Go Go.Ab Go.Ld
attribute [local irreducible] VC AW bV aO jR
set_option maxHeartbeats 4000000
theorem AC (n : Nat) (h : n ≤ 17592186043904) : aO Tryz.prog 14 [.i (n : Int)] [] (.rowE (ints (nats (List.range n))) 1) [] := by
  have h1 := UO (n : Int) (by omega)
  rw [bR] at h1;exact kU (by simp) (gD (bO _)) h1
theorem OU (c : Cx) (hc : E5 c) : aO Tryz.prog 6 [.agg [.i c.m,.i c.st,.i c.er,.i c.sl],.rowE (iC c.ks) 2,.rowE (kZ c.ls) 3,.rowE (fS c.bs) 3] [] (.tup [.ptr 0 0,.i 0]) [.cells (fT c (sJ c))] := by
  have hbl : (fS c.bs).length = c.bs.length := bF _;have h8 := hc.f.n8;have h9 := hc.f.k10;have h10 := hc.f.l10;have hnl : (nats (List.range c.bs.length)).length = c.bs.length := by simp
  refine zB6 c hc ?_ (X9 (MO hc) (by omega) (by omega) (by omega))
  rw [hbl];exact AC _ (by omega)
theorem UP : aO Tryz.prog 20 [] [] (.ptr 0 0) [.cells (fT c0 (sJ c0))] := by
  have hn := OU c0 EI;change aO _ _ [.agg [.i 1,.i 1,.i 0,.i 0],.rowE [[.v (.string ⟨#[110,117,116]⟩),.i 10]] 2,.rowE [[.i 0,.i 0,.b false],[.i 0,.i 0,.b false],[.i 0,.i 0,.b false]] 3,.rowE [[.i 0,.i 5,.i 0],[.i 1,.i 3,.i 0],[.i 2,.i 2,.i 0]] 3] _ _ _ at hn;generalize hL : fT c0 (sJ c0) = L at *;have hLi : AV.idfL L = true := by rw [← hL];rfl
  refine bK T Tryz.func20 rfl rfl rfl rfl ?_
  (repeat' (first|refine wS ?_|(refine rg 0 (aV ?_))|(refine rg 1 (vV (by exact fB T rfl rfl rfl rfl) ?_);refine bT (by exact bC T rfl rfl (by decide) (by decide) rfl rfl rfl) rfl ?_;refine lO 7 rfl rfl rfl rfl ?_;refine aV ?_)|(refine rg 2 (vV (by exact fB T rfl rfl rfl rfl) ?_);refine vV (by exact fB T rfl rfl rfl rfl) ?_;refine vV (by exact fB T rfl rfl rfl rfl) ?_;refine bT (by exact bC T rfl rfl (by decide) (by decide) rfl rfl rfl) rfl ?_;refine lO 11 rfl rfl rfl rfl ?_;refine aV ?_)|(refine rg 3 (vV (by exact fB T rfl rfl rfl rfl) ?_);refine vV (by exact fB T rfl rfl rfl rfl) ?_;refine vV (by exact fB T rfl rfl rfl rfl) ?_;refine bT (by exact bC T rfl rfl (by decide) (by decide) rfl rfl rfl) rfl ?_;refine lO 15 rfl rfl rfl rfl ?_;refine aV ?_)|refine nZ ?_));all_goals try (exfalso;omega)
  (repeat' (first|refine wS ?_|refine wK ?_|refine wR ?_|refine wU ?_|(refine rg 4 (vV (by exact fB T rfl rfl rfl rfl) ?_);refine dQ rfl (mW rfl (bT (by exact fZ rfl rfl hn (.inr ⟨rfl,rfl,by simp⟩)) rfl ?_));refine mW rfl (xW rfl (xW rfl (qA ?_))))|(refine rg 5 (mW rfl (vV (fF rfl rfl) ?_)))|(refine rg 7 (mW rfl (aV ?_)))|refine nZ ?_));all_goals try (exfalso;omega)
  exact ⟨.inl rfl,[3],_,rfl,rfl,rfl,⟨.inr (by show some (AB.cells (AV.mapL _ L)) = some (AB.cells (AV.mapL _ L));rw [nB _ L hLi,nB _ L hLi]),trivial⟩,by decide,jT _⟩
end Go.Proofs.YtbialaoigijlgaaGreatDoor
namespace Go.Ld
open Go.Ab Go.Proofs.YtbialaoigijlgaaGreatDoor
def e1 : Ev := ⟨4,0,1,0,[]⟩
def e2 : Ev := ⟨0,0,0,0,[1]⟩
def YH : List G := sJ c0
def G4 : List G := (yA c0 YH e1).2
def MG : List G := (yA c0 G4 e2).2
def DN : List G := (yA c0 MG e2).2
theorem zI9 : oU c0 YH := OS EI (by decide) (by decide)
theorem XU : oU c0 G4 := Y0 zI9 (by decide) (by decide)
theorem zG6 : oU c0 MG := Y0 XU (by decide) (by decide)
theorem zE8 : oU c0 DN := Y0 zG6 (by decide) (by decide)
theorem x0 : (yA c0 YH e1).1 = 0 := by decide +kernel
theorem x1 : (yA c0 G4 e2).1 = 0 := by decide +kernel
theorem x2 : (yA c0 MG e2).1 = 0 := by decide +kernel
theorem zF1 : uV G4 0 = some (mX G4 0,0) := by kernel_rfl
theorem zL2 : uV G4 2 = some (mX G4 1,0) := by kernel_rfl
theorem zL1 : uV MG 0 = some (mX MG 0,0) := by kernel_rfl
theorem zH1 : uV DN 0 = some (mX DN 0,0) := by kernel_rfl
theorem zL5 : (mX G4 0).1 = [0,1] := by decide +kernel
theorem zL4 : (mX DN 0).1 = [0] := by decide +kernel
theorem zE7 : oJ (mX G4 0) 0 = [0,1] := by unfold oJ;rw [oP];decide +kernel
theorem zG5 : oJ (mX G4 1) 0 = [2] := by unfold oJ;rw [oP];decide +kernel
theorem zJ9 : (zF0 (oJ (mX MG 0) 0)).2 = false := by unfold oJ;rw [oP];decide +kernel
theorem zE6 : oJ (mX DN 0) 0 = [1] := by unfold oJ;rw [oP];decide +kernel
theorem zI6 : CQ (mX G4 0) 0 = (3,6) := by decide +kernel
theorem zJ8 : CQ (mX G4 1) 0 = (2,3) := by decide +kernel
theorem zJ7 : CQ (mX DN 0) 0 = (3,4) := by decide +kernel
theorem a3 : zF2 c0 DN [1,0,2] [5,3,2] = true := by unfold zF2 Go.Pm.permB;rw [oP];decide +kernel
end Go.Ld
namespace Go.Proofs.YtbialaoigijlgaaGreatDoor
open Go Go.Ab Go.Ld
attribute [local irreducible] VC AW bV aO jR
set_option maxHeartbeats 4000000
theorem FO (a b : List Int) (ha : a.length ≤ 9223372036854775807) : aO Tryz.prog 13 [.rowE (ints a) 1,.rowE (ints b) 1] [] (.b (decide (a = b))) [] := by
  have hal : (ints a).length = a.length := by simp
  have hbl : (ints b).length = b.length := by simp
  by_cases hl : a.length = b.length
  · refine bK T Tryz.func13 rfl rfl rfl rfl ?_
    (repeat' (first|refine wS ?_|refine wB ?_|refine wK ?_|(refine wC rfl ?_ ?_<;>(intro hb;(try simp only [nm] at hb);try (exfalso;omega)))|(refine rg 0 (aV ?_))|(refine rg 1 (mW rfl (qW T rfl (mW rfl (qW T rfl (vV (fF rfl rfl) ?_))))))|(refine rg 3 (aV ?_))|refine nZ ?_));all_goals try (exfalso;omega)
    refine cK (X := {i : Nat // i ≤ a.length ∧ a.take i = b.take i}) (fun i => [(0,.rowE (ints a) 1),(1,.rowE (ints b) 1),(5,.i i.1)]) (fun _ => []) (fun i => a.length - i.1) ⟨0,by omega,rfl⟩ (dS []) ?_
    rintro ⟨i,hi,hg⟩;dsimp only;by_cases hlt : i < a.length
    · have q1 := kS (l := a) (k := i) hlt;have q2 := kS (l := b) (k := i) (by omega)
      by_cases e : a[i] = b[i]
      · (repeat' (first|refine wS ?_|refine wB ?_|refine wK ?_|(refine wC rfl (fun hb => ?_) (fun hb => ?_) <;> (((try simp only [nm] at hb);try (exfalso;omega))))|(refine rg 4 (dQ rfl (qW T rfl (vV (aJ rfl rfl) ?_))))|(refine cJ (id := 6) 26 zP3 (rM 17 9) zP4 cN rfl (by decide +kernel) (dN rfl (dN rfl (dV rfl (ix T rfl (by omega) (bZ a) q1) (dO T rfl (dN rfl (dN rfl (dV rfl (ix T rfl (by omega) (bZ b) q2) (dO T rfl (dV rfl (fF rfl rfl) ?_)))))))));refine dE ?_)|(refine iA 5 rfl rfl rfl (by omega) (by omega) ?_)|(refine nZ ?_)));all_goals try (exfalso;omega)
        refine ⟨⟨i + 1,hlt,?_⟩,by dsimp only;omega,dS []⟩
        rw [aR hlt,aR (by omega),hg,e]
      · rw [show decide (a = b) = false from decide_eq_false (fun h => e (by subst h;rfl))]
        (repeat' (first|refine wS ?_|refine wB ?_|refine wK ?_|refine wR ?_|(refine wC rfl ?_ ?_<;>(intro hb;(try simp only [nm] at hb);try (exfalso;omega)))|(refine rg 4 (dQ rfl (qW T rfl (vV (aJ rfl rfl) ?_))))|(refine cJ (id := 6) 26 zP3 (rM 17 9) zP4 cN rfl (by decide +kernel) (dN rfl (dN rfl (dV rfl (ix T rfl (by omega) (bZ a) q1) (dO T rfl (dN rfl (dN rfl (dV rfl (ix T rfl (by omega) (bZ b) q2) (dO T rfl (dV rfl (fF rfl rfl) ?_)))))))));refine dE ?_)|(refine rg 7 (aV ?_))|refine nZ ?_));all_goals first | (exfalso;omega) | exact rQ
    · rw [cF (by omega),cF (by omega)] at hg
      rw [show decide (a = b) = true from decide_eq_true hg]
      (repeat' (first|refine wS ?_|refine wR ?_|refine wE ?_|(refine wC rfl ?_ ?_<;>(intro hb;(try simp only [nm] at hb);try (exfalso;omega)))|(refine rg 4 (dQ rfl (qW T rfl (vV (aJ rfl rfl) ?_))))|(refine rg 8 (aV ?_))|refine nZ ?_));all_goals first | (exfalso;omega) | exact rQ
  · rw [show decide (a = b) = false from decide_eq_false (fun h => hl (by rw [h]))]
    refine bK T Tryz.func13 rfl rfl rfl rfl ?_
    (repeat' (first|refine wS ?_|refine wR ?_|(refine wC rfl ?_ ?_<;>(intro hb;(try simp only [nm] at hb);try (exfalso;omega)))|(refine rg 0 (aV ?_))|(refine rg 1 (mW rfl (qW T rfl (mW rfl (qW T rfl (vV (fF rfl rfl) ?_))))))|(refine rg 2 (aV ?_))|refine nZ ?_));all_goals first | (exfalso;omega) | exact rQ
theorem RW {S : Nat → Prop} {w : World} {ρ : Pl} {a b d e : AV} {y : Value} (h : R S w (.agg [a,b,d,e,.nils]) ρ y) : R S w (.agg [a,b,d,e,.rowE [] 1]) ρ y := by
  simp only [R] at h ⊢;obtain ⟨ys,e1,h1⟩ := h;exact ⟨ys,e1,lF (fun _ h => h) (fun _ => lF (fun _ h => h) fun _ => lF (fun _ h => h) fun _ => lF (fun _ h => h) fun _ => lF (fun _ h => HI h) fun _ h => h) h1⟩
theorem XN : aO Tryz.prog 8 [.ptr 0 0,.agg [.i 4,.i 0,.i 1,.i 0,.nils]] [.cells (fT c0 YH)] (.i 0) [.cells (fT c0 G4)] := by
  have h := HT c0 YH e1 EI zI9 (by decide)
  rw [x0] at h;exact MA h fun S w ρ ys => lF (fun _ h => h) fun ys => lF (fun _ h => RW h) fun _ h => h
theorem XM : aO Tryz.prog 8 [.ptr 0 0,.agg [.i 0,.i 0,.i 0,.i 0,.rowE [[.i 1]] 1]] [.cells (fT c0 G4)] (.i 0) [.cells (fT c0 MG)] := by
  have h := HT c0 G4 e2 EI XU (by decide)
  rw [x1] at h;exact h
theorem XL : aO Tryz.prog 8 [.ptr 0 0,.agg [.i 0,.i 0,.i 0,.i 0,.rowE [[.i 1]] 1]] [.cells (fT c0 MG)] (.i 0) [.cells (fT c0 DN)] := by
  have h := HT c0 MG e2 EI zG6 (by decide)
  rw [x2] at h;exact h
theorem NU : aO Tryz.prog 9 [.pr (fT c0 G4) 0,.i 0] [] (.sl 0 0 2 1) [.arr [[.i 0],[.i 1]] 1] := by
  have h := zT c0 G4 0 XU zF1;rw [zL5] at h;exact h
theorem NT : aO Tryz.prog 9 [.pr (fT c0 DN) 0,.i 0] [] (.sl 0 0 1 1) [.arr [[.i 0]] 1] := by
  have h := zT c0 DN 0 zE8 zH1;rw [zL4] at h;exact h
theorem TO : aO Tryz.prog 11 [.pr (fT c0 G4) 0,.i 0] [] (.sl 0 0 2 1) [.arr [[.i 0],[.i 1]] 1] := by
  have h := FT c0 G4 0 XU zF1;rw [zE7] at h;exact h
theorem NP : aO Tryz.prog 21 [.pr (fT c0 G4) 0,.i 0] [] (jW 3 6) [] := by
  have h := HX c0 G4 0 XU zF1;rw [zI6] at h;exact h
theorem NS : aO Tryz.prog 22 [.pr (fT c0 G4) 0,.i 0,.i 0] [] (.i 0) [] := by
  have h := N2 c0 G4 0 0 XU zF1 (by rw [zE7];decide) (by rw [zE7];decide)
  rw [zE7,zI6] at h;exact h
theorem NR : aO Tryz.prog 22 [.pr (fT c0 G4) 0,.i 2,.i 2] [] (.i 2) [] := by
  have h := N2 c0 G4 2 2 XU zL2 (by rw [zG5];decide) (by rw [zG5];decide)
  rw [zG5,zJ8] at h;exact h
theorem NQ : aO Tryz.prog 22 [.pr (fT c0 DN) 0,.i 0,.i 1] [] (.i 3) [] := by
  have h := N2 c0 DN 0 1 zE8 zH1 (by rw [zE6];decide) (by rw [zE6];decide)
  rw [zE6,zJ7] at h;exact h
theorem zB0 : ∃ v : Int,aO Tryz.prog 12 [.pr (fT c0 MG) 0,.i 0] [] (.tup [.i v,.b false]) [] := by
  have h := N7 c0 MG 0 zG6 zL1;rw [zJ9] at h;exact ⟨_,h⟩
theorem zA9 : aO Tryz.prog 12 [.pr (fT c0 DN) 0,.i 0] [] (.tup [.i 1,.b true]) [] := by
  have h := N7 c0 DN 0 zE8 zH1;rw [zE6] at h;exact h
theorem NV : aO Tryz.prog 23 [.pr (fT c0 DN) 0,.rowE [[.i 1],[.i 0],[.i 2]] 1,.rowE [[.i 5],[.i 3],[.i 2]] 1] [] (.b true) [] := by
  have h := LY c0 DN [1,0,2] [5,3,2] zE8 (by decide) (by decide) (by decide)
  rw [a3] at h;exact h
theorem TR : Tryz.prog.underlying 26 = some (.pointer 70) := by kernel_rfl
theorem T3 : aO Tryz.prog 5 [] [] (.b true) [] := by
  have hgv := UP;change aO _ _ _ _ _ [.cells (fT c0 YH)] at hgv;have s1 := XN;have s2 := XM;have s3 := XL;have k1 := NU;have k2 := TO;have k3 := NP;have k4 := NS;have k5 := NR;obtain ⟨v,k6⟩ := zB0;have k7 := zA9;have k8 := NQ;have k9 := NT;have k10 := NV;generalize YH = G0 at *;generalize G4 = G1 at *;generalize MG = G2 at *;generalize DN = G3 at *;have t1 := FO [0,1] [0,1] (by decide)
  rw [show decide (([0,1] : List Int) = [0,1]) = true from rfl] at t1
  have t2 := FO [0] [0] (by decide)
  rw [show decide (([0] : List Int) = [0]) = true from rfl] at t2
  refine bK T Tryz.func5 rfl rfl rfl rfl ?_
  (repeat' (first|refine wS ?_|(refine rg 0 (aV ?_))|(refine rg 1 (bT (by exact fZ rfl rfl hgv (.inr ⟨rfl,rfl,by simp⟩)) rfl ?_);refine aV ?_)|refine nZ ?_));refine eP [(1,.ptr 0 0)] [.cells (fT c0 G0)] ⟨[0],rfl,(by repeat first|exact trivial|refine ⟨rfl,?_⟩),⟨.inr rfl,trivial⟩,by decide,jT _⟩ ?_
  (repeat' (first|refine wS ?_|refine wK ?_|refine wU ?_|(refine rg 2 (mW rfl (vV (by exact qM TR rfl rfl rfl) ?_)))|(refine rg 4 (mW rfl (vV (by exact fB T rfl rfl rfl rfl) ?_));refine eJ [0] rfl rfl (s1) rfl rfl (by decide) ⟨.inr rfl,trivial⟩ (by simp) rfl ?_;refine aV ?_)|refine nZ ?_));all_goals try (exfalso;omega)
  refine eP [(1,.ptr 0 0),(2,.i 0)] [.cells (fT c0 G1)] ⟨[0],rfl,(by repeat first|exact trivial|refine ⟨rfl,?_⟩),⟨.inr rfl,trivial⟩,by decide,jT _⟩ ?_
  (repeat' (first|refine wS ?_|(refine rg 5 (mW rfl (bT (by exact fZ rfl rfl k1 (.inl ⟨.cons (.ptr rfl (fK _ rfl)) (.cons (.v _) .nil),rfl⟩)) rfl ?_));refine lO 17 rfl rfl rfl rfl ?_;refine bT (by exact bC T rfl rfl (by decide) (by decide) rfl rfl rfl) rfl ?_;refine lO 18 rfl rfl rfl rfl ?_;refine vV (kC (t1)) (mW rfl (yN rfl (gT (bT (by exact fZ rfl rfl k2 (.inl ⟨.cons (.ptr rfl (fK _ rfl)) (.cons (.v _) .nil),rfl⟩)) rfl ?_))));refine lO 22 rfl rfl rfl rfl ?_;refine gT (bT (by exact bC T rfl rfl (by decide) (by decide) rfl rfl rfl) rfl ?_);refine lO 23 rfl rfl rfl rfl ?_;refine yV (kC (t1)) (pW rfl (mW rfl (yN rfl (yV (by exact eN rfl rfl k3 (.cons (.ptr rfl (fK _ rfl)) (.cons (.v _) .nil)) rfl rfl) ?_))));refine yV (by exact fB T rfl rfl rfl rfl) ?_;refine yV (UW WO rfl rfl) (pW rfl (mW rfl (yN rfl (yV (by exact eN rfl rfl k4 (.cons (.ptr rfl (fK _ rfl)) (.cons (.v _) (.cons (.v _) .nil))) rfl rfl) ?_))));refine yV (eW rfl rfl) (pW rfl (mW rfl (yN rfl (yV (by exact eN rfl rfl k5 (.cons (.ptr rfl (fK _ rfl)) (.cons (.v _) (.cons (.v _) .nil))) rfl rfl) ?_))));refine yV (eW rfl rfl) (pW rfl (aV ?_)))|refine nZ ?_));all_goals try (exfalso;omega)
  refine eP [(1,.ptr 0 0),(2,.i 0),(3,.b true)] [.cells (fT c0 G1)] ⟨[0],rfl,(by repeat first|exact trivial|refine ⟨rfl,?_⟩),⟨.inr rfl,trivial⟩,by decide,jT _⟩ ?_
  (repeat' (first|refine wS ?_|(refine rg 6 (mW rfl (bT (by exact bC T rfl rfl (by decide) (by decide) rfl rfl rfl) rfl ?_));refine lO 43 rfl rfl rfl rfl ?_;refine vV (by exact fB T rfl rfl rfl rfl) ?_;refine eJ [0] rfl rfl (s2) rfl rfl (by decide) ⟨.inr rfl,trivial⟩ (by simp) rfl ?_;refine aV ?_)|refine nZ ?_));all_goals try (exfalso;omega)
  refine eP [(1,.ptr 0 0),(2,.i 0),(3,.b true),(4,.i 0)] [.cells (fT c0 G2)] ⟨[0],rfl,(by repeat first|exact trivial|refine ⟨rfl,?_⟩),⟨.inr rfl,trivial⟩,by decide,jT _⟩ ?_
  (repeat' (first|refine wS ?_|(refine rg 7 (mW rfl (vV (by exact eN rfl rfl k6 (.cons (.ptr rfl (fK _ rfl)) (.cons (.v _) .nil)) rfl rfl) ?_));refine mW rfl (xW rfl (xW rfl (qA ?_))))|refine nZ ?_));all_goals try (exfalso;omega)
  refine eP [(1,.ptr 0 0),(2,.i 0),(3,.b true),(4,.i 0),(6,.b false)] [.cells (fT c0 G2)] ⟨[0],rfl,(by repeat first|exact trivial|refine ⟨rfl,?_⟩),⟨.inr rfl,trivial⟩,by decide,jT _⟩ ?_
  (repeat' (first|refine wS ?_|(refine rg 8 (mW rfl (bT (by exact bC T rfl rfl (by decide) (by decide) rfl rfl rfl) rfl ?_));refine lO 52 rfl rfl rfl rfl ?_;refine vV (by exact fB T rfl rfl rfl rfl) ?_;refine eJ [0] rfl rfl (s3) rfl rfl (by decide) ⟨.inr rfl,trivial⟩ (by simp) rfl ?_;refine aV ?_)|refine nZ ?_));all_goals try (exfalso;omega)
  refine eP [(1,.ptr 0 0),(2,.i 0),(3,.b true),(4,.i 0),(6,.b false),(7,.i 0)] [.cells (fT c0 G3)] ⟨[0],rfl,(by repeat first|exact trivial|refine ⟨rfl,?_⟩),⟨.inr rfl,trivial⟩,by decide,jT _⟩ ?_
  (repeat' (first|refine wS ?_|(refine rg 9 (mW rfl (vV (by exact eN rfl rfl k7 (.cons (.ptr rfl (fK _ rfl)) (.cons (.v _) .nil)) rfl rfl) ?_));refine mW rfl (xW rfl (xW rfl (qA ?_))))|refine nZ ?_));all_goals try (exfalso;omega)
  refine eP [(1,.ptr 0 0),(2,.i 0),(3,.b true),(4,.i 0),(6,.b false),(7,.i 0),(8,.i 1),(9,.b true)] [.cells (fT c0 G3)] ⟨[0],rfl,(by repeat first|exact trivial|refine ⟨rfl,?_⟩),⟨.inr rfl,trivial⟩,by decide,jT _⟩ ?_
  (repeat' (first|refine wR ?_|(refine rg 10 (mW rfl (vV (eW rfl rfl) (mW rfl (yN rfl (pW rfl (mW rfl (yN rfl (yV (eW rfl rfl) (pV ?_)))))))));refine mW rfl (yN rfl (yV (eL rfl) (pW rfl (mW rfl (yN rfl (yV (eW rfl rfl) (pW rfl (mW rfl (yM ?_)))))))));refine pW rfl (mW rfl (yN rfl (yV (eW rfl rfl) (pW rfl (mW rfl (yN rfl (yV (by exact eN rfl rfl k8 (.cons (.ptr rfl (fK _ rfl)) (.cons (.v _) (.cons (.v _) .nil))) rfl rfl) ?_)))))));refine yV (eW rfl rfl) (pW rfl (mW rfl (yN rfl (gT (bT (by exact fZ rfl rfl k9 (.inl ⟨.cons (.ptr rfl (fK _ rfl)) (.cons (.v _) .nil),rfl⟩)) rfl ?_)))));refine lO 91 rfl rfl rfl rfl ?_;refine gT (bT (by exact bC T rfl rfl (by decide) (by decide) rfl rfl rfl) rfl ?_);refine lO 92 rfl rfl rfl rfl ?_;refine yV (kC (t2)) (pW rfl (mW rfl (yN rfl (gT (bT (by exact bC T rfl rfl (by decide) (by decide) rfl rfl rfl) rfl ?_)))));refine lO 97 rfl rfl rfl rfl ?_;refine gT (bT (by exact bC T rfl rfl (by decide) (by decide) rfl rfl rfl) rfl ?_);refine lO 98 rfl rfl rfl rfl ?_;refine yV (by exact eN rfl rfl k10 (.cons (.ptr rfl (fK _ rfl)) (.cons (.row _ _ _) (.cons (.row _ _ _) .nil))) rfl rfl) ?_;refine pW rfl (aV ?_))|refine nZ ?_));all_goals try (exfalso;omega)
  all_goals exact rQ
end Go.Proofs.YtbialaoigijlgaaGreatDoor
namespace Go.Ld
open Go.Ab Go.Proofs.YtbialaoigijlgaaGreatDoor Go.Pm
end Go.Ld
namespace Go.Ld
open Go.Ab Go.Proofs.YtbialaoigijlgaaGreatDoor
abbrev I2 (l : List Ev) : List (List AV) := l.map xR
def SM (l : List Ev) : Nat := l.countP fun s => decide (s.k = 4)
def O3 (l : List Ev) (m : Nat) : Bool := (l.take (m + 1)).all (fun s => decide (s.ids.length ≤ 12)) && decide (l.length ≤ m) && decide (SM (l.take (m + 1)) ≤ 5)
theorem tZ (l : List Ev) : ∀ e,e ∈ I2 l → e.length = 5 := by intro e he;obtain ⟨n,_,rfl⟩ := bM.1 he;rfl
theorem DZ {l : List Ev} {k : Nat} (h : k < l.length) : (I2 l)[(k : Int).toNat]? = some (xR l[k]) := by simp [h]
end Go.Ld
namespace Go.Proofs.YtbialaoigijlgaaGreatDoor
open Go Go.Ab Go.Ld
attribute [local irreducible] VC AW bV aO jR
set_option maxHeartbeats 4000000
theorem QD (l : List Ev) (m : Nat) (hm : m ≤ 1000) (hids : ∀ s,s ∈ l → s.ids.length ≤ 9223372036854775807) : aO Tryz.prog 16 [.rowE (I2 l) 5,.i m] [] (.b (O3 l m)) [] := by
  have hll : (I2 l).length = l.length := bF _;have hbad : ∀ k (hk : k < l.length),k ≤ m → ¬ l[k].ids.length ≤ 12 → O3 l m = false := fun k hk hkm hb => by
    unfold O3;rw [show (l.take (m + 1)).all (fun s => decide (s.ids.length ≤ 12)) = false from H3.2 ⟨l[k],List.mem_take_iff_getElem.2 ⟨k,by omega,rfl⟩,by simpa using hb⟩];rfl
  have hgood : (∀ s,s ∈ l.take (m + 1) → s.ids.length ≤ 12) → O3 l m = (decide (l.length ≤ m) && decide (SM (l.take (m + 1)) ≤ 5)) := fun h => by
    unfold O3;rw [bB.2 fun s hs => decide_eq_true (h s hs),iO]
  generalize O3 l m = R at *;refine bK T Tryz.func16 rfl rfl rfl rfl ?_
  (repeat' (first|refine wS ?_|refine wB ?_|(refine rg 0 (aV ?_))|(refine rg 1 (aV ?_))|(refine rg 2 (aV ?_))|refine nZ ?_));refine cK (X := {k : Nat // k ≤ l.length ∧ k ≤ m + 1 ∧ ∀ s,s ∈ l.take k → s.ids.length ≤ 12}) (fun k => [(0,.rowE (I2 l) 5),(1,.i m),(5,.i (SM (l.take k.1))),(6,.i k.1)]) (fun _ => []) (fun k => l.length - k.1) ⟨0,bP _,bP _,fun s hs => by simp at hs⟩ (dS []) ?_
  rintro ⟨k,hk,hkm,hall⟩;dsimp only;have hsw : SM (l.take k) ≤ k := bW List.countP_le_length (by rw [aU];omega)
  by_cases hlt : k < l.length ∧ k ≤ m
  · obtain ⟨h1,h2⟩ := hlt;have hg := DZ h1;have hts : l.take (k + 1) = l.take k ++ [l[k]] := aR h1;have hs1 : SM (l.take (k + 1)) = SM (l.take k) + (if l[k].k = 4 then 1 else 0) := by rw [hts];unfold SM;rw [List.countP_append];simp [List.countP_cons]
    have hbk := hbad k h1 h2;have hx := hids l[k] (aI h1);have hil : (Go.Ab.ints l[k].ids).length = l[k].ids.length := bF _;have hall2 : l[k].ids.length ≤ 12 → ∀ s,s ∈ l.take (k + 1) → s.ids.length ≤ 12 := fun hq s hs => by
      rw [hts] at hs;rcases bQ.1 hs with hs | hs
      · exact hall s hs
      · rw [dR.1 hs];exact hq
    generalize l[k] = s at *;generalize hS1 : SM (l.take (k + 1)) = S1 at *;generalize SM (l.take k) = S at *;by_cases hi : s.ids.length ≤ 12
    · by_cases h4 : s.k = 4
      · rw [if_pos h4] at hs1
        (repeat' (first|refine wS ?_|refine wB ?_|refine wK ?_|refine wT ?_|(refine wC rfl ?_ ?_<;>(intro hb;(try simp only [nm] at hb);try (exfalso;omega)))|(refine rg 3 (dQ rfl (qW T rfl (vV (aJ rfl rfl) (mV ?_))));refine cC rfl rfl ?_ ?_<;>(intro hb;rw [hb];(try simp only [nm] at hb);try (exfalso;omega));(all_goals (refine yN rfl (yN rfl (yV (iP rfl rfl) (pV ?_))))))|(refine rg 5 (dQ rfl (vV (ix T rfl (by omega) (tZ _) hg) (hO T rfl (qW T rfl (vV (fU rfl rfl) ?_))))))|(refine rg 7 (dQ rfl (vV (ix T rfl (by omega) (tZ _) hg) (hO T rfl (vV (kE rfl rfl (by omega)) ?_)))))|(refine iA 8 rfl rfl rfl (by omega) (by omega) ?_)|(refine iA 4 rfl rfl rfl (by omega) (by omega) ?_)|refine nZ ?_));all_goals try (exfalso;omega)
        exact ⟨⟨k + 1,h1,by omega,hall2 hi⟩,by dsimp only;omega,[],rfl,⟨rfl,rfl,by dsimp only;rw [hS1,hs1];rfl,rfl,trivial⟩,trivial,cX,jT _⟩
      · rw [if_neg h4] at hs1
        (repeat' (first|refine wS ?_|refine wB ?_|refine wK ?_|refine wU ?_|(refine wC rfl ?_ ?_<;>(intro hb;(try simp only [nm] at hb);try (exfalso;omega)))|(refine rg 3 (dQ rfl (qW T rfl (vV (aJ rfl rfl) (mV ?_))));refine cC rfl rfl ?_ ?_<;>(intro hb;rw [hb];(try simp only [nm] at hb);try (exfalso;omega));(all_goals (refine yN rfl (yN rfl (yV (iP rfl rfl) (pV ?_))))))|(refine rg 5 (dQ rfl (vV (ix T rfl (by omega) (tZ _) hg) (hO T rfl (qW T rfl (vV (fU rfl rfl) ?_))))))|(refine rg 7 (dQ rfl (vV (ix T rfl (by omega) (tZ _) hg) (hO T rfl (vV (fP rfl rfl (by omega)) ?_)))))|(refine iA 4 rfl rfl rfl (by omega) (by omega) ?_)|refine nZ ?_));all_goals try (exfalso;omega)
        exact ⟨⟨k + 1,h1,by omega,hall2 hi⟩,by dsimp only;omega,[],rfl,⟨rfl,rfl,by dsimp only;rw [hS1,hs1];rfl,rfl,trivial⟩,trivial,cX,jT _⟩
    · have hR := hbk hi;subst hR
      (repeat' (first|refine wS ?_|refine wB ?_|refine wK ?_|refine wR ?_|(refine wC rfl ?_ ?_<;>(intro hb;(try simp only [nm] at hb);try (exfalso;omega)))|(refine rg 3 (dQ rfl (qW T rfl (vV (aJ rfl rfl) (mV ?_))));refine cC rfl rfl ?_ ?_<;>(intro hb;rw [hb];(try simp only [nm] at hb);try (exfalso;omega));(all_goals (refine yN rfl (yN rfl (yV (iP rfl rfl) (pV ?_))))))|(refine rg 5 (dQ rfl (vV (ix T rfl (by omega) (tZ _) hg) (hO T rfl (qW T rfl (vV (fU rfl rfl) ?_))))))|(refine rg 6 (aV ?_))|refine nZ ?_));all_goals try (exfalso;omega)
      all_goals exact rQ
  · have hke : l.take k = l.take (m + 1) := by
      rcases gO k l.length with h | h
      · rw [show k = m + 1 by omega]
      · rw [cF h,cF (by omega)]
    rw [hke] at hall hsw ⊢;have hR := hgood hall;subst hR;generalize SM (l.take (m + 1)) = S at *
    (repeat' (first|refine wS ?_|refine wR ?_|refine wE ?_|refine wU ?_|(refine wC rfl ?_ ?_<;>(intro hb;(try simp only [nm] at hb);try (exfalso;omega)))|(refine rg 3 (dQ rfl (qW T rfl (vV (aJ rfl rfl) (mV ?_))));refine cC rfl rfl ?_ ?_<;>(intro hb;rw [hb];(try simp only [nm] at hb);try (exfalso;omega));(all_goals first|(refine gT (mW rfl (gT (mW rfl (gT (vV (iP rfl rfl) ?_))))))|(iterate 3 refine gF ?_));(all_goals (refine pV ?_)))|(refine rg 9 (mW rfl (qW T rfl (mW rfl (vV (iP rfl rfl) (mV ?_)))));refine cC rfl rfl ?_ ?_<;>(intro hb;rw [hb];(try simp only [nm] at hb);try (exfalso;omega));(all_goals first|(refine gT (mW rfl (gT (vV (iP rfl rfl) ?_))))|(iterate 2 refine gF ?_));(all_goals (refine pW rfl (aV ?_))))|refine nZ ?_));all_goals try (exfalso;omega)
    all_goals (refine cY (.inl rfl) rfl (lS ?_);first | rfl | (rw [ZS];simp;omega) | (simp [*];omega) | skip)
end Go.Proofs.YtbialaoigijlgaaGreatDoor
namespace Go.Proofs.YtbialaoigijlgaaGreatDoor
open Go Go.Ab
attribute [local irreducible] VC AW bV aO
set_option maxHeartbeats 4000000
def SK (N : Nat) (ks : List KD) (ls : List LT) (ps : List Int) (bs : List BX) : Prop := 1 ≤ ps.length ∧ ps.length ≤ N ∧ bs.length ≤ N ∧ ks.length ≤ 10 ∧ ls.length ≤ 10
theorem PX (N : Nat) (hN : N ≤ 8) (ks : List KD) (ls : List LT) (ps : List Int) (bs : List BX) (m st er sl : Int) (h : ¬ SK N ks ls ps bs) :
    aO Tryz.prog 15 [tH ks ls ps bs,oV m st er sl,.i N] [] (.b false) [] := by
  unfold SK at h;have e1 : (iC ks).length = ks.length := by simp
  have e2 : (kZ ls).length = ls.length := by simp
  have e3 : (ints ps).length = ps.length := by simp
  have e4 : (fS bs).length = bs.length := by simp
  refine bK T Tryz.func15 rfl rfl rfl rfl ?_
  (repeat' (first|refine wS ?_|refine wR ?_|(refine rg 0 (bT (cQ rfl rfl) rfl (bT (cQ rfl rfl) rfl (aV ?_))))|(refine rg 1 (hO T rfl (qW T rfl (vV (jD rfl rfl) (mV ?_))));refine cC rfl rfl ?_ ?_<;>(intro hb;rw [hb];(try simp only [nm] at hb);try (exfalso;omega));(all_goals first|(refine gT (fW T rfl (gT (lW T rfl (gT (qW T rfl (gT (mW rfl (gT (vV (iP rfl rfl) ?_))))))))))|(iterate 5 refine gF ?_));(all_goals (refine pW rfl (mV ?_)));(all_goals first|(refine gK ?_)|(refine cC rfl rfl ?_ ?_<;>(intro hb;rw [hb];(try simp only [nm] at hb);try (exfalso;omega))));(all_goals first|(refine gT (fW T rfl (gT (lW T rfl (gT (qW T rfl (gT (mW rfl (gT (vV (iP rfl rfl) ?_))))))))))|(iterate 5 refine gF ?_));(all_goals (refine pW rfl (mV ?_)));(all_goals first|(refine gK ?_)|(refine cC rfl rfl ?_ ?_<;>(intro hb;rw [hb];(try simp only [nm] at hb);try (exfalso;omega))));(all_goals first|(refine gT (fW T rfl (gT (lW T rfl (gT (qW T rfl (gT (vV (iP rfl rfl) ?_))))))))|(iterate 4 refine gF ?_));(all_goals (refine pW rfl (mV ?_)));(all_goals first|(refine gK ?_)|(refine cC rfl rfl ?_ ?_<;>(intro hb;rw [hb];(try simp only [nm] at hb);try (exfalso;omega))));(all_goals first|(refine gT (fW T rfl (gT (lW T rfl (gT (qW T rfl (gT (vV (iP rfl rfl) ?_))))))))|(iterate 4 refine gF ?_));(all_goals (refine pW rfl (mV ?_)));(all_goals first|(refine gK ?_)|(refine cC rfl rfl ?_ ?_<;>(intro hb;rw [hb];(try simp only [nm] at hb);try (exfalso;omega))));(all_goals ((iterate 2 refine gF ?_);refine pW rfl (mV ?_);(iterate 9 refine gF ?_);refine pW rfl (aV ?_))))|refine nZ ?_));all_goals first | exact rQ | (exfalso;omega) | (refine cY (.inl rfl) rfl (lS ?_);simp;omega)
theorem zX (N : Nat) (hN : N ≤ 8) (ks : List KD) (ls : List LT) (ps : List Int) (bs : List BX) (m st er sl : Int) (h : SK N ks ls ps bs) {v w : Bool} (hs : wX m st er sl = v) (ht : qF ks ls ps bs = w) :
    aO Tryz.prog 15 [tH ks ls ps bs,oV m st er sl,.i N] [] (.b (v && w)) [] := by
  unfold SK at h;have e1 : (iC ks).length = ks.length := by simp
  have e2 : (kZ ls).length = ls.length := by simp
  have e3 : (ints ps).length = ps.length := by simp
  have e4 : (fS bs).length = bs.length := by simp
  have c1 := hs ▸ NG m st er sl;have c2 := ht ▸ SU ks ls ps bs (by omega) (by omega) (by omega) (by omega)
  cases v <;> cases w
  all_goals
    refine bK T Tryz.func15 rfl rfl rfl rfl ?_
    repeat' (first|refine wS ?_|refine wR ?_|(refine rg 0 (bT (cQ rfl rfl) rfl (bT (cQ rfl rfl) rfl (aV ?_))))|(refine rg 1 (hO T rfl (qW T rfl (vV (jD rfl rfl) (mV ?_))));refine cC rfl rfl ?_ ?_<;>(intro hb;rw [hb];(try simp only [nm] at hb);try (exfalso;omega));(all_goals (refine yP T rfl (yO T rfl (gT (qW T rfl (yN rfl (yV (iP rfl rfl) (pW rfl (mV ?_)))))));refine cC rfl rfl ?_ ?_<;>(intro hb;rw [hb];(try simp only [nm] at hb);try (exfalso;omega))));(all_goals (refine yP T rfl (yO T rfl (gT (qW T rfl (yN rfl (yV (iP rfl rfl) (pW rfl (mV ?_)))))));refine cC rfl rfl ?_ ?_<;>(intro hb;rw [hb];(try simp only [nm] at hb);try (exfalso;omega))));(all_goals (refine yP T rfl (yO T rfl (gT (qW T rfl (yV (iP rfl rfl) (pW rfl (mV ?_))))));refine cC rfl rfl ?_ ?_<;>(intro hb;rw [hb];(try simp only [nm] at hb);try (exfalso;omega))));(all_goals (refine yP T rfl (yO T rfl (gT (qW T rfl (yV (iP rfl rfl) (pW rfl (mV ?_))))));refine cC rfl rfl ?_ ?_<;>(intro hb;rw [hb];(try simp only [nm] at hb);try (exfalso;omega))));(all_goals (refine yO T rfl (yV (kC (c1)) (pW rfl (mV ?_)))));(all_goals first|(refine gT (fW T rfl (gT (lW T rfl (gT (fW T rfl (gT (lW T rfl (gT (fV T ?_)))))))));refine gT (lW T rfl (gT (fW T rfl (gT (lW T rfl (gT (vV (kC (c2)) ?_))))))))|(iterate 9 refine gF ?_));(all_goals (refine pW rfl (aV ?_))))|refine nZ ?_)
  all_goals first | exact rQ | (exfalso;omega)
theorem VF (N : Nat) (hN : N ≤ 8) (ks : List KD) (ls : List LT) (ps : List Int) (bs : List BX) (m st er sl : Int) :
    aO Tryz.prog 15 [tH ks ls ps bs,oV m st er sl,.i N] [] (.b false) [] ∨
    (aO Tryz.prog 15 [tH ks ls ps bs,oV m st er sl,.i N] [] (.b true) [] ∧ zE2 ks ls ps bs ∧ qR m st er sl ∧ uI ks ls ps bs ∧ ps.length ≤ N) := by
  by_cases h : SK N ks ls ps bs
  · cases hs : wX m st er sl
    · cases ht : qF ks ls ps bs
      · exact .inl (zX N hN ks ls ps bs m st er sl h hs ht)
      · exact .inl (zX N hN ks ls ps bs m st er sl h hs ht)
    · cases ht : qF ks ls ps bs
      · exact .inl (zX N hN ks ls ps bs m st er sl h hs ht)
      · exact .inr ⟨zX N hN ks ls ps bs m st er sl h hs ht,YN ⟨h.1,by have := h.2.1;omega,by have := h.2.2.1;omega,h.2.2.2.1,h.2.2.2.2⟩ ht,JU hs,by unfold qF at ht;simpa using ht,h.2.1⟩
  · exact .inl (PX N hN ks ls ps bs m st er sl h)
end Go.Proofs.YtbialaoigijlgaaGreatDoor
namespace Go.Ld
open Go.Ab Go.Proofs.YtbialaoigijlgaaGreatDoor
structure PQ (c : Cx) (p q : List Int) : Prop where
  pl : p.length = c.bs.length
  ql : q.length = c.bs.length
  pp : p.Perm (nats (List.range c.bs.length))
  q0 : ∀ x,x ∈ q → 0 ≤ x ∧ x ≤ 20000
theorem PQ.at {c : Cx} {p q : List Int} (h : PQ c p q) {b : Int} (h0 : 0 ≤ b) (h1 : b < c.bs.length) : 0 ≤ p.getD b.toNat 0 ∧ p.getD b.toNat 0 < c.bs.length := by
  have hl := h.pl;have hm : p.getD b.toNat 0 ∈ p := by rw [aC,aB (by omega)];exact aI _
  exact zG.1 (h.pp.mem_iff.1 hm)
theorem PQ.inj {c : Cx} {p q : List Int} (h : PQ c p q) {a b : Int} (h0 : 0 ≤ a) (h1 : a < c.bs.length) (h2 : 0 ≤ b) (h3 : b < c.bs.length) (e : p.getD a.toNat 0 = p.getD b.toNat 0) : a = b := by
  have hl := h.pl;have nd : p.Nodup := h.pp.nodup_iff.2 (Z3 _);rw [aC,aB (by omega),aC,aB (by omega)] at e
  have := (List.getElem_inj nd).1 e;omega
theorem PQ.ct {c : Cx} {p q : List Int} (h : PQ c p q) {x : Int} (h0 : 0 ≤ x) (h1 : x < c.bs.length) : 0 ≤ q.getD x.toNat 0 ∧ q.getD x.toNat 0 ≤ 20000 := by
  have hl := h.ql;refine h.q0 _ ?_;rw [aC,aB (by omega)];exact aI _
theorem E5.box {c : Cx} (h : E5 c) {x : Int} (h0 : 0 ≤ x) (h1 : x < c.bs.length) : (0 ≤ (c.bs.getD x.toNat (0,0,0)).2.2 ∧ (c.bs.getD x.toNat (0,0,0)).2.2 ≤ 1073741824) ∧ (0 ≤ rY c.ks c.ls (c.bs.getD x.toNat (0,0,0)).1 ∧ rY c.ks c.ls (c.bs.getD x.toNat (0,0,0)).1 ≤ 1048576) := by
  have hx : x.toNat < c.bs.length := by omega
  have hb := h.f.b _ hx;have e : c.bs.getD x.toNat (0,0,0) = c.bs[x.toNat] := by rw [aC,aB hx];rfl
  rw [e];exact ⟨by omega,SS h.f hb.2.1⟩
theorem NH {c : Cx} {gs : List G} {s : Ev} (h : (yA c gs s).1 ≠ 0) : (yA c gs s).2 = gs := by
  have h2 : ∀ all,(H8 c gs all s).1 ≠ 0 → (H8 c gs all s).2 = gs := fun all h => by
    unfold H8 at h ⊢;dsimp only at h ⊢;split
    · rfl
    · rename_i h1;rw [if_neg h1] at h;split
      · rfl
      · rename_i h2;rw [if_neg h2] at h;split
        · rfl
        · rename_i h3;rw [if_neg h3] at h;exact absurd rfl h
  unfold yA at h ⊢;split
  · rename_i h1;rw [if_pos h1] at h;split
    · rename_i h3;rw [if_pos h3] at h;cases hj : join gs s.a s.b with
      | none => rfl
      | some all => rw [hj] at h;exact h2 all h
    · rename_i h3;rw [if_neg h3] at h;exact h2 gs h
  · rfl
theorem YI {c : Cx} {gs : List G} (h : oU c gs) {g : G} (hg : g ∈ gs) {b : Int} (hb : b ∈ g.1) : uV gs b = some (g,g.1.idxOf b) := by
  obtain ⟨g',e,h1,h2⟩ := PR ⟨g,hg,hb⟩;obtain rfl := zF h.mid.out.nd h1 hg h2 hb;exact e
theorem WW : ∀ {a b : List Int}, a.length = b.length → cL a b ≤ 0 → ∀ k, k < a.length → (∀ j, j < k → a.getD j 0 = b.getD j 0) → a.getD k 0 ≤ b.getD k 0
  | [],_,_,_,k,hk,_ => absurd hk (dI _)
  | _ :: _,[],hl,_,_,_,_ => by cases hl
  | x :: a,y :: b,hl,h,k,hk,he => by
    unfold cL B5 at h;cases k with
    | zero =>
      show x ≤ y;unfold cI at h
      repeat' split at h
      all_goals omega
    | succ k =>
      have h0 : x = y := he 0 (by omega)
      subst h0;have hc : cI x x = 0 := by unfold cI;simp
      rw [hc,if_pos rfl] at h;show a.getD k 0 ≤ b.getD k 0;exact WW (by simpa using hl) h k (by simpa using hk) (fun j hj => he (j + 1) (by omega))
theorem ZG {g : G} (h : g.2.Pairwise fun a b => mK a b < 0) {i j : Nat} (hij : i < j) (hj : j < g.2.length) : cL (g.2[i]'(by omega)).1 g.2[j].1 ≤ 0 := by
  have := pN.1 h i j (by omega) hj hij
  unfold mK B5 at this;split at this
  · rename_i e;omega
  · omega
theorem XG {g : G} (hc : gL g = none) (h2 : 2 ≤ g.1.length) (hne : g.2 ≠ []) : 2 ≤ g.2.length := by
  unfold gL at hc;rw [if_neg (by rintro (q | q);exact absurd q (by omega);exact hne q)] at hc
  rw [List.find?_eq_none] at hc;have := hc 0 (fN.2 (by omega))
  obtain ⟨bs,ws⟩ := g
  match ws,hne,this with
  | [w],_,this => exact absurd (by simp [tI]) this
  | a :: b :: l,_,_ => simp
end Go.Ld
namespace Go.Proofs.YtbialaoigijlgaaGreatDoor
open Go Go.Ab Go.Shelf Go.Proofs
shelf_lay LaysM.n246 Nm 246 at Tryz as laysFmt
theorem PV (n : Int) (h0 : -9223372036854775808 ≤ n) (h1 : n ≤ 9223372036854775807) : aO Tryz.prog 138 [.i n,.i 10] [] (.s (Go.Lib.itoa n)) [] :=
  BD (name := "internal/strconv.uint64pow10") (gi := 0) (tab := Go.Lib.pow10Tab) ⟨_, Tryz.func138, by kernel_rfl, by kernel_rfl⟩ (fun n w h2 h3 h4 => Any.internal_strconv_FormatInt_10 laysFmt n h2 h3 w h4) (by kernel_rfl) (by unfold zU Go.Lib.pow10Tab; simp [sW, Function.comp_def]) n h0 h1 -- gi: the number of the table among the seat's variables (3 in 46z, 0 in 39z)
theorem WP : (Tryz.prog.info? 79).map (·.size) = some 2 := by kernel_rfl
theorem zC1 : liesAt Tryz.prog Tryz.prog.depth 79 (2 / Tryz.prog.cellsOf 79) 0 79 1 = true := by kernel_rfl
theorem zA2 : Tryz.prog.underlying 151 = some .unsafePointer := by kernel_rfl
theorem ST : Tryz.prog.underlying 76 = some (.pointer 79) := by kernel_rfl
set_option maxHeartbeats 1000000 in
set_option maxRecDepth 100000 in
theorem QP (b : Nat) (w : World) (h0 : w.cell? ⟨b,0,none⟩ = some (.pointer none)) (hsh : w.shape? b = some (79,2)) (hfz : w.frozen? ⟨b,0,none⟩ = false) :
    Calls Tryz.prog 69 #[.pointer (some ⟨b,0,none⟩)] w fun e w' => e = .returned (.tuple #[]) ∧ w' = w.setCell ⟨b,0,none⟩ (.pointer (some ⟨b,0,none⟩)) := by
  obtain ⟨j,hj,hjs⟩ := eR.1 WP
  go_enter Tryz.func69,Tryz.ntmps69
  go_wp2
  rw [Go.Lib.run_to_unsafe w ⟨b,0,none⟩ ST zA2 hj (by rw [hjs];decide) hsh (Nat.zero_lt_succ 1)]
  simp only [Result.andThen];rw [Oper.upon_value]
  go_wp2
  rw [run_callFunc_extern Tryz.func106 (by kernel_rfl) (by kernel_rfl) (by kernel_rfl) (e := Extern.AbiNoEscape.same) (by kernel_rfl)]
  rw [Go.Lib.run_noEscape];simp only [Result.andThen];rw [Oper.upon_value]
  go_wp2
  rw [Go.Lib.run_from_unsafe w ⟨b,0,none⟩ zA2 ST hj hsh zC1];simp only [Result.andThen];rw [Oper.upon_value]
  go_wp2
  go_end0
  exact ⟨rfl,rfl⟩
theorem LW (x : AV) : aO Tryz.prog 69 [.ptr 0 0] [.var 79 [.v (.pointer none),x]] (.tup []) [.cells [.ptr 0 0,x]] :=
  R6 ⟨_,Tryz.func69,by kernel_rfl,by kernel_rfl⟩ (fun b w h1 h2 h3 => QP b w h1 h2 h3)
end Go.Proofs.YtbialaoigijlgaaGreatDoor
