/-
  Texts of the logic and of the layer,in one module (part 7).
-/
import Derived.Test.YtdiogjgohbbllaaGreatDoorJ6
import Derived.Test.YtdiogjgohbbllaaGreatDoorRows
import Derived.Deep.DeepHandedRow
import Derived.Lib.LaidTab
import Derived.Stop.LaidErr
set_option linter.unusedVariables false
set_option linter.unusedSimpArgs false
set_option linter.unnecessarySimpa false
namespace Go.Proofs.YtdiogjgohbbllaaGreatDoor
open Go Go.Ab Go.Or Go.Wr
theorem C5 : CE Tryz.prog 4 := by unfold CE;kernel_rfl
attribute [local irreducible] VC AW bQ bN eT lF NC CA CE
set_option maxHeartbeats 4000000
theorem JF (ls : List Lo) (sure : List Bo) (l : List Or.Op) (hl : ls.length ≤ 9223372036854775807) (hbs : sure.length ≤ 9223372036854775807) (ho : l.length ≤ 9223372036854775807) (hI : ∀ o,o ∈ l → ∀ w,w ∈ o.ws → sV w.1) :
    eT Tryz.prog 3 [.rowE (jE ls) 3,.rowE (eY sure) 3,.rowE (sO l) 6] [] (fun r _ => r = .b true) := by
  have hfew := PR l 40 ho;have hgiv := PI ls sure hl hbs;refine jN T Tryz.func3 rfl rfl rfl rfl ?_;cases hf : FO l 40 with
  | false =>
    rw [hf] at hfew
    (repeat' (first|refine wS ?_|refine wR ?_|refine wT ?_|(refine rg 0 (aV ?_))|(refine rg 1 (vV (kC (D8)) (aV ?_)))|(refine rg 2 (mW rfl (vV (kC (hfew)) (vV (eF rfl) (mV ?_))));(iterate 4 refine gF ?_);refine pV ?_)|(refine rg 3 (mW rfl (aV ?_)))|refine nZ ?_));all_goals first | (exfalso;omega) | exact ⟨.inl rfl,_,rfl,rfl⟩
  | true =>
    rw [hf] at hfew;cases hg : zI ls sure with
    | false =>
      rw [hg] at hgiv
      (repeat' (first|refine wS ?_|refine wR ?_|refine wT ?_|(refine rg 0 (aV ?_))|(refine rg 1 (vV (kC (D8)) (aV ?_)))|(refine rg 2 (mW rfl (vV (kC (hfew)) (vV (eF rfl) (mW rfl (yN rfl (yN rfl (yV (kC (hgiv)) (yV (eF rfl) (pV ?_))))))))))|(refine rg 3 (mW rfl (aV ?_)))|refine nZ ?_));all_goals first | (exfalso;omega) | exact ⟨.inl rfl,_,rfl,rfl⟩
    | true =>
      rw [hg] at hgiv;have hso := G4 hg;have hlen : l.length ≤ 40 ∧ ∀ o,o ∈ l → o.ws.length ≤ 6 := by
        unfold FO at hf;simp only [aL,decide_eq_true_eq,aT] at hf;exact ⟨hf.2,fun o h => hf.1 o h⟩
      have hol := M8 l
      (repeat' (first|refine wS ?_|refine wB ?_|refine wK ?_|refine wU ?_|(refine rg 0 (aV ?_))|(refine rg 1 (vV (kC (D8)) (aV ?_)))|(refine rg 2 (mW rfl (vV (kC (hfew)) (vV (eF rfl) (mW rfl (yN rfl (yN rfl (yV (kC (hgiv)) (yV (eF rfl) (pV ?_))))))))))|(refine rg 4 (cT [] rfl rfl KM rfl rfl (by decide) trivial (by simp) rfl ?_);refine aV ?_)|(refine rg 5 (mW rfl (vV (by exact S4 OI rfl rfl rfl) ?_)))|(refine rg 7 (aV ?_))|refine nZ ?_));all_goals try (exfalso;omega)
      refine xR 0 0 4 rfl rfl (by decide) ?_
      refine kR (X := {x : Nat × Bk × Nat × List Nat × Hp // x.1 ≤ l.length ∧ mX x.2.1 ∧ NI x.2.1 ∧ x.2.1.length ≤ x.1 ∧ rC x.2.2.2.2 x.2.2.1 x.2.1 x.2.2.2.1}) (fun x => [(0, .rowE (jE ls) 3), (1, .rowE (eY sure) 3), (2, .rowE (sO l) 6), (7, .b true), (8, .ptr x.1.2.2.1 0), (9, .i (x.1.1 : Int))]) (fun x => x.1.2.2.2.2) (fun x => l.length - x.1.1)
        ⟨(0,[],0,[0,1],[.cells [.sl 1 0 0 4],.arr [] 4]),bS _,mX.nil,fun o ho => (nomatch ho),aO _,1,[],⟨rfl,rfl,fun e he => (nomatch he),by decide⟩,rfl,rfl⟩ (lM.of rfl (by repeat first|exact trivial|refine ⟨rfl,?_⟩)) ?_
      rintro ⟨⟨i,bk,pb,A,X⟩,g1,g2,g3,g4,g5⟩;dsimp only at g1 g2 g3 g4 g5 ⊢;by_cases hlt : i < l.length
      · have hgo := KD hlt;have hmem := aK hlt;have hz := g2.sz;have c1 := LZ g5 (by have := g2.le;omega) hz.tk (fun o ho => by have := hz.ws o ho;omega)
        generalize l[i] = o at *
        (repeat' (first|refine wS ?_|refine wB ?_|refine wK ?_|refine wU ?_|(refine wC rfl ?_ ?_<;>(intro hb;(try simp only [nm] at hb);try (exfalso;omega)))|(refine rg 8 (fI rfl (qW T rfl (vV (bC rfl rfl) ?_))))|(refine rg 10 (mW rfl (eI rfl rfl c1 rfl ?_));rintro _ X1 ⟨po1,Ao,rfl,k1,k2,k3,k4⟩;dsimp only [eX];refine aV ?_)|(refine rg 11 (mW rfl (vV (by exact S4 OI rfl rfl rfl) ?_)))|refine nZ ?_));all_goals try (exfalso;omega)
        have hB1 : rC X1 pb bk A := g5.frame fun k hk => k4 k (g5.lt k hk);have c2 := WW hB1 g2 g3 (by omega) ls sure hso o (by have := hlen.2 o hmem;omega) _ (.inl rfl)
        have hst := LY (ls := ls) (sure := sure) (bk := bk) (o := o);have hok := TG (ls := ls) (sure := sure) (o := o) g2 (by have := hso.sl;omega)
        have hkn := TH (ls := ls) (sure := sure) (o := o) g3 (hI o hmem);have hfo := fun {H' : Hp} {A' : List Nat} (h : Fr X1 A H' A') => h.other (B := Ao) (fun k hk hA => by have := k2 k hk;have := g5.lt k hA;omega) (fun k hk => k1.lt k hk)
        generalize (T5 ls sure bk o).1.1 = n at *;generalize (T5 ls sure bk o).1.2 = e at *;generalize (T5 ls sure bk o).2 = bk' at *
        (repeat' (first|refine wS ?_|refine wK ?_|refine wU ?_|(refine rg 13 (fI rfl (mW rfl (vV (ix T rfl (by omega) (vI _) hgo) (lW T rfl (fI rfl (eI rfl rfl c2 rfl ?_))))));rintro _ X2 ⟨pb2,A2,rfl,k5,k6⟩;dsimp only [eX];refine mW rfl (xW rfl (xW rfl (xW rfl (NO rfl (aV ?_))))))|(refine rg 14 (mW rfl (vV (by exact S4 OI rfl rfl rfl) ?_)))|(refine rg 16 (mW rfl (aV ?_)))|refine nZ ?_));all_goals try (exfalso;omega)
        have hO := k1.frame (hfo k6).1;have hv1 := k5.view;have hv2 := hO.view;have cl1 := QO bk';have cl2 := QO bk;have hle := hst.le;have hask := hst.ask;have hla : (bk.length : Int) ≤ bk'.length ∧ (bk'.length : Int) ≤ bk.length + 1 := ⟨by omega,by omega⟩
        obtain ⟨d,no,b,nn,t,ws⟩ := o;dsimp only at hgo hask;apply Go.Ab.cutT
        · intro rest
          (repeat' (first|refine wS ?_|refine wK ?_|(refine wC rfl ?_ ?_<;>(intro hb;(try simp only [nm] at hb);try (exfalso;omega)))|(refine rg 17 (fI rfl (vV (ix T rfl (by omega) (vI _) hgo) (jP T rfl (vV (cO rfl rfl) (mV ?_)))));refine bM rfl rfl ?_ ?_<;>(intro hb;rw [hb];(try simp only [nm] at hb);try (exfalso;omega));(all_goals first|(refine gT (mW rfl (gT (vV (cO rfl rfl) ?_))))|(iterate 2 refine gF ?_));(all_goals (refine pW rfl (mV ?_)));(all_goals first|(refine gK ?_)|(refine bM rfl rfl ?_ ?_<;>(intro hb;rw [hb];(try simp only [nm] at hb);try (exfalso;omega))));(all_goals first|(refine gT (mW rfl (gT (mW rfl (gT (vV (by exact gL rfl rfl cl2 (.cons hv2 .nil) rfl rfl) ?_)))));refine gT (vV (nQ rfl rfl) ?_))|(iterate 4 refine gF ?_));(all_goals (refine pW rfl (mV ?_)));(all_goals first|(refine gK ?_)|(refine bM rfl rfl ?_ ?_<;>(intro hb;rw [hb];(try simp only [nm] at hb);try (exfalso;omega))));(all_goals (refine yN rfl (yV (by exact gL rfl rfl cl1 (.cons hv1 .nil) rfl rfl) ?_);refine yN rfl (yV (by exact gL rfl rfl cl2 (.cons hv2 .nil) rfl rfl) ?_);refine yV (bC rfl rfl) (pW rfl (mV ?_));refine bM rfl rfl ?_ ?_<;>(intro hb;rw [hb];(try simp only [nm] at hb);try (exfalso;omega))));(all_goals (refine yN rfl (yV (by exact gL rfl rfl cl1 (.cons hv1 .nil) rfl rfl) ?_);refine yN rfl (yV (by exact gL rfl rfl cl2 (.cons hv2 .nil) rfl rfl) ?_);refine yV (eC rfl rfl (by omega) (by omega)) (yV (fY rfl rfl) (pV ?_)))))|refine nZ ?_));all_goals try (exfalso;omega)
          all_goals exact hC [(0,.rowE (jE ls) 3),(1,.rowE (eY sure) 3),(2,.rowE (sO l) 6),(7,.b true),(8,.ptr pb2 0),(9,.i (i : Int)),(10,.ptr po1 0),(13,.i e)] X2 (lM.of rfl (by repeat first|exact trivial|refine ⟨rfl,?_⟩)) rest.get
        (repeat' (first|refine wB ?_|(refine rg 19 (aV ?_))|refine nZ ?_));refine kR (X := {x : Nat × Hp // x.1 ≤ bk'.length ∧ rC x.2 pb2 bk' A2 ∧ rC x.2 po1 bk Ao}) (fun x => [(0, .rowE (jE ls) 3), (1, .rowE (eY sure) 3), (2, .rowE (sO l) 6), (7, .b true), (8, .ptr pb2 0), (9, .i (i : Int)), (10, .ptr po1 0), (13, .i e), (14, .i (x.1.1 : Int))]) (fun x => x.1.2) (fun x => bk'.length - x.1.1)
          ⟨(0,X2),bS _,k5,hO⟩ (lM.of rfl (by repeat first|exact trivial|refine ⟨rfl,?_⟩)) ?_
        rintro ⟨⟨k,Y⟩,y1,y2,y3⟩;dsimp only at y1 y2 y3 ⊢;have yv1 := y2.view;have yv2 := y3.view;by_cases hno : k < bk'.length
        · have hm1 : bk'.getD k gW ∈ bk' := by rw [aD,aB hno];exact aK hno
          have hod := hok.od _ hm1;have hz1 := hok.sz;have cg1 := LG bk' k (by have := hok.le;omega) fun o ho => by have := hz1.ws o ho;omega
          have cg2 := LG bk k (by have := g2.le;omega) fun o ho => by have := hz.ws o ho;omega
          have ct1 := JA bk' k (by have := hok.le;omega) hz1.tk
          have hwl := (pH hod.ws).1;have hws1 := (pH hod.ws).2.1;have hnew := hst.new k;have hold := hst.old k;have htk0 := hod.tk0;have htk1 := hod.len;have hso2 := Y8 (bk.getD k gW);rw [AR,if_neg (by omega),bU] at cg1
          rw [if_neg (by omega),bU] at ct1
          generalize bk'.getD k gW = o' at *;obtain ⟨ws',due',st',tk'⟩ := o';dsimp only at *;have htl := oO tk';by_cases hthere : k < bk.length
          · have hm2 : bk.getD k gW ∈ bk := by rw [aD,aB hthere];exact aK hthere
            have hws2 := (pH (g2.od _ hm2).ws).2.1;rw [AR,if_neg (by omega),bU] at cg2
            have ho3 := hold hthere;generalize bk.getD k gW = o0 at *;obtain ⟨CI,due0,st0,tk0⟩ := o0;dsimp only at *;obtain ⟨⟨q1,q2⟩,q3⟩ := ho3;subst q1 q2;have hso3 := hso2 (by omega)
            (repeat' (first|refine wS ?_|refine wB ?_|refine wK ?_|refine wT ?_|(refine rg 20 (fI rfl (vV (by exact gL rfl rfl cl1 (.cons yv1 .nil) rfl rfl) ?_));refine vV (nK rfl rfl (by omega)) ?_)|(refine rg 22 (fI rfl (vV (by exact mG rfl rfl cg1 (.cons yv1 (.cons (.v _) .nil))) ?_));refine mW rfl (xW rfl (xW rfl (dX (cX T rfl) rfl (bH T rfl rfl rfl rfl rfl rfl (by decide) (lN cK rfl rfl) (aV ?_))))))|refine nZ ?_));refine hC [(0,.rowE (jE ls) 3),(1,.rowE (eY sure) 3),(2,.rowE (sO l) 6),(7,.b true),(8,.ptr pb2 0),(9,.i (i : Int)),(10,.ptr po1 0),(13,.i e),(14,.i (k : Int)),(15,.ptr Y.length 0)] (Y ++ [.cells [.rowE (bF ws') 3,.i due',.i st']]) (lM.of jL (by repeat first|exact trivial|refine ⟨rfl,?_⟩)) ?_
            have w1 : (Y ++ [AB.cells [.rowE (bF ws') 3,.i due',.i st']])[Y.length]? = some (.cells [.rowE (bF ws') 3,.i due',.i st']) := cK;have w2 : ∀ q,q < Y.length → (Y ++ [AB.cells [.rowE (bF ws') 3,.i due',.i st']])[q]? = Y[q]? := fun q hq => gN hq
            have w3 := Go.Or.View.more yv2 [AB.cells [.rowE (bF ws') 3,.i due',.i st']];have w4 := Go.Or.View.more yv1 [AB.cells [.rowE (bF ws') 3,.i due',.i st']];have w5 : Y.length < (Y ++ [AB.cells [.rowE (bF ws') 3,.i due',.i st']]).length := by simp
            generalize Y ++ [AB.cells [.rowE (bF ws') 3,.i due',.i st']] = Y1 at *
            (repeat' (first|refine wS ?_|(refine rg 23 (fI rfl (vV (by exact mG rfl rfl cg2 (.cons w3 (.cons (.v _) .nil))) ?_));refine mW rfl (xW rfl (xW rfl (dX (cX T rfl) rfl (bH T rfl rfl rfl rfl rfl rfl (by decide) (lN cK rfl rfl) (aV ?_))))))|refine nZ ?_));refine hC [(0,.rowE (jE ls) 3),(1,.rowE (eY sure) 3),(2,.rowE (sO l) 6),(7,.b true),(8,.ptr pb2 0),(9,.i (i : Int)),(10,.ptr po1 0),(13,.i e),(14,.i (k : Int)),(15,.ptr Y.length 0),(17,.ptr Y1.length 0),(18,.b true)] (Y1 ++ [.cells [.rowE (bF ws') 3,.i due',.i st0]]) (lM.of jL (by repeat first|exact trivial|refine ⟨rfl,?_⟩)) ?_
            have u1 : (Y1 ++ [AB.cells [.rowE (bF ws') 3,.i due',.i st0]])[Y.length]? = some (.cells [.rowE (bF ws') 3,.i due',.i st']) := bO w1;have u2 : (Y1 ++ [AB.cells [.rowE (bF ws') 3,.i due',.i st0]])[Y1.length]? = some (.cells [.rowE (bF ws') 3,.i due',.i st0]) := cK;have u3 : ∀ q,q < Y.length → (Y1 ++ [AB.cells [.rowE (bF ws') 3,.i due',.i st0]])[q]? = Y[q]? := fun q hq => (gN (by omega)).trans (w2 q hq)
            have u4 := Go.Or.View.more w4 [AB.cells [.rowE (bF ws') 3,.i due',.i st0]];have u6 : Y.length < (Y1 ++ [AB.cells [.rowE (bF ws') 3,.i due',.i st0]]).length := by simp;omega
            generalize Y1 ++ [AB.cells [.rowE (bF ws') 3,.i due',.i st0]] = Y2 at *;apply Go.Ab.cutT
            · intro rest;by_cases h1 : st' = 1
              · have ht1 := htk1 h1
                (repeat' (first|refine wS ?_|refine wK ?_|refine wU ?_|(refine eN (id := 24) 180 YK (rM 108 9) YL fH rfl (by decide +kernel) (dN rfl (dN rfl (dV rfl (by exact mG rfl rfl ct1 (.cons (Go.Or.View.more u4 _) (.cons (.v _) .nil))) ?_)));refine dV rfl (oK T rfl rfl) (dV rfl (iR rfl rfl (by omega)) (dP T rfl (dV rfl (by exact aY T rfl rfl (cM (bO u1)) rfl) ?_)));refine dV rfl (FL rfl rfl (by omega)) (dV rfl (xF C5 rfl rfl) (dE ?_)))|refine nZ ?_));all_goals try (exfalso;omega)
                all_goals exact hC [(0,.rowE (jE ls) 3),(1,.rowE (eY sure) 3),(2,.rowE (sO l) 6),(7,.b true),(8,.ptr pb2 0),(9,.i (i : Int)),(10,.ptr po1 0),(13,.i e),(14,.i (k : Int)),(15,.ptr Y.length 0),(17,.ptr Y1.length 0),(18,.b true)] Y2 (lM.of (List.append_nil _) (by repeat first|exact trivial|refine ⟨rfl,?_⟩)) rest.get
              · have ht1 : tk'.length = 0 := by rw [htk0 h1];rfl
                (repeat' (first|refine wS ?_|refine wK ?_|refine wU ?_|(refine eN (id := 24) 180 YK (rM 108 9) YL fH rfl (by decide +kernel) (dN rfl (dN rfl (dV rfl (by exact mG rfl rfl ct1 (.cons (Go.Or.View.more u4 _) (.cons (.v _) .nil))) ?_)));refine dV rfl (oK T rfl rfl) (dV rfl (jU rfl rfl (by omega)) (dP T rfl (dV rfl (by exact aY T rfl rfl (cM (bO u1)) rfl) ?_)));refine dV rfl (FM rfl rfl (by omega)) (dV rfl (xF C5 rfl rfl) (dE ?_)))|refine nZ ?_));all_goals try (exfalso;omega)
                all_goals exact hC [(0,.rowE (jE ls) 3),(1,.rowE (eY sure) 3),(2,.rowE (sO l) 6),(7,.b true),(8,.ptr pb2 0),(9,.i (i : Int)),(10,.ptr po1 0),(13,.i e),(14,.i (k : Int)),(15,.ptr Y.length 0),(17,.ptr Y1.length 0),(18,.b true)] Y2 (lM.of (List.append_nil _) (by repeat first|exact trivial|refine ⟨rfl,?_⟩)) rest.get
            have z2 : rC Y2 pb2 bk' A2 := y2.frame fun q hq => u3 q (y2.lt q hq);have z3 : rC Y2 po1 bk Ao := y3.frame fun q hq => u3 q (y3.lt q hq)
            (repeat' (first|refine wS ?_|refine wK ?_|refine wU ?_|(refine rg 26 (mW rfl (vV (eF rfl) ?_)))|(refine rg 29 (fW T rfl (vV (by exact aY T rfl rfl (cM u1) rfl) ?_));refine aV ?_)|(refine rg 30 (fW T rfl (vV (by exact aY T rfl rfl (cM u2) rfl) ?_));refine fW T rfl (bH T rfl rfl rfl rfl rfl rfl (by decide) (lN u1 rfl rfl) ?_))|refine nZ ?_));refine hC [(0,.rowE (jE ls) 3),(1,.rowE (eY sure) 3),(2,.rowE (sO l) 6),(7,.b true),(8,.ptr pb2 0),(9,.i (i : Int)),(10,.ptr po1 0),(13,.i e),(14,.i (k : Int)),(15,.ptr Y.length 0),(17,.ptr Y1.length 0),(19,.i st')] (Y2.set Y.length (.cells [.rowE (bF ws') 3,.i due',.i st0])) (lM.of rfl (by repeat first|exact trivial|refine ⟨rfl,?_⟩)) ?_
            have v1 : (Y2.set Y.length (AB.cells [.rowE (bF ws') 3,.i due',.i st0]))[Y.length]? = some (.cells [.rowE (bF ws') 3,.i due',.i st0]) := fU u6;have v2 : (Y2.set Y.length (AB.cells [.rowE (bF ws') 3,.i due',.i st0]))[Y1.length]? = some (.cells [.rowE (bF ws') 3,.i due',.i st0]) := fQ (by omega) u2
            have x2 : rC (Y2.set Y.length (AB.cells [.rowE (bF ws') 3,.i due',.i st0])) pb2 bk' A2 := z2.frame fun q hq => eK (by have := y2.lt q hq;omega)
            have x3 : rC (Y2.set Y.length (AB.cells [.rowE (bF ws') 3,.i due',.i st0])) po1 bk Ao := z3.frame fun q hq => eK (by have := y3.lt q hq;omega)
            generalize Y2.set Y.length (AB.cells [.rowE (bF ws') 3,.i due',.i st0]) = Y3 at *;clear u1 u2;have u1 := v1;have u2 := v2;by_cases hse : st' = st0
            · (repeat' (first|refine wK ?_|refine mS rfl ?_|(refine rg 31 (vV (by exact aY T rfl rfl (cM u1) rfl) ?_);refine vV (by exact aY T rfl rfl (cM u2) rfl) ?_;refine vV (kC (hso3)) (vV (eF rfl) (mW rfl (yN rfl (yP T rfl (yV (by exact aY T rfl rfl (cM u2) rfl) ?_)))));refine yV (nE rfl rfl (by omega)) (yM ?_);(iterate 8 refine gF ?_);(iterate 2 refine gU ?_);(iterate 2 refine gF ?_);(iterate 5 refine gU ?_);refine gF (gT (pW rfl (pV ?_))))|(refine iA 21 rfl rfl rfl (by omega) (by omega) ?_)|(refine nZ ?_)));all_goals try (exfalso;omega)
              all_goals exact ⟨⟨(k + 1,Y3),hno,x2,x3⟩,by dsimp only;omega,lM.of rfl (by repeat first|exact trivial|refine ⟨rfl,?_⟩)⟩
            · obtain ⟨p1,p2,p3⟩ := q3.resolve_left hse;have hmay := PA st0 st' p3
              (repeat' (first|refine wK ?_|refine wU ?_|(refine rg 31 (vV (by exact aY T rfl rfl (cM u1) rfl) ?_);refine vV (by exact aY T rfl rfl (cM u2) rfl) ?_;refine vV (kC (hso3)) (vV (eF rfl) (mW rfl (yN rfl (yP T rfl (yV (by exact aY T rfl rfl (cM u2) rfl) ?_)))));refine yV (S7 rfl rfl (by omega)) (yN rfl (yN rfl (yN rfl (yN rfl (yV (ix T rfl (by omega) (vI _) hgo) (yP T rfl (yV (aY T rfl rfl rfl rfl) (yV (nE rfl rfl (by omega)) (yM ?_)))))))));refine yN rfl (yV (nE rfl rfl (by omega)) (gT (pW rfl (yN rfl (yP T rfl (yV (by exact aY T rfl rfl (cM u2) rfl) ?_))))));refine yN rfl (yV (kC (hmay)) (yV (eF rfl) (gT (pW rfl (gT (pW rfl (pV ?_))))))))|(refine iA 21 rfl rfl rfl (by omega) (by omega) ?_)|refine nZ ?_));all_goals try (exfalso;omega)
              all_goals exact ⟨⟨(k + 1,Y3),hno,x2,x3⟩,by dsimp only;omega,lM.of rfl (by repeat first|exact trivial|refine ⟨rfl,?_⟩)⟩
          · rw [AR,if_pos (by omega)] at cg2
            obtain ⟨n1,n2,n3,n4⟩ := hnew (by omega) hno
            (repeat' (first|refine wS ?_|refine wB ?_|refine wK ?_|refine wT ?_|(refine rg 20 (fI rfl (vV (by exact gL rfl rfl cl1 (.cons yv1 .nil) rfl rfl) ?_));refine vV (nK rfl rfl (by omega)) ?_)|(refine rg 22 (fI rfl (vV (by exact mG rfl rfl cg1 (.cons yv1 (.cons (.v _) .nil))) ?_));refine mW rfl (xW rfl (xW rfl (dX (cX T rfl) rfl (bH T rfl rfl rfl rfl rfl rfl (by decide) (lN cK rfl rfl) (aV ?_))))))|refine nZ ?_));refine hC [(0,.rowE (jE ls) 3),(1,.rowE (eY sure) 3),(2,.rowE (sO l) 6),(7,.b true),(8,.ptr pb2 0),(9,.i (i : Int)),(10,.ptr po1 0),(13,.i e),(14,.i (k : Int)),(15,.ptr Y.length 0)] (Y ++ [.cells [.rowE (bF ws') 3,.i due',.i st']]) (lM.of jL (by repeat first|exact trivial|refine ⟨rfl,?_⟩)) ?_
            have w1 : (Y ++ [AB.cells [.rowE (bF ws') 3,.i due',.i st']])[Y.length]? = some (.cells [.rowE (bF ws') 3,.i due',.i st']) := cK;have w2 : ∀ q,q < Y.length → (Y ++ [AB.cells [.rowE (bF ws') 3,.i due',.i st']])[q]? = Y[q]? := fun q hq => gN hq
            have w3 := Go.Or.View.more yv2 [AB.cells [.rowE (bF ws') 3,.i due',.i st']];have w4 := Go.Or.View.more yv1 [AB.cells [.rowE (bF ws') 3,.i due',.i st']];have w5 : Y.length < (Y ++ [AB.cells [.rowE (bF ws') 3,.i due',.i st']]).length := by simp
            generalize Y ++ [AB.cells [.rowE (bF ws') 3,.i due',.i st']] = Y1 at *
            (repeat' (first|refine wS ?_|(refine rg 23 (fI rfl (vV (by exact mG rfl rfl cg2 (.cons w3 (.cons (.v _) .nil))) ?_));refine mW rfl (xW rfl (xW rfl (dX (cX T rfl) rfl (bH T rfl rfl rfl rfl rfl rfl (by decide) (lN cK rfl rfl) (aV ?_))))))|refine nZ ?_));refine hC [(0,.rowE (jE ls) 3),(1,.rowE (eY sure) 3),(2,.rowE (sO l) 6),(7,.b true),(8,.ptr pb2 0),(9,.i (i : Int)),(10,.ptr po1 0),(13,.i e),(14,.i (k : Int)),(15,.ptr Y.length 0),(17,.ptr Y1.length 0),(18,.b false)] (Y1 ++ [.cells [.nils,.i 0,.i 0]]) (lM.of jL (by repeat first|exact trivial|refine ⟨rfl,?_⟩)) ?_
            have u1 : (Y1 ++ [AB.cells [.nils,.i 0,.i 0]])[Y.length]? = some (.cells [.rowE (bF ws') 3,.i due',.i st']) := bO w1;have u2 : (Y1 ++ [AB.cells [.nils,.i 0,.i 0]])[Y1.length]? = some (.cells [.nils,.i 0,.i 0]) := cK;have u3 : ∀ q,q < Y.length → (Y1 ++ [AB.cells [.nils,.i 0,.i 0]])[q]? = Y[q]? := fun q hq => (gN (by omega)).trans (w2 q hq)
            have u4 := Go.Or.View.more w4 [AB.cells [.nils,.i 0,.i 0]];have u6 : Y.length < (Y1 ++ [AB.cells [.nils,.i 0,.i 0]]).length := by simp;omega
            generalize Y1 ++ [AB.cells [.nils,.i 0,.i 0]] = Y2 at *;apply Go.Ab.cutT
            · intro rest;by_cases h1 : st' = 1
              · have ht1 := htk1 h1
                (repeat' (first|refine wS ?_|refine wK ?_|refine wU ?_|(refine eN (id := 24) 180 YK (rM 108 9) YL fH rfl (by decide +kernel) (dN rfl (dN rfl (dV rfl (by exact mG rfl rfl ct1 (.cons (Go.Or.View.more u4 _) (.cons (.v _) .nil))) ?_)));refine dV rfl (oK T rfl rfl) (dV rfl (iR rfl rfl (by omega)) (dP T rfl (dV rfl (by exact aY T rfl rfl (cM (bO u1)) rfl) ?_)));refine dV rfl (FL rfl rfl (by omega)) (dV rfl (xF C5 rfl rfl) (dE ?_)))|refine nZ ?_));all_goals try (exfalso;omega)
                all_goals exact hC [(0,.rowE (jE ls) 3),(1,.rowE (eY sure) 3),(2,.rowE (sO l) 6),(7,.b true),(8,.ptr pb2 0),(9,.i (i : Int)),(10,.ptr po1 0),(13,.i e),(14,.i (k : Int)),(15,.ptr Y.length 0),(17,.ptr Y1.length 0),(18,.b false)] Y2 (lM.of (List.append_nil _) (by repeat first|exact trivial|refine ⟨rfl,?_⟩)) rest.get
              · have ht1 : tk'.length = 0 := by rw [htk0 h1];rfl
                (repeat' (first|refine wS ?_|refine wK ?_|refine wU ?_|(refine eN (id := 24) 180 YK (rM 108 9) YL fH rfl (by decide +kernel) (dN rfl (dN rfl (dV rfl (by exact mG rfl rfl ct1 (.cons (Go.Or.View.more u4 _) (.cons (.v _) .nil))) ?_)));refine dV rfl (oK T rfl rfl) (dV rfl (jU rfl rfl (by omega)) (dP T rfl (dV rfl (by exact aY T rfl rfl (cM (bO u1)) rfl) ?_)));refine dV rfl (FM rfl rfl (by omega)) (dV rfl (xF C5 rfl rfl) (dE ?_)))|refine nZ ?_));all_goals try (exfalso;omega)
                all_goals exact hC [(0,.rowE (jE ls) 3),(1,.rowE (eY sure) 3),(2,.rowE (sO l) 6),(7,.b true),(8,.ptr pb2 0),(9,.i (i : Int)),(10,.ptr po1 0),(13,.i e),(14,.i (k : Int)),(15,.ptr Y.length 0),(17,.ptr Y1.length 0),(18,.b false)] Y2 (lM.of (List.append_nil _) (by repeat first|exact trivial|refine ⟨rfl,?_⟩)) rest.get
            have z2 : rC Y2 pb2 bk' A2 := y2.frame fun q hq => u3 q (y2.lt q hq);have z3 : rC Y2 po1 bk Ao := y3.frame fun q hq => u3 q (y3.lt q hq)
            (repeat' (first|refine wS ?_|refine wK ?_|refine wE ?_|refine wT ?_|refine wU ?_|(refine rg 26 (mW rfl (vV (eF rfl) ?_)))|(refine eN (id := 27) 180 [[],[0],[0,1],[0,1,2],rN 4,rN 4,rN 6,rN 7,rN 8,rN 9,rN 10,rN 11,rN 12,rN 13,rN 14,rN 15,rN 16,rN 17,rN 16,rN 16,[0,1,2,3,4,5,6,7,8,9,10,11,12,13,14,15,18,19],[0,1,2,3,4,5,6,7,8,9,10,11,12,13,14,15,18,19,20],[0,1,2,3,4,5,6,7,8,9,10,11,12,13,14,15,18,19,20,21],rN 23,rN 24] (rM 119 25) [[],[],[],[],[],[123],[],[],[],[],[],[],[],[],[],[],[],[],[135,136],[135,136,137],[135,136],[135,136],[135,136],[],[]] fH rfl (by decide +kernel) (dP T rfl (dV rfl (by exact aY T rfl rfl (cM (bO u1)) rfl) ?_));refine dV rfl (nE rfl rfl (by omega)) (dN rfl (tN rfl (tN rfl (dT rfl (ix T rfl (by omega) (vI _) hgo) (tP T rfl (tO T rfl (dT rfl (nE rfl rfl (by omega)) (dV rfl (kQ rfl rfl) (dM ?_)))))))));refine tN rfl (dT rfl (nE rfl rfl (by omega)) (dV rfl (kQ rfl rfl) (dN rfl (tP T rfl (dT rfl (by exact aY T rfl rfl (cM (bO u1)) rfl) ?_)))));refine tN rfl (tN rfl (dT rfl (ix T rfl (by omega) (vI _) hgo) (tP T rfl (tO T rfl (dT rfl (nE rfl rfl (by omega)) (dV rfl (kQ rfl rfl) (dE ?_))))))))|(refine iA 21 rfl rfl rfl (by omega) (by omega) ?_)|refine nZ ?_));all_goals try (exfalso;omega)
            all_goals exact ⟨⟨(k + 1,Y2),hno,z2,z3⟩,by dsimp only;omega,lM.of (List.append_nil _) (by repeat first|exact trivial|refine ⟨rfl,?_⟩)⟩
        · (repeat' (first|refine wS ?_|refine wE ?_|(refine wC rfl (fun hb => ?_) (fun hb => ?_) <;> (((try simp only [nm] at hb);try (exfalso;omega))))|(refine rg 20 (fI rfl (vV (by exact gL rfl rfl cl1 (.cons yv1 .nil) rfl rfl) ?_));refine vV (bC rfl rfl) ?_)|(refine iA 9 rfl rfl rfl (by omega) (by omega) ?_)|(refine nZ ?_)));all_goals first | (exfalso;omega) | exact ⟨⟨(i + 1,bk',pb2,A2,Y),by dsimp only;omega,hok,hkn,by dsimp only;omega,y2⟩,by dsimp only;omega,lM.of rfl (by repeat first|exact trivial|refine ⟨rfl,?_⟩)⟩
      · (repeat' (first|refine wS ?_|refine wR ?_|refine wE ?_|(refine wC rfl (fun hb => ?_) (fun hb => ?_) <;> (((try simp only [nm] at hb);try (exfalso;omega))))|(refine rg 8 (fI rfl (qW T rfl (vV (bC rfl rfl) ?_))))|(refine rg 33 (mW rfl (aV ?_)))|(refine nZ ?_)));all_goals first | (exfalso;omega) | exact ⟨.inl rfl,_,rfl,rfl⟩
end Go.Proofs.YtdiogjgohbbllaaGreatDoor
namespace Go.Proofs.YtdiogjgohbbllaaGreatDoor
open Go Go.Ab Go.Or Go.Wr Go.ChangeShapes Go.WideShapes Go.ChangeAt Go.RowKit
def C2 (n : Int) : Prop := (Lit.int .i64 n).wf = true
theorem OT {n : Int} (h : C2 n) : sV n := by
  have e1 : IntKind.i64.min = -9223372036854775808 := rfl;have e2 : IntKind.i64.max = 9223372036854775807 := rfl;simp only [C2,Lit.wf,aL,decide_eq_true_eq,e1,e2] at h;exact h
theorem xC {P : Program} {W : World} {name : String} {d : DataW Unit} : ∀ {l : List (String × DataW Unit)} {ps : List MemPlace},DataW.LaidVars P W l ps → (name,d) ∈ l →
    ∃ g t cs fuel p,P.globalNamed name = some g ∧ (P.globals[g]?).map (·.type) = some t ∧ W.var? P name = some cs ∧ DataW.trod (fun _ => ()) P W 0 (fun _ => true) false fuel t cs.toList = some (d,p)
  | [],_,_,h => by cases h
  | (n,d') :: r,ps,h,hm => by
    obtain ⟨g,t,cs,fuel,p,q,h1,h2,h3,h4,h5,_⟩ := h;rcases aQ.1 hm with e | hm
    · cases e;exact ⟨g,t,cs,fuel,p,h1,h2,h3,h4⟩
    · exact xC h5 hm
def DF : List Int := (List.range 20).map fun i => ((10 ^ i : Nat) : Int)
theorem VF : Tryz.prog.globalNamed "internal/strconv.uint64pow10" = some 0 := by kernel_rfl
theorem LJ : (Tryz.prog.globals[0]?).map (·.type) = some 186 := by kernel_rfl
theorem WK : Tryz.prog.underlying 174 = some (.int .u64) := by kernel_rfl
theorem WY : Tryz.prog.underlying 186 = some (.array 20 174) := by kernel_rfl
theorem TK : Tryz.prog.cellsOf 174 = 1 := by kernel_rfl
theorem TN : Tryz.prog.cellsOf 186 = 20 := by kernel_rfl
theorem OK : (Rows.laid_internal_strconv_uint64pow10 : DataW Unit) = Lib.tabData .u64 DF := by kernel_rfl
theorem XG : Tryz.prog.globalNamed "strconv.ErrSyntax" = some 2 := by kernel_rfl
theorem XH : Tryz.prog.globalNamed "strconv.ErrRange" = some 3 := by kernel_rfl
theorem PJ : (Tryz.prog.globals[2]?).map (·.type) = some 125 := by kernel_rfl
theorem PK : (Tryz.prog.globals[3]?).map (·.type) = some 125 := by kernel_rfl
theorem QJ : "*" ++ "errors.errorString" = "*errors.errorString" := by decide
theorem rowE (u : TypeId) (h : Tryz.prog.typeName? 3 u = some "*errors.errorString") : u = 199 :=
  typeName_ptr_named (nm := "errors.errorString") (by rw [QJ]; kernel_rfl) (by kernel_rfl) (by decide) u (by rw [QJ]; exact h)
theorem WS : Tryz.prog.underlying 125 = some (.interface #[("Error", 73)]) := by kernel_rfl
theorem WO : Tryz.prog.underlying 199 = some (.pointer 201) := by kernel_rfl
theorem TM : Tryz.prog.cellsOf 201 = 1 := by kernel_rfl
theorem TL : Tryz.prog.cellsOf 9 = 1 := by kernel_rfl
theorem QY {n : String} {text : List UInt8} {r : List (String × DataW Unit)} {W : World} {g : Nat} (h : laidMet Tryz.prog ((n, .iface "*errors.errorString" (.ptr (.agg [.lit (.string text)]))) :: r) W)
    (hg : Tryz.prog.globalNamed n = some g) (ht : (Tryz.prog.globals[g]?).map (·.type) = some 125) : ∃ p,W.var? Tryz.prog n = some #[.iface 199 p] := by
  obtain ⟨a,s,hv,_⟩ := laid_sentinel h hg ht WS rowE WO Tryz.underlying201 rfl rfl Tryz.underlying9 TM TL;exact ⟨_,hv⟩
theorem zX {W : World} {n : String} {g : Nat} {p : Value} (hg : Tryz.prog.globalNamed n = some g) (hv : W.var? Tryz.prog n = some #[.iface 199 p]) :
    g < W.heap.size ∧ ∃ ys t fz,W.heap[g]? = some (.cells ys t fz) ∧ RL (fun b => b < W.heap.size) W [AV.ifc 199 .any] (fun _ => none) ys.toList := by
  unfold World.var? at hv;rw [hg] at hv;simp only [Option.bind_some] at hv;split at hv
  · rename_i c ty fz hh;cases hv;refine ⟨(aM.1 hh).1,_,ty,fz,hh,?_⟩;simp only [RL,R];exact ⟨_,_,rfl,⟨p,rfl,trivial⟩,rfl⟩
  · cases hv
theorem HK {W : World} {l : List (String × DataW Unit)} {a b : String × DataW Unit} (hl : l = [a, b, ("internal/strconv.uint64pow10", (Rows.laid_internal_strconv_uint64pow10 : DataW Unit)), ("strconv.ErrRange", (Rows.laid_strconv_ErrRange : DataW Unit)), ("strconv.ErrSyntax", (Rows.laid_strconv_ErrSyntax : DataW Unit))]) (h0 : laidMet Tryz.prog l W) : kA (fun b => b < W.heap.size) W := by
  subst hl;obtain ⟨pr, hr⟩ := QY (n := "strconv.ErrRange") h0.tail.tail.tail XH PK
  obtain ⟨pe, he⟩ := QY (n := "strconv.ErrSyntax") h0.tail.tail.tail.tail XG PJ
  obtain ⟨ps,hv,_⟩ := h0;obtain ⟨g,t,cs,fuel,p,h1,h2,h3,h4⟩ := xC hv (.tail _ (.tail _ (.head _)));obtain rfl := Option.some.inj (VF.symm.trans h1);obtain rfl := Option.some.inj (LJ.symm.trans h2);rw [OK] at h4;have e := Lib.cells_of_tab WY WK TK TN h4;unfold World.var? at h3;rw [VF] at h3;simp only [Option.bind_some] at h3;intro g cs' hg;have hg' : (g = 0 ∧ cs' = (DF.map fun z => Value.int .u64 z).map .v) ∨ (g = 2 ∧ cs' = [AV.ifc 199 .any]) ∨ (g = 3 ∧ cs' = [AV.ifc 199 .any]) := by
    simp only [pM,aQ,bZ,or_false,Prod.mk.injEq] at hg;rcases hg with hg | hg | hg
    · refine .inl ⟨hg.1,hg.2.trans ?_⟩;simp [DF,mK,Function.comp_def]
    · exact .inr (.inl hg)
    · exact .inr (.inr hg)
  rcases hg' with ⟨rfl,rfl⟩ | ⟨rfl,rfl⟩ | ⟨rfl,rfl⟩
  · split at h3
    · rename_i c ty fz hh;cases h3;refine ⟨(aM.1 hh).1,cs,ty,fz,hh,?_⟩;rw [e];exact P7 _
    · cases h3
  · exact zX XG he
  · exact zX XH hr
noncomputable def low (os : Os) : Nat := (World.holding Tryz.prog os ⟨#[],#[],[]⟩).heap.size
noncomputable def zE (os : Os) : World :=
  { World.holding Tryz.prog os ⟨#[.cells #[.string ⟨#[118, 97, 108, 117, 101, 32, 111, 117, 116, 32, 111, 102, 32, 114, 97, 110, 103, 101]⟩] 201, .cells #[.string ⟨#[105, 110, 118, 97, 108, 105, 100, 32, 115, 121, 110, 116, 97, 120]⟩] 201], #[], []⟩ with heap := ((((((World.holding Tryz.prog os ⟨#[.cells #[.string ⟨#[118, 97, 108, 117, 101, 32, 111, 117, 116, 32, 111, 102, 32, 114, 97, 110, 103, 101]⟩] 201, .cells #[.string ⟨#[105, 110, 118, 97, 108, 105, 100, 32, 115, 121, 110, 116, 97, 120]⟩] 201], #[], []⟩).heap.modify 0 fun
      | .cells _ t frozen => .cells #[.int .u64 1,.int .u64 10,.int .u64 100,.int .u64 1000,.int .u64 10000,.int .u64 100000,.int .u64 1000000,.int .u64 10000000,.int .u64 100000000,.int .u64 1000000000,.int .u64 10000000000,.int .u64 100000000000,.int .u64 1000000000000,.int .u64 10000000000000,.int .u64 100000000000000,.int .u64 1000000000000000,.int .u64 10000000000000000,.int .u64 100000000000000000,.int .u64 1000000000000000000,.int .u64 10000000000000000000] t frozen
      | o => o).modify 4 fun
      | .cells _ t frozen => .cells #[.int .u8 0,.int .u8 1,.int .u8 28,.int .u8 2,.int .u8 29,.int .u8 14,.int .u8 24,.int .u8 3,.int .u8 30,.int .u8 22,.int .u8 20,.int .u8 15,.int .u8 25,.int .u8 17,.int .u8 4,.int .u8 8,.int .u8 31,.int .u8 27,.int .u8 13,.int .u8 23,.int .u8 21,.int .u8 19,.int .u8 16,.int .u8 7,.int .u8 26,.int .u8 12,.int .u8 18,.int .u8 6,.int .u8 11,.int .u8 5,.int .u8 10,.int .u8 9] t frozen
      | o => o).modify 5 fun
      | .cells _ t frozen => .cells #[.int .u8 0,.int .u8 1,.int .u8 56,.int .u8 2,.int .u8 57,.int .u8 49,.int .u8 28,.int .u8 3,.int .u8 61,.int .u8 58,.int .u8 42,.int .u8 50,.int .u8 38,.int .u8 29,.int .u8 17,.int .u8 4,.int .u8 62,.int .u8 47,.int .u8 59,.int .u8 36,.int .u8 45,.int .u8 43,.int .u8 51,.int .u8 22,.int .u8 53,.int .u8 39,.int .u8 33,.int .u8 30,.int .u8 24,.int .u8 18,.int .u8 12,.int .u8 5,.int .u8 63,.int .u8 55,.int .u8 48,.int .u8 27,.int .u8 60,.int .u8 41,.int .u8 37,.int .u8 16,.int .u8 46,.int .u8 35,.int .u8 44,.int .u8 21,.int .u8 52,.int .u8 32,.int .u8 23,.int .u8 11,.int .u8 54,.int .u8 26,.int .u8 40,.int .u8 15,.int .u8 34,.int .u8 20,.int .u8 31,.int .u8 10,.int .u8 25,.int .u8 14,.int .u8 19,.int .u8 9,.int .u8 13,.int .u8 8,.int .u8 7,.int .u8 6] t frozen
      | o => o).modify 3 fun
      | .cells _ t frozen => .cells #[.iface 199 (.pointer (some ⟨low os,0,none⟩))] t frozen
      | o => o).modify 2 fun
      | .cells _ t frozen => .cells #[.iface 199 (.pointer (some ⟨low os + 1,0,none⟩))] t frozen
      | o => o) }
theorem qI : gQ Tryz.prog 3 C2 (fun n => [AV.i n]) := gQ.int Tryz.underlying3 (by kernel_rfl)
theorem SF : gQ Tryz.prog 4 (fun _ => True) (fun b => [AV.b b]) := gQ.bool Tryz.underlying4 (by kernel_rfl)
theorem US : gQ Tryz.prog 84 (fun p : Lo => C2 p.1 ∧ C2 p.2.1) (fun p => [AV.i p.1,AV.i p.2.1,AV.b p.2.2]) :=
  gQ.struct (fs := [(3, 0), (3, 1), (4, 2)]) (by kernel_rfl) (by kernel_rfl)
    (fun e W fuel css hl hx => by
      obtain ⟨a,h1,h2,h3⟩ := iE.cons qI (iE.cons qI (iE.cons SF iE.nil)) e W fuel css hl hx
      exact ⟨(a.1,a.2.1,a.2.2.1),⟨h1.1,h1.2.1⟩,by simpa using h2,by simpa using h3⟩)
    (fun _ => by kernel_rfl)
theorem UT : gQ Tryz.prog 60 (fun p : Bo => C2 p.1 ∧ C2 p.2.1 ∧ C2 p.2.2) (fun p => [AV.i p.1,AV.i p.2.1,AV.i p.2.2]) :=
  gQ.struct (fs := [(3, 0), (3, 1), (3, 2)]) (by kernel_rfl) (by kernel_rfl)
    (fun e W fuel css hl hx => by
      obtain ⟨a,h1,h2,h3⟩ := iE.cons qI (iE.cons qI (iE.cons qI iE.nil)) e W fuel css hl hx
      exact ⟨(a.1,a.2.1,a.2.2.1),⟨h1.1,h1.2.1,h1.2.2.1⟩,by simpa using h2,by simpa using h3⟩)
    (fun _ => by kernel_rfl)
theorem SA : gQ Tryz.prog 100 (fun p : Wt => C2 p.1 ∧ C2 p.2.1 ∧ C2 p.2.2) (fun p => [AV.i p.1,AV.i p.2.1,AV.i p.2.2]) :=
  gQ.struct (fs := [(3, 0), (3, 1), (3, 2)]) (by kernel_rfl) (by kernel_rfl)
    (fun e W fuel css hl hx => by
      obtain ⟨a,h1,h2,h3⟩ := iE.cons qI (iE.cons qI (iE.cons qI iE.nil)) e W fuel css hl hx
      exact ⟨(a.1,a.2.1,a.2.2.1),⟨h1.1,h1.2.1,h1.2.2.1⟩,by simpa using h2,by simpa using h3⟩)
    (fun _ => by kernel_rfl)
abbrev VW (l : List Lo) : Prop := l.length ≤ maxLen ∧ ∀ a,a ∈ l → C2 a.1 ∧ C2 a.2.1
abbrev VX (l : List Bo) : Prop := l.length ≤ maxLen ∧ ∀ a,a ∈ l → C2 a.1 ∧ C2 a.2.1 ∧ C2 a.2.2
abbrev VV (l : List Wt) : Prop := l.length ≤ maxLen ∧ ∀ a,a ∈ l → C2 a.1 ∧ C2 a.2.1 ∧ C2 a.2.2
theorem SE : gQ Tryz.prog 22 VW (fun l => [.rowE (jE l) 3]) :=
  gQ.slice Tryz.underlying22 (by kernel_rfl) (by kernel_rfl) (by decide) US
theorem OR : gQ Tryz.prog 23 VX (fun l => [.rowE (eY l) 3]) :=
  gQ.slice Tryz.underlying23 (by kernel_rfl) (by kernel_rfl) (by decide) UT
theorem OP : gQ Tryz.prog 33 VV (fun l => [.rowE (bF l) 3]) :=
  gQ.slice Tryz.underlying33 (by kernel_rfl) (by kernel_rfl) (by decide) SA
abbrev TZ := Int × Int × Int × Int × Int × List Wt
abbrev XK (p : TZ) : Prop := C2 p.1 ∧ C2 p.2.1 ∧ C2 p.2.2.1 ∧ C2 p.2.2.2.1 ∧ C2 p.2.2.2.2.1 ∧ VV p.2.2.2.2.2
abbrev UF (p : TZ) : List AV := [.i p.1,.i p.2.1,.i p.2.2.1,.i p.2.2.2.1,.i p.2.2.2.2.1,.rowE (bF p.2.2.2.2.2) 3]
theorem SB : gQ Tryz.prog 35 XK UF :=
  gQ.struct (fs := [(3, 0), (3, 1), (3, 2), (3, 3), (3, 4), (33, 5)]) (by kernel_rfl) (by kernel_rfl)
    (fun e W fuel css hl hx => by
      obtain ⟨a,h1,h2,h3⟩ := iE.cons qI (iE.cons qI (iE.cons qI (iE.cons qI (iE.cons qI (iE.cons OP iE.nil))))) e W fuel css hl hx
      exact ⟨(a.1,a.2.1,a.2.2.1,a.2.2.2.1,a.2.2.2.2.1,a.2.2.2.2.2.1),⟨h1.1,h1.2.1,h1.2.2.1,h1.2.2.2.1,h1.2.2.2.2.1,h1.2.2.2.2.2.1⟩,by simpa [UF] using h2,by simpa [UF] using h3⟩)
    (fun _ => by kernel_rfl)
abbrev UA (l : List TZ) : Prop := l.length ≤ maxLen ∧ ∀ p,p ∈ l → XK p
theorem OQ : gQ Tryz.prog 24 UA (fun l => [.rowE (l.map UF) 6]) :=
  gQ.slice Tryz.underlying24 (by kernel_rfl) (by kernel_rfl) (by decide) SB
abbrev WP (p : TZ) : Or.Op := ⟨p.1,p.2.1,p.2.2.1,p.2.2.2.1,p.2.2.2.2.1,p.2.2.2.2.2⟩
theorem SD (l : List TZ) : l.map UF = (l.map WP).map WA := by rw [mK];rfl
theorem SC {l : List TZ} (h : UA l) : ∀ o,o ∈ l.map WP → ∀ w,w ∈ o.ws → sV w.1 := by
  intro o ho w hw;obtain ⟨p,hp,rfl⟩ := aJ.1 ho;exact OT ((h.2 p hp).2.2.2.2.2.2 w hw).1
theorem SL {α : Type} {l : List α} (h : l.length ≤ maxLen) : l.length ≤ 9223372036854775807 := h
end Go.Proofs.YtdiogjgohbbllaaGreatDoor
namespace Go.Proofs.YtdiogjgohbbllaaGreatDoor
open Go Go.Ab Go.Or Go.Wr Go.ChangeShapes Go.WideShapes Go.ChangeAt Go.RowKit
attribute [local irreducible] VC AW bQ bN eT
theorem CT (ls : List Lo) (h1 : VW ls) (sure : List Bo) (h2 : VX sure) (l : List TZ) (h3 : UA l) :
    bN Tryz.prog 3 [.rowE (jE ls) 3,.rowE (eY sure) 3,.rowE (l.map UF) 6] [] (.b true) [] := by
  rw [SD];exact tX rfl (JF ls sure (l.map WP) (SL h1.1) (SL h2.1) (by rw [bJ];exact SL h3.1) (SC h3))
end Go.Proofs.YtdiogjgohbbllaaGreatDoor
