/-
  Texts of the logic and of the layer,in one module (part 7).
-/
import Derived.Test.YtdiogjgohbbllaaGreatDoorK6
import Derived.Test.YtdiogjgohbbllaaGreatDoorRows
import Derived.Deep.DeepHandedRow
import Derived.Lib.LaidTab
import Derived.Stop.LaidErr
set_option linter.unusedVariables false
set_option linter.unusedSimpArgs false
set_option linter.unnecessarySimpa false
namespace Go.Or
open Go Go.Ab Go.Wr Go.Proofs.YtdiogjgohbbllaaGreatDoor
theorem HP (left : List Bo) (o : Or.Op) (e : Int) : (vB left o e).length = left.length := by
  unfold vB;split
  · exact pJ
  · rfl
theorem pM.step {ls : List Lo} {left : List Bo} {bk' : Bk} {o : Or.Op} {e : Int} (h : pM ls left) (hin : o.d = 2 → e = 0 → (0 ≤ o.b ∧ o.b < left.length) ∧ 1 ≤ o.n ∧ o.n ≤ cnt left o.b) (hc : B6 ls (vB left o e) bk') : pM ls (vB left o e) := by
  have hnn := fun {b : Int} (hb : 0 ≤ b) => hc.nn hb;unfold vB at hnn ⊢;split
  · rename_i hc;rw [if_pos hc] at hnn;obtain ⟨⟨h0,h1⟩,h2,h3⟩ := hin hc.1 hc.2;refine ⟨h.ll,by rw [pJ];exact h.sl,fun i hi => ?_,fun b hb => ⟨hnn hb,?_⟩⟩
    · rw [pJ] at hi;have := tZ (n := o.n) h0 h1 (j := (i : Int)) (by omega)
      rw [bK] at this;rw [this];exact h.lot i hi
    · rw [uA h0 h1 hb];have := (h.cn b hb).2;have := (h.cn o.b h0).2;split <;> omega
  · exact h
theorem nN.tkws {o : Od} (h : nN o) : o.tk.length ≤ o.ws.length ∧ o.ws.length ≤ 1000000 := by
  have hw := (zX h.ws).2.1;by_cases h1 : o.st = 1
  · have := h.len h1;omega
  · rw [h.tk0 h1];exact ⟨bM _,by omega⟩
structure K0 (H : Hp) (A : List Nat) (kl : Nat) (left : List Bo) : Prop where
  at_ : H[kl]? = some (.arr (eR left) 3)
  nA : kl ∉ A
theorem K0.fr {H H' : Hp} {A A' : List Nat} {kl : Nat} {left : List Bo} (h : K0 H A kl left) (f : Fr H A H' A') : K0 H' A' kl left := by
  have hl := (aA.1 h.at_).1;obtain ⟨h1,h2⟩ := f.other (B := [kl]) (fun k hk => by rw [bG.1 hk];exact h.nA) (fun k hk => by rw [bG.1 hk];exact hl)
  exact ⟨by rw [h1 kl (by simp)];exact h.at_,h2 kl (by simp)⟩
end Go.Or
namespace Go.Proofs.YtdiogjgohbbllaaGreatDoor
open Go Go.Ab Go.Or Go.Wr
attribute [local irreducible] VC AW bR bN eS lE IR NY RW
set_option maxHeartbeats 4000000
theorem QK {l : List Bo} {k : Nat} (h : k < l.length) : (eR l)[0 + (k : Int).toNat]? = some [AV.i (l.getD k (0,0,0)).1,AV.i (cnt l k),AV.i (l.getD k (0,0,0)).2.2] := by
  have := xS (bs := l) (j := (k : Int)) (by omega) (by omega)
  rw [bK] at this ⊢;exact this
theorem ID (ls : List Lo) (sure : List Bo) (l : List Or.Op) (hl : ls.length ≤ 9223372036854775807) (hbs : sure.length ≤ 9223372036854775807) (ho : l.length ≤ 9223372036854775807) (hI : ∀ o,o ∈ l → ∀ w,w ∈ o.ws → sY w.1) :
    eS Tryz.prog 5 [.rowE (jF ls) 3,.rowE (eR sure) 3,.rowE (K6 l) 6] [] (fun r _ => r = .b true) := by
  have hfew := QD l 40 ho;have hgiv := PY ls sure hl hbs;refine jO T Tryz.func5 rfl rfl rfl rfl ?_;cases hf : FZ l 40 with
  | false =>
    rw [hf] at hfew
    (repeat' (first|refine wS ?_|refine wR ?_|refine wT ?_|(refine rg 0 (aV ?_))|(refine rg 1 (vV (kC (E5)) (aV ?_)))|(refine rg 2 (mW rfl (vV (kC (hfew)) (vV (eI rfl) (mV ?_))));(iterate 4 refine gF ?_);refine pV ?_)|(refine rg 3 (mW rfl (aV ?_)))|refine nZ ?_));all_goals first | (exfalso;omega) | exact ⟨.inl rfl,_,rfl,rfl⟩
  | true =>
    rw [hf] at hfew;cases hg : zM ls sure with
    | false =>
      rw [hg] at hgiv
      (repeat' (first|refine wS ?_|refine wR ?_|refine wT ?_|(refine rg 0 (aV ?_))|(refine rg 1 (vV (kC (E5)) (aV ?_)))|(refine rg 2 (mW rfl (vV (kC (hfew)) (vV (eI rfl) (mW rfl (yN rfl (yN rfl (yV (kC (hgiv)) (yV (eI rfl) (pV ?_))))))))))|(refine rg 3 (mW rfl (aV ?_)))|refine nZ ?_));all_goals first | (exfalso;omega) | exact ⟨.inl rfl,_,rfl,rfl⟩
    | true =>
      rw [hg] at hgiv;have hso := H5 hg;have hlen : l.length ≤ 40 ∧ ∀ o,o ∈ l → o.ws.length ≤ 6 := by
        unfold FZ at hf;simp only [aM,decide_eq_true_eq,aT] at hf;exact ⟨hf.2,fun o h => hf.1 o h⟩
      have hol := O7 l;have hll := hso.ll;have hsl := hso.sl;have hbl0 := gX sure
      (repeat' (first|refine wS ?_|refine wB ?_|refine wK ?_|refine wU ?_|(refine rg 0 (aV ?_))|(refine rg 1 (vV (kC (E5)) (aV ?_)))|(refine rg 2 (mW rfl (vV (kC (hfew)) (vV (eI rfl) (mW rfl (yN rfl (yN rfl (yV (kC (hgiv)) (yV (eI rfl) (pV ?_))))))))))|(refine rg 4 (cQ [] rfl rfl LC rfl rfl (by decide) trivial (by simp) rfl ?_);refine aV ?_)|(refine rg 5 (mW rfl (vV (by exact EG SJ rfl rfl rfl) ?_)))|(refine rg 7 (cY (by exact cF T rfl rfl (by decide) (by decide) rfl rfl rfl) rfl ?_);refine mW rfl (hY T rfl rfl rfl rfl rfl rfl (by decide) (.row (lB sure)) (ES sure) (by simp;omega) (by simp;omega) rfl ?_);refine aV ?_)|(refine rg 8 (aV ?_))|refine nZ ?_));all_goals try (exfalso;omega)
      refine xU 0 0 4 rfl rfl (by decide) ?_
      refine iT (X := {x : Nat × Bk × Nat × List Nat × Hp × List Bo // x.1 ≤ l.length ∧ B6 ls x.2.2.2.2.2 x.2.1 ∧ NV x.2.1 ∧ x.2.1.length ≤ x.1 ∧ uL x.2.2.2.2.1 x.2.2.1 x.2.1 x.2.2.2.1 ∧ K0 x.2.2.2.2.1 x.2.2.2.1 2 x.2.2.2.2.2 ∧ pM ls x.2.2.2.2.2 ∧ x.2.2.2.2.2.length = sure.length}) (fun x => [(0, .rowE (jF ls) 3), (2, .rowE (K6 l) 6), (7, .b true), (8, .ptr x.1.2.2.1 0), (9, .sl 2 0 sure.length 3), (10, .i (x.1.1 : Int))]) (fun x => x.1.2.2.2.2.1) (fun x => l.length - x.1.1)
        ⟨(0,[],0,[0,3],[.cells [.sl 3 0 0 4],.gone,.arr (eR sure) 3,.arr [] 4],sure),bM _,B6.nil fun b hb => (hso.cn b hb).1,fun o ho => (nomatch ho),aQ _,⟨3,[],⟨rfl,rfl,fun e he => (nomatch he),by show ([0,3] : List Nat).Nodup;decide⟩,rfl,rfl⟩,⟨rfl,by show 2 ∉ ([0,3] : List Nat);decide⟩,hso,rfl⟩ (mC.of rfl ⟨rfl,rfl,rfl,rfl,by rw [show sure.length = 0 + (eR sure).length by rw [hbl0,Nat.zero_add]];rfl,rfl,trivial⟩) ?_
      rintro ⟨⟨i,bk,pb,A,X,left⟩,g1,g2,g3,g4,g5,g6,g7,g8⟩;dsimp only at g1 g2 g3 g4 g5 g6 g7 g8 ⊢;by_cases hlt : i < l.length
      · have hgo := KS hlt;have hmem := aI hlt;have c2 := XM g5 g2.ok g3 (by omega) ls left g7 l[i] (by have := hlen.2 _ hmem;omega) (.sl 2 0 sure.length 3) (.inr ⟨2,by rw [g8],g6.at_⟩)
        obtain ⟨hin,hcov⟩ := g2.step l[i] (by have := g7.sl;omega)
        have hok := hcov.ok;have hkn := TR (ls := ls) (sure := left) (o := l[i]) g3 (hI _ hmem);have hle := QH (ls := ls) (sure := left) (bk := bk) (o := l[i]);have hsu := g7.step hin hcov;have hl2 := HP left l[i] (BU ls left bk l[i]).1.2;have hlf : ∀ e : Int,¬ (l[i].d = 2 ∧ e = 0) → vB left l[i] e = left := fun e h => if_neg h
        have hlg : ∀ e : Int,l[i].d = 2 ∧ e = 0 → vB left l[i] e = qM left l[i].b l[i].n := fun e h => if_pos h
        generalize l[i] = o at *;generalize (BU ls left bk o).1.1 = n at *;generalize (BU ls left bk o).1.2 = e at *;generalize (BU ls left bk o).2 = bk' at *;have hlf := hlf e;have hlg := hlg e;generalize vB left o e = left2 at *
        (repeat' (first|refine wS ?_|refine wB ?_|refine wK ?_|refine wU ?_|(refine wC rfl ?_ ?_<;>(intro hb;(try simp only [nm] at hb);try (exfalso;omega)))|(refine rg 9 (fF rfl (qW T rfl (vV (bA rfl rfl) ?_))))|(refine rg 11 (fF rfl (mW rfl (vV (ix T rfl (by omega) (qK _) hgo) (lW T rfl (fF rfl (eH rfl rfl c2 rfl ?_))))));rintro _ X2 ⟨pb2,A2,rfl,k5,k6⟩;dsimp only [fC];refine mW rfl (xW rfl (xW rfl (xW rfl (OE rfl (aV ?_))))))|(refine rg 12 (mW rfl (vV (by exact EG SJ rfl rfl rfl) ?_)))|(refine rg 14 (mW rfl (aV ?_)))|refine nZ ?_));all_goals try (exfalso;omega)
        have hL2 := g6.fr k6;have hL2l := (aA.1 hL2.at_).1;have hslb := gX left;obtain ⟨d,no,b,nn,tt,ws⟩ := o;change _ = some [AV.i d,AV.i no,AV.i b,AV.i nn,AV.i tt,AV.rowE (bZ ws) 3] at hgo;dsimp only at hin hlf hlg;apply Go.Ab.cutT
        · intro rest;by_cases hser : d = 2 ∧ e = 0
          · have hin2 := hin hser.1 hser.2;obtain ⟨⟨i0,i1⟩,i2,i3⟩ := hin2;have hlg2 := hlg hser;have hcn := (g7.cn b i0).2;have hbo := xS (bs := left) i0 i1;have hds := GA (bs := left) (j := b) (n := nn);obtain ⟨rfl,rfl⟩ := hser;have hat := hL2.at_
            (repeat' (first|refine wS ?_|refine wK ?_|refine wT ?_|(refine wC rfl ?_ ?_<;>(intro hb;(try simp only [nm] at hb);try (exfalso;omega)))|(refine rg 15 (fF rfl (vV (ix T rfl (by omega) (qK _) hgo) (fW T rfl (vV (bC T rfl rfl rfl rfl) (vV (FU rfl rfl (by omega)) (mW rfl (yN rfl (yV (FU rfl rfl (by omega)) (pV ?_))))))))))|(refine rg 16 (fF rfl (vV (ix T rfl (by omega) (qK _) hgo) (fW T rfl (vV (bC T rfl rfl rfl rfl) (vV (bA rfl rfl) (mV ?_))))));refine bL rfl rfl ?_ ?_<;>(intro hb;rw [hb];(try simp only [nm] at hb);try (exfalso;omega));(all_goals (refine yN rfl (yN rfl (yV (ix T rfl (by omega) (qK _) hgo) (yP T rfl (yV (bC T rfl rfl rfl rfl) (yN rfl (gT (qW T rfl (yV (eV rfl rfl) (pV ?_))))))))))))|(refine uC (id := 18) 23 204 [[],[],[],[1,2],[1,2,3],rM 1 4,[],[],[],[7,8],[7,8,9],rM 7 4,rM 6 6,rM 6 7,rM 6 8,[],[],[15,16],[15,16,17],rM 15 4,rM 6 14,rN 21,rN 22,rN 23] [[],[],[],[1,2],[1,2,3],rM 1 4,[],[],[],[7,8],[7,8,9],rM 7 4,rM 6 6,rM 6 7,rM 6 8,[],[],[15,16],[15,16,17],rM 15 4,rM 6 14,rN 21,rN 22] (rM 87 23) [[],[87],[87,88],[87],[87],[87],rM 87 6,rM 87 7,rM 87 8,rM 87 7,rM 87 7,rM 87 7,rM 87 6,rM 87 6,rM 87 6,rM 87 15,rM 87 16,rM 87 15,rM 87 15,rM 87 15,rM 87 6,[],[]] fK rfl (by decide +kernel) (by decide +kernel) ?_;(dsimp only [List.take,List.drop]);refine dN rfl (dN rfl (dN rfl (dV rfl (ix T rfl (by omega) (qK _) hgo) (dP T rfl (dO T rfl (dN rfl (dN rfl (dN rfl (dV rfl (ix T rfl (by omega) (qK _) hgo) ?_)))))))));refine dP T rfl (dO T rfl (dV rfl (by exact cI T rfl rfl rfl rfl rfl (by omega) (by omega)) ?_));refine dP T rfl (dV rfl (by exact bC T rfl rfl (eF (bS hat) hbo) rfl) ?_);refine dN rfl (dN rfl (dV rfl (ix T rfl (by omega) (qK _) hgo) (dP T rfl (dO T rfl (dV rfl (gN rfl rfl (by omega) (by omega)) (dV rfl (by exact cI T rfl rfl rfl rfl rfl (by omega) (by omega)) ?_))))));refine dP T rfl (dE ?_);refine oY ?_;refine bE T rfl rfl rfl rfl rfl rfl (by decide) (oZ (bS hat) hbo rfl rfl) ?_)|refine nZ ?_));all_goals try (exfalso;omega)
            all_goals exact jJ [(0,.rowE (jF ls) 3),(2,.rowE (K6 l) 6),(7,.b true),(8,.ptr pb2 0),(9,.sl 2 0 sure.length 3),(10,.i (i : Int))] (X2.set 2 (.arr (eR left2) 3)) (mC.of (by first | (rw [hlg2,← hds];done) | (rw [hlg2,← hds,List.append_nil])) (by repeat first|exact trivial|refine ⟨rfl,?_⟩)) rest.get
          · have e2 := hlf hser
            (repeat' (first|refine wS ?_|refine wK ?_|refine wU ?_|(refine wC rfl ?_ ?_<;>(intro hb;(try simp only [nm] at hb);try (exfalso;omega)))|(refine rg 15 (fF rfl (vV (ix T rfl (by omega) (qK _) hgo) (jH T rfl (vV (cT rfl rfl) (mV ?_)))));refine bL rfl rfl ?_ ?_<;>(intro hb;rw [hb];(try simp only [nm] at hb);try (exfalso;omega));(all_goals first|(refine gT (mW rfl (gT (vV (cT rfl rfl) ?_))))|(iterate 2 refine gF ?_));(all_goals (refine pV ?_)))|refine nZ ?_));all_goals try (exfalso;omega)
            all_goals exact jJ [(0,.rowE (jF ls) 3),(2,.rowE (K6 l) 6),(7,.b true),(8,.ptr pb2 0),(9,.sl 2 0 sure.length 3),(10,.i (i : Int))] (X2.set 2 (.arr (eR left2) 3)) (mC.of (by rw [e2];exact (D0 hL2.at_).symm) (by repeat first|exact trivial|refine ⟨rfl,?_⟩)) rest.get
        have hL3 : K0 (X2.set 2 (.arr (eR left2) 3)) A2 2 left2 := ⟨gA hL2l,hL2.nA⟩;have hB3 : uL (X2.set 2 (.arr (eR left2) 3)) pb2 bk' A2 := k5.frame fun k hk => eK fun e => hL2.nA (e ▸ hk);generalize X2.set 2 (AB.arr (eR left2) 3) = Y at *;have hv := hB3.view;have hz := hok.sz;have hslc := hsu.sl;have hsl2 := gX left2;have hrs := fun (k : Int) => F5 bk' k (by have := hok.le;omega) hz.tk hz.sum.bk
        have hbr := MT ls left2 bk' (by have := hok.le;omega) hz.tk hz.sum (fun o ho => (hok.od o ho).tkws) hsu.ll (by omega) (fun i hi => (hsu.lot i hi).2)
        rw [hcov.whole] at hbr;have hat3 := hL3.at_;have vleft := rJ (n := sure.length) hat3 (by omega) (V6 _)
        (repeat' (first|refine wB ?_|(refine rg 19 (aV ?_))|refine nZ ?_));refine iT (X := {k : Nat // k ≤ sure.length}) (fun k => [(0,.rowE (jF ls) 3),(2,.rowE (K6 l) 6),(7,.b true),(8,.ptr pb2 0),(9,.sl 2 0 sure.length 3),(10,.i (i : Int)),(14,.i (k.1 : Int))]) (fun _ => Y) (fun k => sure.length - k.1) ⟨0,bM _⟩ (mC.of rfl (by repeat first|exact trivial|refine ⟨rfl,?_⟩)) ?_
        rintro ⟨k,hk⟩;dsimp only;by_cases hkl : k < sure.length
        · have hr1 := hrs k;have hcv := hcov.cv (k : Int) (by omega)
          have hnn := T5 hok (k : Int);have hbo := QK (l := left2) (k := k) (by omega)
          generalize (left2.getD k (0,0,0)).1 = x1 at *;generalize (left2.getD k (0,0,0)).2.2 = x3 at *;generalize cnt left2 (k : Int) = c at *;generalize lU bk' (k : Int) = r at *
          (repeat' (first|refine wS ?_|refine wB ?_|refine wK ?_|(refine wC rfl ?_ ?_<;>(intro hb;(try simp only [nm] at hb);try (exfalso;omega)))|(refine rg 20 (fF rfl (qW T rfl (vV (bA rfl rfl) ?_))))|(refine eZ (id := 22) 204 [[],[],[0,1],[],[],[3,4],[3,4,5],rM 3 4,rN 8,rN 9,rN 10,rN 10,rN 12,rN 13,rN 14] (rM 116 15) [[],[116],[],[116,117,118],rM 116 4,[116,117,118],[116,117,118],[116,117,118],[],[],[],[126],[],[],[]] fK rfl (by decide +kernel) (dN rfl (dN rfl (dV rfl (by exact iB rfl rfl hr1 (.cons (Go.Or.View.more hv _) (.cons (.v _) .nil)) rfl rfl) ?_)));refine dN rfl (dN rfl (dV rfl (by exact cI T rfl rfl rfl rfl rfl (by omega) (by omega)) ?_));refine dP T rfl (dV rfl (by exact bC T rfl rfl (eF (bS hat3) hbo) rfl) ?_);refine dV rfl (jX rfl rfl (by omega)) (dN rfl (tN rfl (tN rfl (dT rfl (by exact iB rfl rfl hr1 (.cons (Go.Or.View.more hv _) (.cons (.v _) .nil)) rfl rfl) ?_))));refine dT rfl (bA rfl rfl) (dV rfl (lZ rfl rfl) (dE ?_)))|(refine iA 21 rfl rfl rfl (by omega) (by omega) ?_)|refine nZ ?_));all_goals try (exfalso;omega)
          all_goals exact ⟨⟨k + 1,hkl⟩,by dsimp only;omega,mC.of (by first | rfl | exact List.append_nil _) (by repeat first|exact trivial|refine ⟨rfl,?_⟩)⟩
        · (repeat' (first|refine wS ?_|refine wK ?_|refine wE ?_|refine jY rfl ?_|(refine rg 20 (fF rfl (qW T rfl (vV (mZ rfl rfl (by omega)) ?_))))|(refine rg 24 (fF rfl (mW rfl (vV (by exact nW rfl rfl hbr (.cons hv (.cons (.row _ _ _) (.cons vleft .nil))) rfl (RD _) (MF _)) ?_)));refine qW T rfl (vV (jX rfl rfl (by decide)) ?_))|(refine iA 10 rfl rfl rfl (by omega) (by omega) ?_)|(refine nZ ?_)));all_goals first | (exfalso;omega) | exact ⟨⟨(i + 1,bk',pb2,A2,Y,left2),by dsimp only;omega,hcov,hkn,by dsimp only;omega,hB3,hL3,hsu,by dsimp only;omega⟩,by dsimp only;omega,mC.of rfl (by repeat first|exact trivial|refine ⟨rfl,?_⟩)⟩
      · (repeat' (first|refine wS ?_|refine wB ?_|refine wE ?_|(refine wC rfl (fun hb => ?_) (fun hb => ?_) <;> (((try simp only [nm] at hb);try (exfalso;omega))))|(refine rg 9 (fF rfl (qW T rfl (vV (bA rfl rfl) ?_))))|(refine rg 26 (aV ?_))|(refine nZ ?_)));all_goals try (exfalso;omega)
        have hkok := g2.ok;refine iT (X := {x : Nat × Bk × List Nat × Hp // x.1 ≤ bk.length ∧ nF x.2.1 ∧ x.2.1.length = bk.length ∧ uL x.2.2.2 pb x.2.1 x.2.2.1}) (fun x => [(7, .b true), (8, .ptr pb 0), (15, .i (x.1.1 : Int))]) (fun x => x.1.2.2.2) (fun x => bk.length - x.1.1)
          ⟨(0,bk,A,X),bM _,hkok,rfl,g5⟩ (mC.of rfl (by repeat first|exact trivial|refine ⟨rfl,?_⟩)) ?_
        rintro ⟨⟨no,GC,A1,Y⟩,y1,y2,y3,y4⟩;dsimp only at y1 y2 y3 y4 ⊢;have cl1 := VN GC;have yv := y4.view;by_cases hno : no < bk.length
        · have hz1 := y2.sz;have hm1 : GC.getD no fY ∈ GC := by rw [aD,aB (by omega : no < GC.length)];exact aI (by omega : no < GC.length)
          have hod := y2.od _ hm1;have cg1 := LZ GC no (by omega) fun o ho => by have := hz1.ws o ho;omega
          have ct1 := JN GC no (by omega) hz1.tk
          rw [EE,if_neg (by omega),bK] at cg1
          rw [if_neg (by omega),bK] at ct1
          have hs0 := wI.start hod;have hne := hod.ne;obtain ⟨o0,ho0⟩ : ∃ o0,GC.getD no fY = o0 := ⟨_,rfl⟩;rw [ho0] at cg1 ct1 hs0 hod hne hm1;obtain ⟨ws,due,st,tk⟩ := o0;have htkb := hz1.tk _ hm1;dsimp only at cg1 ct1 htkb hne;have htl := nK tk
          (repeat' (first|refine wS ?_|refine wB ?_|refine wK ?_|refine wT ?_|(refine rg 27 (fF rfl (vV (by exact iB rfl rfl cl1 (.cons yv .nil) rfl rfl) ?_));refine vV (mY rfl rfl (by omega)) ?_)|(refine rg 29 (fF rfl (vV (by exact zN rfl rfl cg1 (.cons yv (.cons (.v _) .nil))) ?_));refine mW rfl (xW rfl (xW rfl (cY (cS T rfl) rfl (bE T rfl rfl rfl rfl rfl rfl (by decide) (nH cP rfl rfl) (aV ?_))))))|refine nZ ?_));all_goals try (exfalso;omega)
          refine jJ [(7,.b true),(8,.ptr pb 0),(15,.i (no : Int)),(16,.ptr Y.length 0),(17,.b true)] (Y ++ [.cells [.rowE (bZ ws) 3,.i due,.i st]]) (mC.of mS (by repeat first|exact trivial|refine ⟨rfl,?_⟩)) ?_
          refine gP 16 (cs := [.rowE (bZ ws) 3,.i due,.i st]) rfl cP rfl ?_;rw [iL];have y5 := y4.app [.gone];generalize Y ++ [AB.gone] = Y1 at *;have yv1 := y5.view;by_cases hst : st = 1
          · subst hst;have hsv := hs0 rfl
            (repeat' (first|refine wS ?_|refine wB ?_|refine wK ?_|refine wU ?_|(refine rg 30 (mW rfl (vV (eI rfl) ?_)))|(refine rg 32 (jH T rfl (vV (U7 rfl rfl (by omega)) ?_)))|(refine rg 33 (fF rfl (vV (by exact zN rfl rfl ct1 (.cons yv1 (.cons (.v _) .nil))) ?_));refine aV ?_)|(refine rg 34 (aV ?_))|refine nZ ?_));all_goals try (exfalso;omega)
            refine iT (X := {x : Nat × Bk × List Nat × Hp // x.1 ≤ tk.length ∧ nF x.2.1 ∧ x.2.1.length = bk.length ∧ uL x.2.2.2 pb x.2.1 x.2.2.1 ∧ wI ⟨ws, due, 1, tk⟩ (tk.take x.1).flatten.length (x.2.1.getD no fY)}) (fun x => [(7, .b true), (8, .ptr pb 0), (15, .i (no : Int)), (16, .pr [.rowE (bZ ws) 3, .i due, .i 1] 0), (18, pS tk), (19, .i (x.1.1 : Int))]) (fun x => x.1.2.2.2) (fun x => tk.length - x.1.1)
              ⟨(0,GC,A1,Y1),bM _,y2,y3,y5,by rw [ho0];exact hsv⟩ (mC.of rfl (by repeat first|exact trivial|refine ⟨rfl,?_⟩)) ?_
            rintro ⟨⟨j,OD,A2,Z⟩,z1,z2,z3,z4,z5⟩;dsimp only at z1 z2 z3 z4 z5 ⊢;by_cases hj : j < tk.length
            · have hgj := C7 hj;have hft := rA hj;have hfa := fun {k : Nat} (h : k < tk[j].length) => FV hj h;have hlb := htkb.2 _ (aI hj);generalize tk[j] = lj at *;have hljl := oR lj
              (repeat' (first|refine wS ?_|refine wB ?_|refine wK ?_|refine wT ?_|(refine rg 35 (fF rfl (qW T rfl (vV (mY rfl rfl (by omega)) ?_))))|(refine rg 37 (aV ?_))|refine nZ ?_));all_goals try (exfalso;omega)
              refine iT (X := {x : Nat × Bk × List Nat × Hp // x.1 ≤ lj.length ∧ nF x.2.1 ∧ x.2.1.length = bk.length ∧ uL x.2.2.2 pb x.2.1 x.2.2.1 ∧ wI ⟨ws, due, 1, tk⟩ ((tk.take j).flatten.length + x.1) (x.2.1.getD no fY)}) (fun x => [(7, .b true), (8, .ptr pb 0), (15, .i (no : Int)), (16, .pr [.rowE (bZ ws) 3, .i due, .i 1] 0), (18, pS tk), (19, .i (j : Int)), (20, .i (x.1.1 : Int))]) (fun x => x.1.2.2.2) (fun x => lj.length - x.1.1)
                ⟨(0,OD,A2,Z),bM _,z2,z3,z4,z5⟩ (mC.of rfl (by repeat first|exact trivial|refine ⟨rfl,?_⟩)) ?_
              rintro ⟨⟨k,UB,A3,V⟩,v1,v2,v3,v4,v5⟩;dsimp only at v1 v2 v3 v4 v5 ⊢;by_cases hk : k < lj.length
              · obtain ⟨hm,he⟩ := hfa hk;obtain ⟨WR,s1,s2,s3⟩ := DG v2 (by omega) v5 hm
                dsimp only at s1;rw [he] at s1;have sp := T1 v4 v2.sz no lj[k].1 lj[k].2 due;have hok4 := M9 (no := (no : Int)) (body := lj[k].1) (n := lj[k].2) (tick := due) v2;rw [s1] at sp hok4;rw [← List.append_nil V] at sp;have hgk := S6 hk;generalize lj[k] = t at *
                (repeat' (first|refine wS ?_|refine wB ?_|refine wK ?_|refine wT ?_|refine wU ?_|(refine rg 38 (fF rfl (mW rfl (vV (ix T rfl (by omega) (oL _) hgj) (lW T rfl (qW T rfl (vV (mY rfl rfl (by omega)) ?_)))))))|(refine uC (id := 40) 20 204 [[],[],[],[],[2,3],[2,3,4],[],rM 2 5,rM 2 6,rM 2 7,[],[],[10,11],[10,11,12],[],rM 10 5,rM 10 6,rM 10 7,[],[18],rN 20,rN 21] [[],[],[],[],[2,3],[2,3,4],[],rM 2 5,rM 2 6,rM 2 7,[],[],[10,11],[10,11,12],[],rM 10 5,rM 10 6,rM 10 7,[],[18]] (rM 172 20) [[],[172],[172,173],[172,173,174],[172,173],[172,173],rM 172 6,[172,173],[172,173],[172,173],rM 172 10,rM 172 11,rM 172 10,rM 172 10,rM 172 14,rM 172 10,rM 172 10,rM 172 10,rM 172 18,rM 172 18] fK rfl (by decide +kernel) (by decide +kernel) ?_;(dsimp only [List.take,List.drop]);refine dN rfl (dN rfl (dN rfl (dN rfl (dV rfl (ix T rfl (by omega) (oL _) hgj) (dO T rfl (dN rfl (dV rfl (ix T rfl (by omega) (vJ _) hgk) (dP T rfl (dL T ?_)))))))));refine dN rfl (dN rfl (dV rfl (ix T rfl (by omega) (oL _) hgj) (dO T rfl (dN rfl (dV rfl (ix T rfl (by omega) (vJ _) hgk) (dP T rfl (dO T rfl (dP T rfl (dL T ?_)))))))));refine dE ?_;refine oY ?_;refine eH rfl rfl sp rfl ?_;rintro _ V2 ⟨rfl,A4,q1,q2⟩;dsimp only [fC];refine vV (U7 rfl rfl rfl) ?_)|(refine iA 39 rfl rfl rfl (by omega) (by omega) ?_)|refine nZ ?_));all_goals try (exfalso;omega)
                all_goals exact ⟨⟨(k + 1,WR,A4,V2),hk,hok4,by dsimp only;omega,q1,s3⟩,by dsimp only;omega,mC.of rfl (by repeat first|exact trivial|refine ⟨rfl,?_⟩)⟩
              · (repeat' (first|refine wS ?_|refine wE ?_|refine jY rfl ?_|(refine rg 38 (fF rfl (mW rfl (vV (ix T rfl (by omega) (oL _) hgj) (lW T rfl (qW T rfl (vV (mZ rfl rfl (by omega)) ?_)))))))|(refine iA 36 rfl rfl rfl (by omega) (by omega) ?_)|(refine nZ ?_)));all_goals try (exfalso;omega)
                all_goals exact ⟨⟨(j + 1,UB,A3,V),hj,v2,v3,v4,by rw [hft,show lj.length = k by omega];exact v5⟩,by dsimp only;omega,mC.of rfl (by repeat first|exact trivial|refine ⟨rfl,?_⟩)⟩
            · have hfin := z5.none (by rw [aX (by omega)];exact aQ _)
              have zv := z4.view;have cg2 := LZ OD no (by omega) fun o ho => by have := z2.sz.ws o ho;omega
              rw [EE,if_neg (by omega),bK] at cg2
              generalize OD.getD no fY = o2 at *;obtain ⟨ws2,due2,st2,tk2⟩ := o2;dsimp only at hfin cg2;subst hfin
              (repeat' (first|refine wS ?_|refine wE ?_|refine wU ?_|(refine rg 35 (fF rfl (qW T rfl (vV (mZ rfl rfl (by omega)) ?_))))|(refine rg 42 (fF rfl (vV (by exact zN rfl rfl cg2 (.cons zv (.cons (.v _) .nil))) ?_));refine mW rfl (xW rfl (xW rfl (cY (cS T rfl) rfl (bE T rfl rfl rfl rfl rfl rfl (by decide) (nH cP rfl rfl) (aV ?_))))))|refine nZ ?_));all_goals try (exfalso;omega)
              refine jJ [(7,.b true),(8,.ptr pb 0),(15,.i (no : Int)),(21,.ptr Z.length 0)] (Z ++ [.cells [.rowE (bZ ws2) 3,.i due2,.i 2]]) (mC.of mS (by repeat first|exact trivial|refine ⟨rfl,?_⟩)) ?_
              refine gP 21 (cs := [.rowE (bZ ws2) 3,.i due2,.i 2]) rfl cP rfl ?_;rw [iL]
              (repeat' (first|refine wK ?_|refine wU ?_|(refine rg 43 (jH T rfl (vV (U7 rfl rfl rfl) ?_)))|(refine iA 28 rfl rfl rfl (by omega) (by omega) ?_)|refine nZ ?_));all_goals try (exfalso;omega)
              all_goals exact ⟨⟨(no + 1,OD,A2,Z ++ [.gone]),hno,z2,z3,z4.app _⟩,by dsimp only;omega,mC.of rfl (by repeat first|exact trivial|refine ⟨rfl,?_⟩)⟩
          · (repeat' (first|refine wS ?_|refine wK ?_|refine wE ?_|refine I8 rfl ?_|refine jY rfl ?_|(refine rg 30 (mW rfl (vV (eI rfl) ?_)))|(refine rg 32 (jH T rfl (vV (U6 rfl rfl (by omega)) ?_)))|(refine iA 28 rfl rfl rfl (by omega) (by omega) ?_)|(refine nZ ?_)));all_goals try (exfalso;omega)
            all_goals exact ⟨⟨(no + 1,GC,A1,Y1),hno,y2,y3,y5⟩,by dsimp only;omega,mC.of rfl (by repeat first|exact trivial|refine ⟨rfl,?_⟩)⟩
        · (repeat' (first|refine wS ?_|refine wR ?_|refine wE ?_|refine jY rfl ?_|(refine rg 27 (fF rfl (vV (by exact iB rfl rfl cl1 (.cons yv .nil) rfl rfl) ?_));refine vV (mZ rfl rfl (by omega)) ?_)|(refine rg 45 (mW rfl (aV ?_)))|(refine nZ ?_)));all_goals first | (exfalso;omega) | exact ⟨.inl rfl,_,rfl,rfl⟩
end Go.Proofs.YtdiogjgohbbllaaGreatDoor
namespace Go.Proofs.YtdiogjgohbbllaaGreatDoor
open Go Go.Ab Go.Or Go.Wr Go.ChangeShapes Go.WideShapes Go.ChangeAt Go.RowKit
def D4 (n : Int) : Prop := (Lit.int .i64 n).wf = true
theorem PI {n : Int} (h : D4 n) : sY n := by
  have e1 : IntKind.i64.min = -9223372036854775808 := rfl;have e2 : IntKind.i64.max = 9223372036854775807 := rfl;simp only [D4,Lit.wf,aM,decide_eq_true_eq,e1,e2] at h;exact h
theorem xI {P : Program} {W : World} {name : String} {d : DataW Unit} : ∀ {l : List (String × DataW Unit)} {ps : List MemPlace},DataW.LaidVars P W l ps → (name,d) ∈ l →
    ∃ g t cs fuel p,P.globalNamed name = some g ∧ (P.globals[g]?).map (·.type) = some t ∧ W.var? P name = some cs ∧ DataW.trod (fun _ => ()) P W 0 (fun _ => true) false fuel t cs.toList = some (d,p)
  | [],_,_,h => by cases h
  | (n,d') :: r,ps,h,hm => by
    obtain ⟨g,t,cs,fuel,p,q,h1,h2,h3,h4,h5,_⟩ := h;rcases aR.1 hm with e | hm
    · cases e;exact ⟨g,t,cs,fuel,p,h1,h2,h3,h4⟩
    · exact xI h5 hm
def DQ : List Int := (List.range 20).map fun i => ((10 ^ i : Nat) : Int)
theorem VU : Tryz.prog.globalNamed "internal/strconv.uint64pow10" = some 0 := by kernel_rfl
theorem MB : (Tryz.prog.globals[0]?).map (·.type) = some 186 := by kernel_rfl
theorem WZ : Tryz.prog.underlying 174 = some (.int .u64) := by kernel_rfl
theorem XN : Tryz.prog.underlying 186 = some (.array 20 174) := by kernel_rfl
theorem TV : Tryz.prog.cellsOf 174 = 1 := by kernel_rfl
theorem TY : Tryz.prog.cellsOf 186 = 20 := by kernel_rfl
theorem PA : (Rows.laid_internal_strconv_uint64pow10 : DataW Unit) = Lib.tabData .u64 DQ := by kernel_rfl
theorem XV : Tryz.prog.globalNamed "strconv.ErrSyntax" = some 2 := by kernel_rfl
theorem XW : Tryz.prog.globalNamed "strconv.ErrRange" = some 3 := by kernel_rfl
theorem PZ : (Tryz.prog.globals[2]?).map (·.type) = some 125 := by kernel_rfl
theorem QA : (Tryz.prog.globals[3]?).map (·.type) = some 125 := by kernel_rfl
theorem RA : "*" ++ "errors.errorString" = "*errors.errorString" := by decide
theorem rowE (u : TypeId) (h : Tryz.prog.typeName? 3 u = some "*errors.errorString") : u = 199 :=
  typeName_ptr_named (nm := "errors.errorString") (by rw [RA]; kernel_rfl) (by kernel_rfl) (by decide) u (by rw [RA]; exact h)
theorem XI : Tryz.prog.underlying 125 = some (.interface #[("Error", 73)]) := by kernel_rfl
theorem XD : Tryz.prog.underlying 199 = some (.pointer 201) := by kernel_rfl
theorem TX : Tryz.prog.cellsOf 201 = 1 := by kernel_rfl
theorem TW : Tryz.prog.cellsOf 9 = 1 := by kernel_rfl
theorem RN {n : String} {text : List UInt8} {r : List (String × DataW Unit)} {W : World} {g : Nat} (h : laidMet Tryz.prog ((n, .iface "*errors.errorString" (.ptr (.agg [.lit (.string text)]))) :: r) W)
    (hg : Tryz.prog.globalNamed n = some g) (ht : (Tryz.prog.globals[g]?).map (·.type) = some 125) : ∃ p,W.var? Tryz.prog n = some #[.iface 199 p] := by
  obtain ⟨a,s,hv,_⟩ := laid_sentinel h hg ht XI rowE XD Tryz.underlying201 rfl rfl Tryz.underlying9 TX TW;exact ⟨_,hv⟩
theorem A9 {W : World} {n : String} {g : Nat} {p : Value} (hg : Tryz.prog.globalNamed n = some g) (hv : W.var? Tryz.prog n = some #[.iface 199 p]) :
    g < W.heap.size ∧ ∃ ys t fz,W.heap[g]? = some (.cells ys t fz) ∧ RL (fun b => b < W.heap.size) W [AV.ifc 199 .any] (fun _ => none) ys.toList := by
  unfold World.var? at hv;rw [hg] at hv;simp only [Option.bind_some] at hv;split at hv
  · rename_i c ty fz hh;cases hv;refine ⟨(aK.1 hh).1,_,ty,fz,hh,?_⟩;simp only [RL,R];exact ⟨_,_,rfl,⟨p,rfl,trivial⟩,rfl⟩
  · cases hv
theorem HV {W : World} {l : List (String × DataW Unit)} {a b : String × DataW Unit} (hl : l = [a, b, ("internal/strconv.uint64pow10", (Rows.laid_internal_strconv_uint64pow10 : DataW Unit)), ("strconv.ErrRange", (Rows.laid_strconv_ErrRange : DataW Unit)), ("strconv.ErrSyntax", (Rows.laid_strconv_ErrSyntax : DataW Unit))]) (h0 : laidMet Tryz.prog l W) : kH (fun b => b < W.heap.size) W := by
  subst hl;obtain ⟨pr, hr⟩ := RN (n := "strconv.ErrRange") h0.tail.tail.tail XW QA
  obtain ⟨pe, he⟩ := RN (n := "strconv.ErrSyntax") h0.tail.tail.tail.tail XV PZ
  obtain ⟨ps,hv,_⟩ := h0;obtain ⟨g,t,cs,fuel,p,h1,h2,h3,h4⟩ := xI hv (.tail _ (.tail _ (.head _)));obtain rfl := Option.some.inj (VU.symm.trans h1);obtain rfl := Option.some.inj (MB.symm.trans h2);rw [PA] at h4;have e := Lib.cells_of_tab XN WZ TV TY h4;unfold World.var? at h3;rw [VU] at h3;simp only [Option.bind_some] at h3;intro g cs' hg;have hg' : (g = 0 ∧ cs' = (DQ.map fun z => Value.int .u64 z).map .v) ∨ (g = 2 ∧ cs' = [AV.ifc 199 .any]) ∨ (g = 3 ∧ cs' = [AV.ifc 199 .any]) := by
    simp only [qB,aR,cG,or_false,Prod.mk.injEq] at hg;rcases hg with hg | hg | hg
    · refine .inl ⟨hg.1,hg.2.trans ?_⟩;simp [DQ,mP,Function.comp_def]
    · exact .inr (.inl hg)
    · exact .inr (.inr hg)
  rcases hg' with ⟨rfl,rfl⟩ | ⟨rfl,rfl⟩ | ⟨rfl,rfl⟩
  · split at h3
    · rename_i c ty fz hh;cases h3;refine ⟨(aK.1 hh).1,cs,ty,fz,hh,?_⟩;rw [e];exact R6 _
    · cases h3
  · exact A9 XV he
  · exact A9 XW hr
noncomputable def low (os : Os) : Nat := (World.holding Tryz.prog os ⟨#[],#[],[]⟩).heap.size
noncomputable def zH (os : Os) : World :=
  { World.holding Tryz.prog os ⟨#[.cells #[.string ⟨#[118, 97, 108, 117, 101, 32, 111, 117, 116, 32, 111, 102, 32, 114, 97, 110, 103, 101]⟩] 201, .cells #[.string ⟨#[105, 110, 118, 97, 108, 105, 100, 32, 115, 121, 110, 116, 97, 120]⟩] 201], #[], []⟩ with heap := ((((((World.holding Tryz.prog os ⟨#[.cells #[.string ⟨#[118, 97, 108, 117, 101, 32, 111, 117, 116, 32, 111, 102, 32, 114, 97, 110, 103, 101]⟩] 201, .cells #[.string ⟨#[105, 110, 118, 97, 108, 105, 100, 32, 115, 121, 110, 116, 97, 120]⟩] 201], #[], []⟩).heap.modify 0 fun
      | .cells _ t frozen => .cells #[.int .u64 1,.int .u64 10,.int .u64 100,.int .u64 1000,.int .u64 10000,.int .u64 100000,.int .u64 1000000,.int .u64 10000000,.int .u64 100000000,.int .u64 1000000000,.int .u64 10000000000,.int .u64 100000000000,.int .u64 1000000000000,.int .u64 10000000000000,.int .u64 100000000000000,.int .u64 1000000000000000,.int .u64 10000000000000000,.int .u64 100000000000000000,.int .u64 1000000000000000000,.int .u64 10000000000000000000] t frozen
      | o => o).modify 4 fun
      | .cells _ t frozen => .cells #[.int .u8 0,.int .u8 1,.int .u8 28,.int .u8 2,.int .u8 29,.int .u8 14,.int .u8 24,.int .u8 3,.int .u8 30,.int .u8 22,.int .u8 20,.int .u8 15,.int .u8 25,.int .u8 17,.int .u8 4,.int .u8 8,.int .u8 31,.int .u8 27,.int .u8 13,.int .u8 23,.int .u8 21,.int .u8 19,.int .u8 16,.int .u8 7,.int .u8 26,.int .u8 12,.int .u8 18,.int .u8 6,.int .u8 11,.int .u8 5,.int .u8 10,.int .u8 9] t frozen
      | o => o).modify 5 fun
      | .cells _ t frozen => .cells #[.int .u8 0,.int .u8 1,.int .u8 56,.int .u8 2,.int .u8 57,.int .u8 49,.int .u8 28,.int .u8 3,.int .u8 61,.int .u8 58,.int .u8 42,.int .u8 50,.int .u8 38,.int .u8 29,.int .u8 17,.int .u8 4,.int .u8 62,.int .u8 47,.int .u8 59,.int .u8 36,.int .u8 45,.int .u8 43,.int .u8 51,.int .u8 22,.int .u8 53,.int .u8 39,.int .u8 33,.int .u8 30,.int .u8 24,.int .u8 18,.int .u8 12,.int .u8 5,.int .u8 63,.int .u8 55,.int .u8 48,.int .u8 27,.int .u8 60,.int .u8 41,.int .u8 37,.int .u8 16,.int .u8 46,.int .u8 35,.int .u8 44,.int .u8 21,.int .u8 52,.int .u8 32,.int .u8 23,.int .u8 11,.int .u8 54,.int .u8 26,.int .u8 40,.int .u8 15,.int .u8 34,.int .u8 20,.int .u8 31,.int .u8 10,.int .u8 25,.int .u8 14,.int .u8 19,.int .u8 9,.int .u8 13,.int .u8 8,.int .u8 7,.int .u8 6] t frozen
      | o => o).modify 3 fun
      | .cells _ t frozen => .cells #[.iface 199 (.pointer (some ⟨low os,0,none⟩))] t frozen
      | o => o).modify 2 fun
      | .cells _ t frozen => .cells #[.iface 199 (.pointer (some ⟨low os + 1,0,none⟩))] t frozen
      | o => o) }
theorem qU : gS Tryz.prog 3 D4 (fun n => [AV.i n]) := gS.int Tryz.underlying3 (by kernel_rfl)
theorem SS : gS Tryz.prog 4 (fun _ => True) (fun b => [AV.b b]) := gS.bool Tryz.underlying4 (by kernel_rfl)
theorem VG : gS Tryz.prog 84 (fun p : Lo => D4 p.1 ∧ D4 p.2.1) (fun p => [AV.i p.1,AV.i p.2.1,AV.b p.2.2]) :=
  gS.struct (fs := [(3, 0), (3, 1), (4, 2)]) (by kernel_rfl) (by kernel_rfl)
    (fun e W fuel css hl hx => by
      obtain ⟨a,h1,h2,h3⟩ := iE.cons qU (iE.cons qU (iE.cons SS iE.nil)) e W fuel css hl hx
      exact ⟨(a.1,a.2.1,a.2.2.1),⟨h1.1,h1.2.1⟩,by simpa using h2,by simpa using h3⟩)
    (fun _ => by kernel_rfl)
theorem VH : gS Tryz.prog 60 (fun p : Bo => D4 p.1 ∧ D4 p.2.1 ∧ D4 p.2.2) (fun p => [AV.i p.1,AV.i p.2.1,AV.i p.2.2]) :=
  gS.struct (fs := [(3, 0), (3, 1), (3, 2)]) (by kernel_rfl) (by kernel_rfl)
    (fun e W fuel css hl hx => by
      obtain ⟨a,h1,h2,h3⟩ := iE.cons qU (iE.cons qU (iE.cons qU iE.nil)) e W fuel css hl hx
      exact ⟨(a.1,a.2.1,a.2.2.1),⟨h1.1,h1.2.1,h1.2.2.1⟩,by simpa using h2,by simpa using h3⟩)
    (fun _ => by kernel_rfl)
theorem SM : gS Tryz.prog 100 (fun p : Wt => D4 p.1 ∧ D4 p.2.1 ∧ D4 p.2.2) (fun p => [AV.i p.1,AV.i p.2.1,AV.i p.2.2]) :=
  gS.struct (fs := [(3, 0), (3, 1), (3, 2)]) (by kernel_rfl) (by kernel_rfl)
    (fun e W fuel css hl hx => by
      obtain ⟨a,h1,h2,h3⟩ := iE.cons qU (iE.cons qU (iE.cons qU iE.nil)) e W fuel css hl hx
      exact ⟨(a.1,a.2.1,a.2.2.1),⟨h1.1,h1.2.1,h1.2.2.1⟩,by simpa using h2,by simpa using h3⟩)
    (fun _ => by kernel_rfl)
abbrev WL (l : List Lo) : Prop := l.length ≤ maxLen ∧ ∀ a,a ∈ l → D4 a.1 ∧ D4 a.2.1
abbrev WM (l : List Bo) : Prop := l.length ≤ maxLen ∧ ∀ a,a ∈ l → D4 a.1 ∧ D4 a.2.1 ∧ D4 a.2.2
abbrev WK (l : List Wt) : Prop := l.length ≤ maxLen ∧ ∀ a,a ∈ l → D4 a.1 ∧ D4 a.2.1 ∧ D4 a.2.2
theorem SR : gS Tryz.prog 22 WL (fun l => [.rowE (jF l) 3]) :=
  gS.slice Tryz.underlying22 (by kernel_rfl) (by kernel_rfl) (by decide) VG
theorem PG : gS Tryz.prog 23 WM (fun l => [.rowE (eR l) 3]) :=
  gS.slice Tryz.underlying23 (by kernel_rfl) (by kernel_rfl) (by decide) VH
theorem PE : gS Tryz.prog 33 WK (fun l => [.rowE (bZ l) 3]) :=
  gS.slice Tryz.underlying33 (by kernel_rfl) (by kernel_rfl) (by decide) SM
abbrev UM := Int × Int × Int × Int × Int × List Wt
abbrev XY (p : UM) : Prop := D4 p.1 ∧ D4 p.2.1 ∧ D4 p.2.2.1 ∧ D4 p.2.2.2.1 ∧ D4 p.2.2.2.2.1 ∧ WK p.2.2.2.2.2
abbrev UT (p : UM) : List AV := [.i p.1,.i p.2.1,.i p.2.2.1,.i p.2.2.2.1,.i p.2.2.2.2.1,.rowE (bZ p.2.2.2.2.2) 3]
theorem SN : gS Tryz.prog 35 XY UT :=
  gS.struct (fs := [(3, 0), (3, 1), (3, 2), (3, 3), (3, 4), (33, 5)]) (by kernel_rfl) (by kernel_rfl)
    (fun e W fuel css hl hx => by
      obtain ⟨a,h1,h2,h3⟩ := iE.cons qU (iE.cons qU (iE.cons qU (iE.cons qU (iE.cons qU (iE.cons PE iE.nil))))) e W fuel css hl hx
      exact ⟨(a.1,a.2.1,a.2.2.1,a.2.2.2.1,a.2.2.2.2.1,a.2.2.2.2.2.1),⟨h1.1,h1.2.1,h1.2.2.1,h1.2.2.2.1,h1.2.2.2.2.1,h1.2.2.2.2.2.1⟩,by simpa [UT] using h2,by simpa [UT] using h3⟩)
    (fun _ => by kernel_rfl)
abbrev UN (l : List UM) : Prop := l.length ≤ maxLen ∧ ∀ p,p ∈ l → XY p
theorem PF : gS Tryz.prog 24 UN (fun l => [.rowE (l.map UT) 6]) :=
  gS.slice Tryz.underlying24 (by kernel_rfl) (by kernel_rfl) (by decide) SN
abbrev XE (p : UM) : Or.Op := ⟨p.1,p.2.1,p.2.2.1,p.2.2.2.1,p.2.2.2.2.1,p.2.2.2.2.2⟩
theorem SQ (l : List UM) : l.map UT = (l.map XE).map WO := by rw [mP];rfl
theorem SO {l : List UM} (h : UN l) : ∀ o,o ∈ l.map XE → ∀ w,w ∈ o.ws → sY w.1 := by
  intro o ho w hw;obtain ⟨p,hp,rfl⟩ := aJ.1 ho;exact PI ((h.2 p hp).2.2.2.2.2.2 w hw).1
theorem SX {α : Type} {l : List α} (h : l.length ≤ maxLen) : l.length ≤ 9223372036854775807 := h
end Go.Proofs.YtdiogjgohbbllaaGreatDoor
namespace Go.Proofs.YtdiogjgohbbllaaGreatDoor
open Go Go.Ab Go.Or Go.Wr Go.ChangeShapes Go.WideShapes Go.ChangeAt Go.RowKit
attribute [local irreducible] VC AW bR bN eS
theorem BW (ls : List Lo) (h1 : WL ls) (sure : List Bo) (h2 : WM sure) (l : List UM) (h3 : UN l) :
    bN Tryz.prog 5 [.rowE (jF ls) 3,.rowE (eR sure) 3,.rowE (l.map UT) 6] [] (.b true) [] := by
  rw [SQ];exact uD rfl (ID ls sure (l.map XE) (SX h1.1) (SX h2.1) (by rw [bI];exact SX h3.1) (SO h3))
end Go.Proofs.YtdiogjgohbbllaaGreatDoor
