/-
  Texts of the logic and of the layer,in one module (part 7).
-/
import Derived.Test.YtdiogjgohbbllaaGreatDoorL6
import Derived.Test.YtdiogjgohbbllaaGreatDoorRows
import Derived.Deep.DeepHandedRow
import Derived.Lib.LaidTab
import Derived.Stop.LaidErr
set_option linter.unusedVariables false
set_option linter.unusedSimpArgs false
set_option linter.unnecessarySimpa false
namespace Go.Or
open Go Go.Ab Go.Wr Go.Proofs.YtdiogjgohbbllaaGreatDoor
theorem EZ (bk : Bk) (ws : List Wt) (due : Int) (h : bk.length ≤ 900) : tD bk ws due = ((0,1),bk) ∨ (iZ ws due = true ∧ tD bk ws due = (((bk.length : Int),0),bk ++ [(⟨ws,due,0,[]⟩ : Od)])) := by
  unfold tD;cases hr : iZ ws due with
  | false => exact .inl (by simp)
  | true => exact .inr ⟨rfl,by rw [if_neg (by simp),if_neg (by omega)]⟩
theorem N3 {bk : Bk} {o : Od} : (bk ++ [o]).getD bk.length iD = o := uW
theorem PP {bk : Bk} {o : Od} (h : mM (bk ++ [o])) : mZ o := h.od o (by simp)
end Go.Or
namespace Go.Proofs.YtdiogjgohbbllaaGreatDoor
open Go Go.Ab Go.Or Go.Wr
attribute [local irreducible] VC AW bQ bJ eQ kK Y4 sY OF
set_option maxHeartbeats 4000000
theorem TU {P : Program} {env : cJ} {h : Hp} {d : Option Nat} {ty : TypeId} {pos : String} {af : Array Edge} {g : Option (Nat × Bool)} {t t2 te : TypeId} {x y : Operand} {u z : AV} (ht : Y4 P t te) (hx : evu env x = some u) (hz : u.plus 0 = some z) (hy : evu env y = some (.v (.pointer none))) : bQ P ⟨d,.binOp .neq t x y t2,ty,pos,af,g⟩ env h 0 (fun _ => .b true) (fun _ => []) := by
  unfold Y4 at ht;exact L6 ht hx hz hy
theorem OW (ls : List Lo) (sure : List Bo) (l : List Or.Op) (wants : List Wt) (due : Int) (hl : ls.length ≤ 9223372036854775807) (hbs : sure.length ≤ 9223372036854775807) (ho : l.length ≤ 9223372036854775807) (hwl : wants.length ≤ 9223372036854775807) (hI : ∀ o,o ∈ l → ∀ w,w ∈ o.ws → tH w.1) :
    eQ Tryz.prog 4 [.rowE (lO ls) 3,.rowE (eX sure) 3,.rowE (AX l) 6,.rowE (bZ wants) 3,.i due] [] (fun r _ => r = .b true) := by
  have hfew := QP l 30 ho;have hgiv := QG ls sure hl hbs;have hwl2 := gR wants;refine jM T Tryz.func4 rfl rfl rfl rfl ?_;cases hf : GI l 30 with
  | false =>
    rw [hf] at hfew
    (repeat' (first|refine wS ?_|refine wR ?_|refine wT ?_|(refine rg 0 (aV ?_))|(refine rg 1 (vV (kC (xC)) (aV ?_)))|(refine rg 2 (mW rfl (vV (kC (hfew)) (vV (eJ rfl) (mV ?_))));(iterate 3 refine gF ?_);refine pW rfl (mV ?_);(iterate 4 refine gF ?_);refine pV ?_)|(refine rg 3 (mW rfl (aV ?_)))|refine nZ ?_));all_goals first | (exfalso;omega) | exact ⟨.inl rfl,_,rfl,rfl⟩
  | true =>
  rw [hf] at hfew;by_cases hw6 : 6 < wants.length
  · (repeat' (first|refine wS ?_|refine wR ?_|refine J4 rfl ?_|(refine rg 0 (aV ?_))|(refine rg 1 (vV (kC (xC)) (aV ?_)))|(refine rg 2 (mW rfl (vV (kC (hfew)) (vV (eJ rfl) (mW rfl (yN rfl (gT (qW T rfl (yV (jE rfl rfl (by omega)) (pV ?_)))))))));refine mV ?_;(iterate 4 refine gF ?_);refine pV ?_)|(refine rg 3 (mW rfl (aV ?_)))|(refine nZ ?_)));all_goals first | (exfalso;omega) | exact ⟨.inl rfl,_,rfl,rfl⟩
  cases hg : zU ls sure with
  | false =>
    rw [hg] at hgiv
    (repeat' (first|refine wS ?_|refine wR ?_|refine wT ?_|(refine rg 0 (aV ?_))|(refine rg 1 (vV (kC (xC)) (aV ?_)))|(refine rg 2 (mW rfl (vV (kC (hfew)) (vV (eJ rfl) (mW rfl (yN rfl (gT (qW T rfl (yV (jF rfl rfl (by omega)) (pV ?_)))))))));refine mW rfl (yN rfl (yN rfl (yV (kC (hgiv)) (yV (eJ rfl) (pV ?_))))))|(refine rg 3 (mW rfl (aV ?_)))|refine nZ ?_));all_goals first | (exfalso;omega) | exact ⟨.inl rfl,_,rfl,rfl⟩
  | true =>
  rw [hg] at hgiv;have hso := I2 hg;have hlen : l.length ≤ 30 ∧ ∀ o,o ∈ l → o.ws.length ≤ 6 := by
    unfold GI at hf;simp only [aL,decide_eq_true_eq,aT] at hf;exact ⟨hf.2,fun o h => hf.1 o h⟩
  have hol := P2 l
  (repeat' (first|refine wS ?_|refine wB ?_|refine wK ?_|refine wU ?_|(refine rg 0 (aV ?_))|(refine rg 1 (vV (kC (xC)) (aV ?_)))|(refine rg 2 (mW rfl (vV (kC (hfew)) (vV (eJ rfl) (mW rfl (yN rfl (gT (qW T rfl (yV (jF rfl rfl (by omega)) (pV ?_)))))))));refine mW rfl (yN rfl (yN rfl (yV (kC (hgiv)) (yV (eJ rfl) (pV ?_))))))|(refine rg 4 (cQ [] rfl rfl LL rfl rfl (by decide) trivial (by simp) rfl ?_);refine aV ?_)|(refine rg 5 (aV ?_))|refine nZ ?_));all_goals try (exfalso;omega)
  refine yG 0 0 4 rfl rfl (by decide) ?_
  refine kR (X := {x : Nat × Bk × Nat × List Nat × Hp // x.1 ≤ l.length ∧ mM x.2.1 ∧ OB x.2.1 ∧ x.2.1.length ≤ x.1 ∧ vE x.2.2.2.2 x.2.2.1 x.2.1 x.2.2.2.1}) (fun x => [(0, .rowE (lO ls) 3), (1, .rowE (eX sure) 3), (2, .rowE (AX l) 6), (3, .rowE (bZ wants) 3), (4, .i due), (11, .b true), (12, .ptr x.1.2.2.1 0), (13, .i (x.1.1 : Int))]) (fun x => x.1.2.2.2.2) (fun x => l.length - x.1.1)
    ⟨(0,[],0,[0,1],[.cells [.sl 1 0 0 4],.arr [] 4]),bP _,mM.nil,fun o ho => (nomatch ho),aO _,1,[],⟨rfl,rfl,fun e he => (nomatch he),by decide⟩,rfl,rfl⟩ (nI.of rfl (by repeat first|exact trivial|refine ⟨rfl,?_⟩)) ?_
  rintro ⟨⟨i,bk,pb,A,X⟩,g1,g2,g3,g4,g5⟩;dsimp only at g1 g2 g3 g4 g5 ⊢;by_cases hlt : i < l.length
  · have hgo := LB hlt;have hmem := aK hlt;have c2 := XY g5 g2 g3 (by omega) ls sure hso l[i] (by have := hlen.2 _ hmem;omega) _ (.inl rfl)
    have hok := UE (ls := ls) (sure := sure) (o := l[i]) g2 (by have := hso.sl;omega)
    have hkn := UF (ls := ls) (sure := sure) (o := l[i]) g3 (hI _ hmem);have hle := QU (ls := ls) (sure := sure) (bk := bk) (o := l[i]);generalize l[i] = o at *;generalize (Z4 ls sure bk o).1.1 = n at *;generalize (Z4 ls sure bk o).1.2 = e at *;generalize (Z4 ls sure bk o).2 = bk' at *
    (repeat' (first|refine wS ?_|refine wB ?_|refine wK ?_|refine wT ?_|(refine rg 6 (eW rfl (qW T rfl (vV (nQ rfl rfl (by omega)) (mW rfl (yN rfl (yV (by exact TU PE rfl rfl rfl) ?_))))));refine pV ?_)|(refine rg 8 (eW rfl (mW rfl (vV (ix T rfl (by omega) (DY _) hgo) (lW T rfl (eW rfl (dQ rfl rfl c2 rfl ?_))))));rintro _ X2 ⟨pb2,A2,rfl,k5,k6⟩;dsimp only [eU];refine mW rfl (xW rfl (xW rfl (xW rfl (aV ?_)))))|(refine iA 7 rfl rfl rfl (by omega) (by omega) ?_)|refine nZ ?_));all_goals first | (exfalso;omega) | exact ⟨⟨(i + 1,bk',pb2,A2,X2),by dsimp only;omega,hok,hkn,by dsimp only;omega,k5⟩,by dsimp only;omega,nI.of rfl (by repeat first|exact trivial|refine ⟨rfl,?_⟩)⟩
  have cask := GR g5 wants due (by omega) (by omega)
  rcases EZ bk wants due (by omega) with hask | ⟨hrw,hask⟩
  · rw [hask] at cask
    (repeat' (first|refine wS ?_|refine wK ?_|refine wR ?_|refine wE ?_|refine wT ?_|refine wU ?_|(refine rg 6 (eW rfl (qW T rfl (vV (nR rfl rfl (by omega)) (mV ?_))));(iterate 2 refine gF ?_);refine pV ?_)|(refine rg 9 (mW rfl (vV (by exact EK PE rfl rfl rfl) ?_)))|(refine rg 11 (eW rfl (mW rfl (dQ rfl rfl cask rfl ?_)));rintro _ X1 ⟨rfl,hq⟩;dsimp only [eU];refine mW rfl (xW rfl (xW rfl (mY ?_))))|(refine rg 12 (mW rfl (vV (oB rfl rfl) ?_)))|(refine rg 13 (eW rfl (yN rfl (yV (cT rfl rfl) (pW rfl (aV ?_))))))|refine nZ ?_));all_goals first | (exfalso;omega) | exact ⟨.inl rfl,_,rfl,rfl⟩
  have hok1 := yI (ws := wants) (due := due) g2;have hprom := xH (ls := ls) (sure := sure) (no := (bk.length : Int)) hok1 (by have := hso.sl;omega)
  rw [hask] at cask hok1 hprom;dsimp only at cask hok1 hprom;rw [FJ] at hprom;have hend := E1 (st := 4) (no := (bk.length : Int)) (ss := [0,1]) hprom (.inr rfl);have hsl := hso.sl;have hbl : (bk ++ [⟨wants,due,0,[]⟩] : Bk).length = bk.length + 1 := by simp
  have hz1 := hok1.sz;have csp1 := D7 (bk ++ [⟨wants,due,0,[]⟩]) sure (by omega) hz1.tk hz1.sum (by omega) hso.cn
  have hso1 := hso.spare (bk := bk ++ [⟨wants,due,0,[]⟩]) fun b _ => T9 hok1 b
  have hw1k : wants.length ≤ 1000 := by omega
  have hpok0 : ∀ tk,lM ls (eT (bk ++ [⟨wants,due,0,[]⟩]) sure) wants = (0,tk) → Y5 ls (eT (bk ++ [⟨wants,due,0,[]⟩]) sure) wants tk := fun tk h => by
    have := G6 (ls := ls) (bs := eT (bk ++ [⟨wants,due,0,[]⟩]) sure) (ws := wants) (fun b hb => F5 hb) (by rw [h])
    rw [h] at this;exact this
  have haft := fun tk h => KD (ls := ls) (sure := sure) (bk := bk) (ws := wants) (due := due) (tk := tk) h;have hslen := gX (bk ++ [⟨wants,due,0,[]⟩]) sure;have hbk0 := OY bk wants due sure;obtain ⟨bef,hbef⟩ : ∃ bef,eT (bk ++ [⟨wants,due,0,[]⟩]) sure = bef := ⟨_,rfl⟩;rw [hbef] at hso1 hpok0 haft hslen hbk0 csp1 hprom hend;have hpl := PH ls bef wants hso1.ll hso1.sl hso1.lot hw1k hso1.cn;have hsb := A9 bef (by omega)
  have hbefl := eP bef
  (repeat' (first|refine wS ?_|refine wK ?_|refine wE ?_|refine wU ?_|(refine rg 6 (eW rfl (qW T rfl (vV (nR rfl rfl (by omega)) (mV ?_))));(iterate 2 refine gF ?_);refine pV ?_)|(refine rg 9 (mW rfl (vV (by exact EK PE rfl rfl rfl) ?_)))|(refine rg 11 (eW rfl (mW rfl (dQ rfl rfl cask rfl ?_)));rintro _ X1 ⟨rfl,A1,q1,_⟩;dsimp only [eU];refine mW rfl (xW rfl (xW rfl (mY ?_))))|refine nZ ?_));all_goals try (exfalso;omega)
  have hv1 := q1.view;have cpr := uR q1 hz1 ls sure hso bk.length _ (.inl rfl);rw [FJ,hbef] at cpr;obtain ⟨pf,hpf⟩ : ∃ pf,lM ls bef wants = pf := ⟨_,rfl⟩;rw [hpf] at hpl cpr hprom hend;obtain ⟨pe,tk⟩ := pf;dsimp only at hpl cpr hprom hend;by_cases hpe : pe = 0
  · subst hpe;rw [if_neg (by simp)] at cpr hprom hend
    have hpok := hpok0 tk hpf;have haft := haft tk hpok;have hod2 := PP hprom;have hz2 := hprom.sz;have csp2 := D7 (bk ++ [⟨wants,due,1,tk⟩]) sure (by rw [aC,bE];omega) hz2.tk hz2.sum (by omega) hso.cn
    have ct2 := AC (bk ++ [⟨wants,due,1,tk⟩]) bk.length (by rw [aC,bE];omega) hz2.tk
    rw [if_neg (by rw [aC,bE];omega),bK,N3] at ct2
    dsimp only at hod2 ct2 cpr;rw [KC] at hend;dsimp only at hend;have hz3 := hend.sz;have csp3 := D7 (bk ++ [⟨wants,due,4,[]⟩]) sure (by rw [aC,bE];omega) hz3.tk hz3.sum (by omega) hso.cn
    rw [hbk0] at csp3;have ct3 := AC (bk ++ [⟨wants,due,4,[]⟩]) bk.length (by rw [aC,bE];omega) hz3.tk
    rw [if_neg (by rw [aC,bE];omega),bK,N3] at ct3
    dsimp only at ct3;have hs2l := gX (bk ++ [⟨wants,due,1,tk⟩]) sure;have hsb2 := A9 (eT (bk ++ [⟨wants,due,1,tk⟩]) sure) (by omega)
    have htkb := hz2.tk _ (show (⟨wants,due,1,tk⟩ : Od) ∈ bk ++ [⟨wants,due,1,tk⟩] by simp)
    dsimp only at htkb;have hsp := AM tk htkb.1 htkb.2;have hfew2 := hod2.few;have hflen : tk.flatten.length ≤ 1000000 := by
      have h1 := hod2.units;have h2 := F4 (l := tk.flatten) hod2.okF;dsimp only at h1;omega
    have hrng : ∀ t,t ∈ tk.flatten → (0 ≤ t.1 ∧ t.1 < bef.length) ∧ 1 ≤ t.2 := fun t ht => by
      obtain ⟨li,hli,hti⟩ := jO.1 ht;obtain ⟨i,hi⟩ := bR.1 hli;have hil := (aA.1 hi).1;rw [hpok.len] at hil;have := (hpok.at_ i _ li (aB hil) hi).2 t hti;exact ⟨this.1,this.2.1⟩
    have hpk := SY bef _ tk.flatten (by omega) hflen hrng hso1.cn haft
    have hpkl := eP (eT (bk ++ [⟨wants,due,1,tk⟩]) sure);have htl := nE tk;generalize hsp2 : eT (bk ++ [⟨wants,due,1,tk⟩]) sure = aft at *
    (repeat' (first|refine wS ?_|refine wB ?_|refine wK ?_|refine wU ?_|(refine rg 12 (mW rfl (vV (lX rfl rfl rfl) ?_)))|(refine rg 14 (eW rfl (vV (by exact jV rfl rfl csp1 (.cons hv1 (.cons (.row _ _ _) .nil)) (eP _).symm (tU _) (B8 _)) ?_));refine aV ?_)|(refine rg 15 (eW rfl (mW rfl (vV (by exact uX rfl rfl hpl (.cons (.row _ _ _) (.cons (.row _ _ _) (.cons (.row _ _ _) .nil)))) ?_)));refine mW rfl (xW rfl (xW rfl (mY ?_))))|(refine rg 16 (eW rfl (eW rfl (dQ rfl rfl cpr rfl ?_)));rintro _ X2 ⟨rfl,A2,q2,_⟩;dsimp only [eU];refine aV ?_)|(refine rg 17 (eW rfl (vV (lX rfl rfl rfl) ?_)))|(refine rg 19 (mW rfl (vV (lX rfl rfl rfl) ?_)))|(refine rg 21 (aV ?_))|(refine rg 22 (aV ?_))|refine nZ ?_));all_goals try (exfalso;omega)
    refine J3 20 2 rfl (by decide) ?_
    have q2l : ∀ k,k ∈ A2 → k < X2.length := q2.lt;refine kR (X := {x : Nat × Nat × Hp // x.1 ≤ tk.length ∧ vE x.2.2 pb (bk ++ [⟨wants, due, 1, tk⟩]) A2 ∧ x.2.2[x.2.1]? = some (.arr (eI (tk.take x.1).flatten) 2) ∧ x.2.1 ∉ A2}) (fun x => [(0, .rowE (lO ls) 3), (1, .rowE (eX sure) 3), (2, .rowE (AX l) 6), (3, .rowE (bZ wants) 3), (4, .i due), (11, .b true), (12, .ptr pb 0), (14, .i (bk.length : Int)), (16, .rowE (eX bef) 3), (17, nK tk), (20, .sl x.1.2.1 0 (tk.take x.1.1).flatten.length 2), (21, .i (x.1.1 : Int))]) (fun x => x.1.2.2) (fun x => tk.length - x.1.1)
      ⟨(0,X2.length,X2 ++ [.arr [] 2]),bP _,q2.app _,cP,fun h => by have := q2l _ h;dsimp only at this;omega⟩ (nI.of rfl (by repeat first|exact trivial|refine ⟨rfl,?_⟩)) ?_
    rintro ⟨⟨k,q,Y⟩,y1,y2,y3,y4⟩;dsimp only at y1 y2 y3 y4 ⊢;by_cases hk : k < tk.length
    · have hgj := D5 hk;have hft := rB hk;have hfle := @QL _ tk (k + 1);have hap : (tk.take (k + 1)).flatten = (tk.take k).flatten ++ tk[k] := by rw [aX hk,fD];simp
      have hyl := (aA.1 y3).1;generalize tk[k] = lk at *;have htkl := jX lk;generalize hF : (tk.take k).flatten = F at *;generalize hF2 : (tk.take (k + 1)).flatten = F2 at *
      (repeat' (first|refine wS ?_|refine wB ?_|refine wK ?_|refine wT ?_|(refine rg 23 (eW rfl (qW T rfl (vV (nQ rfl rfl (by omega)) ?_))))|(refine rg 25 (eW rfl (mW rfl (vV (ix T rfl (by omega) (uN _) hgj) (lW T rfl (iK T rfl rfl rfl rfl rfl y3 (by simp) (.row (rT lk)) (JU lk) (by simp;omega) (by simp;omega) rfl ?_)))));refine aV ?_)|(refine iA 24 rfl rfl rfl (by omega) (by omega) ?_)|refine nZ ?_));all_goals try (exfalso;omega)
      all_goals exact ⟨⟨(k + 1,Y.length,(Y.set q .gone) ++ [.arr (eI F2) 2]),hk,y2.frame fun j hj => by
          have h1 : j < Y.length := y2.lt j hj;rw [iJ (by simpa using h1),eL (k := j) (q := q) (fun e => y4 (by rw [← e];exact hj))],by
          have e : (Y.set q AB.gone).length = Y.length := eC;dsimp only
          rw [hF2,← e];exact cP,fun h => by have := y2.lt _ h;dsimp only at this;omega⟩,by dsimp only;omega,nI.of (by
          dsimp only;rw [hap,cY,aY (by rw [jX];exact aO _)]
          simp) (by
          dsimp only;rw [hF2,hap,aC,← htkl]
          (repeat (first | exact trivial | refine ⟨rfl,?_⟩)))⟩
    · rw [aY (by omega)] at y3 ⊢
      have yy : vE (Y.set q .gone) pb (bk ++ [⟨wants,due,1,tk⟩]) A2 := y2.frame fun j hj => eL (k := j) (q := q) (fun e => y4 (by rw [← e];exact hj))
      have cw := vP yy (bk.length : Int) (by rw [aC,bE];omega)
      rw [KC] at cw;have yv := yy.view
      (repeat' (first|refine wS ?_|refine wE ?_|refine wU ?_|(refine rg 23 (eW rfl (qW T rfl (vV (nR rfl rfl (by omega)) ?_))))|refine nZ ?_));all_goals try (exfalso;omega)
      refine W4 20 (es := eI tk.flatten) rfl y3 (jX _).symm (RX _) ?_;generalize Y.set q .gone = Z at *
      (repeat' (first|refine wS ?_|refine wK ?_|refine wR ?_|refine wU ?_|(refine rg 26 (eW rfl (vV (kC (hpk)) (mW rfl (xW rfl (xW rfl (mY ?_)))))))|(refine rg 27 (mW rfl (vV (lX rfl rfl rfl) (mW rfl (yN rfl (yN rfl (yV (by exact uX rfl rfl ct2 (.cons yv (.cons (.v _) .nil))) ?_))))));refine yN rfl (yV (kC (hsp)) (yV (eJ rfl) (pW rfl (mW rfl (yN rfl (yN rfl (yV (by exact jV rfl rfl csp2 (.cons yv (.cons (.row _ _ _) .nil)) (eP _).symm (tU _) (B8 _)) ?_)))))));refine yN rfl (yV (kC (hsb2)) (yV (eJ rfl) (pV ?_))))|(refine rg 29 (eW rfl (yN rfl (yN rfl (gT (dQ rfl rfl cw rfl ?_)))));rintro _ X3 ⟨rfl,A3,q3,_⟩;have hv3 := q3.view;have cw2 := vP q3 (bk.length : Int) (by rw [aC,bE];omega);rw [OX] at cw2;dsimp only [eU];refine yV (V2 rfl rfl rfl) (pW rfl (mW rfl (yN rfl (yN rfl (yV (by exact jV rfl rfl csp3 (.cons hv3 (.cons (.row _ _ _) .nil)) (eP _).symm (tU _) (B8 _)) ?_)))));refine yN rfl (yV (kC (hsb)) (pW rfl (mW rfl (yN rfl (yN rfl (yV (by exact uX rfl rfl ct3 (.cons hv3 (.cons (.v _) .nil))) ?_))))));refine gT (qW T rfl (yV (V2 rfl rfl rfl) (pW rfl (mW rfl (yN rfl (yN rfl (gT (dQ rfl rfl cw2 rfl ?_))))))));rintro _ X4 ⟨rfl,_⟩;dsimp only [eU];refine yV (V2 rfl rfl rfl) (pW rfl (aV ?_)))|refine nZ ?_));all_goals first | (exfalso;omega) | exact ⟨.inl rfl,_,rfl,rfl⟩
  · rw [if_pos hpe] at cpr;dsimp only at cpr
    (repeat' (first|refine wS ?_|refine wK ?_|refine wR ?_|refine wT ?_|refine wU ?_|(refine rg 12 (mW rfl (vV (lX rfl rfl rfl) ?_)))|(refine rg 14 (eW rfl (vV (by exact jV rfl rfl csp1 (.cons hv1 (.cons (.row _ _ _) .nil)) (eP _).symm (tU _) (B8 _)) ?_));refine aV ?_)|(refine rg 15 (eW rfl (mW rfl (vV (by exact uX rfl rfl hpl (.cons (.row _ _ _) (.cons (.row _ _ _) (.cons (.row _ _ _) .nil)))) ?_)));refine mW rfl (xW rfl (xW rfl (mY ?_))))|(refine rg 16 (eW rfl (eW rfl (dQ rfl rfl cpr rfl ?_)));rintro _ X2 ⟨rfl,A2,q2,_⟩;have hv2 := q2.view;dsimp only [eU];refine aV ?_)|(refine rg 17 (eW rfl (vV (lX rfl rfl rfl) ?_)))|(refine rg 19 (mW rfl (vV (U9 rfl rfl hpe) ?_)))|(refine rg 20 (eW rfl (yN rfl (yN rfl (yV (by exact jV rfl rfl csp1 (.cons hv2 (.cons (.row _ _ _) .nil)) (eP _).symm (tU _) (B8 _)) ?_))));refine yN rfl (yV (kC (hsb)) (pW rfl (aV ?_))))|refine nZ ?_));all_goals first | (exfalso;omega) | exact ⟨.inl rfl,_,rfl,rfl⟩
end Go.Proofs.YtdiogjgohbbllaaGreatDoor
namespace Go.Proofs.YtdiogjgohbbllaaGreatDoor
open Go Go.Ab Go.Or Go.Wr Go.ChangeShapes Go.WideShapes Go.ChangeAt Go.RowKit
def C8 (n : Int) : Prop := (Lit.int .i64 n).wf = true
theorem PR {n : Int} (h : C8 n) : tH n := by
  have e1 : IntKind.i64.min = -9223372036854775808 := rfl;have e2 : IntKind.i64.max = 9223372036854775807 := rfl;simp only [C8,Lit.wf,aL,decide_eq_true_eq,e1,e2] at h;exact h
theorem xQ {P : Program} {W : World} {name : String} {d : DataW Unit} : ∀ {l : List (String × DataW Unit)} {ps : List MemPlace},DataW.LaidVars P W l ps → (name,d) ∈ l →
    ∃ g t cs fuel p,P.globalNamed name = some g ∧ (P.globals[g]?).map (·.type) = some t ∧ W.var? P name = some cs ∧ DataW.trod (fun _ => ()) P W 0 (fun _ => true) false fuel t cs.toList = some (d,p)
  | [],_,_,h => by cases h
  | (n,d') :: r,ps,h,hm => by
    obtain ⟨g,t,cs,fuel,p,q,h1,h2,h3,h4,h5,_⟩ := h;rcases aQ.1 hm with e | hm
    · cases e;exact ⟨g,t,cs,fuel,p,h1,h2,h3,h4⟩
    · exact xQ h5 hm
def DU : List Int := (List.range 20).map fun i => ((10 ^ i : Nat) : Int)
theorem WH : Tryz.prog.globalNamed "internal/strconv.uint64pow10" = some 0 := by kernel_rfl
theorem MH : (Tryz.prog.globals[0]?).map (·.type) = some 186 := by kernel_rfl
theorem XL : Tryz.prog.underlying 174 = some (.int .u64) := by kernel_rfl
theorem YA : Tryz.prog.underlying 186 = some (.array 20 174) := by kernel_rfl
theorem UI : Tryz.prog.cellsOf 174 = 1 := by kernel_rfl
theorem UL : Tryz.prog.cellsOf 186 = 20 := by kernel_rfl
theorem PG : (Rows.laid_internal_strconv_uint64pow10 : DataW Unit) = Lib.tabData .u64 DU := by kernel_rfl
theorem YH : Tryz.prog.globalNamed "strconv.ErrSyntax" = some 2 := by kernel_rfl
theorem YI : Tryz.prog.globalNamed "strconv.ErrRange" = some 3 := by kernel_rfl
theorem QH : (Tryz.prog.globals[2]?).map (·.type) = some 125 := by kernel_rfl
theorem QI : (Tryz.prog.globals[3]?).map (·.type) = some 125 := by kernel_rfl
theorem RK : "*" ++ "errors.errorString" = "*errors.errorString" := by decide
theorem rowE (u : TypeId) (h : Tryz.prog.typeName? 3 u = some "*errors.errorString") : u = 199 :=
  typeName_ptr_named (nm := "errors.errorString") (by rw [RK]; kernel_rfl) (by kernel_rfl) (by decide) u (by rw [RK]; exact h)
theorem XT : Tryz.prog.underlying 125 = some (.interface #[("Error", 73)]) := by kernel_rfl
theorem XP : Tryz.prog.underlying 199 = some (.pointer 201) := by kernel_rfl
theorem UK : Tryz.prog.cellsOf 201 = 1 := by kernel_rfl
theorem UJ : Tryz.prog.cellsOf 9 = 1 := by kernel_rfl
theorem SA {n : String} {text : List UInt8} {r : List (String × DataW Unit)} {W : World} {g : Nat} (h : laidMet Tryz.prog ((n, .iface "*errors.errorString" (.ptr (.agg [.lit (.string text)]))) :: r) W)
    (hg : Tryz.prog.globalNamed n = some g) (ht : (Tryz.prog.globals[g]?).map (·.type) = some 125) : ∃ p,W.var? Tryz.prog n = some #[.iface 199 p] := by
  obtain ⟨a,s,hv,_⟩ := laid_sentinel h hg ht XT rowE XP Tryz.underlying201 rfl rfl Tryz.underlying9 UK UJ;exact ⟨_,hv⟩
theorem B4 {W : World} {n : String} {g : Nat} {p : Value} (hg : Tryz.prog.globalNamed n = some g) (hv : W.var? Tryz.prog n = some #[.iface 199 p]) :
    g < W.heap.size ∧ ∃ ys t fz,W.heap[g]? = some (.cells ys t fz) ∧ RL (fun b => b < W.heap.size) W [AV.ifc 199 .any] (fun _ => none) ys.toList := by
  unfold World.var? at hv;rw [hg] at hv;simp only [Option.bind_some] at hv;split at hv
  · rename_i c ty fz hh;cases hv;refine ⟨(aM.1 hh).1,_,ty,fz,hh,?_⟩;simp only [RL,R];exact ⟨_,_,rfl,⟨p,rfl,trivial⟩,rfl⟩
  · cases hv
theorem IE {W : World} {l : List (String × DataW Unit)} {a b : String × DataW Unit} (hl : l = [a, b, ("internal/strconv.uint64pow10", (Rows.laid_internal_strconv_uint64pow10 : DataW Unit)), ("strconv.ErrRange", (Rows.laid_strconv_ErrRange : DataW Unit)), ("strconv.ErrSyntax", (Rows.laid_strconv_ErrSyntax : DataW Unit))]) (h0 : laidMet Tryz.prog l W) : kD (fun b => b < W.heap.size) W := by
  subst hl;obtain ⟨pr, hr⟩ := SA (n := "strconv.ErrRange") h0.tail.tail.tail YI QI
  obtain ⟨pe, he⟩ := SA (n := "strconv.ErrSyntax") h0.tail.tail.tail.tail YH QH
  obtain ⟨ps,hv,_⟩ := h0;obtain ⟨g,t,cs,fuel,p,h1,h2,h3,h4⟩ := xQ hv (.tail _ (.tail _ (.head _)));obtain rfl := Option.some.inj (WH.symm.trans h1);obtain rfl := Option.some.inj (MH.symm.trans h2);rw [PG] at h4;have e := Lib.cells_of_tab YA XL UI UL h4;unfold World.var? at h3;rw [WH] at h3;simp only [Option.bind_some] at h3;intro g cs' hg;have hg' : (g = 0 ∧ cs' = (DU.map fun z => Value.int .u64 z).map .v) ∨ (g = 2 ∧ cs' = [AV.ifc 199 .any]) ∨ (g = 3 ∧ cs' = [AV.ifc 199 .any]) := by
    simp only [qA,aQ,cG,or_false,Prod.mk.injEq] at hg;rcases hg with hg | hg | hg
    · refine .inl ⟨hg.1,hg.2.trans ?_⟩;simp [DU,mK,Function.comp_def]
    · exact .inr (.inl hg)
    · exact .inr (.inr hg)
  rcases hg' with ⟨rfl,rfl⟩ | ⟨rfl,rfl⟩ | ⟨rfl,rfl⟩
  · split at h3
    · rename_i c ty fz hh;cases h3;refine ⟨(aM.1 hh).1,cs,ty,fz,hh,?_⟩;rw [e];exact S6 _
    · cases h3
  · exact B4 YH he
  · exact B4 YI hr
noncomputable def low (os : Os) : Nat := (World.holding Tryz.prog os ⟨#[],#[],[]⟩).heap.size
noncomputable def zQ (os : Os) : World :=
  { World.holding Tryz.prog os ⟨#[.cells #[.string ⟨#[118, 97, 108, 117, 101, 32, 111, 117, 116, 32, 111, 102, 32, 114, 97, 110, 103, 101]⟩] 201, .cells #[.string ⟨#[105, 110, 118, 97, 108, 105, 100, 32, 115, 121, 110, 116, 97, 120]⟩] 201], #[], []⟩ with heap := ((((((World.holding Tryz.prog os ⟨#[.cells #[.string ⟨#[118, 97, 108, 117, 101, 32, 111, 117, 116, 32, 111, 102, 32, 114, 97, 110, 103, 101]⟩] 201, .cells #[.string ⟨#[105, 110, 118, 97, 108, 105, 100, 32, 115, 121, 110, 116, 97, 120]⟩] 201], #[], []⟩).heap.modify 0 fun
      | .cells _ t frozen => .cells #[.int .u64 1,.int .u64 10,.int .u64 100,.int .u64 1000,.int .u64 10000,.int .u64 100000,.int .u64 1000000,.int .u64 10000000,.int .u64 100000000,.int .u64 1000000000,.int .u64 10000000000,.int .u64 100000000000,.int .u64 1000000000000,.int .u64 10000000000000,.int .u64 100000000000000,.int .u64 1000000000000000,.int .u64 10000000000000000,.int .u64 100000000000000000,.int .u64 1000000000000000000,.int .u64 10000000000000000000] t frozen
      | o => o).modify 4 fun
      | .cells _ t frozen => .cells #[.int .u8 0,.int .u8 1,.int .u8 28,.int .u8 2,.int .u8 29,.int .u8 14,.int .u8 24,.int .u8 3,.int .u8 30,.int .u8 22,.int .u8 20,.int .u8 15,.int .u8 25,.int .u8 17,.int .u8 4,.int .u8 8,.int .u8 31,.int .u8 27,.int .u8 13,.int .u8 23,.int .u8 21,.int .u8 19,.int .u8 16,.int .u8 7,.int .u8 26,.int .u8 12,.int .u8 18,.int .u8 6,.int .u8 11,.int .u8 5,.int .u8 10,.int .u8 9] t frozen
      | o => o).modify 5 fun
      | .cells _ t frozen => .cells #[.int .u8 0,.int .u8 1,.int .u8 56,.int .u8 2,.int .u8 57,.int .u8 49,.int .u8 28,.int .u8 3,.int .u8 61,.int .u8 58,.int .u8 42,.int .u8 50,.int .u8 38,.int .u8 29,.int .u8 17,.int .u8 4,.int .u8 62,.int .u8 47,.int .u8 59,.int .u8 36,.int .u8 45,.int .u8 43,.int .u8 51,.int .u8 22,.int .u8 53,.int .u8 39,.int .u8 33,.int .u8 30,.int .u8 24,.int .u8 18,.int .u8 12,.int .u8 5,.int .u8 63,.int .u8 55,.int .u8 48,.int .u8 27,.int .u8 60,.int .u8 41,.int .u8 37,.int .u8 16,.int .u8 46,.int .u8 35,.int .u8 44,.int .u8 21,.int .u8 52,.int .u8 32,.int .u8 23,.int .u8 11,.int .u8 54,.int .u8 26,.int .u8 40,.int .u8 15,.int .u8 34,.int .u8 20,.int .u8 31,.int .u8 10,.int .u8 25,.int .u8 14,.int .u8 19,.int .u8 9,.int .u8 13,.int .u8 8,.int .u8 7,.int .u8 6] t frozen
      | o => o).modify 3 fun
      | .cells _ t frozen => .cells #[.iface 199 (.pointer (some ⟨low os,0,none⟩))] t frozen
      | o => o).modify 2 fun
      | .cells _ t frozen => .cells #[.iface 199 (.pointer (some ⟨low os + 1,0,none⟩))] t frozen
      | o => o) }
theorem pY : gQ Tryz.prog 3 C8 (fun n => [AV.i n]) := gQ.int Tryz.underlying3 (by kernel_rfl)
theorem TF : gQ Tryz.prog 4 (fun _ => True) (fun b => [AV.b b]) := gQ.bool Tryz.underlying4 (by kernel_rfl)
theorem VS : gQ Tryz.prog 84 (fun p : Lo => C8 p.1 ∧ C8 p.2.1) (fun p => [AV.i p.1,AV.i p.2.1,AV.b p.2.2]) :=
  gQ.struct (fs := [(3, 0), (3, 1), (4, 2)]) (by kernel_rfl) (by kernel_rfl)
    (fun e W fuel css hl hx => by
      obtain ⟨a,h1,h2,h3⟩ := iF.cons pY (iF.cons pY (iF.cons TF iF.nil)) e W fuel css hl hx
      exact ⟨(a.1,a.2.1,a.2.2.1),⟨h1.1,h1.2.1⟩,by simpa using h2,by simpa using h3⟩)
    (fun _ => by kernel_rfl)
theorem VT : gQ Tryz.prog 60 (fun p : Bo => C8 p.1 ∧ C8 p.2.1 ∧ C8 p.2.2) (fun p => [AV.i p.1,AV.i p.2.1,AV.i p.2.2]) :=
  gQ.struct (fs := [(3, 0), (3, 1), (3, 2)]) (by kernel_rfl) (by kernel_rfl)
    (fun e W fuel css hl hx => by
      obtain ⟨a,h1,h2,h3⟩ := iF.cons pY (iF.cons pY (iF.cons pY iF.nil)) e W fuel css hl hx
      exact ⟨(a.1,a.2.1,a.2.2.1),⟨h1.1,h1.2.1,h1.2.2.1⟩,by simpa using h2,by simpa using h3⟩)
    (fun _ => by kernel_rfl)
theorem TA : gQ Tryz.prog 100 (fun p : Wt => C8 p.1 ∧ C8 p.2.1 ∧ C8 p.2.2) (fun p => [AV.i p.1,AV.i p.2.1,AV.i p.2.2]) :=
  gQ.struct (fs := [(3, 0), (3, 1), (3, 2)]) (by kernel_rfl) (by kernel_rfl)
    (fun e W fuel css hl hx => by
      obtain ⟨a,h1,h2,h3⟩ := iF.cons pY (iF.cons pY (iF.cons pY iF.nil)) e W fuel css hl hx
      exact ⟨(a.1,a.2.1,a.2.2.1),⟨h1.1,h1.2.1,h1.2.2.1⟩,by simpa using h2,by simpa using h3⟩)
    (fun _ => by kernel_rfl)
abbrev WY (l : List Lo) : Prop := l.length ≤ maxLen ∧ ∀ a,a ∈ l → C8 a.1 ∧ C8 a.2.1
abbrev WZ (l : List Bo) : Prop := l.length ≤ maxLen ∧ ∀ a,a ∈ l → C8 a.1 ∧ C8 a.2.1 ∧ C8 a.2.2
abbrev UY (l : List Wt) : Prop := l.length ≤ maxLen ∧ ∀ a,a ∈ l → C8 a.1 ∧ C8 a.2.1 ∧ C8 a.2.2
theorem TE : gQ Tryz.prog 22 WY (fun l => [.rowE (lO l) 3]) :=
  gQ.slice Tryz.underlying22 (by kernel_rfl) (by kernel_rfl) (by decide) VS
theorem PO : gQ Tryz.prog 23 WZ (fun l => [.rowE (eX l) 3]) :=
  gQ.slice Tryz.underlying23 (by kernel_rfl) (by kernel_rfl) (by decide) VT
theorem FQ : gQ Tryz.prog 33 UY (fun l => [.rowE (bZ l) 3]) :=
  gQ.slice Tryz.underlying33 (by kernel_rfl) (by kernel_rfl) (by decide) TA
abbrev UX := Int × Int × Int × Int × Int × List Wt
abbrev YL (p : UX) : Prop := C8 p.1 ∧ C8 p.2.1 ∧ C8 p.2.2.1 ∧ C8 p.2.2.2.1 ∧ C8 p.2.2.2.2.1 ∧ UY p.2.2.2.2.2
abbrev VF (p : UX) : List AV := [.i p.1,.i p.2.1,.i p.2.2.1,.i p.2.2.2.1,.i p.2.2.2.2.1,.rowE (bZ p.2.2.2.2.2) 3]
theorem TB : gQ Tryz.prog 35 YL VF :=
  gQ.struct (fs := [(3, 0), (3, 1), (3, 2), (3, 3), (3, 4), (33, 5)]) (by kernel_rfl) (by kernel_rfl)
    (fun e W fuel css hl hx => by
      obtain ⟨a,h1,h2,h3⟩ := iF.cons pY (iF.cons pY (iF.cons pY (iF.cons pY (iF.cons pY (iF.cons FQ iF.nil))))) e W fuel css hl hx
      exact ⟨(a.1,a.2.1,a.2.2.1,a.2.2.2.1,a.2.2.2.2.1,a.2.2.2.2.2.1),⟨h1.1,h1.2.1,h1.2.2.1,h1.2.2.2.1,h1.2.2.2.2.1,h1.2.2.2.2.2.1⟩,by simpa [VF] using h2,by simpa [VF] using h3⟩)
    (fun _ => by kernel_rfl)
abbrev UZ (l : List UX) : Prop := l.length ≤ maxLen ∧ ∀ p,p ∈ l → YL p
theorem PN : gQ Tryz.prog 24 UZ (fun l => [.rowE (l.map VF) 6]) :=
  gQ.slice Tryz.underlying24 (by kernel_rfl) (by kernel_rfl) (by decide) TB
abbrev XQ (p : UX) : Or.Op := ⟨p.1,p.2.1,p.2.2.1,p.2.2.2.1,p.2.2.2.2.1,p.2.2.2.2.2⟩
theorem TD (l : List UX) : l.map VF = (l.map XQ).map XB := by rw [mK];rfl
theorem TC {l : List UX} (h : UZ l) : ∀ o,o ∈ l.map XQ → ∀ w,w ∈ o.ws → tH w.1 := by
  intro o ho w hw;obtain ⟨p,hp,rfl⟩ := aJ.1 ho;exact PR ((h.2 p hp).2.2.2.2.2.2 w hw).1
theorem PY {α : Type} {l : List α} (h : l.length ≤ maxLen) : l.length ≤ 9223372036854775807 := h
end Go.Proofs.YtdiogjgohbbllaaGreatDoor
namespace Go.Proofs.YtdiogjgohbbllaaGreatDoor
open Go Go.Ab Go.Or Go.Wr Go.ChangeShapes Go.WideShapes Go.ChangeAt Go.RowKit
attribute [local irreducible] VC AW bQ bJ eQ
theorem HG (ls : List Lo) (h1 : WY ls) (sure : List Bo) (h2 : WZ sure) (l : List UX) (h3 : UZ l) (ws : List Wt) (h4 : UY ws) (due : Int) (h5 : C8 due) :
    bJ Tryz.prog 4 [.rowE (lO ls) 3,.rowE (eX sure) 3,.rowE (l.map VF) 6,.rowE (bZ ws) 3,.i due] [] (.b true) [] := by
  rw [TD];exact uF rfl (OW ls sure (l.map XQ) ws due (PY h1.1) (PY h2.1) (by rw [bI];exact PY h3.1) (PY h4.1) (TC h3))
end Go.Proofs.YtdiogjgohbbllaaGreatDoor
