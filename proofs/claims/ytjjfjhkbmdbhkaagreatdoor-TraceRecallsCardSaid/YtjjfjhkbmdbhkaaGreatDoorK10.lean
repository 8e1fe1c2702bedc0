/-
  Texts of the logic and of the layer,in one module (part 10).
-/
import Derived.Test.YtjjfjhkbmdbhkaaGreatDoorK9
import Derived.Test.YtjjfjhkbmdbhkaaGreatDoorRows
import Derived.Deep.DeepHandedRow
import Derived.Lib.LaidTab
import Derived.Stop.LaidErr
set_option linter.unusedVariables false
set_option linter.unusedSimpArgs false
set_option linter.unnecessarySimpa false
namespace Go.Proofs.Q
open Go Go.Ab Go.Ld Go.ChangeShapes Go.WideShapes Go.ChangeAt Go.RowKit
theorem uL {n:Int}(h:D2 n):V8 n:=by
 have e1:IntKind.i64.min = -9223372036854775808:=rfl;have e2:IntKind.i64.max=9223372036854775807:=rfl;simp only [D2,Lit.wf,aN,decide_eq_true_eq,e1,e2] at h;exact h
theorem Q9 {P:Program}{W:World}{name:String}{d:DataW Unit}:∀ {l:List (String × DataW Unit)}{ps:List MemPlace},DataW.LaidVars P W l ps→(name,d)∈l →
  ∃ g t cs fuel p,P.globalNamed name=some g∧(P.globals[g]?).map (·.type)=some t∧W.var? P name=some cs∧DataW.trod (fun _=>()) P W 0 (fun _=>true) false fuel t cs.toList=some (d,p)
 | [],_,_,h=>by cases h
 | (n,d')::r,ps,h,hm=>by
  obtain ⟨g,t,cs,fuel,p,q,h1,h2,h3,h4,h5,_⟩:=h;rcases bQ.1 hm with e | hm
  ·cases e;exact ⟨g,t,cs,fuel,p,h1,h2,h3,h4⟩
  ·exact Q9 h5 hm
def SS:List Int:=(List.range 20).map fun i=>((10 ^ i:Nat):Int)
theorem yY7 : Tryz.prog.globalNamed "internal/strconv.uint64pow10" = some 0 := by kernel_rfl
theorem zN9:(Tryz.prog.globals[0]?).map (·.type)=some 265:=by kernel_rfl
theorem xB4:Tryz.prog.underlying 210=some (.int .u64):=by kernel_rfl
theorem xE4:Tryz.prog.underlying 265=some (.array 20 210):=by kernel_rfl
theorem yS8:Tryz.prog.cellsOf 210=1:=by kernel_rfl
theorem yT1:Tryz.prog.cellsOf 265=20:=by kernel_rfl
theorem yA2:(Go.Proofs.YtjjfjhkbmdbhkaaGreatDoor.Rows.laid_internal_strconv_uint64pow10:DataW Unit)=Lib.tabData .u64 SS:=by kernel_rfl
theorem xG6 : Tryz.prog.globalNamed "strconv.ErrSyntax" = some 2 := by kernel_rfl
theorem xG7 : Tryz.prog.globalNamed "strconv.ErrRange" = some 3 := by kernel_rfl
theorem yD9:(Tryz.prog.globals[2]?).map (·.type)=some 170:=by kernel_rfl
theorem yE0:(Tryz.prog.globals[3]?).map (·.type)=some 170:=by kernel_rfl
theorem yK2 : "*" ++ "errors.errorString" = "*errors.errorString" := by decide
theorem rowE (u : TypeId) (h : Tryz.prog.typeName? 3 u = some "*errors.errorString") : u = 279 :=
  typeName_ptr_named (nm := "errors.errorString") (by rw [yK2]; kernel_rfl) (by kernel_rfl) (by decide) u (by rw [yK2]; exact h)
theorem xD3 : Tryz.prog.underlying 170 = some (.interface #[("Error", 56)]) := by kernel_rfl
theorem xC2:Tryz.prog.underlying 279=some (.pointer 281):=by kernel_rfl
theorem yT0:Tryz.prog.cellsOf 281=1:=by kernel_rfl
theorem yS9:Tryz.prog.cellsOf 9=1:=by kernel_rfl
theorem yL4 {n : String} {text : List UInt8} {r : List (String × DataW Unit)} {W : World} {g : Nat} (h : laidMet Tryz.prog ((n, .iface "*errors.errorString" (.ptr (.agg [.lit (.string text)]))) :: r) W)
    (hg:Tryz.prog.globalNamed n=some g) (ht:(Tryz.prog.globals[g]?).map (·.type)=some 170):∃ p,W.var? Tryz.prog n=some #[.iface 279 p]:=by
  obtain ⟨a,s,hv,_⟩:=laid_sentinel h hg ht xD3 rowE xC2 Tryz.underlying281 rfl rfl Tryz.underlying9 yT0 yS9;exact ⟨_,hv⟩
theorem AT {W:World}{n:String}{g:Nat}{p:Value}(hg:Tryz.prog.globalNamed n=some g) (hv:W.var? Tryz.prog n=some #[.iface 279 p]) :
  g<W.heap.size∧∃ ys t fz,W.heap[g]? = some (.cells ys t fz)∧RL (fun b=>b<W.heap.size) W [AV.ifc 279 .any] (fun _=>none) ys.toList:=by
 unfold World.var? at hv;rw [hg] at hv;simp only [FW] at hv;split at hv
 ·rename_i c ty fz hh;cases hv;refine ⟨(aJ.1 hh).1,_,ty,fz,hh,?_⟩;simp only [RL,R];exact ⟨_,_,rfl,⟨p,rfl,trivial⟩,rfl⟩
 ·cases hv
theorem IS {W : World} {l : List (String × DataW Unit)} {a b : String × DataW Unit} (hl : l = [a, b, ("internal/strconv.uint64pow10", (Go.Proofs.YtjjfjhkbmdbhkaaGreatDoor.Rows.laid_internal_strconv_uint64pow10 : DataW Unit)), ("strconv.ErrRange", (Go.Proofs.YtjjfjhkbmdbhkaaGreatDoor.Rows.laid_strconv_ErrRange : DataW Unit)), ("strconv.ErrSyntax", (Go.Proofs.YtjjfjhkbmdbhkaaGreatDoor.Rows.laid_strconv_ErrSyntax : DataW Unit))]) (h0 : laidMet Tryz.prog l W) : oK (fun b => b < W.heap.size) W := by
  subst hl;obtain ⟨pr, hr⟩ := yL4 (n := "strconv.ErrRange") h0.tail.tail.tail xG7 yE0
  obtain ⟨pe, he⟩ := yL4 (n := "strconv.ErrSyntax") h0.tail.tail.tail.tail xG6 yD9
  obtain ⟨ps,hv,_⟩:=h0;obtain ⟨g,t,cs,fuel,p,h1,h2,h3,h4⟩:=Q9 hv (.tail _ (.tail _ (.head _)));obtain rfl:=Option.some.inj (yY7.symm.trans h1);obtain rfl:=Option.some.inj (zN9.symm.trans h2);rw [yA2] at h4;have e:=Lib.cells_of_tab xE4 xB4 yS8 yT1 h4;unfold World.var? at h3;rw [yY7] at h3;simp only [FW] at h3;intro g cs' hg;have hg':(g=0∧cs'=(SS.map fun z=>Value.int .u64 z).map .v)∨(g=2∧cs'=[AV.ifc 279 .any])∨(g=3∧cs'=[AV.ifc 279 .any]):=by
    simp only [wZ,bQ,iY,or_false,Prod.mk.injEq] at hg;rcases hg with hg | hg | hg
    · refine .inl ⟨hg.1,hg.2.trans ?_⟩;simp [SS,uF,Function.comp_def]
    · exact .inr (.inl hg)
    · exact .inr (.inr hg)
  rcases hg' with ⟨rfl,rfl⟩ | ⟨rfl,rfl⟩ | ⟨rfl,rfl⟩
  · split at h3
    · rename_i c ty fz hh;cases h3;refine ⟨(aJ.1 hh).1,cs,ty,fz,hh,?_⟩;rw [e];exact RI _
    · cases h3
  · exact AT xG6 he
  · exact AT xG7 hr
noncomputable def low (os:Os):Nat:=(World.holding Tryz.prog os ⟨#[],#[],[]⟩).heap.size
noncomputable def vB (os:Os):World:=
  { World.holding Tryz.prog os ⟨#[.cells #[.string ⟨#[118,97,108,117,101,32,111,117,116,32,111,102,32,114,97,110,103,101]⟩] 281,.cells #[.string ⟨#[105,110,118,97,108,105,100,32,115,121,110,116,97,120]⟩] 281],#[],[]⟩ with heap:=((((((World.holding Tryz.prog os ⟨#[.cells #[.string ⟨#[118,97,108,117,101,32,111,117,116,32,111,102,32,114,97,110,103,101]⟩] 281,.cells #[.string ⟨#[105,110,118,97,108,105,100,32,115,121,110,116,97,120]⟩] 281],#[],[]⟩).heap.modify 0 fun
      | .cells _ t frozen=>.cells #[.int .u64 1,.int .u64 10,.int .u64 100,.int .u64 1000,.int .u64 10000,.int .u64 100000,.int .u64 1000000,.int .u64 10000000,.int .u64 100000000,.int .u64 1000000000,.int .u64 10000000000,.int .u64 100000000000,.int .u64 1000000000000,.int .u64 10000000000000,.int .u64 100000000000000,.int .u64 1000000000000000,.int .u64 10000000000000000,.int .u64 100000000000000000,.int .u64 1000000000000000000,.int .u64 10000000000000000000] t frozen
      | o=>o).modify 4 fun
      | .cells _ t frozen=>.cells #[.int .u8 0,.int .u8 1,.int .u8 28,.int .u8 2,.int .u8 29,.int .u8 14,.int .u8 24,.int .u8 3,.int .u8 30,.int .u8 22,.int .u8 20,.int .u8 15,.int .u8 25,.int .u8 17,.int .u8 4,.int .u8 8,.int .u8 31,.int .u8 27,.int .u8 13,.int .u8 23,.int .u8 21,.int .u8 19,.int .u8 16,.int .u8 7,.int .u8 26,.int .u8 12,.int .u8 18,.int .u8 6,.int .u8 11,.int .u8 5,.int .u8 10,.int .u8 9] t frozen
      | o=>o).modify 5 fun
      | .cells _ t frozen=>.cells #[.int .u8 0,.int .u8 1,.int .u8 56,.int .u8 2,.int .u8 57,.int .u8 49,.int .u8 28,.int .u8 3,.int .u8 61,.int .u8 58,.int .u8 42,.int .u8 50,.int .u8 38,.int .u8 29,.int .u8 17,.int .u8 4,.int .u8 62,.int .u8 47,.int .u8 59,.int .u8 36,.int .u8 45,.int .u8 43,.int .u8 51,.int .u8 22,.int .u8 53,.int .u8 39,.int .u8 33,.int .u8 30,.int .u8 24,.int .u8 18,.int .u8 12,.int .u8 5,.int .u8 63,.int .u8 55,.int .u8 48,.int .u8 27,.int .u8 60,.int .u8 41,.int .u8 37,.int .u8 16,.int .u8 46,.int .u8 35,.int .u8 44,.int .u8 21,.int .u8 52,.int .u8 32,.int .u8 23,.int .u8 11,.int .u8 54,.int .u8 26,.int .u8 40,.int .u8 15,.int .u8 34,.int .u8 20,.int .u8 31,.int .u8 10,.int .u8 25,.int .u8 14,.int .u8 19,.int .u8 9,.int .u8 13,.int .u8 8,.int .u8 7,.int .u8 6] t frozen
      | o=>o).modify 3 fun
      | .cells _ t frozen=>.cells #[.iface 279 (.pointer (some ⟨low os,0,none⟩))] t frozen
      | o=>o).modify 2 fun
      | .cells _ t frozen=>.cells #[.iface 279 (.pointer (some ⟨low os+1,0,none⟩))] t frozen
      | o=>o) }
abbrev xH0:=Int × Int × Int × Int × List Int
abbrev yV0:=Bool × xH0 × (Int × Int × Int × Int)
abbrev yI9 (p:xH0):Prop:=D2 p.1∧D2 p.2.1∧D2 p.2.2.1∧D2 p.2.2.2.1∧p.2.2.2.2.length≤maxLen∧∀ a,a∈p.2.2.2.2→D2 a
abbrev yJ0 (p:Int × Int × Int × Int):Prop:=D2 p.1∧D2 p.2.1∧D2 p.2.2.1∧D2 p.2.2.2
theorem xC3:gY Tryz.prog 41 yI9 (fun p=>[AV.i p.1,AV.i p.2.1,AV.i p.2.2.1,AV.i p.2.2.2.1,.rowE (ints p.2.2.2.2) 1]):=
 gY.struct (fs:=[(3,0),(3,1),(3,2),(3,3),(24,4)]) (by kernel_rfl) (by kernel_rfl)
  (fun e W fuel css hl hx=>by
   obtain ⟨a,h1,h2,h3⟩:=gV.cons rS (gV.cons rS (gV.cons rS (gV.cons rS (gV.cons zK0 gV.nil)))) e W fuel css hl hx
   exact ⟨(a.1,a.2.1,a.2.2.1,a.2.2.2.1,a.2.2.2.2.1),⟨h1.1,h1.2.1,h1.2.2.1,h1.2.2.2.1,h1.2.2.2.2.1.1,h1.2.2.2.2.1.2⟩,by simpa using h2,by simpa using h3⟩)
  (fun _=>by kernel_rfl)
theorem xC4:gY Tryz.prog 43 yJ0 (fun p=>[AV.i p.1,AV.i p.2.1,AV.i p.2.2.1,AV.i p.2.2.2]):=
 gY.struct (fs:=[(3,0),(3,1),(3,2),(3,3)]) (by kernel_rfl) (by kernel_rfl)
  (fun e W fuel css hl hx=>by
   obtain ⟨a,h1,h2,h3⟩:=gV.cons rS (gV.cons rS (gV.cons rS (gV.cons rS gV.nil))) e W fuel css hl hx
   exact ⟨(a.1,a.2.1,a.2.2.1,a.2.2.2.1),⟨h1.1,h1.2.1,h1.2.2.1,h1.2.2.2.1⟩,by simpa using h2,by simpa using h3⟩)
  (fun _=>by kernel_rfl)
abbrev xA8 (p:yV0):List AV:=[AV.b p.1,AV.i p.2.1.1,AV.i p.2.1.2.1,AV.i p.2.1.2.2.1,AV.i p.2.1.2.2.2.1,.rowE (ints p.2.1.2.2.2.2) 1,AV.i p.2.2.1,AV.i p.2.2.2.1,AV.i p.2.2.2.2.1,AV.i p.2.2.2.2.2]
theorem yA8:gY Tryz.prog 45 (fun p:yV0=>yI9 p.2.1∧yJ0 p.2.2) xA8:=
 gY.struct (fs:=[(4,0),(41,1),(43,6)]) (by kernel_rfl) (by kernel_rfl)
  (fun e W fuel css hl hx=>by
   obtain ⟨a,h1,h2,h3⟩:=gV.cons zK1 (gV.cons xC3 (gV.cons xC4 gV.nil)) e W fuel css hl hx
   exact ⟨(a.1,a.2.1,a.2.2.1),⟨h1.2.1,h1.2.2.1⟩,by simpa using h2,by simpa using h3⟩)
  (fun _=>by kernel_rfl)
theorem HX:gY Tryz.prog 30 (fun l:List yV0=>l.length≤maxLen∧∀ p,p∈l→yI9 p.2.1∧yJ0 p.2.2) (fun l=>[.rowE (l.map xA8) 10]):=
 gY.slice Tryz.underlying30 (by kernel_rfl) (by kernel_rfl) (by decide) yA8
abbrev xA9 (p:yV0):En:=⟨p.1,⟨p.2.1.1,p.2.1.2.1,p.2.1.2.2.1,p.2.1.2.2.2.1,p.2.1.2.2.2.2⟩,⟨p.2.2.1,p.2.2.2.1,p.2.2.2.2.1,p.2.2.2.2.2⟩⟩
theorem yS1 (l:List yV0):l.map xA8=FC (l.map xA9):=by
 unfold FC;rw [uF];rfl
theorem zI3 (x:List KD × List LT × List Int × List BX) (_:True) (hx:x.2.2.2.length*24≤140737488351232) (c:Int × Int × Int × Int) (_:D2 c.1∧D2 c.2.1∧D2 c.2.2.1∧D2 c.2.2.2) (l:List yV0) (hl:l.length≤maxLen∧∀ p,p∈l→yI9 p.2.1∧yJ0 p.2.2) :
  aM Tryz.prog 4 [zJ x.1 x.2.1 x.2.2.1 x.2.2.2,qI c.1 c.2.1 c.2.2.1 c.2.2.2,.rowE (l.map xA8) 10] [] (.b true) []:=by
 rw [yS1];have hids:∀ e,e∈l.map xA9→e.s.ids.length≤9223372036854775807:=by
  intro s hs;obtain ⟨p,hp,rfl⟩:=bD.1 hs;exact bL (hl.2 p hp).1.2.2.2.2.1 (by decide)
 have hof:∀ e,e∈l.map xA9→(e.sold=false→e.s.ids.length≤12)→C4 (yO8 e):=by
  intro s hs h12;obtain ⟨p,hp,rfl⟩:=bD.1 hs;obtain ⟨⟨a1,a2,a3,a4,a5,a6⟩,b1,b2,b3,b4⟩:=hl.2 p hp;unfold yO8;cases h:p.1 with
  | true=>
   rw [if_pos h];exact ⟨uL b1,uL b2,uL b3,uL b4⟩
  | false=>
   rw [if_neg (by show ¬ p.1=true;rw [h];decide)]
   exact ⟨⟨uL a1,uL a2,uL a3,uL a4,fun y hy=>uL (a6 y hy)⟩,h12 h⟩
 generalize l.map xA9=l at *;rcases yF9 6 (by omega) x.1 x.2.1 (Go.Ab.nats (List.range x.2.2.2.length)) x.2.2.2 c.1 c.2.1 c.2.2.1 c.2.2.2 with hf | ⟨hf,f,hs,t,h6⟩
 ·exact zH9 _ _ _ _ _ _ _ _ l (by omega) hids (.inr hf)
 ·cases h:QC l 12 4 with
  | false=>exact zH9 _ _ _ _ _ _ _ _ l (by omega) hids (.inl h)
  | true=>
   obtain ⟨_,_,hid2⟩:=QB h;exact zZ5 (xI8 x c) ⟨f,hs⟩ (by simpa using h6) _ l hf hids h fun e he=>hof e he fun hq=>hid2 e.s (bD.2 ⟨e,dX.2 ⟨he,by rw [hq];rfl⟩,rfl⟩)
end Go.Proofs.Q
