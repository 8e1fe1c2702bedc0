/-
  Texts of the logic and of the layer,in one module (part 3).
-/
import Derived.Test.YtbialaoigijlgaaGreatDoorF2
import Derived.Sort.Grow
import Derived.Lib.SliceRun
import Derived.SizedLaws
import Derived.Maps.RangeRun
import Derived.Lib.AppendStr
import Derived.Laws.Concat
import Derived.Laws.Strings
import Derived.Laws.Strings2
import Derived.Laws.Strings3
import Derived.Lib.UnsafeStr
import Derived.RangeFuncGives
import Derived.Lib.SlKeysI
import Derived.Maps.Own
import Derived.Deep.Draws
import Derived.Lib.LaidTab
import Derived.Lib.ItoaNum
import Derived.Lib.Builder
import Derived.Laws.Pointers
import Derived.Maps.Views
import Derived.WideShapes
import Derived.Shelf.Lay
import Derived.Shelf.Sort.Plain
import Derived.Shelf.Slices.In.SortNone
import Derived.Ground.NamesProg
import Derived.WalkKit
set_option linter.unusedVariables false
set_option linter.unusedSimpArgs false
set_option linter.unnecessarySimpa false

namespace Go.Ab
open Go
def D3 (P : Program) (t : TypeId) (k : IntKind) : Prop := P.underlying t = some (.int k)
section
variable {P : Program} {env : dI} {h : Hp} {d : Option Nat} {ty : TypeId} {pos : String} {af : Array Edge} {g : Option (Nat × Bool)}
theorem iC {s t : TypeId} {x : Operand} {ks k kk : IntKind} {n : Int} (hs : D3 P s ks) (ht : D3 P t k) (hx : evu env x = some (.v (.int kk n))) (hn : k.wrap n = n) :
    bT P ⟨d,.convert s t x,ty,pos,af,g⟩ env h 0 (fun _ => .v (.int k n)) (fun _ => []) := KS hs ht hx hn
theorem BH {n : Int} (h0 : 0 ≤ n) (h1 : n < 18446744073709551616) : IntKind.u64.wrap n = n := by
  simp [IntKind.wrap,IntKind.signed,IntKind.bits];omega
end
end Go.Ab
namespace Go.Ab
open Go Go.MapKept
section
variable {P : Program} {env : dI} {h : Hp} {d : Option Nat} {ty : TypeId} {pos : String} {af : Array Edge} {g : Option (Nat × Bool)}
variable {t kt et : TypeId} {good : Value → Prop} {x y : Operand} {k i : Nat} {kv : Value} {ks : List Value} {vs : List AV} {v : AV}
end
theorem V4.int {P : Program} {kt : TypeId} (hd : P.underlying kt = some (.int .i64)) : V4 P kt (IsKey (.int .i64)) := V4.plain hd
end Go.Ab
namespace Go.Ab
open Go
set_option maxHeartbeats 1000000
abbrev ET (l : List Int) : List (List AV) := l.map fun n => [AV.i n]
def hO (l : List Int) : List Int := l.mergeSort fun x y => decide (x ≤ y)
theorem oM (l : List Int) : (hO l).length = l.length := List.length_mergeSort l
theorem qJ : ∀ l : List Int, (ET l).flatten = l.map AV.i
  | [] => rfl
  | a :: l => by
    show [AV.i a] ++ (ET l).flatten = _;rw [qJ l];rfl
theorem uC {S : Nat → Prop} {w : World} {ρ : Pl} : ∀ {l : List Int} {ys : List Value}, RL S w (l.map AV.i) ρ ys ↔ ys = l.map (Value.int .i64)
  | [],ys => by simp [RL]
  | a :: l,ys => by
    simp only [List.map_cons,RL,R];constructor
    · rintro ⟨y,zs,rfl,rfl,h⟩;rw [uC.1 h]
    · rintro rfl;exact ⟨_,_,rfl,rfl,uC.2 rfl⟩
theorem A6 {w : World} {n b off : Nat} {d : List Int} {os : Array Obj} {c : Array Value} {e : TypeId} (hc : w.heap[b]? = some (.cells c e (0,0))) (hb : b < w.heap.size) :
    (Sort.grow (Sort.putRow (Value.int .i64) (Sort.ahead w n) b off d.toArray) os).heap[b]? = some (.cells (Sort.putCells (Value.int .i64) off d.toArray c) e (0,0)) := by
  rw [Sort.heap_grow_old _ _ (by rw [Sort.size_putRow];exact hb)]
  unfold Sort.putRow Sort.mapBlock;show (w.heap.modify b _)[b]? = _;rw [lH,if_pos rfl,hc];rfl
theorem K0 {w : World} {n b off : Nat} {d : List Int} {os : Array Obj} {c : Array Value} {e : TypeId} (hc : w.heap[b]? = some (.cells c e (0,0))) (hb : b < w.heap.size) :
    kY (fun x => x = b) w (Sort.grow (Sort.putRow (Value.int .i64) (Sort.ahead w n) b off d.toArray) os) := by
  have other : ∀ x,x < w.heap.size → x ≠ b → (Sort.grow (Sort.putRow (Value.int .i64) (Sort.ahead w n) b off d.toArray) os).heap[x]? = w.heap[x]? := fun x hx hne => by
    rw [Sort.heap_grow_old _ _ (by rw [Sort.size_putRow];exact hx)]
    unfold Sort.putRow Sort.mapBlock;show (w.heap.modify b _)[x]? = _;rw [lH,if_neg (Ne.symm hne)]
  refine ⟨rfl,rfl,rfl,by rw [Sort.size_grow,Sort.size_putRow];exact gD _ _,fun x hx hne => other x hx hne,fun x cc ee fz hcc => ?_⟩
  by_cases hx : x = b
  · subst hx;rw [hc] at hcc;cases hcc;exact ⟨_,_,A6 hc hb,by simp [Sort.putCells]⟩
  · exact ⟨cc,fz,by rw [other x (aH.1 hcc).1 hx];exact hcc,rfl⟩
theorem GL {P : Program} {f : FuncId} (hfn : ∃ fn, P.funcs[f]? = some fn ∧ (fn.name == "runtime.NumGoroutine") = false ∧ fn.body.isNone = false)
    (hs : ∀ (blk off cap : Nat) (zs : List Int) (w : World),Sort.Holds (Value.int .i64) w blk off zs.toArray → blk < w.heap.size → zs.length < 4611686018427387904 →
      Calls P f #[.slice (some ⟨blk,off,none⟩) zs.length cap] w fun e w' => e = .returned (.tuple #[]) ∧ ∃ n os,w' = Sort.grow (Sort.putRow (Value.int .i64) (Sort.ahead w n) blk off (zs.mergeSort fun x y => decide (x ≤ y)).toArray) os)
    (hn : ∀ (p : Option Addr) (cap : Nat) (w : World),Calls P f #[.slice p 0 cap] w fun e w' => e = .returned (.tuple #[]) ∧ w' = w)
    (l : List Int) (hl : l.length ≤ 17592186043904) : aQ P f [.sl 0 0 l.length 1] [.arr (ET l) 1] (.tup []) [.arr (ET (hO l)) 1] := by
  refine ⟨hfn,fun ρ S w vs s hv => ?_⟩
  simp only [RL] at hv;obtain ⟨y,_,rfl,hy,rfl⟩ := hv;simp only [R] at hy;obtain ⟨a,cap,rfl,hcap,hy⟩ := hy;cases l with
  | nil =>
    refine (hn a cap w).mono fun e w' ⟨he,hw⟩ => ?_
    subst he hw;rw [show hO [] = [] from by simp [hO]]
    exact ⟨_,ρ,S,rfl,s,by simp [R,RL]⟩
  | cons i0 l0 =>
    rcases hy with ⟨h0,_⟩ | ⟨b,o,hp,ha,hcl,_⟩
    · cases h0
    · obtain ⟨_,_,h3⟩ := s.blk 0 _ rfl;rcases h3 with ⟨h3,_⟩ | ⟨b',o',ys,h4,h5,h6⟩
      · cases h3
      · rw [hp] at h4;cases h4;rw [qJ] at h6;have h6 := uC.1 h6;subst h6;obtain ⟨c,ty,hc,hg⟩ := h5;have hb := (aH.1 hc).1;rw [Q8,Nat.add_zero] at ha;subst ha;have hH : Sort.Holds (Value.int .i64) w b o (i0 :: l0).toArray := fun j hj => by
          have hj : j < (i0 :: l0).length := by simpa using hj
          have := hg j (.int .i64 (i0 :: l0)[j]) (by rw [bJ,aB hj];rfl)
          refine ⟨?_,?_⟩
          · unfold World.cell?;simp only [hc];rw [if_neg (by simp),this]
            congr 2;rw [getElem!_pos _ j (by simpa using hj)]
            simp
          · unfold World.frozen?;simp only [hc];simp
        refine (hs b o cap (i0 :: l0) w hH hb (by omega)).mono fun e w' ⟨he,n,os,hw⟩ => ?_
        subst he;have hlen := oM (i0 :: l0);have hw : w' = Sort.grow (Sort.putRow (Value.int .i64) (Sort.ahead w n) b o (hO (i0 :: l0)).toArray) os := hw;have hh : w'.heap[b]? = some (.cells (Sort.putCells (Value.int .i64) o (hO (i0 :: l0)).toArray c) ty (0,0)) := by rw [hw];exact A6 hc hb
        obtain ⟨s',_⟩ := s.upd (k := 0) (b0 := .arr (ET (i0 :: l0)) 1) (nb := .arr (ET (hO (i0 :: l0))) 1) (w' := w') rfl (by simp) hp (by rw [hw];exact K0 hc hb) (fun _ => by
          refine ⟨fun e he => by obtain ⟨i,_,rfl⟩ := bL.1 he;rfl,WD,.inr ⟨b,o,(hO (i0 :: l0)).map (Value.int .i64),rfl,⟨_,ty,hh,fun j y hj => ?_⟩,by rw [qJ];exact uC.2 rfl⟩⟩
          rw [bJ] at hj;obtain ⟨z,hz,rfl⟩ := eP.1 hj;obtain ⟨hjl,hz⟩ := aA.1 hz;have hold := hg j (.int .i64 ((i0 :: l0)[j]'(by omega))) (by rw [bJ,aB (by omega)];rfl)
          have hlt := (aH.1 hold).1;unfold Sort.putCells;rw [BD,hold];show some (if o ≤ o + j ∧ o + j < o + (hO (i0 :: l0)).toArray.size then _ else _) = _
          rw [if_pos ⟨by omega,by simpa using hjl⟩]
          congr 2;rw [show o + j - o = j by omega,getElem!_pos _ j (by simpa using hjl)]
          simpa using hz)
        exact ⟨_,ρ,S,rfl,s',by simp [R,RL]⟩
theorem mF {es : List (List AV)} {sz : Nat} (h : ∀ e,e ∈ es → e.length = sz) (m : Nat) : (es.take m).flatten = es.flatten.take (m * sz) := by
  induction es generalizing m with
  | nil => simp
  | cons a l ih =>
    have ha := h a bB;cases m with
    | zero => simp
    | succ m =>
      rw [mQ,dU,dU,ih (fun e he => h e (aY _ he)),jR];rw [cF (l := a) (by rw [ha,eL];omega),ha,eL,EO,LO]
theorem AX {S : Nat → Prop} {w : World} {ρ : Pl} {p : Option (Nat × Nat)} {es : List (List AV)} {sz : Nat} (m : Nat) (h : RB S w ρ p (.arr es sz)) : RB S w ρ p (.arr (es.take m) sz) := by
  obtain ⟨h1,h2,h3⟩ := h;refine ⟨fun e he => h1 e (eD he),h2,?_⟩;rcases h3 with h3 | ⟨b,o,ys,h4,⟨c,e,h5,h6⟩,h7⟩
  · exact .inl ⟨by rw [h3.1];simp,h3.2⟩
  · refine .inr ⟨b,o,ys.take (m * sz),h4,⟨c,e,h5,fun j y hj => h6 j y ?_⟩,by rw [mF h1];exact oR h7 _⟩
    rw [bM] at hj;split at hj
    · exact hj
    · cases hj
section
variable {P : Program} {env : dI} {h : Hp} {n : Nat × Nat} {ops : Array Oper} {rest : List Oper} {K : dI → Hp → Prop} {ty : TypeId} {pos : String} {af : Array Edge}
theorem LZ (T : nN P) {t e k off len : Nat} {i : TI} {x : Operand} {es : List (List AV)} (hx : evu env x = some (.sl k off len 1)) (ht : T.elem t = some e) (he : T.ti e = some i) (hz : i.zero = [.int .i64 0]) (hkk : h[k]? = some (.arr es 1)) (hle : off + len ≤ es.length)
    (hk : VC P n ops rest env (h.set k (.arr (es.take off) 1)) K) : VC P n ops (⟨none,.call { callee := .builtin .clear,args := #[x],argTypes := #[t] },ty,pos,af,none⟩ :: rest) env h K := by
  intro c ρ S a w Q s hQ;refine wpList_plain rfl fun K' hK' => ?_
  have p := s.pre;have hxv := p.evu hx;simp only [R] at hxv;obtain ⟨ad,cap,hev,_,hxv⟩ := hxv;obtain ⟨inf,z,t1,t2,t3,t4,t5,t6,t7⟩ := T.tiOk e i he;have hund : P.underlying t = some (.slice e) := T.elemOk _ _ ht;have hzv : ∀ w,(zeroValue e).run P w = .ok z w := fun w => by simp [zeroValue,typeInfo,t1,t4]
  have hzc : z.cells = #[.int .i64 0] := by
    rw [hz] at t5;exact Array.toList_inj.1 t5
  have ev1 : ∀ r w',(Builtin.clear_ #[t] ty #[a.eval x]).run P w = .ok r w' → (execOp a.eval ⟨none,.call { callee := .builtin .clear,args := #[x],argTypes := #[t] },ty,pos,af,none⟩).run P w = .ok (.value r) w' := fun r w' hr => by
    simp [execOp,resolve,invoke,builtin,hr]
  have fin : ∀ {r : Value} {w' : World},(Builtin.clear_ #[t] ty #[a.eval x]).run P w = .ok r w' → HS c ρ S (h.set k (.arr (es.take off) 1)) w' ∧ gM ρ ρ S S w w' → Oper.wp P ⟨none,.call { callee := .builtin .clear,args := #[x],argTypes := #[t] },ty,pos,af,none⟩ a w K' Q := fun {r w'} hr ⟨g1,g2⟩ => by
    unfold Oper.wp;rw [ev1 r w' hr];exact hK' _ _ (hk c ρ S _ _ Q ⟨by rw [kN];exact s.size,by rw [iO];exact s.defers.later g2,fun tt uu huu => (s.env tt uu huu).later g2,g1,s.cm⟩ hQ)
  have stay : HS c ρ S (h.set k (.arr (es.take off) 1)) w ∧ gM ρ ρ S S w w := ⟨s.hs.alter hkk (AX off) (by simp),⟨fun _ _ h => h,fun _ h => h,fun _ _ => rfl,fun _ _ _ _ _ h => h⟩⟩
  cases len with
  | zero =>
    refine fin (r := .tuple #[]) ?_ stay;rw [hev];cases ad <;> simp [Builtin.clear_,run_underlying hund]
  | succ m =>
    rcases hxv with ⟨h0,_⟩ | ⟨b,o,hp,ha,hlc,hroom⟩
    · cases h0
    · have hB := p.blk k _ hkk;obtain ⟨hes,hs0,hB⟩ := hB;rcases hB with hB | ⟨b',o',ys,h4,⟨cc,ct,h5,h6⟩,h7⟩
      · obtain ⟨hB,_⟩ := hB;subst hB;simp at hle
      rw [hp] at h4;cases h4;have hyl := fH h7;have hfl := eZ hes;have hlast := h6 (ys.length - 1) (ys[ys.length - 1]'(by omega)) (aB _)
      have hsz := (aH.1 hlast).1;have hzs : (Builtin.zeroCells z.cells (m + 1)).toList = List.replicate (m + 1) (.int .i64 0) := by
        rw [hzc];simp [Builtin.zeroCells];apply VL
        · simp
        · intro i h1 h2;simp [Nat.mod_one]
      have hst := run_storeCells_at P b (o + off) ct (List.replicate (m + 1) (Value.int .i64 0)) 0 cc w h5 (by rw [List.length_replicate];omega) (by intro v hv;rw [qR hv];rfl)
      rw [Nat.mul_one] at ha;subst ha;refine fin (r := .tuple #[]) (w' := w.setRow b (cc.toList.take (o + off + 0) ++ List.replicate (m + 1) (Value.int .i64 0) ++ cc.toList.drop (o + off + 0 + (List.replicate (m + 1) (Value.int .i64 0)).length)).toArray) ?_ (s.hs.upd hkk (by simp) hp (nL h5 ?_) fun l => ?_)
      · rw [hev];simp only [Builtin.clear_];simp [run_underlying hund,hzv,hzs,hst]
      · simp;omega
      · refine ⟨fun e he => hes e (eD he),WD,.inr ⟨b,o,ys.take off,rfl,⟨_,ct,setRow_heap w b cc _ ct _ h5,fun j y hj => ?_⟩,?_⟩⟩
        · rw [bM] at hj;split at hj
          · rename_i hjo;have := h6 j y hj;have hjl := (aH.1 this).1;rw [fZ,bE,aF (by simp;omega),bM,if_pos (by omega)]
            simpa using this
          · cases hj
        · rw [mF hes,Nat.mul_one];exact oR (h7.later l) off
end
end Go.Ab
namespace Go.Ab
open Go
section
variable {P : Program} {env : dI} {h : Hp} {n : Nat × Nat} {ops : Array Oper} {rest : List Oper} {K : dI → Hp → Prop} {ty : TypeId} {pos : String} {af : Array Edge}
theorem qE {t t2 e len sz dd : Nat} {cs : List AV} {x y : Operand} (T : nN P) (hx : evu env x = some (.row cs len sz)) (hy : evu env y = some .nils) (ht : T.elem t = some e) (hd : P9 (some dd) n = true)
    (hk : ∀ b : Bool,(0 < len → b = false) → VC P n ops rest ((dd,.b b) :: env) h K) : VC P n ops (⟨some dd,.binOp .eql t x y t2,ty,pos,af,none⟩ :: rest) env h K := by
  intro c ρ S a w Q s hQ;refine wpList_plain rfl fun K' hK' => ?_
  have p := s.pre;have h3 := p.evu hx;simp only [R] at h3;obtain ⟨ad,cap,h4,hlc,hn,_⟩ := h3;have h5 := qX (p.evu hy);have run : (execOp a.eval ⟨some dd,.binOp .eql t x y t2,ty,pos,af,none⟩).run P w = .ok (.value (.bool ad.isNone)) w := by
    have he := Lib.run_eql_slice_nil w t e ad len cap 0 0 (T.elemOk _ _ ht);have hg : (eqGuard .eql t x y (.slice ad len cap) (.slice none 0 0)).run P w = .ok () w := by cases ad <;> rfl
    simp [execOp,h4,h5,hg,he]
  have hv := hk ad.isNone (fun h0 => by
    cases ad with
    | none => have := hn rfl;omega
    | some _ => rfl)
  unfold Oper.wp;rw [run];have hs := s.post (d := some dd) (m := 0) (x := .b ad.isNone) (new := []) (y := .bool ad.isNone) hd ⟨kY.refl _ _,rfl,fun _ _ => rfl,fun _ h => h,fun _ h => .inl h,fun k p h1 h2 => by omega,fun k k' p p' h1 h2 => by omega,kT _,fun j b hb => by simp at hb⟩
  rw [List.append_nil] at hs;exact hK' _ _ (hv c ρ S _ w Q hs hQ)
end
theorem HS.freezeC {c : mR} {ρ : Pl} {S : Nat → Prop} {h : Hp} {w : World} {k : Nat} {x : AB} (s : HS c ρ S h w) (hk : h[k]? = some x) (hx : x ≠ .gone) : HS c ρ (fun b => S b ∨ ∃ o,ρ k = some (b,o)) (h.set k .gone) w := by
  have get : ∀ {j : Nat} {b : AB},(h.set k .gone)[j]? = some b → b ≠ .gone → j ≠ k ∧ h[j]? = some b := fun {j b} hj hg => by
    rw [gH] at hj;split at hj
    · split at hj
      · cases hj;exact absurd rfl hg
      · cases hj
    · rename_i e;exact ⟨fun e' => e e'.symm,hj⟩
  have l : gM ρ ρ S (fun b => S b ∨ ∃ o,ρ k = some (b,o)) w w := ⟨fun _ _ h => h,fun _ h => .inl h,fun _ _ => rfl,fun _ _ _ _ _ h => h⟩
  refine ⟨fun j hj => s.dom j (by simpa using hj),s.rng,fun j b hb => ?_,fun j b p hb hg hp => ?_,fun j j' b b' p p' hb hb' hg hg' hp hp' e => s.inj j j' b b' p p' (get hb hg).2 (get hb' hg').2 hg hg' hp hp' e,fun b hb => ?_,s.ext,fun b hb => .inl (s.st0 b hb),fun b hb => ?_,by simpa using s.mle,s.keep,s.glob.st (fun b hb => .inl hb)⟩
  · by_cases hg : b = .gone
    · subst hg;trivial
    · exact RB.later l (fun _ _ _ => rfl) (s.blk j b (get hb hg).2)
  · obtain ⟨h1,h2⟩ := s.live j b p (get hb hg).2 hg hp;refine ⟨h1,fun hs => ?_⟩
    rcases hs with hs | ⟨o,ho⟩
    · exact h2 hs
    · exact (get hb hg).1 (s.inj j k b _ p _ (get hb hg).2 hk hg hx hp ho rfl)
  · rcases hb with hb | ⟨o,ho⟩
    · exact s.stab b hb
    · exact s.rng k _ ho
  · rcases hb with hb | ⟨o,ho⟩
    · exact s.st1 b hb
    · exact .inr (s.live k _ _ hk hx ho).1
theorem DI {S : Nat → Prop} {w : World} {ρ : Pl} {k off : Nat} {cs : List AV} (hi : AV.idfL cs = true) (hb : RB S w ρ (ρ k) (.cells cs)) {y : Value} (hy : R S w (.ptr k off) ρ y) : R (fun c => S c ∨ ∃ o,ρ k = some (c,o)) w (.pr cs off) ρ y := by
  simp only [RB] at hb;obtain ⟨b,o,ys,h1,h2,h3⟩ := hb;simp only [R] at hy ⊢;obtain ⟨b',o',h4,rfl⟩ := hy;rw [h1] at h4;cases h4;exact ⟨b,o,ys,rfl,.inr ⟨o,h1⟩,h2.lies,RI (fun _ h => .inl h) (rU ρ _ _ _ hi h3)⟩
theorem GP {P : Program} {f : FuncId} {args cs : List AV} {fn : Fn} (hi : AV.idfL cs = true) (h : aQ P f args [] (.clo fn [] [.ptr 0 0]) [.cells cs]) : aQ P f args [] (.clo fn [] [.pr cs 0]) [] := by
  refine ⟨h.1,fun ρ S w vs hs ha => (h.2 ρ S w vs hs ha).mono ?_⟩;rintro e w' ⟨y,ρ',S',rfl,h2,h3⟩;simp only [R,RL] at h3;obtain ⟨ys,zs,rfl,h4,y2,z2,e2,h5,e3⟩ := h3;refine ⟨_,_,_,rfl,(h2.freezeC (k := 0) rfl (by simp)).none rfl,?_⟩
  unfold R;refine ⟨ys,zs,rfl,?_,?_⟩
  · simp only [RL];exact h4
  · rw [e2,e3];simp only [RL];refine ⟨y2,[],rfl,EK ρ' _ _ _ rfl (DI hi (h2.blk 0 _ rfl) ?_),rfl⟩;simp only [R];exact h5
abbrev ints (l : List Int) : List (List AV) := l.map fun n => [AV.i n]
abbrev nats (l : List Nat) : List Int := l.map fun n : Nat => (n : Int)
theorem cP (l : List Int) : ∀ e,e ∈ ints l → e.length = 1 := by intro e he;obtain ⟨n,_,rfl⟩ := bL.1 he;rfl
theorem bO (l : List Int) : ∀ e,e ∈ ints l → AV.idfL e = true := by intro e he;obtain ⟨i,_,rfl⟩ := bL.1 he;rfl
theorem HU (l : List Int) : AV.rfL (ints l).flatten = true := by
  induction l with
  | nil => rfl
  | cons c l ih => exact ih
theorem M4 (θ : Nat → Nat) (l : List Int) : (ints l).map (AV.mapL θ) = ints l := by
  rw [yC];rfl
theorem zD (l : List Int) : (ints l).flatten.all AV.one = true :=
  bA.2 fun x hx => by obtain ⟨i,_,rfl⟩ := bL.1 ((qJ l) ▸ hx);rfl
theorem KE (l : List Int) : AV.idfL (ints l).flatten = true := by
  induction l with
  | nil => rfl
  | cons c l ih => exact ih
theorem mE {l : List Int} {j : Int} {i : Nat} (d : Int) (h : i < l.length) (e : j = i) : (ints l)[j.toNat]? = some [AV.i (l.getD i d)] := by
  subst e;rw [bR,bJ,aB h,aC,aB h];rfl
theorem zE {l : List Int} {j : Int} {i : Nat} (d : Int) (h : i < l.length) (e : j = i) : (ints l)[0 + j.toNat]? = some [AV.i (l.getD i d)] := by
  rw [Nat.zero_add];exact mE d h e
theorem HT {l : List Int} {j x : Int} {i : Nat} (e : j = i) : (ints l).set (0 + j.toNat) [AV.i x] = ints (l.set i x) := by
  subst e;rw [Nat.zero_add,bR,← Q9]
theorem Q3 : ∀ i : Nat,i < 1 → ([0] : List Nat)[i]? = some i := by decide
theorem J4 (h : Hp) : ∀ l : List Int, kS h (ints l).flatten (ints l).flatten
  | [] => .nil
  | _ :: l => .cons (.v _) (J4 h l)
theorem wH {h : Hp} {k n : Nat} {l : List Int} (hk : h[k]? = some (.arr (ints l) 1)) (hn : n = l.length) : mN h (.sl k 0 n 1) (.rowE (ints l) 1) := by
  subst hn;have := mN.sl (h := h) (k := k) (off := 0) (len := l.length) hk (by simp) (by rw [nC,cF (by simp)];exact J4 h l)
  rwa [show l.length = (ints l).length by simp] at this ⊢
theorem kJ {l : List (List AV)} {n : Nat} {x : List AV} (h : n = l.length) : List.take n (List.drop 0 l) ++ [x] = l ++ [x] := by
  rw [nC,h,cO]
theorem C3 (l : List Int) (x : Int) : ints l ++ [[AV.i x]] = ints (l ++ [x]) := by simp
theorem JW (l : List Nat) (x : Nat) : ints (nats l) ++ [[AV.i (x : Int)]] = ints (nats (l ++ [x])) := by simp
theorem cY (l : List Int) : (ints l).length = l.length := bN _
end Go.Ab
namespace Go.Ab
open Go
set_option maxHeartbeats 1000000
theorem zI (w : World) : Sort.grow w #[] = w := by simp [Sort.grow]
theorem OW {c : mR} {ρ : Pl} {S : Nat → Prop} {l : List Int} {w : World} {b o : Nat} (s : HS c ρ S [.arr (ET l) 1] w) (hp : ρ 0 = some (b,o)) (hne : l ≠ []) : Sort.Holds (Value.int .i64) w b o l.toArray ∧ b < w.heap.size := by
  obtain ⟨_,_,h3⟩ := s.blk 0 _ rfl;rcases h3 with h3 | ⟨b',o',ys,h4,h5,h6⟩
  · exact absurd (kU.1 h3.1) hne
  · rw [hp] at h4;cases h4;rw [qJ] at h6;have h6 := uC.1 h6;subst h6;obtain ⟨c,ty,hc,hg⟩ := h5;refine ⟨fun j hj => ?_,(aH.1 hc).1⟩;have hj : j < l.length := by simpa using hj
    have := hg j (.int .i64 l[j]) (by rw [bJ,aB hj];rfl)
    refine ⟨?_,?_⟩
    · unfold World.cell?;simp only [hc];rw [if_neg (by simp),this]
      congr 2;rw [getElem!_pos _ j (by simpa using hj)]
      simp
    · unfold World.frozen?;simp only [hc];simp
theorem WS {c : mR} {ρ : Pl} {S : Nat → Prop} {l d : List Int} {w w' : World} {b o n : Nat} {os : Array Obj} (s : HS c ρ S [.arr (ET l) 1] w) (hp : ρ 0 = some (b, o)) (hne : l ≠ []) (hl : d.length = l.length)
    (hw : w' = Sort.grow (Sort.putRow (Value.int .i64) (Sort.ahead w n) b o d.toArray) os) : HS c ρ S [.arr (ET d) 1] w' := by
  obtain ⟨_,_,h3⟩ := s.blk 0 _ rfl;rcases h3 with h3 | ⟨b',o',ys,h4,h5,h6⟩
  · exact absurd (kU.1 h3.1) hne
  · rw [hp] at h4;cases h4;rw [qJ] at h6;have h6 := uC.1 h6;subst h6;obtain ⟨c,ty,hc,hg⟩ := h5;have hb := (aH.1 hc).1;have hh : w'.heap[b]? = some (.cells (Sort.putCells (Value.int .i64) o d.toArray c) ty (0,0)) := by rw [hw];exact A6 hc hb
    obtain ⟨s',_⟩ := s.upd (k := 0) (b0 := .arr (ET l) 1) (nb := .arr (ET d) 1) (w' := w') rfl (by simp) hp (by rw [hw];exact K0 hc hb) (fun _ => by
      refine ⟨fun e he => by obtain ⟨i,_,rfl⟩ := bL.1 he;rfl,WD,.inr ⟨b,o,d.map (Value.int .i64),rfl,⟨_,ty,hh,fun j y hj => ?_⟩,by rw [qJ];exact uC.2 rfl⟩⟩
      rw [bJ] at hj;obtain ⟨z,hz,rfl⟩ := eP.1 hj;obtain ⟨hjl,hz⟩ := aA.1 hz;have hold := hg j (.int .i64 (l[j]'(by omega))) (by rw [bJ,aB (by omega)];rfl)
      unfold Sort.putCells;rw [BD,hold];show some (if o ≤ o + j ∧ o + j < o + d.toArray.size then _ else _) = _
      rw [if_pos ⟨by omega,by simpa using hjl⟩]
      congr 2;rw [show o + j - o = j by omega,getElem!_pos _ j (by simpa using hjl)]
      simpa using hz)
    exact s'
theorem AQ {P : Program} {f : FuncId} (hfn : ∃ fn, P.funcs[f]? = some fn ∧ (fn.name == "runtime.NumGoroutine") = false ∧ fn.body.isNone = false)
    (hs : ∀ (blk off cap i j : Nat) (zs : List Int) (w : World),Sort.Holds (Value.int .i64) w blk off zs.toArray → zs.length ≤ cap → cap ≤ 9223372036854775807 → i ≤ j → j ≤ zs.length →
      Calls P f #[.slice (some ⟨blk,off,none⟩) zs.length cap,.int .i64 i,.int .i64 j] w fun e w' => e = .returned (.slice (some ⟨blk,off,none⟩) (zs.length - (j - i)) cap) ∧ ∃ q,w' = Sort.putRow (Value.int .i64) (Sort.ahead w q) blk off (zs.take i ++ zs.drop j ++ List.replicate (j - i) 0).toArray)
    (l : List Int) (i j : Nat) (hij : i ≤ j) (hj : j ≤ l.length) (hne : l ≠ []) :
    aQ P f [.sl 0 0 l.length 1,.i (i : Int),.i (j : Int)] [.arr (ET l) 1] (.sl 0 0 (l.length - (j - i)) 1) [.arr (ET (l.take i ++ l.drop j)) 1] := by
  refine ⟨hfn,fun ρ S w vs s hv => ?_⟩
  simp only [RL] at hv;obtain ⟨y,_,rfl,hy,y2,_,rfl,hy2,y3,_,rfl,hy3,rfl⟩ := hv;simp only [R] at hy hy2 hy3;subst hy2 hy3;obtain ⟨a,cap,rfl,hcap,hy⟩ := hy;have hl0 : 0 < l.length := dZ.2 hne;rcases hy with ⟨h0,_⟩ | ⟨b,o,hp,ha,hcl,hrm⟩
  · omega
  · obtain ⟨hH,hb⟩ := OW s hp hne;rw [Q8,Nat.add_zero] at ha;subst ha;have hmax : maxLen ≤ 9223372036854775807 := by decide
    refine (hs b o cap i j l w hH hcl (by omega) hij hj).mono fun e w' ⟨he,n,hw⟩ => ?_
    subst he;have s' := WS (n := n) (os := #[]) (w' := w') (d := l.take i ++ l.drop j ++ List.replicate (j - i) 0) s hp hne (by simp only [aD,aU,dB,List.length_replicate];omega) (by rw [zI];exact hw)
    have e2 : ET (l.take i ++ l.drop j) = (ET (l.take i ++ l.drop j ++ List.replicate (j - i) 0)).take (l.take i ++ l.drop j).length := by
      rw [← jU,List.take_append_of_le_length (aX _),cO]
    refine ⟨_,ρ,S,rfl,?_,?_⟩
    · have := s'.alter (k := 0) (b1 := .arr (ET (l.take i ++ l.drop j)) 1) rfl (fun h => by rw [e2];exact AX _ h) (by simp)
      exact this
    · have hE := s'.ext;have hx : room w' b (o + (0 + cap) * 1) := by
        have hext : kY (fun _ => True) w w' := ?_;exact hext.room hrm;rw [hw];have := s.blk 0 _ rfl;obtain ⟨_,_,h3⟩ := this;rcases h3 with h3 | ⟨b',o',ys,h4,h5,h6⟩
        · exact absurd (kU.1 h3.1) hne
        · rw [hp] at h4;cases h4;obtain ⟨c,ty,hc,_⟩ := h5;have := K0 (n := n) (off := o) (d := l.take i ++ l.drop j ++ List.replicate (j - i) 0) (os := #[]) hc hb;rw [zI] at this;exact this.mono fun _ _ _ => trivial
      simp only [R];exact ⟨_,cap,rfl,hcap,.inr ⟨b,o,hp,by simp,by omega,hx⟩⟩
end Go.Ab
namespace Go.Ab
open Go
end Go.Ab
namespace Go.Ab
open Go
set_option maxHeartbeats 1000000
section
variable {cA : mR} {l : Nat} {rec0 : Loop} {E : dI} {HA : Nat → Hp} {GO : Nat → Nat × Bool} {J : JT} {A : Nat → Prop} {Q : Nat × Bool → Exit → dI → Hp → Prop}
theorem YN.later {g : Nat × Bool} {c c' : mR} {ρ ρ' : Pl} {S S' W N N' : Nat → Prop} {h h' : Hp} {w w' : World} (hJ : RW J) (j : YN J A g c ρ S h w W N) (x : kY (fun b => ¬ N' b) w w') (hN : ∀ b, N b → N' b)
    (hl : ∀ (k : Nat) x p,h'[k]? = some x → x ≠ .gone → ρ' k = some p → ¬ N p.1) (hst : ∀ b,S' b → ¬ W b) (hc : ∀ b,S' b → c'.lo ≤ b → N b → C2 w b) (hwm : ∀ b,W b → c'.M b) (haS : ∀ b,S' b → A b) (haM : ∀ b,c'.M b → A b) (hnn : ∀ b,N b → c'.nb b ∨ c'.S0 b ∨ c'.M b) : YN J A g c' ρ' S' h' w' W N := by
  refine ⟨hJ.st j.j (x.mono fun b _ hb h => hb (hN b h)),hl,hst,fun b hb h1 h2 => ?_,hwm,haS,haM,hnn⟩
  obtain ⟨cc,e,h4⟩ := hc b hb h1 h2;exact ⟨cc,e,by rw [x.same b (hJ.lt j.j b h2) (fun h => h (hN b h2))];exact h4⟩
end
def zR (l : List Oper) (pres : List (List Nat)) (k : Nat) : Bool :=
  qH l.toArray pres && Nat.ble k l.length && (List.range l.length).all fun i => match Nat.blt i k with
    | true => match l[i]? with
      | some o => match o.guard with
        | some (j,_) => Nat.blt j k
        | none => true
      | none => true
    | false => (List.range i).all fun j => (pres.getD i []).any (Nat.beq j)
section
variable {P : Program} {r : Option Nat} {Q Q1 : Exit → Act → World → Prop} {l : List Oper} {pres : List (List Nat)} {k : Nat}
theorem xX (h : zR l pres k = true) : qH l.toArray pres = true ∧ k ≤ l.length ∧ (∀ i,i < k → ∀ o j b,l[i]? = some o → o.guard = some (j,b) → j < k) ∧ ∀ i,k ≤ i → i < l.length → ∀ j,j < i → j ∈ pres.getD i [] := by
  unfold zR at h;simp only [aP] at h;obtain ⟨⟨h1,h2⟩,h3⟩ := h;have h2 := aM h2;rw [bA] at h3;refine ⟨h1,h2,fun i hi o j b ho hg => ?_,fun i hi hl j hj => ?_⟩
  · have := h3 i (fF.2 (by omega))
    rw [show Nat.blt i k = true from Nat.ble_eq_true_of_le hi] at this
    simp only [ho,hg] at this;exact aM this
  · have := h3 i (fF.2 hl);have hb : Nat.blt i k = false := by
      rw [← eF];intro hb;have := aM hb;omega
    rw [hb] at this;simp only [bA] at this;have := this j (fF.2 hj);rw [nD] at this;obtain ⟨x,hx,hxe⟩ := this;rw [aI hxe];exact hx
theorem L0 (hok : qH l.toArray pres = true) {listed : Array Bool} (hcl : ∀ (i : Nat) o,l.toArray[i]? = some o → listed.getD i false = true → ∀ e,e ∈ o.after → Region.binds .any e = true → listed.getD e.on false = true) :
    ∀ (i : Nat) o,l.toArray[i]? = some o → (∀ e,e ∈ o.after → Region.binds .any e = true → listed.getD e.on false = true) → ∀ j,j ∈ pres.getD i [] → listed.getD j false = true := by
  intro i
  induction i using Nat.strongRecOn with
  | _ i ih =>
    intro o ho hall j hj;have hlt : i < l.toArray.size := (aH.1 ho).1;have h := bA.1 hok i (by simpa using hlt)
    rw [ho] at h;simp only [aP] at h;have h2 := h.2;cases hp : pres[i]? with
    | none => rw [aC,hp] at hj;simp at hj
    | some pre =>
      rw [aC,hp] at hj;rw [hp] at h2;simp only [bA,aP,decide_eq_true_eq] at h2;obtain ⟨h3,h4⟩ := h2 j hj;rw [nD] at h4;obtain ⟨e,he,h5⟩ := h4;rw [aP,qT] at h5;obtain ⟨hb,h6⟩ := h5;have he' : e ∈ o.after := by simpa using he
      have hel := hall e he' hb;rcases h6 with h6 | h6
      · rw [← aI h6];exact hel
      · rw [nD] at h6;obtain ⟨x,hx,hxe⟩ := h6;rw [aI hxe];have hei := jV hok ho e he' hb;exact ih e.on hei _ (cH (by omega)) (fun e2 he2 hb2 => hcl e.on _ (cH (by omega)) hel e2 he2 hb2) x hx
theorem SI (hc : zR l pres k = true) : ∀ (m k' fuel : Nat) (listed : Array Bool) (a : Act) (w : World),k' + m = l.length → k ≤ k' → m ≤ fuel → listed.size = l.length → (∀ j,j < l.length → listed.getD j false = decide (j < k')) →
    wpListIn (rd r) 0 P l.toArray Q (l.drop k') a w → wpAnyIn (rd r) 0 P .any l.toArray Q fuel listed a w := by
  obtain ⟨hok,hkl,_,hpre⟩ := xX hc;intro m
  induction m with
  | zero =>
    intro k' fuel listed a w hk hkk hf hsz hl h;rw [cQ (by omega)] at h
    have hre : Region.ready .any l.toArray listed = [] := by
      rw [jS];intro i hi;obtain ⟨h1,o,ho,_⟩ := mem_ready.1 hi;have hil : i < l.length := by have := (aH.1 ho).1;simpa using this
      have e : listed.getD i true = listed.getD i false := by simp [Array.getD,hsz,hil]
      rw [e,hl i hil] at h1;have : ¬ i < k' := by simpa using h1
      omega
    cases fuel with
    | zero => exact ⟨hre,h⟩
    | succ f => exact ⟨fun _ => h,fun i hi => by rw [hre] at hi;cases hi⟩
  | succ m ih =>
    intro k' fuel listed a w hk hkk hf hsz hl h;obtain ⟨f,rfl⟩ : ∃ f,fuel = f + 1 := ⟨fuel - 1,by omega⟩
    have hlt : k' < l.length := by omega
    have ho : l.toArray[k']? = some l[k'] := by simp [aB hlt]
    have hin : k' ∈ Region.ready .any l.toArray listed := mem_ready.2 ⟨by
      have e : listed.getD k' true = listed.getD k' false := by simp [Array.getD,hsz,hlt]
      rw [e,hl k' hlt];simp,l[k'],ho,fun e he hb => by
      have := jV hok ho e he hb
      rw [hl e.on (by omega)];simpa using this⟩
    refine ⟨(fun hr => by rw [hr] at hin;cases hin),fun i hi => ?_⟩
    obtain ⟨h1,o,hoi,hall⟩ := mem_ready.1 hi;have hil : i < l.length := by have := (aH.1 hoi).1;simpa using this
    have hcl : ∀ (i : Nat) o,l.toArray[i]? = some o → listed.getD i false = true → ∀ e,e ∈ o.after → Region.binds .any e = true → listed.getD e.on false = true := fun i o ho hi e he hb => by
      have hil : i < l.length := by have := (aH.1 ho).1;simpa using this
      have := jV hok ho e he hb;rw [hl i hil] at hi;have : i < k' := by simpa using hi
      rw [hl e.on (by omega)];simp;omega
    have hik : i = k' := by
      have e : listed.getD i true = listed.getD i false := by simp [Array.getD,hsz,hil]
      rw [e,hl i hil] at h1;have h2 : ¬ i < k' := by simpa using h1
      rcases gS k' i with h3 | h3
      · have := L0 hok hcl i o hoi hall k' (hpre i (by omega) hil k' h3)
        rw [hl k' hlt] at this;simp at this
      · omega
    subst hik;rw [aT hlt] at h;unfold wpListIn at h;unfold wpOpIn;rw [ho];have nx : ∀ a w,wpListIn (rd r) 0 P l.toArray Q (l.drop (i + 1)) a w → wpAnyIn (rd r) 0 P .any l.toArray Q f (listed.setIfInBounds i true) a w := fun a w h' =>
      ih (i + 1) f _ a w (by omega) (by omega) (by omega) (by simpa using hsz) (fun j hj => by
        by_cases hij : i = j
        · subst hij;simp [Array.getD,hsz,hlt]
        · rw [getD_set_ne false hij,hl j hj]
          simp;omega) h'
    simp only;split at h
    · rename_i hw;rw [if_pos hw];exact Oper.wpIn_mono nx h
    · rename_i hw;rw [if_neg hw];exact ⟨h.1,nx _ _ h.2⟩
theorem AN (hc : zR l pres k = true) (hnd : lC (l.take k) = true) (hq1 : ∀ e a w,Q1 e a w → e = .normal) (hrest : ∀ a w,Q1 .normal a w → wpListIn (rd r) 0 P l.toArray Q (l.drop k) a w) :
    ∀ (fuel' fuel : Nat) (listed listedf : Array Bool) (U : List Nat) (a : Act) (w : World),listed.size = l.length → listedf.size = k → (∀ j,j < k → listed.getD j false = listedf.getD j false) → (∀ j,k ≤ j → listed.getD j false = false) →
      (∀ (i : Nat) o,l.toArray[i]? = some o → listed.getD i false = true → ∀ e,e ∈ o.after → Region.binds .any e = true → listed.getD e.on false = true) →
      (∀ j,j < k → listed.getD j false = false → j ∈ U) → U.length ≤ fuel' → fuel' + (l.length - k) ≤ fuel →
      wpAny P .any (l.take k).toArray Q1 fuel' listedf a w → wpAnyIn (rd r) 0 P .any l.toArray Q fuel listed a w := by
  obtain ⟨hok,hkl,hgd,hpre⟩ := xX hc;have hlk : (l.take k).toArray.size = k := by simp;omega
  have done : ∀ (fuel : Nat) (listed : Array Bool) (a : Act) (w : World),listed.size = l.length → (∀ j,k ≤ j → listed.getD j false = false) → (∀ j,j < k → listed.getD j false = true) → l.length - k ≤ fuel → Q1 .normal a w → wpAnyIn (rd r) 0 P .any l.toArray Q fuel listed a w := fun fuel listed a w hsz ht hf hfu hq =>
    SI hc (l.length - k) k fuel listed a w (by omega) (aX _) hfu hsz (fun j hj => by
      by_cases h : j < k
      · rw [hf j h];simp [h]
      · rw [ht j (by omega)];simp [h]) (hrest a w hq)
  intro fuel'
  induction fuel' with
  | zero =>
    intro fuel listed listedf U a w hsz hszf hlf ht hcl hU hUl hfu h;have hU0 : U = [] := bP (by omega)
    subst hU0
    exact done fuel listed a w hsz ht (fun j hj => by
      cases hb : listed.getD j false with
      | true => rfl
      | false => exact absurd (hU j hj hb) (by simp)) (by omega) h.2
  | succ fuel' ih =>
    intro fuel listed listedf U a w hsz hszf hlf ht hcl hU hUl hfu h;by_cases hfl : ∀ j,j < k → listed.getD j false = true
    · refine done fuel listed a w hsz ht hfl (by omega) (h.1 ?_)
      rw [jS];intro i hi;obtain ⟨h1,o,ho,_⟩ := mem_ready.1 hi;have hil : i < k := by have := (aH.1 ho).1;omega
      have e : listedf.getD i true = listedf.getD i false := by simp [Array.getD,hszf,hil]
      rw [e,← hlf i hil,hfl i hil] at h1;cases h1
    · obtain ⟨j0,hj0,hjf⟩ : ∃ j,j < k ∧ listed.getD j false = false := by
        apply Classical.byContradiction;intro hn;apply hfl;intro j hj;cases hb : listed.getD j false with
        | true => rfl
        | false => exact absurd ⟨j,hj,hb⟩ hn
      obtain ⟨f,rfl⟩ : ∃ f,fuel = f + 1 := ⟨fuel - 1,by omega⟩
      have hex : Region.ready .any l.toArray listed ≠ [] := by
        have jL : ∃ j,j < k ∧ listed.getD j false = false ∧ ∀ i,i < j → listed.getD i false = true := by
          have : ∀ b j,j ≤ b → j < k → listed.getD j false = false → ∃ j,j < k ∧ listed.getD j false = false ∧ ∀ i,i < j → listed.getD i false = true := by
            intro b
            induction b with
            | zero => exact fun j hj h5 h6 => ⟨j,h5,h6,fun k hk => by omega⟩
            | succ b ihb =>
              intro j hj h5 h6;by_cases hk : ∃ k,k < j ∧ listed.getD k false = false
              · obtain ⟨k,hk1,hk2⟩ := hk;exact ihb k (by omega) (by omega) hk2
              · refine ⟨j,h5,h6,fun k hk' => ?_⟩
                cases hb : listed.getD k false with
                | true => rfl
                | false => exact absurd ⟨k,hk',hb⟩ hk
          exact this j0 j0 (aX _) hj0 hjf
        obtain ⟨j,h5,h6,h7⟩ := jL;intro he;have hlt : j < l.toArray.size := by simp;omega
        have : j ∈ Region.ready .any l.toArray listed := mem_ready.2 ⟨by
          have e : listed.getD j true = listed.getD j false := by simp only [Array.getD,hsz,show j < l.length by omega,dif_pos]
          rw [e,h6],_,cH hlt,fun e he hb => h7 _ (jV hok (cH hlt) e he hb)⟩
        rw [he] at this;cases this
      refine ⟨fun h5 => absurd h5 hex,fun i hi => ?_⟩
      obtain ⟨h1,o,hoi,hall⟩ := mem_ready.1 hi;have hil : i < l.length := by have := (aH.1 hoi).1;simpa using this
      have hik : i < k := by
        apply Classical.byContradiction;intro hge;have := L0 hok hcl i o hoi hall j0 (hpre i (by omega) hil j0 (by omega))
        rw [hjf] at this;cases this
      have ei : listed.getD i true = listed.getD i false := by simp [Array.getD,hsz,hil]
      have eif : listedf.getD i true = listedf.getD i false := by simp [Array.getD,hszf,hik]
      have hil0 : listed.getD i false = false := by rw [← ei];exact h1
      have hof : (l.take k).toArray[i]? = some o := by
        have : l[i]? = some o := by simpa using hoi
        simp [bM,hik,this]
      have hif : i ∈ Region.ready .any (l.take k).toArray listedf := mem_ready.2 ⟨by rw [eif,← hlf i hik];exact hil0,o,hof,fun e he hb => by
        have hlt := jV hok hoi e he hb
        rw [← hlf e.on (by omega)];exact hall e he hb⟩
      have hop := h.2 i hif;unfold wpOp at hop;unfold wpOpIn;rw [hof] at hop;rw [hoi];simp only at hop ⊢;have hoi' : l[i]? = some o := by simpa using hoi
      have hwant : Region.wanted o (yielded (l.take k).toArray a.tmps) = Region.wanted o (yielded l.toArray a.tmps) := by
        unfold Region.wanted;cases hg : o.guard with
        | none => rfl
        | some g =>
          obtain ⟨j,b⟩ := g;have hj := hgd i hik o j b hoi' hg;simp only;unfold yielded;have : (l.take k).toArray[j]? = l.toArray[j]? := by simp [bM,hj]
          rw [this]
      have nx : ∀ a w,wpAny P .any (l.take k).toArray Q1 fuel' (listedf.setIfInBounds i true) a w → wpAnyIn (rd r) 0 P .any l.toArray Q f (listed.setIfInBounds i true) a w := fun a' w' h' => by
        refine ih f _ _ (U.erase i) a' w' (by simpa using hsz) (by simpa using hszf) (fun j hj => ?_) (fun j hj => ?_) (fun i2 o2 ho2 hi2 e he hb => ?_) (fun j hj hjl => ?_) ?_ (by omega) h'
        · by_cases hij : i = j
          · subst hij;simp [Array.getD,hsz,hszf,hil,hik]
          · rw [getD_set_ne false hij,getD_set_ne false hij];exact hlf j hj
        · rw [getD_set_ne false (by omega)];exact ht j hj
        · by_cases hij : i = i2
          · subst hij;rw [hoi] at ho2;cases ho2;exact getD_set_true (hall e he hb)
          · rw [getD_set_ne false hij] at hi2;exact getD_set_true (hcl i2 o2 ho2 hi2 e he hb)
        · by_cases hij : i = j
          · subst hij;simp [Array.getD,hsz,hil] at hjl
          · rw [getD_set_ne false hij] at hjl;exact (pE (Ne.symm hij)).2 (hU j hj hjl)
        · have := mK (hU i hik hil0);have hpos : 0 < U.length := List.length_pos_of_mem (hU i hik hil0);omega
      have hnd1 : B4 o = true := B3 hnd (i := i) (by simp [bM,hik,hoi'])
      split at hop
      · rename_i hw;rw [if_pos (by rw [← hwant];exact hw)]
        rcases hop with hop | ⟨_,a',w',hop⟩
        · exact CQ (Q := Q1) hq1 (Oper.wpIn_mono nx (NZ hnd1 hop))
        · have := hq1 _ _ _ hop;cases this
      · rename_i hw;rw [if_neg (by rw [← hwant];exact hw)]
        exact ⟨fun _ _ => trivial,nx _ _ hop⟩
end
section
variable {P : Program} {env : dI} {h : Hp} {d : Option Nat} {ty : TypeId} {pos : String} {af : Array Edge} {g : Option (Nat × Bool)}
end
end Go.Ab
namespace Go.Ab
open Go Go.MapKept
section
variable {P : Program} {env : dI} {h : Hp}
variable {d : Option Nat} {ty : TypeId} {pos : String} {af : Array Edge} {g : Option (Nat × Bool)}
variable {n : Nat × Nat} {ops : Array Oper} {rest : List Oper} {K : dI → Hp → Prop}
variable {t kt et : TypeId} {good : Value → Prop} {x y z : Operand} {k i : Nat} {kv : Value} {ks : List Value} {vs : List AV} {v : AV}
theorem qP.erase {l : Array MapEntry} {ck i : Nat} (h : qP l ck) : qP (l.eraseIdxIfInBounds i) ck := by
  have e : (l.eraseIdxIfInBounds i).toList = l.toList.eraseIdx i := by
    unfold Array.eraseIdxIfInBounds;split
    · simp
    · rename_i hh;rw [List.eraseIdx_of_length_le (by simpa using hh)]
  refine ⟨?_,fun q hq => h.2 q (by rw [e] at hq;exact List.mem_of_mem_eraseIdx hq)⟩
  rw [e];have : (l.toList.eraseIdx i).map (·.born) = (l.toList.map (·.born)).eraseIdx i := by
    apply iH;intro j;simp only [bJ,List.getElem?_eraseIdx];split <;> simp
  rw [this];exact h.1.eraseIdx i
end
end Go.Ab
namespace Go.Ab
open Go
abbrev AV.s (l : List UInt8) : AV := .v (.string ⟨l.toArray⟩)
def QE (l : List UInt8) : List (List AV) := l.map fun b => [.v (.int .u8 b.toNat)]
@[simp] theorem bytesA_length (l : List UInt8) : (QE l).length = l.length := by simp [QE]
def GR (P : Program) (t : TypeId) : Prop := P.underlying t = some .string
section
variable {P : Program} {env : dI} {h : Hp}
variable {d : Option Nat} {ty : TypeId} {pos : String} {af : Array Edge} {g : Option (Nat × Bool)}
variable {t t2 : TypeId} {x y : Operand} {a b : List UInt8}
theorem zG4 (op : BinOp) (t : TypeId) (x y : Operand) (s : ByteArray) (v : Value) : eqGuard op t x y (.string s) v = pure () := by cases op <;> rfl
theorem tQ (hx : evu env x = some (.s a)) (hy : evu env y = some (.s b)) (hl : a.length + b.length ≤ 9223372036854775807) : bT P ⟨d,.binOp .add t x y t2,ty,pos,af,g⟩ env h 0 (fun _ => .s (a ++ b)) (fun _ => []) := by
  refine gV fun ρ S ac w p => ⟨.string ⟨(a ++ b).toArray⟩,?_,by simp [R]⟩
  have h1 := qX (p.evu hx);have h2 := qX (p.evu hy);have e : (⟨a.toArray⟩ : ByteArray) ++ ⟨b.toArray⟩ = ⟨(a ++ b).toArray⟩ := by apply ByteArray.ext;simp
  have := Go.run_string_add_sum (P := P) w ⟨a.toArray⟩ ⟨b.toArray⟩ (by show a.toArray.size + b.toArray.size ≤ _;simpa using hl)
  simp [execOp,h1,h2,zG4,binOp_string_add,this,e]
theorem UA (hx : evu env x = some (.s a)) (hy : evu env y = some (.s b)) : bT P ⟨d,.binOp .neq t x y t2,ty,pos,af,g⟩ env h 0 (fun _ => .b (!decide (a = b))) (fun _ => []) := by
  refine gV fun ρ S ac w p => ⟨.bool (!decide (a = b)),?_,by simp [R]⟩
  have h1 := qX (p.evu hx);have h2 := qX (p.evu hy);simp [execOp,h1,h2,zG4,binOp_string_eql,binOp_string_neq];by_cases hab : a = b <;> simp [hab]
theorem IC (ht : GR P t) (hx : evu env x = some (.s a)) : bT P ⟨d,.call { callee := .builtin .len,args := #[x],argTypes := #[t] },ty,pos,af,g⟩ env h 0 (fun _ => .i a.length) (fun _ => []) := by
  refine gV fun ρ S ac w p => ⟨.int .i64 a.length,?_,by simp [R]⟩
  have h1 := qX (p.evu hx);have ht' : P.underlying t = some .string := ht;have e : (⟨a.toArray⟩ : ByteArray).size = a.length := by show a.toArray.size = _;simp
  rw [← e];simp [execOp,resolve,invoke,builtin,h1,Builtin.len_,run_underlying ht',goInt]
theorem KR (ht : GR P t) {k : IntKind} {j : Int} (hx : evu env x = some (.s a)) (hy : evu env y = some (.v (.int k j))) (h0 : 0 ≤ j) {c : UInt8} (hc : a[j.toNat]? = some c) : bT P ⟨d,.index t x y,ty,pos,af,g⟩ env h 0 (fun _ => .v (.int .u8 c.toNat)) (fun _ => []) := by
  refine gV fun ρ S ac w p => ⟨.int .u8 c.toNat,?_,by simp [R]⟩
  have h1 := qX (p.evu hx);have h2 := qX (p.evu hy);have ht' : P.underlying t = some .string := ht;have hlt : j.toNat < a.length := (aA.1 hc).1;have hs : j.toNat < (⟨a.toArray⟩ : ByteArray).size := by show _ < a.toArray.size;simpa using hlt
  have e : (⟨a.toArray⟩ : ByteArray)[j.toNat]'hs = c := by
    have := (aA.1 hc).2;rw [← this];rfl
  have hr : (Instr.index t (.string ⟨a.toArray⟩) (.int k j)).run P w = .ok (.int .u8 c.toNat) w := by
    rw [run_index_string (P := P) w t ⟨a.toArray⟩ k j ht',dif_pos ⟨h0,by omega⟩,e]
  simp [execOp,h1,h2,hr]
theorem xO (w : World) (size : Nat) (l : List UInt8) : (Builtin.firstCells size l.length (.string ⟨l.toArray⟩)).run P w = .ok (l.map fun b => Value.int .u8 b.toNat).toArray w := by
  have := Go.Lib.run_firstCells_string (P := P) w size ⟨l.toArray⟩;have e : (⟨l.toArray⟩ : ByteArray).size = l.length := by show l.toArray.size = _;simp
  rw [e] at this;rw [this];simp [Go.Lib.strCells]
theorem Y5 (w : World) (l : List UInt8) : (Builtin.lenOf (.string ⟨l.toArray⟩)).run P w = .ok l.length w := by
  have e : (⟨l.toArray⟩ : ByteArray).size = l.length := by show l.toArray.size = _;simp
  simp [Builtin.lenOf,e]
theorem K6 {w : World} {t tS ty e : TypeId} {i : TypeInfo} (ht : P.underlying t = some (.slice e)) (hS : P.underlying tS = some .string) (hi : P.info? e = some i) {b o len cap : Nat} {l : List UInt8} {zs : List Value} (hl : zs = l.map fun b => Value.int .u8 b.toNat) (h1 : ∀ u ∈ zs, u.oneCell' = true)
    {cc : Array Value} {ee : TypeId} (hc : w.heap[b]? = some (.cells cc ee (0,0))) (hroom : len + l.length ≤ cap) (hfit : o + len * i.size + zs.length ≤ cc.size) :
    (Builtin.append_ #[t,tS] ty #[.slice (some ⟨b,o,none⟩) len cap,.string ⟨l.toArray⟩]).run P w = .ok (.slice (some ⟨b,o,none⟩) (len + l.length) cap) (w.setRow b (cc.toList.take (o + len * i.size) ++ zs ++ cc.toList.drop (o + len * i.size + zs.length)).toArray) := by
  have hf := xO (P := P) w i.size l;rw [← hl] at hf;have hst := run_storeCells_at P b (o + len * i.size) ee zs 0 cc w hc (by simpa using hfit) h1
  simp only [Nat.add_zero] at hst;simp [Builtin.append_,run_underlying ht,run_underlying hS,sizeOf,typeInfo,hi,Y5,hroom,hf,Addr.add_lit,hst]
theorem A8 {w : World} {t tS ty e : TypeId} {i : TypeInfo} (ht : P.underlying t = some (.slice e)) (hS : P.underlying tS = some .string) (hi : P.info? e = some i) {a : Option Addr} {len cap : Nat} (hlc : len ≤ cap) :
    (Builtin.append_ #[t,tS] ty #[.slice a len cap,.string ⟨([] : List UInt8).toArray⟩]).run P w = .ok (.slice a len cap) w := by
  have hf := xO (P := P) w i.size [];simp only [List.length_nil,List.map_nil] at hf;have h0 := Y5 (P := P) w [];simp only [List.length_nil] at h0;cases a with
  | none => simp [Builtin.append_,run_underlying ht,run_underlying hS,sizeOf,typeInfo,hi,h0,hlc,hf]
  | some a => simp [Builtin.append_,run_underlying ht,run_underlying hS,sizeOf,typeInfo,hi,h0,hlc,hf,storeCells]
theorem H1 {w : World} {t tS ty e : TypeId} {i : TypeInfo} {z : Value} (ht : P.underlying t = some (.slice e)) (hS : P.underlying tS = some .string) (hi : P.info? e = some i) (hz0 : i.zero = some z) {a : Option Addr} {len cap : Nat} {l : List UInt8} {ys zs : List Value} (hly : ys.length = len * i.size) (hy : len = 0 ∨ ∃ b o, a = some ⟨b, o, none⟩ ∧ lies w b o ys)
    (hl : zs = l.map fun b => Value.int .u8 b.toNat) (hg : cap < len + l.length) (hb : (len + l.length) * i.bytes ≤ 140737488355328) (h63 : len + l.length ≤ 9223372036854775807) :
    (Builtin.append_ #[t,tS] ty #[.slice a len cap,.string ⟨l.toArray⟩]).run P w = .ok (.slice (some ⟨w.heap.size,0,none⟩) (len + l.length) (grownCap w (len + l.length) cap e)) (w.drew.alloc (.cells (ys.toArray ++ zs.toArray ++ Builtin.zeroCells z.cells (grownCap w (len + l.length) cap e - (len + l.length))) e)) := by
  have hn : ¬ (len + l.length ≤ cap) := by omega
  have h63' : ¬ (9223372036854775807 < ((len : Int) + (l.length : Int))) := by omega
  have h48' : ¬ (281474976710656 < Builtin.nextslicecap (len + l.length) cap * i.bytes) := by have := growslice_fits (old := cap) (need := len + l.length) (by omega) hb;omega
  have hd : ∀ {b o : Nat} {l : List Value},lies w b o l → lies w.drew b o l := fun h => h
  have hf := xO (P := P) w.drew i.size l;rw [← hl] at hf;have hfo := sA (P := P) (w := w.drew) (size := i.size) (cap := cap) hly (hy.imp id fun ⟨b,o,h1,h2⟩ => ⟨b,o,h1,hd h2⟩);simp [Builtin.append_,run_underlying ht,run_underlying hS,sizeOf,typeInfo,zeroValue,hi,hz0,Y5,hn,h63',h48',Question.forced,hf,hfo,newRow,grownCap,-List.append_toArray]
end
section
variable {P : Program} {env : dI} {h : Hp}
variable {d : Option Nat} {ty : TypeId} {pos : String} {af : Array Edge} {g : Option (Nat × Bool)}
def pI (l : List UInt8) : List Value := l.map fun b => Value.int .u8 b.toNat
@[simp] theorem strV_length (l : List UInt8) : (pI l).length = l.length := by simp [pI]
theorem MM {l : List UInt8} {j : Nat} {y : Value} (h : (pI l)[j]? = some y) : ∃ x,l[j]? = some x ∧ y = .int .u8 x.toNat := by
  simp only [pI,bJ,eP] at h;obtain ⟨x,h1,h2⟩ := h;exact ⟨x,h1,h2.symm⟩
theorem HB {l : List UInt8} {j : Nat} {x : UInt8} (h : l[j]? = some x) : (pI l)[j]? = some (.int .u8 x.toNat) := by
  simp [pI,h]
theorem U2 (T : nN P) {t : TypeId} {i : TI} (hz : T.ti t = some i) (hag : i.agg = true) : bT P ⟨d,.alloc t,ty,pos,af,g⟩ env h 1 (fun p => .ptr p 0) (fun _ => [.var t (i.zero.map .v)]) := by
  refine TZ fun ρ S a w p => ?_
  obtain ⟨z,h1,h2⟩ := T.zeroV hz w;refine ⟨.cells z.cells t (0,0),.pointer (some ⟨w.heap.size,0,none⟩),?_,fun pos hpos w' hw' => ⟨?_,?_⟩⟩
  · simp [execOp,Instr.alloc,h1];rfl
  · simp [R,Pl.with]
  · exact ⟨w.heap.size,z.cells,rfl,hw',by rw [h2];exact EL _⟩
section
variable {n : Nat × Nat} {ops : Array Oper} {rest : List Oper} {K : dI → Hp → Prop}
theorem J5 (T : nN P) {t e k len dd : Nat} {i : TI} {x y : Operand} {lb l0 : List UInt8} {tS : TypeId} (htS : P.underlying tS = some .string) (hx : evu env x = some (.sl k 0 len 1)) (hy : evu env y = some (.s l0)) (ht : T.elem t = some e) (he : T.ti e = some i) (hs : i.size = 1) (hby : i.bytes = 1)
    (hkk : h[k]? = some (.buf e lb)) (hlen : len = lb.length) (hb : lb.length + l0.length ≤ 140737488355328) (hd : P9 (some dd) n = true)
    (hk : VC P n ops rest ((dd,.sl h.length 0 (lb.length + l0.length) 1) :: env) (h.set k .gone ++ [.buf e (lb ++ l0)]) K) :
    VC P n ops (⟨some dd,.call { callee := .builtin .append,args := #[x,y],argTypes := #[t,tS] },ty,pos,af,none⟩ :: rest) env h K := by
  subst hlen;intro c ρ S a w Q s hQ;refine wpList_plain rfl fun K' hK' => ?_
  have p := s.pre;have hxv := p.evu hx;have y1 : a.eval y = .string ⟨l0.toArray⟩ := qX (p.evu hy);obtain ⟨inf,z,t1,t2,t3,t4,t5,t6,t7⟩ := T.tiOk e i he;simp only [R] at hxv;obtain ⟨a1,c1,x1,x3,hxv⟩ := hxv;have x2 : lb.length ≤ c1 := by
    rcases hxv with ⟨h0,h1⟩ | ⟨b,o,_,_,h3,_⟩
    · omega
    · exact h3
  have hB : RB S w ρ (ρ k) (.buf e lb) := p.blk k _ hkk;simp only [RB] at hB;have hklt : k < h.length := (aA.1 hkk).1;have ev1 : ∀ r w',(Builtin.append_ #[t,tS] ty #[a.eval x,a.eval y]).run P w = .ok r w' → (execOp a.eval ⟨some dd,.call { callee := .builtin .append,args := #[x,y],argTypes := #[t,tS] },ty,pos,af,none⟩).run P w = .ok (.value r) w' := fun r w' hr => by
    simp [execOp,resolve,invoke,builtin,hr]
  -- whatever it does: the new object's place,and the world
  have fin : ∀ {r : Value} {w' : World} {q : Option (Nat × Nat)},(Builtin.append_ #[t,tS] ty #[a.eval x,a.eval y]).run P w = .ok r w' → kY c.M w w' → (∀ j b,h[j]? = some b → j ≠ k → b ≠ .gone → ∀ b1 o1,ρ j = some (b1,o1) → w'.heap[b1]? = w.heap[b1]?) → (∀ b1,S b1 → w'.heap[b1]? = w.heap[b1]?) →
      (∀ b1 o1,q = some (b1,o1) → c.M b1 ∧ ¬ S b1 ∧ b1 < w'.heap.size ∧ ∀ j b,h[j]? = some b → j ≠ k → b ≠ .gone → ∀ b2 o2,ρ j = some (b2,o2) → b2 ≠ b1) →
      (gM ρ (fun j => if j = h.length then q else ρ j) S S w w' → R S w' (.sl h.length 0 (lb.length + l0.length) 1) (fun j => if j = h.length then q else ρ j) r ∧ RB S w' (fun j => if j = h.length then q else ρ j) q (.buf e (lb ++ l0))) →
      Oper.wp P ⟨some dd,.call { callee := .builtin .append,args := #[x,y],argTypes := #[t,tS] },ty,pos,af,none⟩ a w K' Q := fun {r w' q} hr hext hoth hst hq hval => by
    unfold Oper.wp;rw [ev1 r w' hr];have hdom := s.hs.dom h.length (aX _)
    have l : gM ρ (fun j => if j = h.length then q else ρ j) S S w w' := ⟨fun j u hu => by
      show (if j = h.length then q else ρ j) = _
      rw [if_neg (fun e => by rw [e,hdom] at hu;cases hu)];exact hu,fun _ h => h,hst,fun _ _ _ _ _ hr => hext.room hr⟩
    obtain ⟨v1,v2⟩ := hval l;have hget : ∀ {j : Nat} {b : AB},(h.set k .gone ++ [.buf e (lb ++ l0)])[j]? = some b → b ≠ .gone → (j < h.length ∧ j ≠ k ∧ h[j]? = some b) ∨ (j = h.length ∧ b = .buf e (lb ++ l0)) := fun {j b} hj hg => by
      by_cases hjl : j < h.length
      · rw [aF (by simpa using hjl)] at hj
        by_cases hjk : j = k
        · subst hjk;rw [sU hklt] at hj;cases hj;exact absurd rfl hg
        · rw [iU (Ne.symm hjk)] at hj;exact .inl ⟨hjl,hjk,hj⟩
      · rw [aE (by simp;omega)] at hj
        simp only [fR] at hj;by_cases hj0 : j - h.length = 0
        · rw [hj0] at hj;simp at hj;exact .inr ⟨by omega,hj.symm⟩
        · rw [cD (by simp;omega)] at hj;cases hj
    refine hK' _ _ (hk c (fun j => if j = h.length then q else ρ j) S _ w' Q ⟨by rw [kN];exact s.size,by rw [iO];exact s.defers.later l,rG s.size hd (fun tt uu huu => (s.env tt uu huu).later l) v1,⟨fun j hj => ?_,fun j u hu => ?_,fun j b hj => ?_,fun j b u hj hg hu => ?_,fun j j' b b' u u' hj hj' hg hg' hu hu' e => ?_,fun b1 hb1 => dC (s.hs.stab b1 hb1) hext.size,s.hs.ext.trans hext (fun _ h _ => h),s.hs.st0,s.hs.st1,by simp;exact bX s.hs.mle (gD _ _),fun j hj => by
      have := s.hs.mle;show (if j = h.length then q else ρ j) = _
      rw [if_neg (by omega)];exact s.hs.keep j hj,s.hs.glob.later l⟩,s.cm⟩ hQ)
    · simp at hj;show (if j = h.length then q else ρ j) = _
      rw [if_neg (by omega)];exact s.hs.dom j (by omega)
    · by_cases hj : j = h.length
      · simp only [hj,if_true] at hu;exact (hq u.1 u.2 hu).2.2.1
      · simp only [hj,if_false] at hu;exact dC (s.hs.rng j u hu) hext.size
    · cases b with
      | gone => trivial
      | _ =>
        rcases hget hj (by simp) with ⟨h2,h3,h4⟩ | ⟨h2,h3⟩
        · show RB S w' _ (if j = h.length then q else ρ j) _
          rw [if_neg (by omega)]
          exact RB.later l (fun b1 o1 hp1 => hoth j _ h4 h3 (by simp) b1 o1 hp1) (s.hs.blk j _ h4)
        · subst h2;show RB S w' _ (if h.length = h.length then q else ρ h.length) _
          rw [if_pos rfl,h3];exact v2
    · rcases hget hj hg with ⟨h2,h3,h4⟩ | ⟨h2,h3⟩
      · rw [if_neg (by omega)] at hu
        exact s.hs.live j b u h4 hg hu
      · rw [if_pos h2] at hu;exact ⟨(hq u.1 u.2 hu).1,(hq u.1 u.2 hu).2.1⟩
    · rcases hget hj hg with ⟨h2,h3,h4⟩ | ⟨h2,h3⟩ <;> rcases hget hj' hg' with ⟨h2',h3',h4'⟩ | ⟨h2',h3'⟩
      · rw [if_neg (by omega)] at hu hu'
        exact s.hs.inj j j' b b' u u' h4 h4' hg hg' hu hu' e
      · rw [if_neg (by omega)] at hu
        rw [if_pos h2'] at hu';exact absurd e ((hq u'.1 u'.2 hu').2.2.2 j b h4 h3 hg u.1 u.2 hu)
      · rw [if_neg (by omega)] at hu'
        rw [if_pos h2] at hu;exact absurd e.symm ((hq u.1 u.2 hu).2.2.2 j' b' h4' h3' hg' u'.1 u'.2 hu')
      · omega
  have hoth0 : ∀ (w' : World) (b0 : Nat),(∀ x,x ≠ b0 → w'.heap[x]? = w.heap[x]?) → (∃ o,ρ k = some (b0,o)) → (∀ j b,h[j]? = some b → j ≠ k → b ≠ .gone → ∀ b1 o1,ρ j = some (b1,o1) → w'.heap[b1]? = w.heap[b1]?) ∧ (∀ b1,S b1 → w'.heap[b1]? = w.heap[b1]?) := fun w' b0 hw ⟨o,ho⟩ =>
    ⟨fun j b hj hjk hg b1 o1 h1 => hw b1 (fun e => hjk (s.hs.inj j k b _ _ _ hj hkk hg (by simp) h1 ho e)),fun b1 hb1 => hw b1 (fun e => (s.hs.live k _ _ hkk (by simp) ho).2 (e ▸ hb1))⟩
  have hoth0 : ∀ (w' : World) (b0 : Nat),(∀ x,x ≠ b0 → w'.heap[x]? = w.heap[x]?) → (∃ o,ρ k = some (b0,o)) → (∀ j b,h[j]? = some b → j ≠ k → b ≠ .gone → ∀ b1 o1,ρ j = some (b1,o1) → w'.heap[b1]? = w.heap[b1]?) ∧ (∀ b1,S b1 → w'.heap[b1]? = w.heap[b1]?) := fun w' b0 hw ⟨o,ho⟩ =>
    ⟨fun j b hj hjk hg b1 o1 h1 => hw b1 (fun e => hjk (s.hs.inj j k b _ _ _ hj hkk hg (by simp) h1 ho e)),fun b1 hb1 => hw b1 (fun e => (s.hs.live k _ _ hkk (by simp) ho).2 (e ▸ hb1))⟩
  by_cases hroom : lb.length + l0.length ≤ c1
  · by_cases hm : l0 = []
    · -- nothing is appended
      subst hm;have hr := A8 (P := P) (w := w) (t := t) (ty := ty) (T.elemOk _ _ ht) htS t1 (a := a1) x2;refine fin (q := ρ k) (by rw [x1,y1];exact hr) (kY.refl _ _) (fun _ _ _ _ _ _ _ _ => rfl) (fun _ _ => rfl) (fun b1 o1 hq => ?_) (fun l' => ⟨?_,?_⟩)
      · obtain ⟨m1,m2⟩ := s.hs.live k _ _ hkk (by simp) hq
        exact ⟨m1,m2,s.hs.rng k _ hq,fun j b hj hjk hg b3 o3 h3 e => hjk (s.hs.inj j k b _ _ _ hj hkk hg (by simp) h3 hq e)⟩
      · simp only [R,List.length_nil,Nat.add_zero];refine ⟨a1,c1,rfl,x3,?_⟩;rcases hxv with e3 | ⟨b,o,f1,f2,f3,f4⟩
        · exact .inl e3
        · exact .inr ⟨b,o,by simp [f1],f2,f3,f4⟩
      · simp only [RB,List.append_nil];exact hB
    · -- there is room
      have hpos : 0 < l0.length := dZ.2 hm;rcases hxv with ⟨e3,e4⟩ | ⟨b,o,f1,f2,f3,⟨c3,e3,fz3,r1,r2⟩⟩
      · omega
      rcases hB with ⟨_,hB⟩ | ⟨b',cc,g1,f4,g3⟩
      · rw [f1] at hB;cases hB
      rw [f1] at g1;obtain ⟨rfl,rfl⟩ : b = b' ∧ o = 0 := by simpa using g1
      obtain rfl : cc = c3 := by rw [f4] at r1;cases r1;rfl
      have hone : ∀ u ∈ pI l0,u.oneCell' = true := fun u hu => by obtain ⟨q,_,rfl⟩ := bL.1 hu;rfl
      have hfit : 0 + lb.length * inf.size + (pI l0).length ≤ cc.size := by rw [t2,hs,strV_length];omega
      have hr := K6 (P := P) (w := w) (t := t) (ty := ty) (T.elemOk _ _ ht) htS t1 (b := b) (o := 0) (len := lb.length) (cap := c1) (l := l0) (zs := pI l0) rfl hone f4 hroom hfit;rw [t2,hs,Nat.mul_one,Nat.zero_add] at hr hfit;have hcs : ((cc.toList.take lb.length ++ pI l0 ++ cc.toList.drop (lb.length + (pI l0).length)).toArray).size = cc.size := by
        simp only [kG,aD,aU,dB,fI];omega
      have hnew := setRow_heap w b cc (cc.toList.take lb.length ++ pI l0 ++ cc.toList.drop (lb.length + (pI l0).length)).toArray e (0,0) f4;obtain ⟨m1,m2⟩ := s.hs.live k _ _ hkk (by simp) f1
      obtain ⟨o1,o2⟩ := hoth0 _ b (fun x hx => setRow_other w b x (cc.toList.take lb.length ++ pI l0 ++ cc.toList.drop (lb.length + (pI l0).length)).toArray hx) ⟨0,f1⟩;refine fin (q := some (b,0)) (by rw [x1,y1,f2];simpa using hr) ((nL f4 hcs).mono fun x _ hx => by rw [hx];exact m1) o1 o2 (fun b1 o1 hq => ?_) (fun l' => ⟨?_,?_⟩)
      · cases hq;exact ⟨m1,m2,(aH.1 hnew).1,fun j b hj hjk hg b3 o3 h3 e => hjk (s.hs.inj j k b _ _ _ hj hkk hg (by simp) h3 f1 e)⟩
      · simp only [R];refine ⟨_,c1,rfl,x3,.inr ⟨b,0,by simp,by simp,hroom,_,e,_,hnew,?_⟩⟩
        rw [hcs];omega
      · simp only [RB];refine .inr ⟨b,_,rfl,hnew,fun j u hj => ?_⟩
        rw [fZ];by_cases hj1 : j < lb.length
        · rw [aF hj1] at hj;rw [bE,aF (by simp;omega),bM,if_pos hj1]
          simpa using g3 j u hj
        · rw [aE (by omega)] at hj
          have hj2 := (aA.1 hj).1;rw [aF (by simp;omega),aE (by simp;omega)]
          have e9 : (List.take lb.length cc.toList).length = lb.length := by simp only [aU,fI];omega
          rw [e9];exact HB hj
  · -- a new row
    have hy0 : lb.length = 0 ∨ ∃ b o,a1 = some ⟨b,o,none⟩ ∧ lies w b o (pI lb) := by
      rcases hxv with ⟨e3,_⟩ | ⟨b,o,f1,f2,f3,_⟩
      · exact .inl e3
      rcases hB with ⟨_,hB⟩ | ⟨b',cc,g1,f4,g3⟩
      · rw [f1] at hB;cases hB
      rw [f1] at g1;obtain ⟨rfl,rfl⟩ : b = b' ∧ o = 0 := by simpa using g1
      refine .inr ⟨b,0,by simpa using f2,cc,e,_,f4,fun j y hj => ?_⟩
      obtain ⟨q,q1,rfl⟩ := MM hj;rw [Nat.zero_add];exact g3 j q q1
    have hr := H1 (P := P) (w := w) (t := t) (ty := ty) (a := a1) (len := lb.length) (cap := c1) (l := l0) (ys := pI lb) (zs := pI l0) (T.elemOk _ _ ht) htS t1 t4 (by rw [t2,hs];simp) hy0 rfl (by omega) (by rw [t3,hby];omega) (by omega)
    have hgc := grownCap_ge w (lb.length + l0.length) c1 e;have hgm := grownCap_le_maxLen w (lb.length + l0.length) c1 e (by simp only [maxLen];omega)
    have hzs : z.cells.size = 1 := by rw [← hs,← t6,← t5];simp
    obtain ⟨g1,g2⟩ := vK (ys := pI lb) (zs := pI l0) (len := lb.length) (m := l0.length) hzs (by simp) (by simp) hgc
    have hnew : (w.drew.alloc (.cells ((pI lb).toArray ++ (pI l0).toArray ++ Builtin.zeroCells z.cells (grownCap w (lb.length + l0.length) c1 e - (lb.length + l0.length))) e)).heap[w.heap.size]? = some (.cells _ e (0,0)) := heap_alloc_new w.drew _;have hold : ∀ b1,b1 < w.heap.size → (w.drew.alloc (.cells ((pI lb).toArray ++ (pI l0).toArray ++ Builtin.zeroCells z.cells (grownCap w (lb.length + l0.length) c1 e - (lb.length + l0.length))) e)).heap[b1]? = w.heap[b1]? := fun b1 hb1 => RowKit.Below.heap_alloc w.drew _ b1 hb1
    refine fin (q := some (w.heap.size,0)) (by rw [x1,y1];exact hr) ((kY.drew1 w).trans (lG w.drew _ c.M) (fun _ h _ => h)) (fun j b hj hjk hg b1 o1 h2 => hold b1 (s.hs.rng j _ h2)) (fun b1 hb1 => hold b1 (s.hs.stab b1 hb1)) (fun b1 o1 hq => ?_) (fun l' => ⟨?_,?_⟩)
    · cases hq;refine ⟨c.new _ s.hs.ext.size,fun hS => ?_,by simp,fun j b hj hjk hg b2 o2 h2 e => ?_⟩
      · have := s.hs.stab _ hS;omega
      · have := s.hs.rng j _ h2;simp at this;omega
    · simp only [R];exact ⟨_,_,rfl,hgm,.inr ⟨w.heap.size,0,by simp,by simp,hgc,_,e,_,hnew,by rw [Nat.zero_add,Nat.zero_add];exact g1⟩⟩
    · simp only [RB];refine .inr ⟨w.heap.size,_,rfl,hnew,fun j u hj => g2 j _ ?_⟩
      have := HB hj;simpa [pI] using this
end
end
section
variable {P : Program}
theorem HS.made {c : mR} {ρ : Pl} {S : Nat → Prop} {h : Hp} {w w' : World} {x : AV} {b : AB} {y : Value} {q : Option (Nat × Nat)} (s : HS c ρ S h w) (hext : kY (fun _ => False) w w')
    (hq : ∀ p,q = some p → w.heap.size ≤ p.1 ∧ p.1 < w'.heap.size)
    (hv : ∀ ρ' : Pl,ρ' h.length = q → (∀ k,k ≠ h.length → ρ' k = ρ k) → gM ρ ρ' S S w w' → R S w' x ρ' y ∧ RB S w' ρ' q b) :
    ∃ ρ',HS c ρ' S (h ++ [b]) w' ∧ R S w' x ρ' y ∧ gM ρ ρ' S S w w' := by
  let ρ' : Pl := fun k => if k = h.length then q else ρ k
  have hd := s.dom h.length (aX _);have e1 : ρ' h.length = q := if_pos rfl;have e2 : ∀ k,k ≠ h.length → ρ' k = ρ k := fun k hk => if_neg hk
  have l : gM ρ ρ' S S w w' := ⟨fun k p hp => by rw [e2 k (fun e => by rw [e,hd] at hp;cases hp)];exact hp,fun _ h => h,fun b hb => hext.same b (s.stab b hb) (fun h => h),fun _ _ _ _ _ hr => hext.room hr⟩
  obtain ⟨v1,v2⟩ := hv ρ' e1 e2 l;refine ⟨ρ',s.post (m := 1) (new := [b]) (x := x) (y := y) ⟨hext,rfl,fun k hk => e2 k (by omega),fun _ h => h,fun _ h => .inl h,fun k p hk1 hk2 hp => ?_,fun k k' p p' a1 a2 a3 a4 _ _ _ => by omega,v1,fun j b' hb => ?_⟩,v1,l⟩
  · have : k = h.length := by omega
    subst this;rw [e1] at hp;obtain ⟨g1,g2⟩ := hq p hp;exact ⟨g1,g2,fun hS => by have := s.stab _ hS;omega⟩
  · cases j with
    | zero =>
      simp only [dQ,Option.some.injEq] at hb;subst hb;rw [Nat.add_zero,e1];exact v2
    | succ j => simp at hb
theorem PM {w : World} {k : Nat} {os : Array Obj} : kY (fun _ => False) w (Sort.grow (w.drewN k) os) := by
  have hh : ∀ b,b < w.heap.size → (Sort.grow (w.drewN k) os).heap[b]? = w.heap[b]? := fun b hb => by
    show (w.heap ++ os)[b]? = _;rw [pF hb]
  exact ⟨rfl,rfl,rfl,by show w.heap.size ≤ (w.heap ++ os).size;rw [RX];exact gD _ _,fun b hb _ => hh b hb,fun b c e fz hc => ⟨c,fz,by rw [hh b (aH.1 hc).1];exact hc,rfl⟩⟩
theorem HS.kept {c : mR} {ρ : Pl} {S : Nat → Prop} {h : Hp} {w w' : World} (s : HS c ρ S h w) (hext : kY (fun _ => False) w w') : HS c ρ S h w' := by
  have := s.post (m := 0) (new := []) (x := .any) (y := .nilIface) (ρ' := ρ) (S' := S) (w' := w') ⟨hext,rfl,fun _ _ => rfl,fun _ h => h,fun _ h => .inl h,fun k p a1 a2 _ => by omega,fun k k' p p' a1 a2 => by omega,by simp [R],fun j b hb => by simp at hb⟩
  simpa using this
theorem T4 {w : World} {b : Nat} {f : Obj → Obj} {o : Obj} (h : w.heap[b]? = some o) : (w.heap.modify b f)[b]? = some (f o) := by
  simp [lH,h]
theorem yY {w : World} {b x : Nat} {f : Obj → Obj} (h : x ≠ b) : (w.heap.modify b f)[x]? = w.heap[x]? := by
  simp only [lH];rw [if_neg (Ne.symm h)]
theorem Q7 {f : FuncId} {T : TypeId} {x : AV} (hfn : ∃ fn, P.funcs[f]? = some fn ∧ (fn.name == "runtime.NumGoroutine") = false ∧ fn.body.isNone = false)
    (hs : ∀ (b : Nat) (w : World),w.cell? ⟨b,0,none⟩ = some (.pointer none) → w.shape? b = some (T,2) → w.frozen? ⟨b,0,none⟩ = false → Calls P f #[.pointer (some ⟨b,0,none⟩)] w fun e w' => e = .returned (.tuple #[]) ∧ w' = w.setCell ⟨b,0,none⟩ (.pointer (some ⟨b,0,none⟩))) :
    aQ P f [.ptr 0 0] [.var T [.v (.pointer none),x]] (.tup []) [.cells [.ptr 0 0,x]] := by
  refine ⟨hfn,fun ρ S w vs s ha => ?_⟩
  simp only [RL,R] at ha;obtain ⟨y,ys,rfl,⟨b,o,hp,rfl⟩,rfl⟩ := ha;obtain ⟨b',c,h1,h2,h3⟩ := s.blk 0 _ rfl;rw [hp] at h1;obtain ⟨rfl,rfl⟩ : b = b' ∧ o = 0 := by simpa using h1
  simp only [RL,R] at h3;obtain ⟨v0,l1,hc,rfl,v1,l2,rfl,hx,rfl⟩ := h3;have hcc : c = #[.pointer none,v1] := Array.toList_inj.1 hc;subst hcc;refine (hs b w (by simp [World.cell?,h2]) (by simp [World.shape?,h2]) (by simp [World.frozen?,h2])).mono fun e w' ⟨he,hw⟩ => ?_
  have hb : w'.heap[b]? = some (.cells #[.pointer (some ⟨b,0,none⟩),v1] T (0,0)) := by
    rw [hw];show (w.heap.modify b _)[b]? = _;rw [T4 h2];rfl
  have ho : ∀ x,x ≠ b → w'.heap[x]? = w.heap[x]? := fun x hx => by rw [hw];exact yY hx
  have hext : kY (fun x => x = b) w w' := by
    refine ⟨by rw [hw];rfl,by rw [hw];rfl,by rw [hw];rfl,by rw [hw];simp [World.setCell],fun x _ hx => ho x hx,fun x cc ee fz hcc => ?_⟩
    by_cases hx : x = b
    · subst hx;rw [h2] at hcc;cases hcc;exact ⟨_,_,hb,rfl⟩
    · exact ⟨cc,fz,by rw [ho x hx];exact hcc,rfl⟩
  obtain ⟨g1,g2⟩ := s.upd (nb := .cells [.ptr 0 0,x]) rfl (by simp) hp hext (fun l => ⟨b,0,[.pointer (some ⟨b,0,none⟩),v1],rfl,⟨_,T,hb,fun j y hj => by rw [Nat.zero_add];simpa using hj⟩,by
    simp only [RL,R]
    exact ⟨_,_,rfl,⟨b,0,hp,rfl⟩,_,_,rfl,R.later l hx,rfl⟩⟩)
  exact ⟨.tuple #[],ρ,S,he,g1,by simp [R,RL]⟩
theorem xT {env : dI} {h : Hp} {d : Option Nat} {ty : TypeId} {pos : String} {af : Array Edge} {g : Option (Nat × Bool)} {t t2 te : TypeId} {x y : Operand} {u z : AV} (ht : P.underlying t = some (.pointer te)) (hx : evu env x = some u) (hz : u.plus 0 = some z) (hy : evu env y = some (.v (.pointer none))) :
    bT P ⟨d,.binOp .eql t x y t2,ty,pos,af,g⟩ env h 0 (fun _ => .b false) (fun _ => []) := by
  refine gV fun ρ S a w p => ⟨.bool false,?_,by simp [R]⟩
  obtain ⟨b,o,h1,_⟩ := L1 (p.evu hx) hz;have h2 := qX (p.evu hy);have ht' : P.underlying t = some (.pointer (P.pointee t)) := by simp [Program.pointee,ht]
  have hq : eqGuard .eql t x y (.pointer (some ⟨b,o,none⟩)) (.pointer none) = pure () := by rfl
  have hr : (binOp .eql t (.pointer (some ⟨b,o,none⟩)) (.pointer none)).run P w = .ok (.bool false) w := by rw [run_eql_pointer_nil (P := P) w t (some ⟨b,o,none⟩) ht'];rfl
  simp [execOp,h1,h2,hq,hr]
theorem FS {env : dI} {h : Hp} {d : Option Nat} {ty : TypeId} {pos : String} {af : Array Edge} {g : Option (Nat × Bool)} {t t2 te : TypeId} {x y : Operand} {k off : Nat} {i : TypeInfo} (ht : P.underlying t = some (.pointer te)) (hi : P.info? te = some i) (hx : evu env x = some (.ptr k off)) (hy : evu env y = some (.ptr k off)) :
    bT P ⟨d,.binOp .neq t x y t2,ty,pos,af,g⟩ env h 0 (fun _ => .b false) (fun _ => []) := by
  refine gV fun ρ S a w p => ⟨.bool false,?_,by simp [R]⟩
  have h1 := p.evu hx;have h2 := p.evu hy;simp only [R] at h1 h2;obtain ⟨b,o,h3,h4⟩ := h1;obtain ⟨b',o',h5,h6⟩ := h2;rw [h3] at h5;cases h5;have hq : eqGuard .neq t x y (.pointer (some ⟨b,o + off,none⟩)) (.pointer (some ⟨b,o + off,none⟩)) = pure () := by rfl
  have := Go.Lib.run_neq_ptr_same (P := P) w (⟨b,o + off,none⟩ : Addr) ht hi;simp [execOp,h4,h6,hq,this]
theorem Z0 {env : dI} {h : Hp} {d : Option Nat} {ty : TypeId} {pos : String} {af : Array Edge} {g : Option (Nat × Bool)} {ts : Array TypeId} {x : Operand} {k len : Nat} (hx : evu env x = some (.sl k 0 len 1)) (hl : 0 < len) :
    bT P ⟨d,.call { callee := .builtin .unsafeSliceData,args := #[x],argTypes := ts },ty,pos,af,g⟩ env h 0 (fun _ => .ep k 0 0 1) (fun _ => []) := by
  refine gV fun ρ S a w p => ?_
  have h1 := p.evu hx;simp only [R] at h1;obtain ⟨ad,cap,h2,_,h3⟩ := h1;rcases h3 with ⟨h0,_⟩ | ⟨b,o,h4,h5,h6,_⟩
  · omega
  refine ⟨.pointer ad,?_,by simp only [R];exact ⟨b,o,h4,by rw [h5]⟩⟩
  have := Go.Lib.run_unsafeSliceData_row (P := P) w ts ty ⟨b,o,none⟩ len cap (by omega)
  have h5' : ad = some ⟨b,o,none⟩ := by rw [h5];simp
  rw [h5'] at h2 ⊢;simp [execOp,resolve,invoke,builtin,h2,this]
theorem AP {f : FuncId} {name : String} {gi : Nat} {tab : List Int} (hfn : ∃ fn, P.funcs[f]? = some fn ∧ (fn.name == "runtime.NumGoroutine") = false ∧ fn.body.isNone = false)
    (hs : ∀ (n : Int) (w : World),-9223372036854775808 ≤ n → n ≤ 9223372036854775807 → Go.Lib.TabIs P w name .u64 tab → Calls P f #[.int .i64 n,.int .i64 10] w fun e w' => e = .returned (.string ⟨(Go.Lib.itoa n).toArray⟩) ∧ ∃ k os,w' = Sort.grow (w.drewN k) os)
    (hg : P.globalNamed name = some gi) (hgt : (gi,tab.map fun z => AV.v (.int .u64 z)) ∈ zK) (n : Int) (h0 : -9223372036854775808 ≤ n) (h1 : n ≤ 9223372036854775807) : aQ P f [.i n,.i 10] [] (.s (Go.Lib.itoa n)) [] := by
  refine ⟨hfn,fun ρ S w vs s ha => ?_⟩
  simp only [RL,R] at ha;obtain ⟨y,ys,rfl,rfl,z,zs,rfl,rfl,rfl⟩ := ha;obtain ⟨_,ys,t,fz,g1,g2⟩ := s.glob gi _ hgt;have hT : Go.Lib.TabIs P w name .u64 tab := by
    have e : ys.toList = tab.map fun z => Value.int .u64 z := by
      have := AS (vs := tab.map fun z => Value.int .u64 z) (ys := ys.toList) (ρ := fun _ => none) (S := S) (w := w) (by simpa [yC,Function.comp_def] using g2)
      exact this
    unfold Go.Lib.TabIs World.var?;rw [hg];simp only [Option.bind_some,g1];rw [← e]
  refine (hs n w h0 h1 hT).mono fun e w' ⟨he,k,os,hw⟩ => ?_
  subst hw;exact ⟨_,ρ,S,he,s.kept PM,by simp [R]⟩
end
def VX (H : Hp) (pos : Nat) : List AB → Hp
  | [] => H
  | b :: _ => H.set pos b
theorem mC (A B : Hp) (b c : AB) : (A ++ (c :: B)).set A.length b = A ++ (b :: B) := by
  rw [jO _ _ (aX _),eX];rfl
def jI (P : Program) (o : Oper) (env : dI) (h : Hp) (pos k : Nat) (nb : AB) (x : AV) (new : List AB) : Prop :=
  ∀ c ρ S a w H,HS c ρ S H w → V0 ρ S env h a w → (∀ (j : Nat) b,h[j]? = some b → b ≠ .gone → H[j]? = some b) → (new = [] ∨ (ρ pos = none ∧ H[pos]? = some .gone ∧ c.m ≤ pos)) → ∀ (K : Act → World → Prop) Q,
    (∀ y ρ' S' w',HS c ρ' S' (VX (H.set k nb) pos new) w' → gM ρ ρ' S S' w w' → R S' w' x ρ' y → (∀ j,(new ≠ [] → j ≠ pos) → ρ' j = ρ j) → K (a.put o.dst y) w') → o.wp P a w K Q
theorem jI.more {P : Program} {o : Oper} {env env' : dI} {h : Hp} {pos k : Nat} {nb : AB} {x : AV} {new : List AB} (hs : jI P o env h pos k nb x new) (he : ∀ t u,look env t = some u → look env' t = some u) : jI P o env' h pos k nb x new :=
  fun c ρ S a w H g p => hs c ρ S a w H g ⟨fun t u hu => p.env t u (he t u hu),p.rng,p.blk,p.live,p.stab,p.glob⟩
theorem F9.a {P : Program} {op : Op} {ty : TypeId} {ps : String} {af : Array Edge} {env : dI} {h : Hp} {pos k : Nat} {nb : AB} (hs : F9 P ⟨none,op,ty,ps,af,none⟩ env h k nb) : jI P ⟨none,op,ty,ps,af,none⟩ env h pos k nb (.v undef) [] :=
  fun c ρ S a w H g p hb _ K Q hK => hs c ρ S a w H g p hb K Q fun _ w' hh l => hK undef ρ S w' hh l (kT _) (fun _ _ => rfl)
theorem rJ.astep {P : Program} {n : Nat × Nat} {c : mR} {env : dI} {h h' : Hp} {all : List lA} {L L' : Nat → Bool} {ρ ρ' : Pl} {S S' : Nat → Prop} {a : Act} {w w' : World} {i : Nat} {f : lA} {y : Value} (s : rJ P n c env h all L ρ S a w)
    (hf : all[i]? = some f) (hL : ∀ j,L' j = (L j || Nat.beq j i)) (hd : P9 f.d n = true) (hnd : (iE all).Nodup) (henv : ∀ t x,look env t = some x → t ∉ iE all)
    (hh : HS c ρ' S' (h' ++ iQ L' 0 all) w') (hl : h'.length = h.length) (l : gM ρ ρ' S S' w w') (hv : R S' w' f.x ρ' y) (hρ : ∀ j,(f.new ≠ [] → j ≠ h.length + lD (all.take i)) → ρ' j = ρ j) (hn1 : f.new.length ≤ 1) :
    rJ P n c env h' all L' ρ' S' (a.put f.d y) w' := by
  have hil : i < all.length := (aA.1 hf).1;have dst_ne : ∀ {j : Nat} {g : lA} {t : Nat},all[j]? = some g → j ≠ i → g.d = some t → f.d ≠ some t := fun {j g t} hg hne hgt hft => by
    have key : ∀ {l : List lA} {i j : Nat} {f g : lA},(iE l).Nodup → l[i]? = some f → l[j]? = some g → i < j → f.d = some t → g.d = some t → False := by
      intro l
      induction l with
      | nil => intro i j f g _ h1;simp at h1
      | cons e l ih =>
        intro i j f g hnd h1 h2 hij hf hg;have tail : (iE l).Nodup := by
          unfold iE at hnd ⊢;rw [xL] at hnd;split at hnd
          · exact hnd
          · exact (fD.1 hnd).2
        cases j with
        | zero => omega
        | succ j =>
          simp only [iV] at h2;cases i with
          | zero =>
            simp only [dQ,Option.some.injEq] at h1;subst h1;unfold iE at hnd;rw [xL,hf] at hnd;exact (fD.1 hnd).1 (iP.2 ⟨g,aJ h2,hg⟩)
          | succ i => exact ih tail (by simpa using h1) h2 (by omega) hf hg
    rcases nW hne with h1 | h1
    · exact key hnd hg hf h1 hgt hft
    · exact key hnd hf hg h1 hft hgt
  have other : ∀ {t : Nat},f.d ≠ some t → (a.put f.d y).tmps.getD t undef = a.tmps.getD t undef := fun {t} ht => by
    cases hfd : f.d with
    | none => rfl
    | some d => exact qM (fun e => ht (by rw [hfd,e]))
  refine ⟨by rw [kN];exact s.size,by rw [iO];exact s.defers.later l,s.cm,fun t x hx => ?_,fun j g t hg hj ht => ?_,hh,fun j g hg hj k hk => ?_⟩
  · rw [other (fun e => henv t x hx (iP.2 ⟨f,aJ hf,e⟩))];exact (s.env0 t x hx).later l
  · by_cases hji : j = i
    · subst hji;rw [hf] at hg;cases hg;rw [ht] at hd ⊢;have hlt : t < a.tmps.size := by rw [s.size];exact aM hd
      rw [rR hlt];exact hv
    · rw [other (dst_ne hg hji ht)];have hjL : L j = true := by
        rw [hL] at hj;rcases gR.1 hj with hj | hj
        · exact hj
        · exact absurd (aI hj) hji
      exact (s.done j g t hg hjL ht).later l
  · have hjL : L j = false := by rw [hL] at hj;exact (mB.1 hj).1
    have hji : j ≠ i := fun e => by rw [hL,e,fE,sW] at hj;cases hj
    have := s.undone j g hg hjL k hk;rw [hl];rw [hρ _ (fun hne e => ?_)];exact this;have lens_take : ∀ (l : List lA) (a b : Nat) (f : lA),a < b → l[a]? = some f → lD (l.take a) + f.new.length ≤ lD (l.take b) := by
      intro l
      induction l with
      | nil => intro a b f _ h;simp at h
      | cons e l ih =>
        intro a b f hab h;cases b with
        | zero => omega
        | succ b =>
          cases a with
          | zero => simp at h;subst h;simp [lD]
          | succ a => simp only [mQ,lD];have := ih a b f (by omega) (by simpa using h);omega
    rcases nW hji with h1 | h1
    · have := lens_take all j i g h1 hg;omega
    · have := lens_take all i j f h1 hf;have h2 : 0 < f.new.length := dZ.2 hne;omega
def zC7 (P : Program) (n : Nat × Nat) (ops : Array Oper) (pres : List (List Nat)) (ss : List (Nat × Nat)) (ds : List Nat) (env : dI) (h : Hp) (effs : List lA) (don : List AB) (K : dI → Hp → Prop) : Prop :=
  ∃ more mb,(effs ++ more).length = pres.length ∧ (don ++ mb).length = ss.length ∧ iE (effs ++ more) = ds ∧
    (∀ i f pre,effs.length ≤ i → (effs ++ more)[i]? = some f → pres[i]? = some pre →
      ((∀ x,x ∈ ss → x.1 ≠ i) ∧ V5 P ops i (uF env ((effs ++ more).take i) pre) (seeH pres i pre ss (don ++ mb) h ++ iQ (fun j => pre.any (Nat.beq j)) 0 ((effs ++ more).take i)) f) ∨
      (∃ (m k : Nat) (b : AB) (o : Oper),ss[m]? = some (i,k) ∧ (don ++ mb)[m]? = some b ∧ o.dst = f.d ∧ f.new.length ≤ 1 ∧ ops[i]? = some o ∧ (o.guard = none ∨ ∃ g want t,o.guard = some (g,want) ∧ (ops[g]?).bind (·.dst) = some t ∧ look (uF env ((effs ++ more).take i) pre) t = some (.b want)) ∧ k < h.length ∧ jI P o (uF env ((effs ++ more).take i) pre) (seeH pres i pre ss (don ++ mb) h ++ iQ (fun j => pre.any (Nat.beq j)) 0 ((effs ++ more).take i)) (h.length + lD ((effs ++ more).take i)) k b f.x f.new)) ∧
    VC P n ops (ops.toList.drop pres.length) (uF env (effs ++ more) (List.range pres.length)) (eK (fun _ => true) ss (don ++ mb) h ++ iQ (fun _ => true) 0 (effs ++ more)) K
theorem QI {P : Program} {n : Nat × Nat} {env : dI} {h : Hp} {Q : Exit → dI → Hp → Prop} {id : Nat} {l : List Oper} (pres : List (List Nat)) (ds : List Nat) (ss : List (Nat × Nat)) (hm : P.follows .mixedOrders = true) (hok : qH l.toArray pres = true) (hss : HM pres ss = true) (hssl : (ss.all fun x => Nat.blt x.1 pres.length) = true) (hnd : ds.Nodup) (hds : (ds.all fun d => Nat.blt d n.1) = true) (hsz : Nat.ble pres.length l.length = true)
    (hv : zC7 P n l.toArray pres ss ds (dY ds env) h [] [] (fun v h => Q .normal v h)) (hndf : lC l = true := by rfl) : AW P n (.region id l.toArray true) env h Q := by
  intro c ρ S a w QX s hX;refine mS hm hndf ?_;have hQ : ∀ (env' : dI) (h' : Hp) ρ' S' a' w',Q .normal env' h' → nU n c ρ' S' env' h' a' w' → (fun e a w => e = Exit.normal ∧ QX Exit.normal a w) Exit.normal a' w' := fun env' h' ρ' S' a' w' k s' => ⟨rfl,hX .normal env' h' ρ' S' a' w' k s'⟩
  generalize (fun e a w => e = Exit.normal ∧ QX Exit.normal a w) = QQ at hQ ⊢;obtain ⟨all,bs,h1,hbl,h2,h3,h4⟩ := hv;simp only [List.nil_append,List.length_nil,bW,true_implies] at h1 hbl h2 h3 h4;have hAT : ∀ L : Nat → Bool,(∀ j,j < pres.length → L j = true) → eK L ss bs h = eK (fun _ => true) ss bs h := fun L hL => mI ss bs h fun x hx => hL x.1 (by have := bA.1 hssl x hx;exact aM this)
  have hple : pres.length ≤ l.toArray.size := by simpa using aM hsz
  have henv : ∀ t x,look (dY ds env) t = some x → look env t = some x ∧ t ∉ iE all := fun t x hx => by rw [h2];exact iW hx
  -- the first operations,in whatever order
  have key : ∀ (fuel : Nat) (listed : Array Bool) (U : List Nat) (ρ : Pl) (S : Nat → Prop) (a : Act) (w : World),listed.size = l.toArray.size → (∀ j,j < l.toArray.size → listed.getD j false = false → j ∈ U) → U.length ≤ fuel → (∀ j,pres.length ≤ j → listed.getD j false = false) →
      (∀ (i : Nat) o,l.toArray[i]? = some o → listed.getD i false = true → ∀ e,e ∈ o.after → Region.binds .any e = true → listed.getD e.on false = true) →
      rJ P n c (dY ds env) (eK (fun j => listed.getD j false) ss bs h) all (fun j => listed.getD j false) ρ S a w → wpAny P .any l.toArray QQ fuel listed a w := by
    intro fuel
    induction fuel with
    | zero =>
      intro listed U ρ S a w hls hU hUl htail hcl st;have hU0 : U = [] := bP (by omega)
      subst hU0;have hall : ∀ j,j < l.toArray.size → listed.getD j false = true := fun j hj => by
        cases hb : listed.getD j false with
        | true => rfl
        | false => exact absurd (hU j hj hb) (by simp)
      have hpm : pres.length = l.toArray.size := by
        rcases gS pres.length l.toArray.size with h5 | h5
        · have := htail pres.length (aX _);rw [hall _ h5] at this;cases this
        · omega
      refine oL (k := pres.length) (r := 0) hok _ _ a w (by omega) (aX _) (aX _) hls (fun j hj => ?_) (h4 c ρ S a w QQ ?_ fun env' h' ρ' S' a' w' k s' => hQ env' h' ρ' S' a' w' k s')
      · rw [hall j hj];simp;omega
      · refine ⟨st.size,st.defers,fun t x hx => ?_,?_,st.cm⟩
        · rcases lB hx with hx | ⟨j,f,h5,h6,h7,rfl⟩
          · exact st.env0 t x hx
          · exact st.done j f t h6 (hall j (by have := (aA.1 h6).1;omega)) h7
        · have := st.hs
          rwa [kO (L := fun j => listed.getD j false) (L' := fun _ => true) all 0 (fun j _ hj => hall j (by omega)),hAT _ (fun j hj => hall j (by omega))] at this
    | succ fuel ih =>
      intro listed U ρ S a w hls hU hUl htail hcl st;by_cases hfl : ∀ j,j < pres.length → listed.getD j false = true
      · -- all of the first ones have come up
        refine oL (k := pres.length) (r := l.toArray.size - pres.length) hok _ _ a w (by omega) (aX _) ?_ hls (fun j hj => ?_) (h4 c ρ S a w QQ ?_ fun env' h' ρ' S' a' w' k s' => hQ env' h' ρ' S' a' w' k s')
        · have hsub : ∀ j,j ∈ List.range' pres.length (l.toArray.size - pres.length) → j ∈ U := fun j hj => by
            rw [RT] at hj;exact hU j (by omega) (htail j hj.1)
          have := (RS (s := pres.length) (n := l.toArray.size - pres.length)).length_le_of_subset hsub;rw [LP] at this;omega
        · by_cases hj' : j < pres.length
          · rw [hfl j hj'];simp [hj']
          · rw [htail j (by omega)];simp;omega
        · refine ⟨st.size,st.defers,fun t x hx => ?_,?_,st.cm⟩
          · rcases lB hx with hx | ⟨j,f,h5,h6,h7,rfl⟩
            · exact st.env0 t x hx
            · exact st.done j f t h6 (hfl j (by have := (aA.1 h6).1;omega)) h7
          · have := st.hs
            rwa [kO (L := fun j => listed.getD j false) (L' := fun _ => true) all 0 (fun j _ hj => hfl j (by omega)),hAT _ hfl] at this
      · obtain ⟨j0,hj0,hjf⟩ : ∃ j,j < pres.length ∧ listed.getD j false = false := by
          apply Classical.byContradiction;intro hc;apply hfl;intro j hj;cases hb : listed.getD j false with
          | true => rfl
          | false => exact absurd ⟨j,hj,hb⟩ hc
        -- something is ready
        have hex : Region.ready .any l.toArray listed ≠ [] := by
          have jL : ∃ j,j < pres.length ∧ listed.getD j false = false ∧ ∀ k,k < j → listed.getD k false = true := by
            have : ∀ b j,j ≤ b → j < pres.length → listed.getD j false = false → ∃ j,j < pres.length ∧ listed.getD j false = false ∧ ∀ k,k < j → listed.getD k false = true := by
              intro b
              induction b with
              | zero => exact fun j hj h5 h6 => ⟨j,h5,h6,fun k hk => by omega⟩
              | succ b ihb =>
                intro j hj h5 h6;by_cases hk : ∃ k,k < j ∧ listed.getD k false = false
                · obtain ⟨k,hk1,hk2⟩ := hk;exact ihb k (by omega) (by omega) hk2
                · refine ⟨j,h5,h6,fun k hk' => ?_⟩
                  cases hb : listed.getD k false with
                  | true => rfl
                  | false => exact absurd ⟨k,hk',hb⟩ hk
            exact this j0 j0 (aX _) hj0 hjf
          obtain ⟨j,h5,h6,h7⟩ := jL;intro he;have hlt : j < l.toArray.size := by omega
          have : j ∈ Region.ready .any l.toArray listed := mem_ready.2 ⟨by
            have e : listed.getD j true = listed.getD j false := by simp only [Array.getD,hls,hlt,dif_pos]
            rw [e,h6],_,cH hlt,fun e he hb => h7 _ (jV hok (cH hlt) e he hb)⟩
          rw [he] at this;cases this
        refine ⟨fun h5 => absurd h5 hex,fun i hi => ?_⟩
        obtain ⟨g1,o,ho,hall⟩ := mem_ready.1 hi;have hil : i < l.toArray.size := (aH.1 ho).1;have g1' : listed.getD i false = false := by
          have e : listed.getD i true = listed.getD i false := by simp only [Array.getD,hls,hil,dif_pos]
          rw [← e];exact g1
        have him : i < pres.length := by
          rcases gS i pres.length with h5 | h5
          · exact h5
          · obtain ⟨e,he,hb,hon⟩ := rB hok ho h5 j0 (by omega)
            have := hall e he hb;rw [hon,hjf] at this;cases this
        have hfi : all[i]? = some all[i] := aB (by omega)
        obtain ⟨pre,hpre⟩ : ∃ pre,pres[i]? = some pre := ⟨_,aB him⟩
        -- its predecessors have come up
        have up : ∀ (b k : Nat) (p : List Nat),k ≤ b → pres[k]? = some p → (k = i ∨ listed.getD k false = true) → ∀ j,j ∈ p → listed.getD j false = true := by
          intro b
          induction b with
          | zero =>
            intro k p hk hp _ j hj;obtain ⟨ok,hok1⟩ : ∃ o,l.toArray[k]? = some o := ⟨_,cH (by have := (aA.1 hp).1;omega)⟩
            have := (nJ hok hok1 hp j hj).1;omega
          | succ b ihb =>
            intro k p hk hp hki j hj;obtain ⟨ok,hok1⟩ : ∃ o,l.toArray[k]? = some o := ⟨_,cH (by have := (aA.1 hp).1;omega)⟩
            obtain ⟨_,e,he,hb,hor⟩ := nJ hok hok1 hp j hj;have hle : listed.getD e.on false = true := by
              rcases hki with rfl | hki
              · rw [ho] at hok1;cases hok1;exact hall e he hb
              · exact hcl k ok hok1 hki e he hb
            rcases hor with hor | hor
            · rw [← hor];exact hle
            · have hon := jV hok hok1 e he hb;cases hpe : pres[e.on]? with
              | none => rw [aC,hpe] at hor;simp at hor
              | some p' =>
                rw [aC,hpe] at hor;exact ihb e.on p' (by omega) hpe (.inr hle) j hor
        have hprel : ∀ j,j ∈ pre → listed.getD j false = true := up i i pre (aX _) hpre (.inl rfl);have hH0 : (eK (fun j => listed.getD j false) ss bs h).length = h.length := lZ _ _ _ _;have hhv : (seeH pres i pre ss bs h).length = h.length := rZ _ _ _ _ _;have hbel : ∀ (k : Nat) b,(seeH pres i pre ss bs h)[k]? = some b → b ≠ .gone → (eK (fun j => listed.getD j false) ss bs h)[k]? = some b := by
          refine A7 ss bs h h hbl rfl (fun _ _ hb _ => hb) (fun x _ hp => hprel _ (mJ.1 hp)) (fun x hx _ hbf => ?_);cases hlx : listed.getD x.1 false with
          | false => rfl
          | true =>
            rcases gR.1 hbf with h5 | h5
            · rw [aI h5,g1'] at hlx;cases hlx
            · cases hpx : pres[x.1]? with
              | none => rw [aC,hpx] at h5;simp at h5
              | some px =>
                rw [aC,hpx] at h5;have := up x.1 x.1 px (aX _) hpx (.inr hlx) i (mJ.1 h5);rw [g1'] at this;cases this
        have hbel2 : ∀ (k : Nat) b,(seeH pres i pre ss bs h ++ iQ (fun j => pre.any (Nat.beq j)) 0 (all.take i))[k]? = some b → b ≠ .gone → (eK (fun j => listed.getD j false) ss bs h ++ iQ (fun j => listed.getD j false) 0 all)[k]? = some b := fun k b hb hgb => by
          by_cases hk : k < h.length
          · rw [aF (by omega)] at hb ⊢;exact hbel k b hb hgb
          · rw [aE (by omega)] at hb ⊢
            rw [hhv] at hb;rw [hH0];have h5 := yU (L' := fun j => listed.getD j false) _ _ _ _ (fun j hj => hprel j (mJ.1 hj)) hb hgb;have h6 : iQ (fun j => listed.getD j false) 0 all = iQ (fun j => listed.getD j false) 0 (all.take i) ++ iQ (fun j => listed.getD j false) (0 + (all.take i).length) (all.drop i) := by
              rw [← oN,bG]
            rw [h6,aF (aA.1 h5).1];exact h5
        have hpreP : V0 ρ S (uF (dY ds env) (all.take i) pre) (seeH pres i pre ss bs h ++ iQ (fun j => pre.any (Nat.beq j)) 0 (all.take i)) a w := by
          refine ⟨fun t x hx => ?_,st.hs.rng,fun k b hb => ?_,fun k b p hb hgb hp => (st.hs.live k b p (hbel2 k b hb hgb) hgb hp).2,st.hs.stab,st.hs.glob⟩
          · rcases lB hx with hx | ⟨j,f,h5,h6,h7,rfl⟩
            · exact st.env0 t x hx
            · rw [bM] at h6;split at h6
              · exact st.done j f t h6 (hprel j h5) h7
              · cases h6
          · by_cases hgb : b = .gone
            · subst hgb;trivial
            · exact st.hs.blk k b (hbel2 k b hb hgb)
        have hposl : (seeH pres i pre ss bs h ++ iQ (fun j => pre.any (Nat.beq j)) 0 (all.take i)).length = (eK (fun j => listed.getD j false) ss bs h).length + lD (all.take i) := by rw [aD,lQ,hhv,hH0]
        have hokd : P9 all[i].d n = true := by
          cases hdi : all[i].d with
          | none => rfl
          | some d =>
            have : d ∈ ds := by rw [← h2];exact iP.2 ⟨all[i],aK _,hdi⟩
            exact bA.1 hds d this
        -- on,iT it
        have hget : ∀ j,(listed.setIfInBounds i true).getD j false = (listed.getD j false || Nat.beq j i) := fun j => by
          by_cases hij : i = j
          · subst hij;rw [fE,sW];simp only [Array.getD,H7,hls,hil,dif_pos];simp
          · rw [getD_set_ne false hij,show Nat.beq j i = false from by rw [← eF];intro hb;have := aI hb;omega,iZ]
        have onS : ∀ ρ' S' a' w',rJ P n c (dY ds env) (eK (fun j => (listed.setIfInBounds i true).getD j false) ss bs h) all (fun j => (listed.setIfInBounds i true).getD j false) ρ' S' a' w' → wpAny P .any l.toArray QQ fuel (listed.setIfInBounds i true) a' w' := fun ρ' S' a' w' st' => by
          have hiU : i ∈ U := hU i hil g1';refine ih (listed.setIfInBounds i true) (U.erase i) ρ' S' _ w' (by simpa using hls) (fun j hj hjl => ?_) (by rw [mK hiU];omega) (fun j hj => ?_) (fun k ok hok1 hkl e he hb => ?_) st'
          · rw [hget] at hjl;obtain ⟨h5,h6⟩ := mB.1 hjl;have hne : j ≠ i := fun e => by rw [e,fE] at h6;cases h6
            exact (pE hne).2 (hU j hj h5)
          · rw [hget,htail j hj,show Nat.beq j i = false from by rw [← eF];intro hb;have := aI hb;omega];rfl
          · rw [hget] at hkl ⊢;rcases gR.1 hkl with h5 | h5
            · rw [hcl k ok hok1 h5 e he hb];rfl
            · have := aI h5;subst this;rw [ho] at hok1;cases hok1;rw [hall e he hb];rfl
        have yv : ∀ {g t : Nat} {b : Bool},(l.toArray[g]?).bind (·.dst) = some t → look (uF (dY ds env) (all.take i) pre) t = some (.b b) → yielded l.toArray a.tmps g = some b := fun {g t b} h5 h6 => by
          have h7 := qX (hpreP.env t _ h6);unfold yielded;rw [h5];have : a.tmps[t]? = some (.bool b) := by
            rw [cX] at h7;cases h8 : a.tmps[t]? with
            | none => rw [h8] at h7;simp [undef] at h7
            | some v => rw [h8] at h7;simp at h7;rw [h7]
          simp [this]
        have yvu : ∀ {g t : Nat},(l.toArray[g]?).bind (·.dst) = some t → look (uF (dY ds env) (all.take i) pre) t = some (.v undef) → yielded l.toArray a.tmps g = none := fun {g t} h5 h6 => by
          have h7 := qX (hpreP.env t _ h6);unfold yielded;rw [h5];rw [cX] at h7;cases h8 : a.tmps[t]? with
          | none => simp [h8]
          | some v => rw [h8] at h7;simp at h7;simp [h8,h7,undef]
        unfold wpOp;rw [ho];simp only;rcases h3 i all[i] pre hfi hpre with ⟨hns,o',ho',hd',hg⟩ | ⟨m,k,b,o',hm1,hm2,hdd,hn1,ho',hgu,hkl,hst⟩
        · rw [ho] at ho';cases ho';have hsame : eK (fun j => (listed.setIfInBounds i true).getD j false) ss bs h = eK (fun j => listed.getD j false) ss bs h := mI ss bs h fun x hx => by
            rw [hget,show Nat.beq x.1 i = false from by rw [← eF];intro hb;exact hns x hx (aI hb),iZ]
          have on : ∀ y ρ' S' w',H5 ρ ρ' S S' w w' ((eK (fun j => listed.getD j false) ss bs h).length + lD (all.take i)) all[i].new.length all[i].x all[i].new y → wpAny P .any l.toArray QQ fuel (listed.setIfInBounds i true) (a.put all[i].d y) w' := fun y ρ' S' w' p => by
            have := st.step (L' := fun j => (listed.setIfInBounds i true).getD j false) hfi g1' hget p hokd (by rw [h2];exact hnd) (fun t x hx => (henv t x hx).2) (by rw [hH0];exact s.hs.mle)
            rw [← hsame] at this;exact onS _ _ _ _ this
          rcases hg with ⟨x,new,hgu,hfs,hx,hn⟩ | ⟨g,want,t,hgu,h5,h6,hx,hn⟩
          · have hw : Region.wanted o (yielded l.toArray a.tmps) = true := by
              rcases hgu with hgu | ⟨g,want,t,hgu,h5,h6⟩
              · exact lP hgu
              · simp [Region.wanted,hgu,yv h5 h6]
            rw [if_pos hw];left;have := hfs ρ S a w hpreP (seeH pres i pre ss bs h ++ iQ (fun j => pre.any (Nat.beq j)) 0 (all.take i)).length (fun j hj => by rw [hposl];exact st.undone i _ hfi g1' j hj)
            refine this (wpAny P .any l.toArray QQ fuel (listed.setIfInBounds i true)) QQ fun y ρ' S' w' p => ?_
            rw [hx,hn,hposl] at p;have := on y ρ' S' w' p;rw [← hd'] at this;exact this
          · have hw : Region.wanted o (yielded l.toArray a.tmps) = false := by
              rcases h6 with h6 | h6
              · simp [Region.wanted,hgu,yv h5 h6]
              · simp [Region.wanted,hgu,yvu h5 h6]
            rw [if_neg (by rw [hw];exact qY)]
            have := on undef ρ S w ⟨kY.refl _ _,rfl,fun _ _ => rfl,fun _ h => h,fun _ h => .inl h,fun k p hk1 hk2 => by rw [hn,List.length_nil] at hk2;omega,fun k k' p p' hk1 hk2 => by rw [hn,List.length_nil] at hk2;omega,by rw [hx];exact kT _,fun j b hb => by rw [hn] at hb;simp at hb⟩
            rw [← hd'] at this;exact this
        · rw [ho] at ho';cases ho';have hw : Region.wanted o (yielded l.toArray a.tmps) = true := by
            rcases hgu with hgu | ⟨g,want,t,hgu,h5,h6⟩
            · exact lP hgu
            · simp [Region.wanted,hgu,yv h5 h6]
          rw [if_pos hw];left;have hap : (eK (fun j => listed.getD j false) ss bs h).set k b = eK (fun j => (listed.setIfInBounds i true).getD j false) ss bs h := by
            rw [xZ (L := fun j => listed.getD j false) (L' := fun j => (listed.setIfInBounds i true).getD j false) ss bs h m hss hm1 hm2 g1' hget (fun x hx hlx j hj => ?_)];cases hpx : pres[x.1]? with
            | none => rw [aC,hpx] at hj;simp at hj
            | some px =>
              rw [aC,hpx] at hj;exact up x.1 x.1 px (aX _) hpx (.inr hlx) j hj
          have hil2 : i < all.length := (aA.1 hfi).1;have hsplit : all = all.take i ++ all[i] :: all.drop (i + 1) := by
            have := bG i all;rw [aT hil2] at this;exact this.symm
          have hti : (all.take i).length = i := by rw [aU];omega
          have sL : ∀ M : Nat → Bool,iQ M 0 all = iQ M 0 (all.take i) ++ ((match M i with | true => all[i].new | false => List.replicate all[i].new.length .gone) ++ iQ M (i + 1) (all.drop (i + 1))) := fun M => by
            conv => lhs;rw [hsplit]
            rw [oN,hti,Nat.zero_add];rfl
          have e1 : iQ (fun j => (listed.setIfInBounds i true).getD j false) 0 (all.take i) = iQ (fun j => listed.getD j false) 0 (all.take i) := kO _ _ fun j _ hj => by
            rw [hti] at hj;show (listed.setIfInBounds i true).getD j false = _;rw [hget,show Nat.beq j i = false from by rw [← eF];intro hb;have := aI hb;omega,iZ]
          have e2 : iQ (fun j => (listed.setIfInBounds i true).getD j false) (i + 1) (all.drop (i + 1)) = iQ (fun j => listed.getD j false) (i + 1) (all.drop (i + 1)) := kO _ _ fun j hj _ => by
            show (listed.setIfInBounds i true).getD j false = _;rw [hget,show Nat.beq j i = false from by rw [← eF];intro hb;have := aI hb;omega,iZ]
          have hLi : (listed.setIfInBounds i true).getD i false = true := by rw [hget,fE,sW]
          have hlen := lQ (fun j => listed.getD j false) 0 (all.take i);have hA : eK (fun j => listed.getD j false) ss bs h ++ iQ (fun j => listed.getD j false) 0 all = (eK (fun j => listed.getD j false) ss bs h ++ iQ (fun j => listed.getD j false) 0 (all.take i)) ++ (List.replicate all[i].new.length .gone ++ iQ (fun j => listed.getD j false) (i + 1) (all.drop (i + 1))) := by rw [sL (fun j => listed.getD j false)];simp only [g1',bE]
          have hB : eK (fun j => (listed.setIfInBounds i true).getD j false) ss bs h ++ iQ (fun j => (listed.setIfInBounds i true).getD j false) 0 all = (eK (fun j => (listed.setIfInBounds i true).getD j false) ss bs h ++ iQ (fun j => listed.getD j false) 0 (all.take i)) ++ (all[i].new ++ iQ (fun j => listed.getD j false) (i + 1) (all.drop (i + 1))) := by rw [sL (fun j => (listed.setIfInBounds i true).getD j false)];simp only [hLi,e1,e2,bE]
          have hsetk : (eK (fun j => listed.getD j false) ss bs h ++ iQ (fun j => listed.getD j false) 0 all).set k b = (eK (fun j => (listed.setIfInBounds i true).getD j false) ss bs h ++ iQ (fun j => listed.getD j false) 0 (all.take i)) ++ (List.replicate all[i].new.length .gone ++ iQ (fun j => listed.getD j false) (i + 1) (all.drop (i + 1))) := by
            rw [hA,bE,EP _ _ (by rw [hH0];exact hkl),hap,bE]
          have hfill : VX ((eK (fun j => listed.getD j false) ss bs h ++ iQ (fun j => listed.getD j false) 0 all).set k b) (h.length + lD (all.take i)) all[i].new = eK (fun j => (listed.setIfInBounds i true).getD j false) ss bs h ++ iQ (fun j => (listed.setIfInBounds i true).getD j false) 0 all := by
            rw [hsetk,hB];have hpl : (eK (fun j => (listed.setIfInBounds i true).getD j false) ss bs h ++ iQ (fun j => listed.getD j false) 0 (all.take i)).length = h.length + lD (all.take i) := by rw [aD,lZ,hlen]
            match hnw : all[i].new,hn1 with
            | [],_ => rfl
            | [q],_ =>
              show List.set _ _ _ = _;rw [← hpl];exact mC _ _ _ _
            | _ :: _ :: _,h9 => exact absurd h9 (by simp)
          refine hst c ρ S a w _ st.hs hpreP hbel2 ?_ (wpAny P .any l.toArray QQ fuel (listed.setIfInBounds i true)) QQ fun y ρ' S' w' hh l' hv hρ => ?_
          · by_cases hnw : all[i].new = []
            · exact .inl hnw
            · have hpos : 0 < all[i].new.length := dZ.2 hnw;refine .inr ⟨by have := st.undone i _ hfi g1' 0 hpos;rwa [Nat.add_zero,hH0] at this,?_,by have := s.hs.mle;omega⟩
              rw [hA,aE (by rw [aD,hlen,hH0];omega),aD,hlen,hH0,eX,aF (by simpa using hpos)]
              simp [nB,hpos]
          · rw [hfill] at hh;have := st.astep (h' := eK (fun j => (listed.setIfInBounds i true).getD j false) ss bs h) (L' := fun j => (listed.setIfInBounds i true).getD j false) hfi hget hokd (by rw [h2];exact hnd) (fun t x hx => (henv t x hx).2) hh (by rw [lZ,lZ]) l' hv (fun j hj => ?_) hn1
            · rw [hdd];exact onS _ _ _ _ this
            · exact hρ j (by rw [hH0] at hj;exact hj)
  have hsize : l.toArray.size = l.length := by simp
  have hrep : ∀ j,(Array.replicate l.toArray.size false).getD j false = false := fun j => by
    simp only [Array.getD];split <;> simp
  refine key l.toArray.size _ (List.range l.toArray.size) ρ S a _ (by simp) (fun j hj _ => by simpa using hj) (by simp) (fun j _ => hrep j) (fun i o _ hi => by rw [hrep] at hi;cases hi) ?_
  have hseg : ∀ (r : List lA) (i : Nat),iQ (fun _ => false) i r = List.replicate (lD r) .gone := by
    intro r
    induction r with
    | nil => intro i;rfl
    | cons f r ih => intro i;simp only [iQ,ih,lD,uE]
  have hL : (fun j => (Array.replicate l.toArray.size false).getD j false) = fun _ => false := funext hrep
  rw [hL,show eK (fun _ => false) ss bs h = h from ?_]
  rotate_left
  · have : ∀ (ss : List (Nat × Nat)) (bs : List AB) (h : Hp),eK (fun _ => false) ss bs h = h := by
      intro ss
      induction ss with
      | nil => intros;rfl
      | cons x r ihr =>
        intro bs h;cases bs with
        | nil => rfl
        | cons b bs => simp only [eK];exact ihr bs h
    exact this ss bs h
  have l0 : gM ρ ρ S S w { w with drawn := w.drawn + 1 } := ⟨fun _ _ h => h,fun _ h => h,fun _ _ => rfl,fun _ _ _ _ _ h => h⟩
  refine ⟨s.size,s.defers.later l0,s.cm,fun t x hx => (s.env t x (iW hx).1).later l0,fun i f t _ hi => (by cases hi),?_,fun i f _ _ j _ => s.hs.dom _ (by omega)⟩
  rw [hseg];have ext : kY c.M c.w0 { w with drawn := w.drawn + 1 } := s.hs.ext.drew;have at_ : ∀ {k : Nat} {b : AB},(h ++ List.replicate (lD all) .gone)[k]? = some b → b ≠ .gone → h[k]? = some b := fun {k b} hb hg => by
    by_cases hk : k < h.length
    · rwa [aF hk] at hb
    · rw [aE (by omega),nB] at hb
      split at hb
      · cases hb;exact absurd rfl hg
      · cases hb
  refine ⟨fun k hk => s.hs.dom k (by simp at hk;omega),s.hs.rng,fun k b hb => ?_,fun k b p hb hg hp => s.hs.live k b p (at_ hb hg) hg hp,fun k k' b b' p p' hb hb' hg hg' hp hp' e => s.hs.inj k k' b b' p p' (at_ hb hg) (at_ hb' hg') hg hg' hp hp' e,s.hs.stab,ext,s.hs.st0,s.hs.st1,by simp;exact bX s.hs.mle (gD _ _),s.hs.keep,s.hs.glob.later l0⟩
  by_cases hg : b = .gone
  · subst hg;trivial
  · exact RB.later l0 (fun _ _ _ => rfl) (s.hs.blk k b (at_ hb hg))
def LQ (P : Program) (n : Nat × Nat) (ops : List Oper) (pres : List (List Nat)) (ds : List Nat) (bads : List (List Nat)) (ss : List (Nat × Nat)) (env : dI) (h : Hp) (i : Nat) (cur : dI) (objs : List (Nat × Hp)) (don : List AB) (K : dI → Hp → Prop) : Prop :=
  iK ops pres ds bads ss n.1 = true → (∀ t,t ∈ ds → look env t = none) → ∀ effs,zY ops ss env i cur objs don effs → zC7 P n ops.toArray pres ss ds env h effs don K
section
variable {P : Program} {n : Nat × Nat} {ops : List Oper} {pres : List (List Nat)} {ds : List Nat} {bads : List (List Nat)} {ss : List (Nat × Nat)} {env : dI} {h : Hp} {K : dI → Hp → Prop} {pre bad : List Nat}
theorem QJ {Q : Exit → dI → Hp → Prop} {id : Nat} {l : List Oper} (pres : List (List Nat)) (ds : List Nat) (bads : List (List Nat)) (ss : List (Nat × Nat)) (hm : P.follows .mixedOrders = true) (hok : iK l pres ds bads ss n.1 = true)
    (hv : LQ P n l pres ds bads ss (dY ds env) h 0 (dY ds env) [] [] (fun v h => Q .normal v h)) (hndf : lC l = true := by rfl) : AW P n (.region id l.toArray true) env h Q := by
  have hok' := hok;simp only [iK,kB,aP,decide_eq_true_eq] at hok';obtain ⟨⟨⟨⟨⟨⟨⟨h1,h2⟩,h3⟩,h4⟩,h5⟩,h6⟩,h7⟩,h8⟩ := hok';refine QI pres ds ss hm h1 h7 h8 h2 h3 h4 (hv hok (fun t ht => ?_) [] ⟨⟨rfl,rfl,rfl,fun j f hf => by simp at hf⟩,fun x _ => bW _⟩) hndf
  cases hl : look (dY ds env) t with
  | none => rfl
  | some x => exact absurd ht (iW hl).2
variable {op : Op} {ty : TypeId} {pos : String} {af : Array Edge} {d : Option Nat} {i : Nat} {cur : dI} {objs : List (Nat × Hp)} {don : List AB}
theorem DO {effs : List lA} {f : lA} (hok : iK ops pres ds bads ss n.1 = true) (g : zY ops ss env i cur objs don effs) (hp : pres[i]? = some pre) (hi : i < ops.length) (hns : (ss.all fun x => !Nat.beq x.1 i) = true)
    (hg : V5 P ops.toArray i (uF env effs pre) (seeH pres i pre ss don h ++ kW pre objs) f) (hk : zC7 P n ops.toArray pres ss ds env h (effs ++ [f]) don K) : zC7 P n ops.toArray pres ss ds env h effs don K := by
  obtain ⟨more,mb,h1,h0,h2,h3,h4⟩ := hk;have e : effs ++ [f] ++ more = effs ++ (f :: more) := by simp
  rw [e] at h1 h2 h3 h4;have hie : effs.length = i := g.g.len;refine ⟨f :: more,mb,h1,h0,h2,fun j q p hj hgj hpj => ?_,h4⟩
  by_cases hji : j = i
  · subst hji;rw [hp] at hpj;cases hpj;rw [aE (by omega),hie,eX] at hgj
    simp at hgj;subst hgj;left;refine ⟨fun x hx hxe => ?_,?_⟩
    · have := bA.1 hns x hx;rw [hxe,fE] at this;cases this
    · rw [jR,cF (by omega),hie,eX,g.seeH hok hi hp mb]
      simp only [lF,List.append_nil];rw [kP,← g.g.objs];exact hg
  · exact h3 j q p (by simp;omega) hgj hpj
theorem eT {dd : Nat} {u : AV} (ho : ops[i]? = some ⟨some dd, op, ty, pos, af, none⟩) (hp : pres[i]? = some pre) (hb : bads[i]? = some bad) (hns : (ss.all fun x => !Nat.beq x.1 i) = true) (hs : bT P ⟨some dd, op, ty, pos, af, none⟩ (dY bad cur) (seeH pres i pre ss don h ++ kW pre objs) 0 (fun _ => u) (fun _ => []))
    (hk : LQ P n ops pres ds bads ss env h (i + 1) ((dd,u) :: cur) objs don K) : LQ P n ops pres ds bads ss env h i cur objs don K := by
  intro hok hen effs g;refine DO (f := ⟨some dd,u,[]⟩) hok g hp (aA.1 ho).1 hns ⟨_,by simpa using ho,rfl,.inl ⟨fun _ => u,fun _ => [],.inl rfl,hs.more (g.g.see (AF hok) hp hb),rfl,rfl⟩⟩ (hk hok hen _ (g.next (g.g.snoc (f := ⟨some dd,u,[]⟩) ho rfl rfl) hns))
theorem F4 {dd : Nat} {u : Nat → AV} {b : Nat → List AB} {m : Nat} (ho : ops[i]? = some ⟨some dd, op, ty, pos, af, none⟩) (hp : pres[i]? = some pre) (hb : bads[i]? = some bad) (hns : (ss.all fun x => !Nat.beq x.1 i) = true) (hs : bT P ⟨some dd, op, ty, pos, af, none⟩ (dY bad cur) (seeH pres i pre ss don h ++ kW pre objs) (m + 1) u b) (hm : (b (seeH pres i pre ss don h ++ kW pre objs).length).length = m + 1)
    (hk : LQ P n ops pres ds bads ss env h (i + 1) ((dd,u (seeH pres i pre ss don h ++ kW pre objs).length) :: cur) (objs ++ [(i,b (seeH pres i pre ss don h ++ kW pre objs).length)]) don K) : LQ P n ops pres ds bads ss env h i cur objs don K := by
  intro hok hen effs g;refine DO (f := ⟨some dd,u (seeH pres i pre ss don h ++ kW pre objs).length,b (seeH pres i pre ss don h ++ kW pre objs).length⟩) hok g hp (aA.1 ho).1 hns ⟨_,by simpa using ho,rfl,.inl ⟨u,b,.inl rfl,by simp only [hm];exact hs.more (g.g.see (AF hok) hp hb),rfl,rfl⟩⟩ ?_
  refine hk hok hen _ (g.next (g.g.snoc' (f := ⟨some dd,u (seeH pres i pre ss don h ++ kW pre objs).length,b (seeH pres i pre ss don h ++ kW pre objs).length⟩) ho rfl ?_) hns)
  intro e2;rw [show b (seeH pres i pre ss don h ++ kW pre objs).length = [] from e2] at hm
  cases hm
theorem Z9 {k : Nat} {nb : AB} {t : TypeId} {x y : Operand} {j : TI} {u v : AV} {xs : List AV} (ho : ops[i]? = some ⟨none, .store t x y, ty, pos, af, none⟩) (hp : pres[i]? = some pre) (hb : bads[i]? = some bad) (hm : ss[don.length]? = some (i, k)) (hkl : k < h.length)
    (T : nN P) (hx : evu (dY bad cur) x = some u) (hy : evu (dY bad cur) y = some v) (ht : T.ti t = some j) (hv : v.cellsOf = some xs) (hl : xs.length = j.size) (h1 : xs.all AV.one = true) (h0 : 0 < j.size) (hu : BM (seeH pres i pre ss don h ++ kW pre objs) u xs = some (k,nb))
    (hk : LQ P n ops pres ds bads ss env h (i + 1) cur objs (don ++ [nb]) K) : LQ P n ops pres ds bads ss env h i cur objs don K := by
  intro hok hen effs g;have hs := BU (P := P) (pos := pos) (ty := ty) (af := af) T hx hy ht hv hl h1 h0 hu;have hi := (aA.1 ho).1;have hgs : yE ops env (i + 1) cur objs (effs ++ [⟨none,.v undef,[]⟩]) := g.g.snoc (f := ⟨none,.v undef,[]⟩) ho rfl rfl;have hkk := hk hok hen (effs ++ [⟨none,.v undef,[]⟩]) ⟨hgs,fun x hx => ?_⟩
  · obtain ⟨more,mb,g1,g0,g2,g3,g4⟩ := hkk;have e : effs ++ [⟨none,.v undef,[]⟩] ++ more = effs ++ ((⟨none,.v undef,[]⟩ : lA) :: more) := by simp
    have e' : don ++ [nb] ++ mb = don ++ (nb :: mb) := by simp
    rw [e] at g1 g2;rw [e'] at g0;simp only [e,e'] at g3 g4;have hie : effs.length = i := g.g.len;refine ⟨_,_,g1,g0,g2,fun j' q p hj hgj hpj => ?_,g4⟩
    by_cases hji : j' = i
    · subst hji;rw [hp] at hpj;cases hpj;rw [aE (by omega),hie,eX] at hgj
      simp at hgj;subst hgj;right;refine ⟨don.length,k,nb,_,hm,?_,rfl,bW _,by simpa using ho,.inl rfl,hkl,?_⟩
      · rw [aE (aX _),eX];rfl
      · rw [jR,cF (by omega),hie,eX,g.seeH hok hi hp _]
        simp only [lF,List.append_nil];rw [kP,← g.g.objs];exact (F9.more hs (g.g.see (AF hok) hp hb)).a
    · exact g3 j' q p (by simp;omega) hgj hpj
  · have hok' := hok;simp only [iK,aP] at hok';have hls : don.length < ss.length := (aA.1 hm).1;have e1 : ss.drop don.length = (i,k) :: ss.drop (don.length + 1) := by
      rw [aT hls];have := aB hls;rw [hm] at this;rw [Option.some.inj this]
    have hx' : x ∈ ss.drop (don.length + 1) := by simpa using hx
    have h5 := g.later x (by rw [e1];exact aY _ hx')
    have key : ∀ (ss : List (Nat × Nat)) (m : Nat),HM pres ss = true → ss[m]? = some (i,k) → ∀ x,x ∈ ss.drop (m + 1) → x.1 ≠ i := by
      intro ss
      induction ss with
      | nil => intro m _ h;simp at h
      | cons y r ih =>
        intro m hok h x hx;obtain ⟨s,k'⟩ := y;simp only [HM,aP,bA] at hok;cases m with
        | zero =>
          simp only [dQ,Option.some.injEq,Prod.mk.injEq] at h;intro e;have := (hok.1 x (by simpa using hx)).1
          rw [e,h.1,fE] at this;cases this
        | succ m => exact ih m hok.2 (by simpa using h) x (by simpa using hx)
    have := key ss don.length hok'.1.2 hm x hx';omega
theorem XU {k dd : Nat} {nb : AB} {u : AV} (ho : ops[i]? = some ⟨some dd, op, ty, pos, af, none⟩) (hp : pres[i]? = some pre) (hb : bads[i]? = some bad) (hm : ss[don.length]? = some (i, k)) (hkl : k < h.length)
    (hs : jI P ⟨some dd,op,ty,pos,af,none⟩ (dY bad cur) (seeH pres i pre ss don h ++ kW pre objs) (seeH pres i pre ss don h ++ kW pre objs).length k nb u [])
    (hk : LQ P n ops pres ds bads ss env h (i + 1) ((dd,u) :: cur) objs (don ++ [nb]) K) : LQ P n ops pres ds bads ss env h i cur objs don K := by
  intro hok hen effs g;have hi := (aA.1 ho).1;have hgs : yE ops env (i + 1) ((dd,u) :: cur) objs (effs ++ [⟨some dd,u,[]⟩]) := g.g.snoc (f := ⟨some dd,u,[]⟩) ho rfl rfl;have hkk := hk hok hen (effs ++ [⟨some dd,u,[]⟩]) ⟨hgs,fun x hx => ?_⟩
  · obtain ⟨more,mb,g1,g0,g2,g3,g4⟩ := hkk;have e : effs ++ [⟨some dd,u,[]⟩] ++ more = effs ++ ((⟨some dd,u,[]⟩ : lA) :: more) := by simp
    have e' : don ++ [nb] ++ mb = don ++ (nb :: mb) := by simp
    rw [e] at g1 g2;rw [e'] at g0;simp only [e,e'] at g3 g4;have hie : effs.length = i := g.g.len;refine ⟨_,_,g1,g0,g2,fun j' q p hj hgj hpj => ?_,g4⟩
    by_cases hji : j' = i
    · subst hji;rw [hp] at hpj;cases hpj;rw [aE (by omega),hie,eX] at hgj
      simp at hgj;subst hgj;right;refine ⟨don.length,k,nb,_,hm,?_,rfl,bW _,by simpa using ho,.inl rfl,hkl,?_⟩
      · rw [aE (aX _),eX];rfl
      · rw [jR,cF (by omega),hie,eX,g.seeH hok hi hp _]
        simp only [lF,List.append_nil];rw [kP,← g.g.objs];have hpl : (seeH pres j' pre ss don h ++ kW pre objs).length = h.length + lD effs := by rw [g.g.objs,← kP,aD,lQ];congr 1;exact rZ _ _ _ _ _
        rw [hpl] at hs;exact jI.more hs (g.g.see (AF hok) hp hb)
    · exact g3 j' q p (by simp;omega) hgj hpj
  · have hok' := hok;simp only [iK,aP] at hok';have hls : don.length < ss.length := (aA.1 hm).1;have e1 : ss.drop don.length = (i,k) :: ss.drop (don.length + 1) := by
      rw [aT hls];have := aB hls;rw [hm] at this;rw [Option.some.inj this]
    have hx' : x ∈ ss.drop (don.length + 1) := by simpa using hx
    have h5 := g.later x (by rw [e1];exact aY _ hx')
    have key : ∀ (ss : List (Nat × Nat)) (m : Nat),HM pres ss = true → ss[m]? = some (i,k) → ∀ x,x ∈ ss.drop (m + 1) → x.1 ≠ i := by
      intro ss
      induction ss with
      | nil => intro m _ h;simp at h
      | cons y r ih =>
        intro m hok h x hx;obtain ⟨s,k'⟩ := y;simp only [HM,aP,bA] at hok;cases m with
        | zero =>
          simp only [dQ,Option.some.injEq,Prod.mk.injEq] at h;intro e;have := (hok.1 x (by simpa using hx)).1
          rw [e,h.1,fE] at this;cases this
        | succ m => exact ih m hok.2 (by simpa using h) x (by simpa using hx)
    have := key ss don.length hok'.1.2 hm x hx';omega
theorem vP {k dd : Nat} {nb : AB} {u : AV} {b1 : AB} (ho : ops[i]? = some ⟨some dd, op, ty, pos, af, none⟩) (hp : pres[i]? = some pre) (hb : bads[i]? = some bad) (hm : ss[don.length]? = some (i, k)) (hkl : k < h.length)
    (hs : jI P ⟨some dd,op,ty,pos,af,none⟩ (dY bad cur) (seeH pres i pre ss don h ++ kW pre objs) (seeH pres i pre ss don h ++ kW pre objs).length k nb u [b1])
    (hk : LQ P n ops pres ds bads ss env h (i + 1) ((dd,u) :: cur) (objs ++ [(i,[b1])]) (don ++ [nb]) K) : LQ P n ops pres ds bads ss env h i cur objs don K := by
  intro hok hen effs g;have hi := (aA.1 ho).1;have hgs : yE ops env (i + 1) ((dd,u) :: cur) (objs ++ [(i,[b1])]) (effs ++ [⟨some dd,u,[b1]⟩]) := g.g.snoc' (f := ⟨some dd,u,[b1]⟩) ho rfl (by simp)
  have hkk := hk hok hen (effs ++ [⟨some dd,u,[b1]⟩]) ⟨hgs,fun x hx => ?_⟩
  · obtain ⟨more,mb,g1,g0,g2,g3,g4⟩ := hkk;have e : effs ++ [⟨some dd,u,[b1]⟩] ++ more = effs ++ ((⟨some dd,u,[b1]⟩ : lA) :: more) := by simp
    have e' : don ++ [nb] ++ mb = don ++ (nb :: mb) := by simp
    rw [e] at g1 g2;rw [e'] at g0;simp only [e,e'] at g3 g4;have hie : effs.length = i := g.g.len;refine ⟨_,_,g1,g0,g2,fun j' q p hj hgj hpj => ?_,g4⟩
    by_cases hji : j' = i
    · subst hji;rw [hp] at hpj;cases hpj;rw [aE (by omega),hie,eX] at hgj
      simp at hgj;subst hgj;right;refine ⟨don.length,k,nb,_,hm,?_,rfl,aX _,by simpa using ho,.inl rfl,hkl,?_⟩
      · rw [aE (aX _),eX];rfl
      · rw [jR,cF (by omega),hie,eX,g.seeH hok hi hp _]
        simp only [lF,List.append_nil];rw [kP,← g.g.objs];have hpl : (seeH pres j' pre ss don h ++ kW pre objs).length = h.length + lD effs := by rw [g.g.objs,← kP,aD,lQ];congr 1;exact rZ _ _ _ _ _
        rw [hpl] at hs;exact jI.more hs (g.g.see (AF hok) hp hb)
    · exact g3 j' q p (by simp;omega) hgj hpj
  · have hok' := hok;simp only [iK,aP] at hok';have hls : don.length < ss.length := (aA.1 hm).1;have e1 : ss.drop don.length = (i,k) :: ss.drop (don.length + 1) := by
      rw [aT hls];have := aB hls;rw [hm] at this;rw [Option.some.inj this]
    have hx' : x ∈ ss.drop (don.length + 1) := by simpa using hx
    have h5 := g.later x (by rw [e1];exact aY _ hx')
    have key : ∀ (ss : List (Nat × Nat)) (m : Nat),HM pres ss = true → ss[m]? = some (i,k) → ∀ x,x ∈ ss.drop (m + 1) → x.1 ≠ i := by
      intro ss
      induction ss with
      | nil => intro m _ h;simp at h
      | cons y r ih =>
        intro m hok h x hx;obtain ⟨s,k'⟩ := y;simp only [HM,aP,bA] at hok;cases m with
        | zero =>
          simp only [dQ,Option.some.injEq,Prod.mk.injEq] at h;intro e;have := (hok.1 x (by simpa using hx)).1
          rw [e,h.1,fE] at this;cases this
        | succ m => exact ih m hok.2 (by simpa using h) x (by simpa using hx)
    have := key ss don.length hok'.1.2 hm x hx';omega
theorem wV (hi : pres.length = i) (hdl : don.length = ss.length) {rest : List Oper} {h' : Hp} (hr : ops.drop i = rest) (hh : eK (fun _ => true) ss don h ++ kK objs = h')
    (hk : VC P n ops.toArray rest cur h' K) : LQ P n ops pres ds bads ss env h i cur objs don K := by
  intro hok hen effs gs;have g := gs.g;have hok' := AF hok;simp only [kB,aP,decide_eq_true_eq] at hok';obtain ⟨⟨⟨⟨⟨h1,h2⟩,h3⟩,h4⟩,h5⟩,h6⟩ := hok';have hds : iE effs = ds := by
    rw [← h5];have hle : i ≤ ops.length := by rw [← hi];exact aM h4
    unfold iE;have : effs.map (·.d) = (ops.take pres.length).map (·.dst) := by
      apply iH;intro j;simp only [bJ,bM,hi];by_cases hj : j < i
      · rw [if_pos hj];have hje : j < effs.length := by rw [g.len];exact hj
        obtain ⟨o,ho,hod⟩ := g.dst j effs[j] (aB hje);rw [aB hje,ho];simp [hod]
      · rw [if_neg hj,cD (by rw [g.len];omega)];rfl
    have e1 : effs.filterMap (·.d) = (effs.map (·.d)).filterMap id := by rw [nX];rfl
    have e2 : (ops.take pres.length).filterMap (·.dst) = ((ops.take pres.length).map (·.dst)).filterMap id := by rw [nX];rfl
    rw [e1,e2,this]
  refine ⟨[],[],by rw [List.append_nil,g.len,hi],by rw [List.append_nil];exact hdl,by rw [List.append_nil];exact hds,fun j f pre hj hf _ => ?_,?_⟩
  · have := (aA.1 hf).1;simp at this;omega
  rw [List.append_nil,List.append_nil];have el : effs.length = pres.length := by rw [g.len,hi]
  rw [← el,wF,wI 0 effs.length (by omega),nC,← zP,yT,← I4,el,hi]
  rw [wL effs 0,← g.objs,← uA,hh];rw [show ops.toArray.toList.drop i = rest from by simpa using hr]
  refine hk.moreE fun t x hx => ?_
  rw [g.cur] at hx;exact C5 (by have : iE effs = effs.filterMap (·.d) := rfl;rw [← this,hds];exact h2) hx
end
theorem HS.moved {c : mR} {ρ : Pl} {S : Nat → Prop} {H : Hp} {w w' : World} {k pp : Nat} {q : Option (Nat × Nat)} {nb : AB} (g : HS c ρ S H w) (hpk : pp ≠ k) (hH : H[pp]? = some .gone) (hρ : ρ pp = Option.none) (hm : c.m ≤ pp) (hext : kY c.M w w')
    (hoth : ∀ j b,H[j]? = some b → j ≠ k → b ≠ .gone → ∀ b1 o1,ρ j = some (b1,o1) → w'.heap[b1]? = w.heap[b1]?) (hst : ∀ b1,S b1 → w'.heap[b1]? = w.heap[b1]?)
    (hq : ∀ b1 o1,q = some (b1,o1) → c.M b1 ∧ ¬ S b1 ∧ b1 < w'.heap.size ∧ ∀ j b,H[j]? = some b → j ≠ k → b ≠ .gone → ∀ b2 o2,ρ j = some (b2,o2) → b2 ≠ b1)
    (hv : gM ρ (fun j => if j = pp then q else ρ j) S S w w' → RB S w' (fun j => if j = pp then q else ρ j) q nb) :
    HS c (fun j => if j = pp then q else ρ j) S ((H.set k .gone).set pp nb) w' ∧ gM ρ (fun j => if j = pp then q else ρ j) S S w w' := by
  have hplt : pp < H.length := (aA.1 hH).1
  have l : gM ρ (fun j => if j = pp then q else ρ j) S S w w' := ⟨fun j u hu => by
    show (if j = pp then q else ρ j) = _
    rw [if_neg (fun e => by rw [e,hρ] at hu;cases hu)];exact hu,fun _ h => h,hst,fun _ _ _ _ _ hr => hext.room hr⟩
  have v2 := hv l;have hget : ∀ {j : Nat} {b : AB},((H.set k .gone).set pp nb)[j]? = some b → b ≠ .gone → (j ≠ pp ∧ j ≠ k ∧ H[j]? = some b) ∨ (j = pp ∧ b = nb) := fun {j b} hj hg => by
    by_cases hjp : j = pp
    · subst hjp;rw [sU (by simpa using hplt)] at hj
      cases hj;exact .inr ⟨rfl,rfl⟩
    · rw [iU (Ne.symm hjp)] at hj;by_cases hjk : j = k
      · subst hjk;rw [gH] at hj;simp only [if_true] at hj;split at hj
        · cases hj;exact absurd rfl hg
        · cases hj
      · rw [iU (Ne.symm hjk)] at hj;exact .inl ⟨hjp,hjk,hj⟩
  refine ⟨⟨fun j hj => ?_,fun j u hu => ?_,fun j b hj => ?_,fun j b u hj hg hu => ?_,fun j j' b b' u u' hj hj' hg hg' hu hu' e => ?_,fun b1 hb1 => dC (g.stab b1 hb1) hext.size,g.ext.trans hext (fun _ h _ => h),g.st0,g.st1,by simpa using g.mle,fun j hj => by
      show (if j = pp then q else ρ j) = _
      rw [if_neg (by omega)];exact g.keep j hj,g.glob.later l⟩,l⟩
  · simp at hj;show (if j = pp then q else ρ j) = _
    rw [if_neg (by omega)];exact g.dom j (by omega)
  · by_cases hj : j = pp
    · simp only [hj,if_true] at hu;exact (hq u.1 u.2 hu).2.2.1
    · simp only [hj,if_false] at hu;exact dC (g.rng j u hu) hext.size
  · by_cases hbg : b = .gone
    · subst hbg;trivial
    · rcases hget hj hbg with ⟨h2,h3,h4⟩ | ⟨h2,h3⟩
      · show RB S w' _ (if j = pp then q else ρ j) _
        rw [if_neg h2];exact RB.later l (fun b1 o1 hp1 => hoth j _ h4 h3 hbg b1 o1 hp1) (g.blk j _ h4)
      · subst h2;show RB S w' _ (if j = j then q else ρ j) _
        rw [if_pos rfl,h3];exact v2
  · rcases hget hj hg with ⟨h2,h3,h4⟩ | ⟨h2,h3⟩
    · rw [if_neg h2] at hu;exact g.live j b u h4 hg hu
    · rw [if_pos h2] at hu;exact ⟨(hq u.1 u.2 hu).1,(hq u.1 u.2 hu).2.1⟩
  · rcases hget hj hg with ⟨h2,h3,h4⟩ | ⟨h2,h3⟩ <;> rcases hget hj' hg' with ⟨h2',h3',h4'⟩ | ⟨h2',h3'⟩
    · rw [if_neg h2] at hu;rw [if_neg h2'] at hu';exact g.inj j j' b b' u u' h4 h4' hg hg' hu hu' e
    · rw [if_neg h2] at hu;rw [if_pos h2'] at hu';exact absurd e ((hq u'.1 u'.2 hu').2.2.2 j b h4 h3 hg u.1 u.2 hu)
    · rw [if_neg h2'] at hu';rw [if_pos h2] at hu;exact absurd e.symm ((hq u.1 u.2 hu).2.2.2 j' b' h4' h3' hg' u'.1 u'.2 hu')
    · omega
section
variable {P : Program} {env : dI} {h : Hp}
variable {ty : TypeId} {pos : String} {af : Array Edge}
theorem qA (T : nN P) {t e k off len sz pp dd : Nat} {i : TI} {x y : Operand} {v : AV} {es news : List (List AV)} (hx : evu env x = some (.sl k off len sz)) (hy : evu env y = some v) (ht : T.elem t = some e) (he : T.ti e = some i) (hs : i.size = sz)
    (hkk : h[k]? = some (.arr es sz)) (hle : off + len ≤ es.length) (hn : kE h v news sz) (h1 : news.flatten.all AV.one = true) (hb : (len + news.length) * i.bytes ≤ 140737488355328) (h63 : len + news.length ≤ 9223372036854775807) :
    jI P ⟨some dd,.call { callee := .builtin .append,args := #[x,y],argTypes := #[t,t] },ty,pos,af,none⟩ env h pp k .gone (.sl pp 0 (len + news.length) sz) [.arr ((es.drop off).take len ++ news) sz] := by
  intro c ρ S a w H g p hbel hpp K' Q hK';have hKK := hbel k _ hkk (by simp)
  obtain ⟨hr0,hH0,hm0⟩ : ρ pp = none ∧ H[pp]? = some .gone ∧ c.m ≤ pp := by
    rcases hpp with h0 | h0
    · cases h0
    · exact h0
  have hpk : pp ≠ k := fun e => by rw [e,hKK] at hH0;cases hH0
  have hxv := p.evu hx;obtain ⟨a2,c2,zs,y1,y2,y3,y4,y5,y6,y7⟩ := sN p.blk (p.evu hy) hn;obtain ⟨inf,z,t1,t2,t3,t4,t5,t6,t7⟩ := T.tiOk e i he;have hone := I2 y6 h1;have hxe : kE h (.sl k off len sz) ((es.drop off).take len) sz := .sl hkk hle;obtain ⟨a1,c1,ys,x1,x2,x3,x4,x5,x6,x7⟩ := sN p.blk hxv hxe;have hlen : ((es.drop off).take len).length = len := by rw [aU,dB];omega
  rw [hlen] at x1 x2 x5 x7;have hB := p.blk k _ hkk;simp only [RB] at hB;obtain ⟨hes,hs0,hB⟩ := hB;have hnl : ∀ q,q ∈ news → q.length = sz := by
    cases hn with
    | sl hk2 _ =>
      have := p.blk _ _ hk2;simp only [RB] at this;exact fun q hq => this.1 q (eV (eD hq))
    | row h => exact h
    | nil => exact fun q hq => by cases hq
  have hall : ∀ q,q ∈ (es.drop off).take len ++ news → q.length = sz := fun q hq => by
    rcases bQ.1 hq with hq | hq
    · exact hes q (eV (eD hq))
    · exact hnl q hq
  have ev1 : ∀ r w',(Builtin.append_ #[t,t] ty #[a.eval x,a.eval y]).run P w = .ok r w' → (execOp a.eval ⟨some dd,.call { callee := .builtin .append,args := #[x,y],argTypes := #[t,t] },ty,pos,af,none⟩).run P w = .ok (.value r) w' := fun r w' hr => by
    simp [execOp,resolve,invoke,builtin,hr]
  have fin : ∀ {r : Value} {w' : World} {q : Option (Nat × Nat)},(Builtin.append_ #[t,t] ty #[a.eval x,a.eval y]).run P w = .ok r w' → kY c.M w w' → (∀ j b,H[j]? = some b → j ≠ k → b ≠ .gone → ∀ b1 o1,ρ j = some (b1,o1) → w'.heap[b1]? = w.heap[b1]?) → (∀ b1,S b1 → w'.heap[b1]? = w.heap[b1]?) →
      (∀ b1 o1,q = some (b1,o1) → c.M b1 ∧ ¬ S b1 ∧ b1 < w'.heap.size ∧ ∀ j b,H[j]? = some b → j ≠ k → b ≠ .gone → ∀ b2 o2,ρ j = some (b2,o2) → b2 ≠ b1) →
      (gM ρ (fun j => if j = pp then q else ρ j) S S w w' → R S w' (.sl pp 0 (len + news.length) sz) (fun j => if j = pp then q else ρ j) r ∧ RB S w' (fun j => if j = pp then q else ρ j) q (.arr ((es.drop off).take len ++ news) sz)) →
      Oper.wp P ⟨some dd,.call { callee := .builtin .append,args := #[x,y],argTypes := #[t,t] },ty,pos,af,none⟩ a w K' Q := fun {r w' q} hr hext hoth hst hq hval => by
    unfold Oper.wp;rw [ev1 r w' hr];obtain ⟨g1,g2⟩ := g.moved hpk hH0 hr0 hm0 hext hoth hst hq (fun l => (hval l).2);exact hK' _ _ _ _ g1 g2 (hval g2).1 (fun j hj => if_neg (hj (by simp)))
  have hoth0 : ∀ (w' : World) (b0 : Nat),(∀ x,x ≠ b0 → w'.heap[x]? = w.heap[x]?) → (∃ o,ρ k = some (b0,o)) → (∀ j b,H[j]? = some b → j ≠ k → b ≠ .gone → ∀ b1 o1,ρ j = some (b1,o1) → w'.heap[b1]? = w.heap[b1]?) ∧ (∀ b1,S b1 → w'.heap[b1]? = w.heap[b1]?) := fun w' b0 hw ⟨o,ho⟩ =>
    ⟨fun j b hj hjk hg b1 o1 h1 => hw b1 (fun e => hjk (g.inj j k b _ _ _ hj hKK hg (by simp) h1 ho e)),fun b1 hb1 => hw b1 (fun e => (g.live k _ _ hKK (by simp) ho).2 (e ▸ hb1))⟩
  have hxy : a.eval x = .slice a1 len c1 ∧ a.eval y = .slice a2 news.length c2 := ⟨x1,y1⟩;by_cases hroom : len + news.length ≤ c1
  · by_cases hm : news.length = 0
    · -- nothing is appended
      have hnews : news = [] := bP hm;subst hnews;have hr := uG (P := P) (w := w) (t := t) (ty := ty) (a2 := a2) (c2 := c2) (T.elemOk _ _ ht) t1 (a := a1) x2;simp only [R] at hxv;obtain ⟨a1',c1',e1,e2,e3⟩ := hxv;rw [x1] at e1;cases e1;refine fin (q := (ρ k).map fun q => (q.1,q.2 + off * sz)) (by rw [hxy.1,hxy.2];exact hr) (kY.refl _ _) (fun _ _ _ _ _ _ _ _ => rfl) (fun _ _ => rfl) (fun b1 o1 hq => ?_) (fun l => ⟨?_,?_⟩)
      · obtain ⟨⟨b2,o2⟩,h2,h3⟩ := eP.1 hq;cases h3;obtain ⟨m1,m2⟩ := g.live k _ _ hKK (by simp) h2
        exact ⟨m1,m2,g.rng k _ h2,fun j b hj hjk hg b3 o3 h3 e => hjk (g.inj j k b _ _ _ hj hKK hg (by simp) h3 h2 e)⟩
      · simp only [R];refine ⟨a1,c1,rfl,e2,?_⟩;rcases e3 with e3 | ⟨b,o,f1,f2,f3,f4⟩
        · exact .inl e3
        · exact .inr ⟨b,o + off * sz,by simp [f1],by simpa using f2,f3,by
            have : o + off * sz + (0 + c1) * sz = o + (off + c1) * sz := by rw [Nat.zero_add,eL,dH]
            rw [this];exact f4⟩
      · simp only [RB,List.append_nil];refine ⟨fun q hq => hall q (by simpa using hq),hs0,?_⟩
        rcases hB with hB | ⟨b,o,ws,f1,⟨cc,ee,f2,f3⟩,f4⟩
        · left;obtain ⟨hB,hu⟩ := hB;subst hB;exact ⟨by simp,fun b o e => by obtain ⟨q,g1,g2⟩ := eP.1 e;cases g2;exact hu _ _ g1⟩
        · right;refine ⟨b,o + off * sz,(ws.drop (off * sz)).take (len * sz),by simp [f1],⟨cc,ee,f2,fun j u hj => ?_⟩,?_⟩
          · rw [bM] at hj;split at hj
            · rw [eA] at hj;rw [dH];exact f3 _ _ hj
            · cases hj
          · have := oR (uD (f4.later l) (off * sz)) (len * sz)
            rwa [pQ _ hes,pP _ (fun e he => hes e (eV he))] at this
    · -- there is room
      simp only [R] at hxv;obtain ⟨a1',c1',e1,e2,e3⟩ := hxv;rw [x1] at e1;cases e1;rcases e3 with ⟨e3,e4⟩ | ⟨b,o,f1,f2,f3,⟨cc,ee,fz,f4,f5⟩⟩
      · omega
      obtain rfl : fz = (0,0) := by
        rcases hB with ⟨_,hu⟩ | ⟨b3,o3,ws3,g1,⟨cc3,ee3,g2,_⟩,_⟩
        · obtain ⟨cc3,ee3,g2⟩ := hu _ _ f1;rw [f4] at g2;cases g2;rfl
        · rw [f1] at g1;cases g1;rw [f4] at g2;cases g2;rfl
      have hmul : (off + len) * sz + news.length * sz ≤ (off + c1) * sz := by rw [← eL];exact gL _ (by omega)
      have hfit : o + off * sz + len * inf.size + zs.length ≤ cc.size := by
        rw [t2,hs,y5];have : (off + len) * sz = off * sz + len * sz := eL _ _ _;omega
      have hr := xF (P := P) (w := w) (t := t) (ty := ty) (a2 := a2) (c2 := c2) (T.elemOk _ _ ht) t1 (b := b) (o := o + off * sz) (len := len) (cap := c1) (m := news.length) (by rw [t2,hs];exact y5) y7 hone f4 hroom hfit
      rw [t2,hs] at hr hfit;have hyl : ys.length = len * sz := x5;have hx8 : len = 0 ∨ ∃ b o,a1 = some ⟨b,o,none⟩ ∧ lies w b o ys := x7;have hcs : ((cc.toList.take (o + off * sz + len * sz) ++ zs ++ cc.toList.drop (o + off * sz + len * sz + zs.length)).toArray).size = cc.size := by
        simp only [kG,aD,aU,dB,fI];omega
      have hnew := setRow_heap w b cc (cc.toList.take (o + off * sz + len * sz) ++ zs ++ cc.toList.drop (o + off * sz + len * sz + zs.length)).toArray ee (0,0) f4;obtain ⟨m1,m2⟩ := g.live k _ _ hKK (by simp) f1
      obtain ⟨o1,o2⟩ := hoth0 _ b (fun x hx => setRow_other w b x (cc.toList.take (o + off * sz + len * sz) ++ zs ++ cc.toList.drop (o + off * sz + len * sz + zs.length)).toArray hx) ⟨o,f1⟩;refine fin (q := some (b,o + off * sz)) (by rw [hxy.1,hxy.2,f2];exact hr) ((nL f4 hcs).mono fun x _ hx => by rw [hx];exact m1) o1 o2 (fun b1 o1 hq => ?_) (fun l => ⟨?_,?_⟩)
      · cases hq;exact ⟨m1,m2,(aH.1 hnew).1,fun j b hj hjk hg b3 o3 h3 e => hjk (g.inj j k b _ _ _ hj hKK hg (by simp) h3 f1 e)⟩
      · simp only [R];refine ⟨_,c1,rfl,e2,.inr ⟨b,o + off * sz,by simp,by simp,hroom,_,ee,_,hnew,?_⟩⟩
        rw [hcs,Nat.zero_add];have : (off + c1) * sz = off * sz + c1 * sz := eL _ _ _;omega
      · simp only [RB];refine ⟨hall,hs0,.inr ⟨b,o + off * sz,ys ++ zs,rfl,⟨_,ee,hnew,fun j u hj => ?_⟩,?_⟩⟩
        · rw [fZ];by_cases hj1 : j < ys.length
          · rw [aF hj1] at hj;rcases hx8 with h0 | ⟨b',o',g1,⟨c',e',fz,g2,g3⟩⟩
            · subst h0;simp at hyl;omega
            rw [f2] at g1;cases g1;rw [f4] at g2;cases g2;rw [bE,aF (by simp;omega),bM,if_pos (by omega)]
            simpa using g3 j u hj
          · rw [aE (by omega)] at hj
            have hj2 := (aA.1 hj).1;rw [aF (by simp;omega),aE (by simp;omega),← hj]
            congr 1;simp only [aU,fI];omega
        · rw [fO];exact hC (x6.later l) (y6.later l)
  · -- a new row
    have hr := uZ (P := P) (w := w) (t := t) (ty := ty) (c2 := c2) (a := a1) (len := len) (cap := c1) (m := news.length) (T.elemOk _ _ ht) t1 t4 (by rw [t2,hs];exact x5) x7 (by rw [t2,hs];exact y5) y7 (by omega) (by rw [t3];exact hb) h63
    have hgc := grownCap_ge w (len + news.length) c1 e;have hgm := grownCap_le_maxLen w (len + news.length) c1 e (by simp only [maxLen];omega)
    have hzs : z.cells.size = sz := by rw [← hs,← t6,← t5];simp
    obtain ⟨g1,g2⟩ := vK hzs x5 y5 hgc;have hnew : (w.drew.alloc (.cells (ys.toArray ++ zs.toArray ++ Builtin.zeroCells z.cells (grownCap w (len + news.length) c1 e - (len + news.length))) e)).heap[w.heap.size]? = some (.cells _ e (0,0)) := heap_alloc_new w.drew _;have hold : ∀ b1,b1 < w.heap.size → (w.drew.alloc (.cells (ys.toArray ++ zs.toArray ++ Builtin.zeroCells z.cells (grownCap w (len + news.length) c1 e - (len + news.length))) e)).heap[b1]? = w.heap[b1]? := fun b1 hb1 => RowKit.Below.heap_alloc w.drew _ b1 hb1
    refine fin (q := some (w.heap.size,0)) (by rw [hxy.1,hxy.2];exact hr) ((kY.drew1 w).trans (lG w.drew _ c.M) (fun _ h _ => h)) (fun j b hj hjk hg b1 o1 h2 => hold b1 (g.rng j _ h2)) (fun b1 hb1 => hold b1 (g.stab b1 hb1)) (fun b1 o1 hq => ?_) (fun l => ⟨?_,?_⟩)
    · cases hq;refine ⟨c.new _ g.ext.size,fun hS => ?_,by simp,fun j b hj hjk hg b2 o2 h2 e => ?_⟩
      · have := g.stab _ hS;omega
      · have := g.rng j _ h2;simp at this;omega
    · simp only [R];exact ⟨_,_,rfl,hgm,.inr ⟨w.heap.size,0,by simp,by simp,hgc,_,e,_,hnew,by rw [Nat.zero_add,Nat.zero_add];exact g1⟩⟩
    · simp only [RB];refine ⟨hall,hs0,.inr ⟨w.heap.size,0,ys ++ zs,rfl,⟨_,e,hnew,fun j u hj => by rw [Nat.zero_add];exact g2 j u hj⟩,?_⟩⟩
      rw [fO];exact hC (x6.later l) (y6.later l)
theorem H4 {pt it e k dd pp : Nat} {x y : Operand} {l : List UInt8} {m : Int} (hp : P.underlying pt = some (.pointer e)) (hc : P.cellsOf e = 1)
    (hx : evu env x = some (.ep k 0 0 1)) (hy : evu env y = some (.i m)) (hm : m = l.length) (hl : l ≠ []) (h63 : l.length ≤ 9223372036854775807) (hk : h[k]? = some (.buf e l)) :
    jI P ⟨some dd,.call { callee := .builtin .unsafeString,args := #[x,y],argTypes := #[pt,it] },ty,pos,af,none⟩ env h pp k .gone (.s l) [] := by
  subst hm;intro c ρ S a w H g p hbel _ K' Q hK';have h1 := p.evu hx;simp only [R] at h1;obtain ⟨b,o,h2,h3⟩ := h1;have h4 := qX (p.evu hy);rcases p.blk k _ hk with ⟨h5,_⟩ | ⟨b',cc,g1,g2,g3⟩
  · exact absurd h5 hl
  rw [h2] at g1;obtain ⟨rfl,rfl⟩ : b = b' ∧ o = 0 := by simpa using g1
  have hlen : l.length ≤ cc.size := by
    have hpos := dZ.2 hl;have := g3 (l.length - 1) (l[l.length - 1]'(by omega)) (aB _)
    have := (aH.1 this).1;omega
  have hr := Go.Lib.run_unsafeString_row (P := P) w pt it ty e hp hc b cc.size (by simp [World.shape?,g2]) l hl hlen h63 (fun j x hj => by
    have : ((⟨b,0,none⟩ : Addr).add j) = ⟨b,0 + j,none⟩ := Addr.add_lit ..;rw [this]
    simp [World.cell?,g2,g3 j x hj])
  unfold Oper.wp;have hev : (execOp a.eval ⟨some dd,.call { callee := .builtin .unsafeString,args := #[x,y],argTypes := #[pt,it] },ty,pos,af,none⟩).run P w = .ok (.value (.string ⟨l.toArray⟩)) (w.freeze ⟨b,0,none⟩ l.length) := by
    have h3' : a.eval x = .pointer (some ⟨b,0,none⟩) := by rw [h3]
    simp [execOp,resolve,invoke,builtin,h3',h4,hr]
  rw [hev];have hl0 : l.length ≠ 0 := by simpa using hl
  obtain ⟨ff,hfz,hff⟩ : ∃ ff : Obj → Obj,(w.freeze ⟨b,0,none⟩ l.length).heap = w.heap.modify b ff ∧ ∀ c e fz,∃ fz',ff (.cells c e fz) = .cells c e fz' := by
    unfold World.freeze;rw [if_neg hl0];exact ⟨fun | .cells c elem (lo,hi) => .cells c elem (if lo == hi then (0,0 + l.length) else (min lo 0,max hi (0 + l.length))) | o => o,rfl,fun c e fz => ⟨if fz.1 == fz.2 then (0,0 + l.length) else (min fz.1 0,max fz.2 (0 + l.length)),rfl⟩⟩
  have hext : kY (fun x => x = b) w (w.freeze ⟨b,0,none⟩ l.length) := by
    have ho : ∀ x,x ≠ b → (w.freeze ⟨b,0,none⟩ l.length).heap[x]? = w.heap[x]? := fun x hx => by rw [hfz];exact yY hx
    have hf : ∀ {α : Type} (f : World → α),(∀ w h',f { w with heap := h' } = f w) → f (w.freeze ⟨b,0,none⟩ l.length) = f w := fun f hf => by
      unfold World.freeze;rw [if_neg hl0];exact hf _ _
    refine ⟨hf (·.os) (fun _ _ => rfl),hf (·.tape) (fun _ _ => rfl),hf (·.output) (fun _ _ => rfl),by rw [hfz,Array.size_modify];exact aX _,fun x _ hx => ho x hx,fun x c0 ee fz hcc => ?_⟩
    by_cases hx : x = b
    · subst hx;rw [g2] at hcc;cases hcc;obtain ⟨fz',hz'⟩ := hff cc e (0,0);exact ⟨cc,fz',by rw [hfz,T4 g2,hz'],rfl⟩
    · exact ⟨c0,fz,by rw [ho x hx];exact hcc,rfl⟩
  obtain ⟨g4,g5⟩ := g.upd (nb := .gone) (hbel k _ hk (by simp)) (by simp) h2 hext (fun _ => trivial)
  exact hK' _ _ _ _ g4 g5 (by simp [R]) (fun _ _ => rfl)
theorem pZ {n : Nat × Nat} {Q : Exit → dI → Hp → Prop} {id : Nat} {l : List Oper} (k : Nat) (pres : List (List Nat)) (ds : List Nat) (bads : List (List Nat)) (ss : List (Nat × Nat)) (hm : P.follows .mixedOrders = true) (hn : n.1 = k) (hok : iK l pres ds bads ss k = true)
    (hv : LQ P n l pres ds bads ss (dY ds env) h 0 (dY ds env) [] [] (fun v h => Q .normal v h)) (hndf : lC l = true := by rfl) : AW P n (.region id l.toArray true) env h Q := QJ pres ds bads ss hm (by rw [hn];exact hok) hv hndf
end
end Go.Ab
namespace Go.Ab
open Go Go.MapKept
def IS (P : Program) (f : FuncId) (args : List AV) (hin : Hp) (Φ : AV → Hp → Prop) : Prop :=
  (∃ fn, P.funcs[f]? = some fn ∧ (fn.name == "runtime.NumGoroutine") = false ∧ fn.body.isNone = false) ∧
  ∀ ρ S w vs,HS (mG w ρ S hin) ρ S hin w → RL S w args ρ vs →
    Calls P f vs.toArray w fun e w' => ∃ res hout,Φ res hout ∧ ∃ y ρ' S',e = .returned y ∧ HS (mG w ρ S hin) ρ' S' hout w' ∧ R S' w' res ρ' y
theorem IS.mono {P : Program} {f : FuncId} {args : List AV} {hin : Hp} {Φ Ψ : AV → Hp → Prop} (h : IS P f args hin Φ) (hi : ∀ r o,Φ r o → Ψ r o) : IS P f args hin Ψ :=
  ⟨h.1,fun ρ S w vs hs ha => (h.2 ρ S w vs hs ha).mono fun _ _ ⟨r,o,h1,h2⟩ => ⟨r,o,hi r o h1,h2⟩⟩
section
variable {P : Program} {n : Nat × Nat} {ops : Array Oper} {rest : List Oper} {env : dI} {h : Hp} {K : dI → Hp → Prop}
variable {d : Option Nat} {ty : TypeId} {pos : String} {af : Array Edge}
theorem YT {x : Operand} {f : FuncId} {fs cs us xs : List AV} {args : List Operand} {ats : Array TypeId} {Ψ : AV → Prop} (hx : evu env x = some (.clo (.func f) fs cs)) (ha : yG env args = some us)
    (hc : IS P f xs [] (fun r o => o = [] ∧ Ψ r)) (hv : kS h (fs ++ us ++ cs) xs) (hrf : ∀ r,Ψ r → r.rf = true) (hd : P9 d n = true)
    (hk : ∀ r,Ψ r → VC P n ops rest (kV d r env) h K) : VC P n ops (⟨d,.call { callee := .value x,args := args.toArray,argTypes := ats },ty,pos,af,none⟩ :: rest) env h K := by
  intro c ρ S a w Q s hQ;refine wpList_plain rfl fun K' hK' => ?_
  have p := s.pre;have hxv := p.evu hx;simp only [R] at hxv;obtain ⟨ys,zs,e1,h1,h2⟩ := hxv;have hall : RL S w (fs ++ us ++ cs) ρ (ys.toList ++ args.map a.eval ++ zs.toList) := hC (hC h1 (rF p ha)) h2;obtain ⟨hf,hc⟩ := hc;have hS1w : ∀ b,(S b ∨ kF h ρ b) → b < w.heap.size := fun b hb => by
    rcases hb with hb | ⟨k,x,o,_,_,hb⟩
    · exact p.stab b hb
    · exact p.rng k _ hb
  have hargs : RL (fun b => S b ∨ kF h ρ b) w xs (fun _ => none) (ys.toList ++ args.map a.eval ++ zs.toList) := kL p.blk hv hall;have hs0 : HS (mG w (fun _ => none) (fun b => S b ∨ kF h ρ b) []) (fun _ => none) (fun b => S b ∨ kF h ρ b) [] w := ⟨fun _ _ => rfl,(fun _ _ h => by cases h),(fun k b hb => by simp at hb),(fun k b p hb => by simp at hb),(fun k _ b _ _ _ hb => by simp at hb),hS1w,kY.refl _ _,fun _ h => h,fun _ h => .inl h,aX _,(fun _ h => by simp [mG] at h),p.glob.st fun b hb => .inl hb⟩
  have hcall := hc (fun _ => none) _ w _ hs0 hargs;unfold Oper.wp;have hrun : (execOp a.eval ⟨d,.call { callee := .value x,args := args.toArray,argTypes := ats },ty,pos,af,none⟩).run P w = .ok (.enter f (ys.toList ++ args.map a.eval ++ zs.toList).toArray) w := by
    have e2 : (ys ++ (args.toArray.map a.eval) ++ zs) = (ys.toList ++ args.map a.eval ++ zs.toList).toArray := by
      apply Array.ext';simp
    simp only [execOp,resolve,e1,Deferred.ofValue,Sem.run_bind,Sem.run_pure,Result.andThen_ok,invoke];rw [e2];exact uY hf
  rw [hrun];simp only [Oper.upon];refine hcall.mono ?_;rintro e w' ⟨res,hout,⟨rfl,hΨ⟩,y,ρ',S',rfl,hs,hy⟩;simp only;have hM : ∀ b,(mG w (fun _ => none) (fun b => S b ∨ kF h ρ b) []).M b → w.heap.size ≤ b := fun b hb => by
    rcases hb with hb | ⟨k,x,o,hb,_⟩
    · exact hb
    · simp at hb
  have hext : kY (fun _ => False) w w' := hs.ext.mono fun b hb hm => by have := hM b hm;simp [mG] at hb;omega
  have hρ : ρ' = fun _ => none := funext fun k => hs.dom k (bW _);subst hρ;have hpost : H5 ρ ρ S S w w' h.length 0 res [] y := by
    refine ⟨hext,rfl,fun _ _ => rfl,fun _ hb => hb,fun _ hb => .inl hb,fun k p h1 h2 _ => by omega,fun k k' p p' h1 h2 _ _ _ => by omega,?_,fun j b hb => by simp at hb⟩
    exact lO (fun _ h => h) (fun _ _ => rfl) res (fun _ => none) ρ y (fun _ _ h => nomatch h) (fun _ _ _ _ h => nomatch h) (RH _ _ _ (hrf _ hΨ) hy)
  have hsim := s.post (d := d) hd hpost;rw [List.append_nil] at hsim;exact hK' _ _ (hk _ hΨ c ρ S _ w' Q hsim hQ)
end
theorem RY {P : Program} {o : Oper} {a : Act} {w : World} {K : Act → World → Prop} {Q1 Q : Exit → Act → World → Prop} (hq : ∀ e a w,Q1 e a w → e = .normal) (h : o.wp P a w K Q1) : o.wp P a w K Q := by
  unfold Oper.wp at *;generalize (execOp a.eval o).run P w = r at *;cases r with
  | ok n w' =>
    cases n with
    | enter f args =>
      simp only [Oper.upon] at *;refine h.mono fun e w'' => ?_
      cases e with
      | returned v => exact id
      | panicked c => exact fun hh => by have := hq _ _ _ hh;cases this
      | outgrown => exact fun ⟨_,_,hh⟩ => by have := hq _ _ _ hh;cases this
    | _ => first | exact h | exact h.elim
  | halt x w' => cases x <;> simp only [Oper.upon] at * <;> first | exact h | (have := hq _ _ _ h;cases this)
section
variable {P : Program} {n : Nat × Nat} {ops : Array Oper} {env : dI} {h : Hp} {K : dI → Hp → Prop} {listed : Array Bool} {r : Nat}
theorem QU (hr : Region.ready .any ops listed = []) (hk : K env h) : G7 P n ops listed r env h K :=
  fun _ _ _ _ _ _ s _ hQ => wpAny_done hr (hQ _ _ _ _ _ _ hk s) r
theorem QS {rd : List Nat} (hr : Region.ready .any ops listed = rd) (hne : rd ≠ []) (hk : ∀ i,i ∈ rd → ∃ o,ops[i]? = some o ∧ VC P n ops [o] env h (fun v h' => G7 P n ops (listed.setIfInBounds i true) r v h' K)) : G7 P n ops listed (r + 1) env h K := by
  intro c ρ S a w QQ s hq hQ;refine wpAny_all hr hne fun i hi => ?_
  obtain ⟨o,ho,hv⟩ := hk i hi;have h1 := hv c ρ S a w (fun e a' w' => e = .normal ∧ wpAny P .any ops QQ r (listed.setIfInBounds i true) a' w') s (fun env' h' ρ' S' a' w' hK hs => ⟨rfl,hK c ρ' S' a' w' QQ hs hq hQ⟩);unfold wpOp;rw [ho];unfold wpList at h1;dsimp only at h1 ⊢;split at h1
  · rename_i hw;rw [if_pos hw];rcases h1 with h1 | ⟨_,a',w',h1⟩
    · exact .inl (RY (fun e a w h => h.1) (Oper.wp_mono (fun a w h => h.2) h1))
    · exact nomatch h1.1
  · rename_i hw;rw [if_neg hw];exact h1.2
def tV : Nat → List Oper → List (Nat × List Nat)
  | _,[] => []
  | i,o :: l => (i,(o.after.toList.filter fun e => Region.binds .any e).map (·.on)) :: tV (i + 1) l
def VT (b0 : List Bool) : List Nat → Bool
  | [] => true
  | d :: ds => match b0.getD d false with
    | true => VT b0 ds
    | false => false
def CG (b0 : List Bool) : List (Nat × List Nat) → List Bool → List Nat
  | (i, d) :: ds, b :: bs => match b with
    | true => CG b0 ds bs
    | false => match VT b0 d with
      | true => i :: CG b0 ds bs
      | false => CG b0 ds bs
  | _,_ => []
theorem HN (b0 : List Bool) : ∀ ds : List Nat, VT b0 ds = ds.all fun d => b0.getD d false
  | [] => rfl
  | d :: ds => by
    unfold VT;rw [qS,HN b0 ds];cases b0.getD d false <;> rfl
theorem NC (b0 : List Bool) (i : Nat) (d : List Nat) (ds : List (Nat × List Nat)) (b : Bool) (bs : List Bool) : CG b0 ((i,d) :: ds) (b :: bs) = if b = true then CG b0 ds bs else if VT b0 d = true then i :: CG b0 ds bs else CG b0 ds bs := by
  cases b <;> cases h : VT b0 d <;> simp [CG,h]
theorem NB (l0 : List Oper) (b0 : List Bool) : ∀ (l : List Oper) (bs : List Bool) (i : Nat),l.length = bs.length → (∀ j,l[j]? = l0[i + j]?) → (∀ j,j < bs.length → bs[j]? = b0[i + j]?) →
    CG b0 (tV i l) bs = (List.range' i l.length).filter fun i => !b0.toArray.getD i true && ((l0.toArray[i]?).map (·.after.all fun e => !Region.binds .any e || b0.toArray.getD e.on false)).getD false
  | [],[],i,_,_,_ => rfl
  | o :: l,b :: bs,i,hl,h1,h2 => by
    have ih := NB l0 b0 l bs (i + 1) (by simpa using hl) (fun j => by rw [dH,pJ 1 j];simpa using h1 (j + 1)) (fun j hj => by rw [dH,pJ 1 j];simpa using h2 (j + 1) (by simpa using hj))
    have e1 : b0.toArray.getD i true = b := by
      have := h2 0 (by simp)
      simp only [dQ,Nat.add_zero] at this;rw [cX,fZ,← this];rfl
    have e2 : ((l0.toArray[i]?).map (·.after.all fun e => !Region.binds .any e || b0.toArray.getD e.on false)).getD false = VT b0 ((o.after.toList.filter fun e => Region.binds .any e).map (·.on)) := by
      have := h1 0;simp only [dQ,Nat.add_zero] at this;rw [fZ,← this,HN,List.all_map];simp only [xC,uO];rw [← Array.all_toList]
      induction o.after.toList with
      | nil => rfl
      | cons e r ih =>
        rw [qS,List.filter_cons,ih];cases Region.binds .any e
        · simp
        · simp [cX,aC]
    rw [List.length_cons,List.range'_succ,List.filter_cons,e1,e2,← ih];generalize hok : VT b0 ((o.after.toList.filter fun e => Region.binds .any e).map (·.on)) = q;have e3 := NC b0 i ((o.after.toList.filter fun e => Region.binds .any e).map (·.on)) (tV (i + 1) l) b bs;rw [show tV i (o :: l) = (i,(o.after.toList.filter fun e => Region.binds .any e).map (·.on)) :: tV (i + 1) l from rfl,e3,hok]
    generalize CG b0 (tV (i + 1) l) bs = u;cases b <;> cases q <;> rfl
  | [],_ :: _,_,hl,_,_ => by simp at hl
  | _ :: _,[],_,hl,_,_ => by simp at hl
theorem S4 {l : List Oper} {b : List Bool} (hl : l.length = b.length) : Region.ready .any l.toArray b.toArray = CG b (tV 0 l) b := by
  rw [NB l b l b 0 hl (fun j => by rw [Nat.zero_add]) (fun j _ => by rw [Nat.zero_add])]
  unfold Region.ready;rw [wF];rfl
def uP (P : Program) (n : Nat × Nat) (l : List Oper) (ds : List (Nat × List Nat)) (b : List Bool) (r : Nat) (env : dI) (h : Hp) (K : dI → Hp → Prop) : Prop := tV 0 l = ds → l.length = b.length → G7 P n l.toArray b.toArray r env h K
section
variable {l : List Oper} {ds : List (Nat × List Nat)} {b : List Bool}
theorem wY (hr : CG b ds b = []) (hk : K env h) : uP P n l ds b r env h K := fun hd hl => by
  subst hd;exact QU ((S4 hl).trans hr) hk
theorem wX {rd : List Nat} (hr : CG b ds b = rd) (hne : rd ≠ []) (hk : ∀ i,i ∈ rd → ∃ o,l[i]? = some o ∧ VC P n l.toArray [o] env h (fun v h' => uP P n l ds (b.set i true) r v h' K)) : uP P n l ds b (r + 1) env h K := fun hd hl =>
  QS ((S4 hl).trans (by rw [hd];exact hr)) hne fun i hi => by
    obtain ⟨o,ho,hv⟩ := hk i hi;refine ⟨o,by simpa using ho,hv.mono fun v g hg => ?_⟩
    have := hg hd (by rw [fR];exact hl)
    rwa [← List.setIfInBounds_toArray] at this
theorem QZ {i : Nat} {o : Oper} (hr : CG b ds b = [i]) (ho : l[i]? = some o) (hk : VC P n l.toArray [o] env h (fun v h' => uP P n l ds (b.set i true) r v h' K)) : uP P n l ds b (r + 1) env h K :=
  wX hr (by simp) fun k hk2 => by simp only [bY,or_false,P2] at hk2;subst hk2;exact ⟨o,ho,hk⟩
theorem QY {i j : Nat} {o o2 : Oper} (hr : CG b ds b = [i,j]) (ho : l[i]? = some o) (ho2 : l[j]? = some o2) (hk : VC P n l.toArray [o] env h (fun v h' => uP P n l ds (b.set i true) r v h' K)) (hk2 : VC P n l.toArray [o2] env h (fun v h' => uP P n l ds (b.set j true) r v h' K)) : uP P n l ds b (r + 1) env h K :=
  wX hr (by simp) fun k hm => by
    simp only [bY,P2,or_false] at hm;rcases hm with rfl | rfl
    · exact ⟨o,ho,hk⟩
    · exact ⟨o2,ho2,hk2⟩
theorem QW {i j k3 : Nat} {o o2 o3 : Oper} (hr : CG b ds b = [i,j,k3]) (ho : l[i]? = some o) (ho2 : l[j]? = some o2) (ho3 : l[k3]? = some o3) (hk : VC P n l.toArray [o] env h (fun v h' => uP P n l ds (b.set i true) r v h' K)) (hk2 : VC P n l.toArray [o2] env h (fun v h' => uP P n l ds (b.set j true) r v h' K)) (hk3 : VC P n l.toArray [o3] env h (fun v h' => uP P n l ds (b.set k3 true) r v h' K)) : uP P n l ds b (r + 1) env h K :=
  wX hr (by simp) fun k hm => by
    simp only [bY,P2,or_false] at hm;rcases hm with rfl | rfl | rfl
    · exact ⟨o,ho,hk⟩
    · exact ⟨o2,ho2,hk2⟩
    · exact ⟨o3,ho3,hk3⟩
theorem QV {i j k3 k4 : Nat} {o o2 o3 o4 : Oper} (hr : CG b ds b = [i,j,k3,k4]) (ho : l[i]? = some o) (ho2 : l[j]? = some o2) (ho3 : l[k3]? = some o3) (ho4 : l[k4]? = some o4) (hk : VC P n l.toArray [o] env h (fun v h' => uP P n l ds (b.set i true) r v h' K)) (hk2 : VC P n l.toArray [o2] env h (fun v h' => uP P n l ds (b.set j true) r v h' K)) (hk3 : VC P n l.toArray [o3] env h (fun v h' => uP P n l ds (b.set k3 true) r v h' K)) (hk4 : VC P n l.toArray [o4] env h (fun v h' => uP P n l ds (b.set k4 true) r v h' K)) : uP P n l ds b (r + 1) env h K :=
  wX hr (by simp) fun k hm => by
    simp only [bY,P2,or_false] at hm;rcases hm with rfl | rfl | rfl | rfl
    · exact ⟨o,ho,hk⟩
    · exact ⟨o2,ho2,hk2⟩
    · exact ⟨o3,ho3,hk3⟩
    · exact ⟨o4,ho4,hk4⟩
theorem IP (ds : List (Nat × List Nat)) (hd : tV 0 l = ds) (b : List Bool) {listed : Array Bool} (hb : listed = b.toArray) (hl : l.length = b.length) (hk : uP P n l ds b r env h K) : G7 P n l.toArray listed r env h K := by
  subst hb;exact hk hd hl
end
theorem QL {code : Code} {Q : Exit → dI → Hp → Prop} (E : dI) (H : Hp) (hc : AW P n code env h (fun e v g => e = .normal ∧ BE n.2 v g E H)) (hk : ∀ v g,BE n.2 v g E H → Q .normal v g) : AW P n code env h Q :=
  hc.mono fun e v g ⟨he,hs⟩ => by subst he;exact hk v g hs
end
theorem HS.view {c : mR} {ρ : Pl} {S : Nat → Prop} {h : Hp} {w : World} (s : HS c ρ S h w) (hm : c.m = 0) : HS c (fun _ => Option.none) (fun b => S b ∨ kF h ρ b) [] w := by
  refine ⟨fun _ _ => rfl,(fun _ _ h => nomatch h),(fun k b hb => by simp at hb),(fun k b p hb => by simp at hb),(fun k _ b _ _ _ hb => by simp at hb),fun b hb => ?_,s.ext,fun b hb => .inl (s.st0 b hb),fun b hb => ?_,by rw [hm];exact bW _,(fun k hk => by rw [hm] at hk;exact absurd hk (dD _)),s.glob.st fun b hb => .inl hb⟩
  · rcases hb with hb | ⟨k,x,o,_,_,hb⟩
    · exact s.stab b hb
    · exact s.rng k _ hb
  · rcases hb with hb | ⟨k,x,o,h1,h2,h3⟩
    · exact s.st1 b hb
    · exact .inr (s.live k x _ h1 h2 h3).1
theorem uB {P : Program} {f : FuncId} {args : List AV} {res res' : AV} {hout : Hp} (h : aQ P f args [] res hout) (hv : mN hout res res') : aQ P f args [] res' [] := by
  refine ⟨h.1,fun ρ S w vs hs ha => (h.2 ρ S w vs hs ha).mono ?_⟩;rintro e w' ⟨y,ρ',S',rfl,h2,h3⟩;exact ⟨y,_,_,rfl,h2.view rfl,J3 h2.blk hv h3⟩
section
variable {P : Program} {env : dI} {h : Hp}
variable {d : Option Nat} {ty : TypeId} {pos : String} {af : Array Edge} {g : Option (Nat × Bool)}
variable {t kt et : TypeId} {good : Value → Prop} {x y : Operand} {i : Nat} {kv : Value} {ks : List Value} {vs : List AV} {v : AV}
end
section
variable {P : Program} {env : dI} {h : Hp}
variable {d : Option Nat} {ty : TypeId} {pos : String} {af : Array Edge} {g : Option (Nat × Bool)}
variable {t kt et : TypeId} {good : Value → Prop} {x y : Operand} {k : Nat} {kv : Value} {ks : List Value} {vs : List AV}
end
section
variable {P : Program} {env : dI} {h : Hp}
theorem lE {n : Nat × Nat} {Q : Exit → dI → Hp → Prop} {id : Nat} {l : List Oper} (k nt : Nat) (presl pres : List (List Nat)) (ds : List Nat) (bads : List (List Nat)) (hm : P.follows .mixedOrders = true) (hn : n.1 = nt) (hc : zR l presl k = true) (hok : kB (l.take k) pres ds bads nt = true)
    (hv : DW P n (l.take k) pres ds bads (dY ds env) h 0 (dY ds env) [] (fun v h => VC P n l.toArray (l.drop k) v h (fun v h => Q .normal v h))) (hnd : lC (l.take k) = true := by rfl) (hnd2 : lC (l.drop k) = true := by rfl) : AW P n (.region id l.toArray true) env h Q := by
  intro c ρ S a w QQ s hQ;have hkl := (xX hc).2.1;have hany := C9 pres ds bads (by rw [hn];exact hok) hv c ρ S a w (fun e a w => e = .normal ∧ wpListIn (rd c.r) 0 P l.toArray (fun e a w => e = .normal ∧ QQ .normal a w) (l.drop k) a w) s fun env' h' ρ' S' a' w' kv s' =>
    ⟨rfl,rV (fun e a w h => h.1) hnd2 (kv c ρ' S' a' w' _ s' fun env2 h2 ρ2 S2 a2 w2 k2 s2 => ⟨rfl,hQ .normal env2 h2 ρ2 S2 a2 w2 k2 s2⟩)⟩
  have hrep : ∀ m j,(Array.replicate m false).getD j false = false := fun m j => by
    simp only [Array.getD];split <;> simp
  refine wpIn_mono (wpIn_region_any (Q := fun e a w => e = .normal ∧ QQ .normal a w) hm (AN hc hnd (fun e a w h => h.1) (fun a w h => h.2) (l.take k).toArray.size l.toArray.size _ (Array.replicate (l.take k).toArray.size false) (List.range k) a _ (by simp) (by simp;omega) (fun j hj => by rw [hrep,hrep]) (fun j hj => hrep _ _) (fun i o ho hi => by rw [hrep] at hi;cases hi) (fun j hj _ => fF.2 hj) (by simp;omega) (by simp;omega) hany)) fun e a w he => by obtain ⟨rfl,h3⟩ := he;exact h3
end
end Go.Ab
namespace Go.Ab
open Go Go.WideElems
section
variable {P : Program} {n : Nat × Nat} {ops : Array Oper} {env : dI} {h : Hp} {K : dI → Hp → Prop} {rest : List Oper} {Q : Exit → dI → Hp → Prop} {code : Code}
theorem VE (k j e : Nat) {cs : List AV} (hk : h[k]? = some (.cells cs)) (hj : cs[j]? = some .nils) (hv : AW P n code env (h.set k (.cells (cs.set j (.sl h.length 0 0 1))) ++ [.buf e []]) Q) : AW P n code env h Q := by
  intro c ρ S a w QQ s hQ;refine hv c ρ S a w QQ ⟨s.size,s.defers,s.env,?_,s.cm⟩ hQ
  have h1 := s.hs.alter (b1 := .cells (cs.set j (.sl h.length 0 0 1))) hk (fun hb => by
    simp only [RB] at hb ⊢;obtain ⟨b,o,ys,h2,h3,h4⟩ := hb;refine ⟨b,o,ys,h2,h3,AT h4 fun y hy => ?_⟩
    obtain ⟨y',h5,h6⟩ := oG h4 _ _ hj;rw [hy] at h5;cases h5;rw [qX h6];simp only [R]
    exact ⟨none,0,rfl,bW _,.inl ⟨trivial,rfl⟩⟩) (by simp)
  have hd := h1.dom h.length (by simp)
  generalize hh : h.set k (.cells (cs.set j (.sl h.length 0 0 1))) = h' at h1 ⊢;have hl : h.length = h'.length := by rw [← hh];simp
  rw [hl] at hd;have get : ∀ {j : Nat} {b : AB},(h' ++ [.buf e []])[j]? = some b → h'[j]? = some b ∨ (j = h'.length ∧ b = .buf e []) := fun {j b} hj => by
    by_cases hlt : j < h'.length
    · rw [aF hlt] at hj;exact .inl hj
    · have := (aA.1 hj).1;simp at this;have e : j = h'.length := by omega
      subst e;simp at hj;exact .inr ⟨rfl,hj.symm⟩
  refine ⟨fun k hk => h1.dom k (by simp at hk;omega),h1.rng,fun k b hb => ?_,fun k b p hb hg hp => ?_,fun k k' b b' p p' hb hb' hg hg' hp hp' e => ?_,h1.stab,h1.ext,h1.st0,h1.st1,by simp;exact RO h1.mle,h1.keep,h1.glob⟩
  · rcases get hb with hb | ⟨rfl,rfl⟩
    · exact h1.blk k b hb
    · exact .inl ⟨rfl,hd⟩
  · rcases get hb with hb | ⟨rfl,rfl⟩
    · exact h1.live k b p hb hg hp
    · rw [hd] at hp;cases hp
  · rcases get hb with hb | ⟨rfl,rfl⟩
    · rcases get hb' with hb' | ⟨rfl,rfl⟩
      · exact h1.inj k k' b b' p p' hb hb' hg hg' hp hp' e
      · rw [hd] at hp';cases hp'
    · rw [hd] at hp;cases hp
end
end Go.Ab
namespace Go.Proofs.YtbialaoigijlgaaGreatDoor
open Go Go.Ab Go.Shelf Go.Proofs
shelf_lay Lays.n189 Nm 189 at Tryz as laysSort
theorem MS (l : List Int) (hl : l.length ≤ 17592186043904) : aQ Tryz.prog 48 [.sl 0 0 l.length 1] [.arr (ints l) 1] (.tup []) [.arr (ints (hO l)) 1] :=
  GL ⟨_,Tryz.func48,by kernel_rfl,by kernel_rfl⟩ (fun blk off cap zs w h1 h2 h3 => Any.slices_Sort_int laysSort blk off cap zs w h1 h2 h3) (fun p cap w => Any.slices_Sort_int_none laysSort p cap w) l hl
end Go.Proofs.YtbialaoigijlgaaGreatDoor
namespace Go.Proofs.YtbialaoigijlgaaGreatDoor
open Go Go.Ab
attribute [local irreducible] VC AW bT aQ AY VY P6
set_option maxHeartbeats 4000000
theorem AE (l : List Int) (hl : l.length ≤ 17592186043904) : aQ Tryz.prog 46 [.rowE (ints l) 1] [] (.sl 0 0 l.length 1) [.arr (ints l) 1] := by
  have hll : (ints l).length = l.length := by simp
  refine bK T Tryz.func46 rfl rfl rfl rfl ?_
  repeat' (first|refine wS ?_|refine wK ?_|refine wT ?_|refine wU ?_|(refine rg 0 (aV ?_))|(refine rg 1 (mV ?_);refine qE T rfl rfl rfl rfl fun b hb=>?_;cases b)|refine nZ ?_)
  · (repeat' (first|refine wR ?_|(refine rg 3 (bS (by exact bC T rfl rfl (by decide) (by decide) rfl rfl rfl) rfl ?_);refine mW rfl (fY T rfl rfl rfl rfl rfl rfl (by decide) (.row (cP l)) (zD l) (by simp;omega) (by simp;omega) rfl ?_);refine aV ?_)|(refine nZ ?_)));exact ⟨.inl rfl,[1],_,rfl,(by show AV.sl 1 0 (0 + (ints l).length) 1 = AV.sl 1 0 l.length 1;simp),rfl,⟨.inr (aG rfl rfl (bO _)),trivial⟩,by decide,H3⟩
  · have hl0 : l = [] := fG.1 (Classical.byContradiction fun h => by have := hb (by omega);cases this)
    subst hl0
    (repeat' (first|refine wR ?_|(refine rg 2 (vV (fA rfl) (pH 2 1 rfl (by decide) ?_)))|refine nZ ?_));exact ⟨.inl rfl,[0],_,rfl,rfl,rfl,⟨.inr (aG rfl rfl (bO _)),trivial⟩,by decide,H3⟩
abbrev RZ (l : List Int) : AV := .clo (.func 102) [] [.pr [.rowE (ints l) 1] 0]
theorem yJ (l : List Int) : aQ Tryz.prog 60 [.rowE (ints l) 1] [] (RZ l) [] := by
  refine GP rfl ?_;refine bK T Tryz.func60 rfl rfl rfl rfl ?_
  (repeat' (first|refine wS ?_|refine wR ?_|(refine rg 0 (bS (cW rfl rfl) rfl (aV ?_)))|(refine rg 1 (vV (by exact iS rfl rfl) ?_);refine aV ?_)|refine nZ ?_));exact ⟨.inl rfl,[0],_,rfl,rfl,rfl,⟨.inr rfl,trivial⟩,by decide,H3⟩
def WH (l : List Int) (k : Nat) : List AV := match l[k]? with
  | some x => [.i x]
  | none => []
theorem V8 {l : List Int} {k : Nat} (h : k < l.length) : WH l k = [.i l[k]] := by unfold WH;rw [aB h]
theorem IY (l : List Int) (hl : l.length ≤ 17592186043904) : P6 Tryz.prog 102 [] [.pr [.rowE (ints l) 1] 0] [] (WH l) l.length := by
  have hll : (ints l).length = l.length := by simp
  refine WC T Tryz.func102 rfl rfl rfl rfl ?_;intro J A y hJ hy
  (repeat' (first|(first|(refine tX ?_)|(refine vU ?_))|(((refine oJ hJ (eJ (id := 0) ?_)));(all_goals (refine lV T ?_;(refine qV T ?_);refine mV ?_)))|refine nZ ?_));refine AJ (X := {k : Nat // k ≤ l.length}) (fun k => [(0,.clo (.yield y) [] []),(5,.rowE (ints l) 1),(6,.i (ints l).length),(7,.i (k.1 : Int))]) (fun _ => []) (fun k => (k.1,false)) (fun k => l.length - k.1) ⟨0,bW _⟩ rfl (gO []) ?_
  rintro ⟨k,hkl⟩;dsimp only;by_cases hk : k < l.length
  · have hit := V8 hk;have q1 : (ints l)[(k : Int).toNat]? = some [AV.i l[k]] := by rw [bR,bJ,aB hk];rfl
    generalize l[k] = x at *
    (repeat' (first|(first|(refine tX ?_)|(refine vU ?_)|(refine I9 ?_)|(refine QG ?_))|((refine tY rfl (fun hb=>?_) (fun hb=>?_)<;>(((try simp only [nm] at hb);try ((exfalso;omega);done)))))|(((refine oJ hJ (eJ (id := 1) ?_)));(all_goals (refine vV (aN rfl rfl) ?_)))|(((refine oJ hJ (eJ (id := 2) ?_)));(all_goals (refine vV (ix T rfl (by omega) (cP _) q1) ?_;refine lV T ?_;refine aV ?_)))|(((refine U8 (id := 3) ?_));((refine LX 2 hJ ?_));(dsimp only [List.take,List.drop]);(all_goals (refine zG1 ?_;refine fT ?_;refine BK hJ hy rfl rfl rfl hk hit rfl ?_));(all_goals (intro yes));(all_goals (refine VO hJ ?_;refine vV (fB rfl) ?_;refine H9 (by ((dsimp only [List.nil_append,List.cons_append,List.append_nil,List.length_cons,List.length_nil,List.set_cons_zero,List.set_cons_succ,List.map_cons,List.map_nil,iR,kV,kK,oP,BO,uT,D9,D7,D6,D8,uS,uV,uR,uU,Nat.zero_add,Nat.add_zero,Nat.reduceAdd,Bool.not_true,Bool.not_false];done))) ?_)))|(((refine oJ hJ (eJ (id := 4) ?_)));(all_goals (refine vV (bF rfl rfl (by omega) (by omega)) ?_;refine mV ?_)))|refine nZ ?_));all_goals first | (exfalso;omega) | skip
    · exact ⟨.inl rfl,fun h => (by first | (subst hb;cases h) | (cases h;done)),[],rfl⟩
    · obtain rfl := hb;exact ⟨⟨k + 1,hk⟩,by dsimp only;omega,rfl,gO []⟩
  · (repeat' (first|(first|(refine tX ?_)|(refine AK ?_))|((refine tY rfl (fun hb => ?_) (fun hb => ?_) <;> (((try simp only [nm] at hb);try ((exfalso;omega);done)))))|(((refine oJ hJ (eJ (id := 1) ?_)));(all_goals (refine vV (aN rfl rfl) ?_)))|(refine H9 (by ((dsimp only [List.nil_append,List.cons_append,List.append_nil,List.length_cons,List.length_nil,List.set_cons_zero,List.set_cons_succ,List.map_cons,List.map_nil,iR,kV,kK,oP,BO,uT,D9,D7,D6,D8,uS,uV,uR,uU,Nat.zero_add,Nat.add_zero,Nat.reduceAdd,Bool.not_true,Bool.not_false];done))) ?_)));all_goals first | (exfalso;omega) | skip
    exact ⟨.inr rfl,fun _ => by show k = _;omega,[],rfl⟩
abbrev zF9 (l : List Int) : Hp := [.cells [.sl 1 0 l.length 1],.arr (ints l) 1]
theorem zE0 : ∀ i : Nat,i < 1 → ([0,3] : List Nat)[i]? = some i := by decide
theorem EG (l : List Int) (hl : l.length ≤ 17592186043904) : aQ Tryz.prog 137 [.nils,RZ l] [] (.sl 0 0 l.length 1) [.arr (ints l) 1] := by
  have hit := IY l hl;refine bK T Tryz.func137 rfl rfl rfl rfl ?_
  (repeat' (first|refine wS ?_|refine wB ?_|(refine rg 0 (bS (cW rfl rfl) rfl (aV ?_)))|(refine rg 1 (mV ?_))|refine nZ ?_));refine tZ 0 0 1 rfl rfl (by decide) ?_
  refine EB [] [0,1] [(2,.ptr 0 0)] (fun k => zF9 (l.take k)) 1 rfl hit rfl rfl rfl trivial dA rfl ⟨rfl,trivial⟩ ⟨.inr rfl,.inr rfl,trivial⟩ (by decide) (H3) (by simp) (bW _) (aM rfl) rfl (by decide) (fun k hk => by rw [V8 hk];exact ⟨rfl,rfl⟩) ?_ ?_
  · intro k hk;rw [V8 hk];have hks := aO hk;have hkl : (l.take k).length ≤ l.length := List.length_take_le' _ _;generalize l.take k = K at hks hkl ⊢;generalize l[k] = x at *;refine eJ (id := 2) ?_;refine vV (by exact fA rfl) ?_
    refine fT ?_;refine ⟨rfl,?_⟩
    repeat' (first|refine wB ?_|(refine rg 3 (lW T rfl (mW rfl (bS (by exact bC T rfl rfl (by decide) (by decide) rfl rfl rfl) rfl ?_)));refine fY T rfl rfl rfl rfl rfl rfl (by simp) (kE.whole rfl rfl) rfl (by simp;omega) (by simp;omega) rfl ?_;refine aR T rfl rfl rfl rfl rfl rfl (by decide) rfl ?_)|refine nZ ?_)
    show BE _ _ _ _ (zF9 (l.take (k + 1)));rw [hks];exact ⟨[0,3],rfl,trivial,⟨.inr (by simp;rfl),.inr (aG rfl (by simp;exact cF (by simp)) (bO _)),trivial⟩,by decide,zE0⟩
  · have e : l.take l.length = l := cO;rw [e]
    (repeat' (first|refine wS ?_|refine wR ?_|(refine rg 4 (lW T rfl (aV ?_)))|refine nZ ?_));exact ⟨.inl rfl,[1],_,rfl,rfl,rfl,⟨.inr (aG rfl rfl (bO _)),trivial⟩,by decide,H3⟩
theorem LD (l : List Int) (hl : l.length ≤ 17592186043904) : aQ Tryz.prog 101 [RZ l] [] (.sl 0 0 l.length 1) [.arr (ints l) 1] := by
  have h1 := EG l hl;have hrf := HU l;refine bK T Tryz.func101 rfl rfl rfl rfl ?_
  (repeat' (first|refine wS ?_|refine wR ?_|(refine rg 0 (aV ?_))|(refine rg 1 (mW rfl (bS (by exact fM rfl rfl h1 (.inr ⟨rfl,rfl,by simp⟩)) rfl ?_));refine aV ?_)|refine nZ ?_));exact ⟨.inl rfl,[0],_,rfl,rfl,rfl,⟨.inr (aG rfl (M4 _ _) (bO _)),trivial⟩,by decide,H3⟩
theorem J9 (l : List Int) (hl : l.length ≤ 17592186043904) : aQ Tryz.prog 59 [RZ l] [] (.rowE (ints (hO l)) 1) [] := by
  refine nT (by simp [oM] : l.length = (ints (hO l)).length) (KE _) ?_
  have h1 := LD l hl;have h2 := MS l hl;have hrf := HU l;generalize hO l = B at *;refine bK T Tryz.func59 rfl rfl rfl rfl ?_
  (repeat' (first|refine wS ?_|refine wR ?_|(refine rg 0 (aV ?_))|(refine rg 1 (mW rfl (bS (by exact fM rfl rfl h1 (.inr ⟨rfl,rfl,by simp⟩)) rfl ?_));refine aV ?_)|(refine rg 2 (mW rfl (dW [0] rfl rfl h2 rfl rfl (by decide) ⟨.inr (aG rfl (M4 _ _) (bO _)),trivial⟩ (by simp) rfl ?_)))|(refine rg 3 (mW rfl (aV ?_)))|refine nZ ?_));exact ⟨.inl rfl,[0],_,rfl,rfl,rfl,⟨.inr (aG rfl (M4 _ _) (bO _)),trivial⟩,by decide,H3⟩
end Go.Proofs.YtbialaoigijlgaaGreatDoor
namespace Go.Pm
structure Rt (p : List Nat) : Prop where
  nd : p.Nodup
  lt : ∀ x,x ∈ p → x < p.length
abbrev mP (p : List Nat) (i : Nat) : Nat := p.getD i 0
theorem vW {p : List Nat} {i : Nat} (h : i < p.length) : mP p i = p[i] := by
  rw [mP,aC,aB h];rfl
theorem Rt.ltAt {p : List Nat} (r : Rt p) {i : Nat} (h : i < p.length) : mP p i < p.length := by
  rw [vW h];exact r.lt _ (aK h)
theorem Rt.inj {p : List Nat} (r : Rt p) {i j : Nat} (hi : i < p.length) (hj : j < p.length) (e : mP p i = mP p j) : i = j := by
  rw [vW hi,vW hj] at e;have h := List.pairwise_iff_getElem.1 r.nd;rcases Nat.lt_trichotomy i j with h1 | h1 | h1
  · exact absurd e (h i j hi hj h1)
  · exact h1
  · exact absurd e.symm (h j i hj hi h1)
theorem Rt.mem {p : List Nat} (r : Rt p) {x : Nat} (h : x < p.length) : x ∈ p := by
  apply Classical.byContradiction;intro hx;have h1 : (x :: p).Nodup := fD.2 ⟨hx,r.nd⟩
  have := h1.length_le_of_subset (l₂ := List.range p.length) (fun y hy => by
    rw [fF];rcases bY.1 hy with rfl | hy
    · exact h
    · exact r.lt y hy)
  simp at this;omega
def zB7 (p : List Nat) (a b : Nat) : List Nat := (p.set a (mP p b)).set b (mP p a)
theorem SK (p : List Nat) (a b : Nat) : (zB7 p a b).length = p.length := by simp [zB7]
inductive Sw (x : List Nat) : Bool → List Nat → Prop
  | refl : Sw x false x
  | swap {b : Bool} {y : List Nat} {i j : Nat} : Sw x b y → i < x.length → j < x.length → i ≠ j → Sw x (!b) (zB7 y i j)
theorem Sw.len {x y : List Nat} {b : Bool} (h : Sw x b y) : y.length = x.length := by
  induction h with
  | refl => rfl
  | swap _ _ _ _ ih => rw [SK];exact ih
abbrev bt (s : List Bool) (i : Nat) : Bool := s.getD i false
theorem YD {s : List Bool} {i j : Nat} {v : Bool} (h : i < s.length) : bt (s.set i v) j = if i = j then v else bt s j := by
  rw [bt,aC,gH];by_cases e : i = j
  · rw [if_pos e,if_pos e,if_pos h];rfl
  · rw [if_neg e,if_neg e,bt,aC]
def UU (p : List Nat) : Nat → List Bool → List Nat → Nat → List Bool × List Nat
  | 0,sn,c,_ => (sn,c)
  | f + 1,sn,c,k => if bt sn k then (sn,c) else UU p f (sn.set k true) (c ++ [k]) (mP p k)
def KZ (p : List Nat) : Nat → List Bool × List (List Nat)
  | 0 => (List.replicate p.length false,[])
  | i + 1 => ((UU p p.length (KZ p i).1 [] i).1,if 1 < (UU p p.length (KZ p i).1 [] i).2.length then (KZ p i).2 ++ [(UU p p.length (KZ p i).1 [] i).2] else (KZ p i).2)
def zE8 (p : List Nat) : List (List Nat) := (KZ p p.length).2
structure CI (p : List Nat) (sn0 : List Bool) (i : Nat) (sn : List Bool) (c : List Nat) (k : Nat) : Prop where
  len : sn.length = p.length
  nd : c.Nodup
  lt : ∀ x,x ∈ c → x < p.length
  sn : ∀ x,x < p.length → (bt sn x = true ↔ bt sn0 x = true ∨ x ∈ c)
  new : ∀ x,x ∈ c → bt sn0 x = false
  z : c = [] → k = i
  hd : c ≠ [] → mP c 0 = i
  nx : c ≠ [] → k = mP p (mP c (c.length - 1))
  st : ∀ j,j + 1 < c.length → mP c (j + 1) = mP p (mP c j)
  k : k < p.length
theorem J0 {c : List Nat} {k j : Nat} : mP (c ++ [k]) j = if j < c.length then mP c j else if j = c.length then k else 0 := by
  rw [mP,aC];by_cases h : j < c.length
  · rw [if_pos h,aF h,mP,aC]
  · rw [if_neg h,aE (by omega)]
    by_cases h2 : j = c.length
    · rw [if_pos h2,h2];simp
    · rw [if_neg h2];rw [cD (by simp;omega)];rfl
theorem CI.step {p : List Nat} (r : Rt p) {sn0 sn : List Bool} {i k : Nat} {c : List Nat} (h : CI p sn0 i sn c k) (hb : bt sn k = false) : CI p sn0 i (sn.set k true) (c ++ [k]) (mP p k) := by
  have hk := h.k;have hkc : ¬ (bt sn0 k = true ∨ k ∈ c) := fun q => by rw [(h.sn k hk).2 q] at hb;cases hb
  refine ⟨by simp [h.len],?_,fun x hx => ?_,fun x hx => ?_,fun x hx => ?_,fun e => by simp at e,fun _ => ?_,fun _ => ?_,fun j hj => ?_,r.ltAt hk⟩
  · rw [gG];exact ⟨h.nd,by simp,fun a ha b hb e => by simp at hb;subst hb;subst e;exact hkc (.inr ha)⟩
  · rcases bQ.1 hx with hx | hx
    · exact h.lt x hx
    · simp at hx;subst hx;exact hk
  · rw [YD (by rw [h.len];exact hk)]
    by_cases e : k = x
    · subst e;simp
    · rw [if_neg e,h.sn x hx];simp [Ne.symm e]
  · rcases bQ.1 hx with hx | hx
    · exact h.new x hx
    · simp at hx;subst hx;rw [← eF];exact fun q => hkc (.inl q)
  · rw [J0];cases c with
    | nil => simp;exact h.z rfl
    | cons a c => simp;exact h.hd (by simp)
  · simp [J0]
  · simp at hj;rw [J0,J0,if_pos hj];by_cases e : j + 1 < c.length
    · rw [if_pos e];exact h.st j e
    · rw [if_neg e,if_pos (by omega)]
      have := h.nx (by intro q;subst q;simp at hj)
      rw [this,show c.length - 1 = j by omega]
structure zI6 (p : List Nat) (c : List Nat) : Prop where
  ne : c ≠ []
  nd : c.Nodup
  lt : ∀ x,x ∈ c → x < p.length
  st : ∀ j,j < c.length → mP p (mP c j) = mP c ((j + 1) % c.length)
theorem CI.fin {p : List Nat} (r : Rt p) {sn0 sn : List Bool} {i k : Nat} {c : List Nat} (h : CI p sn0 i sn c k) (hcl : ∀ x,x < p.length → bt sn0 (mP p x) = true → bt sn0 x = true) (hb : bt sn k = true) (hc : c ≠ []) : zI6 p c := by
  have hc0 : 0 < c.length := dZ.2 hc;have hlast : mP c (c.length - 1) ∈ c := by rw [vW (by omega)];exact aK _
  have hki : k = mP c 0 := by
    have hnx := h.nx hc;rcases (h.sn k h.k).1 hb with h1 | h1
    · rw [hnx] at h1;have := hcl _ (h.lt _ hlast) h1;rw [h.new _ hlast] at this;cases this
    · obtain ⟨j,hj,e⟩ := pD.1 h1;rw [← vW hj] at e;cases j with
      | zero => exact e.symm
      | succ j =>
        have h2 := h.st j hj;rw [e,hnx] at h2;have hjm : mP c j ∈ c := by rw [vW (by omega)];exact aK _
        have h3 := r.inj (h.lt _ hlast) (h.lt _ hjm) h2;rw [vW (by omega),vW (by omega)] at h3
        have hp := List.pairwise_iff_getElem.1 h.nd;exact absurd h3.symm (hp j (c.length - 1) (by omega) (by omega) (by omega))
  refine ⟨hc,h.nd,h.lt,fun j hj => ?_⟩
  by_cases e : j + 1 < c.length
  · rw [Nat.mod_eq_of_lt e,h.st j e]
  · have : j = c.length - 1 := by omega
    rw [show j + 1 = c.length by omega,Nat.mod_self,← hki,h.nx hc,this]
def zE3 : Nat → Nat
  | 0 => 1
  | n + 1 => zE3 n * (n + 1)
abbrev Up (l : List Nat) : Prop := l.Pairwise (· < ·)
theorem Rt.perm {p : List Nat} (r : Rt p) : p.Perm (List.range p.length) :=
  (List.perm_ext_iff_of_nodup r.nd VJ).2 fun x => by rw [fF];exact ⟨r.lt x,r.mem⟩
end Go.Pm
namespace Go.Pm
open Go.Ab
def permB (p : List Int) : Bool := decide (hO p = nats (List.range p.length))
theorem le_tr : ∀ (a b c : Int),decide (a ≤ b) = true → decide (b ≤ c) = true → decide (a ≤ c) = true := fun a b c h1 h2 => by simp at *;omega
theorem WZ : ∀ (a b : Int),(decide (a ≤ b) || decide (b ≤ a)) = true := fun a b => by simp;omega
theorem sorted_perm (p : List Int) : (hO p).Perm p := List.mergeSort_perm _ _
theorem sorted_up (p : List Int) : (hO p).Pairwise (fun a b => a ≤ b) :=
  (List.pairwise_mergeSort le_tr WZ p).imp (fun h => by simpa using h)
theorem sorted_eq {p q : List Int} (h : p.Perm q) (hq : q.Pairwise (fun a b => a ≤ b)) : hO p = q :=
  List.Perm.eq_of_pairwise (le := fun a b => a ≤ b) (fun a b _ _ h1 h2 => by omega) (sorted_up p) hq ((sorted_perm p).trans h)
theorem range_le (n : Nat) : (nats (List.range n)).Pairwise (fun a b => a ≤ b) :=
  List.Pairwise.map _ (fun a b h => by omega) (List.pairwise_lt_range (n := n))
end Go.Pm
namespace Go.Proofs.YtbialaoigijlgaaGreatDoor
open Go Go.Ab
abbrev ints (l : List Int) : List (List AV) := l.map fun n => [AV.i n]
theorem cP (l : List Int) : ∀ e,e ∈ ints l → e.length = 1 := by intro e he;obtain ⟨n,_,rfl⟩ := bL.1 he;rfl
theorem lU {l : List Int} {k : Nat} (h : k < l.length) : (ints l)[k]? = some [AV.i l[k]] := by simp [h]
abbrev BX := Int × Int × Int
abbrev LT := Int × Int × Bool
abbrev KD := ByteArray × Int
abbrev gJ (l : List BX) : List (List AV) := l.map fun b => [AV.i b.1,AV.i b.2.1,AV.i b.2.2]
abbrev qI (l : List LT) : List (List AV) := l.map fun b => [AV.i b.1,AV.i b.2.1,AV.b b.2.2]
abbrev lS (l : List KD) : List (List AV) := l.map fun b => [AV.v (.string b.1),AV.i b.2]
theorem pY (l : List BX) : ∀ e,e ∈ gJ l → e.length = 3 := by intro e he;obtain ⟨n,_,rfl⟩ := bL.1 he;rfl
theorem M0 (l : List LT) : ∀ e,e ∈ qI l → e.length = 3 := by intro e he;obtain ⟨n,_,rfl⟩ := bL.1 he;rfl
theorem B8 (l : List KD) : ∀ e,e ∈ lS l → e.length = 2 := by intro e he;obtain ⟨n,_,rfl⟩ := bL.1 he;rfl
theorem LK {l : List BX} {k : Nat} (h : k < l.length) : (gJ l)[k]? = some [AV.i l[k].1,AV.i l[k].2.1,AV.i l[k].2.2] := by simp [h]
theorem CV {l : List LT} {k : Nat} (h : k < l.length) : (qI l)[k]? = some [AV.i l[k].1,AV.i l[k].2.1,AV.b l[k].2.2] := by simp [h]
theorem T8 {l : List KD} {k : Nat} (h : k < l.length) : (lS l)[k]? = some [AV.v (.string l[k].1),AV.i l[k].2] := by simp [h]
abbrev MU (k a b n : Int) (ids : List Int) : AV := .agg [.i k,.i a,.i b,.i n,.rowE (ints ids) 1]
theorem sO {a b : Bool} (h : a = b) : AV.b a = AV.b b := by rw [h]
def jQ (n f t : Int) : Bool := decide (f ≤ n) && decide (n ≤ t)
def sJ : List Int → Int → Int → Int
  | [],_,_ => -1
  | x :: r,v,k => if v = x then k else sJ r v (k + 1)
theorem DB : ∀ (l : List Int) (v k : Int), 0 ≤ k → (0 ≤ sJ l v k ↔ v ∈ l)
  | [],v,k,_ => by simp [sJ]
  | x :: r,v,k,hk => by
    simp only [sJ];split
    · rename_i e;subst e;simp [hk]
    · rename_i e;rw [DB r v (k + 1) (by omega)]
      simp [e]
theorem KL {l : List Int} {v : Int} {k : Nat} (h : k < l.length) : sJ (l.drop k) v k = if v = l[k] then (k : Int) else sJ (l.drop (k + 1)) v ((k + 1 : Nat) : Int) := by
  rw [aT h];simp [sJ]
structure zF4 (ks : List KD) (ls : List LT) (ps : List Int) (bs : List BX) : Prop where
  n1 : 1 ≤ ps.length
  n8 : ps.length ≤ 8
  len : ps.length = bs.length
  k10 : ks.length ≤ 10
  l10 : ls.length ≤ 10
  k : ∀ (i : Nat) (h : i < ks.length),0 ≤ ks[i].2 ∧ ks[i].2 ≤ 1048576
  l : ∀ (i : Nat) (h : i < ls.length),0 ≤ ls[i].1 ∧ ls[i].1 < ks.length
  p : ∀ (i : Nat) (h : i < ps.length),0 ≤ ps[i] ∧ ps[i] < ps.length
  b : ∀ (i : Nat) (h : i < bs.length),-1 ≤ bs[i].1 ∧ bs[i].1 < ls.length ∧ 0 ≤ bs[i].2.1 ∧ bs[i].2.1 ≤ 20000 ∧ (bs[i].1 = -1 → bs[i].2.1 = 0) ∧ 0 ≤ bs[i].2.2 ∧ bs[i].2.2 ≤ 1073741824
def sS (m st er sl : Int) : Prop := 0 ≤ m ∧ m ≤ 1048576 ∧ 0 ≤ st ∧ st ≤ 1048576 ∧ 0 ≤ er ∧ er ≤ 1048576 ∧ 0 ≤ sl ∧ sl ≤ 1048576
def rX (ks : List KD) (ls : List LT) (lot : Int) : Int := if lot < 0 then 0 else (ks.getD (ls.getD lot.toNat (0,0,false)).1.toNat (⟨#[]⟩,0)).2
theorem SC {ks : List KD} {ls : List LT} {ps : List Int} {bs : List BX} (f : zF4 ks ls ps bs) {lot : Int} (h : lot < ls.length) : 0 ≤ rX ks ls lot ∧ rX ks ls lot ≤ 1048576 := by
  unfold rX;split
  · omega
  · have hl : lot.toNat < ls.length := by omega
    have h1 := f.l lot.toNat hl;have hk : ls[lot.toNat].1.toNat < ks.length := by omega
    have h2 := f.k _ hk;simp only [List.getD,aB hl,uO,aB hk];exact h2
def H2 (l : List Int) (n : Int) (i : Nat) : Prop := 0 ≤ l.getD i 0 ∧ l.getD i 0 ≤ n - 1 ∧ (0 < i → l.getD (i - 1) 0 < l.getD i 0)
open Classical in
noncomputable def AM (l : List Int) (n : Int) : Bool := decide (∀ i,i < l.length → H2 l n i)
end Go.Proofs.YtbialaoigijlgaaGreatDoor
namespace Go.Proofs.YtbialaoigijlgaaGreatDoor
open Go Go.Ab
attribute [local irreducible] VC AW bT aQ
set_option maxHeartbeats 4000000
theorem qC (n f t : Int) : aQ Tryz.prog 64 [.i n,.i f,.i t] [] (.b (jQ n f t)) [] := by
  refine bK T Tryz.func64 rfl rfl rfl rfl ?_
  (repeat' (first|refine wS ?_|refine wR ?_|(refine rg 0 (aV ?_))|(refine rg 1 (eG rfl (vV (kR rfl rfl) (mV ?_)));refine eN rfl rfl ?_ ?_<;>(intro hb;rw [hb];(try simp only [nm] at hb);try (exfalso;omega));(all_goals first|(refine gT (mW rfl (gT (mW rfl (gT (vV (oC rfl rfl) ?_))))))|(iterate 3 refine gF ?_));(all_goals (refine pW rfl (aV ?_))))|refine nZ ?_));all_goals
    refine eC (.inl rfl) rfl (sO ?_);simp [jQ];try omega
theorem rD (l : List Int) (v : Int) (hl : l.length ≤ 9223372036854775807) : aQ Tryz.prog 38 [.rowE (ints l) 1,.i v] [] (.i (sJ l v 0)) [] := by
  have hlen : (ints l).length = l.length := by simp
  refine bK T Tryz.func38 rfl rfl rfl rfl ?_
  (repeat' (first|refine wS ?_|refine wB ?_|(refine rg 0 (aV ?_))|(refine rg 1 (mW rfl (qW T rfl (mV ?_))))|refine nZ ?_));refine cT (X := {k : Nat // k ≤ l.length ∧ sJ l v 0 = sJ (l.drop k) v k}) (fun k => [(0,.rowE (ints l) 1),(1,.i v),(7,.i (ints l).length),(8,.i k.1)]) (fun _ => []) (fun k => l.length - k.1) ⟨0,by simp,rfl⟩ (gO []) ?_
  rintro ⟨k,hk,hf⟩;dsimp only;by_cases hlt : k < l.length
  · have hd := KL (v := v) hlt
    repeat' (first|refine wS ?_|refine wB ?_|refine wK ?_|refine wR ?_|(refine wC rfl ?_ ?_<;>(intro hb;(try simp only [nm] at hb);try (exfalso;omega)))|(refine rg 2 (vV (aN rfl rfl) ?_))|(refine rg 3 (mW rfl (aV ?_)))|(refine rg 4 (eG rfl (mW rfl (vV (ix T rfl (by omega) (cP l) (lU (k := k) (by omega))) (lW T rfl (vV (fC rfl rfl) ?_))))))|(refine rg 5 (mW rfl (aV ?_)))|(refine rg 6 (vV (bF rfl rfl (by omega) (by omega)) (mV ?_)))|refine nZ ?_)
    · refine eC (.inl rfl) rfl ?_;rw [hf,hd,if_pos hb];rfl
    · refine ⟨⟨k + 1,by omega,?_⟩,by dsimp only;omega,gO []⟩
      rw [hf,hd,if_neg hb]
  · (repeat' (first|refine wS ?_|refine wR ?_|refine wE ?_|(refine wC rfl (fun hb => ?_) (fun hb => ?_) <;> (((try simp only [nm] at hb);try (exfalso;omega))))|(refine rg 2 (vV (aN rfl rfl) ?_))|(refine rg 7 (aV ?_))|(refine nZ ?_)));refine eC (.inl rfl) rfl ?_
    rw [hf,cQ (by omega)];rfl
theorem N4 (l : List Int) (v : Int) (hl : l.length ≤ 9223372036854775807) : aQ Tryz.prog 77 [.rowE (ints l) 1,.i v] [] (.b (decide (v ∈ l))) [] := by
  refine bK T Tryz.func77 rfl rfl rfl rfl ?_
  (repeat' (first|refine wS ?_|refine wR ?_|(refine rg 0 (aV ?_))|(refine rg 1 (eG rfl (vV (kC (rD l v hl)) (vV (kR rfl rfl) (aV ?_)))))|refine nZ ?_));refine eC (.inl rfl) rfl (sO ?_)
  rw [Bool.eq_iff_iff];simp only [decide_eq_true_eq];exact DB l v 0 (by omega)
theorem WJ {ks : List KD} {ls : List LT} {ps : List Int} {bs : List BX} (f : zF4 ks ls ps bs) {lot : Int} (h : lot < ls.length) : aQ Tryz.prog 79 [.rowE (lS ks) 2,.rowE (qI ls) 3,.i lot] [] (.i (rX ks ls lot)) [] := by
  by_cases h0 : lot < 0
  · refine bK T Tryz.func79 rfl rfl rfl rfl ?_
    (repeat' (first|refine wS ?_|refine wR ?_|(refine wC rfl ?_ ?_<;>(intro hb;(try simp only [nm] at hb);try (exfalso;omega)))|(refine rg 0 (aV ?_))|(refine rg 1 (mW rfl (vV (aN rfl rfl) ?_)))|(refine rg 2 (aV ?_))|refine nZ ?_));refine eC (.inl rfl) rfl ?_
    unfold rX;rw [if_pos h0];rfl
  · have hl : lot.toNat < ls.length := by omega
    have h1 := f.l lot.toNat hl;have hk : ls[lot.toNat].1.toNat < ks.length := by omega
    have hkl : (lS ks).length = ks.length := by simp
    have hll : (qI ls).length = ls.length := by simp
    have e : rX ks ls lot = ks[ls[lot.toNat].1.toNat].2 := by
      unfold rX;rw [if_neg h0];simp only [List.getD,aB hl,uO,aB hk]
    refine bK T Tryz.func79 rfl rfl rfl rfl ?_
    (repeat' (first|refine wS ?_|refine wK ?_|refine wR ?_|(refine wC rfl ?_ ?_<;>(intro hb;(try simp only [nm] at hb);try (exfalso;omega)))|(refine rg 0 (aV ?_))|(refine rg 1 (mW rfl (vV (aN rfl rfl) ?_)))|(refine rg 3 (eG rfl (mW rfl (vV (ix T rfl (by omega) (M0 ls) (CV hl)) (iX T rfl (vV (ix T rfl (by omega) (B8 ks) (T8 hk)) (iX T rfl (aV ?_))))))))|refine nZ ?_));refine eC (.inl rfl) rfl ?_
    rw [e];rfl
theorem zD (l : List Int) : (ints l).flatten.all AV.one = true := by
  rw [bA];intro x hx;obtain ⟨e,he,hx⟩ := List.mem_flatten.1 hx;obtain ⟨p,_,rfl⟩ := bL.1 he;simp at hx;subst hx;rfl
theorem bO (l : List Int) : ∀ e,e ∈ ints l → AV.idfL e = true := by
  intro e he;obtain ⟨i,_,rfl⟩ := bL.1 he;rfl
section
variable {ks : List KD} {ls : List LT} {ps : List Int} {bs : List BX} {m st er sl k a b n id lot ct ta done : Int} {ids : List Int} {M : Int}
end
structure IQ (ks : List KD) (ls : List LT) (ps : List Int) (bs : List BX) : Prop where
  len : ps.length = bs.length
  p : ∀ i : Nat,i < ps.length → (i : Int) ∈ ps
  k : ∀ (i : Nat) (h : i < ks.length),0 ≤ ks[i].2 ∧ ks[i].2 ≤ 1048576
  l : ∀ (i : Nat) (h : i < ls.length),0 ≤ ls[i].1 ∧ ls[i].1 < ks.length
  b : ∀ (i : Nat) (h : i < bs.length),-1 ≤ bs[i].1 ∧ bs[i].1 < ls.length ∧ 0 ≤ bs[i].2.1 ∧ bs[i].2.1 ≤ 20000 ∧ (bs[i].1 = -1 → bs[i].2.1 = 0) ∧ 0 ≤ bs[i].2.2 ∧ bs[i].2.2 ≤ 1073741824
def zI8 (ks : List KD) (ls : List LT) (ps : List Int) (bs : List BX) : Prop := 1 ≤ ps.length ∧ ps.length ≤ 8 ∧ bs.length ≤ 8 ∧ ks.length ≤ 10 ∧ ls.length ≤ 10
theorem uQ {n f t : Int} (h : f ≤ n ∧ n ≤ t) : aQ Tryz.prog 64 [.i n,.i f,.i t] [] (.b true) [] := by
  have := qC n f t
  rwa [show jQ n f t = true by simp [jQ,h]] at this
theorem AL {l : List Int} {n : Int} {i : Nat} (h : i < l.length) (hn : ¬ H2 l n i) : AM l n = false := by
  unfold AM;simp only [decide_eq_false_iff_not];exact fun hh => hn (hh i h)
theorem O3 {l : List Int} {n : Int} (h : ∀ i,i < l.length → H2 l n i) : AM l n = true := by
  unfold AM;simp only [decide_eq_true_eq];exact h
theorem HZ {l : List Int} {k : Nat} (h : k < l.length) : l.getD k 0 = l[k] := by simp [List.getD,h]
theorem U9 (l : List Int) (n : Int) (hl : l.length ≤ 9223372036854775807) (hn : 0 ≤ n ∧ n ≤ 1000) : aQ Tryz.prog 61 [.rowE (ints l) 1,.i n] [] (.b (AM l n)) [] := by
  have hlen : (ints l).length = l.length := by simp
  refine bK T Tryz.func61 rfl rfl rfl rfl ?_
  (repeat' (first|refine wS ?_|refine wB ?_|(refine rg 0 (aV ?_))|(refine rg 1 (mW rfl (qW T rfl (mV ?_))))|refine nZ ?_));refine cT (X := {k : Nat // k ≤ l.length ∧ ∀ i,i < k → H2 l n i}) (fun k => [(0,.rowE (ints l) 1),(1,.i n),(7,.rowE (ints l) 1),(8,.i (ints l).length),(9,.i k.1)]) (fun _ => []) (fun k => l.length - k.1) ⟨0,by omega,fun i hi => by omega⟩ (gO []) ?_
  rintro ⟨k,hk,hq⟩;dsimp only;by_cases hlt : k < l.length
  · have hg := HZ hlt;cases hw : jQ l[k] 0 (n - 1)
    · have c := hw ▸ qC l[k] 0 (n - 1);have hno : ¬ H2 l n k := fun h => by
        unfold H2 at h;rw [hg] at h;rw [show jQ l[k] 0 (n - 1) = true by simp [jQ];omega] at hw
        cases hw
      (repeat' (first|refine wS ?_|refine wB ?_|refine wK ?_|refine wR ?_|refine wT ?_|(refine wC rfl ?_ ?_<;>(intro hb;(try simp only [nm] at hb);try (exfalso;omega)))|(refine rg 2 (vV (aN rfl rfl) ?_))|(refine rg 3 (mW rfl (vV (ix T rfl (by omega) (cP l) (lU (k := k) hlt)) (lW T rfl (pG ?_)))))|(refine rg 4 (eG rfl (vV (cJ rfl rfl (by omega) (by omega)) (vV (kC (c)) (vV (fB rfl) (mV ?_)))));(iterate 3 refine gF ?_);(iterate 7 refine gU ?_);refine gF (pV ?_))|(refine rg 5 (aV ?_))|refine nZ ?_));exact eC (.inl rfl) rfl (sO (AL hlt hno).symm)
    · have c := hw ▸ qC l[k] 0 (n - 1);simp only [jQ,aP,decide_eq_true_eq] at hw;by_cases hk0 : 0 < k
      · have hlt' : k - 1 < l.length := by omega
        have hg' := HZ hlt';have hc' : (ints l)[((k : Int) - 1).toNat]? = some [AV.i l[k - 1]] := by rw [show ((k : Int) - 1).toNat = k - 1 by omega];exact lU hlt'
        (repeat' (first|refine wS ?_|refine wB ?_|refine wK ?_|refine wR ?_|(refine wC rfl ?_ ?_<;>(intro hb;(try simp only [nm] at hb);try (exfalso;omega)))|(refine rg 2 (vV (aN rfl rfl) ?_))|(refine rg 3 (mW rfl (vV (ix T rfl (by omega) (cP l) (lU (k := k) hlt)) (lW T rfl (pG ?_)))))|(refine rg 4 (eG rfl (vV (cJ rfl rfl (by omega) (by omega)) (vV (kC (c)) (vV (fB rfl) (mW rfl (yN rfl (yV (gN rfl rfl) (yM ?_))))))));refine eN rfl rfl ?_ ?_<;>(intro hb;rw [hb];(try simp only [nm] at hb);try (exfalso;omega));(all_goals (refine yN rfl (yN rfl (yN rfl (yV (cJ rfl rfl (by omega) (by omega)) (yV (ix T rfl (by omega) (cP l) hc') (yO T rfl (yV (oC rfl rfl) (gT (pW rfl (pV ?_))))))))))))|(refine rg 5 (aV ?_))|(refine rg 6 (vV (bF rfl rfl (by omega) (by omega)) (mV ?_)))|refine nZ ?_));all_goals first
          | (exfalso;omega)
          | (refine eC (.inl rfl) rfl (sO (AL hlt (fun h => ?_)).symm);unfold H2 at h;rw [hg,hg'] at h;omega)
          | (refine ⟨⟨k + 1, by omega, fun i hi => ?_⟩, by dsimp only; omega, gO []⟩
             by_cases e : i = k
             · subst e;unfold H2;rw [hg,hg'];omega
             · exact hq i (by omega))
      · obtain rfl : k = 0 := by omega
        (repeat' (first|refine wS ?_|refine wB ?_|refine wK ?_|refine wU ?_|(refine wC rfl ?_ ?_<;>(intro hb;(try simp only [nm] at hb);try (exfalso;omega)))|(refine rg 2 (vV (aN rfl rfl) ?_))|(refine rg 3 (mW rfl (vV (ix T rfl (by omega) (cP l) (lU (k := 0) hlt)) (lW T rfl (pG ?_)))))|(refine rg 4 (eG rfl (vV (cJ rfl rfl (by omega) (by omega)) (vV (kC (c)) (vV (fB rfl) (mW rfl (yN rfl (yV (gN rfl rfl) (yM ?_))))))));(iterate 7 refine gF ?_);refine gT (pW rfl (pV ?_)))|(refine rg 6 (vV (bF rfl rfl (by omega) (by omega)) (mV ?_)))|refine nZ ?_));all_goals first
          | (exfalso;omega)
          | (refine ⟨⟨1, by omega, fun i hi => ?_⟩, by dsimp only; omega, gO []⟩
             obtain rfl : i = 0 := by omega
             unfold H2;rw [hg];omega)
  · (repeat' (first|refine wS ?_|refine wR ?_|refine wE ?_|(refine wC rfl (fun hb => ?_) (fun hb => ?_) <;> (((try simp only [nm] at hb);try (exfalso;omega))))|(refine rg 2 (vV (aN rfl rfl) ?_))|(refine rg 7 (aV ?_))|(refine nZ ?_)));exact eC (.inl rfl) rfl (sO (O3 fun i hi => hq i (by omega)).symm)
section
variable {P : Program} {env : dI} {h : Hp} {d : Option Nat} {ty : TypeId} {pos : String} {af : Array Edge} {g : Option (Nat × Bool)}
end
section
variable {ks : List KD} {ls : List LT} {ps : List Int} {bs : List BX} {m st er sl k a b n id lot ct ta done : Int} {ids : List Int} {M : Int}
end
end Go.Proofs.YtbialaoigijlgaaGreatDoor
namespace Go.Ab
open Go
section
variable {P : Program}
end
end Go.Ab
namespace Go.Proofs.YtbialaoigijlgaaGreatDoor
open Go Go.Ab
attribute [local irreducible] VC AW bT aQ
set_option maxHeartbeats 4000000
theorem kZ {θ : Nat → Nat} {f : Fn} {caps : List AV} (hi : AV.idfL caps = true) : (AV.clo f [] caps).map θ = .clo f [] caps := by
  show AV.clo f (AV.mapL θ []) (AV.mapL θ caps) = _;rw [mU θ caps hi];rfl
theorem OT {w : List KD} {F : FuncId} {caps : List AV} (hl : w.length ≤ 1000) (hi : AV.idfL caps = true) (hF : ∀ x,x ∈ w → aQ Tryz.prog F (.agg [AV.v (.string x.1),AV.i x.2] :: caps) [] (.b false) []) :
    aQ Tryz.prog 103 [.rowE (lS w) 2,.clo (.func F) [] caps] [] (.i (-1)) [] := by
  have hlen : (lS w).length = w.length := by simp
  refine bK T Tryz.func103 rfl rfl rfl rfl ?_
  (repeat' (first|refine wS ?_|refine wB ?_|(refine rg 0 (aV ?_))|(refine rg 1 (mW rfl (qW T rfl (mV ?_))))|refine nZ ?_));refine cT (X := {k : Nat // k ≤ w.length}) (fun k => [(0,.rowE (lS w) 2),(1,.clo (.func F) [] caps),(7,.i (lS w).length),(8,.i k.1)]) (fun _ => []) (fun k => w.length - k.1) ⟨0,by simp⟩ ⟨[],rfl,⟨rfl,by rw [kZ hi];rfl,rfl,rfl,trivial⟩,trivial,dA,fun _ h => absurd h (dD _)⟩ ?_
  rintro ⟨k,hk⟩;dsimp only;by_cases hlt : k < w.length
  · have hc := hF w[k] (aK hlt);have hg := T8 (l := w) hlt;generalize w[k] = y at *
    (repeat' (first|refine wS ?_|refine wB ?_|refine wK ?_|refine wU ?_|(refine wC rfl ?_ ?_<;>(intro hb;(try simp only [nm] at hb);try (exfalso;omega)))|(refine rg 2 (vV (aN rfl rfl) ?_))|(refine rg 3 (mW rfl (aV ?_)))|(refine rg 4 (eG rfl (mW rfl (vV (ix T rfl (by omega) (B8 w) hg) (lW T rfl (vV (by exact eS rfl rfl hc rfl (by simp [AV.idfL,AV.idf,hi]) rfl) ?_))))))|(refine rg 6 (vV (bF rfl rfl (by omega) (by omega)) (mV ?_)))|refine nZ ?_));all_goals first | (exfalso;omega) | exact ⟨⟨k + 1,hlt⟩,by dsimp only;omega,⟨[],rfl,⟨rfl,by rw [kZ hi];rfl,rfl,rfl,trivial⟩,trivial,dA,fun _ h => absurd h (dD _)⟩⟩
  · (repeat' (first|refine wS ?_|refine wR ?_|refine wE ?_|(refine wC rfl (fun hb => ?_) (fun hb => ?_) <;> (((try simp only [nm] at hb);try (exfalso;omega))))|(refine rg 2 (vV (aN rfl rfl) ?_))|(refine rg 7 (aV ?_))|(refine nZ ?_)));all_goals first | (exfalso;omega) | exact rQ
theorem XE {w : List KD} {F : FuncId} {caps : List AV} (hl : w.length ≤ 1000) (hi : AV.idfL caps = true) (hF : ∀ x,x ∈ w → aQ Tryz.prog F (.agg [AV.v (.string x.1),AV.i x.2] :: caps) [] (.b false) []) :
    aQ Tryz.prog 62 [.rowE (lS w) 2,.clo (.func F) [] caps] [] (.b false) [] := by
  have hc := OT hl hi hF;refine bK T Tryz.func62 rfl rfl rfl rfl ?_
  (repeat' (first|refine wS ?_|refine wR ?_|(refine rg 0 (aV ?_))|(refine rg 1 (eG rfl (vV (by exact eS rfl rfl hc rfl (by simp [AV.idfL,AV.idf,hi]) rfl) ?_));refine vV (kR rfl rfl) (aV ?_))|refine nZ ?_));all_goals first | (exfalso;omega) | exact rQ
theorem OS {w : List LT} {F : FuncId} {caps : List AV} (hl : w.length ≤ 1000) (hi : AV.idfL caps = true) (hF : ∀ x,x ∈ w → aQ Tryz.prog F (.agg [AV.i x.1,AV.i x.2.1,AV.b x.2.2] :: caps) [] (.b false) []) :
    aQ Tryz.prog 104 [.rowE (qI w) 3,.clo (.func F) [] caps] [] (.i (-1)) [] := by
  have hlen : (qI w).length = w.length := by simp
  refine bK T Tryz.func104 rfl rfl rfl rfl ?_
  (repeat' (first|refine wS ?_|refine wB ?_|(refine rg 0 (aV ?_))|(refine rg 1 (mW rfl (qW T rfl (mV ?_))))|refine nZ ?_));refine cT (X := {k : Nat // k ≤ w.length}) (fun k => [(0,.rowE (qI w) 3),(1,.clo (.func F) [] caps),(7,.i (qI w).length),(8,.i k.1)]) (fun _ => []) (fun k => w.length - k.1) ⟨0,by simp⟩ ⟨[],rfl,⟨rfl,by rw [kZ hi];rfl,rfl,rfl,trivial⟩,trivial,dA,fun _ h => absurd h (dD _)⟩ ?_
  rintro ⟨k,hk⟩;dsimp only;by_cases hlt : k < w.length
  · have hc := hF w[k] (aK hlt);have hg := CV (l := w) hlt;generalize w[k] = y at *
    (repeat' (first|refine wS ?_|refine wB ?_|refine wK ?_|refine wU ?_|(refine wC rfl ?_ ?_<;>(intro hb;(try simp only [nm] at hb);try (exfalso;omega)))|(refine rg 2 (vV (aN rfl rfl) ?_))|(refine rg 3 (mW rfl (aV ?_)))|(refine rg 4 (eG rfl (mW rfl (vV (ix T rfl (by omega) (M0 w) hg) (lW T rfl (vV (by exact eS rfl rfl hc rfl (by simp [AV.idfL,AV.idf,hi]) rfl) ?_))))))|(refine rg 6 (vV (bF rfl rfl (by omega) (by omega)) (mV ?_)))|refine nZ ?_));all_goals first | (exfalso;omega) | exact ⟨⟨k + 1,hlt⟩,by dsimp only;omega,⟨[],rfl,⟨rfl,by rw [kZ hi];rfl,rfl,rfl,trivial⟩,trivial,dA,fun _ h => absurd h (dD _)⟩⟩
  · (repeat' (first|refine wS ?_|refine wR ?_|refine wE ?_|(refine wC rfl (fun hb => ?_) (fun hb => ?_) <;> (((try simp only [nm] at hb);try (exfalso;omega))))|(refine rg 2 (vV (aN rfl rfl) ?_))|(refine rg 7 (aV ?_))|(refine nZ ?_)));all_goals first | (exfalso;omega) | exact rQ
theorem XD {w : List LT} {F : FuncId} {caps : List AV} (hl : w.length ≤ 1000) (hi : AV.idfL caps = true) (hF : ∀ x,x ∈ w → aQ Tryz.prog F (.agg [AV.i x.1,AV.i x.2.1,AV.b x.2.2] :: caps) [] (.b false) []) :
    aQ Tryz.prog 65 [.rowE (qI w) 3,.clo (.func F) [] caps] [] (.b false) [] := by
  have hc := OS hl hi hF;refine bK T Tryz.func65 rfl rfl rfl rfl ?_
  (repeat' (first|refine wS ?_|refine wR ?_|(refine rg 0 (aV ?_))|(refine rg 1 (eG rfl (vV (by exact eS rfl rfl hc rfl (by simp [AV.idfL,AV.idf,hi]) rfl) ?_));refine vV (kR rfl rfl) (aV ?_))|refine nZ ?_));all_goals first | (exfalso;omega) | exact rQ
theorem OU {w : List BX} {F : FuncId} {caps : List AV} (hl : w.length ≤ 1000) (hi : AV.idfL caps = true) (hF : ∀ x,x ∈ w → aQ Tryz.prog F (.agg [AV.i x.1,AV.i x.2.1,AV.i x.2.2] :: caps) [] (.b false) []) :
    aQ Tryz.prog 105 [.rowE (gJ w) 3,.clo (.func F) [] caps] [] (.i (-1)) [] := by
  have hlen : (gJ w).length = w.length := by simp
  refine bK T Tryz.func105 rfl rfl rfl rfl ?_
  (repeat' (first|refine wS ?_|refine wB ?_|(refine rg 0 (aV ?_))|(refine rg 1 (mW rfl (qW T rfl (mV ?_))))|refine nZ ?_));refine cT (X := {k : Nat // k ≤ w.length}) (fun k => [(0,.rowE (gJ w) 3),(1,.clo (.func F) [] caps),(7,.i (gJ w).length),(8,.i k.1)]) (fun _ => []) (fun k => w.length - k.1) ⟨0,by simp⟩ ⟨[],rfl,⟨rfl,by rw [kZ hi];rfl,rfl,rfl,trivial⟩,trivial,dA,fun _ h => absurd h (dD _)⟩ ?_
  rintro ⟨k,hk⟩;dsimp only;by_cases hlt : k < w.length
  · have hc := hF w[k] (aK hlt);have hg := LK (l := w) hlt;generalize w[k] = y at *
    (repeat' (first|refine wS ?_|refine wB ?_|refine wK ?_|refine wU ?_|(refine wC rfl ?_ ?_<;>(intro hb;(try simp only [nm] at hb);try (exfalso;omega)))|(refine rg 2 (vV (aN rfl rfl) ?_))|(refine rg 3 (mW rfl (aV ?_)))|(refine rg 4 (eG rfl (mW rfl (vV (ix T rfl (by omega) (pY w) hg) (lW T rfl (vV (by exact eS rfl rfl hc rfl (by simp [AV.idfL,AV.idf,hi]) rfl) ?_))))))|(refine rg 6 (vV (bF rfl rfl (by omega) (by omega)) (mV ?_)))|refine nZ ?_));all_goals first | (exfalso;omega) | exact ⟨⟨k + 1,hlt⟩,by dsimp only;omega,⟨[],rfl,⟨rfl,by rw [kZ hi];rfl,rfl,rfl,trivial⟩,trivial,dA,fun _ h => absurd h (dD _)⟩⟩
  · (repeat' (first|refine wS ?_|refine wR ?_|refine wE ?_|(refine wC rfl (fun hb => ?_) (fun hb => ?_) <;> (((try simp only [nm] at hb);try (exfalso;omega))))|(refine rg 2 (vV (aN rfl rfl) ?_))|(refine rg 7 (aV ?_))|(refine nZ ?_)));all_goals first | (exfalso;omega) | exact rQ
theorem XG {w : List BX} {F : FuncId} {caps : List AV} (hl : w.length ≤ 1000) (hi : AV.idfL caps = true) (hF : ∀ x,x ∈ w → aQ Tryz.prog F (.agg [AV.i x.1,AV.i x.2.1,AV.i x.2.2] :: caps) [] (.b false) []) :
    aQ Tryz.prog 67 [.rowE (gJ w) 3,.clo (.func F) [] caps] [] (.b false) [] := by
  have hc := OU hl hi hF;refine bK T Tryz.func67 rfl rfl rfl rfl ?_
  (repeat' (first|refine wS ?_|refine wR ?_|(refine rg 0 (aV ?_))|(refine rg 1 (eG rfl (vV (by exact eS rfl rfl hc rfl (by simp [AV.idfL,AV.idf,hi]) rfl) ?_));refine vV (kR rfl rfl) (aV ?_))|refine nZ ?_));all_goals first | (exfalso;omega) | exact rQ
theorem MD (x : KD) (h : 0 ≤ x.2 ∧ x.2 ≤ 1048576) : aQ Tryz.prog 63 [.agg [AV.v (.string x.1),AV.i x.2]] [] (.b false) [] := by
  have hw := uQ (n := x.2) (f := 0) (t := 1048576) h;refine bK T Tryz.func63 rfl rfl rfl rfl ?_
  (repeat' (first|refine wS ?_|refine wR ?_|(refine rg 0 (bS (cW rfl rfl) rfl (aV ?_)))|(refine rg 1 (iX T rfl (vV (kC (hw)) (vV (fB rfl) (aV ?_)))))|refine nZ ?_));all_goals first | (exfalso;omega) | exact rQ
theorem MC (ks : List KD) (x : LT) (h : 0 ≤ x.1 ∧ x.1 < ks.length) (hk : ks.length ≤ 1000) : aQ Tryz.prog 66 [.agg [AV.i x.1,AV.i x.2.1,AV.b x.2.2],.pr [.rowE (lS ks) 2] 0] [] (.b false) [] := by
  have e1 : (lS ks).length = ks.length := by simp
  have hw := uQ (n := x.1) (f := 0) (t := ((lS ks).length : Int) - 1) (by omega)
  refine bK T Tryz.func66 rfl rfl rfl rfl ?_
  (repeat' (first|refine wS ?_|refine wR ?_|(refine rg 0 (bS (cW rfl rfl) rfl (aV ?_)))|(refine rg 1 (iX T rfl (lW T rfl (qW T rfl (vV (cJ rfl rfl (by omega) (by omega)) (vV (kC (hw)) (vV (fB rfl) (aV ?_))))))))|refine nZ ?_));all_goals first | (exfalso;omega) | exact rQ
theorem ME (ls : List LT) (x : BX) (h : -1 ≤ x.1 ∧ x.1 < ls.length ∧ 0 ≤ x.2.1 ∧ x.2.1 ≤ 20000 ∧ (x.1 = -1 → x.2.1 = 0) ∧ 0 ≤ x.2.2 ∧ x.2.2 ≤ 1073741824) (hk : ls.length ≤ 1000) : aQ Tryz.prog 68 [.agg [AV.i x.1,AV.i x.2.1,AV.i x.2.2],.pr [.rowE (qI ls) 3] 0] [] (.b false) [] := by
  have e1 : (qI ls).length = ls.length := by simp
  obtain ⟨lot,ct,ta⟩ := x;dsimp only at h ⊢;have h1 := uQ (n := lot) (f := -1) (t := ((qI ls).length : Int) - 1) (by omega)
  have h2 := uQ (n := ct) (f := 0) (t := 20000) (by omega)
  have h3 := uQ (n := ta) (f := 0) (t := 1073741824) (by omega)
  refine bK T Tryz.func68 rfl rfl rfl rfl ?_
  (repeat' (first|refine wS ?_|refine wR ?_|(refine rg 0 (bS (cW rfl rfl) rfl (aV ?_)))|(refine rg 1 (iX T rfl (lW T rfl (qW T rfl (vV (cJ rfl rfl (by omega) (by omega)) (vV (kC (h1)) (vV (fB rfl) (mW rfl (yP T rfl (yL T ?_)))))))));refine yV (kC (h2)) (yV (fB rfl) (pW rfl (mW rfl (yP T rfl (yO T rfl (yV (aN rfl rfl) (yM ?_)))))));refine eN rfl rfl ?_ ?_<;>(intro hb;rw [hb];(try simp only [nm] at hb);try (exfalso;omega));(all_goals first|(refine gT (fW T rfl (gT (lW T rfl (gT (vV (gN rfl rfl) ?_))))))|(iterate 3 refine gF ?_));(all_goals (refine gT (pW rfl (pW rfl (mV ?_)))));(all_goals first|(refine gK ?_)|(refine eN rfl rfl ?_ ?_<;>(intro hb;rw [hb];(try simp only [nm] at hb);try (exfalso;omega))));(all_goals (refine yP T rfl (yO T rfl (yV (kC (h3)) (yV (fB rfl) (pW rfl (aV ?_))))))))|refine nZ ?_));all_goals first | (exfalso;omega) | exact rQ
theorem CL : ∀ (l m : List Int), l.Nodup → (∀ x, x ∈ l → x ∈ m) → m.length ≤ l.length → l.Perm m
  | [],m,_,_,hl => by
    have : m = [] := fG.1 (by simpa using hl)
    subst this;exact List.Perm.refl _
  | x :: l,m,hn,hs,hl => by
    have hx := hs x (by simp)
    have h2 := List.perm_cons_erase hx
    have h3 := CL l (m.erase x) (fD.1 hn).2 (fun y hy => by
      have hyx : y ≠ x := fun e => (fD.1 hn).1 (e ▸ hy);exact (pE hyx).2 (hs y (aY _ hy))) (by
        rw [mK hx];simp only [List.length_cons] at hl
        omega)
    exact (List.Perm.cons x h3).trans h2.symm
theorem W3 {n : Nat} {ps : List Int} (hl : ps.length = n) (h : ∀ i : Nat,i < n → (i : Int) ∈ ps) : hO ps = Go.Ab.nats (List.range n) := by
  have hnd : (Go.Ab.nats (List.range n)).Nodup := List.Pairwise.map _ (fun a b hab e => hab (by omega)) VJ
  have hsub : ∀ x,x ∈ Go.Ab.nats (List.range n) → x ∈ ps := fun x hx => by
    obtain ⟨i,hi,rfl⟩ := bL.1 hx;exact h i (fF.1 hi)
  have hp : (Go.Ab.nats (List.range n)).Perm ps := CL (Go.Ab.nats (List.range n)) ps hnd hsub (by simp [hl])
  exact Go.Pm.sorted_eq hp.symm (Go.Pm.range_le n)
theorem JI (n : Nat) : AM (Go.Ab.nats (List.range n)) n = true := by
  refine O3 fun i hi => ?_
  have hi' : i < n := by simpa using hi
  have e : ∀ k,k < n → (Go.Ab.nats (List.range n)).getD k 0 = (k : Int) := fun k hk => by
    rw [aC];simp [hk]
  unfold H2;rw [e i hi'];refine ⟨by omega,by omega,fun h0 => ?_⟩
  rw [e (i - 1) (by omega)];omega
theorem W4 {ks : List KD} {ls : List LT} {ps : List Int} {bs : List BX} (t : IQ ks ls ps bs) (h1 : ks.length ≤ 1000) (h2 : ls.length ≤ 1000) (h3 : ps.length ≤ 1000) :
    aQ Tryz.prog 25 [.rowE (lS ks) 2,.rowE (qI ls) 3,.rowE (ints ps) 1,.rowE (gJ bs) 3] [] (.b true) [] := by
  have e3 : (ints ps).length = ps.length := by simp
  have e4 : (gJ bs).length = bs.length := by simp
  have hlen := t.len;have v1 := yJ ps;have v2 := J9 ps (by omega)
  rw [W3 (n := ps.length) rfl t.p] at v2;have v3 := U9 (Go.Ab.nats (List.range ps.length)) ps.length (by simp;omega) (by omega)
  rw [JI] at v3;rw [show (ps.length : Int) = ((gJ bs).length : Int) by omega] at v3
  have c1 := XE (w := ks) (F := 63) (caps := []) h1 rfl (fun x hx => by
    obtain ⟨i,hi,rfl⟩ := pD.1 hx
    exact MD _ (t.k i hi))
  have c2 := XD (w := ls) (F := 66) (caps := [.pr [.rowE (lS ks) 2] 0]) h2 rfl (fun x hx => by
    obtain ⟨i,hi,rfl⟩ := pD.1 hx
    exact MC ks _ (t.l i hi) h1)
  have c3 := XG (w := bs) (F := 68) (caps := [.pr [.rowE (qI ls) 3] 0]) (by omega) rfl (fun x hx => by
    obtain ⟨i,hi,rfl⟩ := pD.1 hx
    exact ME ls _ (t.b i hi) h2)
  generalize Go.Ab.nats (List.range ps.length) = sr at *;refine bK T Tryz.func25 rfl rfl rfl rfl ?_
  (repeat' (first|refine wS ?_|refine wK ?_|refine wU ?_|(refine rg 0 (bS (cW rfl rfl) rfl (bS (cW rfl rfl) rfl (aV ?_))))|(refine rg 1 (mW rfl (vV (kC (v1)) (vV (by exact eS rfl rfl v2 rfl rfl rfl) ?_)));refine aV ?_)|(refine rg 2 (mW rfl (qW T rfl (mW rfl (qW T rfl (vV (jY rfl rfl (by omega)) (mW rfl (yN rfl (yN rfl (gT ?_)))))))));refine qW T rfl (yV (kC (v3)) (yV (fB rfl) (pV ?_))))|refine nZ ?_));all_goals try (exfalso;omega)
  (repeat' (first|refine wS ?_|refine wR ?_|(refine rg 4 (lW T rfl (vV (by exact eS rfl rfl c1 rfl rfl rfl) ?_));refine aV ?_)|(refine rg 5 (eG rfl (yO T rfl (yV (by exact iS rfl rfl) ?_)));refine yV (by exact eI rfl rfl c2 (.cons (.row _ _ _) (.cons (.clo .nil (.cons (.ptr rfl (.cons (.row _ _ _) .nil)) .nil)) .nil)) rfl rfl) ?_;refine pW rfl (aV ?_))|(refine rg 6 (mW rfl (vV (fB rfl) (mW rfl (yN rfl (yV (by exact iS rfl rfl) ?_)))));refine yV (by exact eI rfl rfl c3 (.cons (.row _ _ _) (.cons (.clo .nil (.cons (.ptr rfl (.cons (.row _ _ _) .nil)) .nil)) .nil)) rfl rfl) ?_;refine yV (fB rfl) (pW rfl (aV ?_)))|refine nZ ?_));all_goals first | (exfalso;omega) | exact rQ
end Go.Proofs.YtbialaoigijlgaaGreatDoor
namespace Go.Ab
open Go
section
variable {P : Program} {env : dI} {h : Hp} {d : Option Nat} {ty : TypeId} {pos : String} {af : Array Edge} {g : Option (Nat × Bool)}
theorem UC {t t2 : TypeId} {x y : Operand} {a b : Int} (hx : evu env x = some (.i a)) (hy : evu env y = some (.i b)) (e : a ≤ b) : bT P ⟨d,.binOp .leq t x y t2,ty,pos,af,g⟩ env h 0 (fun _ => .b true) (fun _ => []) := by
  have := oC (P := P) (d := d) (ty := ty) (pos := pos) (af := af) (g := g) (h := h) (t := t) (t2 := t2) hx hy;simpa [e] using this
theorem IB {t t2 : TypeId} {x y : Operand} {a b : Int} (hx : evu env x = some (.i a)) (hy : evu env y = some (.i b)) (e : ¬ a ≤ b) : bT P ⟨d,.binOp .leq t x y t2,ty,pos,af,g⟩ env h 0 (fun _ => .b false) (fun _ => []) := by
  have := oC (P := P) (d := d) (ty := ty) (pos := pos) (af := af) (g := g) (h := h) (t := t) (t2 := t2) hx hy;simpa [e] using this
end
end Go.Ab
namespace Go.Proofs.YtbialaoigijlgaaGreatDoor
open Go Go.Ab
attribute [local irreducible] VC AW bT aQ
set_option maxHeartbeats 4000000
end Go.Proofs.YtbialaoigijlgaaGreatDoor
