/-
  Texts of the logic and of the layer,in one module (part 2).
-/
import Derived.Test.YtdfmhddmddgniaaGreatDoorM1
import Derived.ProofKit
import Derived.OpenShut
import Derived.ShutString
import Derived.ChangeOld
import Derived.Laws.StructEq
import Derived.ChangeKeysEq
import Derived.Below
import Derived.ChangeSame
import Derived.WideKeyArgs
import Derived.Lib.SliceRun
import Derived.DeepKeys3
import Derived.RangeFuncSeq
set_option linter.unusedVariables false
set_option linter.unusedSimpArgs false
set_option linter.unnecessarySimpa false

namespace Go.Ab
open Go
def iI (P : Program) (t : TypeId) {α : Type} (ok : α → Prop) (enc : α → List AV) : Prop :=
  ∀ {H : Type} (e : TypeId × Value → H) (W : World) (fuel : Nat) (cs : List Value) x,DataW.trod e P W 0 (fun _ => true) true fuel t cs = some x →
    ∃ a,ok a ∧ (enc a).length = P.cellsOf t ∧ RL (fun b => b < W.heap.size) W (enc a) (fun _ => none) cs
section
variable {P : Program} {t : TypeId}
theorem iI.int {k : IntKind} (ht : P.underlying t = some (.int k)) (hc : P.cellsOf t = 1) : iI P t (fun n => (Lit.int k n).wf = true) (fun n => [.v (.int k n)]) := by
  intro H e W fuel cs x h;obtain ⟨n,rfl,_,hw⟩ := DataW.trod_int ht h;exact ⟨n,hw,by simp [hc],by simp [RL,R]⟩
theorem iI.bool (ht : P.underlying t = some .bool) (hc : P.cellsOf t = 1) : iI P t (fun _ => True) (fun b => [AV.b b]) := by
  intro H e W fuel cs x h;obtain ⟨b,rfl,_⟩ := DataW.trod_bool ht h;exact ⟨b,trivial,by simp [hc],by simp [RL,R]⟩
theorem iI.string (ht : P.underlying t = some .string) (hc : P.cellsOf t = 1) : iI P t (fun s => s.size ≤ maxLen) (fun s => [.v (.string s)]) := by
  intro H e W fuel cs x h;obtain ⟨s,rfl,_,hs⟩ := DataW.trod_string ht h;exact ⟨s,hs,by simp [hc],by simp [RL,R]⟩
theorem iI.iso {α β : Type} {ok : α → Prop} {enc : α → List AV} {ok' : β → Prop} {enc' : β → List AV} (h : iI P t ok enc) (f : α → β) (hf : ∀ a,ok a → ok' (f a) ∧ enc' (f a) = enc a) : iI P t ok' enc' := by
  intro H e W fuel cs x hx;obtain ⟨a,h1,h2,h3⟩ := h e W fuel cs x hx;obtain ⟨h4,h5⟩ := hf a h1;exact ⟨f a,h4,by rw [h5];exact h2,by rw [h5];exact h3⟩
theorem KP {α : Type} {n : Nat} {f : Nat → Option α} {l : List α} (h : (List.range n).mapM f = some l) : l.length = n ∧ ∀ i,i < n → f i = l[i]? := by
  induction n generalizing l with
  | zero => simp at h;subst h;simp
  | succ n ih =>
    rw [CU,List.mapM_append] at h;cases h1 : (List.range n).mapM f with
    | none => simp [h1] at h
    | some l1 =>
      cases h2 : f n with
      | none => simp [h1,h2] at h
      | some y =>
        simp [h1,h2] at h;subst h;obtain ⟨h3,h4⟩ := ih h1;refine ⟨by simp [h3],fun i hi => ?_⟩
        by_cases hin : i < n
        · rw [h4 i hin,aG (by omega)]
        · have : i = n := by omega
          subst this;rw [h2,aE (by omega)];simp [h3]
theorem VD (a : Addr) (n j : Nat) (h : n ≤ j) : (a.add n).add (j - n) = a.add j := by
  cases a with
  | mk bb oo sp =>
    unfold Addr.add;by_cases q1 : n = 0
    · rw [if_pos q1,q1];simp
    · rw [if_neg q1];by_cases q2 : j - n = 0
      · rw [if_pos q2,if_neg (by omega)];congr 1;omega
      · rw [if_neg q2,if_neg (by omega)];simp;omega
theorem iI.slice {e : TypeId} {sz : Nat} {α : Type} {ok : α → Prop} {enc : α → List AV} (ht : P.underlying t = some (.slice e)) (hc : P.cellsOf t = 1) (hsz : P.cellsOf e = sz) (h0 : 0 < sz) (he : iI P e ok enc) :
    iI P t (fun l => l.length ≤ maxLen ∧ ∀ a,a ∈ l → ok a) (fun l : List α => [.rowE (l.map enc) sz]) := by
  intro H en W fuel cs x h;rcases DataW.trod_slice ht h with ⟨rfl,_⟩ | ⟨a,len,cap,elems,rest,n,_,rfl,_,_,hlc,hcm,hel,hget,_,_⟩
  · refine ⟨[],⟨by simp,by simp⟩,by simp [hc],?_⟩
    simp only [RL,R];exact ⟨_,[],rfl,⟨none,0,rfl,by simp,fun _ => rfl,by simp,by simp,.inl (by simp)⟩,rfl⟩
  · have key : ∀ m,m ≤ len → ∃ (l : List α) (ys : List Value),l.length = m ∧ (∀ a,a ∈ l → ok a) ∧ RL (fun b => b < W.heap.size) W (l.map enc).flatten (fun _ => none) ys ∧ ys.length = m * sz ∧ ∀ (j : Nat) y,ys[j]? = some y → W.cell? (a.add j) = some y := by
      intro m
      induction m with
      | zero => exact fun _ => ⟨[],[],rfl,by simp,by simp [RL],by simp,by simp⟩
      | succ m ih =>
        intro hm;obtain ⟨l,ys,h1,h2,h3,h4,h5⟩ := ih (by omega)
        have hg := hget m (by omega)
        rw [aC (by omega)] at hg
        obtain ⟨cs',h6,h7⟩ := dW.1 hg;obtain ⟨b,h8,_,h9⟩ := he en W n cs' _ h7;unfold World.cells? at h6;split at h6
        · obtain ⟨g1,g2⟩ := KP h6;refine ⟨l ++ [b],ys ++ cs',by simp [h1],fun c hcc => ?_,?_,by rw [aB,h4,g1,hsz,eL,IV],fun j y hj => ?_⟩
          · rcases bH.1 hcc with hcc | hcc
            · exact h2 c hcc
            · simp at hcc;subst hcc;exact h8
          · rw [dI,gQ];exact fC h3 (by simpa using h9)
          · by_cases hjl : j < ys.length
            · rw [aG hjl] at hj;exact h5 j y hj
            · rw [aE (by omega)] at hj
              have hjl2 := (aA.1 hj).1;have := g2 (j - ys.length) (by omega)
              rw [hj] at this;have e2 : (a.add (m * P.cellsOf e)).add (j - ys.length) = a.add j := by
                rw [hsz,← h4];exact VD a ys.length j (by omega)
              rw [e2] at this;exact this
        · cases h6
    obtain ⟨l,ys,h1,h2,h3,h4,h5⟩ := key len (aU _);refine ⟨l,⟨by omega,h2⟩,by simp [hc],?_⟩
    simp only [RL,R];refine ⟨_,[],rfl,⟨some a,cap,by simp [h1],by simpa [h1] using hlc,(fun e => by cases e),hcm,?_,?_⟩,rfl⟩
    · rw [eV h3] at h4;simpa [h1] using h4
    · by_cases hz : len = 0
      · left;simp [h1,hz]
      · right;have hlt : 0 < ys.length := by rw [h4];exact Nat.mul_pos (by omega) h0
        have hcell := h5 0 ys[0] (aC hlt);have ha : a.add 0 = a := by simp [Addr.add]
        rw [ha] at hcell;have hsp := World.cell?_spot hcell;obtain ⟨bb,oo,sp⟩ := a;simp only at hsp;subst hsp;refine ⟨bb,oo,ys,rfl,World.block_lt_of_cell? W _ hcell,?_,h3⟩;unfold World.cell? at hcell;split at hcell
        · rename_i c e fz hb;refine ⟨c,e,fz,hb,fun j y hj => ?_⟩
          have := h5 j y hj;rw [Addr.add_lit] at this;simpa [World.cell?,hb] using this
        · cases hcell
def kH (P : Program) (ts : List TypeId) {α : Type} (ok : α → Prop) (enc : α → List AV) : Prop :=
  ∀ {H : Type} (e : TypeId × Value → H) (W : World) (fuel : Nat) (css : List (List Value)),css.length = ts.length → (∀ (i : Nat) t cs,ts[i]? = some t → css[i]? = some cs → ∃ x,DataW.trod e P W 0 (fun _ => true) true fuel t cs = some x) →
    ∃ a,ok a ∧ (enc a).length = (ts.map P.cellsOf).sum ∧ RL (fun b => b < W.heap.size) W (enc a) (fun _ => none) css.flatten
theorem kH.nil : kH P [] (fun _ : Unit => True) (fun _ => []) := by
  intro H e W fuel css hl _;have : css = [] := cF hl;subst this;exact ⟨(),trivial,rfl,by simp [RL]⟩
theorem kH.cons {ts : List TypeId} {α β : Type} {ok : α → Prop} {enc : α → List AV} {ok' : β → Prop} {enc' : β → List AV} (h : iI P t ok enc) (h' : kH P ts ok' enc') :
    kH P (t :: ts) (fun a : α × β => ok a.1 ∧ ok' a.2) (fun a => enc a.1 ++ enc' a.2) := by
  intro H e W fuel css hl hx
  match css,hl with
  | cs :: css,hl =>
    obtain ⟨x,hx0⟩ := hx 0 t cs (by simp) (by simp)
    obtain ⟨a,h1,h2,h3⟩ := h e W fuel cs x hx0;obtain ⟨b,h4,h5,h6⟩ := h' e W fuel css (by simpa using hl) (fun i t cs hi hi' => hx (i + 1) t cs (by simpa using hi) (by simpa using hi'))
    exact ⟨(a,b),⟨h1,h4⟩,by simp [h2,h5],by simpa using fC h3 h6⟩
def ND (P : Program) (t : TypeId) : Option (List (TypeId × Nat)) := match P.underlying t with
  | some (.struct fs) => some (fs.toList.map fun f => (f.type,f.offset))
  | _ => none
def ME (P : Program) : Nat → List (TypeId × Nat) → Nat → Bool
  | o,[],n => Nat.beq o n
  | o,(t,o') :: r,n => Nat.beq o o' && ME P (o + P.cellsOf t) r n
theorem AX {cs : List Value} : ∀ {fs : List (TypeId × Nat)} {o n : Nat}, ME P o fs n = true → n = cs.length → o ≤ n ∧ (fs.map fun f => (cs.drop f.2).take (P.cellsOf f.1)).flatten = cs.drop o
  | [],o,n,h,hn => by
    have := aM h;subst this;simp [hn]
  | (t,o') :: r,o,n,h,hn => by
    simp only [ME,aN] at h;have := aM h.1;subst this;obtain ⟨h1,h2⟩ := AX h.2 hn;refine ⟨by omega,?_⟩
    simp only [List.map_cons,cH,h2];rw [← IY,cI]
theorem iI.struct {fs : List (TypeId × Nat)} {α : Type} {ok : α → Prop} {enc : α → List AV} (ht : ND P t = some fs) (hr : ME P 0 fs (P.cellsOf t) = true) (h : kH P (fs.map (·.1)) ok enc) (hl : ∀ a,(enc a).length = P.cellsOf t) : iI P t ok enc := by
  intro H e W fuel cs x hx;unfold ND at ht;split at ht
  · rename_i fields hu;simp only [Option.some.injEq] at ht;subst ht;obtain ⟨xs,n,_,_,h1,h2,h3⟩ := DataW.trod_struct hu hx;obtain ⟨_,hsplit⟩ := AX (cs := cs) hr h1.symm
    obtain ⟨a,h4,h5,h6⟩ := h e W n ((fields.toList.map fun f => (f.type,f.offset)).map fun f => (cs.drop f.2).take (P.cellsOf f.1)) (by simp) (fun i tt cc hi hi' => by
      simp only [nR,aS,bX] at hi hi';obtain ⟨f,hf,rfl⟩ := hi;obtain ⟨f',hf',rfl⟩ := hi';rw [hf] at hf';cases hf';have hlt : i < xs.length := by rw [h2];simpa using (aA.1 hf).1
      have := h3 i f (by simpa using hf)
      rw [aC hlt] at this
      exact ⟨_,this⟩)
    refine ⟨a,h4,hl a,?_⟩;rw [hsplit] at h6;simpa using h6
  · cases ht
theorem iI.one {α : Type} {ok : α → Prop} {enc : α → AV} (h : iI P t ok (fun a => [enc a])) {H : Type} {e : TypeId × Value → H} {W : World} {v : Value} {d : DataW H} {p : List MemPlace} {base : Nat} (hok : Value.okWide P W .any base t v) (ha : EO P t = some false) (hv : DataW.Trod e P W 0 (fun _ => true) true t v d p) :
    ∃ a,ok a ∧ R (fun b => b < W.heap.size) W (enc a) (fun _ => none) v := by
  obtain ⟨fuel,hf⟩ := hv;obtain ⟨a,h1,_,h3⟩ := h e W fuel _ _ hf;refine ⟨a,h1,?_⟩;simp only [RL] at h3;obtain ⟨y,zs,h4,h5,h6⟩ := h3;subst h6;have hone : v.cells = #[v] := by
    cases v with
    | agg cs =>
      exfalso;unfold EO at ha;unfold Value.okWide at hok;split at ha <;> rename_i hu <;> try (cases ha;done)
      · cases h4' : cs.toList with
        | nil => simp [Value.cells,h4'] at h4
        | cons u r =>
          rename_i d hn1 hn2;rw [hu] at hok;cases d <;> first | exact absurd rfl (hn1 _) | exact absurd rfl (hn2 _ _) | (simp [Cell.okWide,Cell.ok,hu] at hok)
    | _ => rfl
  rw [hone] at h4;simp at h4;rw [h4];exact h5
open RowKit in
theorem W2 {f : FuncId} {xs : List AV} {vs : List Value} {W : World} (h : bI P f xs [] (.b true) []) (hv : RL (fun b => b < W.heap.size) W xs (fun _ => none) vs) (hgl : mX (fun b => b < W.heap.size) W := by exact mX.none rfl) :
    Calls P f vs.toArray W fun e w' => e = .returned (.bool true) ∧ Below W.heap.size W w' := by
  refine (h.2 (fun _ => none) (fun b => b < W.heap.size) W vs ⟨fun _ _ => rfl,(fun _ _ h => by cases h),(fun k b hb => by simp at hb),(fun k b p hb => by simp at hb),(fun k _ b _ _ _ hb => by simp at hb),fun _ h => h,lM.refl _ _,fun _ h => h,fun _ h => .inl h,aU _,(fun _ h => by simp [iY] at h),hgl⟩ hv).mono ?_
  rintro e w' ⟨y,ρ',S',rfl,hs,hy⟩;have := pZ hy;subst this;refine ⟨rfl,hs.ext.os,hs.ext.tape,hs.ext.output,hs.ext.size,fun k hk => hs.ext.same k hk fun hm => ?_⟩
  rcases hm with hm | ⟨_,_,_,hm,_⟩
  · omega
  · simp at hm
end
structure mI where
  d : Option Nat
  x : AV
  new : List AB
theorem HS.fill {c : oU} {ρ ρ' : Pl} {S S' : Nat → Prop} {h h' : Hp} {w w' : World} {q m : Nat} {x : AV} {new : List AB} {y : Value} (s : HS c ρ S h w) (p : L5 ρ ρ' S S' w w' q m x new y) (hn : ∀ j, j < m → ρ (q + j) = none)
    (hl : h.length ≤ h'.length) (hout : ∀ k,k < q ∨ q + m ≤ k → h'[k]? = h[k]?) (hin : ∀ j,j < m → h'[q + j]? = new[j]?) (hm : c.m ≤ q ∨ m = 0) : HS c ρ' S' h' w' := by
  have l := p.later hn s.stab;have hsz : c.w0.heap.size ≤ w.heap.size := s.ext.size;have cs : ∀ k,(k < q ∨ q + m ≤ k) ∨ ∃ j,j < m ∧ k = q + j := fun k => by
    by_cases h1 : k < q ∨ q + m ≤ k
    · exact .inl h1
    · exact .inr ⟨k - q,by omega,by omega⟩
  have new_lt : ∀ {k : Nat} {b : AB},h'[k]? = some b → (∃ j,j < m ∧ k = q + j ∧ new[j]? = some b) ∨ ((k < q ∨ q + m ≤ k) ∧ h[k]? = some b) := fun {k b} hb => by
    rcases cs k with h1 | ⟨j,h1,rfl⟩
    · exact .inr ⟨h1,by rw [← hout k h1];exact hb⟩
    · exact .inl ⟨j,h1,rfl,by rw [← hin j h1];exact hb⟩
  refine ⟨fun k hk => ?_,fun k r hr => ?_,fun k b hb => ?_,fun k b r hb hg hr => ?_,fun k k' b b' r r' hb hb' hg hg' hr hr' e => ?_,fun b hb => ?_,s.ext.trans p.ext (fun _ h => h.elim),fun b hb => p.st b (s.st0 b hb),fun b hb => ?_,cQ s.mle hl,fun k hk => ?_,s.glob.later l⟩
  · rcases cs k with h1 | ⟨j,h1,rfl⟩
    · rw [p.keep k h1];exact s.dom k (by omega)
    · have := hin j h1;rw [bU hk] at this;have h2 : j < new.length := by rw [p.len];exact h1
      rw [aC h2] at this;cases this
  · rcases cs k with h1 | ⟨j,h1,rfl⟩
    · rw [p.keep k h1] at hr;exact cC (s.rng k r hr) p.ext.size
    · exact (p.fresh _ r (by omega) (by omega) hr).2.1
  · rcases new_lt hb with ⟨j,h1,rfl,h2⟩ | ⟨h1,h2⟩
    · exact p.blk j b h2
    · rw [p.keep k h1];exact RB.later l (fun b' o hb' => p.ext.same b' (s.rng k _ hb') (by simp)) (s.blk k b h2)
  · rcases new_lt hb with ⟨j,h1,rfl,h2⟩ | ⟨h1,h2⟩
    · obtain ⟨f1,_,f3⟩ := p.fresh _ r (by omega) (by omega) hr
      exact ⟨c.new _ (by omega),f3⟩
    · rw [p.keep k h1] at hr;obtain ⟨f1,f2⟩ := s.live k b r h2 hg hr;refine ⟨f1,fun hs => ?_⟩
      rcases p.stn _ hs with hs | hs
      · exact f2 hs
      · have := s.rng k r hr;omega
  · rcases new_lt hb with ⟨j,h1,rfl,h2⟩ | ⟨h1,h2⟩ <;> rcases new_lt hb' with ⟨j',h1',rfl,h2'⟩ | ⟨h1',h2'⟩
    · exact p.inj _ _ r r' (by omega) (by omega) (by omega) (by omega) hr hr' e
    · rw [p.keep k' h1'] at hr';have f1 := s.rng k' r' hr';have f2 := (p.fresh _ r (by omega) (by omega) hr).1
      omega
    · rw [p.keep k h1] at hr;have f1 := s.rng k r hr;have f2 := (p.fresh _ r' (by omega) (by omega) hr').1
      omega
    · rw [p.keep k h1] at hr;rw [p.keep k' h1'] at hr';exact s.inj k k' b b' r r' h2 h2' hg hg' hr hr' e
  · rcases p.stn b hb with hb | hb
    · exact cC (s.stab b hb) p.ext.size
    · exact hb.2
  · rcases p.stn b hb with hb | hb
    · exact s.st1 b hb
    · exact .inr (c.new b (by omega))
  · rcases hm with hm | hm
    · rw [p.keep k (.inl (by omega))];exact s.keep k hk
    · rw [p.keep k (by omega)];exact s.keep k hk
def xH (env : dD) (all : List mI) : List Nat → dD
  | [] => env
  | j :: r => match all[j]? with
    | some f => fR f.d f.x (xH env all r)
    | none => xH env all r
def kF (L : Nat → Bool) : Nat → List mI → Hp
  | _,[] => []
  | i,f :: r => (match L i with | true => f.new | false => List.replicate f.new.length .gone) ++ kF L (i + 1) r
def mK : List mI → Nat
  | [] => 0
  | f :: r => f.new.length + mK r
theorem mJ {env : dD} {all : List mI} : ∀ {pre : List Nat} {t : Nat} {x : AV}, look (xH env all pre) t = some x → look env t = some x ∨ ∃ j f, j ∈ pre ∧ all[j]? = some f ∧ f.d = some t ∧ f.x = x
  | [],_,_,h => .inl h
  | j :: r,t,x,h => by
    simp only [xH] at h;have up : (look env t = some x ∨ ∃ j f,j ∈ r ∧ all[j]? = some f ∧ f.d = some t ∧ f.x = x) → (look env t = some x ∨ ∃ j' f,j' ∈ j :: r ∧ all[j']? = some f ∧ f.d = some t ∧ f.x = x) := fun h => h.imp id fun ⟨j',f,h1,h2⟩ => ⟨j',f,aF _ h1,h2⟩
    split at h
    · rename_i f hf;cases hd : f.d with
      | none => rw [hd] at h;exact up (mJ h)
      | some d =>
        rw [hd] at h;simp only [fR,gL] at h;split at h
        · rename_i he;subst he;cases h;exact .inr ⟨j,f,aL,hf,hd,rfl⟩
        · exact up (mJ h)
    · exact up (mJ h)
theorem nG (L : Nat → Bool) : ∀ (i : Nat) (l : List mI), (kF L i l).length = mK l
  | _,[] => rfl
  | i,f :: r => by
    simp only [kF,mK,aB,nG L (i + 1) r];cases L i <;> simp
theorem M8 : ∀ (a b : List mI), mK (a ++ b) = mK a + mK b
  | [],b => by simp [mK]
  | f :: a,b => by simp [mK,M8 a b,eG]
theorem qK (L : Nat → Bool) : ∀ (i : Nat) (a b : List mI), kF L i (a ++ b) = kF L i a ++ kF L (i + a.length) b
  | i,[],b => by simp [kF]
  | i,f :: a,b => by
    simp only [List.cons_append,kF,qK L (i + 1) a b,List.length_cons,aY];rw [show i + 1 + a.length = i + (a.length + 1) by omega]
theorem lU {L L' : Nat → Bool} : ∀ (l : List mI) (i : Nat), (∀ j, i ≤ j → j < i + l.length → L j = L' j) → kF L i l = kF L' i l
  | [],_,_ => rfl
  | f :: r,i,h => by
    simp only [kF,h i (aU _) (by simp),lU r (i + 1) (fun j h1 h2 => h j (by omega) (by simp;omega))]
theorem D6 {L L' : Nat → Bool} : ∀ (l : List mI) (i k : Nat) (b : AB), (∀ j, L j = true → L' j = true) → (kF L i l)[k]? = some b → b ≠ .gone → (kF L' i l)[k]? = some b
  | [],_,k,b,_,h,_ => by simp [kF] at h
  | f :: r,i,k,b,hL,h,hg => by
    simp only [kF] at h ⊢;have len : ∀ L : Nat → Bool,(match L i with | true => f.new | false => List.replicate f.new.length .gone).length = f.new.length := fun L => by cases L i <;> simp
    by_cases hk : k < f.new.length
    · rw [aG (by rw [len];exact hk)] at h ⊢
      cases h1 : L i with
      | true => rw [h1] at h;rw [hL i h1];exact h
      | false =>
        rw [h1] at h;simp only [oR] at h;rw [if_pos hk] at h;cases h;exact absurd rfl hg
    · rw [aE (by rw [len];omega),len] at h ⊢
      exact D6 r (i + 1) _ b hL h hg
def eF (ds : List Nat) : dD → dD
  | [] => []
  | (t, x) :: r => match ds.any (Nat.beq t) with
    | true => eF ds r
    | false => (t,x) :: eF ds r
theorem nX {ds : List Nat} {t : Nat} : ds.any (Nat.beq t) = true ↔ t ∈ ds := by
  rw [jE];constructor
  · rintro ⟨x,h1,h2⟩;rw [aM h2];exact h1
  · exact fun h => ⟨t,h,eQ t⟩
theorem kG {ds : List Nat} : ∀ {env : dD} {t : Nat} {x : AV}, look (eF ds env) t = some x → look env t = some x ∧ t ∉ ds
  | [],_,_,h => by cases h
  | (k,u) :: r,t,x,h => by
    simp only [eF] at h;split at h
    · rename_i hb;obtain ⟨h1,h2⟩ := kG h;refine ⟨?_,h2⟩;rw [gL,if_neg (fun e : k = t => h2 (e ▸ nX.1 hb))];exact h1
    · rename_i hb;rw [gL] at h ⊢;split at h
      · rename_i he;subst he;exact ⟨by rw [if_pos rfl];exact h,fun hm => by rw [nX.2 hm] at hb;cases hb⟩
      · rename_i he;rw [if_neg he];exact kG h
theorem XM {α : Type} (A B B' C : List α) (hB : B.length = B'.length) (k : Nat) (hk : k < A.length ∨ A.length + B.length ≤ k) : (A ++ (B ++ C))[k]? = (A ++ (B' ++ C))[k]? := by
  rcases hk with hk | hk
  · rw [aG hk,aG hk]
  · rw [aE (by omega),aE (by omega),aE (by omega),aE (by omega),hB]
def sU (ops : Array Oper) (pres : List (List Nat)) : Bool :=
  (List.range ops.size).all fun i => match ops[i]? with
    | none => false
    | some o =>
      (o.after.toList.all fun e => !Region.binds .any e || decide (e.on < i)) &&
      (match pres[i]? with
        | some pre => pre.all fun j => decide (j < i) && o.after.toList.any fun e => Region.binds .any e && (Nat.beq e.on j || (pres.getD e.on []).any (Nat.beq j))
        | none => (List.range i).all fun j => o.after.toList.any fun e => Region.binds .any e && Nat.beq e.on j)
def jF (all : List mI) : List Nat := all.filterMap (·.d)
def CV (P : Program) (ops : Array Oper) (i : Nat) (env : dD) (h : Hp) (f : mI) : Prop :=
  ∃ o,ops[i]? = some o ∧ o.dst = f.d ∧
    ((∃ x new,(o.guard = none ∨ ∃ g want t,o.guard = some (g,want) ∧ (ops[g]?).bind (·.dst) = some t ∧ look env t = some (.b want)) ∧ bJ P ⟨o.dst,o.op,o.type,o.pos,o.after,none⟩ env h f.new.length x new ∧ x h.length = f.x ∧ new h.length = f.new) ∨
     (∃ g want t,o.guard = some (g,want) ∧ (ops[g]?).bind (·.dst) = some t ∧ (look env t = some (.b (!want)) ∨ look env t = some (.v undef)) ∧ f.x = .v undef ∧ f.new = []))
def DV (P : Program) (n : Nat × Nat) (ops : Array Oper) (pres : List (List Nat)) (ds : List Nat) (env : dD) (h : Hp) (effs : List mI) (K : dD → Hp → Prop) : Prop :=
  ∃ more,(effs ++ more).length = pres.length ∧ jF (effs ++ more) = ds ∧
    (∀ i f pre,effs.length ≤ i → (effs ++ more)[i]? = some f → pres[i]? = some pre → CV P ops i (xH env ((effs ++ more).take i) pre) (h ++ kF (fun j => pre.any (Nat.beq j)) 0 ((effs ++ more).take i)) f) ∧
    VC P n ops (ops.toList.drop pres.length) (xH env (effs ++ more) (List.range pres.length)) (h ++ kF (fun _ => true) 0 (effs ++ more)) K
theorem ED {P : Program} {n : Nat × Nat} {ops : Array Oper} {pres : List (List Nat)} {ds : List Nat} {env : dD} {h : Hp} {effs : List mI} {K : dD → Hp → Prop} {f : mI} {pre : List Nat} {i : Nat} (hi : effs.length = i) (hp : pres[i]? = some pre)
    (hg : CV P ops i (xH env effs pre) (h ++ kF (fun j => pre.any (Nat.beq j)) 0 effs) f) (hk : DV P n ops pres ds env h (effs ++ [f]) K) : DV P n ops pres ds env h effs K := by
  obtain ⟨more,h1,h2,h3,h4⟩ := hk;have e : effs ++ [f] ++ more = effs ++ (f :: more) := by simp
  rw [e] at h1 h2 h3 h4;refine ⟨f :: more,h1,h2,fun j g p hj hgj hpj => ?_,h4⟩
  by_cases hji : j = i
  · subst hji;rw [hp] at hpj;cases hpj;rw [aE (by omega),hi,fP] at hgj
    simp at hgj;subst hgj;rw [jX,aQ (by omega),hi,fP]
    simpa using hg
  · exact h3 j g p (by simp;omega) hgj hpj
theorem zE2 {P : Program} {n : Nat × Nat} {ops : Array Oper} {pres : List (List Nat)} {ds : List Nat} {env : dD} {h : Hp} {effs : List mI} {K : dD → Hp → Prop} (hl : effs.length = pres.length) (hd : jF effs = ds)
    (hk : VC P n ops (ops.toList.drop pres.length) (xH env effs (List.range pres.length)) (h ++ kF (fun _ => true) 0 effs) K) : DV P n ops pres ds env h effs K := by
  refine ⟨[],by simpa using hl,by simpa using hd,fun i f pre hi hf _ => ?_,by simpa using hk⟩
  have := (aA.1 hf).1;simp at this;omega
structure uK (P : Program) (n : Nat × Nat) (c : oU) (env : dD) (h : Hp) (all : List mI) (L : Nat → Bool) (ρ : Pl) (S : Nat → Prop) (a : Act) (w : World) : Prop where
  size : a.tmps.size = n.1
  defers : rO c S a.defers w
  cm : c.m = n.2
  env0 : ∀ t x,look env t = some x → R S w x ρ (a.tmps.getD t undef)
  done : ∀ (i : Nat) f t,all[i]? = some f → L i = true → f.d = some t → R S w f.x ρ (a.tmps.getD t undef)
  hs : HS c ρ S (h ++ kF L 0 all) w
  undone : ∀ (i : Nat) f,all[i]? = some f → L i = false → ∀ j,j < f.new.length → ρ (h.length + mK (all.take i) + j) = none
theorem uK.step {P : Program} {n : Nat × Nat} {c : oU} {env : dD} {h : Hp} {all : List mI} {L L' : Nat → Bool} {ρ ρ' : Pl} {S S' : Nat → Prop} {a : Act} {w w' : World} {i : Nat} {f : mI} {y : Value} (s : uK P n c env h all L ρ S a w)
    (hf : all[i]? = some f) (hi : L i = false) (hL : ∀ j,L' j = (L j || Nat.beq j i)) (p : L5 ρ ρ' S S' w w' (h.length + mK (all.take i)) f.new.length f.x f.new y) (hd : J5 f.d n = true) (hnd : (jF all).Nodup) (henv : ∀ t x,look env t = some x → t ∉ jF all) (hm : c.m ≤ h.length) :
    uK P n c env h all L' ρ' S' (a.put f.d y) w' := by
  have hn := s.undone i f hf hi;have l := p.later hn s.hs.stab;have hil : i < all.length := (aA.1 hf).1;have dst_ne : ∀ {j : Nat} {g : mI} {t : Nat},all[j]? = some g → j ≠ i → g.d = some t → f.d ≠ some t := fun {j g t} hg hne hgt hft => by
    have key : ∀ {l : List mI} {i j : Nat} {f g : mI},(jF l).Nodup → l[i]? = some f → l[j]? = some g → i < j → f.d = some t → g.d = some t → False := by
      intro l
      induction l with
      | nil => intro i j f g _ h1;simp at h1
      | cons e l ih =>
        intro i j f g hnd h1 h2 hij hf hg;have tail : (jF l).Nodup := by
          unfold jF at hnd ⊢;rw [zX] at hnd;split at hnd
          · exact hnd
          · exact (aP.1 hnd).2
        cases j with
        | zero => omega
        | succ j =>
          simp only [gV] at h2;cases i with
          | zero =>
            simp only [dK,Option.some.injEq] at h1;subst h1;unfold jF at hnd;rw [zX,hf] at hnd;exact (aP.1 hnd).1 (jV.2 ⟨g,aJ h2,hg⟩)
          | succ i => exact ih tail (by simpa using h1) h2 (by omega) hf hg
    rcases H6 hne with h1 | h1
    · exact key hnd hg hf h1 hgt hft
    · exact key hnd hf hg h1 hft hgt
  have other : ∀ {t : Nat},f.d ≠ some t → (a.put f.d y).tmps.getD t undef = a.tmps.getD t undef := fun {t} ht => by
    cases hfd : f.d with
    | none => rfl
    | some d => exact sW (fun e => ht (by rw [hfd,e]))
  have hsplit : all = all.take i ++ f :: all.drop (i + 1) := by
    have := cI i all;rw [aO hil] at this;have e : all[i] = f := by rw [aC hil] at hf;exact Option.some.inj hf
    rw [e] at this;exact this.symm
  have hti : (all.take i).length = i := by rw [bT];omega
  have sL : ∀ M : Nat → Bool,kF M 0 all = kF M 0 (all.take i) ++ ((match M i with | true => f.new | false => List.replicate f.new.length .gone) ++ kF M (i + 1) (all.drop (i + 1))) := fun M => by
    conv => lhs;rw [hsplit]
    rw [qK,hti,Nat.zero_add];rfl
  have e1 : kF L' 0 (all.take i) = kF L 0 (all.take i) := lU _ _ fun j _ hj => by
    rw [hti] at hj;rw [hL,show Nat.beq j i = false from by rw [← eE];intro hb;have := aM hb;omega,kL]
  have e2 : kF L' (i + 1) (all.drop (i + 1)) = kF L (i + 1) (all.drop (i + 1)) := lU _ _ fun j hj _ => by
    rw [hL,show Nat.beq j i = false from by rw [← eE];intro hb;have := aM hb;omega,kL]
  have hLi : L' i = true := by rw [hL,eQ,rK]
  have hA : h ++ kF L 0 all = h ++ (kF L 0 (all.take i) ++ (List.replicate f.new.length .gone ++ kF L (i + 1) (all.drop (i + 1)))) := by rw [sL L,hi]
  have hB : h ++ kF L' 0 all = h ++ (kF L 0 (all.take i) ++ (f.new ++ kF L (i + 1) (all.drop (i + 1)))) := by rw [sL L',hLi,e1,e2]
  have hlen := nG L 0 (all.take i);refine ⟨by rw [iS];exact s.size,by rw [fT];exact s.defers.later l,s.cm,fun t x hx => ?_,fun j g t hg hj ht => ?_,?_,fun j g hg hj k hk => ?_⟩
  · rw [other (fun e => henv t x hx (jV.2 ⟨f,aJ hf,e⟩))];exact (s.env0 t x hx).later l
  · by_cases hji : j = i
    · subst hji;rw [hf] at hg;cases hg;rw [ht] at hd ⊢;have hlt : t < a.tmps.size := by rw [s.size];exact bC hd
      rw [uT hlt];exact p.val
    · rw [other (dst_ne hg hji ht)];have hjL : L j = true := by
        rw [hL] at hj;rcases iO.1 hj with hj | hj
        · exact hj
        · exact absurd (aM hj) hji
      exact (s.done j g t hg hjL ht).later l
  · have hs := s.hs;rw [hA] at hs;rw [hB];refine hs.fill p hn (by simp) (fun k hk => ?_) (fun j hj => ?_) (.inl (by omega))
    · have := XM (h ++ kF L 0 (all.take i)) f.new (List.replicate f.new.length .gone) (kF L (i + 1) (all.drop (i + 1))) (by simp) k (by rw [aB,hlen];omega)
      simpa only [aY] using this
    · rw [aE (by omega),aE (by omega),aG (by omega)]
      congr 1;omega
  · have hjne : j ≠ i := fun e => by rw [e,hLi] at hj;cases hj
    have hjL : L j = false := by
      rw [hL] at hj;exact (iB.1 hj).1
    have h1 := s.undone j g hg hjL k hk;rw [p.keep _ ?_];exact h1;have hjl : j < all.length := (aA.1 hg).1;have eg : all[j] = g := by rw [aC hjl] at hg;exact Option.some.inj hg
    have ef : all[i] = f := by rw [aC hil] at hf;exact Option.some.inj hf
    have mono : ∀ {u v : Nat},u < v → (hv : v ≤ all.length) → (hu : u < all.length) → mK (all.take u) + all[u].new.length ≤ mK (all.take v) := fun {u v} huv hv hu => by
      have e3 : all.take v = all.take u ++ (all[u] :: (all.take v).drop (u + 1)) := by
        have := cI u (all.take v);rw [IX,tQ (by omega),aO (by simp;omega)] at this
        rw [List.getElem_take] at this;exact this.symm
      rw [e3,M8,mK];omega
    rcases H6 hjne with h2 | h2
    · left;have := mono h2 (by omega) hjl
      rw [eg] at this;omega
    · right;have := mono h2 (by omega) hil
      rw [ef] at this;omega
theorem lF {ops : Array Oper} {pres : List (List Nat)} (hok : sU ops pres = true) {i : Nat} {o : Oper} (ho : ops[i]? = some o) : ∀ e,e ∈ o.after → Region.binds .any e = true → e.on < i := by
  intro e he hb;have hlt : i < ops.size := (aR.1 ho).1;have h := bD.1 hok i (by simpa using hlt)
  rw [ho] at h;simp only [aN,bD] at h;have := h.1 e (by simpa using he)
  simpa [hb] using this
theorem oX {ops : Array Oper} {pres : List (List Nat)} (hok : sU ops pres = true) {i : Nat} {o : Oper} {pre : List Nat} (ho : ops[i]? = some o) (hp : pres[i]? = some pre) : ∀ j,j ∈ pre → j < i ∧ ∃ e,e ∈ o.after ∧ Region.binds .any e = true ∧ (e.on = j ∨ j ∈ pres.getD e.on []) := by
  intro j hj;have hlt : i < ops.size := (aR.1 ho).1;have h := bD.1 hok i (by simpa using hlt)
  rw [ho] at h;simp only [hp,aN,bD] at h;have := h.2 j hj;simp only [decide_eq_true_eq,jE,aN,qC] at this;obtain ⟨h1,e,h2,h3,h4⟩ := this;refine ⟨h1,e,by simpa using h2,h3,?_⟩
  rcases h4 with h4 | ⟨x,h5,h6⟩
  · exact .inl (aM h4)
  · right;rw [aM h6];exact h5
theorem uB {ops : Array Oper} {pres : List (List Nat)} (hok : sU ops pres = true) {i : Nat} {o : Oper} (ho : ops[i]? = some o) (hp : pres.length ≤ i) : ∀ j,j < i → ∃ e,e ∈ o.after ∧ Region.binds .any e = true ∧ e.on = j := by
  intro j hj;have hlt : i < ops.size := (aR.1 ho).1;have h := bD.1 hok i (by simpa using hlt)
  rw [ho] at h;simp only [bU hp,aN,bD] at h;have := h.2 j (by simpa using hj)
  simp only [jE,aN] at this;obtain ⟨e,h2,h3,h4⟩ := this;exact ⟨e,by simpa using h2,h3,aM h4⟩
theorem qI {P : Program} {ops : Array Oper} {pres : List (List Nat)} {Q : Exit → Act → World → Prop} (hok : sU ops pres = true) : ∀ (r k fuel : Nat) (listed : Array Bool) (a : Act) (w : World),k + r = ops.size → pres.length ≤ k → r ≤ fuel → listed.size = ops.size → (∀ j,j < ops.size → listed.getD j false = decide (j < k)) →
    wpList P ops Q (ops.toList.drop k) a w → wpAny P .any ops Q fuel listed a w := by
  intro r
  induction r with
  | zero =>
    intro k fuel listed a w hk _ _ hsz hl h;have hk' : k = ops.size := by omega
    have hr : Region.ready .any ops listed = [] := by
      rw [xJ];intro i hi;obtain ⟨h1,o,ho,_⟩ := mem_ready.1 hi;have hlt : i < ops.size := (aR.1 ho).1;have := hl i hlt;have e : listed.getD i true = listed.getD i false := by simp [Array.getD,hsz,hlt]
      rw [e,this] at h1;simp at h1;omega
    rw [dH (by simp;omega)] at h
    cases fuel with
    | zero => exact ⟨hr,h⟩
    | succ fuel => exact ⟨fun _ => h,fun i hi => by rw [hr] at hi;cases hi⟩
  | succ r ih =>
    intro k fuel listed a w hk hp hf hsz hl h;obtain ⟨fuel,rfl⟩ : ∃ f,fuel = f + 1 := ⟨fuel - 1,by omega⟩
    have hlt : k < ops.size := by omega
    have ho : ops[k]? = some ops[k] := cT hlt
    have hin : k ∈ Region.ready .any ops listed := mem_ready.2 ⟨by
      have e : listed.getD k true = listed.getD k false := by simp [Array.getD,hsz,hlt]
      rw [e,hl k hlt];simp,ops[k],ho,fun e he hb => by
      have := lF hok ho e he hb
      rw [hl e.on (by omega)];simpa using this⟩
    refine ⟨(fun hr => by rw [hr] at hin;cases hin),fun i hi => ?_⟩
    obtain ⟨h1,o,hoi,hall⟩ := mem_ready.1 hi;have hil : i < ops.size := (aR.1 hoi).1;have hik : i = k := by
      have e : listed.getD i true = listed.getD i false := by simp [Array.getD,hsz,hil]
      rw [e,hl i hil] at h1;have h2 : k ≤ i := by simpa using h1
      rcases Nat.eq_or_lt_of_le h2 with h3 | h3
      · exact h3.symm
      · obtain ⟨e,he,hb,hon⟩ := uB hok hoi (by omega) k h3
        have := hall e he hb;rw [hon,hl k hlt] at this;simp at this
    subst hik;have hlist : ops.toList.drop i = ops[i] :: ops.toList.drop (i + 1) := by
      rw [aO (by simpa using hlt)];simp
    rw [hlist] at h;have : wpOp P ops Q i (wpList P ops Q (ops.toList.drop (i + 1))) a w := by
      unfold wpOp;rw [ho];exact h
    refine wpOp_mono (fun a' w' h' => ih (i + 1) fuel _ a' w' (by omega) (by omega) (by omega) (by simpa using hsz) (fun j hj => ?_) h') this
    by_cases hij : i = j
    · subst hij;simp [Array.getD,hsz,hlt]
    · rw [getD_set_ne false hij,hl j hj];simp;omega
theorem UW {P : Program} {n : Nat × Nat} {env : dD} {h : Hp} {KK : dD → Hp → Prop} {l : List Oper} (pres : List (List Nat)) (ds : List Nat) (hok : sU l.toArray pres = true) (hnd : ds.Nodup) (hds : (ds.all fun d => Nat.blt d n.1) = true) (hsz : Nat.ble pres.length l.length = true)
    (hv : DV P n l.toArray pres ds (eF ds env) h [] KK) : ∀ c ρ S a w QQ,oD n c ρ S env h a w → (∀ env' h' ρ' S' a' w',KK env' h' → oD n c ρ' S' env' h' a' w' → QQ Exit.normal a' w') →
    wpAny P .any l.toArray QQ l.toArray.size (Array.replicate l.toArray.size false) a { w with drawn := w.drawn + 1 } := by
  intro c ρ S a w QQ s hQ;obtain ⟨all,h1,h2,h3,h4⟩ := hv;simp only [List.nil_append,List.length_nil,bG,true_implies] at h1 h2 h3 h4;have hple : pres.length ≤ l.toArray.size := by simpa using bC hsz
  have henv : ∀ t x,look (eF ds env) t = some x → look env t = some x ∧ t ∉ jF all := fun t x hx => by rw [h2];exact kG hx
  -- the first operations,in whatever order
  have key : ∀ (fuel : Nat) (listed : Array Bool) (U : List Nat) (ρ : Pl) (S : Nat → Prop) (a : Act) (w : World),listed.size = l.toArray.size → (∀ j,j < l.toArray.size → listed.getD j false = false → j ∈ U) → U.length ≤ fuel → (∀ j,pres.length ≤ j → listed.getD j false = false) →
      (∀ (i : Nat) o,l.toArray[i]? = some o → listed.getD i false = true → ∀ e,e ∈ o.after → Region.binds .any e = true → listed.getD e.on false = true) →
      uK P n c (eF ds env) h all (fun j => listed.getD j false) ρ S a w → wpAny P .any l.toArray QQ fuel listed a w := by
    intro fuel
    induction fuel with
    | zero =>
      intro listed U ρ S a w hls hU hUl htail hcl st;have hU0 : U = [] := cF (by omega)
      subst hU0;have hall : ∀ j,j < l.toArray.size → listed.getD j false = true := fun j hj => by
        cases hb : listed.getD j false with
        | true => rfl
        | false => exact absurd (hU j hj hb) (by simp)
      have hpm : pres.length = l.toArray.size := by
        rcases gP pres.length l.toArray.size with h5 | h5
        · have := htail pres.length (aU _);rw [hall _ h5] at this;cases this
        · omega
      refine qI (k := pres.length) (r := 0) hok _ _ a w (by omega) (aU _) (aU _) hls (fun j hj => ?_) (h4 c ρ S a w QQ ?_ fun env' h' ρ' S' a' w' k s' => hQ env' h' ρ' S' a' w' k s')
      · rw [hall j hj];simp;omega
      · refine ⟨st.size,st.defers,fun t x hx => ?_,?_,st.cm⟩
        · rcases mJ hx with hx | ⟨j,f,h5,h6,h7,rfl⟩
          · exact st.env0 t x hx
          · exact st.done j f t h6 (hall j (by have := (aA.1 h6).1;omega)) h7
        · have := st.hs
          rwa [lU (L := fun j => listed.getD j false) (L' := fun _ => true) all 0 (fun j _ hj => hall j (by omega))] at this
    | succ fuel ih =>
      intro listed U ρ S a w hls hU hUl htail hcl st;by_cases hfl : ∀ j,j < pres.length → listed.getD j false = true
      · -- all of the first ones have come up
        refine qI (k := pres.length) (r := l.toArray.size - pres.length) hok _ _ a w (by omega) (aU _) ?_ hls (fun j hj => ?_) (h4 c ρ S a w QQ ?_ fun env' h' ρ' S' a' w' k s' => hQ env' h' ρ' S' a' w' k s')
        · have hsub : ∀ j,j ∈ List.range' pres.length (l.toArray.size - pres.length) → j ∈ U := fun j hj => by
            rw [VP] at hj;exact hU j (by omega) (htail j hj.1)
          have := (VO (s := pres.length) (n := l.toArray.size - pres.length)).length_le_of_subset hsub;rw [QE] at this;omega
        · by_cases hj' : j < pres.length
          · rw [hfl j hj'];simp [hj']
          · rw [htail j (by omega)];simp;omega
        · refine ⟨st.size,st.defers,fun t x hx => ?_,?_,st.cm⟩
          · rcases mJ hx with hx | ⟨j,f,h5,h6,h7,rfl⟩
            · exact st.env0 t x hx
            · exact st.done j f t h6 (hfl j (by have := (aA.1 h6).1;omega)) h7
          · have := st.hs
            rwa [lU (L := fun j => listed.getD j false) (L' := fun _ => true) all 0 (fun j _ hj => hfl j (by omega))] at this
      · obtain ⟨j0,hj0,hjf⟩ : ∃ j,j < pres.length ∧ listed.getD j false = false := by
          apply Classical.byContradiction;intro hc;apply hfl;intro j hj;cases hb : listed.getD j false with
          | true => rfl
          | false => exact absurd ⟨j,hj,hb⟩ hc
        -- something is ready
        have hex : Region.ready .any l.toArray listed ≠ [] := by
          have least : ∃ j,j < pres.length ∧ listed.getD j false = false ∧ ∀ k,k < j → listed.getD k false = true := by
            have : ∀ b j,j ≤ b → j < pres.length → listed.getD j false = false → ∃ j,j < pres.length ∧ listed.getD j false = false ∧ ∀ k,k < j → listed.getD k false = true := by
              intro b
              induction b with
              | zero => exact fun j hj h5 h6 => ⟨j,h5,h6,fun k hk => by omega⟩
              | succ b ihb =>
                intro j hj h5 h6;by_cases hk : ∃ k,k < j ∧ listed.getD k false = false
                · obtain ⟨k,hk1,hk2⟩ := hk;exact ihb k (by omega) (by omega) hk2
                · refine ⟨j,h5,h6,fun k hk' => ?_⟩
                  cases hb : listed.getD k false with
                  | true => rfl
                  | false => exact absurd ⟨k,hk',hb⟩ hk
            exact this j0 j0 (aU _) hj0 hjf
          obtain ⟨j,h5,h6,h7⟩ := least;intro he;have hlt : j < l.toArray.size := by omega
          have : j ∈ Region.ready .any l.toArray listed := mem_ready.2 ⟨by
            have e : listed.getD j true = listed.getD j false := by simp only [Array.getD,hls,hlt,dif_pos]
            rw [e,h6],_,cT hlt,fun e he hb => h7 _ (lF hok (cT hlt) e he hb)⟩
          rw [he] at this;cases this
        refine ⟨fun h5 => absurd h5 hex,fun i hi => ?_⟩
        obtain ⟨g1,o,ho,hall⟩ := mem_ready.1 hi;have hil : i < l.toArray.size := (aR.1 ho).1;have g1' : listed.getD i false = false := by
          have e : listed.getD i true = listed.getD i false := by simp only [Array.getD,hls,hil,dif_pos]
          rw [← e];exact g1
        have him : i < pres.length := by
          rcases gP i pres.length with h5 | h5
          · exact h5
          · obtain ⟨e,he,hb,hon⟩ := uB hok ho h5 j0 (by omega)
            have := hall e he hb;rw [hon,hjf] at this;cases this
        have hfi : all[i]? = some all[i] := aC (by omega)
        obtain ⟨pre,hpre⟩ : ∃ pre,pres[i]? = some pre := ⟨_,aC him⟩;obtain ⟨o',ho',hd',hg⟩ := h3 i all[i] pre hfi hpre;rw [ho] at ho';cases ho'
        -- its predecessors have come up
        have hprel : ∀ j,j ∈ pre → listed.getD j false = true := by
          have up : ∀ (b k : Nat) (p : List Nat),k ≤ b → pres[k]? = some p → (k = i ∨ listed.getD k false = true) → ∀ j,j ∈ p → listed.getD j false = true := by
            intro b
            induction b with
            | zero =>
              intro k p hk hp _ j hj;obtain ⟨ok,hok1⟩ : ∃ o,l.toArray[k]? = some o := ⟨_,cT (by have := (aA.1 hp).1;omega)⟩
              have := (oX hok hok1 hp j hj).1;omega
            | succ b ihb =>
              intro k p hk hp hki j hj;obtain ⟨ok,hok1⟩ : ∃ o,l.toArray[k]? = some o := ⟨_,cT (by have := (aA.1 hp).1;omega)⟩
              obtain ⟨_,e,he,hb,hor⟩ := oX hok hok1 hp j hj;have hle : listed.getD e.on false = true := by
                rcases hki with rfl | hki
                · rw [ho] at hok1;cases hok1;exact hall e he hb
                · exact hcl k ok hok1 hki e he hb
              rcases hor with hor | hor
              · rw [← hor];exact hle
              · have hon := lF hok hok1 e he hb;cases hpe : pres[e.on]? with
                | none => rw [aD,hpe] at hor;simp at hor
                | some p' =>
                  rw [aD,hpe] at hor;exact ihb e.on p' (by omega) hpe (.inr hle) j hor
          exact up i i pre (aU _) hpre (.inl rfl)
        have hpreP : Y9 ρ S (xH (eF ds env) (all.take i) pre) (h ++ kF (fun j => pre.any (Nat.beq j)) 0 (all.take i)) a w := by
          have sub : ∀ (k : Nat) b,(h ++ kF (fun j => pre.any (Nat.beq j)) 0 (all.take i))[k]? = some b → b ≠ .gone → (h ++ kF (fun j => listed.getD j false) 0 all)[k]? = some b := fun k b hb hgb => by
            by_cases hk : k < h.length
            · rw [aG hk] at hb ⊢;exact hb
            · rw [aE (by omega)] at hb ⊢
              have h5 := D6 (L' := fun j => listed.getD j false) _ _ _ _ (fun j hj => hprel j (nX.1 hj)) hb hgb;have h6 : kF (fun j => listed.getD j false) 0 all = kF (fun j => listed.getD j false) 0 (all.take i) ++ kF (fun j => listed.getD j false) (0 + (all.take i).length) (all.drop i) := by
                rw [← qK,cI]
              rw [h6,aG (aA.1 h5).1];exact h5
          refine ⟨fun t x hx => ?_,st.hs.rng,fun k b hb => ?_,fun k b p hb hgb hp => (st.hs.live k b p (sub k b hb hgb) hgb hp).2,st.hs.stab,st.hs.glob⟩
          · rcases mJ hx with hx | ⟨j,f,h5,h6,h7,rfl⟩
            · exact st.env0 t x hx
            · rw [bS] at h6;split at h6
              · exact st.done j f t h6 (hprel j h5) h7
              · cases h6
          · by_cases hgb : b = .gone
            · subst hgb;trivial
            · exact st.hs.blk k b (sub k b hb hgb)
        have hposl : (h ++ kF (fun j => pre.any (Nat.beq j)) 0 (all.take i)).length = h.length + mK (all.take i) := by rw [aB,nG]
        have hokd : J5 all[i].d n = true := by
          cases hdi : all[i].d with
          | none => rfl
          | some d =>
            have : d ∈ ds := by rw [← h2];exact jV.2 ⟨all[i],aH _,hdi⟩
            exact bD.1 hds d this
        -- on,iQ it
        have on : ∀ y ρ' S' w',L5 ρ ρ' S S' w w' (h.length + mK (all.take i)) all[i].new.length all[i].x all[i].new y → wpAny P .any l.toArray QQ fuel (listed.setIfInBounds i true) (a.put all[i].d y) w' := fun y ρ' S' w' p => by
          have hiU : i ∈ U := hU i hil g1';have hget : ∀ j,(listed.setIfInBounds i true).getD j false = (listed.getD j false || Nat.beq j i) := fun j => by
            by_cases hij : i = j
            · subst hij;rw [eQ,rK];simp only [Array.getD,P1,hls,hil,dif_pos];simp
            · rw [getD_set_ne false hij,show Nat.beq j i = false from by rw [← eE];intro hb;have := aM hb;omega,kL]
          refine ih (listed.setIfInBounds i true) (U.erase i) ρ' S' _ w' (by simpa using hls) (fun j hj hjl => ?_) (by rw [tK hiU];omega) (fun j hj => ?_) (fun k ok hok1 hkl e he hb => ?_) (st.step (L' := fun j => (listed.setIfInBounds i true).getD j false) hfi g1' hget p hokd (by rw [h2];exact hnd) (fun t x hx => (henv t x hx).2) s.hs.mle)
          · rw [hget] at hjl;obtain ⟨h5,h6⟩ := iB.1 hjl;have hne : j ≠ i := fun e => by rw [e,eQ] at h6;cases h6
            exact (yW hne).2 (hU j hj h5)
          · rw [hget,htail j hj,show Nat.beq j i = false from by rw [← eE];intro hb;have := aM hb;omega];rfl
          · rw [hget] at hkl ⊢;rcases iO.1 hkl with h5 | h5
            · rw [hcl k ok hok1 h5 e he hb];rfl
            · have := aM h5;subst this;rw [ho] at hok1;cases hok1;rw [hall e he hb];rfl
        have yv : ∀ {g t : Nat} {b : Bool},(l.toArray[g]?).bind (·.dst) = some t → look (xH (eF ds env) (all.take i) pre) t = some (.b b) → yielded l.toArray a.tmps g = some b := fun {g t b} h5 h6 => by
          have h7 := pZ (hpreP.env t _ h6);unfold yielded;rw [h5];have : a.tmps[t]? = some (.bool b) := by
            rw [cY] at h7;cases h8 : a.tmps[t]? with
            | none => rw [h8] at h7;simp [undef] at h7
            | some v => rw [h8] at h7;simp at h7;rw [h7]
          simp [this]
        have yvu : ∀ {g t : Nat},(l.toArray[g]?).bind (·.dst) = some t → look (xH (eF ds env) (all.take i) pre) t = some (.v undef) → yielded l.toArray a.tmps g = none := fun {g t} h5 h6 => by
          have h7 := pZ (hpreP.env t _ h6);unfold yielded;rw [h5];rw [cY] at h7;cases h8 : a.tmps[t]? with
          | none => simp [h8]
          | some v => rw [h8] at h7;simp at h7;simp [h8,h7,undef]
        unfold wpOp;rw [ho];simp only;rcases hg with ⟨x,new,hgu,hfs,hx,hn⟩ | ⟨g,want,t,hgu,h5,h6,hx,hn⟩
        · have hw : Region.wanted o (yielded l.toArray a.tmps) = true := by
            rcases hgu with hgu | ⟨g,want,t,hgu,h5,h6⟩
            · exact pD hgu
            · simp [Region.wanted,hgu,yv h5 h6]
          rw [if_pos hw];left;have := hfs ρ S a w hpreP (h ++ kF (fun j => pre.any (Nat.beq j)) 0 (all.take i)).length (fun j hj => by rw [hposl];exact st.undone i _ hfi g1' j hj)
          refine this (wpAny P .any l.toArray QQ fuel (listed.setIfInBounds i true)) QQ fun y ρ' S' w' p => ?_
          rw [hx,hn,hposl] at p;have := on y ρ' S' w' p;rw [← hd'] at this;exact this
        · have hw : Region.wanted o (yielded l.toArray a.tmps) = false := by
            rcases h6 with h6 | h6
            · simp [Region.wanted,hgu,yv h5 h6]
            · simp [Region.wanted,hgu,yvu h5 h6]
          rw [if_neg (by rw [hw];exact tU)]
          have := on undef ρ S w ⟨lM.refl _ _,rfl,fun _ _ => rfl,fun _ h => h,fun _ h => .inl h,fun k p hk1 hk2 => by rw [hn] at hk2;simp at hk2;omega,fun k k' p p' hk1 hk2 => by rw [hn] at hk2;simp at hk2;omega,by rw [hx];exact kY _,fun j b hb => by rw [hn] at hb;simp at hb⟩
          rw [← hd'] at this;exact this
  have hsize : l.toArray.size = l.length := by simp
  have hrep : ∀ j,(Array.replicate l.toArray.size false).getD j false = false := fun j => by
    simp only [Array.getD];split <;> simp
  refine key l.toArray.size _ (List.range l.toArray.size) ρ S a _ (by simp) (fun j hj _ => by simpa using hj) (by simp) (fun j _ => hrep j) (fun i o _ hi => by rw [hrep] at hi;cases hi) ?_
  have hseg : ∀ (r : List mI) (i : Nat),kF (fun _ => false) i r = List.replicate (mK r) .gone := by
    intro r
    induction r with
    | nil => intro i;rfl
    | cons f r ih => intro i;simp only [kF,ih,mK,wZ]
  have hL : (fun j => (Array.replicate l.toArray.size false).getD j false) = fun _ => false := funext hrep
  rw [hL];have l0 : hY ρ ρ S S w { w with drawn := w.drawn + 1 } := ⟨fun _ _ h => h,fun _ h => h,fun _ _ => rfl,fun _ _ _ _ _ h => h⟩
  refine ⟨s.size,s.defers.later l0,s.cm,fun t x hx => (s.env t x (kG hx).1).later l0,fun i f t _ hi => (by cases hi),?_,fun i f _ _ j _ => s.hs.dom _ (by omega)⟩
  rw [hseg];have ext : lM c.M c.w0 { w with drawn := w.drawn + 1 } := s.hs.ext.drew;have at_ : ∀ {k : Nat} {b : AB},(h ++ List.replicate (mK all) .gone)[k]? = some b → b ≠ .gone → h[k]? = some b := fun {k b} hb hg => by
    by_cases hk : k < h.length
    · rwa [aG hk] at hb
    · rw [aE (by omega),oR] at hb
      split at hb
      · cases hb;exact absurd rfl hg
      · cases hb
  refine ⟨fun k hk => s.hs.dom k (by simp at hk;omega),s.hs.rng,fun k b hb => ?_,fun k b p hb hg hp => s.hs.live k b p (at_ hb hg) hg hp,fun k k' b b' p p' hb hb' hg hg' hp hp' e => s.hs.inj k k' b b' p p' (at_ hb hg) (at_ hb' hg') hg hg' hp hp' e,s.hs.stab,ext,s.hs.st0,s.hs.st1,by simp;exact cQ s.hs.mle (gA _ _),s.hs.keep,s.hs.glob.later l0⟩
  by_cases hg : b = .gone
  · subst hg;trivial
  · exact RB.later l0 (fun _ _ _ => rfl) (s.hs.blk k b (at_ hb hg))
theorem qP {P : Program} {QQ : Exit → Act → World → Prop} {id : Nat} {l : List Oper} {a : Act} {w : World} {r : Option Nat} (hm : P.follows .mixedOrders = true) (hnd : mZ l = true) (h : wpAny P .any l.toArray (fun e a w => e = .normal ∧ QQ .normal a w) l.toArray.size (Array.replicate l.toArray.size false) a { w with drawn := w.drawn + 1 }) :
    (Code.region id l.toArray true).wpIn (rd r) 0 P QQ a w :=
  wpIn_mono (wpIn_region_any hm (C3 (fun e a w h => h.1) hnd h)) fun e a w he => by obtain ⟨rfl,h3⟩ := he;exact h3
theorem yY {env : dD} {all : List mI} : ∀ (s n : Nat), s + n = all.length → xH env all (List.range' s n) = (all.drop s).foldr (fun f e => fR f.d f.x e) env
  | s,0,h => by rw [dH (by omega)];rfl
  | s,n + 1,h => by
    have hlt : s < all.length := by omega
    rw [List.range'_succ,aO hlt];simp only [xH,aC hlt,List.foldr_cons];rw [yY (s + 1) n (by omega)]
theorem D5 : ∀ (i : Nat) (l : List mI), kF (fun _ => true) i l = l.flatMap (·.new)
  | _,[] => rfl
  | i,f :: r => by simp only [kF,gX,D5 (i + 1) r]
def G3 (env : dD) : List mI → dD
  | [] => env
  | f :: r => fR f.d f.x (G3 env r)
def HF : List mI → Hp
  | [] => []
  | f :: r => f.new ++ HF r
theorem G2 (env : dD) : ∀ l : List mI, G3 env l = l.foldr (fun f e => fR f.d f.x e) env
  | [] => rfl
  | f :: r => by simp only [G3,List.foldr_cons,G2 env r]
theorem P6 : ∀ l : List mI, HF l = l.flatMap (·.new)
  | [] => rfl
  | f :: r => by simp only [HF,gX,P6 r]
section
variable {P : Program} {n : Nat × Nat} {ops : Array Oper} {pres : List (List Nat)} {ds : List Nat} {env : dD} {h : Hp} {effs : List mI} {K : dD → Hp → Prop} {pre : List Nat}
variable {op : Op} {ty : TypeId} {pos : String} {af : Array Edge} {d : Option Nat}
theorem zO2 {u : AV} (hp : pres[effs.length]? = some pre) (ho : ops[effs.length]? = some ⟨d, op, ty, pos, af, none⟩) (hs : bJ P ⟨d, op, ty, pos, af, none⟩ (xH env effs pre) (h ++ kF (fun j => pre.any (Nat.beq j)) 0 effs) 0 (fun _ => u) (fun _ => []))
    (hk : DV P n ops pres ds env h (effs ++ [⟨d,u,[]⟩]) K) : DV P n ops pres ds env h effs K :=
  ED (f := ⟨d,u,[]⟩) rfl hp ⟨_,ho,rfl,.inl ⟨fun _ => u,fun _ => [],.inl rfl,hs,rfl,rfl⟩⟩ hk
theorem zK7 {u : AV} {g t : Nat} {want : Bool} (hp : pres[effs.length]? = some pre) (ho : ops[effs.length]? = some ⟨d, op, ty, pos, af, some (g, want)⟩) (hj : (ops[g]?).bind (·.dst) = some t) (hl : look (xH env effs pre) t = some (.b want)) (hs : bJ P ⟨d, op, ty, pos, af, none⟩ (xH env effs pre) (h ++ kF (fun j => pre.any (Nat.beq j)) 0 effs) 0 (fun _ => u) (fun _ => []))
    (hk : DV P n ops pres ds env h (effs ++ [⟨d,u,[]⟩]) K) : DV P n ops pres ds env h effs K :=
  ED (f := ⟨d,u,[]⟩) rfl hp ⟨_,ho,rfl,.inl ⟨fun _ => u,fun _ => [],.inr ⟨g,want,t,rfl,hj,hl⟩,hs,rfl,rfl⟩⟩ hk
theorem zK8 {g t : Nat} {want : Bool} (hp : pres[effs.length]? = some pre) (ho : ops[effs.length]? = some ⟨d, op, ty, pos, af, some (g, want)⟩) (hj : (ops[g]?).bind (·.dst) = some t) (hl : look (xH env effs pre) t = some (.b (!want)))
    (hk : DV P n ops pres ds env h (effs ++ [⟨d,.v undef,[]⟩]) K) : DV P n ops pres ds env h effs K :=
  ED rfl hp ⟨_,ho,rfl,.inr ⟨g,want,t,rfl,hj,.inl hl,rfl,rfl⟩⟩ hk
theorem zE1 {rest : List Oper} {env' : dD} {h' : Hp} (hl : effs.length = pres.length) (hd : jF effs = ds) (hr : ops.toList.drop pres.length = rest) (he : G3 env effs = env') (hh : h ++ HF effs = h')
    (hk : VC P n ops rest env' h' K) : DV P n ops pres ds env h effs K := by
  refine zE2 hl hd ?_;rw [← hl,yU,yY 0 effs.length (by omega),cP,← G2,D5,← P6,hl,hr,he,hh]
  exact hk
end
theorem YY {S S' : Nat → Prop} {w : World} {ρ : Pl} {x : AV} {y : Value} (hS : ∀ b,S b → S' b) (h : R S w x ρ y) : R S' w x ρ y :=
  lD hS (fun _ _ => rfl) x ρ ρ y (fun _ _ h => h) (fun _ _ _ _ _ h => h) h
theorem VI {S S' : Nat → Prop} {w : World} {ρ : Pl} {x : List AV} {y : List Value} (hS : ∀ b,S b → S' b) (h : RL S w x ρ y) : RL S' w x ρ y :=
  lL hS (fun _ _ => rfl) x ρ ρ y (fun _ _ h => h) (fun _ _ _ _ _ h => h) h
theorem G0 {S : Nat → Prop} {w : World} {ρ : Pl} {k sz : Nat} {es : List (List AV)} (hi : AV.idfL es.flatten = true) (hb : RB S w ρ (ρ k) (.arr es sz)) {y : Value} (hy : R S w (.sl k 0 es.length sz) ρ y) : R (fun c => S c ∨ ∃ o,ρ k = some (c,o)) w (.rowE es sz) ρ y := by
  simp only [RB] at hb;obtain ⟨hl,h0,hb⟩ := hb;simp only [R] at hy ⊢;obtain ⟨a,cap,rfl,hcm,hc⟩ := hy;rcases hc with ⟨h1,rfl⟩ | ⟨b,o,h5,rfl,h7,h8⟩
  · exact ⟨a,0,rfl,by omega,fun _ => rfl,hcm,eB hl,.inl h1⟩
  · refine ⟨_,cap,rfl,h7,(fun e => by cases e),hcm,eB hl,?_⟩
    rcases hb with ⟨rfl,_⟩ | ⟨b',o',ys,g1,g2,g3⟩
    · exact .inl rfl
    · rw [h5] at g1;cases g1;exact .inr ⟨b,o,ys,by simp,.inr ⟨o,h5⟩,g2.lies,VI (fun _ h => .inl h) (tJ ρ _ _ _ hi g3)⟩
theorem HS.freeze {c : oU} {ρ : Pl} {S : Nat → Prop} {h : Hp} {w : World} {k sz : Nat} {es : List (List AV)} (s : HS c ρ S h w) (hk : h[k]? = some (.arr es sz)) : HS c ρ (fun b => S b ∨ ∃ o,ρ k = some (b,o)) (h.set k .gone) w := by
  have get : ∀ {j : Nat} {b : AB},(h.set k .gone)[j]? = some b → b ≠ .gone → j ≠ k ∧ h[j]? = some b := fun {j b} hj hg => by
    rw [cK] at hj;split at hj
    · split at hj
      · cases hj;exact absurd rfl hg
      · cases hj
    · rename_i e;exact ⟨fun e' => e e'.symm,hj⟩
  have l : hY ρ ρ S (fun b => S b ∨ ∃ o,ρ k = some (b,o)) w w := ⟨fun _ _ h => h,fun _ h => .inl h,fun _ _ => rfl,fun _ _ _ _ _ h => h⟩
  refine ⟨fun j hj => s.dom j (by simpa using hj),s.rng,fun j b hb => ?_,fun j b p hb hg hp => ?_,fun j j' b b' p p' hb hb' hg hg' hp hp' e => s.inj j j' b b' p p' (get hb hg).2 (get hb' hg').2 hg hg' hp hp' e,fun b hb => ?_,s.ext,fun b hb => .inl (s.st0 b hb),fun b hb => ?_,by simpa using s.mle,s.keep,s.glob.st (fun b hb => .inl hb)⟩
  · by_cases hg : b = .gone
    · subst hg;trivial
    · exact RB.later l (fun _ _ _ => rfl) (s.blk j b (get hb hg).2)
  · obtain ⟨h1,h2⟩ := s.live j b p (get hb hg).2 hg hp;refine ⟨h1,fun hs => ?_⟩
    rcases hs with hs | ⟨o,ho⟩
    · exact h2 hs
    · exact (get hb hg).1 (s.inj j k b _ p _ (get hb hg).2 hk hg (by simp) hp ho rfl)
  · rcases hb with hb | ⟨o,ho⟩
    · exact s.stab b hb
    · exact s.rng k _ ho
  · rcases hb with hb | ⟨o,ho⟩
    · exact s.st1 b hb
    · exact .inr (s.live k _ _ hk (by simp) ho).1
theorem oD.freeze {n : Nat × Nat} {c : oU} {ρ : Pl} {S : Nat → Prop} {env : dD} {h : Hp} {a : Act} {w : World} {t k len sz : Nat} {es : List (List AV)} (s : oD n c ρ S env h a w) (ht : look env t = some (.sl k 0 len sz)) (hk : h[k]? = some (.arr es sz)) (hn : len = es.length) (hi : AV.idfL es.flatten = true) :
    oD n c ρ (fun b => S b ∨ ∃ o,ρ k = some (b,o)) ((t,.rowE es sz) :: env) (h.set k .gone) a w := by
  refine ⟨s.size,s.defers.st (fun _ h => .inl h),fun t' x hx => ?_,s.hs.freeze hk,s.cm⟩
  rw [gL] at hx;split at hx
  · rename_i e;subst e;cases hx;have := s.env t _ ht;rw [hn] at this;exact G0 hi (s.hs.blk k _ hk) this
  · exact YY (fun _ h => .inl h) (s.env t' x hx)
section
variable {P : Program} {n : Nat × Nat} {ops : Array Oper} {env : dD} {h : Hp} {K : dD → Hp → Prop} {rest : List Oper} {Q : Exit → dD → Hp → Prop} {code : Code}
theorem xN (t : Nat) {k len sz : Nat} {es : List (List AV)} (ht : look env t = some (.sl k 0 len sz)) (hk : h[k]? = some (.arr es sz)) (hn : len = es.length) (hi : AV.idfL es.flatten = true) (hv : VC P n ops rest ((t,.rowE es sz) :: env) (h.set k .gone) K) : VC P n ops rest env h K :=
  fun c ρ S a w Q s hQ => hv c ρ _ a w Q (s.freeze ht hk hn hi) hQ
theorem L2 (t : Nat) {k len sz : Nat} {es : List (List AV)} (ht : look env t = some (.sl k 0 len sz)) (hk : h[k]? = some (.arr es sz)) (hn : len = es.length) (hi : AV.idfL es.flatten = true) (hv : AW P n code ((t,.rowE es sz) :: env) (h.set k .gone) Q) : AW P n code env h Q :=
  fun c ρ S a w QQ s hQ => hv c ρ _ a w QQ (s.freeze ht hk hn hi) hQ
theorem HS.none {c : oU} {ρ : Pl} {S : Nat → Prop} {h : Hp} {w : World} (s : HS c ρ S h w) (hm : c.m = 0) : HS c (fun _ => none) S [] w :=
  ⟨fun _ _ => rfl,(fun _ _ h => by cases h),(fun _ _ hb => by simp at hb),(fun _ _ _ hb => by simp at hb),(fun _ _ _ _ _ _ hb => by simp at hb),s.stab,s.ext,s.st0,s.st1,(by rw [hm];exact bG _),(fun _ hk => by omega),s.glob⟩
theorem QA {f : FuncId} {args : List AV} {es : List (List AV)} {len sz : Nat} (hn : len = es.length) (hi : AV.idfL es.flatten = true) (h : bI P f args [] (.sl 0 0 len sz) [.arr es sz]) : bI P f args [] (.rowE es sz) [] := by
  refine ⟨h.1,fun ρ S w vs hs ha => (h.2 ρ S w vs hs ha).mono ?_⟩;rintro e w' ⟨y,ρ',S',rfl,h2,h3⟩;rw [hn] at h3;exact ⟨y,_,_,rfl,(h2.freeze (k := 0) rfl).none rfl,H0 ρ' _ _ _ rfl (G0 hi (h2.blk 0 _ rfl) h3)⟩
end
theorem bJ.more {P : Program} {o : Oper} {env env' : dD} {h : Hp} {m : Nat} {x : Nat → AV} {new : Nat → List AB} (hs : bJ P o env h m x new) (he : ∀ t u,look env t = some u → look env' t = some u) : bJ P o env' h m x new :=
  fun ρ S a w p => hs ρ S a w ⟨fun t u hu => p.env t u (he t u hu),p.rng,p.blk,p.live,p.stab,p.glob⟩
def xC (env : dD) : List mI → dD
  | [] => env
  | f :: r => xC (fR f.d f.x env) r
theorem A9 (f : mI) : ∀ (l : List mI) (env : dD), xC env (l ++ [f]) = fR f.d f.x (xC env l)
  | [],_ => rfl
  | g :: r,env => by simp only [List.cons_append,xC,A9 f r]
def oZ : Nat → List mI → List (Nat × Hp)
  | _,[] => []
  | i, f :: r => match f.new with
    | [] => oZ (i + 1) r
    | b :: q => (i,b :: q) :: oZ (i + 1) r
def oP (pre : List Nat) : List (Nat × Hp) → Hp
  | [] => []
  | (i,l) :: r => (match pre.any (Nat.beq i) with | true => l | false => List.replicate l.length .gone) ++ oP pre r
theorem mL (pre : List Nat) : ∀ (i : Nat) (l : List mI), kF (fun j => pre.any (Nat.beq j)) i l = oP pre (oZ i l)
  | _,[] => rfl
  | i,f :: r => by
    simp only [kF,oZ];cases hf : f.new with
    | nil => simp only [List.length_nil,List.replicate_zero] <;> (cases pre.any (Nat.beq i) <;> simpa using mL pre (i + 1) r)
    | cons b q => simp only [oP];rw [mL pre (i + 1) r];try rfl
theorem xB {f : mI} (hf : f.new = []) : ∀ (l : List mI) (i : Nat), oZ i (l ++ [f]) = oZ i l
  | [],i => by simp [oZ,hf]
  | g :: r,i => by
    simp only [List.cons_append,oZ];rw [xB hf r (i + 1)]
theorem M6 {f : mI} (hf : f.new ≠ []) : ∀ (l : List mI) (i : Nat), oZ i (l ++ [f]) = oZ i l ++ [(i + l.length, f.new)]
  | [],i => by
    simp only [List.nil_append,oZ,List.length_nil,Nat.add_zero];cases h : f.new with
    | nil => exact absurd h hf
    | cons b q => rfl
  | g :: r,i => by
    simp only [List.cons_append,oZ];rw [M6 hf r (i + 1)];have : i + (g :: r).length = i + 1 + r.length := by simp;omega
    rw [this];cases g.new <;> rfl
theorem zE : ∀ (l : List mI) (i : Nat), HF l = ((oZ i l).map (·.2)).flatten
  | [],_ => rfl
  | f :: r,i => by
    simp only [HF,oZ];rw [zE r (i + 1)];cases hf : f.new <;> simp
def nY : List (Nat × Hp) → Hp
  | [] => []
  | (_,l) :: r => l ++ nY r
theorem wV : ∀ l : List (Nat × Hp), nY l = (l.map (·.2)).flatten
  | [] => rfl
  | (_,l) :: r => by simp only [nY,List.map_cons,cH,wV r]
def lC (ops : List Oper) (pres : List (List Nat)) (ds : List Nat) (bads : List (List Nat)) (n : Nat) : Bool :=
  sU ops.toArray pres && decide ds.Nodup && ds.all (fun d => Nat.blt d n) && Nat.ble pres.length ops.length &&
  decide ((ops.take pres.length).filterMap (·.dst) = ds) &&
  (List.range pres.length).all fun i => (List.range i).all fun j => (pres.getD i []).any (Nat.beq j) || (match ops[j]? with
    | some o => (match o.dst with | some d => (bads.getD i []).any (Nat.beq d) | none => true)
    | none => true)
section
variable {P : Program} {n : Nat × Nat} {ops : List Oper} {pres : List (List Nat)} {ds : List Nat} {bads : List (List Nat)} {env : dD} {h : Hp} {K : dD → Hp → Prop} {pre bad : List Nat}
structure B9 (ops : List Oper) (env : dD) (i : Nat) (cur : dD) (objs : List (Nat × Hp)) (effs : List mI) : Prop where
  len : effs.length = i
  cur : cur = xC env effs
  objs : objs = oZ 0 effs
  dst : ∀ (j : Nat) f,effs[j]? = some f → ∃ o,ops[j]? = some o ∧ o.dst = f.d
def DW (P : Program) (n : Nat × Nat) (ops : List Oper) (pres : List (List Nat)) (ds : List Nat) (bads : List (List Nat)) (env : dD) (h : Hp) (i : Nat) (cur : dD) (objs : List (Nat × Hp)) (K : dD → Hp → Prop) : Prop :=
  lC ops pres ds bads n.1 = true → (∀ t,t ∈ ds → look env t = none) → ∀ effs,B9 ops env i cur objs effs → DV P n ops.toArray pres ds env h effs K
theorem CQ {KK : dD → Hp → Prop} {l : List Oper} (pres : List (List Nat)) (ds : List Nat) (bads : List (List Nat)) (hok : lC l pres ds bads n.1 = true)
    (hv : DW P n l pres ds bads (eF ds env) h 0 (eF ds env) [] KK) : ∀ c ρ S a w QQ,oD n c ρ S env h a w → (∀ env' h' ρ' S' a' w',KK env' h' → oD n c ρ' S' env' h' a' w' → QQ Exit.normal a' w') →
    wpAny P .any l.toArray QQ l.toArray.size (Array.replicate l.toArray.size false) a { w with drawn := w.drawn + 1 } := by
  have hok' := hok;simp only [lC,aN,decide_eq_true_eq] at hok';obtain ⟨⟨⟨⟨⟨h1,h2⟩,h3⟩,h4⟩,h5⟩,h6⟩ := hok';refine UW pres ds h1 h2 h3 h4 (hv hok (fun t ht => ?_) [] ⟨rfl,rfl,rfl,fun j f hf => by simp at hf⟩)
  cases hl : look (eF ds env) t with
  | none => rfl
  | some x => exact absurd ht (kG hl).2
theorem US {Q : Exit → dD → Hp → Prop} {id : Nat} {l : List Oper} (pres : List (List Nat)) (ds : List Nat) (bads : List (List Nat)) (hm : P.follows .mixedOrders = true) (hok : lC l pres ds bads n.1 = true)
    (hv : DW P n l pres ds bads (eF ds env) h 0 (eF ds env) [] (fun v h => Q .normal v h)) (hndf : mZ l = true := by rfl) : AW P n (.region id l.toArray true) env h Q :=
  fun c ρ S a w QQ s hQ => qP hm hndf (CQ pres ds bads hok hv c ρ S a w (fun e a w => e = .normal ∧ QQ .normal a w) s fun env' h' ρ' S' a' w' k s' => ⟨rfl,hQ .normal env' h' ρ' S' a' w' k s'⟩)
theorem B0 : ∀ {effs : List mI} {env : dD} {t : Nat} {x : AV}, look (xC env effs) t = some x → (look env t = some x ∧ ∀ (j : Nat) f, effs[j]? = some f → f.d ≠ some t) ∨ ∃ (j : Nat) (f : mI), effs[j]? = some f ∧ f.d = some t ∧ f.x = x
  | [],env,t,x,h => .inl ⟨h,fun j f hf => by simp at hf⟩
  | f :: r,env,t,x,h => by
    rcases B0 (effs := r) h with ⟨h1,h2⟩ | ⟨j,g,h1,h2,h3⟩
    · cases hd : f.d with
      | none =>
        rw [hd] at h1;refine .inl ⟨h1,fun j g hg => ?_⟩
        cases j with
        | zero => simp at hg;subst hg;rw [hd];simp
        | succ j => exact h2 j g (by simpa using hg)
      | some d =>
        rw [hd] at h1;simp only [fR,gL] at h1;split at h1
        · rename_i e;subst e;cases h1;exact .inr ⟨0,f,rfl,hd,rfl⟩
        · rename_i e;refine .inl ⟨h1,fun j g hg => ?_⟩
          cases j with
          | zero => simp at hg;subst hg;rw [hd];simpa using e
          | succ j => exact h2 j g (by simpa using hg)
    · exact .inr ⟨j + 1,g,by simpa using h1,h2,h3⟩
theorem C9 {env : dD} {effs : List mI} {t : Nat} : ∀ {pre : List Nat}, (∀ (j : Nat) f, effs[j]? = some f → f.d ≠ some t) → look (xH env effs pre) t = look env t
  | [],_ => rfl
  | k :: r,hn => by
    simp only [xH];cases hk : effs[k]? with
    | none => exact C9 hn
    | some f =>
      have := hn k f hk;simp only;cases hd : f.d with
      | none => exact C9 hn
      | some d =>
        rw [hd] at this;simp only [fR,gL];rw [if_neg (fun e => this (by rw [e])),C9 hn]
theorem P4 {env : dD} {effs : List mI} {t j : Nat} {f : mI} (hf : effs[j]? = some f) (hd : f.d = some t) (hu : ∀ (k : Nat) g, effs[k]? = some g → g.d = some t → k = j) : ∀ {pre : List Nat}, j ∈ pre → look (xH env effs pre) t = some f.x
  | k :: r,hj => by
    simp only [xH];by_cases hkj : k = j
    · subst hkj;rw [hf];simp only [hd,fR,gL,if_pos]
    · have hr : j ∈ r := by
        rcases aT.1 hj with e | e
        · exact absurd e.symm hkj
        · exact e
      cases hk : effs[k]? with
      | none => exact P4 hf hd hu hr
      | some g =>
        simp only;cases hgd : g.d with
        | none => exact P4 hf hd hu hr
        | some d =>
          simp only [fR,gL];rw [if_neg (fun e => hkj (hu k g hk (by rw [hgd,e])))]
          exact P4 hf hd hu hr
theorem xD {α β : Type} {f : α → Option β} : ∀ {l : List α}, (l.filterMap f).Nodup → ∀ {i j : Nat} {a b : α} {x : β}, l[i]? = some a → l[j]? = some b → f a = some x → f b = some x → i = j
  | [],_,i,j,a,b,x,hi,_,_,_ => by simp at hi
  | c :: r,hnd,i,j,a,b,x,hi,hj,ha,hb => by
    have mem : ∀ {k : Nat} {u : α},r[k]? = some u → f u = some x → x ∈ r.filterMap f := fun hk hu => jV.2 ⟨_,aJ hk,hu⟩
    have hr : (r.filterMap f).Nodup := by
      cases hc : f c with
      | none => rwa [List.filterMap_cons_none hc] at hnd
      | some y => rw [oB hc] at hnd;exact (aP.1 hnd).2
    cases i with
    | zero =>
      cases j with
      | zero => rfl
      | succ j =>
        simp at hi hj;subst hi;rw [oB ha] at hnd;exact absurd (mem hj hb) (aP.1 hnd).1
    | succ i =>
      cases j with
      | zero =>
        simp at hi hj;subst hj;rw [oB hb] at hnd;exact absurd (mem hi ha) (aP.1 hnd).1
      | succ j => exact congrArg (· + 1) (xD hr (a := a) (b := b) (i := i) (j := j) (by simpa using hi) (by simpa using hj) ha hb)
theorem B9.see {i : Nat} {cur : dD} {objs : List (Nat × Hp)} {effs : List mI} (hok : lC ops pres ds bads n.1 = true) (g : B9 ops env i cur objs effs) (hp : pres[i]? = some pre) (hb : bads[i]? = some bad) : ∀ t x,look (eF bad cur) t = some x → look (xH env effs pre) t = some x := by
  intro t x hx;simp only [lC,aN,decide_eq_true_eq] at hok;obtain ⟨⟨⟨⟨⟨h1,h2⟩,h3⟩,h4⟩,h5⟩,h6⟩ := hok;obtain ⟨h7,h8⟩ := kG hx;rw [g.cur] at h7;have hi : i < pres.length := (aA.1 hp).1;rcases B0 h7 with ⟨h9,h10⟩ | ⟨j,f,h9,h10,h11⟩
  · rw [C9 h10];exact h9
  · have hji : j < i := by rw [← g.len];exact (aA.1 h9).1
    obtain ⟨o,ho,hod⟩ := g.dst j f h9;have huniq : ∀ (k : Nat) q,effs[k]? = some q → q.d = some t → k = j := fun k q hk hq => by
      obtain ⟨o',ho',hod'⟩ := g.dst k q hk;have hki : k < i := by rw [← g.len];exact (aA.1 hk).1
      rw [← h5] at h2;refine xD h2 (i := k) (j := j) (a := o') (b := o) (x := t) ?_ ?_ (by rw [hod',hq]) (by rw [hod,h10])
      · rw [bS,if_pos (by omega)];exact ho'
      · rw [bS,if_pos (by omega)];exact ho
    rw [← h11];refine P4 h9 h10 huniq ?_;have h12 := bD.1 (bD.1 h6 i (by simpa using hi)) j (by simpa using hji)
    rcases iO.1 h12 with h12 | h12
    · rw [aD,hp] at h12;exact nX.1 h12
    · rw [ho] at h12;simp only [hod,h10] at h12;rw [aD,hb] at h12;exact absurd (nX.1 h12) h8
section
variable {op : Op} {ty : TypeId} {pos : String} {af : Array Edge} {d : Option Nat} {i : Nat} {cur : dD} {objs : List (Nat × Hp)}
theorem B9.snoc {effs : List mI} {f : mI} {o : Oper} (g : B9 ops env i cur objs effs) (ho : ops[i]? = some o) (hd : o.dst = f.d) (hf : f.new = []) : B9 ops env (i + 1) (fR f.d f.x cur) objs (effs ++ [f]) := by
  refine ⟨by simp [g.len],by rw [A9,g.cur],by rw [xB hf];exact g.objs,fun j q hj => ?_⟩
  by_cases hlt : j < effs.length
  · rw [aG hlt] at hj;exact g.dst j q hj
  · have hle := (aA.1 hj).1;have hji : j = i := by have := g.len;simp at hle;omega
    subst hji;rw [aE (by omega),g.len] at hj
    simp at hj;subst hj;exact ⟨o,ho,hd⟩
theorem B9.snoc' {effs : List mI} {f : mI} {o : Oper} (g : B9 ops env i cur objs effs) (ho : ops[i]? = some o) (hd : o.dst = f.d) (hf : f.new ≠ []) : B9 ops env (i + 1) (fR f.d f.x cur) (objs ++ [(i,f.new)]) (effs ++ [f]) := by
  refine ⟨by simp [g.len],by rw [A9,g.cur],by rw [M6 hf,g.len,Nat.zero_add,g.objs],fun j q hj => ?_⟩
  by_cases hlt : j < effs.length
  · rw [aG hlt] at hj;exact g.dst j q hj
  · have hle := (aA.1 hj).1;have hji : j = i := by have := g.len;simp at hle;omega
    subst hji;rw [aE (by omega),g.len] at hj
    simp at hj;subst hj;exact ⟨o,ho,hd⟩
theorem zO1 {dd : Nat} {u : AV} (ho : ops[i]? = some ⟨some dd, op, ty, pos, af, none⟩) (hp : pres[i]? = some pre) (hb : bads[i]? = some bad) (hs : bJ P ⟨some dd, op, ty, pos, af, none⟩ (eF bad cur) (h ++ oP pre objs) 0 (fun _ => u) (fun _ => []))
    (hk : DW P n ops pres ds bads env h (i + 1) ((dd,u) :: cur) objs K) : DW P n ops pres ds bads env h i cur objs K := by
  intro hok hen effs g;refine zO2 (u := u) (d := some dd) (by rw [g.len];exact hp) (by rw [g.len];simpa using ho) (by rw [mL,← g.objs];exact hs.more (g.see hok hp hb)) (hk hok hen _ (g.snoc (f := ⟨some dd,u,[]⟩) ho rfl rfl))
theorem zK5 {dd : Nat} {u : AV} {gd t : Nat} {want : Bool} (ho : ops[i]? = some ⟨some dd, op, ty, pos, af, some (gd, want)⟩) (hp : pres[i]? = some pre) (hb : bads[i]? = some bad) (hj : (ops[gd]?).bind (·.dst) = some t) (hl : look (eF bad cur) t = some (.b want)) (hs : bJ P ⟨some dd, op, ty, pos, af, none⟩ (eF bad cur) (h ++ oP pre objs) 0 (fun _ => u) (fun _ => []))
    (hk : DW P n ops pres ds bads env h (i + 1) ((dd,u) :: cur) objs K) : DW P n ops pres ds bads env h i cur objs K := by
  intro hok hen effs g;refine zK7 (u := u) (d := some dd) (by rw [g.len];exact hp) (by rw [g.len];simpa using ho) (by simpa using hj) (g.see hok hp hb _ _ hl) (by rw [mL,← g.objs];exact hs.more (g.see hok hp hb)) (hk hok hen _ (g.snoc (f := ⟨some dd,u,[]⟩) ho rfl rfl))
theorem zK6 {dd : Nat} {gd t : Nat} {want : Bool} (ho : ops[i]? = some ⟨some dd, op, ty, pos, af, some (gd, want)⟩) (hp : pres[i]? = some pre) (hb : bads[i]? = some bad) (hj : (ops[gd]?).bind (·.dst) = some t) (hl : look (eF bad cur) t = some (.b (!want)))
    (hk : DW P n ops pres ds bads env h (i + 1) ((dd,.v undef) :: cur) objs K) : DW P n ops pres ds bads env h i cur objs K := by
  intro hok hen effs g;refine zK8 (d := some dd) (by rw [g.len];exact hp) (by rw [g.len];simpa using ho) (by simpa using hj) (g.see hok hp hb _ _ hl) (hk hok hen _ (g.snoc (f := ⟨some dd,.v undef,[]⟩) ho rfl rfl))
theorem dG {dd : Nat} {gd t : Nat} {want : Bool} (hk : DW P n ops pres ds bads env h (i + 1) ((dd,.v undef) :: cur) objs K) (ho : ops[i]? = some ⟨some dd,op,ty,pos,af,some (gd,want)⟩ := by rfl) (hp : pres[i]? = some pre := by rfl) (hb : bads[i]? = some bad := by rfl) (hj : (ops[gd]?).bind (·.dst) = some t := by rfl) (hl : look (eF bad cur) t = some (.b (!want)) := by rfl) : DW P n ops pres ds bads env h i cur objs K := zK6 ho hp hb hj hl hk
theorem dV {dd : Nat} {u : AV} (e : (ops[i]?,pres[i]?,bads[i]?) = (some ⟨some dd,op,ty,pos,af,none⟩,some pre,some bad)) (hs : bJ P ⟨some dd,op,ty,pos,af,none⟩ (eF bad cur) (h ++ oP pre objs) 0 (fun _ => u) (fun _ => [])) (hk : DW P n ops pres ds bads env h (i + 1) ((dd,u) :: cur) objs K) : DW P n ops pres ds bads env h i cur objs K :=
  zO1 (congrArg (·.1) e) (congrArg (·.2.1) e) (congrArg (·.2.2) e) hs hk
theorem dT {dd : Nat} {u : AV} {gd t : Nat} {want : Bool} (e : (ops[i]?,pres[i]?,bads[i]?,(ops[gd]?).bind (·.dst),look (eF bad cur) t) = (some ⟨some dd,op,ty,pos,af,some (gd,want)⟩,some pre,some bad,some t,some (.b want))) (hs : bJ P ⟨some dd,op,ty,pos,af,none⟩ (eF bad cur) (h ++ oP pre objs) 0 (fun _ => u) (fun _ => [])) (hk : DW P n ops pres ds bads env h (i + 1) ((dd,u) :: cur) objs K) : DW P n ops pres ds bads env h i cur objs K :=
  zK5 (congrArg (·.1) e) (congrArg (·.2.1) e) (congrArg (·.2.2.1) e) (congrArg (·.2.2.2.1) e) (congrArg (·.2.2.2.2) e) hs hk
theorem dM {dd : Nat} {x : Operand} {u : AV} (hk : DW P n ops pres ds bads env h (i + 1) ((dd,u) :: cur) objs K) (e : (ops[i]?,pres[i]?,bads[i]?) = (some ⟨some dd,.move x,ty,pos,af,none⟩,some pre,some bad) := by rfl) (hx : evu (eF bad cur) x = some u := by rfl) : DW P n ops pres ds bads env h i cur objs K := dV e (fD hx) hk
theorem dL (T : oA P) {dd t off : Nat} {ii : TI} {cs : List AV} {x : Operand} {u v : AV} (hk : DW P n ops pres ds bads env h (i + 1) ((dd,u) :: cur) objs K) (e : (ops[i]?,pres[i]?,bads[i]?) = (some ⟨some dd,.load t x,ty,pos,af,none⟩,some pre,some bad) := by rfl) (hx : evu (eF bad cur) x = some v := by rfl) (ht : T.ti t = some ii := by rfl) (hb : iQ (h ++ oP pre objs) v = some (cs,off) := by rfl) (hz : oI ii cs off = some u := by rfl) : DW P n ops pres ds bads env h i cur objs K := dV e (aX T hx ht hb hz) hk
theorem dF (T : oA P) {dd t f kf : Nat} {x : Operand} {u v : AV} (hk : DW P n ops pres ds bads env h (i + 1) ((dd,u) :: cur) objs K) (e : (ops[i]?,pres[i]?,bads[i]?) = (some ⟨some dd,.fieldAddr t x f,ty,pos,af,none⟩,some pre,some bad) := by rfl) (hx : evu (eF bad cur) x = some v := by rfl) (hf : T.field t f = some kf := by rfl) (hz : v.plus kf = some u := by rfl) : DW P n ops pres ds bads env h i cur objs K := dV e (eA T hx hf hz) hk
theorem tM {dd gd tg : Nat} {want : Bool} {x : Operand} {u : AV} (hk : DW P n ops pres ds bads env h (i + 1) ((dd,u) :: cur) objs K) (e : (ops[i]?,pres[i]?,bads[i]?,(ops[gd]?).bind (·.dst),look (eF bad cur) tg) = (some ⟨some dd,.move x,ty,pos,af,some (gd,want)⟩,some pre,some bad,some tg,some (.b want)) := by rfl) (hx : evu (eF bad cur) x = some u := by rfl) : DW P n ops pres ds bads env h i cur objs K := dT e (fD hx) hk
theorem tL (T : oA P) {dd gd tg t off : Nat} {want : Bool} {ii : TI} {cs : List AV} {x : Operand} {u v : AV} (hk : DW P n ops pres ds bads env h (i + 1) ((dd,u) :: cur) objs K) (e : (ops[i]?,pres[i]?,bads[i]?,(ops[gd]?).bind (·.dst),look (eF bad cur) tg) = (some ⟨some dd,.load t x,ty,pos,af,some (gd,want)⟩,some pre,some bad,some tg,some (.b want)) := by rfl) (hx : evu (eF bad cur) x = some v := by rfl) (ht : T.ti t = some ii := by rfl) (hb : iQ (h ++ oP pre objs) v = some (cs,off) := by rfl) (hz : oI ii cs off = some u := by rfl) : DW P n ops pres ds bads env h i cur objs K := dT e (aX T hx ht hb hz) hk
theorem tF (T : oA P) {dd gd tg t f kf : Nat} {want : Bool} {x : Operand} {u v : AV} (hk : DW P n ops pres ds bads env h (i + 1) ((dd,u) :: cur) objs K) (e : (ops[i]?,pres[i]?,bads[i]?,(ops[gd]?).bind (·.dst),look (eF bad cur) tg) = (some ⟨some dd,.fieldAddr t x f,ty,pos,af,some (gd,want)⟩,some pre,some bad,some tg,some (.b want)) := by rfl) (hx : evu (eF bad cur) x = some v := by rfl) (hf : T.field t f = some kf := by rfl) (hz : v.plus kf = some u := by rfl) : DW P n ops pres ds bads env h i cur objs K := dT e (eA T hx hf hz) hk
theorem dN {dd : Nat} {x : Operand} {u : AV} (e : (ops[i]?,pres[i]?,bads[i]?,evu (eF bad cur) x) = (some ⟨some dd,.move x,ty,pos,af,none⟩,some pre,some bad,some u)) (hk : DW P n ops pres ds bads env h (i + 1) ((dd,u) :: cur) objs K) : DW P n ops pres ds bads env h i cur objs K := dM hk (congrArg (fun q => (q.1,q.2.1,q.2.2.1)) e) (congrArg (·.2.2.2) e)
theorem tN {dd gd tg : Nat} {want : Bool} {x : Operand} {u : AV} (e : (ops[i]?,pres[i]?,bads[i]?,(ops[gd]?).bind (·.dst),look (eF bad cur) tg,evu (eF bad cur) x) = (some ⟨some dd,.move x,ty,pos,af,some (gd,want)⟩,some pre,some bad,some tg,some (.b want),some u)) (hk : DW P n ops pres ds bads env h (i + 1) ((dd,u) :: cur) objs K) : DW P n ops pres ds bads env h i cur objs K := tM hk (congrArg (fun q => (q.1,q.2.1,q.2.2.1,q.2.2.2.1,q.2.2.2.2.1)) e) (congrArg (·.2.2.2.2.2) e)
theorem dO (T : oA P) {dd t off : Nat} {ii : TI} {cs : List AV} {x : Operand} {u v : AV} (e : (ops[i]?,pres[i]?,bads[i]?,evu (eF bad cur) x,T.ti t,iQ (h ++ oP pre objs) v,oI ii cs off) = (some ⟨some dd,.load t x,ty,pos,af,none⟩,some pre,some bad,some v,some ii,some (cs,off),some u)) (hk : DW P n ops pres ds bads env h (i + 1) ((dd,u) :: cur) objs K) : DW P n ops pres ds bads env h i cur objs K := dL T hk (congrArg (fun q => (q.1,q.2.1,q.2.2.1)) e) (congrArg (·.2.2.2.1) e) (congrArg (·.2.2.2.2.1) e) (congrArg (·.2.2.2.2.2.1) e) (congrArg (·.2.2.2.2.2.2) e)
theorem tO (T : oA P) {dd t off gd tg : Nat} {want : Bool} {ii : TI} {cs : List AV} {x : Operand} {u v : AV} (e : (ops[i]?,pres[i]?,bads[i]?,(ops[gd]?).bind (·.dst),look (eF bad cur) tg,evu (eF bad cur) x,T.ti t,iQ (h ++ oP pre objs) v,oI ii cs off) = (some ⟨some dd,.load t x,ty,pos,af,some (gd,want)⟩,some pre,some bad,some tg,some (.b want),some v,some ii,some (cs,off),some u)) (hk : DW P n ops pres ds bads env h (i + 1) ((dd,u) :: cur) objs K) : DW P n ops pres ds bads env h i cur objs K := tL T hk (congrArg (fun q => (q.1,q.2.1,q.2.2.1,q.2.2.2.1,q.2.2.2.2.1)) e) (congrArg (·.2.2.2.2.2.1) e) (congrArg (·.2.2.2.2.2.2.1) e) (congrArg (·.2.2.2.2.2.2.2.1) e) (congrArg (·.2.2.2.2.2.2.2.2) e)
theorem dP (T : oA P) {dd t f kf : Nat} {x : Operand} {u v : AV} (e : (ops[i]?,pres[i]?,bads[i]?,evu (eF bad cur) x,T.field t f,v.plus kf) = (some ⟨some dd,.fieldAddr t x f,ty,pos,af,none⟩,some pre,some bad,some v,some kf,some u)) (hk : DW P n ops pres ds bads env h (i + 1) ((dd,u) :: cur) objs K) : DW P n ops pres ds bads env h i cur objs K := dF T hk (congrArg (fun q => (q.1,q.2.1,q.2.2.1)) e) (congrArg (·.2.2.2.1) e) (congrArg (·.2.2.2.2.1) e) (congrArg (·.2.2.2.2.2) e)
theorem tP (T : oA P) {dd t f kf gd tg : Nat} {want : Bool} {x : Operand} {u v : AV} (e : (ops[i]?,pres[i]?,bads[i]?,(ops[gd]?).bind (·.dst),look (eF bad cur) tg,evu (eF bad cur) x,T.field t f,v.plus kf) = (some ⟨some dd,.fieldAddr t x f,ty,pos,af,some (gd,want)⟩,some pre,some bad,some tg,some (.b want),some v,some kf,some u)) (hk : DW P n ops pres ds bads env h (i + 1) ((dd,u) :: cur) objs K) : DW P n ops pres ds bads env h i cur objs K := tF T hk (congrArg (fun q => (q.1,q.2.1,q.2.2.1,q.2.2.2.1,q.2.2.2.2.1)) e) (congrArg (·.2.2.2.2.2.1) e) (congrArg (·.2.2.2.2.2.2.1) e) (congrArg (·.2.2.2.2.2.2.2) e)
theorem tG {dd : Nat} {gd t : Nat} {want : Bool} (e : (ops[i]?,pres[i]?,bads[i]?,(ops[gd]?).bind (·.dst),look (eF bad cur) t) = (some ⟨some dd,op,ty,pos,af,some (gd,want)⟩,some pre,some bad,some t,some (.b (!want)))) (hk : DW P n ops pres ds bads env h (i + 1) ((dd,.v undef) :: cur) objs K) : DW P n ops pres ds bads env h i cur objs K := dG hk (congrArg (·.1) e) (congrArg (·.2.1) e) (congrArg (·.2.2.1) e) (congrArg (·.2.2.2.1) e) (congrArg (·.2.2.2.2) e)
theorem tC {gd t : Nat} {want b : Bool} (ho : ops[i]? = some ⟨d, op, ty, pos, af, some (gd, want)⟩) (hb : bads[i]? = some bad) (hj : (ops[gd]?).bind (·.dst) = some t) (hl : look (eF bad cur) t = some (.b b))
    (ht : b = true → DW P n ops pres ds bads env h i cur objs K) (hf : b = false → DW P n ops pres ds bads env h i cur objs K) : DW P n ops pres ds bads env h i cur objs K := by
  cases b
  · exact hf rfl
  · exact ht rfl
theorem K3 {effs : List mI} {env : dD} {t : Nat} {x : AV} (hd : (effs.filterMap (·.d)).Nodup) (hx : look (xC env effs) t = some x) : look (G3 env effs) t = some x := by
  induction effs generalizing env with
  | nil => exact hx
  | cons f r ih =>
    have hr : (r.filterMap (·.d)).Nodup := by
      cases hc : f.d with
      | none => rwa [List.filterMap_cons_none hc] at hd
      | some y => rw [oB hc] at hd;exact (aP.1 hd).2
    have miss : ∀ {l : List mI} {env : dD},(∀ (j : Nat) f,l[j]? = some f → f.d ≠ some t) → look (G3 env l) t = look env t := fun {l env} hl => by
      induction l with
      | nil => rfl
      | cons g q ihq =>
        have h0 := hl 0 g rfl;have hq := ihq (fun j f hf => hl (j + 1) f (by simpa using hf))
        simp only [G3];cases hg : g.d with
        | none => exact hq
        | some d =>
          simp only [fR,gL];rw [if_neg (fun e => h0 (by rw [hg,e])),hq]
    simp only [xC] at hx;simp only [G3];rcases B0 hx with ⟨h1,h2⟩ | ⟨j,g,h1,h2,h3⟩
    · cases hfd : f.d with
      | none => rw [hfd] at h1;simp only [fR] at h1 ⊢;rw [miss h2];exact h1
      | some d =>
        rw [hfd] at h1;simp only [fR,gL] at h1 ⊢;split at h1
        · rename_i e;rw [if_pos e];exact h1
        · rename_i e;rw [if_neg e,miss h2];exact h1
    · have hne : f.d ≠ some t := fun e => by
        rw [oB e] at hd;exact (aP.1 hd).1 (jV.2 ⟨g,aJ h1,h2⟩)
      have hx' : look (xC env r) t = some x := by
        cases hfd : f.d with
        | none => rw [hfd] at hx;exact hx
        | some d =>
          rw [hfd] at hx;have key : ∀ (l : List mI) (e1 e2 : dD),look e1 t = look e2 t → look (xC e1 l) t = look (xC e2 l) t := by
            intro l
            induction l with
            | nil => exact fun _ _ h => h
            | cons q l ihl =>
              intro e1 e2 he;simp only [xC];refine ihl _ _ ?_;cases q.d with
              | none => exact he
              | some d => simp only [fR,gL];rw [he]
          have hdt : d ≠ t := fun e => hne (by rw [hfd,e])
          rw [← hx];exact key r env _ (by simp only [fR,gL];rw [if_neg hdt])
      have := ih hr hx';cases hfd : f.d with
      | none => exact this
      | some d => simp only [fR,gL];rw [if_neg (fun e => hne (by rw [hfd,e]))];exact this
theorem VC.moreE {ops : Array Oper} {rest : List Oper} {env env' : dD} {h : Hp} {K : dD → Hp → Prop} (hv : VC P n ops rest env h K) (he : ∀ t x,look env t = some x → look env' t = some x) : VC P n ops rest env' h K :=
  fun c ρ S a w Q s hQ => hv c ρ S a w Q (s.fewer he) hQ
theorem zE0 (hi : pres.length = i) {rest : List Oper} {h' : Hp} (hr : ops.drop i = rest) (hh : h ++ nY objs = h')
    (hk : VC P n ops.toArray rest cur h' K) : DW P n ops pres ds bads env h i cur objs K := by
  intro hok hen effs g;have hok' := hok;simp only [lC,aN,decide_eq_true_eq] at hok';obtain ⟨⟨⟨⟨⟨h1,h2⟩,h3⟩,h4⟩,h5⟩,h6⟩ := hok';have hds : jF effs = ds := by
    rw [← h5];have hle : i ≤ ops.length := by rw [← hi];exact bC h4
    unfold jF;have : effs.map (·.d) = (ops.take pres.length).map (·.dst) := by
      apply dX;intro j;simp only [aS,bS,hi];by_cases hj : j < i
      · rw [if_pos hj];have hje : j < effs.length := by rw [g.len];exact hj
        obtain ⟨o,ho,hod⟩ := g.dst j effs[j] (aC hje);rw [aC hje,ho];simp [hod]
      · rw [if_neg hj,bU (by rw [g.len];omega)];rfl
    have e1 : effs.filterMap (·.d) = (effs.map (·.d)).filterMap id := by rw [pN];rfl
    have e2 : (ops.take pres.length).filterMap (·.dst) = ((ops.take pres.length).map (·.dst)).filterMap id := by rw [pN];rfl
    rw [e1,e2,this]
  refine zE1 (rest := rest) (env' := G3 env effs) (h' := h ++ HF effs) (by rw [g.len,hi]) hds (by rw [hi];simpa using hr) rfl rfl ?_
  have e : h ++ HF effs = h' := by rw [zE effs 0,← g.objs,← wV];exact hh
  rw [e];refine hk.moreE fun t x hx => ?_
  rw [g.cur] at hx;exact K3 (by have : jF effs = effs.filterMap (·.d) := rfl;rw [← this,hds];exact h2) hx
theorem dE {rest : List Oper} {h' : Hp} (hk : VC P n ops.toArray rest cur h' K) (hi : pres.length = i := by rfl) (hr : ops.drop i = rest := by rfl) (hh : h ++ nY objs = h' := by first | (dsimp only [List.nil_append,List.cons_append,List.append_nil,List.length_cons,List.length_nil,List.set_cons_zero,List.set_cons_succ,List.map_cons,List.map_nil,iZ,fR,nY,rH,NW,I2,AP,AN,AM,AO,I1,I4,I0,I3,Nat.zero_add,Nat.add_zero,Nat.reduceAdd,Bool.not_true,Bool.not_false];first | done | exact rfl) | exact rfl) : DW P n ops pres ds bads env h i cur objs K := zE0 hi hr hh hk
end
end
def zH (P : Program) : Nat → List Field → Bool
  | _,[] => true
  | i, f :: r => decide (f.name ≠ "_") && Nat.beq f.offset i && (match P.underlying f.type with | some (.int _) => P.plainKey f.type | _ => false) && zH P (i + 1) r
def vM (P : Program) (t : TypeId) (n : Nat) : Bool := match P.underlying t with
  | some (.struct fs) => Nat.beq fs.size n && zH P 0 fs.toList && !P.stoodInHeld t && !P.eqGuardType P.depth t
  | _ => false
def qB (P : Program) (t : TypeId) : Prop := P.underlying t = some .bool
section
variable {P : Program} {env : dD} {h : Hp}
variable {d : Option Nat} {ty : TypeId} {pos : String} {af : Array Edge} {g : Option (Nat × Bool)}
theorem K8 (w : World) (dd : Nat) (k : IntKind) : ∀ (fs : List Field) (i : Nat) (xs ys : Array Value) (aZ bs : List Int),zH P i fs = true → fs.length = aZ.length → aZ.length = bs.length → (∀ (j : Nat) a,aZ[j]? = some a → xs[i + j]? = some (.int k a)) → (∀ (j : Nat) b,bs[j]? = some b → ys[i + j]? = some (.int k b)) →
    (Op.eqFields (dd + 1) xs ys fs).run P w = .ok (decide (aZ = bs)) w
  | [],i,xs,ys,aZ,bs,_,h1,h2,_,_ => by
    have : aZ = [] := cF (by simpa using h1.symm)
    subst this;have : bs = [] := cF (by simpa using h2.symm)
    subst this;simp [Op.eqFields]
  | f :: r,i,xs,ys,a :: aZ,b :: bs,hf,h1,h2,hx,hy => by
    simp only [zH,aN,decide_eq_true_eq] at hf;obtain ⟨⟨⟨h3,h4⟩,h5⟩,h6⟩ := hf;have h4 := aM h4;split at h5
    case h_2 => cases h5
    rename_i k' hu;have x0 := hx 0 a rfl;have y0 := hy 0 b rfl;rw [Nat.add_zero,← h4] at x0 y0;have ih := K8 w dd k r (i + 1) xs ys aZ bs h6 (by simpa using h1) (by simpa using h2) (fun j u hj => by rw [eG,vT 1 j];exact hx (j + 1) u (by simpa using hj)) (fun j u hj => by rw [eG,vT 1 j];exact hy (j + 1) u (by simpa using hj))
    simp only [Op.eqFields,h3,ne_eq,not_false_eq_true,if_true,Sem.run_bind,run_part_plain w h5 x0,run_part_plain w h5 y0,Result.andThen_ok,run_equalIn_int w dd f.type k k' a b hu];by_cases hab : a = b
    · subst hab;simp [ih]
    · have : (a == b) = false := by simpa using hab
      simp [this,hab]
  | f :: r,_,_,_,[],_,_,h1,_,_,_ => by simp at h1
  | f :: r,_,_,_,a :: aZ,[],_,_,h2,_,_ => by simp at h2
theorem FD {S : Nat → Prop} {w : World} {ρ : Pl} {k : IntKind} : ∀ {aZ : List Int} {ys : List Value}, RL S w (aZ.map fun a => .v (.int k a)) ρ ys → ys = aZ.map (.int k)
  | [],_,h => by simpa [RL] using h
  | a :: aZ,_,h => by
    simp only [List.map_cons,RL] at h;obtain ⟨y,zs,rfl,h1,h2⟩ := h;rw [pZ h1,FD h2];rfl
theorem YG {t t2 : TypeId} {n : Nat} {k : IntKind} {x y : Operand} {aZ bs : List Int} (ht : vM P t n = true) (hx : evu env x = some (.agg (aZ.map fun a => .v (.int k a)))) (hy : evu env y = some (.agg (bs.map fun a => .v (.int k a)))) (h1 : Nat.beq aZ.length n = true) (h2 : Nat.beq bs.length n = true) :
    bJ P ⟨d,.binOp .eql t x y t2,ty,pos,af,g⟩ env h 0 (fun _ => .b (decide (aZ = bs))) (fun _ => []) := by
  refine fL fun ρ S a w p => ⟨.bool (decide (aZ = bs)),?_,kY _⟩;have h3 := p.evu hx;have h4 := p.evu hy;simp only [R] at h3 h4;obtain ⟨xs,e1,h3⟩ := h3;obtain ⟨ys,e2,h4⟩ := h4;have h3 := FD h3;have h4 := FD h4;have h1 := aM h1;have h2 := aM h2;unfold vM at ht;split at ht
  case h_2 => cases ht
  rename_i fs hu;simp only [aN,nS] at ht;obtain ⟨⟨⟨h5,h6⟩,h7⟩,h8⟩ := ht;have h5 := aM h5;have hfo : P.fieldsOf t = fs := by simp [Program.fieldsOf,hu]
  have hx2 : ∀ (j : Nat) a,aZ[j]? = some a → xs[0 + j]? = some (.int k a) := fun j a ha => by rw [Nat.zero_add,← jM,h3];simp [ha]
  have hy2 : ∀ (j : Nat) a,bs[j]? = some a → ys[0 + j]? = some (.int k a) := fun j a ha => by rw [Nat.zero_add,← jM,h4];simp [ha]
  have key := K8 w 9998 k fs.toList 0 xs ys aZ bs h6 (by simp;omega) (by omega) hx2 hy2
  have he : (Op.equalIn 10000 t (.agg xs) (.agg ys)).run P w = .ok (decide (aZ = bs)) w := by
    rw [run_equalIn_struct w 9999 t xs ys (by rw [hfo];exact hu) h7,hfo];exact key
  simp [execOp,e1,e2,run_eqGuard_agg w .eql t x y xs ys h8,run_eql_struct,he]
theorem F6 {t t2 : TypeId} {n : Nat} {k : IntKind} {x y : Operand} {aZ bs : List Int} (ht : vM P t n = true) (hx : evu env x = some (.agg (aZ.map fun a => .v (.int k a)))) (hy : evu env y = some (.agg (bs.map fun a => .v (.int k a)))) (h1 : Nat.beq aZ.length n = true) (h2 : Nat.beq bs.length n = true) :
    bJ P ⟨d,.binOp .neq t x y t2,ty,pos,af,g⟩ env h 0 (fun _ => .b (!decide (aZ = bs))) (fun _ => []) := by
  refine fL fun ρ S a w p => ⟨.bool (!decide (aZ = bs)),?_,kY _⟩;have h3 := p.evu hx;have h4 := p.evu hy;simp only [R] at h3 h4;obtain ⟨xs,e1,h3⟩ := h3;obtain ⟨ys,e2,h4⟩ := h4;have h3 := FD h3;have h4 := FD h4;have h1 := aM h1;have h2 := aM h2;unfold vM at ht;split at ht
  case h_2 => cases ht
  rename_i fs hu;simp only [aN,nS] at ht;obtain ⟨⟨⟨h5,h6⟩,h7⟩,h8⟩ := ht;have h5 := aM h5;have hfo : P.fieldsOf t = fs := by simp [Program.fieldsOf,hu]
  have hx2 : ∀ (j : Nat) a,aZ[j]? = some a → xs[0 + j]? = some (.int k a) := fun j a ha => by rw [Nat.zero_add,← jM,h3];simp [ha]
  have hy2 : ∀ (j : Nat) a,bs[j]? = some a → ys[0 + j]? = some (.int k a) := fun j a ha => by rw [Nat.zero_add,← jM,h4];simp [ha]
  have key := K8 w 9998 k fs.toList 0 xs ys aZ bs h6 (by simp;omega) (by omega) hx2 hy2
  have he : (Op.equalIn 10000 t (.agg xs) (.agg ys)).run P w = .ok (decide (aZ = bs)) w := by
    rw [run_equalIn_struct w 9999 t xs ys (by rw [hfo];exact hu) h7,hfo];exact key
  simp [execOp,e1,e2,run_eqGuard_agg w .neq t x y xs ys h8,run_neq_struct,he]
theorem MZ {t : TypeId} {x : Operand} {a : Int} (hx : evu env x = some (.i a)) (h1 : -9223372036854775807 ≤ a) (h2 : a ≤ 9223372036854775808) : bJ P ⟨d,.unOp .neg t x,ty,pos,af,g⟩ env h 0 (fun _ => .i (-a)) (fun _ => []) := by
  have := TQ (P := P) (h := h) (d := d) (ty := ty) (pos := pos) (af := af) (g := g) (t := t) hx
  rwa [IntWalk.i64_in _ (by omega)] at this
theorem YD {t t2 : TypeId} {x y : Operand} {a b : Bool} (ht : qB P t) (hx : evu env x = some (.b a)) (hy : evu env y = some (.b b)) : bJ P ⟨d,.binOp .neq t x y t2,ty,pos,af,g⟩ env h 0 (fun _ => .b (!(a == b))) (fun _ => []) := by
  refine fL fun ρ S ac w p => ⟨.bool (!(a == b)),?_,kY _⟩;have h1 := pZ (p.evu hx);have h2 := pZ (p.evu hy);have hg : (eqGuard .neq t x y (.bool a) (.bool b)).run P w = .ok () w := rfl;simp [execOp,h1,h2,hg,run_neq_bool w t a b ht]
end
section
variable {P : Program} {n : Nat × Nat} {ops : Array Oper} {env : dD} {h : Hp} {K : dD → Hp → Prop} {rest : List Oper} {Q : Exit → dD → Hp → Prop} {code : Code}
theorem oD.own {c : oU} {ρ : Pl} {S : Nat → Prop} {a : Act} {w : World} {t sz : Nat} (s : oD n c ρ S env h a w) (ht : look env t = some .nils) (hs : 0 < sz) : oD n c ρ S ((t,.sl h.length 0 0 sz) :: env) (h ++ [.arr [] sz]) a w := by
  refine ⟨s.size,s.defers,fun t' x hx => ?_,?_,s.cm⟩
  · rw [gL] at hx;split at hx
    · rename_i e;subst e;cases hx;rw [pZ (s.env t _ ht)];simp only [R];exact ⟨none,0,rfl,bG _,.inl ⟨trivial,rfl⟩⟩
    · exact s.env t' x hx
  · have hd := s.hs.dom h.length (aU _);have get : ∀ {j : Nat} {b : AB},(h ++ [.arr [] sz])[j]? = some b → h[j]? = some b ∨ (j = h.length ∧ b = .arr [] sz) := fun {j b} hj => by
      by_cases hlt : j < h.length
      · rw [aG hlt] at hj;exact .inl hj
      · have := (aA.1 hj).1;simp at this;have e : j = h.length := by omega
        subst e;simp at hj;exact .inr ⟨rfl,hj.symm⟩
    refine ⟨fun k hk => s.hs.dom k (by simp at hk;omega),s.hs.rng,fun k b hb => ?_,fun k b p hb hg hp => ?_,fun k k' b b' p p' hb hb' hg hg' hp hp' e => ?_,s.hs.stab,s.hs.ext,s.hs.st0,s.hs.st1,by simp;exact O0 s.hs.mle,s.hs.keep,s.hs.glob⟩
    · rcases get hb with hb | ⟨rfl,rfl⟩
      · exact s.hs.blk k b hb
      · simp only [RB];exact ⟨(fun e he => by cases he),hs,.inl ⟨trivial,fun b o e => by rw [hd] at e;cases e⟩⟩
    · rcases get hb with hb | ⟨rfl,rfl⟩
      · exact s.hs.live k b p hb hg hp
      · rw [hd] at hp;cases hp
    · rcases get hb with hb | ⟨rfl,rfl⟩
      · rcases get hb' with hb' | ⟨rfl,rfl⟩
        · exact s.hs.inj k k' b b' p p' hb hb' hg hg' hp hp' e
        · rw [hd] at hp';cases hp'
      · rw [hd] at hp;cases hp
theorem Q6 (t sz : Nat) (ht : look env t = some .nils) (hs : 0 < sz) (hv : VC P n ops rest ((t,.sl h.length 0 0 sz) :: env) (h ++ [.arr [] sz]) K) : VC P n ops rest env h K :=
  fun c ρ S a w Q s hQ => hv c ρ S a w Q (s.own ht hs) hQ
theorem pY (t sz : Nat) (ht : look env t = some .nils) (hs : 0 < sz) (hv : AW P n code ((t,.sl h.length 0 0 sz) :: env) (h ++ [.arr [] sz]) Q) : AW P n code env h Q :=
  fun c ρ S a w QQ s hQ => hv c ρ S a w QQ (s.own ht hs) hQ
end
end Go.Ab
namespace Go.Ab
open Go Go.RowKit Go.WideShapes Go.ChangeShapes Go.ChangeAt
section
variable {H : Type} {enc : TypeId × Value → H} {P : Program}
theorem zS (hl : laidOutB P = true) {W W' : World} {sp : Nat → Bool} (hb : Below W.heap.size W W') : ∀ {ts : List TypeId} {vs : List Value} {ds : List (DataW H)} {ps : List MemPlace}, (∀ t, t ∈ ts → P.readableRec t = true ∧ t < P.types.size) → DataW.TrodAll enc P W 0 (fun _ => true) true ts vs ds ps → (∀ p ∈ ps, p.block < W.heap.size) → (∀ p ∈ ps, sp p.block = true) → DataW.TrodAll enc P W' 0 sp true ts vs ds ps
  | [],vs,ds,ps,_,h,_,_ => by
    cases vs with
    | nil =>
      cases ds with
      | nil => simp only [DataW.TrodAll] at h ⊢;exact h
      | cons _ _ => simp [DataW.TrodAll] at h
    | cons _ _ => simp [DataW.TrodAll] at h
  | t :: ts,vs,ds,ps,ht,h,hlt,hsp => by
    obtain ⟨v,vs',d,ds',p,q,rfl,rfl,rfl,h1,h2⟩ := trodAll_cons h;obtain ⟨h3,h4⟩ := ht t (by simp)
    exact trodAll_cons_mk (WideElems.Trod_stays hl h3 h4 h1 (fun x hx => hb.same (hlt x (by simp [hx]))) (fun x hx => hsp x (by simp [hx]))) (zS hl hb (fun u hu => ht u (by simp [hu])) h2 (fun x hx => hlt x (by simp [hx])) (fun x hx => hsp x (by simp [hx])))
theorem SA (hl : laidOutB P = true) {f : Func} {s : ChangeSpec} {W W' : World} {args : Array Value} {ds gs : List (DataW H)} {before : List MemPlace} {tb : TypeId}
    (hts' : (f.params.toList.all fun t => P.readableRec t && decide (t < P.types.size)) = true) (hv : s.vars = []) (hrt : f.resultTypes = #[tb]) (htb : P.underlying tb = some .bool)
    (hW : DataW.Whole enc P f.params.toList s.vars false W args.toList ds gs before)
    (hfn : (s.fn H (ds ++ gs)).results = [.lit (.bool true)] ∧ (s.fn H (ds ++ gs)).args = ds ∧ (s.fn H (ds ++ gs)).vars = []) (hb : Below W.heap.size W W') :
    s.post enc P f false true false false W args (.bool true) W' := by
  have hW2 := hW;have hts : ∀ t,t ∈ f.params.toList → P.readableRec t = true ∧ t < P.types.size := fun t ht => by
    have := bD.1 hts' t ht;simpa using this
  have hlt : ∀ p ∈ before,p.block < W.heap.size := fun p hp => hW.lt p hp
  obtain ⟨p,q,hA,hV,rfl,hz,hn⟩ := hW;rw [hv] at hV;obtain ⟨_,rfl⟩ := trodVars_none hV;obtain ⟨f1,f2,f3⟩ := hfn;have hargs : ∀ sp : Nat → Bool,(∀ x ∈ p ++ [],sp x.block = true) → DataW.TrodAll enc P W' 0 sp true f.params.toList args.toList (s.fn H (ds ++ gs)).args p := fun sp hsp => by
    rw [f2];exact zS hl hb hts hA (fun x hx => hlt x (by simpa using hx)) (fun x hx => hsp x (by simpa using hx))
  have hres : ∀ (b : Nat) (sp : Nat → Bool) (hd : Bool),DataW.TrodAll enc P W' b sp hd f.resultTypes.toList ((Value.bool true).resultList f.resultTypes.size) (s.fn H (ds ++ gs)).results [] := fun b sp hd => by
    rw [f1,hrt];exact trodAll_cons_mk (shut_bool htb _) trodAll_mk0
  have hvars : ∀ sp : Nat → Bool,DataW.TrodVars enc P W' sp s.vars (s.fn H (ds ++ gs)).vars [] := fun sp => by
    rw [f3,hv];rfl
  have hold : ∀ x ∈ p ++ [],(fun b => decide (b < W.heap.size)) x.block = true := fun x hx => by simpa using hlt x hx
  refine ⟨ds,gs,p ++ [],[],p,[],hW2,hres _ _ _,hargs _ hold,hvars _,World.keptBut_mono (fun x hx => ⟨hx,by simpa using hx⟩) (hb.frame (· ∈ p ++ [])),fun _ => ?_⟩
  refine ⟨?_,_,_,([] ++ p) ++ [],⟨[] ++ p,[],trodAll_append (hargs _ (fun _ _ => rfl)) (hres _ _ _),hvars _,rfl,?_,fun ha => by cases ha⟩,fun x hx _ => by simpa using hx⟩
  · exact ok_one hrt rfl (okWide_bool_mk htb _)
  · intro b off hp;have hin : MemPlace.cell b off ∈ p ++ [] := by simpa using hp
    rw [hb.frozen (hlt _ hin)];exact hz b off hin
end
end Go.Ab
namespace Go.Ab
open Go
def wI : Hp → List Nat → List AB → Hp
  | h,j :: L,b :: bs => wI (h.set j b) L bs
  | h,_,_ => h
theorem gM : ∀ (L : List Nat) (bs : List AB) (h : Hp), (wI h L bs).length = h.length
  | [],_,_ => by simp [wI]
  | _ :: _,[],_ => by simp [wI]
  | j :: L,b :: bs,h => by simp only [wI];rw [gM L bs];simp
theorem sS {k : Nat} : ∀ (L : List Nat) (bs : List AB) (h : Hp), k ∉ L → (wI h L bs)[k]? = h[k]?
  | [],_,_,_ => by simp [wI]
  | _ :: _,[],_,_ => by simp [wI]
  | j :: L,b :: bs,h,hk => by
    simp only [aT,not_or] at hk;simp only [wI];rw [sS L bs _ hk.2,cK,if_neg (fun e => hk.1 e.symm)]
theorem P5 : ∀ {L : List Nat} {bs : List AB} {h : Hp} {i j : Nat} {b : AB}, L.Nodup → L[i]? = some j → bs[i]? = some b → j < h.length → (wI h L bs)[j]? = some b
  | j0 :: L,b0 :: bs,h,0,j,b,hnd,hi,hb,hj => by
    simp at hi hb;subst hi;subst hb;simp only [wI];rw [sS L bs _ (aP.1 hnd).1,cK,if_pos rfl,if_pos hj]
  | j0 :: L,b0 :: bs,h,i + 1,j,b,hnd,hi,hb,hj => by
    simp only [wI];exact P5 (aP.1 hnd).2 (by simpa using hi) (by simpa using hb) (by simpa using hj)
  | [],_,_,_,_,_,_,hi,_,_ => by simp at hi
  | _ :: _,[],_,_,_,_,_,_,hb,_ => by simp at hb
def iG (L : List Nat) (N m k : Nat) : Nat := match L[k]? with
  | some j => j
  | none => N + (k - m)
section
variable {P : Program} {n : Nat × Nat} {ops : Array Oper} {rest : List Oper} {env : dD} {h : Hp} {K : dD → Hp → Prop}
variable {d : Option Nat} {ty : TypeId} {pos : String} {af : Array Edge}
theorem bP {op : Op} {j t : Nat} {want b : Bool} (hj : (ops[j]?).bind (·.dst) = some t) (hl : look env t = some (.b b)) (ht : b = true → VC P n ops (⟨d,op,ty,pos,af,some (j,want)⟩ :: rest) env h K) (hf : b = false → VC P n ops (⟨d,op,ty,pos,af,some (j,want)⟩ :: rest) env h K) : VC P n ops (⟨d,op,ty,pos,af,some (j,want)⟩ :: rest) env h K := by
  cases b
  · exact hf rfl
  · exact ht rfl
theorem gT {op : Op} {d : Option Nat} {j t : Nat} {want : Bool} (ht : VC P n ops (⟨d,op,ty,pos,af,none⟩ :: rest) env h K) (hj : (ops[j]?).bind (·.dst) = some t := by rfl) (hl : look env t = some (.b want) := by rfl) (hd : J5 d n = true := by rfl) : VC P n ops (⟨d,op,ty,pos,af,some (j,want)⟩ :: rest) env h K := zH7 hj hl ht hd
theorem gF {op : Op} {d : Option Nat} {j t : Nat} {want : Bool} (hf : VC P n ops rest (fR d (.v undef) env) h K) (hj : (ops[j]?).bind (·.dst) = some t := by rfl) (hl : look env t = some (.b (!want)) := by rfl) (hd : J5 d n = true := by rfl) : VC P n ops (⟨d,op,ty,pos,af,some (j,want)⟩ :: rest) env h K := zH8 hj hl hf hd
theorem gU {op : Op} {d : Option Nat} {j t : Nat} {want : Bool} (hf : VC P n ops rest (fR d (.v undef) env) h K) (hj : (ops[j]?).bind (·.dst) = some t := by rfl) (hl : look env t = some (.v undef) := by rfl) (hd : J5 d n = true := by rfl) : VC P n ops (⟨d,op,ty,pos,af,some (j,want)⟩ :: rest) env h K := zH6 hj hl hf hd
theorem mV {dd : Nat} {x : Operand} {u : AV} (hk : VC P n ops rest ((dd,u) :: env) h K) (hx : evu env x = some u := by rfl) (hd : Nat.blt dd n.1 = true := by rfl) : VC P n ops (⟨some dd,.move x,ty,pos,af,none⟩ :: rest) env h K := xM (fD hx) hd hk
theorem aV {dd : Nat} {x : Operand} {u : AV} (hk : VC P n ops rest ((dd,u) :: env) h K) (hx : evu env x = some u := by rfl) (hd : Nat.blt dd n.1 = true := by rfl) : VC P n ops (⟨some dd,.assign x,ty,pos,af,none⟩ :: rest) env h K := xM (jJ hx) hd hk
theorem fV (T : oA P) {dd t f k : Nat} {x : Operand} {u z : AV} (hk : VC P n ops rest ((dd,z) :: env) h K) (hx : evu env x = some u := by rfl) (hf : T.field t f = some k := by rfl) (hz : u.plus k = some z := by rfl) (hd : Nat.blt dd n.1 = true := by rfl) : VC P n ops (⟨some dd,.fieldAddr t x f,ty,pos,af,none⟩ :: rest) env h K := xM (eA T hx hf hz) hd hk
theorem lV (T : oA P) {dd t : Nat} {i : TI} {x : Operand} {u z : AV} {cs : List AV} {off : Nat} (hk : VC P n ops rest ((dd,z) :: env) h K) (hx : evu env x = some u := by rfl) (ht : T.ti t = some i := by rfl) (hb : iQ h u = some (cs,off) := by rfl) (hz : oI i cs off = some z := by rfl) (hd : Nat.blt dd n.1 = true := by rfl) : VC P n ops (⟨some dd,.load t x,ty,pos,af,none⟩ :: rest) env h K := xM (aX T hx ht hb hz) hd hk
theorem nV {dd : Nat} {x : Operand} {u z : AV} (hk : VC P n ops rest ((dd,u) :: env) h K) (hx : evu env x = some u := by rfl) (hz : u.plus 0 = some z := by rfl) (hd : Nat.blt dd n.1 = true := by rfl) : VC P n ops (⟨some dd,.nilCheck x,ty,pos,af,none⟩ :: rest) env h K := xM (cO hx hz) hd hk
theorem xV {dd : Nat} {x : Operand} {vs : List AV} {j : Nat} {z : AV} (hk : VC P n ops rest ((dd,z) :: env) h K) (hx : evu env x = some (.tup vs) := by rfl) (hz : vs[j]? = some z := by rfl) (hd : Nat.blt dd n.1 = true := by rfl) : VC P n ops (⟨some dd,.extract x j,ty,pos,af,none⟩ :: rest) env h K := xM (nN hx hz) hd hk
theorem vV {dd : Nat} {op : Op} {u : AV} (hs : bJ P ⟨some dd,op,ty,pos,af,none⟩ env h 0 (fun _ => u) (fun _ => [])) (hk : VC P n ops rest ((dd,u) :: env) h K) (hd : Nat.blt dd n.1 = true := by rfl) : VC P n ops (⟨some dd,op,ty,pos,af,none⟩ :: rest) env h K := xM hs hd hk
def zP0 (b : Bool) (u v : Option AV) : Option AV := match b with
  | true => u
  | false => v
theorem pV {dd : Nat} {c x y : Operand} {b : Bool} {r : AV} (hk : VC P n ops rest ((dd,r) :: env) h K) (hc : evu env c = some (.b b) := by rfl) (hr : zP0 b (evu env x) (evu env y) = some r := by rfl) (hd : Nat.blt dd n.1 = true := by rfl) : VC P n ops (⟨some dd,.pick c x y,ty,pos,af,none⟩ :: rest) env h K := by
  cases b
  · exact xM (fS hc hr) hd hk
  · exact xM (kM hc hr) hd hk
def zJ9 : AV → Option Nat
  | .sl _ _ len _ => some len
  | .row _ len _ => some len
  | _ => none
theorem qV (T : oA P) {dd t e m : Nat} {x : Operand} {u : AV} (hk : VC P n ops rest ((dd,.i (m : Int)) :: env) h K) (hx : evu env x = some u := by rfl) (ha : T.elem t = some e := by rfl) (hm : zJ9 u = some m := by rfl) (hd : Nat.blt dd n.1 = true := by rfl) : VC P n ops (⟨some dd,.call { callee := .builtin .len,args := #[x],argTypes := #[t] },ty,pos,af,none⟩ :: rest) env h K := by
  cases u with
  | sl k off len sz => cases hm;exact xM (sG T hx ha) hd hk
  | row cs len sz => cases hm;exact xM (CJ T hx ha) hd hk
  | _ => cases hm
theorem wT {x : Operand} {p q : Code} {Q : Exit → dD → Hp → Prop} (ht : AW P n p env h Q) (hx : ev env x = some (.b true) := by rfl) : AW P n (.cond x p q) env h Q := tE hx ht
theorem wU {x : Operand} {p q : Code} {Q : Exit → dD → Hp → Prop} (hf : AW P n q env h Q) (hx : ev env x = some (.b false) := by rfl) : AW P n (.cond x p q) env h Q := kN hx hf
theorem kC {g : Option (Nat × Bool)} {x : Operand} {f : FuncId} {fs cs us xs : List AV} {args : List Operand} {ats : Array TypeId} {res : AV} (hc : bI P f xs [] res []) (hx : evu env x = some (.clo (.func f) fs cs) := by rfl) (ha : EB env args = some us := by rfl) (he : fs ++ us ++ cs = xs := by rfl) (hi : AV.idfL xs = true := by rfl) (hr : res.idf = true := by rfl) :
    bJ P ⟨d,.call { callee := .value x,args := args.toArray,argTypes := ats },ty,pos,af,g⟩ env h 0 (fun _ => res) (fun _ => []) := dB hx ha hc he hi hr
def zC4 : Option AV → Bool
  | some (.v (.bool true)) => true
  | some (.v (.bool false)) => true
  | some (.v _) => true
  | _ => false
theorem gK {op : Op} {d : Option Nat} {j t : Nat} {want : Bool} (hk : VC P n ops (⟨d,op,ty,pos,af,some (j,want)⟩ :: rest) env h K) (hj : (ops[j]?).bind (·.dst) = some t := by rfl) (hl : zC4 (look env t) = true := by rfl) : VC P n ops (⟨d,op,ty,pos,af,some (j,want)⟩ :: rest) env h K := hk
theorem yM {dd j tg : Nat} {want : Bool} {x : Operand} {u : AV} (hk : VC P n ops rest ((dd,u) :: env) h K) (hj : (ops[j]?).bind (·.dst) = some tg := by rfl) (hl : look env tg = some (.b want) := by rfl) (hx : evu env x = some u := by rfl) (hd : Nat.blt dd n.1 = true := by rfl) : VC P n ops (⟨some dd,.move x,ty,pos,af,some (j,want)⟩ :: rest) env h K := gT (vV (fD hx) hk hd) hj hl hd
theorem yL (T : oA P) {dd j tg t off : Nat} {want : Bool} {ii : TI} {cs : List AV} {x : Operand} {u v : AV} (hk : VC P n ops rest ((dd,u) :: env) h K) (hj : (ops[j]?).bind (·.dst) = some tg := by rfl) (hl : look env tg = some (.b want) := by rfl) (hx : evu env x = some v := by rfl) (ht : T.ti t = some ii := by rfl) (hb : iQ h v = some (cs,off) := by rfl) (hz : oI ii cs off = some u := by rfl) (hd : Nat.blt dd n.1 = true := by rfl) : VC P n ops (⟨some dd,.load t x,ty,pos,af,some (j,want)⟩ :: rest) env h K := gT (vV (aX T hx ht hb hz) hk hd) hj hl hd
theorem yF (T : oA P) {dd j tg t f kf : Nat} {want : Bool} {x : Operand} {u v : AV} (hk : VC P n ops rest ((dd,u) :: env) h K) (hj : (ops[j]?).bind (·.dst) = some tg := by rfl) (hl : look env tg = some (.b want) := by rfl) (hx : evu env x = some v := by rfl) (hf : T.field t f = some kf := by rfl) (hz : v.plus kf = some u := by rfl) (hd : Nat.blt dd n.1 = true := by rfl) : VC P n ops (⟨some dd,.fieldAddr t x f,ty,pos,af,some (j,want)⟩ :: rest) env h K := gT (vV (eA T hx hf hz) hk hd) hj hl hd
theorem yV {op : Op} {dd j tg : Nat} {want : Bool} {u : AV} (hs : bJ P ⟨some dd,op,ty,pos,af,none⟩ env h 0 (fun _ => u) (fun _ => [])) (hk : VC P n ops rest ((dd,u) :: env) h K) (hj : (ops[j]?).bind (·.dst) = some tg := by rfl) (hl : look env tg = some (.b want) := by rfl) (hd : Nat.blt dd n.1 = true := by rfl) : VC P n ops (⟨some dd,op,ty,pos,af,some (j,want)⟩ :: rest) env h K := gT (vV hs hk hd) hj hl hd
theorem zN6 {d1 d2 : Nat} {x y : Operand} {u v : AV} {ty' : TypeId} {pos' : String} {af' : Array Edge} (hk : VC P n ops rest ((d2,v) :: (d1,u) :: env) h K) (hx : evu env x = some u := by rfl) (hy : evu ((d1,u) :: env) y = some v := by rfl) (hd : Nat.blt d1 n.1 = true := by rfl) (he : Nat.blt d2 n.1 = true := by rfl) : VC P n ops (⟨some d1,.move x,ty,pos,af,none⟩ :: ⟨some d2,.move y,ty',pos',af',none⟩ :: rest) env h K := vV (fD hx) (vV (fD hy) hk he) hd
theorem kJ {d1 d2 : Nat} {x y : Operand} {u v : AV} {ty' : TypeId} {pos' : String} {af' : Array Edge} (hk : VC P n ops rest ((d2,v) :: (d1,u) :: env) h K) (hx : evu env x = some u := by rfl) (hy : evu ((d1,u) :: env) y = some v := by rfl) (hd : Nat.blt d1 n.1 = true := by rfl) (he : Nat.blt d2 n.1 = true := by rfl) : VC P n ops (⟨some d1,.assign x,ty,pos,af,none⟩ :: ⟨some d2,.assign y,ty',pos',af',none⟩ :: rest) env h K := vV (jJ hx) (vV (jJ hy) hk he) hd
theorem IA (T : oA P) {d1 d2 t f kf t2 off : Nat} {x : Operand} {u v w : AV} {ii : TI} {cs : List AV} {ty' : TypeId} {pos' : String} {af' : Array Edge} (hk : VC P n ops rest ((d2,w) :: (d1,u) :: env) h K) (hx : evu env x = some v := by rfl) (hf : T.field t f = some kf := by rfl) (hz : v.plus kf = some u := by rfl) (hy : evu ((d1,u) :: env) (.tmp d1) = some u := by rfl) (ht : T.ti t2 = some ii := by rfl) (hb : iQ h u = some (cs,off) := by rfl) (hw : oI ii cs off = some w := by rfl) (hd : Nat.blt d1 n.1 = true := by rfl) (he : Nat.blt d2 n.1 = true := by rfl) : VC P n ops (⟨some d1,.fieldAddr t x f,ty,pos,af,none⟩ :: ⟨some d2,.load t2 (.tmp d1),ty',pos',af',none⟩ :: rest) env h K := vV (eA T hx hf hz) (vV (aX T hy ht hb hw) hk he) hd
theorem mW {dd : Nat} {x : Operand} {u : AV} (e : (evu env x,Nat.blt dd n.1) = (some u,true)) (hk : VC P n ops rest ((dd,u) :: env) h K) : VC P n ops (⟨some dd,.move x,ty,pos,af,none⟩ :: rest) env h K := mV hk (congrArg (·.1) e) (congrArg (·.2) e)
theorem aW {dd : Nat} {x : Operand} {u : AV} (e : (evu env x,Nat.blt dd n.1) = (some u,true)) (hk : VC P n ops rest ((dd,u) :: env) h K) : VC P n ops (⟨some dd,.assign x,ty,pos,af,none⟩ :: rest) env h K := aV hk (congrArg (·.1) e) (congrArg (·.2) e)
theorem fW (T : oA P) {dd t f k : Nat} {x : Operand} {u z : AV} (e : (evu env x,T.field t f,u.plus k,Nat.blt dd n.1) = (some u,some k,some z,true)) (hk : VC P n ops rest ((dd,z) :: env) h K) : VC P n ops (⟨some dd,.fieldAddr t x f,ty,pos,af,none⟩ :: rest) env h K := fV T hk (congrArg (·.1) e) (congrArg (·.2.1) e) (congrArg (·.2.2.1) e) (congrArg (·.2.2.2) e)
theorem lW (T : oA P) {dd t : Nat} {i : TI} {x : Operand} {u z : AV} {cs : List AV} {off : Nat} (e : (evu env x,T.ti t,iQ h u,oI i cs off,Nat.blt dd n.1) = (some u,some i,some (cs,off),some z,true)) (hk : VC P n ops rest ((dd,z) :: env) h K) : VC P n ops (⟨some dd,.load t x,ty,pos,af,none⟩ :: rest) env h K := lV T hk (congrArg (·.1) e) (congrArg (·.2.1) e) (congrArg (·.2.2.1) e) (congrArg (·.2.2.2.1) e) (congrArg (·.2.2.2.2) e)
theorem qW (T : oA P) {dd t e' m : Nat} {x : Operand} {u : AV} (e : (evu env x,T.elem t,zJ9 u,Nat.blt dd n.1) = (some u,some e',some m,true)) (hk : VC P n ops rest ((dd,.i (m : Int)) :: env) h K) : VC P n ops (⟨some dd,.call { callee := .builtin .len,args := #[x],argTypes := #[t] },ty,pos,af,none⟩ :: rest) env h K := qV T hk (congrArg (·.1) e) (congrArg (·.2.1) e) (congrArg (·.2.2.1) e) (congrArg (·.2.2.2) e)
theorem xW {dd : Nat} {x : Operand} {vs : List AV} {j : Nat} {z : AV} (e : (evu env x,vs[j]?,Nat.blt dd n.1) = (some (.tup vs),some z,true)) (hk : VC P n ops rest ((dd,z) :: env) h K) : VC P n ops (⟨some dd,.extract x j,ty,pos,af,none⟩ :: rest) env h K := xV hk (congrArg (·.1) e) (congrArg (·.2.1) e) (congrArg (·.2.2) e)
theorem pW {dd : Nat} {c x y : Operand} {b : Bool} {r : AV} (e : (evu env c,zP0 b (evu env x) (evu env y),Nat.blt dd n.1) = (some (.b b),some r,true)) (hk : VC P n ops rest ((dd,r) :: env) h K) : VC P n ops (⟨some dd,.pick c x y,ty,pos,af,none⟩ :: rest) env h K := pV hk (congrArg (·.1) e) (congrArg (·.2.1) e) (congrArg (·.2.2) e)
theorem yN {dd j tg : Nat} {want : Bool} {x : Operand} {u : AV} (e : ((ops[j]?).bind (·.dst),look env tg,evu env x,Nat.blt dd n.1) = (some tg,some (.b want),some u,true)) (hk : VC P n ops rest ((dd,u) :: env) h K) : VC P n ops (⟨some dd,.move x,ty,pos,af,some (j,want)⟩ :: rest) env h K := yM hk (congrArg (·.1) e) (congrArg (·.2.1) e) (congrArg (·.2.2.1) e) (congrArg (·.2.2.2) e)
theorem yO (T : oA P) {dd j tg t off : Nat} {want : Bool} {ii : TI} {cs : List AV} {x : Operand} {u v : AV} (e : ((ops[j]?).bind (·.dst),look env tg,evu env x,T.ti t,iQ h v,oI ii cs off,Nat.blt dd n.1) = (some tg,some (.b want),some v,some ii,some (cs,off),some u,true)) (hk : VC P n ops rest ((dd,u) :: env) h K) : VC P n ops (⟨some dd,.load t x,ty,pos,af,some (j,want)⟩ :: rest) env h K := yL T hk (congrArg (·.1) e) (congrArg (·.2.1) e) (congrArg (·.2.2.1) e) (congrArg (·.2.2.2.1) e) (congrArg (·.2.2.2.2.1) e) (congrArg (·.2.2.2.2.2.1) e) (congrArg (·.2.2.2.2.2.2) e)
theorem yP (T : oA P) {dd j tg t f kf : Nat} {want : Bool} {x : Operand} {u v : AV} (e : ((ops[j]?).bind (·.dst),look env tg,evu env x,T.field t f,v.plus kf,Nat.blt dd n.1) = (some tg,some (.b want),some v,some kf,some u,true)) (hk : VC P n ops rest ((dd,u) :: env) h K) : VC P n ops (⟨some dd,.fieldAddr t x f,ty,pos,af,some (j,want)⟩ :: rest) env h K := yF T hk (congrArg (·.1) e) (congrArg (·.2.1) e) (congrArg (·.2.2.1) e) (congrArg (·.2.2.2.1) e) (congrArg (·.2.2.2.2.1) e) (congrArg (·.2.2.2.2.2) e)
theorem dS {d1 d2 : Nat} {x y : Operand} {u v : AV} {ty' : TypeId} {pos' : String} {af' : Array Edge} (e : (evu env x,evu ((d1,u) :: env) y,Nat.blt d1 n.1,Nat.blt d2 n.1) = (some u,some v,true,true)) (hk : VC P n ops rest ((d2,v) :: (d1,u) :: env) h K) : VC P n ops (⟨some d1,.move x,ty,pos,af,none⟩ :: ⟨some d2,.move y,ty',pos',af',none⟩ :: rest) env h K := zN6 hk (congrArg (·.1) e) (congrArg (·.2.1) e) (congrArg (·.2.2.1) e) (congrArg (·.2.2.2) e)
theorem VV {d1 d2 : Nat} {x y : Operand} {u v : AV} {ty' : TypeId} {pos' : String} {af' : Array Edge} (e : (evu env x,evu ((d1,u) :: env) y,Nat.blt d1 n.1,Nat.blt d2 n.1) = (some u,some v,true,true)) (hk : VC P n ops rest ((d2,v) :: (d1,u) :: env) h K) : VC P n ops (⟨some d1,.assign x,ty,pos,af,none⟩ :: ⟨some d2,.assign y,ty',pos',af',none⟩ :: rest) env h K := kJ hk (congrArg (·.1) e) (congrArg (·.2.1) e) (congrArg (·.2.2.1) e) (congrArg (·.2.2.2) e)
theorem eT (T : oA P) {d1 d2 t f kf t2 off : Nat} {x : Operand} {u v w : AV} {ii : TI} {cs : List AV} {ty' : TypeId} {pos' : String} {af' : Array Edge} (e : (evu env x,T.field t f,v.plus kf,evu ((d1,u) :: env) (.tmp d1),T.ti t2,iQ h u,oI ii cs off,Nat.blt d1 n.1,Nat.blt d2 n.1) = (some v,some kf,some u,some u,some ii,some (cs,off),some w,true,true)) (hk : VC P n ops rest ((d2,w) :: (d1,u) :: env) h K) : VC P n ops (⟨some d1,.fieldAddr t x f,ty,pos,af,none⟩ :: ⟨some d2,.load t2 (.tmp d1),ty',pos',af',none⟩ :: rest) env h K :=
  IA T hk (congrArg (·.1) e) (congrArg (·.2.1) e) (congrArg (·.2.2.1) e) (congrArg (·.2.2.2.1) e) (congrArg (·.2.2.2.2.1) e) (congrArg (·.2.2.2.2.2.1) e) (congrArg (·.2.2.2.2.2.2.1) e) (congrArg (·.2.2.2.2.2.2.2.1) e) (congrArg (·.2.2.2.2.2.2.2.2) e)
theorem NW (x : Value) : (AV.v x).un = .v x := rfl
theorem I2 (k o : Nat) : (AV.ptr k o).un = .ptr k o := rfl
theorem AP (k i o s : Nat) : (AV.ep k i o s).un = .ep k i o s := rfl
theorem AN (c : List AV) (o : Nat) : (AV.pr c o).un = .pr c o := rfl
theorem AM (k o l s : Nat) : (AV.sl k o l s).un = .sl k o l s := rfl
theorem AO (k : Nat) : (AV.mp k).un = .mp k := rfl
theorem I1 (c : List AV) (l s : Nat) : (AV.row c l s).un = .row c l s := rfl
theorem I4 (c : List AV) : (AV.agg c).un = .agg c := rfl
theorem I0 (c : List AV) : (AV.tup c).un = .tup c := rfl
theorem I3 (f : Fn) (a b : List AV) : (AV.clo f a b).un = .clo f a b := rfl
theorem HS.hand {c : oU} {ρ : Pl} {S : Nat → Prop} {w : World} {hin : Hp} {L : List Nat} (s : HS c ρ S h w) (hL : L.length = hin.length) (hnd : L.Nodup) (hh : tH (th L h.length) h 0 hin) :
    HS (iY w (fun k => ρ (th L h.length k)) S hin) (fun k => ρ (th L h.length k)) S hin w := by
  have s0 : HS { c with m := 0 } ρ S h w := ⟨s.dom,s.rng,s.blk,s.live,s.inj,s.stab,s.ext,s.st0,s.st1,bG _,fun k hk => absurd hk (eM _),s.glob⟩;have s1 := s0.sub hL hh hnd (VU);refine ⟨s1.dom,s1.rng,s1.blk,fun k b p hb hg hp => ⟨.inr ⟨k,b,p.2,hb,hg,hp⟩,(s1.live k b p hb hg hp).2⟩,s1.inj,s1.stab,lM.refl _ _,fun _ h => h,fun _ h => .inl h,aU _,fun _ _ => rfl,s1.glob⟩
theorem bR (L : List Nat) {x : Operand} {f : FuncId} {fs cs us xs : List AV} {args : List Operand} {ats : Array TypeId} {res : AV} {hin hout : Hp} (hx : evu env x = some (.clo (.func f) fs cs)) (ha : EB env args = some us)
    (hc : bI P f xs hin res hout) (hxs : fs ++ us ++ cs = AV.mapL (th L h.length) xs) (hL : L.length = hin.length) (hnd : L.Nodup) (hh : tH (th L h.length) h 0 hin) (hng : ∀ b,b ∈ hin → b ≠ .gone) (hd : J5 d n = true)
    (hk : VC P n ops rest (fR d (res.map (iG L h.length hin.length)) env) (wI h L ((hout.take hin.length).map (AB.map (iG L h.length hin.length))) ++ (hout.drop hin.length).map (AB.map (iG L h.length hin.length))) K) :
    VC P n ops (⟨d,.call { callee := .value x,args := args.toArray,argTypes := ats },ty,pos,af,none⟩ :: rest) env h K := by
  intro c ρ S a w Q s hQ;refine wpList_plain rfl fun K' hK' => ?_
  have p := s.pre;have hxv := p.evu hx;simp only [R] at hxv;obtain ⟨ys,zs,e1,h1,h2⟩ := hxv;have hall : RL S w (fs ++ us ++ cs) ρ (ys.toList ++ args.map a.eval ++ zs.toList) := fC (fC h1 (nU p ha)) h2;rw [hxs] at hall;have hargs := oJ (th L h.length) ρ _ _ hall;obtain ⟨hf,hc⟩ := hc;have hs0 := s.hs.hand hL hnd hh;have hcall := hc _ S w _ hs0 hargs;unfold Oper.wp;have hrun : (execOp a.eval ⟨d,.call { callee := .value x,args := args.toArray,argTypes := ats },ty,pos,af,none⟩).run P w = .ok (.enter f (ys.toList ++ args.map a.eval ++ zs.toList).toArray) w := by
    have e2 : (ys ++ (args.toArray.map a.eval) ++ zs) = (ys.toList ++ args.map a.eval ++ zs.toList).toArray := by
      apply Array.ext';simp
    simp only [execOp,resolve,e1,Deferred.ofValue,Sem.run_bind,Sem.run_pure,Result.andThen_ok,invoke];rw [e2];exact oL hf
  rw [hrun];simp only [Oper.upon];refine hcall.mono ?_;rintro e w' ⟨y,ρ',S',rfl,hs,hy⟩;simp only;refine hK' _ _ (hk c (fun k => if k < h.length then ρ k else ρ' (hin.length + (k - h.length))) S' _ w' Q ?_ hQ)
  -- the objects handed over
  have hin_at : ∀ {i : Nat} {b : AB},hin[i]? = some b → ∃ j,L[i]? = some j ∧ j < h.length ∧ h[j]? = some (b.map (th L h.length)) ∧ b.map (th L h.length) ≠ .gone := fun {i b} hb => by
    have hne := hng b (aJ hb);have hlt : i < L.length := by rw [hL];exact (aA.1 hb).1
    have hj := aC hlt;have hth : th L h.length i = L[i] := by simp [th,hj]
    rcases hh.get i b hb with hg | hg
    · exact absurd hg hne
    · rw [Nat.zero_add,hth] at hg;exact ⟨L[i],hj,(aA.1 hg).1,hg,by cases b <;> simp [AB.map] at * ⟩
  have hmle := hs.mle;have hmle' : hin.length ≤ hout.length := hmle;have thL : ∀ {i j : Nat},L[i]? = some j → th L h.length i = j := fun hi => by simp [th,hi]
  have keep : ∀ {i j : Nat},i < hin.length → L[i]? = some j → ρ' i = ρ j := fun {i j} hi hj => by
    have := hs.keep i hi;simp only [iY] at this;rw [this,thL hj]
  -- where the callee may write
  have hM : ∀ b,(iY w (fun k => ρ (th L h.length k)) S hin).M b → w.heap.size ≤ b ∨ ∃ (i j : Nat) (o : Nat) (x : AB),hin[i]? = some x ∧ L[i]? = some j ∧ ρ j = some (b,o) := fun b hb => by
    rcases hb with hb | ⟨k,x,o,hb,_,hp⟩
    · exact .inl hb
    · obtain ⟨j,h3,_⟩ := hin_at hb;exact .inr ⟨k,j,o,x,hb,h3,by rw [← thL h3];exact hp⟩
  have hcM : ∀ b,(iY w (fun k => ρ (th L h.length k)) S hin).M b → c.M b := fun b hb => by
    rcases hM b hb with hb | ⟨i,j,o,x,h3,h4,h5⟩
    · exact c.new b (cQ s.hs.ext.size hb)
    · obtain ⟨j',h6,_,h7,h8⟩ := hin_at h3;rw [h4] at h6;cases h6;exact (s.hs.live j _ _ h7 h8 h5).1
  have hlow : ∀ b,b < w.heap.size → (iY w (fun k => ρ (th L h.length k)) S hin).M b → ∃ (i j : Nat) (o : Nat) (x : AB),hin[i]? = some x ∧ L[i]? = some j ∧ ρ j = some (b,o) := fun b hlt hb => by
    rcases hM b hb with hb | hb
    · omega
    · exact hb
  -- a live object that was not handed over: its block is left alone
  have other : ∀ {k : Nat} {b : AB} {q : Nat × Nat},h[k]? = some b → b ≠ .gone → k ∉ L → ρ k = some q → ¬ (iY w (fun k => ρ (th L h.length k)) S hin).M q.1 := fun {k b q} hb hg hkL hq hm => by
    obtain ⟨i,j,o,x,h3,h4,h5⟩ := hlow q.1 (s.hs.rng k q hq) hm;obtain ⟨j',h6,_,h7,h8⟩ := hin_at h3;rw [h4] at h6;cases h6;have := s.hs.inj k j _ _ q _ hb h7 hg h8 hq h5 rfl;subst this;exact hkL (aJ h4)
  have stM : ∀ b,S b → ¬ (iY w (fun k => ρ (th L h.length k)) S hin).M b := fun b hb hm => by
    obtain ⟨i,j,o,x,h3,h4,h5⟩ := hlow b (s.hs.stab b hb) hm;obtain ⟨j',h6,_,h7,h8⟩ := hin_at h3;rw [h4] at h6;cases h6;exact (s.hs.live j _ _ h7 h8 h5).2 hb
  have same : ∀ b,b < w.heap.size → ¬ (iY w (fun k => ρ (th L h.length k)) S hin).M b → w'.heap[b]? = w.heap[b]? := fun b hb hm => hs.ext.same b hb hm
  have l : hY ρ (fun k => if k < h.length then ρ k else ρ' (hin.length + (k - h.length))) S S' w w' := by
    refine ⟨fun k q hq => ?_,hs.st0,fun b hb => same b (s.hs.stab b hb) (stM b hb),fun _ _ _ _ _ hr => hs.ext.room hr⟩
    have hlt : k < h.length := by
      rcases gP k h.length with h3 | h3
      · exact h3
      · rw [s.hs.dom k h3] at hq;cases hq
    simp only [if_pos hlt];exact hq
  -- the callee's places,seen by the caller
  have pl : ∀ k q,ρ' k = some q → (fun k => if k < h.length then ρ k else ρ' (hin.length + (k - h.length))) (iG L h.length hin.length k) = some q := fun k q hq => by
    by_cases hk : k < hin.length
    · have hj := aC (l := L) (i := k) (by omega)
      have hb := aC hk;obtain ⟨j,h3,h4,_⟩ := hin_at hb;have hbk : iG L h.length hin.length k = j := by simp [iG,h3]
      rw [hbk];simp only [if_pos h4];rw [← keep hk h3];exact hq
    · have hbk : iG L h.length hin.length k = h.length + (k - hin.length) := by
        unfold iG;rw [bU (by omega)]
      rw [hbk];simp only;rw [if_neg (by omega),show hin.length + (h.length + (k - hin.length) - h.length) = k by omega]
      exact hq
  have shift : ∀ {x : AV} {y : Value},R S' w' x ρ' y → R S' w' (x.map (iG L h.length hin.length)) (fun k => if k < h.length then ρ k else ρ' (hin.length + (k - h.length))) y := fun {x y} hx => yK _ _ x y (lD (fun _ h => h) (fun _ _ => rfl) x ρ' _ y pl (fun _ _ _ _ _ h => h) hx)
  have shiftB : ∀ {b : AB} {pp},RB S' w' ρ' pp b → RB S' w' (fun k => if k < h.length then ρ k else ρ' (hin.length + (k - h.length))) pp (b.map (iG L h.length hin.length)) := fun {b pp} hb => H5 _ _ (RB.later (ρ := ρ') (S := S') ⟨pl,fun _ h => h,fun _ _ => rfl,fun _ _ _ _ _ h => h⟩ (fun _ _ _ => rfl) hb)
  -- what stands at a place iQ the call
  have get : ∀ {k : Nat} {b : AB},(wI h L ((hout.take hin.length).map (AB.map (iG L h.length hin.length))) ++ (hout.drop hin.length).map (AB.map (iG L h.length hin.length)))[k]? = some b →
      (k < h.length ∧ k ∉ L ∧ h[k]? = some b) ∨ (∃ (i : Nat) (b' : AB),hout[i]? = some b' ∧ b = b'.map (iG L h.length hin.length) ∧ iG L h.length hin.length i = k ∧ (if k < h.length then ρ k else ρ' (hin.length + (k - h.length))) = ρ' i ∧ ((i < hin.length ∧ L[i]? = some k) ∨ (hin.length ≤ i ∧ k = h.length + (i - hin.length)))) := fun {k b} hb => by
    by_cases hk : k < h.length
    · rw [aG (by rw [gM];exact hk)] at hb
      by_cases hkL : k ∈ L
      · obtain ⟨i,hi⟩ := cN.1 hkL;have hiL : i < hin.length := by rw [← hL];exact (aA.1 hi).1
        have hb' := aC (l := hout) (i := i) (by omega)
        rw [P5 (b := (hout[i]'(by omega)).map (iG L h.length hin.length)) hnd hi (by simp [hiL,hb']) hk] at hb
        simp only [Option.some.injEq] at hb;exact .inr ⟨i,_,hb',hb.symm,by simp [iG,hi],by rw [if_pos hk];exact (keep hiL hi).symm,.inl ⟨hiL,hi⟩⟩
      · rw [sS _ _ _ hkL] at hb;exact .inl ⟨hk,hkL,hb⟩
    · rw [aE (by rw [gM];omega),gM,aS,eR] at hb
      obtain ⟨b',h3,h4⟩ := bX.1 hb;refine .inr ⟨hin.length + (k - h.length),b',h3,h4.symm,?_,by rw [if_neg hk],.inr ⟨by omega,by omega⟩⟩
      unfold iG;rw [bU (by omega)]
      simp only;omega
  have mapg : ∀ {θ : Nat → Nat} {b : AB},b.map θ ≠ .gone → b ≠ .gone := fun hb e => hb (by rw [e];rfl)
  refine ⟨by rw [iS];exact s.size,by rw [fT];exact s.defers.later l,nA s.size hd (fun t u hu => (s.env t u hu).later l) (shift hy),?_,s.cm⟩
  refine ⟨fun k hk => ?_,fun k q hq => ?_,fun k b hb => ?_,fun k b q hb hg hq => ?_,fun k k' b b' q q' hb hb' hg hg' hq hq' e => ?_,hs.stab,s.hs.ext.trans hs.ext (fun b hb hlt => hcM b hb),fun b hb => hs.st0 b (s.hs.st0 b hb),fun b hb => ?_,?_,fun k hk => ?_,hs.glob⟩
  · simp only [aB,gM,bF,iM] at hk;rw [if_neg (by omega)]
    exact hs.dom _ (by omega)
  · split at hq
    · exact cC (s.hs.rng k q hq) hs.ext.size
    · exact hs.rng _ q hq
  · rcases get hb with ⟨h3,h4,h5⟩ | ⟨i,b',h3,rfl,h4,h5,h6⟩
    · simp only [if_pos h3];by_cases hg : b = .gone
      · subst hg;trivial
      · exact RB.later l (fun b1 o1 hp => same b1 (s.hs.rng k _ hp) (other h5 hg h4 hp)) (s.hs.blk k b h5)
    · rw [h5];exact shiftB (hs.blk i b' h3)
  · rcases get hb with ⟨h3,h4,h5⟩ | ⟨i,b',h3,rfl,h4,h5,h6⟩
    · simp only [if_pos h3] at hq;obtain ⟨h7,h8⟩ := s.hs.live k b q h5 hg hq;refine ⟨h7,fun hs' => ?_⟩
      rcases hs.st1 _ hs' with h9 | h9
      · exact h8 h9
      · exact other h5 hg h4 hq h9
    · rw [h5] at hq;obtain ⟨h7,h8⟩ := hs.live i b' q h3 (mapg hg) hq;exact ⟨hcM _ h7,h8⟩
  · rcases get hb with ⟨h3,h4,h5⟩ | ⟨i,b1,h3,rfl,h4,h5,h6⟩ <;> rcases get hb' with ⟨h3',h4',h5'⟩ | ⟨i',b1',h3',rfl,h4',h5',h6'⟩
    · simp only [if_pos h3] at hq;simp only [if_pos h3'] at hq';exact s.hs.inj k k' b b' q q' h5 h5' hg hg' hq hq' e
    · simp only [if_pos h3] at hq;rw [h5'] at hq';have hl := (hs.live i' b1' q' h3' (mapg hg') hq').1;rw [← e] at hl;exact absurd hl (other h5 hg h4 hq)
    · simp only [if_pos h3'] at hq';rw [h5] at hq;have hl := (hs.live i b1 q h3 (mapg hg) hq).1;rw [e] at hl;exact absurd hl (other h5' hg' h4' hq')
    · rw [h5] at hq;rw [h5'] at hq';have := hs.inj i i' b1 b1' q q' h3 h3' (mapg hg) (mapg hg') hq hq' e;subst this;rw [← h4,← h4']
  · rcases hs.st1 b hb with hb' | hb'
    · exact s.hs.st1 b hb'
    · exact .inr (hcM b hb')
  · simp only [aB,gM];exact cQ s.hs.mle (gA _ _)
  · have hlt := cC hk s.hs.mle;simp only [if_pos hlt];exact s.hs.keep k hk
end
section
variable {P : Program} {env : dD} {h : Hp}
variable {d : Option Nat} {ty : TypeId} {pos : String} {af : Array Edge} {g : Option (Nat × Bool)}
end
section
variable {P : Program} {n : Nat × Nat} {ops : Array Oper} {env : dD} {h : Hp} {Q : Exit → dD → Hp → Prop} {code : Code}
end
theorem jI (θ : Nat → Nat) : ∀ {es : List (List AV)}, (∀ e, e ∈ es → AV.idfL e = true) → es.map (AV.mapL θ) = es
  | [],_ => rfl
  | e :: es,h => by simp only [List.map_cons];rw [nK θ e (h e (by simp)),jI θ fun q hq => h q (by simp [hq])]
theorem bM {h : Hp} {i sz : Nat} {θ : Nat → Nat} {es es' : List (List AV)} (hk : h[i]? = some (.arr es' sz)) (he : es' = es) (hi : ∀ e,e ∈ es → AV.idfL e = true) : h[i]? = some ((AB.arr es sz).map θ) := by
  subst he;rw [hk];simp only [AB.map,jI θ hi]
theorem QS {h : Hp} {k i off sz : Nat} {es : List (List AV)} {c xs : List AV} (hk : h[k]? = some (.arr es sz)) (hc : es[i]? = some c) (hl : Nat.ble (off + xs.length) sz = true) : upd h (.ep k i off sz) xs = some (h.set k (.arr (es.set i (iZ c off xs)) sz)) := by
  simp only [upd,hk,hc,eQ,hl]
theorem pK {h : Hp} {k i off sz : Nat} {es : List (List AV)} {c : List AV} (hk : h[k]? = some (.arr es sz)) (hc : es[i]? = some c) : iQ h (.ep k i off sz) = some (c,off) := by
  simp only [iQ,hk,hc,eQ]
theorem P2 {P : Program} {n : Nat × Nat} {env : dD} {h : Hp} {K : dD → Hp → Prop} {ops : Array Oper} {env' : dD} {h' : Hp} (he : (env,h) = (env',h')) (hk : K env' h') : VC P n ops [] env h K := by
  cases he;exact uN hk
theorem nZ {P : Program} {n : Nat × Nat} {env : dD} {h : Hp} {K : dD → Hp → Prop} {ops : Array Oper} {env' : dD} {h' : Hp} (hk : K env' h') (he : (env,h) = (env',h') := by first | (dsimp only [List.nil_append,List.cons_append,List.append_nil,List.length_cons,List.length_nil,List.set_cons_zero,List.set_cons_succ,List.map_cons,List.map_nil,iZ,fR,nY,rH,NW,I2,AP,AN,AM,AO,I1,I4,I0,I3,Nat.zero_add,Nat.add_zero,Nat.reduceAdd,Bool.not_true,Bool.not_false];first | done | exact rfl) | exact rfl) : VC P n ops [] env h K := P2 he hk
theorem iA {P : Program} {n : Nat × Nat} {env : dD} {h : Hp} {Q : Exit → dD → Hp → Prop} (id : Nat) {d1 d2 d3 : Nat} {t t2 t3 t4 t5 : TypeId} {x y y2 : Operand} {a b : Int} {p1 p2 p3 : String} {f1 f2 f3 : Array Edge} (hx : evu env x = some (.i a)) (h1 : evu ((d1, .i a) :: env) y = some (.i a)) (h2 : evu ((d1, .i a) :: env) y2 = some (.i b)) (b1 : -9223372036854775808 ≤ a + b) (b2 : a + b ≤ 9223372036854775807)
    (hk : VC P n [⟨some d1,.move x,t3,p1,f1,none⟩,⟨some d2,.binOp .add t y y2 t2,t4,p2,f2,none⟩,⟨some d3,.assign (.tmp d2),t5,p3,f3,none⟩].toArray [] ((d3,.i (a + b)) :: (d2,.i (a + b)) :: (d1,.i a) :: env) h (fun v h => Q .normal v h)) (hz : evu ((d2,.i (a + b)) :: (d1,.i a) :: env) (.tmp d2) = some (.i (a + b)) := by rfl) (e1 : Nat.blt d1 n.1 = true := by rfl) (e2 : Nat.blt d2 n.1 = true := by rfl) (e3 : Nat.blt d3 n.1 = true := by rfl) :
    AW P n (.region id [⟨some d1,.move x,t3,p1,f1,none⟩,⟨some d2,.binOp .add t y y2 t2,t4,p2,f2,none⟩,⟨some d3,.assign (.tmp d2),t5,p3,f3,none⟩].toArray false) env h Q :=
  rg id (mV (vV (eD h1 h2 b1 b2) (aV hk hz e3) e2) hx e1)
def eH (L : Nat → Bool) : List (Nat × Nat) → List AB → Hp → Hp
  | (s,k) :: r,b :: bs,h => eH L r bs (match L s with | true => h.set k b | false => h)
  | _,_,h => h
def O4 (pre bef : Nat → Bool) : List (Nat × Nat) → List AB → Hp → Hp
  | (s,k) :: r,b :: bs,h => O4 pre bef r bs (match pre s with | true => h.set k b | false => match bef s with | true => h | false => h.set k .gone)
  | (s,k) :: r,[],h => O4 pre bef r [] (match bef s with | true => h | false => h.set k .gone)
  | [],_,h => h
def seeH (pres : List (List Nat)) (i : Nat) (pre : List Nat) (ss : List (Nat × Nat)) (bs : List AB) (h : Hp) : Hp :=
  O4 (fun s => pre.any (Nat.beq s)) (fun s => Nat.beq s i || (pres.getD s []).any (Nat.beq i)) ss bs h
def JC (pres : List (List Nat)) : List (Nat × Nat) → Bool
  | [] => true
  | (s,k) :: r => (r.all fun x => !Nat.beq x.1 s && (!Nat.beq x.2 k || (pres.getD x.1 []).any (Nat.beq s))) && JC pres r
theorem nP (L : Nat → Bool) : ∀ (ss : List (Nat × Nat)) (bs : List AB) (h : Hp), (eH L ss bs h).length = h.length
  | [],_,_ => rfl
  | _ :: _,[],_ => rfl
  | (s,k) :: r,b :: bs,h => by
    simp only [eH];rw [nP L r bs];cases L s <;> simp
theorem vD (pre bef : Nat → Bool) : ∀ (ss : List (Nat × Nat)) (bs : List AB) (h : Hp), (O4 pre bef ss bs h).length = h.length
  | [],_,_ => rfl
  | (s,k) :: r,[],h => by simp only [O4];rw [vD pre bef r []];cases bef s <;> simp
  | (s,k) :: r,b :: bs,h => by
    simp only [O4];rw [vD pre bef r bs];cases pre s <;> cases bef s <;> simp
theorem nW {L L' : Nat → Bool} : ∀ (ss : List (Nat × Nat)) (bs : List AB) (h : Hp), (∀ x, x ∈ ss → L x.1 = L' x.1) → eH L ss bs h = eH L' ss bs h
  | [],_,_,_ => rfl
  | _ :: _,[],_,_ => rfl
  | (s,k) :: r,b :: bs,h,hx => by
    simp only [eH];rw [hx (s,k) aL,nW r bs _ (fun x h => hx x (aF _ h))]
theorem NZ {h1 h2 : Hp} (hl : h1.length = h2.length) (hb : ∀ (j : Nat) b,h1[j]? = some b → b ≠ .gone → h2[j]? = some b) (k : Nat) (b' : AB) : ∀ (j : Nat) b,(h1.set k b')[j]? = some b → b ≠ .gone → (h2.set k b')[j]? = some b := by
  intro j b hj hg;rw [cK] at hj ⊢;rw [← hl];split
  · rename_i e;rw [if_pos e] at hj;exact hj
  · rename_i e;rw [if_neg e] at hj;exact hb j b hj hg
theorem KV {h1 h2 : Hp} (hb : ∀ (j : Nat) b,h1[j]? = some b → b ≠ .gone → h2[j]? = some b) (k : Nat) : ∀ (j : Nat) b,(h1.set k .gone)[j]? = some b → b ≠ .gone → j ≠ k ∧ h2[j]? = some b := by
  intro j b hj hg;rw [cK] at hj;split at hj
  · split at hj
    · cases hj;exact absurd rfl hg
    · cases hj
  · rename_i e;exact ⟨fun e' => e e'.symm,hb j b hj hg⟩
theorem J0 {L pre bef : Nat → Bool} : ∀ (ss : List (Nat × Nat)) (bs : List AB) (h1 h2 : Hp),bs.length = ss.length → h1.length = h2.length → (∀ (j : Nat) b,h1[j]? = some b → b ≠ .gone → h2[j]? = some b) →
    (∀ x,x ∈ ss → pre x.1 = true → L x.1 = true) → (∀ x,x ∈ ss → pre x.1 = false → bef x.1 = true → L x.1 = false) → ∀ (j : Nat) b,(O4 pre bef ss bs h1)[j]? = some b → b ≠ .gone → (eH L ss bs h2)[j]? = some b
  | [],_,_,_,_,_,hb,_,_ => hb
  | _ :: _,[],_,_,hl,_,_,_,_ => by simp at hl
  | (s,k) :: r,b' :: bs,h1,h2,hl,hl2,hb,hp,hn => by
    simp only [O4,eH];have h3 := hp (s,k) aL;have h4 := hn (s,k) aL;simp only at h3 h4;refine J0 r bs _ _ (by simpa using hl) ?_ ?_ (fun x hx => hp x (aF _ hx)) (fun x hx => hn x (aF _ hx))
    · cases pre s <;> cases bef s <;> cases L s <;> simpa using hl2
    · cases hps : pre s with
      | true =>
        rw [h3 hps];exact NZ hl2 hb k b'
      | false =>
        cases hbs : bef s with
        | true => rw [h4 hps hbs];exact hb
        | false =>
          intro j b hj hg;obtain ⟨h5,h6⟩ := KV hb k j b hj hg;cases L s with
          | true => simp only;rw [iV (fun e => h5 e.symm)];exact h6
          | false => exact h6
theorem R3 {pre bef : Nat → Bool} : ∀ (ss : List (Nat × Nat)) (don mb : List AB) (h : Hp), (∀ x, x ∈ ss.drop don.length → pre x.1 = false) → O4 pre bef ss (don ++ mb) h = O4 pre bef ss don h
  | [],_,_,_,_ => rfl
  | (s,k) :: r,[],[],h,_ => by simp only [List.append_nil]
  | (s,k) :: r,[],b :: mb,h,hx => by
    have h1 := hx (s,k) aL;have h2 := R3 (pre := pre) (bef := bef) r [] mb (match bef s with | true => h | false => h.set k .gone) (fun x hx' => hx x (by simpa using aF _ hx'))
    simp only at h1;simp only [List.nil_append,O4,h1] at h2 ⊢;exact h2
  | (s,k) :: r,b :: don,mb,h,hx => by
    simp only [List.cons_append,O4];exact R3 r don mb _ (fun x hx' => hx x (by simpa using hx'))
theorem X7 {L : Nat → Bool} : ∀ (ss : List (Nat × Nat)) (bs : List AB) (h : Hp) (k : Nat) (b : AB), (∀ x, x ∈ ss → L x.1 = true → x.2 ≠ k) → eH L ss bs (h.set k b) = (eH L ss bs h).set k b
  | [],_,_,_,_,_ => rfl
  | _ :: _,[],_,_,_,_ => rfl
  | (s,k') :: r,b' :: bs,h,k,b,hx => by
    simp only [eH];have h1 := hx (s,k') aL;simp only at h1;rw [← X7 r bs _ k b (fun x h => hx x (aF _ h))];cases hL : L s with
    | true => simp only;rw [List.set_comm _ _ (fun e => h1 hL e.symm)]
    | false => rfl
theorem B7 {pres : List (List Nat)} {L L' : Nat → Bool} {s k : Nat} {b : AB} : ∀ (ss : List (Nat × Nat)) (bs : List AB) (h : Hp) (m : Nat),JC pres ss = true → ss[m]? = some (s,k) → bs[m]? = some b → L s = false → (∀ j,L' j = (L j || Nat.beq j s)) →
    (∀ x,x ∈ ss → L x.1 = true → ∀ j,j ∈ pres.getD x.1 [] → L j = true) → eH L' ss bs h = (eH L ss bs h).set k b
  | [],_,_,m,_,hs,_,_,_,_ => by simp at hs
  | _ :: _,[],_,m,_,_,hb,_,_,_ => by simp at hb
  | (s0,k0) :: r,b0 :: bs,h,m,hok,hs,hb,hL,hL',hcl => by
    simp only [JC,aN,bD] at hok;obtain ⟨h1,h2⟩ := hok;simp only [eH];cases m with
    | zero =>
      simp only [dK,Option.some.injEq,Prod.mk.injEq] at hs hb;obtain ⟨rfl,rfl⟩ := hs;subst hb;rw [hL,hL',eQ,rK];simp only
      rw [nW (L := L') (L' := L) r bs _ (fun x hx => by
        have := (h1 x hx).1
        rw [hL',show Nat.beq x.1 s0 = false from by simpa using this,kL])]
      refine X7 r bs h k0 b0 fun x hx hLx e => ?_
      rcases iO.1 (h1 x hx).2 with h3 | h3
      · rw [e,eQ] at h3;cases h3
      · have := hcl x (aF _ hx) hLx s0 (nX.1 h3);rw [hL] at this;cases this
    | succ m =>
      simp only [gV] at hs hb;have hne : s0 ≠ s := fun e => by
        have := (h1 (s,k) (aJ hs)).1;rw [e] at this;simp at this
      have e1 : L' s0 = L s0 := by
        rw [hL',show Nat.beq s0 s = false from by rw [← eE];intro hb';exact hne (aM hb'),kL]
      rw [e1];exact B7 r bs _ m h2 hs hb hL hL' (fun x hx => hcl x (aF _ hx))
theorem FT {L L' : Nat → Bool} : ∀ (l : List mI) (i : Nat), (∀ (j : Nat) f, l[j]? = some f → L (i + j) = L' (i + j) ∨ f.new = []) → kF L i l = kF L' i l
  | [],_,_ => rfl
  | f :: r,i,hx => by
    simp only [kF];rw [FT (L := L) (L' := L') r (i + 1) (fun j g hg => by rw [eG,vT 1 j];exact hx (j + 1) g (by simpa using hg))]
    rcases hx 0 f rfl with h1 | h1
    · rw [Nat.add_zero] at h1;rw [h1]
    · rw [h1];cases L i <;> cases L' i <;> rfl
def N8 (P : Program) (o : Oper) (env : dD) (h : Hp) (k : Nat) (nb : AB) : Prop :=
  ∀ c ρ S a w H,HS c ρ S H w → Y9 ρ S env h a w → (∀ (j : Nat) b,h[j]? = some b → b ≠ .gone → H[j]? = some b) → ∀ (K : Act → World → Prop) Q,
    (∀ y w',HS c ρ S (H.set k nb) w' → hY ρ ρ S S w w' → K (a.put none y) w') → o.wp P a w K Q
theorem N8.more {P : Program} {o : Oper} {env env' : dD} {h : Hp} {k : Nat} {nb : AB} (hs : N8 P o env h k nb) (he : ∀ t u,look env t = some u → look env' t = some u) : N8 P o env' h k nb :=
  fun c ρ S a w H g p => hs c ρ S a w H g ⟨fun t u hu => p.env t u (he t u hu),p.rng,p.blk,p.live,p.stab,p.glob⟩
def Z7 (h : Hp) : AV → List AV → Option (Nat × AB)
  | .ptr k off, xs => match h[k]? with
    | some (.cells cs) => match Nat.ble (off + xs.length) cs.length with
      | true => some (k,.cells (iZ cs off xs))
      | false => none
    | _ => none
  | .ep k i off sz, xs => match h[k]? with
    | some (.arr es s) => match Nat.beq s sz, es[i]?, Nat.ble (off + xs.length) sz with
      | true,some c,true => some (k,.arr (es.set i (iZ c off xs)) s)
      | _,_,_ => none
    | _ => none
  | _,_ => none
theorem WC {h : Hp} {k i off sz : Nat} {es : List (List AV)} {c xs : List AV} (hk : h[k]? = some (.arr es sz)) (hc : es[i]? = some c) (hl : Nat.ble (off + xs.length) sz = true) : Z7 h (.ep k i off sz) xs = some (k,.arr (es.set i (iZ c off xs)) sz) := by
  simp only [Z7,hk,eQ,hc,hl]
theorem FO {P : Program} {env : dD} {h : Hp} {pos : String} {ty : TypeId} {af : Array Edge} (T : oA P) {t : Nat} {i : TI} {x y : Operand} {u v : AV} {xs : List AV} {k : Nat} {nb : AB} (hx : evu env x = some u) (hy : evu env y = some v) (ht : T.ti t = some i) (hv : v.cellsOf = some xs) (hl : xs.length = i.size) (h1 : xs.all AV.one = true) (h0 : 0 < i.size) (hu : Z7 h u xs = some (k,nb)) :
    N8 P ⟨none,.store t x y,ty,pos,af,none⟩ env h k nb := by
  intro c ρ S a w H g p hH K' Q hK';have hxv := p.evu hx;have hyv := uH (p.evu hy) hv;have hone := E3 hyv h1;have hlen := eV hyv;simp only [fJ] at hlen;have run : ∀ {b o : Nat} {cc : Array Value} {e : TypeId},a.eval x = .pointer (some ⟨b,o,none⟩) → w.heap[b]? = some (.cells cc e (0,0)) → o + (a.eval y).cells.toList.length ≤ cc.size →
      (execOp a.eval ⟨none,.store t x y,ty,pos,af,none⟩).run P w = .ok .skip (w.setRow b (cc.toList.take o ++ (a.eval y).cells.toList ++ cc.toList.drop (o + (a.eval y).cells.toList.length)).toArray) := fun {b o cc e} he hc hle => by
    have hst := run_storeCells_at P b o e (a.eval y).cells.toList 0 cc w hc (by simpa using hle) hone
    simp only [Nat.add_zero] at hst;simp only [execOp,he,Instr.storeAt,Instr.sureAddr,storeVar,Sem.run_bind,Sem.run_pure,Result.andThen_ok,T.sizeOf ht];rw [if_neg (by simp;omega)]
    simp only [hst,Result.andThen_ok]
  have fin : ∀ {k b o : Nat} {b0 nb : AB} {cc : Array Value} {e : TypeId} {off : Nat} {ys : List Value},(∀ y w',HS c ρ S (H.set k nb) w' → hY ρ ρ S S w w' → K' (a.put none y) w') → h[k]? = some b0 → b0 ≠ .gone → ρ k = some (b,o) → w.heap[b]? = some (.cells cc e (0,0)) → (∀ (j : Nat) (y : Value),ys[j]? = some y → cc[o + j]? = some y) → off + (a.eval y).cells.toList.length ≤ ys.length → a.eval x = .pointer (some ⟨b,o + off,none⟩) →
      (∀ w',hY ρ ρ S S w w' → U8 w' b o (iZ ys off (a.eval y).cells.toList) → RB S w' ρ (some (b,o)) nb) →
      Oper.wp P ⟨none,.store t x y,ty,pos,af,none⟩ a w K' Q := fun {k b o b0 nb cc e off ys} hK' e2 e3 e4 e5 e6 e7 e8 e9 => by
    obtain ⟨f1,f2,f3⟩ := yD e5 e6 e7 (by simp;omega)
    have hr := run e8 e5 f1;unfold Oper.wp;rw [hr];obtain ⟨g1,g2⟩ := g.upd (hH _ _ e2 e3) e3 e4 (pB e5 f3) (fun l => e9 _ l f2);exact hK' _ _ g1 g2
  cases u with
  | ptr k off =>
    simp only [Z7] at hu;split at hu
    · rename_i cs hk';split at hu
      · rename_i hble;cases hu;have hle := bC hble;simp only [R] at hxv;obtain ⟨b,o,hp,hev⟩ := hxv;have hb := p.blk k _ hk';simp only [RB,hp] at hb;obtain ⟨b',o',ys,hq,⟨cc,e,hc,hcy⟩,hcs⟩ := hb;cases hq;have hyl := eV hcs;refine fin hK' hk' (by simp) hp hc hcy (by simp;omega) hev fun w' l hh => ?_
        simp only [RB];exact ⟨b,o,_,rfl,hh,L4 (hcs.later l) (hyv.later l)⟩
      · cases hu
    · cases hu
  | ep k j off sz =>
    simp only [Z7] at hu;split at hu
    · rename_i es s' hk';split at hu
      · rename_i cj hbeq hj hble;cases hu;have hsz := aM hbeq;subst hsz;have hle := bC hble;simp only [R] at hxv;obtain ⟨b,o,hp,hev⟩ := hxv;have hb := p.blk k _ hk';simp only [RB,hp] at hb;obtain ⟨hes,hs0,hb⟩ := hb;rcases hb with hb | ⟨b',o',ys,hq,⟨cc,e,hc,hcy⟩,hcs⟩
        · obtain ⟨hb,_⟩ := hb;subst hb;simp at hj
        cases hq;have hyl := eV hcs;have hjl : j < es.length := (aA.1 hj).1;have hfl := eB hes;have hjm : j * s' + s' ≤ es.length * s' := by
          calc j * s' + s' = (j + 1) * s' := by rw [eL]; omega
            _ ≤ es.length * s' := fN _ hjl
        refine fin hK' hk' (by simp) hp hc hcy (off := j * s' + off) (by simp;omega) hev fun w' l hh => ?_
        simp only [RB];have hput := L4 (off := j * s' + off) (hcs.later l) (hyv.later l);rw [uQ hes hj (by omega)] at hput
        refine ⟨fun e1 he1 => ?_,hs0,.inr ⟨b,o,_,rfl,hh,hput⟩⟩
        rcases rP he1 with h2 | h2
        · exact hes e1 h2
        · subst h2;rw [wJ];exact hes _ (aJ hj)
      · cases hu
    · cases hu
  | _ => simp [Z7] at hu
theorem uK.store {P : Program} {n : Nat × Nat} {c : oU} {env : dD} {h h' : Hp} {all : List mI} {L L' : Nat → Bool} {ρ : Pl} {S : Nat → Prop} {a : Act} {w w' : World} {i : Nat} {y : Value} (s : uK P n c env h all L ρ S a w)
    (hf : all[i]? = some ⟨none,.v undef,[]⟩) (hL : ∀ j,L' j = (L j || Nat.beq j i)) (hh : HS c ρ S (h' ++ kF L 0 all) w') (hl : h'.length = h.length) (l : hY ρ ρ S S w w') : uK P n c env h' all L' ρ S (a.put none y) w' := by
  have old : ∀ j,L' j = false → L j = false := fun j hj => by rw [hL] at hj;exact (iB.1 hj).1
  refine ⟨s.size,s.defers.later l,s.cm,fun t x hx => (s.env0 t x hx).later l,fun j g t hg hj ht => ?_,?_,fun j g hg hj k hk => by rw [hl];exact s.undone j g hg (old j hj) k hk⟩
  · by_cases hji : j = i
    · subst hji;rw [hf] at hg;cases hg;cases ht
    · have hjL : L j = true := by
        rw [hL] at hj;rcases iO.1 hj with hj | hj
        · exact hj
        · exact absurd (aM hj) hji
      exact (s.done j g t hg hjL ht).later l
  · rwa [FT (L := L') (L' := L) all 0 (fun j g hg => by
      rw [Nat.zero_add];by_cases hji : j = i
      · subst hji;rw [hf] at hg;cases hg;exact .inr rfl
      · left;rw [hL,show Nat.beq j i = false from by rw [← eE];intro hb;exact hji (aM hb),kL])]
def zM5 (P : Program) (n : Nat × Nat) (ops : Array Oper) (pres : List (List Nat)) (ss : List (Nat × Nat)) (ds : List Nat) (env : dD) (h : Hp) (effs : List mI) (don : List AB) (K : dD → Hp → Prop) : Prop :=
  ∃ more mb,(effs ++ more).length = pres.length ∧ (don ++ mb).length = ss.length ∧ jF (effs ++ more) = ds ∧
    (∀ i f pre,effs.length ≤ i → (effs ++ more)[i]? = some f → pres[i]? = some pre →
      ((∀ x,x ∈ ss → x.1 ≠ i) ∧ CV P ops i (xH env ((effs ++ more).take i) pre) (seeH pres i pre ss (don ++ mb) h ++ kF (fun j => pre.any (Nat.beq j)) 0 ((effs ++ more).take i)) f) ∨
      (∃ (m k : Nat) (b : AB) (o : Oper),ss[m]? = some (i,k) ∧ (don ++ mb)[m]? = some b ∧ f = ⟨none,.v undef,[]⟩ ∧ ops[i]? = some o ∧ o.guard = none ∧ k < h.length ∧ N8 P o (xH env ((effs ++ more).take i) pre) (seeH pres i pre ss (don ++ mb) h ++ kF (fun j => pre.any (Nat.beq j)) 0 ((effs ++ more).take i)) k b)) ∧
    VC P n ops (ops.toList.drop pres.length) (xH env (effs ++ more) (List.range pres.length)) (eH (fun _ => true) ss (don ++ mb) h ++ kF (fun _ => true) 0 (effs ++ more)) K
theorem UO {P : Program} {n : Nat × Nat} {env : dD} {h : Hp} {Q : Exit → dD → Hp → Prop} {id : Nat} {l : List Oper} (pres : List (List Nat)) (ds : List Nat) (ss : List (Nat × Nat)) (hm : P.follows .mixedOrders = true) (hok : sU l.toArray pres = true) (hss : JC pres ss = true) (hssl : (ss.all fun x => Nat.blt x.1 pres.length) = true) (hnd : ds.Nodup) (hds : (ds.all fun d => Nat.blt d n.1) = true) (hsz : Nat.ble pres.length l.length = true)
    (hv : zM5 P n l.toArray pres ss ds (eF ds env) h [] [] (fun v h => Q .normal v h)) (hndf : mZ l = true := by rfl) : AW P n (.region id l.toArray true) env h Q := by
  intro c ρ S a w QX s hX;refine qP hm hndf ?_;have hQ : ∀ (env' : dD) (h' : Hp) ρ' S' a' w',Q .normal env' h' → oD n c ρ' S' env' h' a' w' → (fun e a w => e = Exit.normal ∧ QX Exit.normal a w) Exit.normal a' w' := fun env' h' ρ' S' a' w' k s' => ⟨rfl,hX .normal env' h' ρ' S' a' w' k s'⟩
  generalize (fun e a w => e = Exit.normal ∧ QX Exit.normal a w) = QQ at hQ ⊢;obtain ⟨all,bs,h1,hbl,h2,h3,h4⟩ := hv;simp only [List.nil_append,List.length_nil,bG,true_implies] at h1 hbl h2 h3 h4;have hAT : ∀ L : Nat → Bool,(∀ j,j < pres.length → L j = true) → eH L ss bs h = eH (fun _ => true) ss bs h := fun L hL => nW ss bs h fun x hx => hL x.1 (by have := bD.1 hssl x hx;exact bC this)
  have hple : pres.length ≤ l.toArray.size := by simpa using bC hsz
  have henv : ∀ t x,look (eF ds env) t = some x → look env t = some x ∧ t ∉ jF all := fun t x hx => by rw [h2];exact kG hx
  -- the first operations,in whatever order
  have key : ∀ (fuel : Nat) (listed : Array Bool) (U : List Nat) (ρ : Pl) (S : Nat → Prop) (a : Act) (w : World),listed.size = l.toArray.size → (∀ j,j < l.toArray.size → listed.getD j false = false → j ∈ U) → U.length ≤ fuel → (∀ j,pres.length ≤ j → listed.getD j false = false) →
      (∀ (i : Nat) o,l.toArray[i]? = some o → listed.getD i false = true → ∀ e,e ∈ o.after → Region.binds .any e = true → listed.getD e.on false = true) →
      uK P n c (eF ds env) (eH (fun j => listed.getD j false) ss bs h) all (fun j => listed.getD j false) ρ S a w → wpAny P .any l.toArray QQ fuel listed a w := by
    intro fuel
    induction fuel with
    | zero =>
      intro listed U ρ S a w hls hU hUl htail hcl st;have hU0 : U = [] := cF (by omega)
      subst hU0;have hall : ∀ j,j < l.toArray.size → listed.getD j false = true := fun j hj => by
        cases hb : listed.getD j false with
        | true => rfl
        | false => exact absurd (hU j hj hb) (by simp)
      have hpm : pres.length = l.toArray.size := by
        rcases gP pres.length l.toArray.size with h5 | h5
        · have := htail pres.length (aU _);rw [hall _ h5] at this;cases this
        · omega
      refine qI (k := pres.length) (r := 0) hok _ _ a w (by omega) (aU _) (aU _) hls (fun j hj => ?_) (h4 c ρ S a w QQ ?_ fun env' h' ρ' S' a' w' k s' => hQ env' h' ρ' S' a' w' k s')
      · rw [hall j hj];simp;omega
      · refine ⟨st.size,st.defers,fun t x hx => ?_,?_,st.cm⟩
        · rcases mJ hx with hx | ⟨j,f,h5,h6,h7,rfl⟩
          · exact st.env0 t x hx
          · exact st.done j f t h6 (hall j (by have := (aA.1 h6).1;omega)) h7
        · have := st.hs
          rwa [lU (L := fun j => listed.getD j false) (L' := fun _ => true) all 0 (fun j _ hj => hall j (by omega)),hAT _ (fun j hj => hall j (by omega))] at this
    | succ fuel ih =>
      intro listed U ρ S a w hls hU hUl htail hcl st;by_cases hfl : ∀ j,j < pres.length → listed.getD j false = true
      · -- all of the first ones have come up
        refine qI (k := pres.length) (r := l.toArray.size - pres.length) hok _ _ a w (by omega) (aU _) ?_ hls (fun j hj => ?_) (h4 c ρ S a w QQ ?_ fun env' h' ρ' S' a' w' k s' => hQ env' h' ρ' S' a' w' k s')
        · have hsub : ∀ j,j ∈ List.range' pres.length (l.toArray.size - pres.length) → j ∈ U := fun j hj => by
            rw [VP] at hj;exact hU j (by omega) (htail j hj.1)
          have := (VO (s := pres.length) (n := l.toArray.size - pres.length)).length_le_of_subset hsub;rw [QE] at this;omega
        · by_cases hj' : j < pres.length
          · rw [hfl j hj'];simp [hj']
          · rw [htail j (by omega)];simp;omega
        · refine ⟨st.size,st.defers,fun t x hx => ?_,?_,st.cm⟩
          · rcases mJ hx with hx | ⟨j,f,h5,h6,h7,rfl⟩
            · exact st.env0 t x hx
            · exact st.done j f t h6 (hfl j (by have := (aA.1 h6).1;omega)) h7
          · have := st.hs
            rwa [lU (L := fun j => listed.getD j false) (L' := fun _ => true) all 0 (fun j _ hj => hfl j (by omega)),hAT _ hfl] at this
      · obtain ⟨j0,hj0,hjf⟩ : ∃ j,j < pres.length ∧ listed.getD j false = false := by
          apply Classical.byContradiction;intro hc;apply hfl;intro j hj;cases hb : listed.getD j false with
          | true => rfl
          | false => exact absurd ⟨j,hj,hb⟩ hc
        -- something is ready
        have hex : Region.ready .any l.toArray listed ≠ [] := by
          have least : ∃ j,j < pres.length ∧ listed.getD j false = false ∧ ∀ k,k < j → listed.getD k false = true := by
            have : ∀ b j,j ≤ b → j < pres.length → listed.getD j false = false → ∃ j,j < pres.length ∧ listed.getD j false = false ∧ ∀ k,k < j → listed.getD k false = true := by
              intro b
              induction b with
              | zero => exact fun j hj h5 h6 => ⟨j,h5,h6,fun k hk => by omega⟩
              | succ b ihb =>
                intro j hj h5 h6;by_cases hk : ∃ k,k < j ∧ listed.getD k false = false
                · obtain ⟨k,hk1,hk2⟩ := hk;exact ihb k (by omega) (by omega) hk2
                · refine ⟨j,h5,h6,fun k hk' => ?_⟩
                  cases hb : listed.getD k false with
                  | true => rfl
                  | false => exact absurd ⟨k,hk',hb⟩ hk
            exact this j0 j0 (aU _) hj0 hjf
          obtain ⟨j,h5,h6,h7⟩ := least;intro he;have hlt : j < l.toArray.size := by omega
          have : j ∈ Region.ready .any l.toArray listed := mem_ready.2 ⟨by
            have e : listed.getD j true = listed.getD j false := by simp only [Array.getD,hls,hlt,dif_pos]
            rw [e,h6],_,cT hlt,fun e he hb => h7 _ (lF hok (cT hlt) e he hb)⟩
          rw [he] at this;cases this
        refine ⟨fun h5 => absurd h5 hex,fun i hi => ?_⟩
        obtain ⟨g1,o,ho,hall⟩ := mem_ready.1 hi;have hil : i < l.toArray.size := (aR.1 ho).1;have g1' : listed.getD i false = false := by
          have e : listed.getD i true = listed.getD i false := by simp only [Array.getD,hls,hil,dif_pos]
          rw [← e];exact g1
        have him : i < pres.length := by
          rcases gP i pres.length with h5 | h5
          · exact h5
          · obtain ⟨e,he,hb,hon⟩ := uB hok ho h5 j0 (by omega)
            have := hall e he hb;rw [hon,hjf] at this;cases this
        have hfi : all[i]? = some all[i] := aC (by omega)
        obtain ⟨pre,hpre⟩ : ∃ pre,pres[i]? = some pre := ⟨_,aC him⟩
        -- its predecessors have come up
        have up : ∀ (b k : Nat) (p : List Nat),k ≤ b → pres[k]? = some p → (k = i ∨ listed.getD k false = true) → ∀ j,j ∈ p → listed.getD j false = true := by
          intro b
          induction b with
          | zero =>
            intro k p hk hp _ j hj;obtain ⟨ok,hok1⟩ : ∃ o,l.toArray[k]? = some o := ⟨_,cT (by have := (aA.1 hp).1;omega)⟩
            have := (oX hok hok1 hp j hj).1;omega
          | succ b ihb =>
            intro k p hk hp hki j hj;obtain ⟨ok,hok1⟩ : ∃ o,l.toArray[k]? = some o := ⟨_,cT (by have := (aA.1 hp).1;omega)⟩
            obtain ⟨_,e,he,hb,hor⟩ := oX hok hok1 hp j hj;have hle : listed.getD e.on false = true := by
              rcases hki with rfl | hki
              · rw [ho] at hok1;cases hok1;exact hall e he hb
              · exact hcl k ok hok1 hki e he hb
            rcases hor with hor | hor
            · rw [← hor];exact hle
            · have hon := lF hok hok1 e he hb;cases hpe : pres[e.on]? with
              | none => rw [aD,hpe] at hor;simp at hor
              | some p' =>
                rw [aD,hpe] at hor;exact ihb e.on p' (by omega) hpe (.inr hle) j hor
        have hprel : ∀ j,j ∈ pre → listed.getD j false = true := up i i pre (aU _) hpre (.inl rfl);have hH0 : (eH (fun j => listed.getD j false) ss bs h).length = h.length := nP _ _ _ _;have hhv : (seeH pres i pre ss bs h).length = h.length := vD _ _ _ _ _;have hbel : ∀ (k : Nat) b,(seeH pres i pre ss bs h)[k]? = some b → b ≠ .gone → (eH (fun j => listed.getD j false) ss bs h)[k]? = some b := by
          refine J0 ss bs h h hbl rfl (fun _ _ hb _ => hb) (fun x _ hp => hprel _ (nX.1 hp)) (fun x hx _ hbf => ?_);cases hlx : listed.getD x.1 false with
          | false => rfl
          | true =>
            rcases iO.1 hbf with h5 | h5
            · rw [aM h5,g1'] at hlx;cases hlx
            · cases hpx : pres[x.1]? with
              | none => rw [aD,hpx] at h5;simp at h5
              | some px =>
                rw [aD,hpx] at h5;have := up x.1 x.1 px (aU _) hpx (.inr hlx) i (nX.1 h5);rw [g1'] at this;cases this
        have hbel2 : ∀ (k : Nat) b,(seeH pres i pre ss bs h ++ kF (fun j => pre.any (Nat.beq j)) 0 (all.take i))[k]? = some b → b ≠ .gone → (eH (fun j => listed.getD j false) ss bs h ++ kF (fun j => listed.getD j false) 0 all)[k]? = some b := fun k b hb hgb => by
          by_cases hk : k < h.length
          · rw [aG (by omega)] at hb ⊢;exact hbel k b hb hgb
          · rw [aE (by omega)] at hb ⊢
            rw [hhv] at hb;rw [hH0];have h5 := D6 (L' := fun j => listed.getD j false) _ _ _ _ (fun j hj => hprel j (nX.1 hj)) hb hgb;have h6 : kF (fun j => listed.getD j false) 0 all = kF (fun j => listed.getD j false) 0 (all.take i) ++ kF (fun j => listed.getD j false) (0 + (all.take i).length) (all.drop i) := by
              rw [← qK,cI]
            rw [h6,aG (aA.1 h5).1];exact h5
        have hpreP : Y9 ρ S (xH (eF ds env) (all.take i) pre) (seeH pres i pre ss bs h ++ kF (fun j => pre.any (Nat.beq j)) 0 (all.take i)) a w := by
          refine ⟨fun t x hx => ?_,st.hs.rng,fun k b hb => ?_,fun k b p hb hgb hp => (st.hs.live k b p (hbel2 k b hb hgb) hgb hp).2,st.hs.stab,st.hs.glob⟩
          · rcases mJ hx with hx | ⟨j,f,h5,h6,h7,rfl⟩
            · exact st.env0 t x hx
            · rw [bS] at h6;split at h6
              · exact st.done j f t h6 (hprel j h5) h7
              · cases h6
          · by_cases hgb : b = .gone
            · subst hgb;trivial
            · exact st.hs.blk k b (hbel2 k b hb hgb)
        have hposl : (seeH pres i pre ss bs h ++ kF (fun j => pre.any (Nat.beq j)) 0 (all.take i)).length = (eH (fun j => listed.getD j false) ss bs h).length + mK (all.take i) := by rw [aB,nG,hhv,hH0]
        have hokd : J5 all[i].d n = true := by
          cases hdi : all[i].d with
          | none => rfl
          | some d =>
            have : d ∈ ds := by rw [← h2];exact jV.2 ⟨all[i],aH _,hdi⟩
            exact bD.1 hds d this
        -- on,iQ it
        have hget : ∀ j,(listed.setIfInBounds i true).getD j false = (listed.getD j false || Nat.beq j i) := fun j => by
          by_cases hij : i = j
          · subst hij;rw [eQ,rK];simp only [Array.getD,P1,hls,hil,dif_pos];simp
          · rw [getD_set_ne false hij,show Nat.beq j i = false from by rw [← eE];intro hb;have := aM hb;omega,kL]
        have onS : ∀ ρ' S' a' w',uK P n c (eF ds env) (eH (fun j => (listed.setIfInBounds i true).getD j false) ss bs h) all (fun j => (listed.setIfInBounds i true).getD j false) ρ' S' a' w' → wpAny P .any l.toArray QQ fuel (listed.setIfInBounds i true) a' w' := fun ρ' S' a' w' st' => by
          have hiU : i ∈ U := hU i hil g1';refine ih (listed.setIfInBounds i true) (U.erase i) ρ' S' _ w' (by simpa using hls) (fun j hj hjl => ?_) (by rw [tK hiU];omega) (fun j hj => ?_) (fun k ok hok1 hkl e he hb => ?_) st'
          · rw [hget] at hjl;obtain ⟨h5,h6⟩ := iB.1 hjl;have hne : j ≠ i := fun e => by rw [e,eQ] at h6;cases h6
            exact (yW hne).2 (hU j hj h5)
          · rw [hget,htail j hj,show Nat.beq j i = false from by rw [← eE];intro hb;have := aM hb;omega];rfl
          · rw [hget] at hkl ⊢;rcases iO.1 hkl with h5 | h5
            · rw [hcl k ok hok1 h5 e he hb];rfl
            · have := aM h5;subst this;rw [ho] at hok1;cases hok1;rw [hall e he hb];rfl
        have yv : ∀ {g t : Nat} {b : Bool},(l.toArray[g]?).bind (·.dst) = some t → look (xH (eF ds env) (all.take i) pre) t = some (.b b) → yielded l.toArray a.tmps g = some b := fun {g t b} h5 h6 => by
          have h7 := pZ (hpreP.env t _ h6);unfold yielded;rw [h5];have : a.tmps[t]? = some (.bool b) := by
            rw [cY] at h7;cases h8 : a.tmps[t]? with
            | none => rw [h8] at h7;simp [undef] at h7
            | some v => rw [h8] at h7;simp at h7;rw [h7]
          simp [this]
        have yvu : ∀ {g t : Nat},(l.toArray[g]?).bind (·.dst) = some t → look (xH (eF ds env) (all.take i) pre) t = some (.v undef) → yielded l.toArray a.tmps g = none := fun {g t} h5 h6 => by
          have h7 := pZ (hpreP.env t _ h6);unfold yielded;rw [h5];rw [cY] at h7;cases h8 : a.tmps[t]? with
          | none => simp [h8]
          | some v => rw [h8] at h7;simp at h7;simp [h8,h7,undef]
        unfold wpOp;rw [ho];simp only;rcases h3 i all[i] pre hfi hpre with ⟨hns,o',ho',hd',hg⟩ | ⟨m,k,b,o',hm1,hm2,hf0,ho',hgu,hkl,hst⟩
        · rw [ho] at ho';cases ho';have hsame : eH (fun j => (listed.setIfInBounds i true).getD j false) ss bs h = eH (fun j => listed.getD j false) ss bs h := nW ss bs h fun x hx => by
            rw [hget,show Nat.beq x.1 i = false from by rw [← eE];intro hb;exact hns x hx (aM hb),kL]
          have on : ∀ y ρ' S' w',L5 ρ ρ' S S' w w' ((eH (fun j => listed.getD j false) ss bs h).length + mK (all.take i)) all[i].new.length all[i].x all[i].new y → wpAny P .any l.toArray QQ fuel (listed.setIfInBounds i true) (a.put all[i].d y) w' := fun y ρ' S' w' p => by
            have := st.step (L' := fun j => (listed.setIfInBounds i true).getD j false) hfi g1' hget p hokd (by rw [h2];exact hnd) (fun t x hx => (henv t x hx).2) (by rw [hH0];exact s.hs.mle)
            rw [← hsame] at this;exact onS _ _ _ _ this
          rcases hg with ⟨x,new,hgu,hfs,hx,hn⟩ | ⟨g,want,t,hgu,h5,h6,hx,hn⟩
          · have hw : Region.wanted o (yielded l.toArray a.tmps) = true := by
              rcases hgu with hgu | ⟨g,want,t,hgu,h5,h6⟩
              · exact pD hgu
              · simp [Region.wanted,hgu,yv h5 h6]
            rw [if_pos hw];left;have := hfs ρ S a w hpreP (seeH pres i pre ss bs h ++ kF (fun j => pre.any (Nat.beq j)) 0 (all.take i)).length (fun j hj => by rw [hposl];exact st.undone i _ hfi g1' j hj)
            refine this (wpAny P .any l.toArray QQ fuel (listed.setIfInBounds i true)) QQ fun y ρ' S' w' p => ?_
            rw [hx,hn,hposl] at p;have := on y ρ' S' w' p;rw [← hd'] at this;exact this
          · have hw : Region.wanted o (yielded l.toArray a.tmps) = false := by
              rcases h6 with h6 | h6
              · simp [Region.wanted,hgu,yv h5 h6]
              · simp [Region.wanted,hgu,yvu h5 h6]
            rw [if_neg (by rw [hw];exact tU)]
            have := on undef ρ S w ⟨lM.refl _ _,rfl,fun _ _ => rfl,fun _ h => h,fun _ h => .inl h,fun k p hk1 hk2 => by rw [hn,List.length_nil] at hk2;omega,fun k k' p p' hk1 hk2 => by rw [hn,List.length_nil] at hk2;omega,by rw [hx];exact kY _,fun j b hb => by rw [hn] at hb;simp at hb⟩
            rw [← hd'] at this;exact this
        · rw [ho] at ho';cases ho';have hw : Region.wanted o (yielded l.toArray a.tmps) = true := pD hgu;rw [if_pos hw];left;refine hst c ρ S a w _ st.hs hpreP hbel2 (wpAny P .any l.toArray QQ fuel (listed.setIfInBounds i true)) QQ fun y w' hh l' => ?_
          have hset : (eH (fun j => listed.getD j false) ss bs h ++ kF (fun j => listed.getD j false) 0 all).set k b = eH (fun j => (listed.setIfInBounds i true).getD j false) ss bs h ++ kF (fun j => listed.getD j false) 0 all := by
            rw [yT _ _ (by rw [hH0];exact hkl),B7 (L := fun j => listed.getD j false) (L' := fun j => (listed.setIfInBounds i true).getD j false) ss bs h m hss hm1 hm2 g1' hget (fun x hx hlx j hj => ?_)]
            cases hpx : pres[x.1]? with
            | none => rw [aD,hpx] at hj;simp at hj
            | some px =>
              rw [aD,hpx] at hj;exact up x.1 x.1 px (aU _) hpx (.inr hlx) j hj
          rw [hset] at hh;exact onS _ _ _ _ (st.store (hfi.trans (by rw [hf0])) hget hh (by rw [nP,nP]) l')
  have hsize : l.toArray.size = l.length := by simp
  have hrep : ∀ j,(Array.replicate l.toArray.size false).getD j false = false := fun j => by
    simp only [Array.getD];split <;> simp
  refine key l.toArray.size _ (List.range l.toArray.size) ρ S a _ (by simp) (fun j hj _ => by simpa using hj) (by simp) (fun j _ => hrep j) (fun i o _ hi => by rw [hrep] at hi;cases hi) ?_
  have hseg : ∀ (r : List mI) (i : Nat),kF (fun _ => false) i r = List.replicate (mK r) .gone := by
    intro r
    induction r with
    | nil => intro i;rfl
    | cons f r ih => intro i;simp only [kF,ih,mK,wZ]
  have hL : (fun j => (Array.replicate l.toArray.size false).getD j false) = fun _ => false := funext hrep
  rw [hL,show eH (fun _ => false) ss bs h = h from ?_]
  rotate_left
  · have : ∀ (ss : List (Nat × Nat)) (bs : List AB) (h : Hp),eH (fun _ => false) ss bs h = h := by
      intro ss
      induction ss with
      | nil => intros;rfl
      | cons x r ihr =>
        intro bs h;cases bs with
        | nil => rfl
        | cons b bs => simp only [eH];exact ihr bs h
    exact this ss bs h
  have l0 : hY ρ ρ S S w { w with drawn := w.drawn + 1 } := ⟨fun _ _ h => h,fun _ h => h,fun _ _ => rfl,fun _ _ _ _ _ h => h⟩
  refine ⟨s.size,s.defers.later l0,s.cm,fun t x hx => (s.env t x (kG hx).1).later l0,fun i f t _ hi => (by cases hi),?_,fun i f _ _ j _ => s.hs.dom _ (by omega)⟩
  rw [hseg];have ext : lM c.M c.w0 { w with drawn := w.drawn + 1 } := s.hs.ext.drew;have at_ : ∀ {k : Nat} {b : AB},(h ++ List.replicate (mK all) .gone)[k]? = some b → b ≠ .gone → h[k]? = some b := fun {k b} hb hg => by
    by_cases hk : k < h.length
    · rwa [aG hk] at hb
    · rw [aE (by omega),oR] at hb
      split at hb
      · cases hb;exact absurd rfl hg
      · cases hb
  refine ⟨fun k hk => s.hs.dom k (by simp at hk;omega),s.hs.rng,fun k b hb => ?_,fun k b p hb hg hp => s.hs.live k b p (at_ hb hg) hg hp,fun k k' b b' p p' hb hb' hg hg' hp hp' e => s.hs.inj k k' b b' p p' (at_ hb hg) (at_ hb' hg') hg hg' hp hp' e,s.hs.stab,ext,s.hs.st0,s.hs.st1,by simp;exact cQ s.hs.mle (gA _ _),s.hs.keep,s.hs.glob.later l0⟩
  by_cases hg : b = .gone
  · subst hg;trivial
  · exact RB.later l0 (fun _ _ _ => rfl) (s.hs.blk k b (at_ hb hg))
def iF (ops : List Oper) (pres : List (List Nat)) (ds : List Nat) (bads : List (List Nat)) (ss : List (Nat × Nat)) (n : Nat) : Bool :=
  lC ops pres ds bads n && JC pres ss && ss.all fun x => Nat.blt x.1 pres.length
structure H9 (ops : List Oper) (ss : List (Nat × Nat)) (env : dD) (i : Nat) (cur : dD) (objs : List (Nat × Hp)) (don : List AB) (effs : List mI) : Prop where
  g : B9 ops env i cur objs effs
  later : ∀ x,x ∈ ss.drop don.length → i ≤ x.1
def zG9 (P : Program) (n : Nat × Nat) (ops : List Oper) (pres : List (List Nat)) (ds : List Nat) (bads : List (List Nat)) (ss : List (Nat × Nat)) (env : dD) (h : Hp) (i : Nat) (cur : dD) (objs : List (Nat × Hp)) (don : List AB) (K : dD → Hp → Prop) : Prop :=
  iF ops pres ds bads ss n.1 = true → (∀ t,t ∈ ds → look env t = none) → ∀ effs,H9 ops ss env i cur objs don effs → zM5 P n ops.toArray pres ss ds env h effs don K
section
variable {P : Program} {n : Nat × Nat} {ops : List Oper} {pres : List (List Nat)} {ds : List Nat} {bads : List (List Nat)} {ss : List (Nat × Nat)} {env : dD} {h : Hp} {K : dD → Hp → Prop} {pre bad : List Nat}
theorem UR {Q : Exit → dD → Hp → Prop} {id : Nat} {l : List Oper} (pres : List (List Nat)) (ds : List Nat) (bads : List (List Nat)) (ss : List (Nat × Nat)) (hm : P.follows .mixedOrders = true) (hok : iF l pres ds bads ss n.1 = true)
    (hv : zG9 P n l pres ds bads ss (eF ds env) h 0 (eF ds env) [] [] (fun v h => Q .normal v h)) (hndf : mZ l = true := by rfl) : AW P n (.region id l.toArray true) env h Q := by
  have hok' := hok;simp only [iF,lC,aN,decide_eq_true_eq] at hok';obtain ⟨⟨⟨⟨⟨⟨⟨h1,h2⟩,h3⟩,h4⟩,h5⟩,h6⟩,h7⟩,h8⟩ := hok';refine UO pres ds ss hm h1 h7 h8 h2 h3 h4 (hv hok (fun t ht => ?_) [] ⟨⟨rfl,rfl,rfl,fun j f hf => by simp at hf⟩,fun x _ => bG _⟩) hndf
  cases hl : look (eF ds env) t with
  | none => rfl
  | some x => exact absurd ht (kG hl).2
variable {op : Op} {ty : TypeId} {pos : String} {af : Array Edge} {d : Option Nat} {i : Nat} {cur : dD} {objs : List (Nat × Hp)} {don : List AB}
theorem H9.seeH {effs : List mI} (hok : iF ops pres ds bads ss n.1 = true) (hi : i < ops.length) (g : H9 ops ss env i cur objs don effs) (hp : pres[i]? = some pre) (mb : List AB) : seeH pres i pre ss (don ++ mb) h = seeH pres i pre ss don h := by
  refine R3 ss don mb h fun x hx => ?_
  rw [← eE];intro hb;simp only [iF,lC,aN] at hok;have h1 := (oX (ops := ops.toArray) (i := i) (o := ops[i]) hok.1.1.1.1.1.1.1 (by simp [hi]) hp x.1 (nX.1 hb)).1
  have := g.later x hx;omega
theorem UD {effs : List mI} {f : mI} (hok : iF ops pres ds bads ss n.1 = true) (g : H9 ops ss env i cur objs don effs) (hp : pres[i]? = some pre) (hi : i < ops.length) (hns : (ss.all fun x => !Nat.beq x.1 i) = true)
    (hg : CV P ops.toArray i (xH env effs pre) (seeH pres i pre ss don h ++ oP pre objs) f) (hk : zM5 P n ops.toArray pres ss ds env h (effs ++ [f]) don K) : zM5 P n ops.toArray pres ss ds env h effs don K := by
  obtain ⟨more,mb,h1,h0,h2,h3,h4⟩ := hk;have e : effs ++ [f] ++ more = effs ++ (f :: more) := by simp
  rw [e] at h1 h2 h3 h4;have hie : effs.length = i := g.g.len;refine ⟨f :: more,mb,h1,h0,h2,fun j q p hj hgj hpj => ?_,h4⟩
  by_cases hji : j = i
  · subst hji;rw [hp] at hpj;cases hpj;rw [aE (by omega),hie,fP] at hgj
    simp at hgj;subst hgj;left;refine ⟨fun x hx hxe => ?_,?_⟩
    · have := bD.1 hns x hx;rw [hxe,eQ] at this;cases this
    · rw [jX,aQ (by omega),hie,fP,g.seeH hok hi hp mb]
      simp only [vU,List.append_nil];rw [mL,← g.g.objs];exact hg
  · exact h3 j q p (by simp;omega) hgj hpj
theorem H9.next {effs : List mI} {f : mI} (g : H9 ops ss env i cur objs don effs) {cur' : dD} {objs' : List (Nat × Hp)} (h : B9 ops env (i + 1) cur' objs' (effs ++ [f])) (hns : (ss.all fun x => !Nat.beq x.1 i) = true) : H9 ops ss env (i + 1) cur' objs' don (effs ++ [f]) := by
  refine ⟨h,fun x hx => ?_⟩
  have h1 := g.later x hx;have h2 := bD.1 hns x (hC hx);have : x.1 ≠ i := fun e => by rw [e,eQ] at h2;cases h2
  omega
theorem EG {k : Nat} (hok : iF ops pres ds bads ss k = true) : lC ops pres ds bads k = true := by
  simp only [iF,aN] at hok;exact hok.1.1
theorem tB {dd : Nat} {u : AV} (ho : ops[i]? = some ⟨some dd, op, ty, pos, af, none⟩) (hp : pres[i]? = some pre) (hb : bads[i]? = some bad) (hns : (ss.all fun x => !Nat.beq x.1 i) = true) (hs : bJ P ⟨some dd, op, ty, pos, af, none⟩ (eF bad cur) (seeH pres i pre ss don h ++ oP pre objs) 0 (fun _ => u) (fun _ => []))
    (hk : zG9 P n ops pres ds bads ss env h (i + 1) ((dd,u) :: cur) objs don K) : zG9 P n ops pres ds bads ss env h i cur objs don K := by
  intro hok hen effs g;refine UD (f := ⟨some dd,u,[]⟩) hok g hp (aA.1 ho).1 hns ⟨_,by simpa using ho,rfl,.inl ⟨fun _ => u,fun _ => [],.inl rfl,hs.more (g.g.see (EG hok) hp hb),rfl,rfl⟩⟩ (hk hok hen _ (g.next (g.g.snoc (f := ⟨some dd,u,[]⟩) ho rfl rfl) hns))
theorem zD8 {k : Nat} {nb : AB} {t : TypeId} {x y : Operand} {j : TI} {u v : AV} {xs : List AV} (ho : ops[i]? = some ⟨none, .store t x y, ty, pos, af, none⟩) (hp : pres[i]? = some pre) (hb : bads[i]? = some bad) (hm : ss[don.length]? = some (i, k)) (hkl : k < h.length)
    (T : oA P) (hx : evu (eF bad cur) x = some u) (hy : evu (eF bad cur) y = some v) (ht : T.ti t = some j) (hv : v.cellsOf = some xs) (hl : xs.length = j.size) (h1 : xs.all AV.one = true) (h0 : 0 < j.size) (hu : Z7 (seeH pres i pre ss don h ++ oP pre objs) u xs = some (k,nb))
    (hk : zG9 P n ops pres ds bads ss env h (i + 1) cur objs (don ++ [nb]) K) : zG9 P n ops pres ds bads ss env h i cur objs don K := by
  intro hok hen effs g;have hs := FO (P := P) (pos := pos) (ty := ty) (af := af) T hx hy ht hv hl h1 h0 hu;have hi := (aA.1 ho).1;have hgs : B9 ops env (i + 1) cur objs (effs ++ [⟨none,.v undef,[]⟩]) := g.g.snoc (f := ⟨none,.v undef,[]⟩) ho rfl rfl;have hkk := hk hok hen (effs ++ [⟨none,.v undef,[]⟩]) ⟨hgs,fun x hx => ?_⟩
  · obtain ⟨more,mb,g1,g0,g2,g3,g4⟩ := hkk;have e : effs ++ [⟨none,.v undef,[]⟩] ++ more = effs ++ ((⟨none,.v undef,[]⟩ : mI) :: more) := by simp
    have e' : don ++ [nb] ++ mb = don ++ (nb :: mb) := by simp
    rw [e] at g1 g2;rw [e'] at g0;simp only [e,e'] at g3 g4;have hie : effs.length = i := g.g.len;refine ⟨_,_,g1,g0,g2,fun j' q p hj hgj hpj => ?_,g4⟩
    by_cases hji : j' = i
    · subst hji;rw [hp] at hpj;cases hpj;rw [aE (by omega),hie,fP] at hgj
      simp at hgj;subst hgj;right;refine ⟨don.length,k,nb,_,hm,?_,rfl,by simpa using ho,rfl,hkl,?_⟩
      · rw [aE (aU _),fP];rfl
      · rw [jX,aQ (by omega),hie,fP,g.seeH hok hi hp _]
        simp only [vU,List.append_nil];rw [mL,← g.g.objs];exact hs.more (g.g.see (EG hok) hp hb)
    · exact g3 j' q p (by simp;omega) hgj hpj
  · have hok' := hok;simp only [iF,aN] at hok';have hls : don.length < ss.length := (aA.1 hm).1;have e1 : ss.drop don.length = (i,k) :: ss.drop (don.length + 1) := by
      rw [aO hls];have := aC hls;rw [hm] at this;rw [Option.some.inj this]
    have hx' : x ∈ ss.drop (don.length + 1) := by simpa using hx
    have h5 := g.later x (by rw [e1];exact aF _ hx')
    have key : ∀ (ss : List (Nat × Nat)) (m : Nat),JC pres ss = true → ss[m]? = some (i,k) → ∀ x,x ∈ ss.drop (m + 1) → x.1 ≠ i := by
      intro ss
      induction ss with
      | nil => intro m _ h;simp at h
      | cons y r ih =>
        intro m hok h x hx;obtain ⟨s,k'⟩ := y;simp only [JC,aN,bD] at hok;cases m with
        | zero =>
          simp only [dK,Option.some.injEq,Prod.mk.injEq] at h;intro e;have := (hok.1 x (by simpa using hx)).1
          rw [e,h.1,eQ] at this;cases this
        | succ m => exact ih m hok.2 (by simpa using h) x (by simpa using hx)
    have := key ss don.length hok'.1.2 hm x hx';omega
theorem YL (hi : pres.length = i) (hdl : don.length = ss.length) {rest : List Oper} {h' : Hp} (hr : ops.drop i = rest) (hh : eH (fun _ => true) ss don h ++ nY objs = h')
    (hk : VC P n ops.toArray rest cur h' K) : zG9 P n ops pres ds bads ss env h i cur objs don K := by
  intro hok hen effs gs;have g := gs.g;have hok' := EG hok;simp only [lC,aN,decide_eq_true_eq] at hok';obtain ⟨⟨⟨⟨⟨h1,h2⟩,h3⟩,h4⟩,h5⟩,h6⟩ := hok';have hds : jF effs = ds := by
    rw [← h5];have hle : i ≤ ops.length := by rw [← hi];exact bC h4
    unfold jF;have : effs.map (·.d) = (ops.take pres.length).map (·.dst) := by
      apply dX;intro j;simp only [aS,bS,hi];by_cases hj : j < i
      · rw [if_pos hj];have hje : j < effs.length := by rw [g.len];exact hj
        obtain ⟨o,ho,hod⟩ := g.dst j effs[j] (aC hje);rw [aC hje,ho];simp [hod]
      · rw [if_neg hj,bU (by rw [g.len];omega)];rfl
    have e1 : effs.filterMap (·.d) = (effs.map (·.d)).filterMap id := by rw [pN];rfl
    have e2 : (ops.take pres.length).filterMap (·.dst) = ((ops.take pres.length).map (·.dst)).filterMap id := by rw [pN];rfl
    rw [e1,e2,this]
  refine ⟨[],[],by rw [List.append_nil,g.len,hi],by rw [List.append_nil];exact hdl,by rw [List.append_nil];exact hds,fun j f pre hj hf _ => ?_,?_⟩
  · have := (aA.1 hf).1;simp at this;omega
  rw [List.append_nil,List.append_nil];have el : effs.length = pres.length := by rw [g.len,hi]
  rw [← el,yU,yY 0 effs.length (by omega),cP,← G2,D5,← P6,el,hi]
  rw [zE effs 0,← g.objs,← wV,hh];rw [show ops.toArray.toList.drop i = rest from by simpa using hr]
  refine hk.moreE fun t x hx => ?_
  rw [g.cur] at hx;exact K3 (by have : jF effs = effs.filterMap (·.d) := rfl;rw [← this,hds];exact h2) hx
end
section
variable {P : Program} {env : dD} {h : Hp}
variable {d : Option Nat} {ty : TypeId} {pos : String} {af : Array Edge} {g : Option (Nat × Bool)}
theorem qZ {fn : Fn} {l1 l2 : List Operand} {us vs : List AV} (ha : EB env l1 = some us) (hb : EB env l2 = some vs) : bJ P ⟨d,.makeFunc fn l1.toArray l2.toArray,ty,pos,af,g⟩ env h 0 (fun _ => .clo fn us vs) (fun _ => []) := by
  refine fL fun ρ S a w p => ⟨.func fn (l1.map a.eval).toArray (l2.map a.eval).toArray,?_,?_⟩
  · simp [execOp,Instr.makeFunc]
  · simp only [R];exact ⟨_,_,rfl,by simpa using nU p ha,by simpa using nU p hb⟩
theorem PH {s t : TypeId} {x : Operand} {ks k kk : IntKind} {n : Int} (hs : P.underlying s = some (.int ks)) (ht : P.underlying t = some (.int k)) (hx : evu env x = some (.v (.int kk n))) (hn : k.wrap n = n) :
    bJ P ⟨d,.convert s t x,ty,pos,af,g⟩ env h 0 (fun _ => .v (.int k n)) (fun _ => []) := by
  refine fL fun ρ S a w p => ⟨.int k n,?_,kY _⟩
  have h1 := pZ (p.evu hx);simp [execOp,h1,convert,run_underlying hs,run_underlying ht,Conv.intToInt,hn]
end
theorem ES {S : Nat → Prop} {w : World} {ρ : Pl} {z : AV} : ∀ {cs : List AV} {ys : List Value} {i : Nat}, RL S w cs ρ ys → (∀ y, ys[i]? = some y → R S w z ρ y) → RL S w (cs.set i z) ρ ys
  | [],ys,i,h,_ => by simpa using h
  | c :: cs,ys,i,h,hz => by
    simp only [RL] at h;obtain ⟨y,ys',rfl,h1,h2⟩ := h;cases i with
    | zero => simp only [List.set_cons_zero,RL];exact ⟨y,ys',rfl,hz y rfl,h2⟩
    | succ i => simp only [List.set_cons_succ,RL];exact ⟨y,ys',rfl,h1,ES h2 (fun y' hy' => hz y' (by simpa using hy'))⟩
theorem HS.alter {c : oU} {ρ : Pl} {S : Nat → Prop} {h : Hp} {w : World} {k : Nat} {b0 b1 : AB} (s : HS c ρ S h w) (hk : h[k]? = some b0) (hb : RB S w ρ (ρ k) b0 → RB S w ρ (ρ k) b1) (hg : b0 ≠ .gone) : HS c ρ S (h.set k b1) w := by
  have hlt := (aA.1 hk).1;have get : ∀ {j : Nat} {b : AB},(h.set k b1)[j]? = some b → (j = k ∧ b = b1) ∨ (j ≠ k ∧ h[j]? = some b) := fun {j b} hj => by
    rw [cK] at hj;split at hj
    · rename_i e;exact .inl ⟨e.symm,by simpa using hj.symm⟩
    · rename_i e;exact .inr ⟨fun e' => e e'.symm,hj⟩
  have old : ∀ {j : Nat} {b : AB},(h.set k b1)[j]? = some b → b ≠ .gone → ∃ b',h[j]? = some b' ∧ b' ≠ .gone := fun {j b} hj hg' => by
    rcases get hj with ⟨rfl,_⟩ | ⟨_,h2⟩
    · exact ⟨b0,hk,hg⟩
    · exact ⟨b,h2,hg'⟩
  refine ⟨fun j hj => s.dom j (by simpa using hj),s.rng,fun j b hj => ?_,fun j b p hj hg' hp => ?_,fun j j' b b' p p' hj hj' hg1 hg2 hp hp' e => ?_,s.stab,s.ext,s.st0,s.st1,by simpa using s.mle,s.keep,s.glob⟩
  · rcases get hj with ⟨rfl,rfl⟩ | ⟨_,h2⟩
    · exact hb (s.blk _ _ hk)
    · exact s.blk j b h2
  · obtain ⟨b',h2,h3⟩ := old hj hg';exact s.live j b' p h2 h3 hp
  · obtain ⟨b1',h2,h3⟩ := old hj hg1;obtain ⟨b2',h4,h5⟩ := old hj' hg2;exact s.inj j j' b1' b2' p p' h2 h4 h3 h5 hp hp' e
section
variable {P : Program} {n : Nat × Nat} {ops : Array Oper} {env : dD} {h : Hp} {K : dD → Hp → Prop} {rest : List Oper} {Q : Exit → dD → Hp → Prop} {code : Code}
theorem rY (k j sz : Nat) {cs : List AV} (hk : h[k]? = some (.cells cs)) (hj : cs[j]? = some .nils) (hs : 0 < sz) (hv : AW P n code env (h.set k (.cells (cs.set j (.sl h.length 0 0 sz))) ++ [.arr [] sz]) Q) : AW P n code env h Q := by
  intro c ρ S a w QQ s hQ;refine hv c ρ S a w QQ ⟨s.size,s.defers,s.env,?_,s.cm⟩ hQ
  have h1 := s.hs.alter (b1 := .cells (cs.set j (.sl h.length 0 0 sz))) hk (fun hb => by
    simp only [RB] at hb ⊢;obtain ⟨b,o,ys,h2,h3,h4⟩ := hb;refine ⟨b,o,ys,h2,h3,ES h4 fun y hy => ?_⟩
    obtain ⟨y',h5,h6⟩ := mT h4 _ _ hj;rw [hy] at h5;cases h5;rw [pZ h6];simp only [R]
    exact ⟨none,0,rfl,bG _,.inl ⟨trivial,rfl⟩⟩) (by simp)
  have hd := h1.dom h.length (by simp)
  generalize hh : h.set k (.cells (cs.set j (.sl h.length 0 0 sz))) = h' at h1 ⊢;have hl : h.length = h'.length := by rw [← hh];simp
  rw [hl] at hd;have get : ∀ {j : Nat} {b : AB},(h' ++ [.arr [] sz])[j]? = some b → h'[j]? = some b ∨ (j = h'.length ∧ b = .arr [] sz) := fun {j b} hj => by
    by_cases hlt : j < h'.length
    · rw [aG hlt] at hj;exact .inl hj
    · have := (aA.1 hj).1;simp at this;have e : j = h'.length := by omega
      subst e;simp at hj;exact .inr ⟨rfl,hj.symm⟩
  refine ⟨fun k hk => h1.dom k (by simp at hk;omega),h1.rng,fun k b hb => ?_,fun k b p hb hg hp => ?_,fun k k' b b' p p' hb hb' hg hg' hp hp' e => ?_,h1.stab,h1.ext,h1.st0,h1.st1,by simp;exact O0 h1.mle,h1.keep,h1.glob⟩
  · rcases get hb with hb | ⟨rfl,rfl⟩
    · exact h1.blk k b hb
    · simp only [RB];exact ⟨(fun e he => by cases he),hs,.inl ⟨trivial,fun b o e => by rw [hd] at e;cases e⟩⟩
  · rcases get hb with hb | ⟨rfl,rfl⟩
    · exact h1.live k b p hb hg hp
    · rw [hd] at hp;cases hp
  · rcases get hb with hb | ⟨rfl,rfl⟩
    · rcases get hb' with hb' | ⟨rfl,rfl⟩
      · exact h1.inj k k' b b' p p' hb hb' hg hg' hp hp' e
      · rw [hd] at hp';cases hp'
    · rw [hd] at hp;cases hp
end
section
variable {P : Program} {n : Nat × Nat} {env : dD} {h : Hp}
theorem cS {Q : Exit → dD → Hp → Prop} {id : Nat} {l : List Oper} (k : Nat) (pres : List (List Nat)) (ds : List Nat) (bads : List (List Nat)) (hm : P.follows .mixedOrders = true) (hn : n.1 = k) (hok : lC l pres ds bads k = true)
    (hv : DW P n l pres ds bads (eF ds env) h 0 (eF ds env) [] (fun v h => Q .normal v h)) (hndf : mZ l = true := by rfl) : AW P n (.region id l.toArray true) env h Q := US pres ds bads hm (by rw [hn];exact hok) hv hndf
theorem PW {Q : Exit → dD → Hp → Prop} {id : Nat} {l : List Oper} (k : Nat) (pres : List (List Nat)) (ds : List Nat) (bads : List (List Nat)) (ss : List (Nat × Nat)) (hm : P.follows .mixedOrders = true) (hn : n.1 = k) (hok : iF l pres ds bads ss k = true)
    (hv : zG9 P n l pres ds bads ss (eF ds env) h 0 (eF ds env) [] [] (fun v h => Q .normal v h)) (hndf : mZ l = true := by rfl) : AW P n (.region id l.toArray true) env h Q := UR pres ds bads ss hm (by rw [hn];exact hok) hv hndf
end
end Go.Ab
namespace Go.Ab
open Go Go.MapKept
section
variable {P : Program} {env : dD} {h : Hp}
variable {d : Option Nat} {ty : TypeId} {pos : String} {af : Array Edge} {g : Option (Nat × Bool)}
theorem DU {o : Oper} {u : Nat → AV} {b : AB} (hrun : ∀ ρ S a w,Y9 ρ S env h a w → ∃ (ob : Obj) (y : Value),(execOp a.eval o).run P w = .ok (.value y) (w.alloc ob) ∧
      ∀ pos,ρ pos = none → ∀ w',(w'.heap[w.heap.size]? = some ob) → R S w' (u pos) (ρ.with pos (w.heap.size,0)) y ∧ RB S w' (ρ.with pos (w.heap.size,0)) (some (w.heap.size,0)) b) :
    bJ P o env h 1 u (fun _ => [b]) := by
  intro ρ S a w p pos hp K Q hk;obtain ⟨ob,y,h1,h2⟩ := hrun ρ S a w p;have hpos : ρ pos = none := by simpa using hp 0 (by omega)
  unfold Oper.wp;rw [h1];have hx : lM (fun _ => False) w (w.alloc ob) := lY _ _ _;have hnew : (w.alloc ob).heap[w.heap.size]? = some ob := (heap_alloc w ob).1;obtain ⟨h3,h4⟩ := h2 pos hpos _ hnew;have hss : (w.alloc ob).heap.size = w.heap.size + 1 := by rw [World.size_alloc]
  refine hk y (ρ.with pos (w.heap.size,0)) S _ ⟨hx,rfl,fun k hk => ?_,fun _ h => h,fun _ h => .inl h,fun k q hk1 hk2 hq => ?_,fun k k' q q' a1 a2 a3 a4 _ _ _ => by omega,h3,fun j b' hb => ?_⟩
  · unfold Pl.with;rw [if_neg (by omega)]
  · have : k = pos := by omega
    subst this;simp only [Pl.with,if_true,Option.some.injEq] at hq;subst hq;refine ⟨aU _,by simp [hss],fun hs => ?_⟩
    have := p.stab _ hs;simp at this
  · cases j with
    | zero =>
      simp only [dK,Option.some.injEq] at hb;subst hb;simpa [Pl.with] using h4
    | succ j => simp at hb
theorem CI {t : TypeId} : bJ P ⟨d,.makeMap t none,ty,pos,af,g⟩ env h 1 (fun p => .mp p) (fun _ => [.mapO [] []]) := by
  refine DU fun ρ S a w p => ⟨.map #[] 0,.map (some w.heap.size),?_,fun pos hpos w' hw' => ⟨?_,?_⟩⟩
  · simp [execOp,Instr.makeMap]
  · simp [R,Pl.with]
  · simp only [RB];exact ⟨_,_,#[],0,rfl,hw',⟨rfl,by simp,by simp⟩,by simp [RL]⟩
def QF (x : AV) (v : Value) : Prop := ∀ (S : Nat → Prop) (w : World) (ρ : Pl) (y : Value),R S w x ρ y → y = v
theorem QF.v (v : Value) : QF (.v v) v := fun _ _ _ _ h => pZ h
theorem Q2 {S : Nat → Prop} {w : World} {ρ : Pl} : ∀ {vs ys : List Value}, RL S w (vs.map .v) ρ ys → ys = vs
  | [],_,h => by simpa [RL] using h
  | v :: vs,_,h => by
    simp only [List.map_cons,RL] at h;obtain ⟨y,zs,rfl,h1,h2⟩ := h;rw [pZ h1,Q2 h2]
theorem QF.agg (vs : List Value) : QF (.agg (vs.map .v)) (.agg vs.toArray) := fun _ _ _ _ h => by
  simp only [R] at h;obtain ⟨ys,rfl,h1⟩ := h;have := Q2 h1;rw [← this]
theorem FA {et : TypeId} {z : Value} (h : (P.info? et).bind (·.zero) = some z) : ∀ w,(zeroValue et).run P w = .ok z w := by
  intro w;cases hi : P.info? et with
  | none => rw [hi] at h;cases h
  | some inf =>
    rw [hi] at h;simp only [Option.bind_some] at h;simp [zeroValue,typeInfo,hi,h]
theorem GU {S : Nat → Prop} {w : World} {ρ : Pl} {k : Nat} {ks : List Value} {vs : List AV} (p : RB S w ρ (ρ k) (.mapO ks vs)) : ∃ b o l ck,ρ k = some (b,o) ∧ w.heap[b]? = some (.map l ck) ∧ l.toList.map (·.key) = ks ∧ RL S w vs ρ (l.toList.map (·.val)) := by
  obtain ⟨b,o,l,ck,h1,h2,h3,h4⟩ := p;exact ⟨b,o,l,ck,h1,h2,h3.1,h4⟩
theorem BX {S : Nat → Prop} {w : World} {ρ : Pl} {k : Nat} {ks : List Value} {vs : List AV} (p : RB S w ρ (ρ k) (.mapO ks vs)) : ∃ b o l ck,ρ k = some (b,o) ∧ w.heap[b]? = some (.map l ck) ∧ l.toList.map (·.key) = ks ∧ RL S w vs ρ (l.toList.map (·.val)) ∧ wX l ck := by
  obtain ⟨b,o,l,ck,h1,h2,h3,h4⟩ := p;exact ⟨b,o,l,ck,h1,h2,h3.1,h4,h3.2⟩
theorem wX.push {l : Array MapEntry} {ck : Nat} (h : wX l ck) {kv v : Value} : wX (l.push { key := kv,val := v,born := ck }) (ck + 1) := by
  refine ⟨?_,fun e he => ?_⟩
  · rw [VT,dI,fB];refine ⟨h.1,by simp,fun x hx y hy e => ?_⟩
    obtain ⟨q,hq,rfl⟩ := aK.1 hx;simp at hy;have := h.2 q hq;omega
  · rw [VT,bH] at he;rcases he with he | he
    · exact Nat.lt_succ_of_lt (h.2 e he)
    · simp at he;subst he;exact mG _
theorem wX.modify {l l' : Array MapEntry} {ck i : Nat} (h : wX l ck) {f : MapEntry → MapEntry} (hg : ∀ j : Nat,l'.toList[j]? = if i = j then (l.toList[j]?).map f else l.toList[j]?) (hf : ∀ e,(f e).born = e.born := by intro e;rfl) : wX l' ck := by
  have e1 : l'.toList.map (·.born) = l.toList.map (·.born) := by
    apply dX;intro j;rw [aS,aS,hg];split
    · cases l.toList[j]? <;> simp [hf]
    · rfl
  refine ⟨by rw [e1];exact h.1,fun e he => ?_⟩
  have h1 : e.born ∈ l.toList.map (·.born) := by rw [← e1];exact aK.2 ⟨e,he,rfl⟩
  obtain ⟨q,hq,hqe⟩ := aK.1 h1;rw [← hqe];exact h.2 q hq
structure rR (P : Program) (kt : TypeId) (good : Value → Prop) : Prop where
  check : ∀ (w : World) (em : Bool) {v : Value},good v → (Instr.checkKey em 10000 kt v).run P w = .ok () w
  find : ∀ (w : World) {x : Value},good x → ∀ es : List MapEntry,(∀ e,e ∈ es → good e.key) → ((Instr.findKey kt x es).run P w = .ok none w ∧ ∀ e,e ∈ es → e.key ≠ x) ∨ ∃ j e,(Instr.findKey kt x es).run P w = .ok (some (j,e.val)) w ∧ es[j]? = some e ∧ e.key = x
  stays : ∀ (w : World) {v : Value},good v → (Instr.keyThatStays v v).run P w = .ok v w
theorem RH {dk : TypeDesc} {kv : Value} (hk : IsKey dk kv) : ∀ n,Instr.sameBits n kv kv = true := by
  intro n;cases dk <;> cases kv <;> simp only [IsKey] at hk <;> cases n <;> simp [Instr.sameBits,bytes_beq]
theorem rR.plain {kt : TypeId} {dk : TypeDesc} (hd : P.underlying kt = some dk) : rR P kt (IsKey dk) := by
  refine ⟨fun w em v hv => MapKept.run_checkKey hd hv em 9999,fun w x hx es hall => ?_,fun w v hv => by simp [Instr.keyThatStays,RH hv]⟩
  rcases findNow_spec hx es 0 hall with ⟨h1,h2⟩ | ⟨j,e,h1,h2,h3⟩
  · exact .inl ⟨MapKept.run_findKey hd h1,h2⟩
  · exact .inr ⟨j,e,by have := MapKept.run_findKey (w := w) hd h1;rwa [Nat.zero_add] at this,h2,h3⟩
theorem sI {kt : TypeId} {good : Value → Prop} {kv : Value} {l : Array MapEntry} {ks : List Value} {i : Nat} (ko : rR P kt good) (w : World) (hl : l.toList.map (·.key) = ks) (hkeys : ∀ q,q ∈ ks → good q) (hkey : good kv) (hnd : ks.Nodup) (hi : ks[i]? = some kv) : ∃ e,(Instr.findKey kt kv l.toList).run P w = .ok (some (i,e.val)) w ∧ l.toList[i]? = some e ∧ e.key = kv := by
  rcases ko.find w hkey l.toList (fun x hx => hkeys _ (by rw [← hl];exact aK.2 ⟨x,hx,rfl⟩)) with ⟨_,h2⟩ | ⟨j,e,h1,h2,h3⟩
  · have hm := aJ hi;rw [← hl] at hm;obtain ⟨x,hx,hxe⟩ := aK.1 hm;exact absurd hxe (h2 x hx)
  · have hj : ks[j]? = some kv := by rw [← hl,aS,h2];simp [h3]
    have : j = i := (vY (aA.1 hj).1 hnd).1 (hj.trans hi.symm);subst this;exact ⟨e,h1,h2,h3⟩
theorem sJ {kt : TypeId} {good : Value → Prop} {kv : Value} {l : Array MapEntry} {ks : List Value} (ko : rR P kt good) (w : World) (hl : l.toList.map (·.key) = ks) (hkeys : ∀ q,q ∈ ks → good q) (hkey : good kv) (hni : kv ∉ ks) : (Instr.findKey kt kv l.toList).run P w = .ok none w := by
  rcases ko.find w hkey l.toList (fun x hx => hkeys _ (by rw [← hl];exact aK.2 ⟨x,hx,rfl⟩)) with ⟨h1,_⟩ | ⟨j,e,_,h2,h3⟩
  · exact h1
  · refine absurd ?_ hni;rw [← hl,← h3];exact aK.2 ⟨e,aJ h2,rfl⟩
section
variable {t kt et : TypeId} {good : Value → Prop} {x y : Operand} {k i : Nat} {kv : Value} {ks : List Value} {vs : List AV} {v : AV}
theorem V8 {w : World} {b : Nat} {l : Array MapEntry} {ck : Nat} {o : Obj} (hb : w.heap[b]? = some (.map l ck)) : lM (fun x => x = b) w { w with heap := w.heap.setIfInBounds b o } := by
  refine ⟨rfl,rfl,rfl,by simp,fun x _ hx => ?_,fun x c e fz hc => ?_⟩
  · exact (MapKept.heap_set (o' := o) hb).2 x hx
  · have hne : x ≠ b := fun e' => by rw [e',hb] at hc;cases hc
    exact ⟨c,fz,by rw [← hc];exact (MapKept.heap_set (o' := o) hb).2 x hne,rfl⟩
section
variable {n : Nat × Nat} {ops : Array Oper} {rest : List Oper} {K : dD → Hp → Prop} {z : Operand}
theorem AL (ht : P.underlying t = some (.map kt et)) (ko : rR P kt good) (hx : evu env x = some (.mp k)) {yv : AV} (hy : evu env y = some yv) (hyv : QF yv kv) (hz : evu env z = some v) (hk : h[k]? = some (.mapO ks vs)) (hkeys : ∀ q, q ∈ ks → good q) (hkey : good kv) (hni : kv ∉ ks)
    (hv : VC P n ops rest env (h.set k (.mapO (ks ++ [kv]) (vs ++ [v]))) K) : VC P n ops (⟨none,.mapUpdate t x y z,ty,pos,af,none⟩ :: rest) env h K := by
  intro c ρ S a w Q s hQ;refine wpList_plain rfl fun K' hK' => ?_
  have p := s.pre;have h1 := p.evu hx;simp only [R] at h1;obtain ⟨b,o,h2,h3⟩ := h1;have h4 := hyv _ _ _ _ (p.evu hy);have hzv := p.evu hz;obtain ⟨b',o',l,ck,h5,h6,h7,h8,h13⟩ := BX (p.blk k _ hk);rw [h2] at h5;cases h5;have h9 := sJ ko w h7 hkeys hkey hni;have hr : (execOp a.eval ⟨none,.mapUpdate t x y z,ty,pos,af,none⟩).run P w = .ok .skip { w with heap := w.heap.setIfInBounds b (.map (l.push { key := kv,val := a.eval z,born := ck }) (ck + 1)) } := by
    simp [execOp,h3,h4,Instr.mapUpdate,run_underlying ht,MapKept.run_getObj_map h6,ko.check w _ hkey,h9,MapKept.run_setObj_map _ h6]
  unfold Oper.wp;rw [hr]
  obtain ⟨g1,g2⟩ := s.hs.upd (nb := .mapO (ks ++ [kv]) (vs ++ [v])) hk (by simp) h2 (V8 (o := .map (l.push { key := kv,val := a.eval z,born := ck }) (ck + 1)) h6) (fun l' => by
    simp only [RB];refine ⟨b,o,_,_,rfl,(MapKept.heap_set h6).1,⟨by simp [h7],h13.push⟩,?_⟩
    rw [VT,dI]
    exact fC (h8.later l') (by simp only [List.map_cons,List.map_nil,RL];exact ⟨_,_,rfl,hzv.later l',rfl⟩))
  exact hK' _ _ (hv c ρ S _ _ Q ⟨by rw [iS];exact s.size,by rw [fT];exact s.defers.later g2,fun tt uu huu => (s.env tt uu huu).later g2,g1,s.cm⟩ hQ)
theorem NS (ht : P.underlying t = some (.map kt et)) (ko : rR P kt good) (hx : evu env x = some (.mp k)) {yv : AV} (hy : evu env y = some yv) (hyv : QF yv kv) (hz : evu env z = some v) (hk : h[k]? = some (.mapO ks vs)) (hkeys : ∀ q, q ∈ ks → good q) (hkey : good kv) (hnd : ks.Nodup) (hi : ks[i]? = some kv)
    (hv : VC P n ops rest env (h.set k (.mapO ks (vs.set i v))) K) : VC P n ops (⟨none,.mapUpdate t x y z,ty,pos,af,none⟩ :: rest) env h K := by
  intro c ρ S a w Q s hQ;refine wpList_plain rfl fun K' hK' => ?_
  have p := s.pre;have h1 := p.evu hx;simp only [R] at h1;obtain ⟨b,o,h2,h3⟩ := h1;have h4 := hyv _ _ _ _ (p.evu hy);have hzv := p.evu hz;obtain ⟨b',o',l,ck,h5,h6,h7,h8,h13⟩ := BX (p.blk k _ hk);rw [h2] at h5;cases h5;obtain ⟨e,h9,h10,h11⟩ := sI ko w h7 hkeys hkey hnd hi;have h12 : l[i]? = some e := by simpa using h10
  have hr : (execOp a.eval ⟨none,.mapUpdate t x y z,ty,pos,af,none⟩).run P w = .ok .skip { w with heap := w.heap.setIfInBounds b (.map (l.modify i fun e => { e with key := kv,val := a.eval z }) ck) } := by
    simp [execOp,h3,h4,Instr.mapUpdate,run_underlying ht,MapKept.run_getObj_map h6,ko.check w _ hkey,h9,MapKept.run_setObj_map _ h6,h12,h11,ko.stays w hkey]
  unfold Oper.wp;rw [hr];have hget : ∀ j,(l.modify i fun e => { e with key := kv,val := a.eval z }).toList[j]? = if i = j then (l.toList[j]?).map (fun e => { e with key := kv,val := a.eval z }) else l.toList[j]? := fun j => by
    simp only [jM,EV]
  obtain ⟨g1,g2⟩ := s.hs.upd (nb := .mapO ks (vs.set i v)) hk (by simp) h2 (V8 (o := .map (l.modify i fun e => { e with key := kv,val := a.eval z }) ck) h6) (fun l' => by
    simp only [RB];refine ⟨b,o,_,_,rfl,(MapKept.heap_set h6).1,⟨?_,h13.modify hget⟩,?_⟩
    · rw [← h7];apply dX;intro j;rw [aS,aS,hget];split
      · rename_i e';subst e';rw [h10];simp [h11]
      · rfl
    · have e1 : List.map (fun x => x.val) (l.modify i fun e => { e with key := kv,val := a.eval z }).toList = (l.toList.map (·.val)).set i (a.eval z) := by
        apply dX;intro j;rw [aS,hget,cK,aS];split
        · rename_i e';subst e';have := (aA.1 h10).1;rw [h10,if_pos (by simpa using this)];rfl
        · rfl
      rw [e1]
      exact VJ (h8.later l') i (hzv.later l'))
  exact hK' _ _ (hv c ρ S _ _ Q ⟨by rw [iS];exact s.size,by rw [fT];exact s.defers.later g2,fun tt uu huu => (s.env tt uu huu).later g2,g1,s.cm⟩ hQ)
end
end
end
end Go.Ab
namespace Go.Ab
open Go
section
variable {P : Program} {env : dD} {h : Hp}
variable {d : Option Nat} {ty : TypeId} {pos : String} {af : Array Edge} {g : Option (Nat × Bool)}
end
section
variable {P : Program} {ops ops' : Array Oper} {i j : Nat} {oi oj : Oper} {Q : Exit → Act → World → Prop}
end
section
variable {P : Program} {n : Nat × Nat} {env : dD} {h : Hp}
end
def NQ (P : Program) (o : Oper) (env : dD) (h : Hp) (u : AV) : Prop :=
  ∀ ρ S a w,Y9 ρ S env h a w → ∃ y,(∀ w',(execOp a.eval o).run P w' = .ok (.value y) w') ∧ R S w u ρ y
section
variable {P : Program} {env : dD} {h : Hp}
variable {d : Option Nat} {ty : TypeId} {pos : String} {af : Array Edge} {g : Option (Nat × Bool)}
theorem tZ {x : Operand} {u : AV} (hx : evu env x = some u) : NQ P ⟨d,.move x,ty,pos,af,g⟩ env h u := fun ρ S a w p => ⟨a.eval x,fun w' => by simp [execOp],p.evu hx⟩
end
def O2 (P : Program) (n : Nat × Nat) (ops : Array Oper) (listed : Array Bool) (r : Nat) (env : dD) (h : Hp) (K : dD → Hp → Prop) : Prop :=
  ∀ c ρ S a w QQ,oD n c ρ S env h a w → (∀ e a w,QQ e a w → e = Exit.normal) → (∀ env' h' ρ' S' a' w',K env' h' → oD n c ρ' S' env' h' a' w' → QQ Exit.normal a' w') → wpAny P .any ops QQ r listed a w
section
variable {P : Program} {n : Nat × Nat} {ops : Array Oper} {env : dD} {h : Hp} {K : dD → Hp → Prop} {listed : Array Bool} {r : Nat}
theorem rL {i dd : Nat} {op : Op} {ty : TypeId} {pos : String} {af : Array Edge} {u : AV} (i' : Nat) (hi' : i' = i) (ho : ops[i]? = some ⟨some dd, op, ty, pos, af, none⟩) (hs : Region.noSelect ops = true) (hf : Region.free .any ops listed i = true) (hr : (Region.ready .any ops listed).contains i = true) (hp : NQ P ⟨some dd, op, ty, pos, af, none⟩ env h u) (hd : Nat.blt dd n.1 = true)
    (hk : O2 P n ops (listed.setIfInBounds i true) r ((dd,u) :: env) h K) : O2 P n ops listed (r + 1) env h K := by
  intro c ρ S a w QQ s hq hQ;obtain ⟨y,h1,h2⟩ := hp ρ S a w s.pre;refine wpAny_take ho hs hf hr (fun c a w hp => by have := hq _ _ _ hp;cases this) (.inl ⟨pD rfl,h1⟩) ?_
  exact hk c ρ S (a.put (some dd) y) w QQ ⟨by rw [iS];exact s.size,by rw [fT];exact s.defers,nA (d := some dd) s.size hd s.env h2,s.hs,s.cm⟩ hq hQ
theorem oD.drew {c : oU} {ρ : Pl} {S : Nat → Prop} {a : Act} {w : World} (s : oD n c ρ S env h a w) : oD n c ρ S env h a { w with drawn := w.drawn + 1 } := by
  have l0 : hY ρ ρ S S w { w with drawn := w.drawn + 1 } := ⟨fun _ _ h => h,fun _ h => h,fun _ _ => rfl,fun _ _ _ _ _ h => h⟩
  refine ⟨s.size,s.defers.later l0,fun t x hx => (s.env t x hx).later l0,?_,s.cm⟩;exact ⟨s.hs.dom,s.hs.rng,fun k b hb => RB.later l0 (fun _ _ _ => rfl) (s.hs.blk k b hb),s.hs.live,s.hs.inj,s.hs.stab,s.hs.ext.drew,s.hs.st0,s.hs.st1,s.hs.mle,s.hs.keep,s.hs.glob.later l0⟩
theorem IL {Q : Exit → dD → Hp → Prop} {id : Nat} {l : List Oper} (hm : P.follows .mixedOrders = true) (hv : O2 P n l.toArray (Array.replicate l.length false) l.length env h (fun v h => Q .normal v h)) (hndf : mZ l = true := by rfl) : AW P n (.region id l.toArray true) env h Q := by
  intro c ρ S a w QQ s hQ;have h1 := hv c ρ S a { w with drawn := w.drawn + 1 } (fun e a w => e = .normal ∧ QQ .normal a w) s.drew (fun e a w h => h.1) fun env' h' ρ' S' a' w' k s' => ⟨rfl,hQ .normal env' h' ρ' S' a' w' k s'⟩
  exact qP hm hndf (by simpa using h1)
end
theorem fY {P : Program} {n : Nat × Nat} {code : Code} {env : dD} {h : Hp} {Q : Exit → dD → Hp → Prop} (env' : dD) (h' : Hp) (hs : EQ n.2 env h env' h') (hv : AW P n code env' h' Q) : AW P n code env h Q := UN hs hv
structure zO7 (T : Prop) : Prop where
  get : T
theorem cutT {G T : Prop} (h : zO7 T → G) (ht : T) : G := h ⟨ht⟩
section
variable {P : Program} {env : dD} {h : Hp} {d : Option Nat} {ty : TypeId} {pos : String} {af : Array Edge} {g : Option (Nat × Bool)}
theorem lS {t t2 : TypeId} {x y : Operand} {a b : Int} (hx : evu env x = some (.i a)) (hy : evu env y = some (.i b)) (e : a = b) : bJ P ⟨d,.binOp .eql t x y t2,ty,pos,af,g⟩ env h 0 (fun _ => .b true) (fun _ => []) := by
  have := cW (P := P) (d := d) (ty := ty) (pos := pos) (af := af) (g := g) (h := h) (t := t) (t2 := t2) hx hy;simpa [e] using this
theorem oT {t t2 : TypeId} {x y : Operand} {a b : Int} (hx : evu env x = some (.i a)) (hy : evu env y = some (.i b)) (e : a ≠ b) : bJ P ⟨d,.binOp .eql t x y t2,ty,pos,af,g⟩ env h 0 (fun _ => .b false) (fun _ => []) := by
  have := cW (P := P) (d := d) (ty := ty) (pos := pos) (af := af) (g := g) (h := h) (t := t) (t2 := t2) hx hy;simpa [e] using this
theorem qQ {t t2 : TypeId} {x y : Operand} {a b : Int} (hx : evu env x = some (.i a)) (hy : evu env y = some (.i b)) (e : a ≠ b) : bJ P ⟨d,.binOp .neq t x y t2,ty,pos,af,g⟩ env h 0 (fun _ => .b true) (fun _ => []) := by
  have := pS (P := P) (d := d) (ty := ty) (pos := pos) (af := af) (g := g) (h := h) (t := t) (t2 := t2) hx hy;simpa [e] using this
theorem iC {t t2 : TypeId} {x y : Operand} {a b : Int} (hx : evu env x = some (.i a)) (hy : evu env y = some (.i b)) (e : a = b) : bJ P ⟨d,.binOp .neq t x y t2,ty,pos,af,g⟩ env h 0 (fun _ => .b false) (fun _ => []) := by
  have := pS (P := P) (d := d) (ty := ty) (pos := pos) (af := af) (g := g) (h := h) (t := t) (t2 := t2) hx hy;simpa [e] using this
theorem vO {t t2 : TypeId} {x y : Operand} {a : Bool} (ht : qB P t) (hx : evu env x = some (.b a)) (hy : evu env y = some (.b a)) : bJ P ⟨d,.binOp .neq t x y t2,ty,pos,af,g⟩ env h 0 (fun _ => .b false) (fun _ => []) := by
  have := YD (d := d) (ty := ty) (pos := pos) (af := af) (g := g) (h := h) (t2 := t2) ht hx hy;simpa using this
end
theorem zP8 {S S' : Nat → Prop} {w : World} {ρ : Pl} {x : AV} {y : Value} (hS : ∀ b,S b → S' b) (h : R S w x ρ y) : R S' w x ρ y :=
  lD hS (fun _ _ => rfl) x ρ ρ y (fun _ _ h => h) (fun _ _ _ _ _ h => h) h
theorem zO6 {S S' : Nat → Prop} {w : World} {ρ : Pl} {p : Option (Nat × Nat)} {x : AB} (hS : ∀ b,S b → S' b) (h : RB S w ρ p x) : RB S' w ρ p x :=
  Y8 (fun b _ _ hb _ => hS b hb) (fun _ _ _ h => h) h
theorem HS.re {c : oU} {ρ : Pl} {S : Nat → Prop} {h : Hp} {w : World} (s : HS c ρ S h w) (c' : oU) (hM : ∀ (k : Nat) x p,h[k]? = some x → x ≠ .gone → ρ k = some p → c'.M p.1) (hext : lM c'.M c'.w0 w) (h0 : ∀ b,c'.S0 b → S b) (h1 : ∀ b,S b → c'.S0 b ∨ c'.M b) (hm : c'.m ≤ h.length) (hk : ∀ k,k < c'.m → ρ k = c'.ρ0 k) : HS c' ρ S h w :=
  ⟨s.dom,s.rng,s.blk,fun k b p hb hg hp => ⟨hM k b p hb hg hp,(s.live k b p hb hg hp).2⟩,s.inj,s.stab,hext,h0,h1,hm,hk,s.glob⟩
theorem HS.world {c : oU} {ρ : Pl} {S N : Nat → Prop} {h : Hp} {w w' : World} (s : HS c ρ S h w) (x : lM N w w') (hS : ∀ b,S b → ¬ N b) (hl : ∀ (k : Nat) y p,h[k]? = some y → y ≠ .gone → ρ k = some p → ¬ N p.1) (hM : ∀ b,b < c.w0.heap.size → N b → c.M b) : HS c ρ S h w' ∧ hY ρ ρ S S w w' := by
  have l : hY ρ ρ S S w w' := ⟨fun _ _ h => h,fun _ h => h,fun b hb => x.same b (s.stab b hb) (hS b hb),fun _ _ _ _ _ hr => x.room hr⟩
  refine ⟨⟨s.dom,fun k p hp => cC (s.rng k p hp) x.size,fun k b hb => ?_,s.live,s.inj,fun b hb => cC (s.stab b hb) x.size,s.ext.trans x (fun b hb hlt => hM b hlt hb),s.st0,s.st1,s.mle,s.keep,s.glob.later l⟩,l⟩;by_cases hg : b = .gone
  · subst hg;trivial
  · exact RB.later l (fun b' o hp => x.same b' (s.rng k _ hp) (hl k b _ hb hg hp)) (s.blk k b hb)
theorem HS.more {c : oU} {ρ : Pl} {S S' : Nat → Prop} {h : Hp} {w : World} (s : HS c ρ S h w) (hS : ∀ b,S b → S' b) (hlt : ∀ b,S' b → b < w.heap.size) (hl : ∀ (k : Nat) y p,h[k]? = some y → y ≠ .gone → ρ k = some p → ¬ S' p.1) (h1 : ∀ b,S' b → c.S0 b ∨ c.M b) : HS c ρ S' h w :=
  ⟨s.dom,s.rng,fun k b hb => zO6 hS (s.blk k b hb),fun k b p hb hg hp => ⟨(s.live k b p hb hg hp).1,hl k b p hb hg hp⟩,s.inj,hlt,s.ext,fun b hb => hS b (s.st0 b hb),h1,s.mle,s.keep,s.glob.st hS⟩
theorem EA {w : World} {l : Nat} {o o' : Obj} (hl : w.heap[l]? = some o) (hn : ∀ c e fz,o ≠ .cells c e fz) : lM (fun b => b = l) w (w.putObj l o') :=
  ⟨rfl,rfl,rfl,by rw [World.putObj_size];exact aU _,fun b _ hb => pH hb,fun b c e fz hc => ⟨c,fz,by
    have : b ≠ l := fun e' => by rw [e',hl] at hc;cases hc;exact hn _ _ _ rfl
    rw [pH this];exact hc,rfl⟩⟩
theorem HS.put {c : oU} {ρ : Pl} {S : Nat → Prop} {h : Hp} {w : World} {l : Nat} {o : Obj} (s : HS c ρ S h w) (hl : w.heap[l]? = some o) (hn : ∀ c e fz,o ≠ .cells c e fz) (hm : ZD o = false) (o' : Obj) (hM : l < c.w0.heap.size → c.M l) (h0 : ¬ c.S0 l) :
    HS c ρ (fun b => S b ∧ b ≠ l) h (w.putObj l o') ∧ ∀ x y,R S w x ρ y → R (fun b => S b ∧ b ≠ l) (w.putObj l o') x ρ y := by
  have hmm : ∀ (b : Nat) q,tD q = true → w.heap[b]? = some q → b ≠ l := fun b q hq hb e' => by
    rw [e',hl] at hb;cases hb;cases o <;> first | (cases hq;done) | exact hn _ _ _ rfl | (rw [ZD] at hm;cases hm)
  have a1 : ∀ (b : Nat) q,tD q = true → S b → w.heap[b]? = some q → S b ∧ b ≠ l := fun b q hq h1 h2 => ⟨h1,hmm b q hq h2⟩
  have a2 : ∀ (b : Nat) q,tD q = true → w.heap[b]? = some q → (w.putObj l o').heap[b]? = some q := fun b q hq h2 => by rw [pH (hmm b q hq h2)];exact h2
  refine ⟨⟨s.dom,fun k p hp => by rw [World.putObj_size];exact s.rng k p hp,fun k b hb => Y8 a1 a2 (s.blk k b hb),fun k b p hb hg hp => ⟨(s.live k b p hb hg hp).1,fun h => (s.live k b p hb hg hp).2 h.1⟩,s.inj,fun b hb => by rw [World.putObj_size];exact s.stab b hb.1,s.ext.trans (EA hl hn) (fun b hb hlt => by subst hb;exact hM hlt),fun b hb => ⟨s.st0 b hb,fun e => h0 (e ▸ hb)⟩,fun b hb => s.st1 b hb.1,s.mle,s.keep,s.glob.cells a1 a2⟩,fun x y hx => H3 a1 a2 x ρ y hx⟩
abbrev JT := Nat × Bool → (Nat → Prop) → (Nat → Prop) → World → Prop
structure VR (J : JT) : Prop where
  st : ∀ {g W N w w'},J g W N w → lM (fun b => ¬ N b) w w' → J g W N w'
  sub : ∀ {g W N w},J g W N w → ∀ b,W b → N b
  lt : ∀ {g W N w},J g W N w → ∀ b,N b → b < w.heap.size
structure zG8 (J : JT) (A : Nat → Prop) (g : Nat × Bool) (c : oU) (ρ : Pl) (S : Nat → Prop) (h : Hp) (w : World) (W N : Nat → Prop) : Prop where
  j : J g W N w
  live : ∀ (k : Nat) x p,h[k]? = some x → x ≠ .gone → ρ k = some p → ¬ N p.1
  st : ∀ b,S b → ¬ W b
  cell : ∀ b,S b → c.lo ≤ b → N b → K2 w b
  wm : ∀ b,W b → c.M b
  accS : ∀ b,S b → A b
  accM : ∀ b,c.M b → A b
  nn : ∀ b,N b → c.nb b ∨ c.S0 b ∨ c.M b
def JS (J : JT) (A : Nat → Prop) (g : Nat × Bool) (c : oU) (ρ : Pl) (S : Nat → Prop) (h : Hp) (w : World) : Prop := ∃ W N,zG8 J A g c ρ S h w W N
def oU.re (c : oU) (w : World) (S N : Nat → Prop) (hn : ∀ b, N b → b < w.heap.size) (hs : c.w0.heap.size ≤ w.heap.size) : oU where
  w0 := w
  M := fun b => c.M b ∧ ¬ N b
  new := fun b hb => ⟨c.new b (cQ hs hb),fun h => by have := hn b h;omega⟩
  S0 := S
  ρ0 := c.ρ0
  m := c.m
  lo := c.lo
  lole := cQ c.lole hs
  r := c.r
  nb := c.nb
section
variable {P : Program} {J : JT} {A : Nat → Prop} {g : Nat × Bool} {n : Nat × Nat} {c : oU} {ρ : Pl} {S W N : Nat → Prop} {env : dD} {h : Hp} {a : Act} {w : World}
theorem oD.re (s : oD n c ρ S env h a w) (j : zG8 J A g c ρ S h w W N) (hn : ∀ b,N b → b < w.heap.size) (hs : c.w0.heap.size ≤ w.heap.size) : oD n (c.re w S N hn hs) ρ S env h a w :=
  ⟨s.size,s.defers,s.env,s.hs.re _ (fun k x p hx hg hp => ⟨(s.hs.live k x p hx hg hp).1,j.live k x p hx hg hp⟩) (lM.refl _ _) (fun _ h => h) (fun _ h => .inl h) s.hs.mle s.hs.keep,s.cm⟩
theorem oD.un {ρ' : Pl} {S' : Nat → Prop} {env' : dD} {h' : Hp} {a' : Act} {w' : World} (hJ : VR J) (s : oD n c ρ S env h a w) (j : zG8 J A g c ρ S h w W N) (hn : ∀ b,N b → b < w.heap.size) (hs : c.w0.heap.size ≤ w.heap.size) (s' : oD n (c.re w S N hn hs) ρ' S' env' h' a' w') :
    oD n c ρ' S' env' h' a' w' ∧ zG8 J A g c ρ' S' h' w' W N := by
  have hx : lM (fun b => c.M b ∧ ¬ N b) w w' := s'.hs.ext;have hl : ∀ (k : Nat) x p,h'[k]? = some x → x ≠ .gone → ρ' k = some p → c.M p.1 ∧ ¬ N p.1 := fun k x p a1 a2 a3 => (s'.hs.live k x p a1 a2 a3).1;have hst : ∀ b,S' b → S b ∨ (c.M b ∧ ¬ N b) := fun b hb => s'.hs.st1 b hb
  refine ⟨⟨s'.size,s'.defers,s'.env,s'.hs.re c (fun k x p a1 a2 a3 => (hl k x p a1 a2 a3).1) (s.hs.ext.trans hx fun b hb _ => hb.1) (fun b hb => s'.hs.st0 b (s.hs.st0 b hb)) (fun b hb => (hst b hb).elim (s.hs.st1 b) fun h => .inr h.1) s'.hs.mle s'.hs.keep,s'.cm⟩,?_⟩;refine ⟨hJ.st j.j (hx.mono fun b _ hb => hb.2),fun k x p a1 a2 a3 => (hl k x p a1 a2 a3).2,fun b hb hw => ?_,fun b hb h1 h2 => ?_,j.wm,fun b hb => (hst b hb).elim (j.accS b) fun h => j.accM b h.1,j.accM,j.nn⟩
  · rcases hst b hb with h1 | h1
    · exact j.st b h1 hw
    · exact h1.2 (hJ.sub j.j b hw)
  · rcases hst b hb with h3 | h3
    · obtain ⟨cc,e,h4⟩ := j.cell b h3 h1 h2;exact ⟨cc,e,by rw [hx.same b (hn b h2) fun h => h.2 h2];exact h4⟩
    · exact absurd h2 h3.2
theorem JS.sub {L : List Nat} {h' : Hp} (s : HS c ρ S h w) (hl : L.length = h'.length) (hh : tH (th L h.length) h 0 h') (j : JS J A g c ρ S h w) : JS J A g c (fun k => ρ (th L h.length k)) S h' w := by
  obtain ⟨W,N,j⟩ := j;refine ⟨W,N,j.j,fun k x p hx hg hp => ?_,j.st,j.cell,j.wm,j.accS,j.accM,j.nn⟩
  have h1 := hh.get k x hx;rw [Nat.zero_add] at h1;exact j.live _ _ p (h1.resolve_left hg) (by cases x <;> simp [AB.map] at *) hp
end
def Z2 (P : Program) (l : Nat) (J : JT) (A : Nat → Prop) (items : Nat → List AV) (N : Nat) : Prop :=
  ∀ k,k < N → ∀ W Nn w S vs,J (k,false) W Nn w → (∀ b,S b → A b ∧ ¬ W b ∧ K2 w b) → RL S w (items k) (fun _ => none) vs →
    YieldAt Fence.wide 0 P l vs.toArray w fun e w' => ∃ (b : Bool) (W' N' : Nat → Prop),e = .returned (.bool b) ∧ J (k + 1,!b) W' N' w' ∧ lM W w w' ∧ (∀ x,W' x → W x ∨ w.heap.size ≤ x) ∧ (∀ x,N' x → Nn x ∨ S x ∨ w.heap.size ≤ x)
def AY (P : Program) (J : JT) (A : Nat → Prop) (n : Nat × Nat) (code : Code) (g : Nat × Bool) (env : dD) (h : Hp) (Q : Nat × Bool → Exit → dD → Hp → Prop) : Prop :=
  ∀ c ρ S a w QQ,oD n c ρ S env h a w → JS J A g c ρ S h w → (∀ g' e env' h' ρ' S' a' w',Q g' e env' h' → oD n c ρ' S' env' h' a' w' → JS J A g' c ρ' S' h' w' → QQ e a' w') → code.wpIn (rd c.r) 0 P QQ a w
def VY (P : Program) (J : JT) (A : Nat → Prop) (n : Nat × Nat) (ops : Array Oper) (rest : List Oper) (g : Nat × Bool) (env : dD) (h : Hp) (K : Nat × Bool → dD → Hp → Prop) : Prop :=
  ∀ c ρ S a w Q,oD n c ρ S env h a w → JS J A g c ρ S h w → (∀ e a w,Q e a w → e = Exit.normal) → (∀ g' env' h' ρ' S' a' w',K g' env' h' → oD n c ρ' S' env' h' a' w' → JS J A g' c ρ' S' h' w' → Q .normal a' w') → wpListIn (rd c.r) 0 P ops Q rest a w
def SQ (K : Nat × Bool → dD → Hp → Prop) (Q : Nat × Bool → Exit → dD → Hp → Prop) : Nat × Bool → Exit → dD → Hp → Prop
  | g,.normal,v,h => K g v h
  | g,e,v,h => Q g e v h
def LM (id : Nat) (Q : Nat × Bool → Exit → dD → Hp → Prop) : Nat × Bool → Exit → dD → Hp → Prop
  | g,.exit id',v,h => if id' = id then Q g .normal v h else Q g (.exit id') v h
  | g,e,v,h => Q g e v h
section
variable {P : Program} {J : JT} {A : Nat → Prop} {n : Nat × Nat} {g : Nat × Bool} {env : dD} {h : Hp} {Q : Nat × Bool → Exit → dD → Hp → Prop}
theorem zW {code : Code} (hJ : VR J) (hv : AW P n code env h (fun e v h => Q g e v h)) : AY P J A n code g env h Q := by
  intro c ρ S a w QQ s ⟨W,N,j⟩ hQ;have hn := hJ.lt j.j;refine hv (c.re w S N hn s.hs.ext.size) ρ S a w QQ (s.re j hn s.hs.ext.size) fun e env' h' ρ' S' a' w' hq s' => ?_
  obtain ⟨h1,h2⟩ := s.un hJ j hn s.hs.ext.size s';exact hQ g e env' h' ρ' S' a' w' hq h1 ⟨W,N,h2⟩
theorem W7 {x y : Code} (hx : AY P J A n x g env h (SQ (fun g v h => AY P J A n y g v h Q) Q)) : AY P J A n (.seq x y) g env h Q := by
  intro c ρ S a w QQ s j hQ;refine wpIn_seq (hx c ρ S a w _ s j fun g' e env' h' ρ' S' a' w' k s' j' => ?_);cases e with
  | normal => exact k c ρ' S' a' w' QQ s' j' hQ
  | _ => exact hQ g' _ env' h' ρ' S' a' w' k s' j'
theorem NI (hk : Q g .normal env h) : AY P J A n .skip g env h Q := fun _ _ _ _ _ _ s j hQ => wpIn_skip (hQ _ _ _ _ _ _ _ _ hk s j)
theorem NK {id : Nat} (hk : Q g (.exit id) env h) : AY P J A n (.exit id) g env h Q := fun _ _ _ _ _ _ s j hQ => wpIn_exit (hQ _ _ _ _ _ _ _ _ hk s j)
theorem zF7 (hk : Q g .ret env h) : AY P J A n .ret g env h Q := fun _ _ _ _ _ _ s j hQ => wpIn_ret (hQ _ _ _ _ _ _ _ _ hk s j)
theorem W8 {id : Nat} {x : Code} (hx : AY P J A n x g env h (LM id Q)) : AY P J A n (.block id x) g env h Q := by
  intro c ρ S a w QQ s j hQ;refine wpIn_block (hx c ρ S a w _ s j fun g' e env' h' ρ' S' a' w' k s' j' => ?_);cases e with
  | exit id' =>
    by_cases hid : id' = id
    · simp only [LM,hid,if_true] at k;simp only [Exit.inBlock,hid,if_true];exact hQ g' _ env' h' ρ' S' a' w' k s' j'
    · simp only [LM,hid,if_false] at k;simp only [Exit.inBlock,hid,if_false];exact hQ g' _ env' h' ρ' S' a' w' k s' j'
  | _ => exact hQ g' _ env' h' ρ' S' a' w' k s' j'
theorem P9 {x : Operand} {b : Bool} {p q : Code} (hx : ev env x = some (.b b)) (ht : b = true → AY P J A n p g env h Q) (hf : b = false → AY P J A n q g env h Q) : AY P J A n (.cond x p q) g env h Q := by
  intro c ρ S a w QQ s j hQ;have hb := s.ev hx;simp only [R] at hb;exact wpIn_cond_split hb (fun h1 => ht h1 c ρ S a w QQ s j hQ) (fun h1 => hf h1 c ρ S a w QQ s j hQ)
theorem zF6 {code : Code} {env' : dD} {h' : Hp} (hs : EQ n.2 env h env' h') (hk : AY P J A n code g env' h' Q) : AY P J A n code g env h Q := by
  intro c ρ S a w QQ s j hQ;obtain ⟨L,h1,h2,h3,h4,h5⟩ := hs;exact hk c _ S a w QQ ⟨s.size,s.defers,fun t x hx => N9 _ ρ _ _ (s.env t _ (h2.look t x hx)),s.hs.sub h1 h3 h4 (fun i hi => h5 i (s.cm ▸ hi)),s.cm⟩ (JS.sub s.hs h1 h3 j) hQ
theorem NJ {body : Code} {X : Type} (E : X → dD) (H : X → Hp) (G : X → Nat × Bool) (μ : X → Nat) (x0 : X) (hg : g = G x0) (h0 : EQ n.2 env h (E x0) (H x0))
    (round : ∀ x,AY P J A n body (G x) (E x) (H x) (SQ (fun g v h => ∃ x',μ x' < μ x ∧ g = G x' ∧ EQ n.2 v h (E x') (H x')) Q)) : AY P J A n (.loop body) g env h Q := by
  subst hg;refine zF6 h0 ?_;intro c ρ S a w QQ s0 j0 hQ b k cs hro hb hr;have key : ∀ m x,μ x = m → ∀ ρ S a w,oD n c ρ S (E x) (H x) a w → JS J A (G x) c ρ S (H x) w → ∃ e a' w',QQ e a' w' ∧ ArrivesIn (Machine.fenced P (rd c.r)) P (lone (b.atR a (.code body :: .inLoop body :: k)) cs w) b k cs e a' w' := by
    intro m
    induction m using Nat.strongRecOn with
    | _ m ih =>
      intro x hx ρ S a w s j;obtain ⟨e,a₁,w₁,hq,harr⟩ := round x c ρ S a w (fun e a' w' => ∃ g' env' h' ρ' S',SQ (fun g v h => ∃ x',μ x' < μ x ∧ g = G x' ∧ EQ n.2 v h (E x') (H x')) Q g' e env' h' ∧ oD n c ρ' S' env' h' a' w' ∧ JS J A g' c ρ' S' h' w') s j (fun g' e env' h' ρ' S' a' w' hq s' j' => ⟨g',env',h',ρ',S',hq,s',j'⟩) b (.inLoop body :: k) cs hro hb hr;obtain ⟨g',env',h',ρ',S',hq,s',j'⟩ := hq;cases e with
      | normal =>
        obtain ⟨x',hlt,rfl,L,h1,h2,h3,h4,h5⟩ := hq;have s2 : oD n c (fun k => ρ' (th L h'.length k)) S' (E x') (H x') a₁ w₁ := ⟨s'.size,s'.defers,fun t x hx => N9 _ ρ' _ _ (s'.env t _ (h2.look t x hx)),s'.hs.sub h1 h3 h4 (fun i hi => h5 i (s'.cm ▸ hi)),s'.cm⟩;obtain ⟨e₂,a₂,w₂,hq₂,harr₂⟩ := ih (μ x') (hx ▸ hlt) x' rfl _ S' a₁ w₁ s2 (JS.sub s'.hs h1 h3 j');exact ⟨e₂,a₂,w₂,hq₂,.of_steps (StepsIn.trans harr (.one (fenced_calm hb hr rfl) stepR_inLoop)) harr₂⟩
      | exit id => exact ⟨_,a₁,w₁,hQ _ _ env' h' ρ' S' a₁ w₁ hq s' j',.pass (x := .inLoop body) rfl (fun _ _ => .inl (by simp)) harr⟩
      | goto l => exact ⟨_,a₁,w₁,hQ _ _ env' h' ρ' S' a₁ w₁ hq s' j',.pass (x := .inLoop body) rfl (fun _ _ => .inl (by simp)) harr⟩
      | ret => exact ⟨_,a₁,w₁,hQ _ _ env' h' ρ' S' a₁ w₁ hq s' j',.pass (x := .inLoop body) rfl (fun _ _ => .inl (by simp)) harr⟩
      | panic ch => exact ⟨_,a₁,w₁,hQ _ _ env' h' ρ' S' a₁ w₁ hq s' j',.pass (x := .inLoop body) rfl (fun _ _ => .inl (by simp)) harr⟩
      | outgrown => exact ⟨_,a₁,w₁,hQ _ _ env' h' ρ' S' a₁ w₁ hq s' j',.pass (x := .inLoop body) rfl (fun _ _ => .inl (by simp)) harr⟩
  obtain ⟨e,a',w',hq,harr⟩ := key _ x0 rfl ρ S a w s0 j0;exact ⟨e,a',w',hq,.of_steps (.one (fenced_calm hb hr rfl) stepR_loop) harr⟩
theorem PV {id : Nat} {l : List Oper} (hv : VY P J A n l.toArray l g env h (fun g v h => Q g .normal v h)) : AY P J A n (.region id l.toArray false) g env h Q := by
  intro c ρ S a w QQ s j hQ;exact wpIn_mono (wpIn_region_lit (hv c ρ S a w (fun e a w => e = .normal ∧ QQ .normal a w) s j (fun e a w h => h.1) fun g' env' h' ρ' S' a' w' k s' j' => ⟨rfl,hQ g' .normal env' h' ρ' S' a' w' k s' j'⟩)) fun e a w he => by obtain ⟨rfl,h3⟩ := he;exact h3
end
theorem GP {F : Fence} {m : Nat} {P : Program} {o : Oper} {a : Act} {w : World} {K : Act → World → Prop} {Q Q' : Exit → Act → World → Prop} (hq : ∀ e a w,Q e a w → e = .normal) (h : o.wpIn F m P a w K Q) : o.wpIn F m P a w K Q' := by
  refine ⟨h.1,?_⟩;have h := h.2;have hp : ∀ {ch a w} {p : Prop},Q (.panic ch) a w → p := fun hh => by have := hq _ _ _ hh;cases this
  have ho : ∀ {p : Prop},LetsOut Q → p := fun ⟨_,_,hh⟩ => by have := hq _ _ _ hh;cases this
  generalize (o.semAt F.round a.eval).run P w = r at h ⊢;cases r with
  | ok x w' =>
    cases x <;> simp only [Oper.uponIn] at h ⊢ <;>
      first
        | exact h
        | exact ⟨h.1,h.2.mono (fun e w'' he => by cases e <;> first | exact he | exact hp he | exact ho he)⟩
  | halt x w' => cases x <;> simp only [Oper.uponIn] at h ⊢ <;> first | exact h | exact hp h
theorem vZ {F : Fence} {m : Nat} {P : Program} {ops : Array Oper} {Q : Exit → Act → World → Prop} {l2 : List Oper} : ∀ {l1 : List Oper} {a : Act} {w : World}, wpListIn F m P ops (fun e a w => e = .normal ∧ wpListIn F m P ops Q l2 a w) l1 a w → wpListIn F m P ops Q (l1 ++ l2) a w
  | [],_,_,h => h.2
  | o :: l1,a,w,h => by
    show wpListIn F m P ops Q (o :: (l1 ++ l2)) a w;unfold wpListIn at h ⊢;split at h
    · rename_i hw;rw [if_pos hw];exact GP (Q := fun e a w => e = .normal ∧ wpListIn F m P ops Q l2 a w) (fun e a w h => h.1) (Oper.wpIn_mono (fun a w h => vZ h) h)
    · rename_i hw;rw [if_neg hw];exact ⟨h.1,vZ h.2⟩
section
variable {P : Program} {J : JT} {A : Nat → Prop} {n : Nat × Nat} {g : Nat × Bool} {ops : Array Oper} {env : dD} {h : Hp} {K : Nat × Bool → dD → Hp → Prop}
theorem QO {l1 l2 : List Oper} (hJ : VR J) (hnd : mZ l1 = true) (hv : VC P n ops l1 env h (fun v h => VY P J A n ops l2 g v h K)) : VY P J A n ops (l1 ++ l2) g env h K := by
  intro c ρ S a w Q s ⟨W,N,j⟩ hq hQ;have hn := hJ.lt j.j;refine vZ (uX (fun e a w h => h.1) hnd (hv (c.re w S N hn s.hs.ext.size) ρ S a w (fun e a w => e = .normal ∧ wpListIn (rd c.r) 0 P ops Q l2 a w) (s.re j hn s.hs.ext.size) fun env' h' ρ' S' a' w' k s' => ⟨rfl,?_⟩));obtain ⟨h1,h2⟩ := s.un hJ j hn s.hs.ext.size s';exact k c ρ' S' a' w' Q h1 ⟨W,N,h2⟩ hq hQ
theorem ZX (k : Nat) {rest : List Oper} (hJ : VR J) (hv : VC P n ops (rest.take k) env h (fun v h => VY P J A n ops (rest.drop k) g v h K)) (hnd : mZ (rest.take k) = true := by rfl) : VY P J A n ops rest g env h K := by
  have := QO hJ hnd hv
  rwa [cI] at this
theorem zH5 {rest : List Oper} (hJ : VR J) (hv : VC P n ops rest env h (fun v h => K g v h)) (hnd : mZ rest = true := by rfl) : VY P J A n ops rest g env h K := by
  have := QO (l1 := rest) (l2 := []) (A := A) (g := g) (K := K) hJ hnd (hv.mono fun e h k => (fun c ρ S a w Q s j hq hQ => hQ g e h ρ S a w k s j))
  rwa [List.append_nil] at this
theorem QN {d : Option Nat} {x : Operand} {l k N : Nat} {us : List AV} {args : List Operand} {ats : Array TypeId} {ty : TypeId} {pos : String} {af : Array Edge} {items : Nat → List AV} {rest : List Oper} (hJ : VR J) (hy : Z2 P l J A items N) (hx : evu env x = some (.clo (.yield l) [] [])) (ha : EB env args = some us) (hi : AV.idfL us = true) (hk : k < N) (hit : items k = us) (hd : J5 d n = true)
    (hb : ∀ b : Bool,VY P J A n ops rest (k + 1,!b) (fR d (.b b) env) h K) : VY P J A n ops (⟨d,.call { callee := .value x,args := args.toArray,argTypes := ats },ty,pos,af,none⟩ :: rest) (k,false) env h K := by
  intro c ρ S a w Q s ⟨W,Nn,j⟩ hq hQ;refine wpListIn_plain rfl fun K' hK' => ?_
  have p := s.pre;have hxv := p.evu hx;simp only [R,RL] at hxv;obtain ⟨ys,zs,e1,h1,h2⟩ := hxv;have e2 : ys = #[] := by cases ys;simp_all
  have e3 : zs = #[] := by cases zs;simp_all
  subst e2 e3;have hargs := nU p ha;have hS1 : ∀ b,(S b ∧ K2 w b) → A b ∧ ¬ W b ∧ K2 w b := fun b hb => ⟨j.accS b hb.1,j.st b hb.1,hb.2⟩
  have hargs1 : RL (fun b => S b ∧ K2 w b) w (items k) (fun _ => none) (args.map a.eval) := by
    rw [hit];exact tJ ρ _ _ _ hi (kO (fun b cc e q1 q2 => ⟨q1,cc,e,q2⟩) (fun _ _ _ h => h) _ _ _ hargs)
  obtain ⟨fn,tmps,assign,body,hrun,hround⟩ := hy k hk W Nn w _ _ j.j hS1 hargs1;refine ⟨fun _ _ => trivial,?_⟩
  rw [U0 rfl];have hr2 : (execOp a.eval ⟨d,.call { callee := .value x,args := args.toArray,argTypes := ats },ty,pos,af,none⟩).run P w = .ok (.round l fn tmps assign body) w := by
    have e4 : (#[] ++ (args.toArray.map a.eval)) = (args.map a.eval).toArray := by
      apply Array.ext';simp
    simp only [execOp,resolve,e1,Deferred.ofValue,Sem.run_bind,Sem.run_pure,Result.andThen_ok,invoke];rw [e4];exact hrun
  rw [hr2];refine ⟨fun h => (by cases h),?_⟩
  have hround : RoundIn (rd c.r) (0 - 1) P l fn tmps assign body w _ := hround;refine hround.mono ?_;rintro e w' ⟨b,W',N',rfl,j1,hx,hW',hN'⟩;have hWlt : ∀ b,W b → b < w.heap.size := fun b hb => hJ.lt j.j b (hJ.sub j.j b hb);obtain ⟨hs',l'⟩ := s.hs.world hx j.st (fun k y p a1 a2 a3 hw => j.live k y p a1 a2 a3 (hJ.sub j.j _ hw)) (fun b _ hb => j.wm b hb);refine hK' _ _ (hb b c ρ S (a.put d (.bool b)) w' Q ⟨by rw [iS];exact s.size,by rw [fT];exact s.defers.later l',nA s.size hd (fun t u hu => (s.env t u hu).later l') (kY _),hs',s.cm⟩ ⟨W',N',j1,fun k y p a1 a2 a3 hn => ?_,fun b hb hw => ?_,fun b hb h1 h2 => ?_,fun b hb => ?_,j.accS,j.accM,fun b hb => ?_⟩ hq hQ)
  · rcases hN' _ hn with hn | hn | hn
    · exact j.live k y p a1 a2 a3 hn
    · exact (s.hs.live k y p a1 a2 a3).2 hn.1
    · have := s.hs.rng k p a3;omega
  · rcases hW' _ hw with hw | hw
    · exact j.st b hb hw
    · have := s.hs.stab b hb;omega
  · have same := hx.same b (s.hs.stab b hb) (j.st b hb);rcases hN' _ h2 with h2 | h2 | h2
    · obtain ⟨cc,e,h4⟩ := j.cell b hb h1 h2;exact ⟨cc,e,by rw [same];exact h4⟩
    · obtain ⟨cc,e,h4⟩ := h2.2;exact ⟨cc,e,by rw [same];exact h4⟩
    · have := s.hs.stab b hb;omega
  · rcases hW' _ hb with hb | hb
    · exact j.wm b hb
    · exact c.new b (cQ s.hs.ext.size hb)
  · rcases hN' _ hb with hb | hb | hb
    · exact j.nn b hb
    · exact .inr (s.hs.st1 b hb.1)
    · exact .inr (.inr (c.new b (cQ s.hs.ext.size hb)))
end
def YN (w : World) (ρ : Pl) (S : Nat → Prop) (hit : Hp) (A : Nat → Prop) (hA : ∀ b, w.heap.size ≤ b → A b) : oU where
  w0 := w
  M := A
  new := hA
  S0 := S
  ρ0 := ρ
  m := hit.length
  lo := w.heap.size
  lole := aU _
  r := none
def O3 (P : Program) (f : FuncId) (fs cs : List AV) (hit : Hp) (items : Nat → List AV) (N : Nat) : Prop :=
  (∃ fn, P.funcs[f]? = some fn ∧ (fn.name == "runtime.NumGoroutine") = false ∧ fn.body.isNone = false) ∧
  ∀ (J : JT) (A : Nat → Prop) (l : Nat),VR J → Z2 P l J A items N → ∀ ρ S w vs W Nn (hA : ∀ b,w.heap.size ≤ b → A b),HS (YN w ρ S hit A hA) ρ S hit w → RL S w (fs ++ [.clo (.yield l) [] []] ++ cs) ρ vs → J (0,false) W Nn w →
    (∀ (k : Nat) x p,hit[k]? = some x → x ≠ .gone → ρ k = some p → ¬ Nn p.1) → (∀ b,S b → A b ∧ ¬ W b) → (∀ b,W b → A b) →
    Calls P f vs.toArray w fun e w' => ∃ y g W' N',e = .returned y ∧ J g W' N' w' ∧ (g.2 = false → g.1 = N)
theorem E8 {P : Program} {fn : Func} {tmps : Array Value} {RR : Ending → World → Prop} {c : oU} {ρ : Pl} {h : Hp} (hlo : c.w0.heap.size ≤ c.lo) (h0 : ∀ b,c.S0 b → b < c.w0.heap.size) : ∀ (D : List Nat) (S : Nat → Prop) (w : World),HS c ρ S h w → D.Nodup → (∀ b,b ∈ D → S b ∧ w.heap[b]? = some (.deferred (some [])) ∧ c.lo ≤ b) →
    (∀ S' w',HS c ρ S' h w' → (∀ x y,R S w x ρ y → R S' w' x ρ y) → lM (fun b => b ∈ D) w w' → ∃ v,(results fn tmps).run P w' = .ok v w' ∧ RR (.returned v) w') → LeavesInM Fence.wide 0 P fn tmps RR (D.map XO) .returning w
  | [],S,w,s,_,_,hk => by
    have := hk S w s (fun _ _ h => h) (lM.refl _ _);simpa only [List.map_nil,LeavesInM,LeavesIn] using this
  | m :: D,S,w,s,hnd,hD,hk => by
    rw [aP] at hnd;obtain ⟨h1,h2,h3⟩ := hD m (by simp)
    obtain ⟨g1,g2⟩ := s.shut1 h2 (by omega) h1 h0
    simp only [List.map_cons,LeavesInM];refine ⟨by simp,.inl ⟨m,_,rfl,run_takeDeferred h2,E8 hlo h0 D _ _ g1 hnd.2 (fun b hb => ?_) fun S' w' s' hr hx => hk S' w' s' (fun x y hx => hr x y (g2 x y hx)) ?_⟩⟩
    · have hne : b ≠ m := fun e => hnd.1 (e ▸ hb);obtain ⟨q1,q2,q3⟩ := hD b (by simp [hb])
      exact ⟨⟨q1,hne⟩,by rw [pH hne];exact q2,q3⟩
    · exact ((EA h2 (fun _ _ _ e => by cases e)).mono fun b _ hb => by simp [hb]).trans hx (fun b hb _ => by simp [hb])
theorem zL7 {P : Program} (T : oA P) {f : FuncId} {fn : Func} {code : Code} {n N : Nat} {fs cs : List AV} {hit : Hp} {items : Nat → List AV} (hf : P.funcs[f]? = some fn) (hb : fn.body = some code) (hnm : (fn.name == "runtime.NumGoroutine") = false) (hn : fn.ntmps = n) (ha : Nat.ble (fs.length + 1 + cs.length) n = true)
    (haw : ∀ J A l,VR J → Z2 P l J A items N → AY P J A (n,hit.length) code (0,false) (rH 0 (fs ++ [.clo (.yield l) [] []] ++ cs)) hit (fun g e v h => (e = .ret ∨ e = .normal) ∧ (g.2 = false → g.1 = N) ∧ ∃ xs,tY T v h fn.results.toList = some xs)) : O3 P f fs cs hit items N := by
  refine ⟨⟨fn,hf,hnm,by rw [hb];rfl⟩,?_⟩
  intro J A l hJ hy ρ S w vs W Nn hA hs hargs j0 hd1 hd2 hd3;have hlen := eV hargs;have hle := bC ha;refine (callsIn_wide (n := 0)).1 (callsIn_of_wp_marks (F := Fence.wide) hf hb trivial ?_ rfl);refine haw J A l hJ hy (YN w ρ S hit A hA) ρ S _ w _ ⟨?_,rO.nil rfl _ _,fun t x hx => ?_,hs,rfl⟩ ⟨W,Nn,j0,hd1,fun b hb => (hd2 b hb).2,fun b hb hlo => ?_,hd3,fun b hb => (hd2 b hb).1,fun b hb => hb,fun _ _ => .inl trivial⟩ ?_
  · simp at hlen;simp [hn];omega
  · obtain ⟨_,h1⟩ := uJ hx;simp only [zR4] at h1;obtain ⟨y,h2,h3⟩ := mT hargs t x h1;have hlt : t < vs.length := (aA.1 h2).1;have : (vs.toArray ++ Array.replicate (fn.ntmps - vs.toArray.size) undef).getD t undef = y := by
      rw [cY,mQ (by simpa using hlt)]
      simp [h2]
    rw [this];exact h3
  · have := hs.stab b hb;have hlo : w.heap.size ≤ b := hlo;omega
  · intro g e env' h' ρ' S' a' w' hq s ⟨W',N',j⟩;obtain ⟨he,hg,xs,h1⟩ := hq;obtain ⟨⟨D,hD1,hD2,hD3⟩,_⟩ := s.defers;have hl : LeavesInM Fence.wide 0 P fn a'.tmps (fun e w' => ∃ y g W' N',e = Ending.returned y ∧ J g W' N' w' ∧ (g.2 = false → g.1 = N)) a'.defers .returning w' := by
      rw [hD1];refine E8 (c := YN w ρ S hit A hA) (aU _) (fun b hb => hs.stab b hb) D S' w' s.hs hD2 hD3 fun S2 w2 s2 hr hx => ?_
      obtain ⟨ys,h7,h8⟩ := qT T s2.blk (fun t x hx => hr _ _ (s.env t x hx)) h1;have hm : (fn.results.mapM (sO a'.tmps)).run P w2 = .ok ys.toArray w2 := by
        rw [L8];simp only [Sem.run_map,h7,Result.andThen_ok]
      refine ⟨_,by rw [A6];simp only [Sem.run_bind,hm,Result.andThen_ok,Sem.run_pure];rfl,_,g,W',N',rfl,hJ.st j.j (hx.mono fun b _ hb hn => ?_),hg⟩
      obtain ⟨q1,q2,q3⟩ := hD3 b hb;obtain ⟨cc,e,q4⟩ := j.cell b q1 q3 hn;rw [q2] at q4;cases q4;cases e
    rcases he with rfl | rfl
    · exact hl
    · exact hl
mutual
def AV.low (m : Nat) : AV → Bool
  | .v _ | .any | .row .. | .mrow .. | .pr .. => true
  | .ptr k _ | .ep k _ _ _ | .sl k _ _ _ | .mp k => Nat.blt k m
  | .agg cs | .tup cs => AV.lowL m cs
  | .clo _ cs ds => AV.lowL m cs && AV.lowL m ds
  | .cond _ x => AV.low m x
  | .ifc _ x => AV.low m x
def AV.lowL (m : Nat) : List AV → Bool
  | [] => true
  | x :: xs => AV.low m x && AV.lowL m xs
end
theorem EJ {k m : Nat} (h : Nat.blt k m = true) : k < m := bC h
mutual
theorem IR {S : Nat → Prop} {w : World} {ρ ρ' : Pl} {m : Nat} (hρ : ∀ k, k < m → ρ' k = ρ k) : ∀ (x : AV) (y : Value), x.low m = true → R S w x ρ y → R S w x ρ' y
  | .v x,y,_,h => by simpa only [R] using h
  | .any,_,_,_ => by simp [R]
  | .pr cs off,y,_,h => by simpa only [R] using h
  | .row cs len sz,y,_,h => by simpa only [R] using h
  | .mrow ks vs,y,_,h => by simpa only [R] using h
  | .ptr k off,y,hi,h => by
    simp only [R,AV.low] at *;rw [hρ k (EJ hi)];exact h
  | .ep k i off sz,y,hi,h => by
    simp only [R,AV.low] at *;rw [hρ k (EJ hi)];exact h
  | .sl k off len sz,y,hi,h => by
    simp only [R,AV.low] at *;rw [hρ k (EJ hi)];exact h
  | .mp k,y,hi,h => by
    simp only [R,AV.low] at *;rw [hρ k (EJ hi)];exact h
  | .agg cs,y,hi,h => by
    simp only [R,AV.low] at *;obtain ⟨ys,h1,h2⟩ := h;exact ⟨ys,h1,Y7 hρ cs _ hi h2⟩
  | .tup cs,y,hi,h => by
    simp only [R,AV.low] at *;obtain ⟨ys,h1,h2⟩ := h;exact ⟨ys,h1,Y7 hρ cs _ hi h2⟩
  | .clo f cs ds,y,hi,h => by
    simp only [R,AV.low,aN] at *;obtain ⟨ys,zs,h1,h2,h3⟩ := h;exact ⟨ys,zs,h1,Y7 hρ cs _ hi.1 h2,Y7 hρ ds _ hi.2 h3⟩
  | .cond b x,y,hi,h => by
    simp only [R,AV.low] at *;exact fun hb => IR hρ x y hi (h hb)
  | .ifc t x,y,hi,h => by
    simp only [R,AV.low] at *;obtain ⟨z,h1,h2⟩ := h;exact ⟨z,h1,IR hρ x z hi h2⟩
theorem Y7 {S : Nat → Prop} {w : World} {ρ ρ' : Pl} {m : Nat} (hρ : ∀ k, k < m → ρ' k = ρ k) : ∀ (xs : List AV) (ys : List Value), AV.lowL m xs = true → RL S w xs ρ ys → RL S w xs ρ' ys
  | [],ys,_,h => by simpa only [RL] using h
  | x :: xs,ys,hi,h => by
    simp only [RL,AV.lowL,aN] at *;obtain ⟨y,zs,h1,h2,h3⟩ := h;exact ⟨y,zs,h1,IR hρ x y hi.1 h2,Y7 hρ xs zs hi.2 h3⟩
end
def SY (m : Nat) : dD → Bool
  | [] => true
  | (_,x) :: r => x.low m && SY m r
theorem J9 {m : Nat} : ∀ {env : dD}, SY m env = true → ∀ {t x}, look env t = some x → x.low m = true
  | [],_,_,_,h => by cases h
  | (k,u) :: r,hl,t,x,h => by
    simp only [SY,aN] at hl;rw [gL] at h;split at h
    · cases h;exact hl.1
    · exact J9 hl.2 h
def qR : List Nat → List AV → dD → dD
  | t :: ts,x :: xs,E => qR ts xs ((t,x) :: E)
  | _,_,E => E
def U3 : Exit → Option Code
  | .ret => some .ret
  | .exit id => some (.exit id)
  | .goto t => some (.goto t)
  | _ => none
theorem HY {S : Nat → Prop} {w : World} {ρ : Pl} : ∀ (ts : List Nat) (xs : List AV) (vs : List Value) (E : dD) (tm : Array Value),(∀ t,t ∈ ts → t < tm.size) → RL S w xs ρ vs → (∀ t x,look E t = some x → R S w x ρ (tm.getD t undef)) → ts.length = xs.length →
    ((ts.zip vs).foldl (fun tm (p : Nat × Value) => tm.setIfInBounds p.1 p.2) tm).size = tm.size ∧ ∀ t x,look (qR ts xs E) t = some x → R S w x ρ (((ts.zip vs).foldl (fun tm (p : Nat × Value) => tm.setIfInBounds p.1 p.2) tm).getD t undef)
  | [],_,_,E,tm,_,_,hE,_ => ⟨rfl,by intro t x hx;simpa [qR] using hE t x (by simpa [qR] using hx)⟩
  | t0 :: ts,[],_,E,tm,_,_,hE,hl => by simp at hl
  | t0 :: ts,x0 :: xs,vs,E,tm,hlt,hv,hE,hl => by
    simp only [RL] at hv;obtain ⟨y,zs,rfl,h1,h2⟩ := hv;have h0 := hlt t0 (by simp)
    obtain ⟨h3,h4⟩ := HY ts xs zs ((t0,x0) :: E) (tm.setIfInBounds t0 y) (fun t ht => by simpa using hlt t (by simp [ht])) h2 (fun t x hx => by
      rw [gL] at hx;split at hx
      · rename_i e;subst e;cases hx;simp [Array.getD,h0];exact h1
      · rename_i e;have := hE t x hx
        rwa [show (tm.setIfInBounds t0 y).getD t undef = tm.getD t undef by
          simp only [cY];rw [oE e]]) (by simpa using hl)
    exact ⟨by simpa using h3,fun t x hx => by simpa [qR] using h4 t x (by simpa [qR] using hx)⟩
theorem LF {P : Program} {c : oU} {S : Nat → Prop} {l0 : List Deferred} {w : World} (m : rO c S l0 w) (hS : ∀ b,S b → b < w.heap.size) (hlo : c.lo ≤ w.heap.size) (fn : FuncId) (tmps : Array Value) (ps : Array Tmp) (assign body : Code) :
    ∃ (l bd : Nat) (mk : List Deferred) (w1 : World) (T : Nat → Prop),(Instr.enterLoop fn tmps ps assign body c.r).run P w = .ok (l,mk) w1 ∧
      w1.heap[l]? = some (.loop { state := .ready,pending := none,fn := fn,tmps := tmps,params := ps,assign := assign,body := body,defers := bd }) ∧ w.heap.size ≤ l ∧ l < w1.heap.size ∧ lM (fun _ => False) w w1 ∧
      (∀ b,T b → w.heap.size ≤ b ∧ b ≠ l ∧ b < w1.heap.size) ∧
      (∀ S' w',(∀ b,S b → S' b) → (∀ b,T b → S' b) → (∀ b,S b ∨ T b → w'.heap[b]? = w1.heap[b]?) → rO c S' (mk ++ l0) w') := by
  obtain ⟨⟨D,hD1,hD2,hD3⟩,hr⟩ := m;cases hc : c.r with
  | none =>
    have hx : lM (fun _ => False) w ((w.alloc (.deferred (some []))).alloc (.loop { state := .ready,pending := none,fn := fn,tmps := tmps,params := ps,assign := assign,body := body,defers := w.heap.size })) := (lY w _ _).trans (lY _ _ (fun _ => False)) (fun _ h _ => h);refine ⟨w.heap.size + 1,w.heap.size,[XO w.heap.size],_,fun b => b = w.heap.size,run_enterLoop_outer _ _ _ _ _,?_,by omega,by simp,hx,fun b hb => by subst hb;simp;omega,fun S' w' h1 h2 h3 => ⟨⟨w.heap.size :: D,by rw [hD1];rfl,?_,fun b hb => ?_⟩,fun q hq => by rw [hc] at hq;cases hq⟩⟩
    · have := World.alloc_heap_new (w.alloc (.deferred (some []))) (.loop { state := .ready,pending := none,fn := fn,tmps := tmps,params := ps,assign := assign,body := body,defers := w.heap.size })
      rwa [World.size_alloc] at this
    · rw [aP];exact ⟨fun hm => by have := hS _ (hD3 _ hm).1;omega,hD2⟩
    · rcases aT.1 hb with rfl | hb
      · refine ⟨h2 _ rfl,?_,hlo⟩;rw [h3 _ (.inr rfl)];exact (RowKit.Below.heap_alloc _ _ _ (by simp)).trans (World.alloc_heap_new w _)
      · obtain ⟨q1,q2,q3⟩ := hD3 b hb;exact ⟨h1 _ q1,by rw [h3 _ (.inl q1),hx.same b (hS b q1) (by simp)];exact q2,q3⟩
  | some q =>
    obtain ⟨hq1,r0,hq2⟩ := hr q hc;have hx : lM (fun _ => False) w (w.alloc (.loop { state := .ready,pending := none,fn := fn,tmps := tmps,params := ps,assign := assign,body := body,defers := r0.defers })) := lY w _ _;have hrun : (Instr.enterLoop fn tmps ps assign body (some q)).run P w = .ok (w.heap.size,[]) (w.alloc (.loop { state := .ready,pending := none,fn := fn,tmps := tmps,params := ps,assign := assign,body := body,defers := r0.defers })) := by
      unfold Instr.enterLoop;simp only [Sem.run_bind,run_getLoop hq2,run_newObj_alloc,Result.andThen,Sem.run_pure]
    refine ⟨w.heap.size,r0.defers,[],_,fun _ => False,hrun,World.alloc_heap_new w _,aU _,by simp,hx,fun b hb => hb.elim,fun S' w' h1 h2 h3 => ⟨⟨D,hD1,hD2,fun b hb => ?_⟩,fun q' hq' => ?_⟩⟩
    · obtain ⟨q1,q2,q3⟩ := hD3 b hb;exact ⟨h1 _ q1,by rw [h3 _ (.inl q1),hx.same b (hS b q1) (by simp)];exact q2,q3⟩
    · obtain ⟨g1,rec,g2⟩ := hr q' hq';exact ⟨h1 _ g1,rec,by rw [h3 _ (.inl g1),hx.same q' (hS q' g1) (by simp)];exact g2⟩
def JR (cA : oU) (l : Nat) (rec0 : Loop) (E : dD) (HA : Nat → Hp) (Q : Exit → dD → Hp → Prop) : JT := fun g W N w =>
  ∃ ρ S hh rec,HS cA ρ S hh w ∧ w.heap[l]? = some (.loop rec) ∧ ¬ S l ∧ (∀ (k : Nat) x p,hh[k]? = some x → x ≠ .gone → ρ k = some p → p.1 ≠ l) ∧ (∀ b,W b ↔ iN hh ρ b ∨ b = l) ∧ (∀ b,N b ↔ iN hh ρ b ∨ S b ∨ b = l ∨ ¬ cA.M b) ∧
    (g.2 = false → hh = HA g.1 ∧ rec = rec0) ∧ (g.2 = true → ∃ e cd,U3 e = some cd ∧ rec = { rec0 with state := .done,pending := some cd } ∧ Q e E hh)
section
variable {cA : oU} {l : Nat} {rec0 : Loop} {E : dD} {HA : Nat → Hp} {Q : Exit → dD → Hp → Prop}
theorem zK3 : VR (JR cA l rec0 E HA Q) := by
  refine ⟨fun {g W N w w'} j x => ?_,fun {g W N w} j b hb => ?_,fun {g W N w} j b hb => ?_⟩
  · obtain ⟨ρ,S,hh,rec,s,h1,h2,h3,h4,h5,h6⟩ := j;obtain ⟨s',_⟩ := s.world x (fun b hb h => h ((h5 b).2 (.inr (.inl hb)))) (fun k y p a1 a2 a3 h => h ((h5 _).2 (.inl ⟨k,y,p.2,a1,a2,a3⟩))) (fun b hb hn => Classical.byContradiction fun hM => hn ((h5 b).2 (.inr (.inr (.inr hM)))));exact ⟨ρ,S,hh,rec,s',by rw [x.same l (aR.1 h1).1 (fun h => h ((h5 l).2 (.inr (.inr (.inl rfl)))))];exact h1,h2,h3,h4,h5,h6⟩
  · obtain ⟨ρ,S,hh,rec,s,h1,h2,h3,h4,h5,h6⟩ := j;exact (h5 b).2 (((h4 b).1 hb).elim .inl fun h => .inr (.inr (.inl h)))
  · obtain ⟨ρ,S,hh,rec,s,h1,h2,h3,h4,h5,h6⟩ := j;rcases (h5 b).1 hb with ⟨k,x,o,_,_,hp⟩ | hb | rfl | hb
    · exact s.rng k _ hp
    · exact s.stab b hb
    · exact (aR.1 h1).1
    · apply Classical.byContradiction;intro hge;exact hb (cA.new b (by have := s.ext.size;omega))
def QR (m0 : Nat) (E : dD) (HA : Nat → Hp) (Q : Exit → dD → Hp → Prop) (k : Nat) : Exit → dD → Hp → Prop
  | .normal,v,h => EQ m0 v h [] (HA (k + 1))
  | e,v,h => (∃ cd,U3 e = some cd) ∧ ∃ hx,EQ m0 v h [] hx ∧ Q e E hx
theorem GC {P : Program} {n1 m0 : Nat} {items : Nat → List AV} {N : Nat} {ps : List Nat} (hm : cA.m = m0) (hMl : cA.M l) (hS0l : ¬ cA.S0 l) (hS0 : ∀ b, cA.S0 b → b < cA.w0.heap.size ∧ ¬ cA.M b) (hst : rec0.state = .ready) (hpe : rec0.pending = none) (hps : rec0.params = ps.toArray)
    (hsz : rec0.tmps.size = n1) (hpl : ∀ t,t ∈ ps → t < n1) (hit : ∀ k,k < N → (items k).length = ps.length ∧ AV.idfL (items k) = true)
    (hE : ∀ t x,look E t = some x → R cA.S0 cA.w0 x cA.ρ0 (rec0.tmps.getD t undef)) (hlow : SY m0 E = true)
    (hround : ∀ k,k < N → AW P (n1,m0) rec0.assign (qR ps (items k) E) (HA k) (fun e v h => e = .normal ∧ AW P (n1,m0) rec0.body v h (QR m0 E HA Q k))) :
    Z2 P l (JR cA l rec0 E HA Q) (fun b => cA.S0 b ∨ cA.M b) items N := by
  intro k hk W Nn w Sb vs j hSb hv;obtain ⟨ρ,S,hh,rec,s,hl,hSl,hll,hW,hN,hg,_⟩ := j;obtain ⟨rfl,rfl⟩ := hg rfl;dsimp only at s hll hW hN;have hlt : l < w.heap.size := (aR.1 hl).1;have hvl := eV hv;obtain ⟨hil,hiidf⟩ := hit k hk
  -- what no longer changes,in a round
  have hS2lt : ∀ b,(S b ∨ Sb b ∨ b = l) → b < w.heap.size := fun b hb => by
    rcases hb with hb | hb | rfl
    · exact s.stab b hb
    · obtain ⟨_,_,cc,e,h⟩ := hSb b hb;exact (aR.1 h).1
    · exact hlt
  have hlive : ∀ (q : Nat) y p,(HA k)[q]? = some y → y ≠ .gone → ρ q = some p → iN (HA k) ρ p.1 := fun q y p a1 a2 a3 => ⟨q,y,p.2,a1,a2,a3⟩
  have hS2live : ∀ (q : Nat) y p,(HA k)[q]? = some y → y ≠ .gone → ρ q = some p → ¬ (S p.1 ∨ Sb p.1 ∨ p.1 = l) := fun q y p a1 a2 a3 hb => by
    rcases hb with hb | hb | hb
    · exact (s.live q y p a1 a2 a3).2 hb
    · exact (hSb _ hb).2.1 ((hW _).2 (.inl (hlive q y p a1 a2 a3)))
    · exact hll q y p a1 a2 a3 hb
  have s2 : HS cA ρ (fun b => S b ∨ Sb b ∨ b = l) (HA k) w := s.more (fun _ h => .inl h) hS2lt hS2live (fun b hb => by
    rcases hb with hb | hb | rfl
    · exact s.st1 b hb
    · exact (hSb b hb).1
    · exact .inr hMl)
  let cR : oU := { w0 := w,M := fun b => iN (HA k) ρ b ∨ w.heap.size ≤ b,new := fun b hb => .inr hb,S0 := fun b => S b ∨ Sb b ∨ b = l,ρ0 := cA.ρ0,m := cA.m,lo := w.heap.size,lole := aU _,r := some l }
  have sR : HS cR ρ (fun b => S b ∨ Sb b ∨ b = l) (HA k) w := s2.re cR (fun q y p a1 a2 a3 => .inl (hlive q y p a1 a2 a3)) (lM.refl _ _) (fun _ h => h) (fun _ h => .inl h) s2.mle s2.keep;have hMnl : ¬ (iN (HA k) ρ l ∨ w.heap.size ≤ l) := fun h => by
    rcases h with ⟨q,y,o,a1,a2,a3⟩ | h
    · exact hll q y _ a1 a2 a3 rfl
    · omega
  -- the frame
  have hE2 : ∀ t x,look E t = some x → R (fun b => S b ∨ Sb b ∨ b = l) w x ρ (rec.tmps.getD t undef) := fun t x hx => by
    have h1 := IR (ρ' := ρ) (m := m0) (fun q hq => s.keep q (by omega)) x _ (J9 hlow hx) (hE t x hx)
    exact lD (fun b hb => .inl (s.st0 b hb)) (fun b hb => s.ext.same b (hS0 b hb).1 (hS0 b hb).2) x ρ ρ _ (fun _ _ h => h) (fun _ _ _ _ _ hr => s.ext.room hr) h1
  have hv2 : RL (fun b => S b ∨ Sb b ∨ b = l) w (items k) ρ vs := tJ _ _ _ _ hiidf (lL (fun b hb => .inr (.inl hb)) (fun _ _ => rfl) _ _ _ _ (fun _ _ h => h) (fun _ _ _ _ _ h => h) hv);obtain ⟨hf1,hf2⟩ := HY ps (items k) vs E rec.tmps (fun t ht => by rw [hsz];exact hpl t ht) hv2 hE2 hil.symm
  have hfold : (rec.params.zip vs.toArray).foldl (fun tmps (x : Nat × Value) => tmps.setIfInBounds x.1 x.2) rec.tmps = (ps.zip vs).foldl (fun tm (p : Nat × Value) => tm.setIfInBounds p.1 p.2) rec.tmps := by
    rw [hps,← Array.foldl_toList];congr 1;simp
  refine ⟨rec.fn,_,rec.assign,rec.body,run_yield hl (by rw [hps];simp [hvl,hil]),?_⟩
  rw [show (rec.params.zip vs.toArray).foldl (fun tmps (x : Tmp × Value) => match x with | (t,a) => tmps.setIfInBounds t a) rec.tmps = (ps.zip vs).foldl (fun tm (p : Nat × Value) => tm.setIfInBounds p.1 p.2) rec.tmps from hfold]
  refine roundIn_of_wpIn (F := Fence.wide) trivial ?_;refine hround k hk cR ρ _ ⟨_,[]⟩ w _ ⟨by rw [hf1];exact hsz,⟨⟨[],rfl,aI,fun _ h => by cases h⟩,fun q hq => ?_⟩,hf2,sR,hm⟩ ?_
  · cases hq;exact ⟨.inr (.inr rfl),rec,hl⟩
  intro e env' h' ρ' S' a' w' hq s';obtain ⟨rfl,hbody⟩ := hq;have x1 : lM cR.M w w' := s'.hs.ext;have hl1 : w'.heap[l]? = some (.loop rec) := by rw [x1.same l hlt hMnl];exact hl
  refine ⟨_,run_beginRound hl1 hst,?_⟩;generalize hb1 : ({ rec with state := .busy } : Loop) = recb
  -- the record is busy
  have hS'l : S' l := s'.hs.st0 l (.inr (.inr rfl))
  let cZ : oU := { w0 := w,M := fun b => (iN (HA k) ρ b ∨ w.heap.size ≤ b) ∨ b = l,new := fun b hb => .inl (.inr hb),S0 := fun b => S b ∨ Sb b,ρ0 := cA.ρ0,m := cA.m,lo := w.heap.size,lole := aU _,r := some l }
  have hZ0 : ¬ cZ.S0 l := fun h => by
    rcases h with h | h
    · exact hSl h
    · exact (hSb _ h).2.1 ((hW l).2 (.inr rfl))
  have hst1 : ∀ b,S' b → cZ.S0 b ∨ cZ.M b := fun b hb => by
    rcases s'.hs.st1 b hb with (h | h | h) | h
    · exact .inl (.inl h)
    · exact .inl (.inr h)
    · exact .inr (.inr h)
    · exact .inr (.inl h)
  have sZ : HS cZ ρ' S' h' w' := s'.hs.re cZ (fun q y p a1 a2 a3 => .inl (s'.hs.live q y p a1 a2 a3).1) (x1.mono fun b _ hb => .inl hb) (fun b hb => s'.hs.st0 b (by rcases hb with hb | hb;exact .inl hb;exact .inr (.inl hb))) hst1 s'.hs.mle s'.hs.keep
  obtain ⟨sP,hP⟩ := sZ.put hl1 (fun _ _ _ e => by cases e) rfl (.loop recb) (fun _ => .inr rfl) hZ0
  have hsz2 : w.heap.size ≤ (w'.putObj l (.loop recb)).heap.size := by rw [World.putObj_size];exact x1.size
  let cB : oU := { w0 := w'.putObj l (.loop recb),M := fun b => iN (HA k) ρ b ∨ w.heap.size ≤ b,new := fun b hb => .inr (cQ hsz2 hb),S0 := S',ρ0 := cA.ρ0,m := cA.m,lo := w.heap.size,lole := hsz2,r := some l }
  have sM : HS cZ ρ' S' h' (w'.putObj l (.loop recb)) := sP.more (fun b hb => hb.1) (fun b hb => by rw [World.putObj_size];exact s'.hs.stab b hb) (fun q y p a1 a2 a3 => (s'.hs.live q y p a1 a2 a3).2) hst1
  have sB : HS cB ρ' S' h' (w'.putObj l (.loop recb)) := sM.re cB (fun q y p a1 a2 a3 => (s'.hs.live q y p a1 a2 a3).1) (lM.refl _ _) (fun _ h => h) (fun _ h => .inl h) s'.hs.mle s'.hs.keep;have hl2 : (w'.putObj l (.loop recb)).heap[l]? = some (.loop recb) := World.putObj_heap_same (aR.1 hl1).1;have hmarks : rO cB S' a'.defers (w'.putObj l (.loop recb)) := by
    obtain ⟨⟨D,d1,d2,d3⟩,_⟩ := s'.defers;refine ⟨⟨D,d1,d2,fun b hb => ?_⟩,fun q hq => ?_⟩
    · obtain ⟨q1,q2,q3⟩ := d3 b hb;exact ⟨q1,by rw [pH (fun e => by rw [e,hl1] at q2;cases q2)];exact q2,q3⟩
    · cases hq;exact ⟨hS'l,recb,hl2⟩
  refine hbody cB ρ' S' a' _ _ ⟨s'.size,hmarks,fun t x hx => zP8 (fun b hb => hb.1) (hP _ _ (s'.env t x hx)),sB,hm⟩ ?_;intro e env3 h3 ρ3 S3 a3 w3 hq3 s3;have x2 : lM (fun b => b = l) w' (w'.putObj l (.loop recb)) := EA hl1 (fun _ _ _ e => by cases e)
  have x3 : lM cB.M (w'.putObj l (.loop recb)) w3 := s3.hs.ext;have hl3 : w3.heap[l]? = some (.loop recb) := by rw [x3.same l (aR.1 hl2).1 hMnl];exact hl2
  have x13 : lM cZ.M w w3 := ((x1.mono fun b _ hb => .inl hb).trans (x2.mono fun b _ hb => .inr hb) (fun _ h _ => h)).trans (x3.mono fun b _ hb => .inl hb) (fun _ h _ => h)
  -- the round's end,whichever way
  have fin : ∀ (jump : Option Code) (hx : Hp),EQ m0 env3 h3 [] hx → ((jump = none ∧ hx = HA (k + 1)) ∨ ∃ e cd,U3 e = some cd ∧ jump = some cd ∧ Q e E hx) →
      ∃ v w4,(Instr.endRound l jump).run P w3 = .ok v w4 ∧ ∃ (b : Bool) (W' N' : Nat → Prop),Ending.returned v = .returned (.bool b) ∧ JR cA l rec E HA Q (k + 1,!b) W' N' w4 ∧ lM W w w4 ∧ (∀ x,W' x → W x ∨ w.heap.size ≤ x) ∧ (∀ x,N' x → Nn x ∨ Sb x ∨ w.heap.size ≤ x) := by
    intro jump hx hsub hj;obtain ⟨L,q1,_,q3,q4,q5⟩ := hsub;have s4 : HS cB (fun k => ρ3 (th L h3.length k)) S3 hx w3 := s3.hs.sub q1 q3 q4 (fun i hi => q5 i (by have hi : i < cA.m := hi;omega))
    have st3 : ∀ b,S3 b → cZ.S0 b ∨ cZ.M b := fun b hb => by
      rcases s3.hs.st1 b hb with h | h
      · exact hst1 b h
      · exact .inr (.inl h)
    have s5 : HS cZ (fun k => ρ3 (th L h3.length k)) S3 hx w3 := s4.re cZ (fun q y p a1 a2 a3 => .inl (s4.live q y p a1 a2 a3).1) x13 (fun b hb => s3.hs.st0 b (s'.hs.st0 b (by rcases hb with hb | hb;exact .inl hb;exact .inr (.inl hb)))) st3 s4.mle s4.keep
    obtain ⟨s6,_⟩ := s5.put hl3 (fun _ _ _ e => by cases e) rfl (.loop { recb with state := if jump.isNone then .ready else .done,pending := jump }) (fun _ => .inr rfl) hZ0
    have hZA : ∀ b,cZ.M b → cA.M b := fun b hb => by
      rcases hb with (⟨q,y,o,a1,a2,a3⟩ | hb) | rfl
      · exact (s.live q y _ a1 a2 a3).1
      · exact cA.new b (cQ s.ext.size hb)
      · exact hMl
    have s7 := s6.re cA (fun q y p a1 a2 a3 => hZA _ (s6.live q y p a1 a2 a3).1) (s.ext.trans s6.ext fun b hb _ => hZA b hb) (fun b hb => ⟨s3.hs.st0 b (s'.hs.st0 b (.inl (s.st0 b hb))),fun e => hS0l (e ▸ hb)⟩) (fun b hb => by
      rcases st3 b hb.1 with (h | h) | h
      · exact s.st1 b h
      · exact (hSb b h).1
      · exact .inr (hZA b h)) s6.mle s6.keep
    have hZW : ∀ b,cZ.M b → W b ∨ w.heap.size ≤ b := fun b hb => by
      rcases hb with (hb | hb) | rfl
      · exact .inl ((hW b).2 (.inl hb))
      · exact .inr hb
      · exact .inl ((hW _).2 (.inr rfl))
    have hWN : ∀ b,W b → Nn b := fun b hb => (hN b).2 (((hW b).1 hb).elim .inl fun h => .inr (.inr (.inl h)));have hS3l : S3 l := s3.hs.st0 l hS'l;refine ⟨_,_,run_endRound jump hl3,jump.isNone,fun b => iN hx (fun k => ρ3 (th L h3.length k)) b ∨ b = l,fun b => iN hx (fun k => ρ3 (th L h3.length k)) b ∨ (S3 b ∧ b ≠ l) ∨ b = l ∨ ¬ cA.M b,rfl,?_,?_,fun b hb => ?_,fun b hb => ?_⟩
    · refine ⟨_,_,hx,_,s7,World.putObj_heap_same (aR.1 hl3).1,fun h => h.2 rfl,fun q y p a1 a2 a3 e => (s4.live q y p a1 a2 a3).2 (e ▸ hS3l),fun b => Iff.rfl,fun b => Iff.rfl,fun h => ?_,fun h => ?_⟩
      · rcases hj with ⟨rfl,rfl⟩ | ⟨e,cd,_,rfl,_⟩
        · refine ⟨rfl,?_⟩;rw [← hb1];cases rec;simp only at hst hpe;subst hst hpe;rfl
        · cases h
      · rcases hj with ⟨rfl,rfl⟩ | ⟨e,cd,he,rfl,hq⟩
        · cases h
        · exact ⟨e,cd,he,by rw [← hb1];rfl,hq⟩
    · exact s6.ext.mono fun b hb hm => by
        rcases hZW b hm with h | h
        · exact h
        · have hb : b < w.heap.size := hb;omega
    · rcases hb with ⟨q,y,o,a1,a2,a3⟩ | rfl
      · exact hZW _ (s6.live q y _ a1 a2 a3).1
      · exact .inl ((hW _).2 (.inr rfl))
    · rcases hb with ⟨q,y,o,a1,a2,a3⟩ | hb | rfl | hb
      · exact (hZW _ (s6.live q y _ a1 a2 a3).1).elim (fun h => .inl (hWN _ h)) fun h => .inr (.inr h)
      · rcases st3 b hb.1 with (h | h) | h
        · exact .inl ((hN b).2 (.inr (.inl h)))
        · exact .inr (.inl h)
        · exact (hZW _ h).elim (fun h => .inl (hWN _ h)) fun h => .inr (.inr h)
      · exact .inl ((hN _).2 (.inr (.inr (.inl rfl))))
      · exact .inl ((hN b).2 (.inr (.inr (.inr hb))))
  cases e with
  | normal => exact fin none _ hq3 (.inl ⟨rfl,rfl⟩)
  | ret =>
    obtain ⟨_,hx,hs,hq⟩ := hq3;exact fin (some .ret) hx hs (.inr ⟨.ret,.ret,rfl,rfl,hq⟩)
  | exit id =>
    obtain ⟨_,hx,hs,hq⟩ := hq3;exact fin (some (.exit id)) hx hs (.inr ⟨.exit id,.exit id,rfl,rfl,hq⟩)
  | goto t =>
    obtain ⟨_,hx,hs,hq⟩ := hq3;exact fin (some (.goto t)) hx hs (.inr ⟨.goto t,.goto t,rfl,rfl,hq⟩)
  | panic ch =>
    obtain ⟨⟨cd,hcd⟩,_⟩ := hq3;cases hcd
  | outgrown =>
    obtain ⟨⟨cd,hcd⟩,_⟩ := hq3;cases hcd
end
theorem tH.live {θ : Nat → Nat} {h h' : Hp} {ρ : Pl} (hs : tH θ h 0 h') {k : Nat} {x : AB} {p : Nat × Nat} (hx : h'[k]? = some x) (hg : x ≠ .gone) (hp : ρ (θ k) = some p) : ∃ y,h[θ k]? = some y ∧ y ≠ .gone := by
  have := hs.get k x hx;rw [Nat.zero_add] at this;exact ⟨_,this.resolve_left hg,by cases x <;> simp [AB.map] at *⟩
theorem QV {L : List Nat} {N k : Nat} (hk : k < L.length) : th L N k ∈ L := by
  unfold th;rw [aC hk];exact aH hk
theorem XS {P : Program} {r : Option Nat} {Q : Exit → Act → World → Prop} {a : Act} {w : World} {e : Exit} {cd : Code} (h : U3 e = some cd) (hq : Q e a w) : cd.wpIn (rd r) 0 P Q a w := by
  cases e <;> simp [U3] at h <;> subst h
  · exact wpIn_exit hq
  · exact wpIn_goto hq
  · exact wpIn_ret hq
theorem IK {P : Program} {n : Nat × Nat} {env : dD} {h : Hp} {Q : Exit → dD → Hp → Prop} {g : Operand} {ps : List Nat} {assign body : Code} {f : FuncId} {fs cs fs' cs' : List AV} {hit : Hp} {items : Nat → List AV} {N : Nat}
    (LI LA : List Nat) (E : dD) (HA : Nat → Hp) (m0 : Nat) (hx : evu env g = some (.clo (.func f) fs cs)) (hI : O3 P f fs' cs' hit items N)
    (hfs : AV.mapL (th LI h.length) fs' = fs) (hcs : AV.mapL (th LI h.length) cs' = cs) (hLI : LI.length = hit.length) (hHI : tH (th LI h.length) h 0 hit) (hIn : LI.Nodup)
    (hLA : LA.length = (HA 0).length) (hEA : LP (th LA h.length) env E) (hHA : tH (th LA h.length) h 0 (HA 0)) (hAn : LA.Nodup) (hAk : ∀ i,i < n.2 → LA[i]? = some i) (hdis : ∀ x,x ∈ LI → x ∉ LA) (hn2 : n.2 ≤ m0) (hm0 : m0 ≤ (HA 0).length)
    (hlow : SY m0 E = true) (hpl : ∀ t,t ∈ ps → t < n.1) (hit' : ∀ k,k < N → (items k).length = ps.length ∧ AV.idfL (items k) = true)
    (hround : ∀ k,k < N → AW P (n.1,m0) assign (qR ps (items k) E) (HA k) (fun e v h => e = .normal ∧ AW P (n.1,m0) body v h (QR m0 E HA Q k)))
    (hafter : Q .normal E (HA N)) : AW P n (.rangeFunc g ps.toArray assign body) env h Q := by
  intro c ρ S a w QQ s hQ;have p := s.pre;refine wpIn_rangeFunc fun fn _ => ?_
  have hlo : c.lo ≤ w.heap.size := cQ c.lole s.hs.ext.size;obtain ⟨l,bd,mk,w1,T,henter,hl1,hlw,hll1,x01,hT,hmk⟩ := LF (P := P) s.defers s.hs.stab hlo fn a.tmps ps.toArray assign body
  -- the function's value
  have hxv := p.evu hx;simp only [R] at hxv;obtain ⟨ys,zs,e1,hy1,hz1⟩ := hxv
  let ρA : Pl := fun k => ρ (th LA h.length k)
  let ρI : Pl := fun k => ρ (th LI h.length k)
  have hMnew : ∀ b,w1.heap.size ≤ b → iN h ρ b ∨ (w.heap.size ≤ b ∧ ¬ T b) := fun b hb => .inr ⟨cQ x01.size hb,fun ht => by have := (hT b ht).2.2;omega⟩
  let cA : oU := { w0 := w1,M := fun b => iN h ρ b ∨ (w.heap.size ≤ b ∧ ¬ T b),new := hMnew,S0 := fun b => S b ∨ T b,ρ0 := ρA,m := m0,lo := c.lo,lole := cQ hlo x01.size,r := some l }
  have hlnT : ¬ T l := fun ht => (hT l ht).2.1 rfl;have hlnS : ∀ b,S b → b ≠ l := fun b hb e => by have := s.hs.stab b hb;omega
  -- the caller's objects,aZ the rounds keep them
  have hsA0 : HS c ρA S (HA 0) w := s.hs.sub hLA hHA hAn (fun i hi => hAk i (s.cm ▸ hi));obtain ⟨hsA1,later1⟩ := hsA0.world x01 (fun _ _ h => h) (fun _ _ _ _ _ _ h => h) (fun _ _ h => h.elim);have liveA : ∀ (k : Nat) x q,(HA 0)[k]? = some x → x ≠ .gone → ρA k = some q → iN h ρ q.1 := fun k x q a1 a2 a3 => by
    obtain ⟨y,b1,b2⟩ := hHA.live (ρ := ρ) a1 a2 a3;exact ⟨_,y,q.2,b1,b2,a3⟩
  have liveI : ∀ (k : Nat) x q,hit[k]? = some x → x ≠ .gone → ρI k = some q → iN h ρ q.1 := fun k x q a1 a2 a3 => by
    obtain ⟨y,b1,b2⟩ := hHI.live (ρ := ρ) a1 a2 a3;exact ⟨_,y,q.2,b1,b2,a3⟩
  have liveLt : ∀ b,iN h ρ b → b < w.heap.size := fun b ⟨k,x,o,_,_,hp⟩ => s.hs.rng k _ hp
  have liveS : ∀ b,iN h ρ b → ¬ S b := fun b ⟨k,x,o,a1,a2,a3⟩ => (s.hs.live k x _ a1 a2 a3).2
  have hsA2 : HS c ρA (fun b => S b ∨ T b) (HA 0) w1 := hsA1.more (fun _ h => .inl h) (fun b hb => by
    rcases hb with hb | hb
    · exact hsA1.stab b hb
    · exact (hT b hb).2.2) (fun k x q a1 a2 a3 hb => by
    have h1 := liveA k x q a1 a2 a3;rcases hb with hb | hb
    · exact liveS _ h1 hb
    · have := (hT _ hb).1;have := liveLt _ h1;omega) (fun b hb => by
    rcases hb with hb | hb
    · exact s.hs.st1 b hb
    · exact .inr (c.new b (cQ s.hs.ext.size (hT b hb).1)))
  have hsA : HS cA ρA (fun b => S b ∨ T b) (HA 0) w1 := hsA2.re cA (fun k x q a1 a2 a3 => .inl (liveA k x q a1 a2 a3)) (lM.refl _ _) (fun _ h => h) (fun _ h => .inl h) hm0 (fun _ _ => rfl)
  -- the record
  obtain ⟨rec0,hrec⟩ : ∃ rec0 : Loop,rec0 = { state := .ready,pending := none,fn := fn,tmps := a.tmps,params := ps.toArray,assign := assign,body := body,defers := bd } := ⟨_,rfl⟩;rw [← hrec] at hl1;have hSA : ∀ b,(S b ∨ T b) → b < w1.heap.size ∧ ¬ (iN h ρ b ∨ (w.heap.size ≤ b ∧ ¬ T b)) := fun b hb => by
    rcases hb with hb | hb
    · refine ⟨cC (s.hs.stab b hb) x01.size,fun hm => ?_⟩
      rcases hm with hm | hm
      · exact liveS b hm hb
      · have := s.hs.stab b hb;omega
    · refine ⟨(hT b hb).2.2,fun hm => ?_⟩
      rcases hm with hm | hm
      · have := liveLt b hm;have := (hT b hb).1;omega
      · exact hm.2 hb
  have hMl : cA.M l := .inr ⟨hlw,hlnT⟩;have hS0l : ¬ cA.S0 l := fun h => by
    rcases h with h | h
    · exact hlnS l h rfl
    · exact hlnT h
  have henvE : ∀ t x,look E t = some x → R (fun b => S b ∨ T b) w1 x ρA (a.tmps.getD t undef) := fun t x hx => by
    have h1 := N9 _ ρ _ _ (s.env t _ (hEA.look t x hx));exact zP8 (fun _ h => .inl h) (h1.later later1)
  have hyield : Z2 P l (JR cA l rec0 E HA Q) (fun b => cA.S0 b ∨ cA.M b) items N := by
    refine GC (cA := cA) (n1 := n.1) (m0 := m0) (ps := ps) rfl hMl hS0l hSA (by rw [hrec]) (by rw [hrec]) (by rw [hrec]) (by rw [hrec];exact s.size) hpl hit' (fun t x hx => by rw [hrec];exact henvE t x hx) hlow (fun k hk => by rw [hrec];exact hround k hk)
  have hJok : VR (JR cA l rec0 E HA Q) := zK3
  let W0 : Nat → Prop := fun b => iN (HA 0) ρA b ∨ b = l
  let N0 : Nat → Prop := fun b => iN (HA 0) ρA b ∨ (S b ∨ T b) ∨ b = l ∨ ¬ cA.M b
  have hJ0 : JR cA l rec0 E HA Q (0,false) W0 N0 w1 := ⟨ρA,_,HA 0,rec0,hsA,hl1,hS0l,fun k x q a1 a2 a3 e => by have := liveLt _ (liveA k x q a1 a2 a3);omega,fun b => Iff.rfl,fun b => Iff.rfl,fun _ => ⟨rfl,rfl⟩,fun h => by cases h⟩
  -- the iterator's call
  have hAnew : ∀ b,w1.heap.size ≤ b → cA.S0 b ∨ cA.M b := fun b hb => .inr (hMnew b hb)
  let c0 : oU := { w0 := w,M := fun b => iN h ρ b ∨ w.heap.size ≤ b,new := fun b hb => .inr hb,S0 := S,ρ0 := fun _ => none,m := 0,lo := w.heap.size,lole := aU _,r := none }
  have hs0 : HS c0 ρ S h w := s.hs.re c0 (fun k x q a1 a2 a3 => .inl ⟨k,x,q.2,a1,a2,a3⟩) (lM.refl _ _) (fun _ h => h) (fun _ h => .inl h) (bG _) (fun k hk => absurd hk (eM _));have hsI0 : HS c0 ρI S hit w := hs0.sub hLI hHI hIn (VU);obtain ⟨hsI1,_⟩ := hsI0.world x01 (fun _ _ h => h) (fun _ _ _ _ _ _ h => h) (fun _ _ h => h.elim);have hsI : HS (YN w1 ρI S hit (fun b => cA.S0 b ∨ cA.M b) hAnew) ρI S hit w1 := hsI1.re _ (fun k x q a1 a2 a3 => .inr (.inl (liveI k x q a1 a2 a3))) (lM.refl _ _) (fun _ h => h) (fun _ h => .inl h) (aU _) (fun _ _ => rfl);have hargs : RL S w1 (fs' ++ [.clo (.yield l) [] []] ++ cs') ρI (ys.toList ++ [Value.func (.yield l) #[] #[]] ++ zs.toList) := by
    have lI : hY ρI ρI S S w w1 := ⟨fun _ _ h => h,fun _ h => h,fun b hb => x01.same b (s.hs.stab b hb) (fun h => h),fun _ _ _ _ _ hr => x01.room hr⟩
    rw [← hfs] at hy1;rw [← hcs] at hz1;exact fC (fC ((oJ _ ρ _ _ hy1).later lI) (by simp only [RL];exact ⟨_,_,rfl,by simp only [R,RL];exact ⟨#[],#[],rfl,rfl,rfl⟩,rfl⟩)) ((oJ _ ρ _ _ hz1).later lI)
  have hcall := hI.2 _ _ l hJok hyield ρI S w1 _ W0 N0 hAnew hsI hargs hJ0 (fun k x q a1 a2 a3 hn => by
    have hlv := liveI k x q a1 a2 a3;rcases hn with ⟨k',x',o',b1,b2,b3⟩ | hn | hn | hn
    · obtain ⟨y,d1,d2⟩ := hHI.live (ρ := ρ) a1 a2 a3;obtain ⟨y',d3,d4⟩ := hHA.live (ρ := ρ) b1 b2 b3;have he := s.hs.inj _ _ _ _ _ _ d1 d3 d2 d4 a3 b3 rfl;have hkI : k < LI.length := by rw [hLI];exact (aA.1 a1).1
      have hkA : k' < LA.length := by rw [hLA];exact (aA.1 b1).1
      exact hdis _ (QV (N := h.length) hkI) (he ▸ QV (N := h.length) hkA)
    · rcases hn with hn | hn
      · exact liveS _ hlv hn
      · have := (hT _ hn).1;have := liveLt _ hlv;omega
    · have := liveLt _ hlv;omega
    · exact hn (.inl hlv)) (fun b hb => ⟨.inl (.inl hb),fun hw => by
    rcases hw with ⟨k',x',o',b1,b2,b3⟩ | hw
    · exact liveS b (liveA k' x' (b,o') b1 b2 b3) hb
    · exact hlnS b hb hw⟩) (fun b hw => by
    rcases hw with ⟨k',x',o',b1,b2,b3⟩ | rfl
    · exact .inr (.inl (liveA k' x' (b,o') b1 b2 b3))
    · exact .inr hMl)
  have hrun := oL (P := P) (f := f) (args := (ys.toList ++ [Value.func (.yield l) #[] #[]] ++ zs.toList).toArray) (w := w1) hI.1;refine ⟨l,mk,w1,{ target := .fn (.func f) zs,args := ys ++ #[Value.func (.yield l) #[] #[]] },w1,f,(ys.toList ++ [Value.func (.yield l) #[] #[]] ++ zs.toList).toArray,w1,henter,?_,fun _ _ => trivial,?_,(fun h => (by cases h)),?_⟩
  · simp only [resolve];rw [e1];simp [Deferred.ofValue,Act.eval]
  · have e2 : (ys ++ #[Value.func (.yield l) #[] #[]] ++ zs : Array Value) = (ys.toList ++ [Value.func (.yield l) #[] #[]] ++ zs.toList).toArray := by
      apply Array.ext';simp
    simp only [invoke];rw [e2];exact hrun
  refine (GH (r := c.r) (n := 0 - 1) hcall).mono ?_;rintro e w5 ⟨y,g',W5,N5,rfl,⟨ρ5,S5,hh,rec5,s5,hl5,hSl5,hll5,hW5,hN5,hg1,hg2⟩,hgN⟩
  -- iQ the loop
  have hbusy : rec5.state ≠ .busy := by
    cases hb : g'.2 with
    | false => rw [(hg1 hb).2,hrec];simp
    | true =>
      obtain ⟨e,cd,_,hr,_⟩ := hg2 hb;rw [hr];simp
  refine ⟨_,_,run_endLoop hl5 hbusy,?_⟩;obtain ⟨s6,hr6⟩ := s5.put hl5 (fun _ _ _ e => by cases e) rfl (.loop { rec5 with state := .exhausted }) (fun _ => hMl) hS0l
  have hAc : ∀ b,cA.M b → c.M b := fun b hb => by
    rcases hb with ⟨k,x,o,a1,a2,a3⟩ | hb
    · exact (s.hs.live k x _ a1 a2 a3).1
    · exact c.new b (cQ s.hs.ext.size hb.1)
  have s7 : HS c ρ5 (fun b => S5 b ∧ b ≠ l) hh (w5.putObj l (.loop { rec5 with state := .exhausted })) := s6.re c (fun k x q a1 a2 a3 => hAc _ (s6.live k x q a1 a2 a3).1) (s.hs.ext.trans (((x01.mono (N := cA.M) fun _ _ h => h.elim)).trans s6.ext (fun _ h _ => h)) fun b hb _ => hAc b hb) (fun b hb => ⟨s5.st0 b (.inl (s.hs.st0 b hb)),hlnS b (s.hs.st0 b hb)⟩) (fun b hb => by
    rcases s5.st1 b hb.1 with (h | h) | h
    · exact s.hs.st1 b h
    · exact .inr (c.new b (cQ s.hs.ext.size (hT b h).1))
    · exact .inr (hAc b h)) (cQ (by rw [s.cm];exact hn2) s5.mle) (fun k hk => by
    have hk2 : k < n.2 := s.cm ▸ hk;have h1 := s5.keep k (cC hk2 hn2);rw [h1];show ρ (th LA h.length k) = _;have : th LA h.length k = k := by unfold th;rw [hAk k hk2]
    rw [this];exact s.hs.keep k hk)
  have hsame : ∀ b,(S b ∨ T b) → (w5.putObj l (.loop { rec5 with state := .exhausted })).heap[b]? = w1.heap[b]? := fun b hb => s6.ext.same b (hSA b hb).1 (hSA b hb).2;have s8 : oD n c ρ5 (fun b => S5 b ∧ b ≠ l) E hh { a with defers := mk ++ a.defers } (w5.putObj l (.loop { rec5 with state := .exhausted })) := by
    refine ⟨s.size,hmk _ _ (fun b hb => ⟨s5.st0 b (.inl hb),hlnS b hb⟩) (fun b hb => ⟨s5.st0 b (.inr hb),(hT b hb).2.1⟩) hsame,fun t x hx => ?_,s7,s.cm⟩
    have h1 := IR (ρ' := ρ5) (m := m0) (fun q hq => s5.keep q hq) x _ (J9 hlow hx) (henvE t x hx);exact lD (fun b hb => ⟨s5.st0 b hb,fun e => hS0l (e ▸ hb)⟩) hsame x ρ5 ρ5 _ (fun _ _ h => h) (fun _ _ _ _ _ hr => s6.ext.room hr) h1
  generalize w5.putObj l (.loop { rec5 with state := .exhausted }) = w6 at s8 ⊢;cases hb : g'.2 with
  | false =>
    obtain ⟨rfl,hr5⟩ := hg1 hb;rw [hgN hb] at s8;have : rec5.pending = none := by rw [hr5,hrec]
    rw [this];exact hQ .normal E (HA N) ρ5 _ _ _ hafter s8
  | true =>
    obtain ⟨e,cd,he,hr,hq⟩ := hg2 hb;have : rec5.pending = some cd := by rw [hr]
    rw [this];exact XS he (hQ e E hh ρ5 _ _ _ hq s8)
end Go.Ab
