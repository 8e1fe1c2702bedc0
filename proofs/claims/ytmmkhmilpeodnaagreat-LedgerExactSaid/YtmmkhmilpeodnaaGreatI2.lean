/-
  Texts of the logic and of the layer,in one module (part 2).
-/
import Derived.Test.YtmmkhmilpeodnaaGreatI1
import Derived.ProofKit
import Derived.OpenShut
import Derived.ShutString
import Derived.ChangeOld
import Derived.Laws.StructEq
import Derived.ChangeKeysEq
import Derived.Below
import Derived.ChangeSame
import Derived.WideKeyArgs
import Derived.Lib.SliceRun
import Derived.DeepKeys3
set_option linter.unusedVariables false
set_option linter.unusedSimpArgs false
set_option linter.unnecessarySimpa false

namespace Go.Ab
open Go
def gZ (P : Program) (t : TypeId) {α : Type} (ok : α → Prop) (enc : α → List AV) : Prop :=
  ∀ {H : Type} (e : TypeId × Value → H) (W : World) (fuel : Nat) (cs : List Value) x,DataW.trod e P W 0 (fun _ => true) true fuel t cs = some x →
    ∃ a,ok a ∧ (enc a).length = P.cellsOf t ∧ RL (fun b => b < W.heap.size) W (enc a) (fun _ => none) cs
section
variable {P : Program} {t : TypeId}
theorem gZ.int {k : IntKind} (ht : P.underlying t = some (.int k)) (hc : P.cellsOf t = 1) : gZ P t (fun n => (Lit.int k n).wf = true) (fun n => [.v (.int k n)]) := by
  intro H e W fuel cs x h;obtain ⟨n,rfl,_,hw⟩ := DataW.trod_int ht h;exact ⟨n,hw,by simp [hc],by simp [RL,R]⟩
theorem gZ.bool (ht : P.underlying t = some .bool) (hc : P.cellsOf t = 1) : gZ P t (fun _ => True) (fun b => [AV.b b]) := by
  intro H e W fuel cs x h;obtain ⟨b,rfl,_⟩ := DataW.trod_bool ht h;exact ⟨b,trivial,by simp [hc],by simp [RL,R]⟩
theorem gZ.string (ht : P.underlying t = some .string) (hc : P.cellsOf t = 1) : gZ P t (fun s => s.size ≤ maxLen) (fun s => [.v (.string s)]) := by
  intro H e W fuel cs x h;obtain ⟨s,rfl,_,hs⟩ := DataW.trod_string ht h;exact ⟨s,hs,by simp [hc],by simp [RL,R]⟩
theorem MI {α : Type} {n : Nat} {f : Nat → Option α} {l : List α} (h : (List.range n).mapM f = some l) : l.length = n ∧ ∀ i,i < n → f i = l[i]? := by
  induction n generalizing l with
  | zero => simp at h;subst h;simp
  | succ n ih =>
    rw [E0,List.mapM_append] at h;cases h1 : (List.range n).mapM f with
    | none => simp [h1] at h
    | some l1 =>
      cases h2 : f n with
      | none => simp [h1,h2] at h
      | some y =>
        simp [h1,h2] at h;subst h;obtain ⟨h3,h4⟩ := ih h1;refine ⟨by simp [h3],fun i hi => ?_⟩
        by_cases hin : i < n
        · rw [h4 i hin,aH (by omega)]
        · have : i = n := by omega
          subst this;rw [h2,aE (by omega)];simp [h3]
theorem zB0 (a : Addr) (n j : Nat) (h : n ≤ j) : (a.add n).add (j - n) = a.add j := by
  cases a with
  | mk bb oo sp =>
    unfold Addr.add;by_cases q1 : n = 0
    · rw [if_pos q1,q1];simp
    · rw [if_neg q1];by_cases q2 : j - n = 0
      · rw [if_pos q2,if_neg (by omega)];congr 1;omega
      · rw [if_neg q2,if_neg (by omega)];simp;omega
theorem gZ.slice {e : TypeId} {sz : Nat} {α : Type} {ok : α → Prop} {enc : α → List AV} (ht : P.underlying t = some (.slice e)) (hc : P.cellsOf t = 1) (hsz : P.cellsOf e = sz) (h0 : 0 < sz) (he : gZ P e ok enc) :
    gZ P t (fun l => l.length ≤ maxLen ∧ ∀ a,a ∈ l → ok a) (fun l : List α => [.rowE (l.map enc) sz]) := by
  intro H en W fuel cs x h;rcases DataW.trod_slice ht h with ⟨rfl,_⟩ | ⟨a,len,cap,elems,rest,n,_,rfl,_,_,hlc,hcm,hel,hget,_,_⟩
  · refine ⟨[],⟨by simp,by simp⟩,by simp [hc],?_⟩
    simp only [RL,R];exact ⟨_,[],rfl,⟨none,0,rfl,by simp,fun _ => rfl,by simp,by simp,.inl (by simp)⟩,rfl⟩
  · have key : ∀ m,m ≤ len → ∃ (l : List α) (ys : List Value),l.length = m ∧ (∀ a,a ∈ l → ok a) ∧ RL (fun b => b < W.heap.size) W (l.map enc).flatten (fun _ => none) ys ∧ ys.length = m * sz ∧ ∀ (j : Nat) y,ys[j]? = some y → W.cell? (a.add j) = some y := by
      intro m
      induction m with
      | zero => exact fun _ => ⟨[],[],rfl,by simp,by simp [RL],by simp,by simp⟩
      | succ m ih =>
        intro hm;obtain ⟨l,ys,h1,h2,h3,h4,h5⟩ := ih (by omega)
        have hg := hget m (by omega)
        rw [aA (by omega)] at hg
        obtain ⟨cs',h6,h7⟩ := Option.bind_eq_some_iff.1 hg;obtain ⟨b,h8,_,h9⟩ := he en W n cs' _ h7;unfold World.cells? at h6;split at h6
        · obtain ⟨g1,g2⟩ := MI h6;refine ⟨l ++ [b],ys ++ cs',by simp [h1],fun c hcc => ?_,?_,by rw [aF,h4,g1,hsz,eC,T1],fun j y hj => ?_⟩
          · rcases bI.1 hcc with hcc | hcc
            · exact h2 c hcc
            · simp at hcc;subst hcc;exact h8
          · rw [dB,fZ];exact gW h3 (by simpa using h9)
          · by_cases hjl : j < ys.length
            · rw [aH hjl] at hj;exact h5 j y hj
            · rw [aE (by omega)] at hj
              have hjl2 := (aB.1 hj).1;have := g2 (j - ys.length) (by omega)
              rw [hj] at this;have e2 : (a.add (m * P.cellsOf e)).add (j - ys.length) = a.add j := by
                rw [hsz,← h4];exact zB0 a ys.length j (by omega)
              rw [e2] at this;exact this
        · cases h6
    obtain ⟨l,ys,h1,h2,h3,h4,h5⟩ := key len (aY _);refine ⟨l,⟨by omega,h2⟩,by simp [hc],?_⟩
    simp only [RL,R];refine ⟨_,[],rfl,⟨some a,cap,by simp [h1],by simpa [h1] using hlc,(fun e => by cases e),hcm,?_,?_⟩,rfl⟩
    · rw [fD h3] at h4;simpa [h1] using h4
    · by_cases hz : len = 0
      · left;simp [h1,hz]
      · right;have hlt : 0 < ys.length := by rw [h4];exact zO6 (by omega) h0
        have hcell := h5 0 ys[0] (aA hlt);have ha : a.add 0 = a := by simp [Addr.add]
        rw [ha] at hcell;have hsp := World.cell?_spot hcell;obtain ⟨bb,oo,sp⟩ := a;simp only at hsp;subst hsp;refine ⟨bb,oo,ys,rfl,World.block_lt_of_cell? W _ hcell,?_,h3⟩;unfold World.cell? at hcell;split at hcell
        · rename_i c e fz hb;refine ⟨c,e,fz,hb,fun j y hj => ?_⟩
          have := h5 j y hj;rw [Addr.add_lit] at this;simpa [World.cell?,hb] using this
        · cases hcell
def iH (P : Program) (ts : List TypeId) {α : Type} (ok : α → Prop) (enc : α → List AV) : Prop :=
  ∀ {H : Type} (e : TypeId × Value → H) (W : World) (fuel : Nat) (css : List (List Value)),css.length = ts.length → (∀ (i : Nat) t cs,ts[i]? = some t → css[i]? = some cs → ∃ x,DataW.trod e P W 0 (fun _ => true) true fuel t cs = some x) →
    ∃ a,ok a ∧ (enc a).length = (ts.map P.cellsOf).sum ∧ RL (fun b => b < W.heap.size) W (enc a) (fun _ => none) css.flatten
theorem iH.nil : iH P [] (fun _ : Unit => True) (fun _ => []) := by
  intro H e W fuel css hl _;have : css = [] := bW hl;subst this;exact ⟨(),trivial,rfl,by simp [RL]⟩
theorem iH.cons {ts : List TypeId} {α β : Type} {ok : α → Prop} {enc : α → List AV} {ok' : β → Prop} {enc' : β → List AV} (h : gZ P t ok enc) (h' : iH P ts ok' enc') :
    iH P (t :: ts) (fun a : α × β => ok a.1 ∧ ok' a.2) (fun a => enc a.1 ++ enc' a.2) := by
  intro H e W fuel css hl hx
  match css,hl with
  | cs :: css,hl =>
    obtain ⟨x,hx0⟩ := hx 0 t cs (by simp) (by simp)
    obtain ⟨a,h1,h2,h3⟩ := h e W fuel cs x hx0;obtain ⟨b,h4,h5,h6⟩ := h' e W fuel css (by simpa using hl) (fun i t cs hi hi' => hx (i + 1) t cs (by simpa using hi) (by simpa using hi'))
    exact ⟨(a,b),⟨h1,h4⟩,by simp [h2,h5],by simpa using gW h3 h6⟩
def PS (P : Program) (t : TypeId) : Option (List (TypeId × Nat)) := match P.underlying t with
  | some (.struct fs) => some (fs.toList.map fun f => (f.type,f.offset))
  | _ => none
def OI (P : Program) : Nat → List (TypeId × Nat) → Nat → Bool
  | o,[],n => Nat.beq o n
  | o,(t,o') :: r,n => Nat.beq o o' && OI P (o + P.cellsOf t) r n
theorem CS {cs : List Value} : ∀ {fs : List (TypeId × Nat)} {o n : Nat}, OI P o fs n = true → n = cs.length → o ≤ n ∧ (fs.map fun f => (cs.drop f.2).take (P.cellsOf f.1)).flatten = cs.drop o
  | [],o,n,h,hn => by
    have := aO h;subst this;simp [hn]
  | (t,o') :: r,o,n,h,hn => by
    simp only [OI,aM] at h;have := aO h.1;subst this;obtain ⟨h1,h2⟩ := CS h.2 hn;refine ⟨by omega,?_⟩
    simp only [List.map_cons,eL,h2];rw [← LF,bL]
theorem gZ.struct {fs : List (TypeId × Nat)} {α : Type} {ok : α → Prop} {enc : α → List AV} (ht : PS P t = some fs) (hr : OI P 0 fs (P.cellsOf t) = true) (h : iH P (fs.map (·.1)) ok enc) (hl : ∀ a,(enc a).length = P.cellsOf t) : gZ P t ok enc := by
  intro H e W fuel cs x hx;unfold PS at ht;split at ht
  · rename_i fields hu;simp only [Option.some.injEq] at ht;subst ht;obtain ⟨xs,n,_,_,h1,h2,h3⟩ := DataW.trod_struct hu hx;obtain ⟨_,hsplit⟩ := CS (cs := cs) hr h1.symm
    obtain ⟨a,h4,h5,h6⟩ := h e W n ((fields.toList.map fun f => (f.type,f.offset)).map fun f => (cs.drop f.2).take (P.cellsOf f.1)) (by simp) (fun i tt cc hi hi' => by
      simp only [CG,bS,gI] at hi hi';obtain ⟨f,hf,rfl⟩ := hi;obtain ⟨f',hf',rfl⟩ := hi';rw [hf] at hf';cases hf';have hlt : i < xs.length := by rw [h2];simpa using (aB.1 hf).1
      have := h3 i f (by simpa using hf)
      rw [aA hlt] at this
      exact ⟨_,this⟩)
    refine ⟨a,h4,hl a,?_⟩;rw [hsplit] at h6;simpa using h6
  · cases ht
theorem gZ.one {α : Type} {ok : α → Prop} {enc : α → AV} (h : gZ P t ok (fun a => [enc a])) {H : Type} {e : TypeId × Value → H} {W : World} {v : Value} {d : DataW H} {p : List MemPlace} {base : Nat} (hok : Value.okWide P W .any base t v) (ha : BL P t = some false) (hv : DataW.Trod e P W 0 (fun _ => true) true t v d p) :
    ∃ a,ok a ∧ R (fun b => b < W.heap.size) W (enc a) (fun _ => none) v := by
  obtain ⟨fuel,hf⟩ := hv;obtain ⟨a,h1,_,h3⟩ := h e W fuel _ _ hf;refine ⟨a,h1,?_⟩;simp only [RL] at h3;obtain ⟨y,zs,h4,h5,h6⟩ := h3;subst h6;have hone : v.cells = #[v] := by
    cases v with
    | agg cs =>
      exfalso;unfold BL at ha;unfold Value.okWide at hok;split at ha <;> rename_i hu <;> try (cases ha;done)
      · cases h4' : cs.toList with
        | nil => simp [Value.cells,h4'] at h4
        | cons u r =>
          rename_i d hn1 hn2;rw [hu] at hok;cases d <;> first | exact absurd rfl (hn1 _) | exact absurd rfl (hn2 _ _) | (simp [Cell.okWide,Cell.ok,hu] at hok)
    | _ => rfl
  rw [hone] at h4;simp at h4;rw [h4];exact h5
theorem gZ.aggr {α : Type} {ok : α → Prop} {enc : α → List AV} (h : gZ P t ok enc) {H : Type} {e : TypeId × Value → H} {W : World} {v : Value} {d : DataW H} {p : List MemPlace} {base : Nat} (hok : Value.okWide P W .any base t v) (ha : BL P t = some true) (hv : DataW.Trod e P W 0 (fun _ => true) true t v d p) :
    ∃ a,ok a ∧ R (fun b => b < W.heap.size) W (.agg (enc a)) (fun _ => none) v := by
  obtain ⟨fuel,hf⟩ := hv;obtain ⟨a,h1,_,h3⟩ := h e W fuel _ _ hf;refine ⟨a,h1,?_⟩;have hag : ∃ cs,v = .agg cs := by
    unfold BL at ha;unfold Value.okWide at hok;split at ha <;> rename_i hu <;> try (cases ha;done)
    · rw [hu] at hok;obtain ⟨cs,hc,_⟩ := hok;exact ⟨cs,hc⟩
    · rw [hu] at hok;obtain ⟨cs,hc,_⟩ := hok;exact ⟨cs,hc⟩
  obtain ⟨cs,rfl⟩ := hag;simp only [R];exact ⟨cs,rfl,h3⟩
open RowKit in
theorem BB {f : FuncId} {xs : List AV} {vs : List Value} {W : World} (h : aR P f xs [] (.b true) []) (hv : RL (fun b => b < W.heap.size) W xs (fun _ => none) vs) (hgl : pF (fun b => b < W.heap.size) W := by exact pF.none rfl) :
    Calls P f vs.toArray W fun e w' => e = .returned (.bool true) ∧ Below W.heap.size W w' := by
  refine (h.2 (fun _ => none) (fun b => b < W.heap.size) W vs ⟨fun _ _ => rfl,(fun _ _ h => by cases h),(fun k b hb => by simp at hb),(fun k b p hb => by simp at hb),(fun k _ b _ _ _ hb => by simp at hb),fun _ h => h,mK.refl _ _,fun _ h => h,fun _ h => .inl h,aY _,(fun _ h => by simp [oB] at h),hgl⟩ hv).mono ?_
  rintro e w' ⟨y,ρ',S',rfl,hs,hy⟩;have := rT hy;subst this;refine ⟨rfl,hs.ext.os,hs.ext.tape,hs.ext.output,hs.ext.size,fun k hk => hs.ext.same k hk fun hm => ?_⟩
  rcases hm with hm | ⟨_,_,_,hm,_⟩
  · omega
  · simp at hm
end
structure mU where
  d : Option Nat
  x : AV
  new : List AB
theorem HS.fill {c : nT} {ρ ρ' : Pl} {S S' : Nat → Prop} {h h' : Hp} {w w' : World} {q m : Nat} {x : AV} {new : List AB} {y : Value} (s : HS c ρ S h w) (p : U4 ρ ρ' S S' w w' q m x new y) (hn : ∀ j, j < m → ρ (q + j) = none)
    (hl : h.length ≤ h'.length) (hout : ∀ k,k < q ∨ q + m ≤ k → h'[k]? = h[k]?) (hin : ∀ j,j < m → h'[q + j]? = new[j]?) (hm : c.m ≤ q ∨ m = 0) : HS c ρ' S' h' w' := by
  have l := p.later hn s.stab;have hsz : c.w0.heap.size ≤ w.heap.size := s.ext.size;have cs : ∀ k,(k < q ∨ q + m ≤ k) ∨ ∃ j,j < m ∧ k = q + j := fun k => by
    by_cases h1 : k < q ∨ q + m ≤ k
    · exact .inl h1
    · exact .inr ⟨k - q,by omega,by omega⟩
  have new_lt : ∀ {k : Nat} {b : AB},h'[k]? = some b → (∃ j,j < m ∧ k = q + j ∧ new[j]? = some b) ∨ ((k < q ∨ q + m ≤ k) ∧ h[k]? = some b) := fun {k b} hb => by
    rcases cs k with h1 | ⟨j,h1,rfl⟩
    · exact .inr ⟨h1,by rw [← hout k h1];exact hb⟩
    · exact .inl ⟨j,h1,rfl,by rw [← hin j h1];exact hb⟩
  refine ⟨fun k hk => ?_,fun k r hr => ?_,fun k b hb => ?_,fun k b r hb hg hr => ?_,fun k k' b b' r r' hb hb' hg hg' hr hr' e => ?_,fun b hb => ?_,s.ext.trans p.ext (fun _ h => h.elim),fun b hb => p.st b (s.st0 b hb),fun b hb => ?_,bA s.mle hl,fun k hk => ?_,s.glob.later l⟩
  · rcases cs k with h1 | ⟨j,h1,rfl⟩
    · rw [p.keep k h1];exact s.dom k (by omega)
    · have := hin j h1;rw [cM hk] at this;have h2 : j < new.length := by rw [p.len];exact h1
      rw [aA h2] at this;cases this
  · rcases cs k with h1 | ⟨j,h1,rfl⟩
    · rw [p.keep k h1] at hr;exact dI (s.rng k r hr) p.ext.size
    · exact (p.fresh _ r (by omega) (by omega) hr).2.1
  · rcases new_lt hb with ⟨j,h1,rfl,h2⟩ | ⟨h1,h2⟩
    · exact p.blk j b h2
    · rw [p.keep k h1];exact RB.later l (fun b' o hb' => p.ext.same b' (s.rng k _ hb') (by simp)) (s.blk k b h2)
  · rcases new_lt hb with ⟨j,h1,rfl,h2⟩ | ⟨h1,h2⟩
    · obtain ⟨f1,_,f3⟩ := p.fresh _ r (by omega) (by omega) hr
      exact ⟨c.new _ (by omega),f3⟩
    · rw [p.keep k h1] at hr;obtain ⟨f1,f2⟩ := s.live k b r h2 hg hr;refine ⟨f1,fun hs => ?_⟩
      rcases p.stn _ hs with hs | hs
      · exact f2 hs
      · have := s.rng k r hr;omega
  · rcases new_lt hb with ⟨j,h1,rfl,h2⟩ | ⟨h1,h2⟩ <;> rcases new_lt hb' with ⟨j',h1',rfl,h2'⟩ | ⟨h1',h2'⟩
    · exact p.inj _ _ r r' (by omega) (by omega) (by omega) (by omega) hr hr' e
    · rw [p.keep k' h1'] at hr';have f1 := s.rng k' r' hr';have f2 := (p.fresh _ r (by omega) (by omega) hr).1
      omega
    · rw [p.keep k h1] at hr;have f1 := s.rng k r hr;have f2 := (p.fresh _ r' (by omega) (by omega) hr').1
      omega
    · rw [p.keep k h1] at hr;rw [p.keep k' h1'] at hr';exact s.inj k k' b b' r r' h2 h2' hg hg' hr hr' e
  · rcases p.stn b hb with hb | hb
    · exact dI (s.stab b hb) p.ext.size
    · exact hb.2
  · rcases p.stn b hb with hb | hb
    · exact s.st1 b hb
    · exact .inr (c.new b (by omega))
  · rcases hm with hm | hm
    · rw [p.keep k (.inl (by omega))];exact s.keep k hk
    · rw [p.keep k (by omega)];exact s.keep k hk
def xX (env : dW) (all : List mU) : List Nat → dW
  | [] => env
  | j :: r => match all[j]? with
    | some f => lY f.d f.x (xX env all r)
    | none => xX env all r
def kE (L : Nat → Bool) : Nat → List mU → Hp
  | _,[] => []
  | i,f :: r => (match L i with | true => f.new | false => List.replicate f.new.length .gone) ++ kE L (i + 1) r
def mZ : List mU → Nat
  | [] => 0
  | f :: r => f.new.length + mZ r
theorem mX {env : dW} {all : List mU} : ∀ {pre : List Nat} {t : Nat} {x : AV}, look (xX env all pre) t = some x → look env t = some x ∨ ∃ j f, j ∈ pre ∧ all[j]? = some f ∧ f.d = some t ∧ f.x = x
  | [],_,_,h => .inl h
  | j :: r,t,x,h => by
    simp only [xX] at h;have up : (look env t = some x ∨ ∃ j f,j ∈ r ∧ all[j]? = some f ∧ f.d = some t ∧ f.x = x) → (look env t = some x ∨ ∃ j' f,j' ∈ j :: r ∧ all[j']? = some f ∧ f.d = some t ∧ f.x = x) := fun h => h.imp id fun ⟨j',f,h1,h2⟩ => ⟨j',f,aK _ h1,h2⟩
    split at h
    · rename_i f hf;cases hd : f.d with
      | none => rw [hd] at h;exact up (mX h)
      | some d =>
        rw [hd] at h;simp only [lY,gS] at h;split at h
        · rename_i he;subst he;cases h;exact .inr ⟨j,f,aS,hf,hd,rfl⟩
        · exact up (mX h)
    · exact up (mX h)
theorem nK (L : Nat → Bool) : ∀ (i : Nat) (l : List mU), (kE L i l).length = mZ l
  | _,[] => rfl
  | i,f :: r => by
    simp only [kE,mZ,aF,nK L (i + 1) r];cases L i <;> simp
theorem R4 : ∀ (a b : List mU), mZ (a ++ b) = mZ a + mZ b
  | [],b => by simp [mZ]
  | f :: a,b => by simp [mZ,R4 a b,dU]
theorem qR (L : Nat → Bool) : ∀ (i : Nat) (a b : List mU), kE L i (a ++ b) = kE L i a ++ kE L (i + a.length) b
  | i,[],b => by simp [kE]
  | i,f :: a,b => by
    simp only [List.cons_append,kE,qR L (i + 1) a b,List.length_cons,bP];rw [show i + 1 + a.length = i + (a.length + 1) by omega]
theorem mE {L L' : Nat → Bool} : ∀ (l : List mU) (i : Nat), (∀ j, i ≤ j → j < i + l.length → L j = L' j) → kE L i l = kE L' i l
  | [],_,_ => rfl
  | f :: r,i,h => by
    simp only [kE,h i (aY _) (by simp),mE r (i + 1) (fun j h1 h2 => h j (by omega) (by simp;omega))]
theorem I9 {L L' : Nat → Bool} : ∀ (l : List mU) (i k : Nat) (b : AB), (∀ j, L j = true → L' j = true) → (kE L i l)[k]? = some b → b ≠ .gone → (kE L' i l)[k]? = some b
  | [],_,k,b,_,h,_ => by simp [kE] at h
  | f :: r,i,k,b,hL,h,hg => by
    simp only [kE] at h ⊢;have len : ∀ L : Nat → Bool,(match L i with | true => f.new | false => List.replicate f.new.length .gone).length = f.new.length := fun L => by cases L i <;> simp
    by_cases hk : k < f.new.length
    · rw [aH (by rw [len];exact hk)] at h ⊢
      cases h1 : L i with
      | true => rw [h1] at h;rw [hL i h1];exact h
      | false =>
        rw [h1] at h;simp only [oW] at h;rw [if_pos hk] at h;cases h;exact absurd rfl hg
    · rw [aE (by rw [len];omega),len] at h ⊢
      exact I9 r (i + 1) _ b hL h hg
def eE (ds : List Nat) : dW → dW
  | [] => []
  | (t, x) :: r => match ds.any (Nat.beq t) with
    | true => eE ds r
    | false => (t,x) :: eE ds r
theorem oE {ds : List Nat} {t : Nat} : ds.any (Nat.beq t) = true ↔ t ∈ ds := by
  rw [iZ];constructor
  · rintro ⟨x,h1,h2⟩;rw [aO h2];exact h1
  · exact fun h => ⟨t,h,fJ t⟩
theorem kK {ds : List Nat} : ∀ {env : dW} {t : Nat} {x : AV}, look (eE ds env) t = some x → look env t = some x ∧ t ∉ ds
  | [],_,_,h => by cases h
  | (k,u) :: r,t,x,h => by
    simp only [eE] at h;split at h
    · rename_i hb;obtain ⟨h1,h2⟩ := kK h;refine ⟨?_,h2⟩;rw [gS,if_neg (fun e : k = t => h2 (e ▸ oE.1 hb))];exact h1
    · rename_i hb;rw [gS] at h ⊢;split at h
      · rename_i he;subst he;exact ⟨by rw [if_pos rfl];exact h,fun hm => by rw [oE.2 hm] at hb;cases hb⟩
      · rename_i he;rw [if_neg he];exact kK h
theorem zH4 {α : Type} (A B B' C : List α) (hB : B.length = B'.length) (k : Nat) (hk : k < A.length ∨ A.length + B.length ≤ k) : (A ++ (B ++ C))[k]? = (A ++ (B' ++ C))[k]? := by
  rcases hk with hk | hk
  · rw [aH hk,aH hk]
  · rw [aE (by omega),aE (by omega),aE (by omega),aE (by omega),hB]
def sY (ops : Array Oper) (pres : List (List Nat)) : Bool :=
  (List.range ops.size).all fun i => match ops[i]? with
    | none => false
    | some o =>
      (o.after.toList.all fun e => !Region.binds .any e || decide (e.on < i)) &&
      (match pres[i]? with
        | some pre => pre.all fun j => decide (j < i) && o.after.toList.any fun e => Region.binds .any e && (Nat.beq e.on j || (pres.getD e.on []).any (Nat.beq j))
        | none => (List.range i).all fun j => o.after.toList.any fun e => Region.binds .any e && Nat.beq e.on j)
def jG (all : List mU) : List Nat := all.filterMap (·.d)
def EO (P : Program) (ops : Array Oper) (i : Nat) (env : dW) (h : Hp) (f : mU) : Prop :=
  ∃ o,ops[i]? = some o ∧ o.dst = f.d ∧
    ((∃ x new,(o.guard = none ∨ ∃ g want t,o.guard = some (g,want) ∧ (ops[g]?).bind (·.dst) = some t ∧ look env t = some (.b want)) ∧ bX P ⟨o.dst,o.op,o.type,o.pos,o.after,none⟩ env h f.new.length x new ∧ x h.length = f.x ∧ new h.length = f.new) ∨
     (∃ g want t,o.guard = some (g,want) ∧ (ops[g]?).bind (·.dst) = some t ∧ (look env t = some (.b (!want)) ∨ look env t = some (.v undef)) ∧ f.x = .v undef ∧ f.new = []))
def DV (P : Program) (n : Nat × Nat) (ops : Array Oper) (pres : List (List Nat)) (ds : List Nat) (env : dW) (h : Hp) (effs : List mU) (K : dW → Hp → Prop) : Prop :=
  ∃ more,(effs ++ more).length = pres.length ∧ jG (effs ++ more) = ds ∧
    (∀ i f pre,effs.length ≤ i → (effs ++ more)[i]? = some f → pres[i]? = some pre → EO P ops i (xX env ((effs ++ more).take i) pre) (h ++ kE (fun j => pre.any (Nat.beq j)) 0 ((effs ++ more).take i)) f) ∧
    VC P n ops (ops.toList.drop pres.length) (xX env (effs ++ more) (List.range pres.length)) (h ++ kE (fun _ => true) 0 (effs ++ more)) K
theorem W4 {P : Program} {n : Nat × Nat} {ops : Array Oper} {pres : List (List Nat)} {ds : List Nat} {env : dW} {h : Hp} {effs : List mU} {K : dW → Hp → Prop} {f : mU} {pre : List Nat} {i : Nat} (hi : effs.length = i) (hp : pres[i]? = some pre)
    (hg : EO P ops i (xX env effs pre) (h ++ kE (fun j => pre.any (Nat.beq j)) 0 effs) f) (hk : DV P n ops pres ds env h (effs ++ [f]) K) : DV P n ops pres ds env h effs K := by
  obtain ⟨more,h1,h2,h3,h4⟩ := hk;have e : effs ++ [f] ++ more = effs ++ (f :: more) := by simp
  rw [e] at h1 h2 h3 h4;refine ⟨f :: more,h1,h2,fun j g p hj hgj hpj => ?_,h4⟩
  by_cases hji : j = i
  · subst hji;rw [hp] at hpj;cases hpj;rw [aE (by omega),hi,eY] at hgj
    simp at hgj;subst hgj;rw [lD,cF (by omega),hi,eY]
    simpa using hg
  · exact h3 j g p (by simp;omega) hgj hpj
theorem zT8 {P : Program} {n : Nat × Nat} {ops : Array Oper} {pres : List (List Nat)} {ds : List Nat} {env : dW} {h : Hp} {effs : List mU} {K : dW → Hp → Prop} (hl : effs.length = pres.length) (hd : jG effs = ds)
    (hk : VC P n ops (ops.toList.drop pres.length) (xX env effs (List.range pres.length)) (h ++ kE (fun _ => true) 0 effs) K) : DV P n ops pres ds env h effs K := by
  refine ⟨[],by simpa using hl,by simpa using hd,fun i f pre hi hf _ => ?_,by simpa using hk⟩
  have := (aB.1 hf).1;simp at this;omega
structure uM (P : Program) (n : Nat × Nat) (c : nT) (env : dW) (h : Hp) (all : List mU) (L : Nat → Bool) (ρ : Pl) (S : Nat → Prop) (a : Act) (w : World) : Prop where
  size : a.tmps.size = n.1
  defers : rV c S a.defers w
  cm : c.m = n.2
  env0 : ∀ t x,look env t = some x → R S w x ρ (a.tmps.getD t undef)
  done : ∀ (i : Nat) f t,all[i]? = some f → L i = true → f.d = some t → R S w f.x ρ (a.tmps.getD t undef)
  hs : HS c ρ S (h ++ kE L 0 all) w
  undone : ∀ (i : Nat) f,all[i]? = some f → L i = false → ∀ j,j < f.new.length → ρ (h.length + mZ (all.take i) + j) = none
theorem uM.step {P : Program} {n : Nat × Nat} {c : nT} {env : dW} {h : Hp} {all : List mU} {L L' : Nat → Bool} {ρ ρ' : Pl} {S S' : Nat → Prop} {a : Act} {w w' : World} {i : Nat} {f : mU} {y : Value} (s : uM P n c env h all L ρ S a w)
    (hf : all[i]? = some f) (hi : L i = false) (hL : ∀ j,L' j = (L j || Nat.beq j i)) (p : U4 ρ ρ' S S' w w' (h.length + mZ (all.take i)) f.new.length f.x f.new y) (hd : CA f.d n = true) (hnd : (jG all).Nodup) (henv : ∀ t x,look env t = some x → t ∉ jG all) (hm : c.m ≤ h.length) :
    uM P n c env h all L' ρ' S' (a.put f.d y) w' := by
  have hn := s.undone i f hf hi;have l := p.later hn s.hs.stab;have hil : i < all.length := (aB.1 hf).1;have dst_ne : ∀ {j : Nat} {g : mU} {t : Nat},all[j]? = some g → j ≠ i → g.d = some t → f.d ≠ some t := fun {j g t} hg hne hgt hft => by
    have key : ∀ {l : List mU} {i j : Nat} {f g : mU},(jG l).Nodup → l[i]? = some f → l[j]? = some g → i < j → f.d = some t → g.d = some t → False := by
      intro l
      induction l with
      | nil => intro i j f g _ h1;simp at h1
      | cons e l ih =>
        intro i j f g hnd h1 h2 hij hf hg;have tail : (jG l).Nodup := by
          unfold jG at hnd ⊢;rw [F5] at hnd;split at hnd
          · exact hnd
          · exact (fH.1 hnd).2
        cases j with
        | zero => omega
        | succ j =>
          simp only [kH] at h2;cases i with
          | zero =>
            simp only [eH,Option.some.injEq] at h1;subst h1;unfold jG at hnd;rw [F5,hf] at hnd;exact (fH.1 hnd).1 (kD.2 ⟨g,aQ h2,hg⟩)
          | succ i => exact ih tail (by simpa using h1) h2 (by omega) hf hg
    rcases iS hne with h1 | h1
    · exact key hnd hg hf h1 hgt hft
    · exact key hnd hf hg h1 hft hgt
  have other : ∀ {t : Nat},f.d ≠ some t → (a.put f.d y).tmps.getD t undef = a.tmps.getD t undef := fun {t} ht => by
    cases hfd : f.d with
    | none => rfl
    | some d => exact tH (fun e => ht (by rw [hfd,e]))
  have hsplit : all = all.take i ++ f :: all.drop (i + 1) := by
    have := bL i all;rw [aX hil] at this;have e : all[i] = f := by rw [aA hil] at hf;exact Option.some.inj hf
    rw [e] at this;exact this.symm
  have hti : (all.take i).length = i := by rw [bD];omega
  have sL : ∀ M : Nat → Bool,kE M 0 all = kE M 0 (all.take i) ++ ((match M i with | true => f.new | false => List.replicate f.new.length .gone) ++ kE M (i + 1) (all.drop (i + 1))) := fun M => by
    conv => lhs;rw [hsplit]
    rw [qR,hti,Nat.zero_add];rfl
  have e1 : kE L' 0 (all.take i) = kE L 0 (all.take i) := mE _ _ fun j _ hj => by
    rw [hti] at hj;rw [hL,show Nat.beq j i = false from by rw [← eN];intro hb;have := aO hb;omega,kN]
  have e2 : kE L' (i + 1) (all.drop (i + 1)) = kE L (i + 1) (all.drop (i + 1)) := mE _ _ fun j hj _ => by
    rw [hL,show Nat.beq j i = false from by rw [← eN];intro hb;have := aO hb;omega,kN]
  have hLi : L' i = true := by rw [hL,fJ,wN]
  have hA : h ++ kE L 0 all = h ++ (kE L 0 (all.take i) ++ (List.replicate f.new.length .gone ++ kE L (i + 1) (all.drop (i + 1)))) := by rw [sL L,hi]
  have hB : h ++ kE L' 0 all = h ++ (kE L 0 (all.take i) ++ (f.new ++ kE L (i + 1) (all.drop (i + 1)))) := by rw [sL L',hLi,e1,e2]
  have hlen := nK L 0 (all.take i);refine ⟨by rw [mY];exact s.size,by rw [kL];exact s.defers.later l,s.cm,fun t x hx => ?_,fun j g t hg hj ht => ?_,?_,fun j g hg hj k hk => ?_⟩
  · rw [other (fun e => henv t x hx (kD.2 ⟨f,aQ hf,e⟩))];exact (s.env0 t x hx).later l
  · by_cases hji : j = i
    · subst hji;rw [hf] at hg;cases hg;rw [ht] at hd ⊢;have hlt : t < a.tmps.size := by rw [s.size];exact aN hd
      rw [vA hlt];exact p.val
    · rw [other (dst_ne hg hji ht)];have hjL : L j = true := by
        rw [hL] at hj;rcases iK.1 hj with hj | hj
        · exact hj
        · exact absurd (aO hj) hji
      exact (s.done j g t hg hjL ht).later l
  · have hs := s.hs;rw [hA] at hs;rw [hB];refine hs.fill p hn (by simp) (fun k hk => ?_) (fun j hj => ?_) (.inl (by omega))
    · have := zH4 (h ++ kE L 0 (all.take i)) f.new (List.replicate f.new.length .gone) (kE L (i + 1) (all.drop (i + 1))) (by simp) k (by rw [aF,hlen];omega)
      simpa only [bP] using this
    · rw [aE (by omega),aE (by omega),aH (by omega)]
      congr 1;omega
  · have hjne : j ≠ i := fun e => by rw [e,hLi] at hj;cases hj
    have hjL : L j = false := by
      rw [hL] at hj;exact (nU.1 hj).1
    have h1 := s.undone j g hg hjL k hk;rw [p.keep _ ?_];exact h1;have hjl : j < all.length := (aB.1 hg).1;have eg : all[j] = g := by rw [aA hjl] at hg;exact Option.some.inj hg
    have ef : all[i] = f := by rw [aA hil] at hf;exact Option.some.inj hf
    have mono : ∀ {u v : Nat},u < v → (hv : v ≤ all.length) → (hu : u < all.length) → mZ (all.take u) + all[u].new.length ≤ mZ (all.take v) := fun {u v} huv hv hu => by
      have e3 : all.take v = all.take u ++ (all[u] :: (all.take v).drop (u + 1)) := by
        have := bL u (all.take v);rw [List.take_take,EM (by omega),aX (by simp;omega)] at this
        rw [List.getElem_take] at this;exact this.symm
      rw [e3,R4,mZ];omega
    rcases iS hjne with h2 | h2
    · left;have := mono h2 (by omega) hjl
      rw [eg] at this;omega
    · right;have := mono h2 (by omega) hil
      rw [ef] at this;omega
theorem lK {ops : Array Oper} {pres : List (List Nat)} (hok : sY ops pres = true) {i : Nat} {o : Oper} (ho : ops[i]? = some o) : ∀ e,e ∈ o.after → Region.binds .any e = true → e.on < i := by
  intro e he hb;have hlt : i < ops.size := (aG.1 ho).1;have h := bG.1 hok i (by simpa using hlt)
  rw [ho] at h;simp only [aM,bG] at h;have := h.1 e (by simpa using he)
  simpa [hb] using this
theorem pB {ops : Array Oper} {pres : List (List Nat)} (hok : sY ops pres = true) {i : Nat} {o : Oper} {pre : List Nat} (ho : ops[i]? = some o) (hp : pres[i]? = some pre) : ∀ j,j ∈ pre → j < i ∧ ∃ e,e ∈ o.after ∧ Region.binds .any e = true ∧ (e.on = j ∨ j ∈ pres.getD e.on []) := by
  intro j hj;have hlt : i < ops.size := (aG.1 ho).1;have h := bG.1 hok i (by simpa using hlt)
  rw [ho] at h;simp only [hp,aM,bG] at h;have := h.2 j hj;simp only [decide_eq_true_eq,iZ,aM,E1] at this;obtain ⟨h1,e,h2,h3,h4⟩ := this;refine ⟨h1,e,by simpa using h2,h3,?_⟩
  rcases h4 with h4 | ⟨x,h5,h6⟩
  · exact .inl (aO h4)
  · right;rw [aO h6];exact h5
theorem uD {ops : Array Oper} {pres : List (List Nat)} (hok : sY ops pres = true) {i : Nat} {o : Oper} (ho : ops[i]? = some o) (hp : pres.length ≤ i) : ∀ j,j < i → ∃ e,e ∈ o.after ∧ Region.binds .any e = true ∧ e.on = j := by
  intro j hj;have hlt : i < ops.size := (aG.1 ho).1;have h := bG.1 hok i (by simpa using hlt)
  rw [ho] at h;simp only [cM hp,aM,bG] at h;have := h.2 j (by simpa using hj)
  simp only [iZ,aM] at this;obtain ⟨e,h2,h3,h4⟩ := this;exact ⟨e,by simpa using h2,h3,aO h4⟩
theorem qN {P : Program} {ops : Array Oper} {pres : List (List Nat)} {Q : Exit → Act → World → Prop} (hok : sY ops pres = true) : ∀ (r k fuel : Nat) (listed : Array Bool) (a : Act) (w : World),k + r = ops.size → pres.length ≤ k → r ≤ fuel → listed.size = ops.size → (∀ j,j < ops.size → listed.getD j false = decide (j < k)) →
    wpList P ops Q (ops.toList.drop k) a w → wpAny P .any ops Q fuel listed a w := by
  intro r
  induction r with
  | zero =>
    intro k fuel listed a w hk _ _ hsz hl h;have hk' : k = ops.size := by omega
    have hr : Region.ready .any ops listed = [] := by
      rw [lE];intro i hi;obtain ⟨h1,o,ho,_⟩ := mem_ready.1 hi;have hlt : i < ops.size := (aG.1 ho).1;have := hl i hlt;have e : listed.getD i true = listed.getD i false := by simp [Array.getD,hsz,hlt]
      rw [e,this] at h1;simp at h1;omega
    rw [cY (by simp;omega)] at h
    cases fuel with
    | zero => exact ⟨hr,h⟩
    | succ fuel => exact ⟨fun _ => h,fun i hi => by rw [hr] at hi;cases hi⟩
  | succ r ih =>
    intro k fuel listed a w hk hp hf hsz hl h;obtain ⟨fuel,rfl⟩ : ∃ f,fuel = f + 1 := ⟨fuel - 1,by omega⟩
    have hlt : k < ops.size := by omega
    have ho : ops[k]? = some ops[k] := cT hlt
    have hin : k ∈ Region.ready .any ops listed := mem_ready.2 ⟨by
      have e : listed.getD k true = listed.getD k false := by simp [Array.getD,hsz,hlt]
      rw [e,hl k hlt];simp,ops[k],ho,fun e he hb => by
      have := lK hok ho e he hb
      rw [hl e.on (by omega)];simpa using this⟩
    refine ⟨(fun hr => by rw [hr] at hin;cases hin),fun i hi => ?_⟩
    obtain ⟨h1,o,hoi,hall⟩ := mem_ready.1 hi;have hil : i < ops.size := (aG.1 hoi).1;have hik : i = k := by
      have e : listed.getD i true = listed.getD i false := by simp [Array.getD,hsz,hil]
      rw [e,hl i hil] at h1;have h2 : k ≤ i := by simpa using h1
      rcases Nat.eq_or_lt_of_le h2 with h3 | h3
      · exact h3.symm
      · obtain ⟨e,he,hb,hon⟩ := uD hok hoi (by omega) k h3
        have := hall e he hb;rw [hon,hl k hlt] at this;simp at this
    subst hik;have hlist : ops.toList.drop i = ops[i] :: ops.toList.drop (i + 1) := by
      rw [aX (by simpa using hlt)];simp
    rw [hlist] at h;have : wpOp P ops Q i (wpList P ops Q (ops.toList.drop (i + 1))) a w := by
      unfold wpOp;rw [ho];exact h
    refine wpOp_mono (fun a' w' h' => ih (i + 1) fuel _ a' w' (by omega) (by omega) (by omega) (by simpa using hsz) (fun j hj => ?_) h') this
    by_cases hij : i = j
    · subst hij;simp [Array.getD,hsz,hlt]
    · rw [getD_set_ne false hij,hl j hj];simp;omega
theorem ZX {P : Program} {n : Nat × Nat} {env : dW} {h : Hp} {KK : dW → Hp → Prop} {l : List Oper} (pres : List (List Nat)) (ds : List Nat) (hok : sY l.toArray pres = true) (hnd : ds.Nodup) (hds : (ds.all fun d => Nat.blt d n.1) = true) (hsz : Nat.ble pres.length l.length = true)
    (hv : DV P n l.toArray pres ds (eE ds env) h [] KK) : ∀ c ρ S a w QQ,pN n c ρ S env h a w → (∀ env' h' ρ' S' a' w',KK env' h' → pN n c ρ' S' env' h' a' w' → QQ Exit.normal a' w') →
    wpAny P .any l.toArray QQ l.toArray.size (Array.replicate l.toArray.size false) a { w with drawn := w.drawn + 1 } := by
  intro c ρ S a w QQ s hQ;obtain ⟨all,h1,h2,h3,h4⟩ := hv;simp only [List.nil_append,List.length_nil,bU,true_implies] at h1 h2 h3 h4;have hple : pres.length ≤ l.toArray.size := by simpa using aN hsz
  have henv : ∀ t x,look (eE ds env) t = some x → look env t = some x ∧ t ∉ jG all := fun t x hx => by rw [h2];exact kK hx
  -- the first operations,in whatever order
  have key : ∀ (fuel : Nat) (listed : Array Bool) (U : List Nat) (ρ : Pl) (S : Nat → Prop) (a : Act) (w : World),listed.size = l.toArray.size → (∀ j,j < l.toArray.size → listed.getD j false = false → j ∈ U) → U.length ≤ fuel → (∀ j,pres.length ≤ j → listed.getD j false = false) →
      (∀ (i : Nat) o,l.toArray[i]? = some o → listed.getD i false = true → ∀ e,e ∈ o.after → Region.binds .any e = true → listed.getD e.on false = true) →
      uM P n c (eE ds env) h all (fun j => listed.getD j false) ρ S a w → wpAny P .any l.toArray QQ fuel listed a w := by
    intro fuel
    induction fuel with
    | zero =>
      intro listed U ρ S a w hls hU hUl htail hcl st;have hU0 : U = [] := bW (by omega)
      subst hU0;have hall : ∀ j,j < l.toArray.size → listed.getD j false = true := fun j hj => by
        cases hb : listed.getD j false with
        | true => rfl
        | false => exact absurd (hU j hj hb) (by simp)
      have hpm : pres.length = l.toArray.size := by
        rcases hC pres.length l.toArray.size with h5 | h5
        · have := htail pres.length (aY _);rw [hall _ h5] at this;cases this
        · omega
      refine qN (k := pres.length) (r := 0) hok _ _ a w (by omega) (aY _) (aY _) hls (fun j hj => ?_) (h4 c ρ S a w QQ ?_ fun env' h' ρ' S' a' w' k s' => hQ env' h' ρ' S' a' w' k s')
      · rw [hall j hj];simp;omega
      · refine ⟨st.size,st.defers,fun t x hx => ?_,?_,st.cm⟩
        · rcases mX hx with hx | ⟨j,f,h5,h6,h7,rfl⟩
          · exact st.env0 t x hx
          · exact st.done j f t h6 (hall j (by have := (aB.1 h6).1;omega)) h7
        · have := st.hs
          rwa [mE (L := fun j => listed.getD j false) (L' := fun _ => true) all 0 (fun j _ hj => hall j (by omega))] at this
    | succ fuel ih =>
      intro listed U ρ S a w hls hU hUl htail hcl st;by_cases hfl : ∀ j,j < pres.length → listed.getD j false = true
      · -- all of the first ones have come up
        refine qN (k := pres.length) (r := l.toArray.size - pres.length) hok _ _ a w (by omega) (aY _) ?_ hls (fun j hj => ?_) (h4 c ρ S a w QQ ?_ fun env' h' ρ' S' a' w' k s' => hQ env' h' ρ' S' a' w' k s')
        · have hsub : ∀ j,j ∈ List.range' pres.length (l.toArray.size - pres.length) → j ∈ U := fun j hj => by
            rw [zC3] at hj;exact hU j (by omega) (htail j hj.1)
          have := (zC2 (s := pres.length) (n := l.toArray.size - pres.length)).length_le_of_subset hsub;rw [UB] at this;omega
        · by_cases hj' : j < pres.length
          · rw [hfl j hj'];simp [hj']
          · rw [htail j (by omega)];simp;omega
        · refine ⟨st.size,st.defers,fun t x hx => ?_,?_,st.cm⟩
          · rcases mX hx with hx | ⟨j,f,h5,h6,h7,rfl⟩
            · exact st.env0 t x hx
            · exact st.done j f t h6 (hfl j (by have := (aB.1 h6).1;omega)) h7
          · have := st.hs
            rwa [mE (L := fun j => listed.getD j false) (L' := fun _ => true) all 0 (fun j _ hj => hfl j (by omega))] at this
      · obtain ⟨j0,hj0,hjf⟩ : ∃ j,j < pres.length ∧ listed.getD j false = false := by
          apply Classical.byContradiction;intro hc;apply hfl;intro j hj;cases hb : listed.getD j false with
          | true => rfl
          | false => exact absurd ⟨j,hj,hb⟩ hc
        -- something is ready
        have hex : Region.ready .any l.toArray listed ≠ [] := by
          have fX : ∃ j,j < pres.length ∧ listed.getD j false = false ∧ ∀ k,k < j → listed.getD k false = true := by
            have : ∀ b j,j ≤ b → j < pres.length → listed.getD j false = false → ∃ j,j < pres.length ∧ listed.getD j false = false ∧ ∀ k,k < j → listed.getD k false = true := by
              intro b
              induction b with
              | zero => exact fun j hj h5 h6 => ⟨j,h5,h6,fun k hk => by omega⟩
              | succ b ihb =>
                intro j hj h5 h6;by_cases hk : ∃ k,k < j ∧ listed.getD k false = false
                · obtain ⟨k,hk1,hk2⟩ := hk;exact ihb k (by omega) (by omega) hk2
                · refine ⟨j,h5,h6,fun k hk' => ?_⟩
                  cases hb : listed.getD k false with
                  | true => rfl
                  | false => exact absurd ⟨k,hk',hb⟩ hk
            exact this j0 j0 (aY _) hj0 hjf
          obtain ⟨j,h5,h6,h7⟩ := fX;intro he;have hlt : j < l.toArray.size := by omega
          have : j ∈ Region.ready .any l.toArray listed := mem_ready.2 ⟨by
            have e : listed.getD j true = listed.getD j false := by simp only [Array.getD,hls,hlt,dif_pos]
            rw [e,h6],_,cT hlt,fun e he hb => h7 _ (lK hok (cT hlt) e he hb)⟩
          rw [he] at this;cases this
        refine ⟨fun h5 => absurd h5 hex,fun i hi => ?_⟩
        obtain ⟨g1,o,ho,hall⟩ := mem_ready.1 hi;have hil : i < l.toArray.size := (aG.1 ho).1;have g1' : listed.getD i false = false := by
          have e : listed.getD i true = listed.getD i false := by simp only [Array.getD,hls,hil,dif_pos]
          rw [← e];exact g1
        have him : i < pres.length := by
          rcases hC i pres.length with h5 | h5
          · exact h5
          · obtain ⟨e,he,hb,hon⟩ := uD hok ho h5 j0 (by omega)
            have := hall e he hb;rw [hon,hjf] at this;cases this
        have hfi : all[i]? = some all[i] := aA (by omega)
        obtain ⟨pre,hpre⟩ : ∃ pre,pres[i]? = some pre := ⟨_,aA him⟩;obtain ⟨o',ho',hd',hg⟩ := h3 i all[i] pre hfi hpre;rw [ho] at ho';cases ho'
        -- its predecessors have come up
        have hprel : ∀ j,j ∈ pre → listed.getD j false = true := by
          have up : ∀ (b k : Nat) (p : List Nat),k ≤ b → pres[k]? = some p → (k = i ∨ listed.getD k false = true) → ∀ j,j ∈ p → listed.getD j false = true := by
            intro b
            induction b with
            | zero =>
              intro k p hk hp _ j hj;obtain ⟨ok,hok1⟩ : ∃ o,l.toArray[k]? = some o := ⟨_,cT (by have := (aB.1 hp).1;omega)⟩
              have := (pB hok hok1 hp j hj).1;omega
            | succ b ihb =>
              intro k p hk hp hki j hj;obtain ⟨ok,hok1⟩ : ∃ o,l.toArray[k]? = some o := ⟨_,cT (by have := (aB.1 hp).1;omega)⟩
              obtain ⟨_,e,he,hb,hor⟩ := pB hok hok1 hp j hj;have hle : listed.getD e.on false = true := by
                rcases hki with rfl | hki
                · rw [ho] at hok1;cases hok1;exact hall e he hb
                · exact hcl k ok hok1 hki e he hb
              rcases hor with hor | hor
              · rw [← hor];exact hle
              · have hon := lK hok hok1 e he hb;cases hpe : pres[e.on]? with
                | none => rw [aC,hpe] at hor;simp at hor
                | some p' =>
                  rw [aC,hpe] at hor;exact ihb e.on p' (by omega) hpe (.inr hle) j hor
          exact up i i pre (aY _) hpre (.inl rfl)
        have hpreP : EL ρ S (xX (eE ds env) (all.take i) pre) (h ++ kE (fun j => pre.any (Nat.beq j)) 0 (all.take i)) a w := by
          have sub : ∀ (k : Nat) b,(h ++ kE (fun j => pre.any (Nat.beq j)) 0 (all.take i))[k]? = some b → b ≠ .gone → (h ++ kE (fun j => listed.getD j false) 0 all)[k]? = some b := fun k b hb hgb => by
            by_cases hk : k < h.length
            · rw [aH hk] at hb ⊢;exact hb
            · rw [aE (by omega)] at hb ⊢
              have h5 := I9 (L' := fun j => listed.getD j false) _ _ _ _ (fun j hj => hprel j (oE.1 hj)) hb hgb;have h6 : kE (fun j => listed.getD j false) 0 all = kE (fun j => listed.getD j false) 0 (all.take i) ++ kE (fun j => listed.getD j false) (0 + (all.take i).length) (all.drop i) := by
                rw [← qR,bL]
              rw [h6,aH (aB.1 h5).1];exact h5
          refine ⟨fun t x hx => ?_,st.hs.rng,fun k b hb => ?_,fun k b p hb hgb hp => (st.hs.live k b p (sub k b hb hgb) hgb hp).2,st.hs.stab,st.hs.glob⟩
          · rcases mX hx with hx | ⟨j,f,h5,h6,h7,rfl⟩
            · exact st.env0 t x hx
            · rw [bZ] at h6;split at h6
              · exact st.done j f t h6 (hprel j h5) h7
              · cases h6
          · by_cases hgb : b = .gone
            · subst hgb;trivial
            · exact st.hs.blk k b (sub k b hb hgb)
        have hposl : (h ++ kE (fun j => pre.any (Nat.beq j)) 0 (all.take i)).length = h.length + mZ (all.take i) := by rw [aF,nK]
        have hokd : CA all[i].d n = true := by
          cases hdi : all[i].d with
          | none => rfl
          | some d =>
            have : d ∈ ds := by rw [← h2];exact kD.2 ⟨all[i],aI _,hdi⟩
            exact bG.1 hds d this
        -- on,kF it
        have on : ∀ y ρ' S' w',U4 ρ ρ' S S' w w' (h.length + mZ (all.take i)) all[i].new.length all[i].x all[i].new y → wpAny P .any l.toArray QQ fuel (listed.setIfInBounds i true) (a.put all[i].d y) w' := fun y ρ' S' w' p => by
          have hiU : i ∈ U := hU i hil g1';have hget : ∀ j,(listed.setIfInBounds i true).getD j false = (listed.getD j false || Nat.beq j i) := fun j => by
            by_cases hij : i = j
            · subst hij;rw [fJ,wN];simp only [Array.getD,U7,hls,hil,dif_pos];simp
            · rw [getD_set_ne false hij,show Nat.beq j i = false from by rw [← eN];intro hb;have := aO hb;omega,kN]
          refine ih (listed.setIfInBounds i true) (U.erase i) ρ' S' _ w' (by simpa using hls) (fun j hj hjl => ?_) (by rw [lJ hiU];omega) (fun j hj => ?_) (fun k ok hok1 hkl e he hb => ?_) (st.step (L' := fun j => (listed.setIfInBounds i true).getD j false) hfi g1' hget p hokd (by rw [h2];exact hnd) (fun t x hx => (henv t x hx).2) s.hs.mle)
          · rw [hget] at hjl;obtain ⟨h5,h6⟩ := nU.1 hjl;have hne : j ≠ i := fun e => by rw [e,fJ] at h6;cases h6
            exact (lS hne).2 (hU j hj h5)
          · rw [hget,htail j hj,show Nat.beq j i = false from by rw [← eN];intro hb;have := aO hb;omega];rfl
          · rw [hget] at hkl ⊢;rcases iK.1 hkl with h5 | h5
            · rw [hcl k ok hok1 h5 e he hb];rfl
            · have := aO h5;subst this;rw [ho] at hok1;cases hok1;rw [hall e he hb];rfl
        have yv : ∀ {g t : Nat} {b : Bool},(l.toArray[g]?).bind (·.dst) = some t → look (xX (eE ds env) (all.take i) pre) t = some (.b b) → yielded l.toArray a.tmps g = some b := fun {g t b} h5 h6 => by
          have h7 := rT (hpreP.env t _ h6);unfold yielded;rw [h5];have : a.tmps[t]? = some (.bool b) := by
            rw [dQ] at h7;cases h8 : a.tmps[t]? with
            | none => rw [h8] at h7;simp [undef] at h7
            | some v => rw [h8] at h7;simp at h7;rw [h7]
          simp [this]
        have yvu : ∀ {g t : Nat},(l.toArray[g]?).bind (·.dst) = some t → look (xX (eE ds env) (all.take i) pre) t = some (.v undef) → yielded l.toArray a.tmps g = none := fun {g t} h5 h6 => by
          have h7 := rT (hpreP.env t _ h6);unfold yielded;rw [h5];rw [dQ] at h7;cases h8 : a.tmps[t]? with
          | none => simp [h8]
          | some v => rw [h8] at h7;simp at h7;simp [h8,h7,undef]
        unfold wpOp;rw [ho];simp only;rcases hg with ⟨x,new,hgu,hfs,hx,hn⟩ | ⟨g,want,t,hgu,h5,h6,hx,hn⟩
        · have hw : Region.wanted o (yielded l.toArray a.tmps) = true := by
            rcases hgu with hgu | ⟨g,want,t,hgu,h5,h6⟩
            · exact nI hgu
            · simp [Region.wanted,hgu,yv h5 h6]
          rw [if_pos hw];left;have := hfs ρ S a w hpreP (h ++ kE (fun j => pre.any (Nat.beq j)) 0 (all.take i)).length (fun j hj => by rw [hposl];exact st.undone i _ hfi g1' j hj)
          refine this (wpAny P .any l.toArray QQ fuel (listed.setIfInBounds i true)) QQ fun y ρ' S' w' p => ?_
          rw [hx,hn,hposl] at p;have := on y ρ' S' w' p;rw [← hd'] at this;exact this
        · have hw : Region.wanted o (yielded l.toArray a.tmps) = false := by
            rcases h6 with h6 | h6
            · simp [Region.wanted,hgu,yv h5 h6]
            · simp [Region.wanted,hgu,yvu h5 h6]
          rw [if_neg (by rw [hw];exact tY)]
          have := on undef ρ S w ⟨mK.refl _ _,rfl,fun _ _ => rfl,fun _ h => h,fun _ h => .inl h,fun k p hk1 hk2 => by rw [hn] at hk2;simp at hk2;omega,fun k k' p p' hk1 hk2 => by rw [hn] at hk2;simp at hk2;omega,by rw [hx];exact kM _,fun j b hb => by rw [hn] at hb;simp at hb⟩
          rw [← hd'] at this;exact this
  have hsize : l.toArray.size = l.length := by simp
  have hrep : ∀ j,(Array.replicate l.toArray.size false).getD j false = false := fun j => by
    simp only [Array.getD];split <;> simp
  refine key l.toArray.size _ (List.range l.toArray.size) ρ S a _ (by simp) (fun j hj _ => by simpa using hj) (by simp) (fun j _ => hrep j) (fun i o _ hi => by rw [hrep] at hi;cases hi) ?_
  have hseg : ∀ (r : List mU) (i : Nat),kE (fun _ => false) i r = List.replicate (mZ r) .gone := by
    intro r
    induction r with
    | nil => intro i;rfl
    | cons f r ih => intro i;simp only [kE,ih,mZ,xS]
  have hL : (fun j => (Array.replicate l.toArray.size false).getD j false) = fun _ => false := funext hrep
  rw [hL];have l0 : iC ρ ρ S S w { w with drawn := w.drawn + 1 } := ⟨fun _ _ h => h,fun _ h => h,fun _ _ => rfl,fun _ _ _ _ _ h => h⟩
  refine ⟨s.size,s.defers.later l0,s.cm,fun t x hx => (s.env t x (kK hx).1).later l0,fun i f t _ hi => (by cases hi),?_,fun i f _ _ j _ => s.hs.dom _ (by omega)⟩
  rw [hseg];have ext : mK c.M c.w0 { w with drawn := w.drawn + 1 } := s.hs.ext.drew;have at_ : ∀ {k : Nat} {b : AB},(h ++ List.replicate (mZ all) .gone)[k]? = some b → b ≠ .gone → h[k]? = some b := fun {k b} hb hg => by
    by_cases hk : k < h.length
    · rwa [aH hk] at hb
    · rw [aE (by omega),oW] at hb
      split at hb
      · cases hb;exact absurd rfl hg
      · cases hb
  refine ⟨fun k hk => s.hs.dom k (by simp at hk;omega),s.hs.rng,fun k b hb => ?_,fun k b p hb hg hp => s.hs.live k b p (at_ hb hg) hg hp,fun k k' b b' p p' hb hb' hg hg' hp hp' e => s.hs.inj k k' b b' p p' (at_ hb hg) (at_ hb' hg') hg hg' hp hp' e,s.hs.stab,ext,s.hs.st0,s.hs.st1,by simp;exact bA s.hs.mle (iY _ _),s.hs.keep,s.hs.glob.later l0⟩
  by_cases hg : b = .gone
  · subst hg;trivial
  · exact RB.later l0 (fun _ _ _ => rfl) (s.hs.blk k b (at_ hb hg))
theorem oQ {P : Program} {QQ : Exit → Act → World → Prop} {id : Nat} {l : List Oper} {a : Act} {w : World} {r : Option Nat} (hm : P.follows .mixedOrders = true) (hnd : mO l = true) (h : wpAny P .any l.toArray (fun e a w => e = .normal ∧ QQ .normal a w) l.toArray.size (Array.replicate l.toArray.size false) a { w with drawn := w.drawn + 1 }) :
    (Code.region id l.toArray true).wpIn (rd r) 0 P QQ a w :=
  wpIn_mono (wpIn_region_any hm (I1 (fun e a w h => h.1) hnd h)) fun e a w he => by obtain ⟨rfl,h3⟩ := he;exact h3
theorem A9 {env : dW} {all : List mU} : ∀ (s n : Nat), s + n = all.length → xX env all (List.range' s n) = (all.drop s).foldr (fun f e => lY f.d f.x e) env
  | s,0,h => by rw [cY (by omega)];rfl
  | s,n + 1,h => by
    have hlt : s < all.length := by omega
    rw [List.range'_succ,aX hlt];simp only [xX,aA hlt,List.foldr_cons];rw [A9 (s + 1) n (by omega)]
theorem I8 : ∀ (i : Nat) (l : List mU), kE (fun _ => true) i l = l.flatMap (·.new)
  | _,[] => rfl
  | i,f :: r => by simp only [kE,bF,I8 (i + 1) r]
def K8 (env : dW) : List mU → dW
  | [] => env
  | f :: r => lY f.d f.x (K8 env r)
def JK : List mU → Hp
  | [] => []
  | f :: r => f.new ++ JK r
theorem K7 (env : dW) : ∀ l : List mU, K8 env l = l.foldr (fun f e => lY f.d f.x e) env
  | [] => rfl
  | f :: r => by simp only [K8,List.foldr_cons,K7 env r]
theorem V5 : ∀ l : List mU, JK l = l.flatMap (·.new)
  | [] => rfl
  | f :: r => by simp only [JK,bF,V5 r]
section
variable {P : Program} {n : Nat × Nat} {ops : Array Oper} {pres : List (List Nat)} {ds : List Nat} {env : dW} {h : Hp} {effs : List mU} {K : dW → Hp → Prop} {pre : List Nat}
variable {op : Op} {ty : TypeId} {pos : String} {af : Array Edge} {d : Option Nat}
theorem yC5 {u : AV} (hp : pres[effs.length]? = some pre) (ho : ops[effs.length]? = some ⟨d, op, ty, pos, af, none⟩) (hs : bX P ⟨d, op, ty, pos, af, none⟩ (xX env effs pre) (h ++ kE (fun j => pre.any (Nat.beq j)) 0 effs) 0 (fun _ => u) (fun _ => []))
    (hk : DV P n ops pres ds env h (effs ++ [⟨d,u,[]⟩]) K) : DV P n ops pres ds env h effs K :=
  W4 (f := ⟨d,u,[]⟩) rfl hp ⟨_,ho,rfl,.inl ⟨fun _ => u,fun _ => [],.inl rfl,hs,rfl,rfl⟩⟩ hk
theorem yC6 {u : Nat → AV} {b : Nat → List AB} {m : Nat} (hp : pres[effs.length]? = some pre) (ho : ops[effs.length]? = some ⟨d, op, ty, pos, af, none⟩) (hs : bX P ⟨d, op, ty, pos, af, none⟩ (xX env effs pre) (h ++ kE (fun j => pre.any (Nat.beq j)) 0 effs) m u b)
    (hm : (b (h ++ kE (fun j => pre.any (Nat.beq j)) 0 effs).length).length = m)
    (hk : DV P n ops pres ds env h (effs ++ [⟨d,u (h ++ kE (fun j => pre.any (Nat.beq j)) 0 effs).length,b (h ++ kE (fun j => pre.any (Nat.beq j)) 0 effs).length⟩]) K) : DV P n ops pres ds env h effs K :=
  W4 rfl hp ⟨_,ho,rfl,.inl ⟨u,b,.inl rfl,by simp only [hm];exact hs,rfl,rfl⟩⟩ hk
theorem zY7 {u : AV} {g t : Nat} {want : Bool} (hp : pres[effs.length]? = some pre) (ho : ops[effs.length]? = some ⟨d, op, ty, pos, af, some (g, want)⟩) (hj : (ops[g]?).bind (·.dst) = some t) (hl : look (xX env effs pre) t = some (.b want)) (hs : bX P ⟨d, op, ty, pos, af, none⟩ (xX env effs pre) (h ++ kE (fun j => pre.any (Nat.beq j)) 0 effs) 0 (fun _ => u) (fun _ => []))
    (hk : DV P n ops pres ds env h (effs ++ [⟨d,u,[]⟩]) K) : DV P n ops pres ds env h effs K :=
  W4 (f := ⟨d,u,[]⟩) rfl hp ⟨_,ho,rfl,.inl ⟨fun _ => u,fun _ => [],.inr ⟨g,want,t,rfl,hj,hl⟩,hs,rfl,rfl⟩⟩ hk
theorem zY8 {g t : Nat} {want : Bool} (hp : pres[effs.length]? = some pre) (ho : ops[effs.length]? = some ⟨d, op, ty, pos, af, some (g, want)⟩) (hj : (ops[g]?).bind (·.dst) = some t) (hl : look (xX env effs pre) t = some (.b (!want)))
    (hk : DV P n ops pres ds env h (effs ++ [⟨d,.v undef,[]⟩]) K) : DV P n ops pres ds env h effs K :=
  W4 rfl hp ⟨_,ho,rfl,.inr ⟨g,want,t,rfl,hj,.inl hl,rfl,rfl⟩⟩ hk
theorem zT7 {rest : List Oper} {env' : dW} {h' : Hp} (hl : effs.length = pres.length) (hd : jG effs = ds) (hr : ops.toList.drop pres.length = rest) (he : K8 env effs = env') (hh : h ++ JK effs = h')
    (hk : VC P n ops rest env' h' K) : DV P n ops pres ds env h effs K := by
  refine zT8 hl hd ?_;rw [← hl,A7,A9 0 effs.length (by omega),lT,← K7,I8,← V5,hl,hr,he,hh]
  exact hk
end
theorem KZ {S S' : Nat → Prop} {w : World} {ρ : Pl} {x : AV} {y : Value} (hS : ∀ b,S b → S' b) (h : R S w x ρ y) : R S' w x ρ y :=
  mB hS (fun _ _ => rfl) x ρ ρ y (fun _ _ h => h) (fun _ _ _ _ _ h => h) h
theorem zB4 {S S' : Nat → Prop} {w : World} {ρ : Pl} {x : List AV} {y : List Value} (hS : ∀ b,S b → S' b) (h : RL S w x ρ y) : RL S' w x ρ y :=
  kW hS (fun _ _ => rfl) x ρ ρ y (fun _ _ h => h) (fun _ _ _ _ _ h => h) h
theorem xH {S : Nat → Prop} {w : World} {ρ : Pl} {k sz : Nat} {es : List (List AV)} (hi : AV.idfL es.flatten = true) (hb : RB S w ρ (ρ k) (.arr es sz)) {y : Value} (hy : R S w (.sl k 0 es.length sz) ρ y) : R (fun c => S c ∨ ∃ o,ρ k = some (c,o)) w (.rowE es sz) ρ y := by
  simp only [RB] at hb;obtain ⟨hl,h0,hb⟩ := hb;simp only [R] at hy ⊢;obtain ⟨a,cap,rfl,hcm,hc⟩ := hy;rcases hc with ⟨h1,rfl⟩ | ⟨b,o,h5,rfl,h7,h8⟩
  · exact ⟨a,0,rfl,by omega,fun _ => rfl,hcm,eB hl,.inl h1⟩
  · refine ⟨_,cap,rfl,h7,(fun e => by cases e),hcm,eB hl,?_⟩
    rcases hb with ⟨rfl,_⟩ | ⟨b',o',ys,g1,g2,g3⟩
    · exact .inl rfl
    · rw [h5] at g1;cases g1;exact .inr ⟨b,o,ys,by simp,.inr ⟨o,h5⟩,g2.lies,zB4 (fun _ h => .inl h) (tU ρ _ _ _ hi g3)⟩
theorem HS.freeze {c : nT} {ρ : Pl} {S : Nat → Prop} {h : Hp} {w : World} {k sz : Nat} {es : List (List AV)} (s : HS c ρ S h w) (hk : h[k]? = some (.arr es sz)) : HS c ρ (fun b => S b ∨ ∃ o,ρ k = some (b,o)) (h.set k .gone) w := by
  have get : ∀ {j : Nat} {b : AB},(h.set k .gone)[j]? = some b → b ≠ .gone → j ≠ k ∧ h[j]? = some b := fun {j b} hj hg => by
    rw [gX] at hj;split at hj
    · split at hj
      · cases hj;exact absurd rfl hg
      · cases hj
    · rename_i e;exact ⟨fun e' => e e'.symm,hj⟩
  have l : iC ρ ρ S (fun b => S b ∨ ∃ o,ρ k = some (b,o)) w w := ⟨fun _ _ h => h,fun _ h => .inl h,fun _ _ => rfl,fun _ _ _ _ _ h => h⟩
  refine ⟨fun j hj => s.dom j (by simpa using hj),s.rng,fun j b hb => ?_,fun j b p hb hg hp => ?_,fun j j' b b' p p' hb hb' hg hg' hp hp' e => s.inj j j' b b' p p' (get hb hg).2 (get hb' hg').2 hg hg' hp hp' e,fun b hb => ?_,s.ext,fun b hb => .inl (s.st0 b hb),fun b hb => ?_,by simpa using s.mle,s.keep,s.glob.st (fun b hb => .inl hb)⟩
  · by_cases hg : b = .gone
    · subst hg;trivial
    · exact RB.later l (fun _ _ _ => rfl) (s.blk j b (get hb hg).2)
  · obtain ⟨h1,h2⟩ := s.live j b p (get hb hg).2 hg hp;refine ⟨h1,fun hs => ?_⟩
    rcases hs with hs | ⟨o,ho⟩
    · exact h2 hs
    · exact (get hb hg).1 (s.inj j k b _ p _ (get hb hg).2 hk hg (by simp) hp ho rfl)
  · rcases hb with hb | ⟨o,ho⟩
    · exact s.stab b hb
    · exact s.rng k _ ho
  · rcases hb with hb | ⟨o,ho⟩
    · exact s.st1 b hb
    · exact .inr (s.live k _ _ hk (by simp) ho).1
theorem pN.freeze {n : Nat × Nat} {c : nT} {ρ : Pl} {S : Nat → Prop} {env : dW} {h : Hp} {a : Act} {w : World} {t k len sz : Nat} {es : List (List AV)} (s : pN n c ρ S env h a w) (ht : look env t = some (.sl k 0 len sz)) (hk : h[k]? = some (.arr es sz)) (hn : len = es.length) (hi : AV.idfL es.flatten = true) :
    pN n c ρ (fun b => S b ∨ ∃ o,ρ k = some (b,o)) ((t,.rowE es sz) :: env) (h.set k .gone) a w := by
  refine ⟨s.size,s.defers.st (fun _ h => .inl h),fun t' x hx => ?_,s.hs.freeze hk,s.cm⟩
  rw [gS] at hx;split at hx
  · rename_i e;subst e;cases hx;have := s.env t _ ht;rw [hn] at this;exact xH hi (s.hs.blk k _ hk) this
  · exact KZ (fun _ h => .inl h) (s.env t' x hx)
section
variable {P : Program} {n : Nat × Nat} {ops : Array Oper} {env : dW} {h : Hp} {K : dW → Hp → Prop} {rest : List Oper} {Q : Exit → dW → Hp → Prop} {code : Code}
theorem kR (t : Nat) {k len sz : Nat} {es : List (List AV)} (ht : look env t = some (.sl k 0 len sz)) (hk : h[k]? = some (.arr es sz)) (hn : len = es.length) (hi : AV.idfL es.flatten = true) (hv : VC P n ops rest ((t,.rowE es sz) :: env) (h.set k .gone) K) : VC P n ops rest env h K :=
  fun c ρ S a w Q s hQ => hv c ρ _ a w Q (s.freeze ht hk hn hi) hQ
theorem Q0 (t : Nat) {k len sz : Nat} {es : List (List AV)} (ht : look env t = some (.sl k 0 len sz)) (hk : h[k]? = some (.arr es sz)) (hn : len = es.length) (hi : AV.idfL es.flatten = true) (hv : AW P n code ((t,.rowE es sz) :: env) (h.set k .gone) Q) : AW P n code env h Q :=
  fun c ρ S a w QQ s hQ => hv c ρ _ a w QQ (s.freeze ht hk hn hi) hQ
theorem HS.none {c : nT} {ρ : Pl} {S : Nat → Prop} {h : Hp} {w : World} (s : HS c ρ S h w) (hm : c.m = 0) : HS c (fun _ => none) S [] w :=
  ⟨fun _ _ => rfl,(fun _ _ h => by cases h),(fun _ _ hb => by simp at hb),(fun _ _ _ hb => by simp at hb),(fun _ _ _ _ _ _ hb => by simp at hb),s.stab,s.ext,s.st0,s.st1,(by rw [hm];exact bU _),(fun _ hk => by omega),s.glob⟩
theorem mH {f : FuncId} {args : List AV} {es : List (List AV)} {len sz : Nat} (hn : len = es.length) (hi : AV.idfL es.flatten = true) (h : aR P f args [] (.sl 0 0 len sz) [.arr es sz]) : aR P f args [] (.rowE es sz) [] := by
  refine ⟨h.1,fun ρ S w vs hs ha => (h.2 ρ S w vs hs ha).mono ?_⟩;rintro e w' ⟨y,ρ',S',rfl,h2,h3⟩;rw [hn] at h3;exact ⟨y,_,_,rfl,(h2.freeze (k := 0) rfl).none rfl,S9 ρ' _ _ _ rfl (xH hi (h2.blk 0 _ rfl) h3)⟩
end
theorem bX.more {P : Program} {o : Oper} {env env' : dW} {h : Hp} {m : Nat} {x : Nat → AV} {new : Nat → List AB} (hs : bX P o env h m x new) (he : ∀ t u,look env t = some u → look env' t = some u) : bX P o env' h m x new :=
  fun ρ S a w p => hs ρ S a w ⟨fun t u hu => p.env t u (he t u hu),p.rng,p.blk,p.live,p.stab,p.glob⟩
def yB (env : dW) : List mU → dW
  | [] => env
  | f :: r => yB (lY f.d f.x env) r
theorem G4 (f : mU) : ∀ (l : List mU) (env : dW), yB env (l ++ [f]) = lY f.d f.x (yB env l)
  | [],_ => rfl
  | g :: r,env => by simp only [List.cons_append,yB,G4 f r]
def pC : Nat → List mU → List (Nat × Hp)
  | _,[] => []
  | i, f :: r => match f.new with
    | [] => pC (i + 1) r
    | b :: q => (i,b :: q) :: pC (i + 1) r
def mM (pre : List Nat) : List (Nat × Hp) → Hp
  | [] => []
  | (i,l) :: r => (match pre.any (Nat.beq i) with | true => l | false => List.replicate l.length .gone) ++ mM pre r
theorem mG (pre : List Nat) : ∀ (i : Nat) (l : List mU), kE (fun j => pre.any (Nat.beq j)) i l = mM pre (pC i l)
  | _,[] => rfl
  | i,f :: r => by
    simp only [kE,pC];cases hf : f.new with
    | nil => simp only [List.length_nil,NR] <;> (cases pre.any (Nat.beq i) <;> simpa using mG pre (i + 1) r)
    | cons b q => simp only [mM];rw [mG pre (i + 1) r];try rfl
theorem xZ {f : mU} (hf : f.new = []) : ∀ (l : List mU) (i : Nat), pC i (l ++ [f]) = pC i l
  | [],i => by simp [pC,hf]
  | g :: r,i => by
    simp only [List.cons_append,pC];rw [xZ hf r (i + 1)]
theorem R2 {f : mU} (hf : f.new ≠ []) : ∀ (l : List mU) (i : Nat), pC i (l ++ [f]) = pC i l ++ [(i + l.length, f.new)]
  | [],i => by
    simp only [List.nil_append,pC,List.length_nil,Nat.add_zero];cases h : f.new with
    | nil => exact absurd h hf
    | cons b q => rfl
  | g :: r,i => by
    simp only [List.cons_append,pC];rw [R2 hf r (i + 1)];have : i + (g :: r).length = i + 1 + r.length := by simp;omega
    rw [this];cases g.new <;> rfl
theorem B6 : ∀ (l : List mU) (i : Nat), JK l = ((pC i l).map (·.2)).flatten
  | [],_ => rfl
  | f :: r,i => by
    simp only [JK,pC];rw [B6 r (i + 1)];cases hf : f.new <;> simp
def lA : List (Nat × Hp) → Hp
  | [] => []
  | (_,l) :: r => l ++ lA r
theorem xQ : ∀ l : List (Nat × Hp), lA l = (l.map (·.2)).flatten
  | [] => rfl
  | (_,l) :: r => by simp only [lA,List.map_cons,eL,xQ r]
def kZ (ops : List Oper) (pres : List (List Nat)) (ds : List Nat) (bads : List (List Nat)) (n : Nat) : Bool :=
  sY ops.toArray pres && decide ds.Nodup && ds.all (fun d => Nat.blt d n) && Nat.ble pres.length ops.length &&
  decide ((ops.take pres.length).filterMap (·.dst) = ds) &&
  (List.range pres.length).all fun i => (List.range i).all fun j => (pres.getD i []).any (Nat.beq j) || (match ops[j]? with
    | some o => (match o.dst with | some d => (bads.getD i []).any (Nat.beq d) | none => true)
    | none => true)
section
variable {P : Program} {n : Nat × Nat} {ops : List Oper} {pres : List (List Nat)} {ds : List Nat} {bads : List (List Nat)} {env : dW} {h : Hp} {K : dW → Hp → Prop} {pre bad : List Nat}
structure H9 (ops : List Oper) (env : dW) (i : Nat) (cur : dW) (objs : List (Nat × Hp)) (effs : List mU) : Prop where
  len : effs.length = i
  cur : cur = yB env effs
  objs : objs = pC 0 effs
  dst : ∀ (j : Nat) f,effs[j]? = some f → ∃ o,ops[j]? = some o ∧ o.dst = f.d
def DW (P : Program) (n : Nat × Nat) (ops : List Oper) (pres : List (List Nat)) (ds : List Nat) (bads : List (List Nat)) (env : dW) (h : Hp) (i : Nat) (cur : dW) (objs : List (Nat × Hp)) (K : dW → Hp → Prop) : Prop :=
  kZ ops pres ds bads n.1 = true → (∀ t,t ∈ ds → look env t = none) → ∀ effs,H9 ops env i cur objs effs → DV P n ops.toArray pres ds env h effs K
theorem D4 {KK : dW → Hp → Prop} {l : List Oper} (pres : List (List Nat)) (ds : List Nat) (bads : List (List Nat)) (hok : kZ l pres ds bads n.1 = true)
    (hv : DW P n l pres ds bads (eE ds env) h 0 (eE ds env) [] KK) : ∀ c ρ S a w QQ,pN n c ρ S env h a w → (∀ env' h' ρ' S' a' w',KK env' h' → pN n c ρ' S' env' h' a' w' → QQ Exit.normal a' w') →
    wpAny P .any l.toArray QQ l.toArray.size (Array.replicate l.toArray.size false) a { w with drawn := w.drawn + 1 } := by
  have hok' := hok;simp only [kZ,aM,decide_eq_true_eq] at hok';obtain ⟨⟨⟨⟨⟨h1,h2⟩,h3⟩,h4⟩,h5⟩,h6⟩ := hok';refine ZX pres ds h1 h2 h3 h4 (hv hok (fun t ht => ?_) [] ⟨rfl,rfl,rfl,fun j f hf => by simp at hf⟩)
  cases hl : look (eE ds env) t with
  | none => rfl
  | some x => exact absurd ht (kK hl).2
theorem KP {Q : Exit → dW → Hp → Prop} {id : Nat} {l : List Oper} (pres : List (List Nat)) (ds : List Nat) (bads : List (List Nat)) (hm : P.follows .mixedOrders = true) (hok : kZ l pres ds bads n.1 = true)
    (hv : DW P n l pres ds bads (eE ds env) h 0 (eE ds env) [] (fun v h => Q .normal v h)) (hndf : mO l = true := by rfl) : AW P n (.region id l.toArray true) env h Q :=
  fun c ρ S a w QQ s hQ => oQ hm hndf (D4 pres ds bads hok hv c ρ S a w (fun e a w => e = .normal ∧ QQ .normal a w) s fun env' h' ρ' S' a' w' k s' => ⟨rfl,hQ .normal env' h' ρ' S' a' w' k s'⟩)
theorem G5 : ∀ {effs : List mU} {env : dW} {t : Nat} {x : AV}, look (yB env effs) t = some x → (look env t = some x ∧ ∀ (j : Nat) f, effs[j]? = some f → f.d ≠ some t) ∨ ∃ (j : Nat) (f : mU), effs[j]? = some f ∧ f.d = some t ∧ f.x = x
  | [],env,t,x,h => .inl ⟨h,fun j f hf => by simp at hf⟩
  | f :: r,env,t,x,h => by
    rcases G5 (effs := r) h with ⟨h1,h2⟩ | ⟨j,g,h1,h2,h3⟩
    · cases hd : f.d with
      | none =>
        rw [hd] at h1;refine .inl ⟨h1,fun j g hg => ?_⟩
        cases j with
        | zero => simp at hg;subst hg;rw [hd];simp
        | succ j => exact h2 j g (by simpa using hg)
      | some d =>
        rw [hd] at h1;simp only [lY,gS] at h1;split at h1
        · rename_i e;subst e;cases h1;exact .inr ⟨0,f,rfl,hd,rfl⟩
        · rename_i e;refine .inl ⟨h1,fun j g hg => ?_⟩
          cases j with
          | zero => simp at hg;subst hg;rw [hd];simpa using e
          | succ j => exact h2 j g (by simpa using hg)
    · exact .inr ⟨j + 1,g,by simpa using h1,h2,h3⟩
theorem I5 {env : dW} {effs : List mU} {t : Nat} : ∀ {pre : List Nat}, (∀ (j : Nat) f, effs[j]? = some f → f.d ≠ some t) → look (xX env effs pre) t = look env t
  | [],_ => rfl
  | k :: r,hn => by
    simp only [xX];cases hk : effs[k]? with
    | none => exact I5 hn
    | some f =>
      have := hn k f hk;simp only;cases hd : f.d with
      | none => exact I5 hn
      | some d =>
        rw [hd] at this;simp only [lY,gS];rw [if_neg (fun e => this (by rw [e])),I5 hn]
theorem V0 {env : dW} {effs : List mU} {t j : Nat} {f : mU} (hf : effs[j]? = some f) (hd : f.d = some t) (hu : ∀ (k : Nat) g, effs[k]? = some g → g.d = some t → k = j) : ∀ {pre : List Nat}, j ∈ pre → look (xX env effs pre) t = some f.x
  | k :: r,hj => by
    simp only [xX];by_cases hkj : k = j
    · subst hkj;rw [hf];simp only [hd,lY,gS,if_pos]
    · have hr : j ∈ r := by
        rcases bR.1 hj with e | e
        · exact absurd e.symm hkj
        · exact e
      cases hk : effs[k]? with
      | none => exact V0 hf hd hu hr
      | some g =>
        simp only;cases hgd : g.d with
        | none => exact V0 hf hd hu hr
        | some d =>
          simp only [lY,gS];rw [if_neg (fun e => hkj (hu k g hk (by rw [hgd,e])))]
          exact V0 hf hd hu hr
theorem yC {α β : Type} {f : α → Option β} : ∀ {l : List α}, (l.filterMap f).Nodup → ∀ {i j : Nat} {a b : α} {x : β}, l[i]? = some a → l[j]? = some b → f a = some x → f b = some x → i = j
  | [],_,i,j,a,b,x,hi,_,_,_ => by simp at hi
  | c :: r,hnd,i,j,a,b,x,hi,hj,ha,hb => by
    have mem : ∀ {k : Nat} {u : α},r[k]? = some u → f u = some x → x ∈ r.filterMap f := fun hk hu => kD.2 ⟨_,aQ hk,hu⟩
    have hr : (r.filterMap f).Nodup := by
      cases hc : f c with
      | none => rwa [List.filterMap_cons_none hc] at hnd
      | some y => rw [oF hc] at hnd;exact (fH.1 hnd).2
    cases i with
    | zero =>
      cases j with
      | zero => rfl
      | succ j =>
        simp at hi hj;subst hi;rw [oF ha] at hnd;exact absurd (mem hj hb) (fH.1 hnd).1
    | succ i =>
      cases j with
      | zero =>
        simp at hi hj;subst hj;rw [oF hb] at hnd;exact absurd (mem hi ha) (fH.1 hnd).1
      | succ j => exact congrArg (· + 1) (yC hr (a := a) (b := b) (i := i) (j := j) (by simpa using hi) (by simpa using hj) ha hb)
theorem H9.see {i : Nat} {cur : dW} {objs : List (Nat × Hp)} {effs : List mU} (hok : kZ ops pres ds bads n.1 = true) (g : H9 ops env i cur objs effs) (hp : pres[i]? = some pre) (hb : bads[i]? = some bad) : ∀ t x,look (eE bad cur) t = some x → look (xX env effs pre) t = some x := by
  intro t x hx;simp only [kZ,aM,decide_eq_true_eq] at hok;obtain ⟨⟨⟨⟨⟨h1,h2⟩,h3⟩,h4⟩,h5⟩,h6⟩ := hok;obtain ⟨h7,h8⟩ := kK hx;rw [g.cur] at h7;have hi : i < pres.length := (aB.1 hp).1;rcases G5 h7 with ⟨h9,h10⟩ | ⟨j,f,h9,h10,h11⟩
  · rw [I5 h10];exact h9
  · have hji : j < i := by rw [← g.len];exact (aB.1 h9).1
    obtain ⟨o,ho,hod⟩ := g.dst j f h9;have huniq : ∀ (k : Nat) q,effs[k]? = some q → q.d = some t → k = j := fun k q hk hq => by
      obtain ⟨o',ho',hod'⟩ := g.dst k q hk;have hki : k < i := by rw [← g.len];exact (aB.1 hk).1
      rw [← h5] at h2;refine yC h2 (i := k) (j := j) (a := o') (b := o) (x := t) ?_ ?_ (by rw [hod',hq]) (by rw [hod,h10])
      · rw [bZ,if_pos (by omega)];exact ho'
      · rw [bZ,if_pos (by omega)];exact ho
    rw [← h11];refine V0 h9 h10 huniq ?_;have h12 := bG.1 (bG.1 h6 i (by simpa using hi)) j (by simpa using hji)
    rcases iK.1 h12 with h12 | h12
    · rw [aC,hp] at h12;exact oE.1 h12
    · rw [ho] at h12;simp only [hod,h10] at h12;rw [aC,hb] at h12;exact absurd (oE.1 h12) h8
section
variable {op : Op} {ty : TypeId} {pos : String} {af : Array Edge} {d : Option Nat} {i : Nat} {cur : dW} {objs : List (Nat × Hp)}
theorem H9.snoc {effs : List mU} {f : mU} {o : Oper} (g : H9 ops env i cur objs effs) (ho : ops[i]? = some o) (hd : o.dst = f.d) (hf : f.new = []) : H9 ops env (i + 1) (lY f.d f.x cur) objs (effs ++ [f]) := by
  refine ⟨by simp [g.len],by rw [G4,g.cur],by rw [xZ hf];exact g.objs,fun j q hj => ?_⟩
  by_cases hlt : j < effs.length
  · rw [aH hlt] at hj;exact g.dst j q hj
  · have hle := (aB.1 hj).1;have hji : j = i := by have := g.len;simp at hle;omega
    subst hji;rw [aE (by omega),g.len] at hj
    simp at hj;subst hj;exact ⟨o,ho,hd⟩
theorem H9.snoc' {effs : List mU} {f : mU} {o : Oper} (g : H9 ops env i cur objs effs) (ho : ops[i]? = some o) (hd : o.dst = f.d) (hf : f.new ≠ []) : H9 ops env (i + 1) (lY f.d f.x cur) (objs ++ [(i,f.new)]) (effs ++ [f]) := by
  refine ⟨by simp [g.len],by rw [G4,g.cur],by rw [R2 hf,g.len,Nat.zero_add,g.objs],fun j q hj => ?_⟩
  by_cases hlt : j < effs.length
  · rw [aH hlt] at hj;exact g.dst j q hj
  · have hle := (aB.1 hj).1;have hji : j = i := by have := g.len;simp at hle;omega
    subst hji;rw [aE (by omega),g.len] at hj
    simp at hj;subst hj;exact ⟨o,ho,hd⟩
theorem yC4 {dd : Nat} {u : AV} (ho : ops[i]? = some ⟨some dd, op, ty, pos, af, none⟩) (hp : pres[i]? = some pre) (hb : bads[i]? = some bad) (hs : bX P ⟨some dd, op, ty, pos, af, none⟩ (eE bad cur) (h ++ mM pre objs) 0 (fun _ => u) (fun _ => []))
    (hk : DW P n ops pres ds bads env h (i + 1) ((dd,u) :: cur) objs K) : DW P n ops pres ds bads env h i cur objs K := by
  intro hok hen effs g;refine yC5 (u := u) (d := some dd) (by rw [g.len];exact hp) (by rw [g.len];simpa using ho) (by rw [mG,← g.objs];exact hs.more (g.see hok hp hb)) (hk hok hen _ (g.snoc (f := ⟨some dd,u,[]⟩) ho rfl rfl))
theorem zY5 {dd : Nat} {u : AV} {gd t : Nat} {want : Bool} (ho : ops[i]? = some ⟨some dd, op, ty, pos, af, some (gd, want)⟩) (hp : pres[i]? = some pre) (hb : bads[i]? = some bad) (hj : (ops[gd]?).bind (·.dst) = some t) (hl : look (eE bad cur) t = some (.b want)) (hs : bX P ⟨some dd, op, ty, pos, af, none⟩ (eE bad cur) (h ++ mM pre objs) 0 (fun _ => u) (fun _ => []))
    (hk : DW P n ops pres ds bads env h (i + 1) ((dd,u) :: cur) objs K) : DW P n ops pres ds bads env h i cur objs K := by
  intro hok hen effs g;refine zY7 (u := u) (d := some dd) (by rw [g.len];exact hp) (by rw [g.len];simpa using ho) (by simpa using hj) (g.see hok hp hb _ _ hl) (by rw [mG,← g.objs];exact hs.more (g.see hok hp hb)) (hk hok hen _ (g.snoc (f := ⟨some dd,u,[]⟩) ho rfl rfl))
theorem zY6 {dd : Nat} {gd t : Nat} {want : Bool} (ho : ops[i]? = some ⟨some dd, op, ty, pos, af, some (gd, want)⟩) (hp : pres[i]? = some pre) (hb : bads[i]? = some bad) (hj : (ops[gd]?).bind (·.dst) = some t) (hl : look (eE bad cur) t = some (.b (!want)))
    (hk : DW P n ops pres ds bads env h (i + 1) ((dd,.v undef) :: cur) objs K) : DW P n ops pres ds bads env h i cur objs K := by
  intro hok hen effs g;refine zY8 (d := some dd) (by rw [g.len];exact hp) (by rw [g.len];simpa using ho) (by simpa using hj) (g.see hok hp hb _ _ hl) (hk hok hen _ (g.snoc (f := ⟨some dd,.v undef,[]⟩) ho rfl rfl))
theorem dG {dd : Nat} {gd t : Nat} {want : Bool} (hk : DW P n ops pres ds bads env h (i + 1) ((dd,.v undef) :: cur) objs K) (ho : ops[i]? = some ⟨some dd,op,ty,pos,af,some (gd,want)⟩ := by rfl) (hp : pres[i]? = some pre := by rfl) (hb : bads[i]? = some bad := by rfl) (hj : (ops[gd]?).bind (·.dst) = some t := by rfl) (hl : look (eE bad cur) t = some (.b (!want)) := by rfl) : DW P n ops pres ds bads env h i cur objs K := zY6 ho hp hb hj hl hk
theorem dV {dd : Nat} {u : AV} (e : (ops[i]?,pres[i]?,bads[i]?) = (some ⟨some dd,op,ty,pos,af,none⟩,some pre,some bad)) (hs : bX P ⟨some dd,op,ty,pos,af,none⟩ (eE bad cur) (h ++ mM pre objs) 0 (fun _ => u) (fun _ => [])) (hk : DW P n ops pres ds bads env h (i + 1) ((dd,u) :: cur) objs K) : DW P n ops pres ds bads env h i cur objs K :=
  yC4 (congrArg (·.1) e) (congrArg (·.2.1) e) (congrArg (·.2.2) e) hs hk
theorem dT {dd : Nat} {u : AV} {gd t : Nat} {want : Bool} (e : (ops[i]?,pres[i]?,bads[i]?,(ops[gd]?).bind (·.dst),look (eE bad cur) t) = (some ⟨some dd,op,ty,pos,af,some (gd,want)⟩,some pre,some bad,some t,some (.b want))) (hs : bX P ⟨some dd,op,ty,pos,af,none⟩ (eE bad cur) (h ++ mM pre objs) 0 (fun _ => u) (fun _ => [])) (hk : DW P n ops pres ds bads env h (i + 1) ((dd,u) :: cur) objs K) : DW P n ops pres ds bads env h i cur objs K :=
  zY5 (congrArg (·.1) e) (congrArg (·.2.1) e) (congrArg (·.2.2.1) e) (congrArg (·.2.2.2.1) e) (congrArg (·.2.2.2.2) e) hs hk
theorem dM {dd : Nat} {x : Operand} {u : AV} (hk : DW P n ops pres ds bads env h (i + 1) ((dd,u) :: cur) objs K) (e : (ops[i]?,pres[i]?,bads[i]?) = (some ⟨some dd,.move x,ty,pos,af,none⟩,some pre,some bad) := by rfl) (hx : evu (eE bad cur) x = some u := by rfl) : DW P n ops pres ds bads env h i cur objs K := dV e (cC hx) hk
theorem dL (T : oG P) {dd t off : Nat} {ii : TI} {cs : List AV} {x : Operand} {u v : AV} (hk : DW P n ops pres ds bads env h (i + 1) ((dd,u) :: cur) objs K) (e : (ops[i]?,pres[i]?,bads[i]?) = (some ⟨some dd,.load t x,ty,pos,af,none⟩,some pre,some bad) := by rfl) (hx : evu (eE bad cur) x = some v := by rfl) (ht : T.ti t = some ii := by rfl) (hb : kF (h ++ mM pre objs) v = some (cs,off) := by rfl) (hz : nF ii cs off = some u := by rfl) : DW P n ops pres ds bads env h i cur objs K := dV e (aP T hx ht hb hz) hk
theorem dF (T : oG P) {dd t f kf : Nat} {x : Operand} {u v : AV} (hk : DW P n ops pres ds bads env h (i + 1) ((dd,u) :: cur) objs K) (e : (ops[i]?,pres[i]?,bads[i]?) = (some ⟨some dd,.fieldAddr t x f,ty,pos,af,none⟩,some pre,some bad) := by rfl) (hx : evu (eE bad cur) x = some v := by rfl) (hf : T.field t f = some kf := by rfl) (hz : v.plus kf = some u := by rfl) : DW P n ops pres ds bads env h i cur objs K := dV e (cE T hx hf hz) hk
theorem tM {dd gd tg : Nat} {want : Bool} {x : Operand} {u : AV} (hk : DW P n ops pres ds bads env h (i + 1) ((dd,u) :: cur) objs K) (e : (ops[i]?,pres[i]?,bads[i]?,(ops[gd]?).bind (·.dst),look (eE bad cur) tg) = (some ⟨some dd,.move x,ty,pos,af,some (gd,want)⟩,some pre,some bad,some tg,some (.b want)) := by rfl) (hx : evu (eE bad cur) x = some u := by rfl) : DW P n ops pres ds bads env h i cur objs K := dT e (cC hx) hk
theorem tL (T : oG P) {dd gd tg t off : Nat} {want : Bool} {ii : TI} {cs : List AV} {x : Operand} {u v : AV} (hk : DW P n ops pres ds bads env h (i + 1) ((dd,u) :: cur) objs K) (e : (ops[i]?,pres[i]?,bads[i]?,(ops[gd]?).bind (·.dst),look (eE bad cur) tg) = (some ⟨some dd,.load t x,ty,pos,af,some (gd,want)⟩,some pre,some bad,some tg,some (.b want)) := by rfl) (hx : evu (eE bad cur) x = some v := by rfl) (ht : T.ti t = some ii := by rfl) (hb : kF (h ++ mM pre objs) v = some (cs,off) := by rfl) (hz : nF ii cs off = some u := by rfl) : DW P n ops pres ds bads env h i cur objs K := dT e (aP T hx ht hb hz) hk
theorem tF (T : oG P) {dd gd tg t f kf : Nat} {want : Bool} {x : Operand} {u v : AV} (hk : DW P n ops pres ds bads env h (i + 1) ((dd,u) :: cur) objs K) (e : (ops[i]?,pres[i]?,bads[i]?,(ops[gd]?).bind (·.dst),look (eE bad cur) tg) = (some ⟨some dd,.fieldAddr t x f,ty,pos,af,some (gd,want)⟩,some pre,some bad,some tg,some (.b want)) := by rfl) (hx : evu (eE bad cur) x = some v := by rfl) (hf : T.field t f = some kf := by rfl) (hz : v.plus kf = some u := by rfl) : DW P n ops pres ds bads env h i cur objs K := dT e (cE T hx hf hz) hk
theorem dN {dd : Nat} {x : Operand} {u : AV} (e : (ops[i]?,pres[i]?,bads[i]?,evu (eE bad cur) x) = (some ⟨some dd,.move x,ty,pos,af,none⟩,some pre,some bad,some u)) (hk : DW P n ops pres ds bads env h (i + 1) ((dd,u) :: cur) objs K) : DW P n ops pres ds bads env h i cur objs K := dM hk (congrArg (fun q => (q.1,q.2.1,q.2.2.1)) e) (congrArg (·.2.2.2) e)
theorem tN {dd gd tg : Nat} {want : Bool} {x : Operand} {u : AV} (e : (ops[i]?,pres[i]?,bads[i]?,(ops[gd]?).bind (·.dst),look (eE bad cur) tg,evu (eE bad cur) x) = (some ⟨some dd,.move x,ty,pos,af,some (gd,want)⟩,some pre,some bad,some tg,some (.b want),some u)) (hk : DW P n ops pres ds bads env h (i + 1) ((dd,u) :: cur) objs K) : DW P n ops pres ds bads env h i cur objs K := tM hk (congrArg (fun q => (q.1,q.2.1,q.2.2.1,q.2.2.2.1,q.2.2.2.2.1)) e) (congrArg (·.2.2.2.2.2) e)
theorem dO (T : oG P) {dd t off : Nat} {ii : TI} {cs : List AV} {x : Operand} {u v : AV} (e : (ops[i]?,pres[i]?,bads[i]?,evu (eE bad cur) x,T.ti t,kF (h ++ mM pre objs) v,nF ii cs off) = (some ⟨some dd,.load t x,ty,pos,af,none⟩,some pre,some bad,some v,some ii,some (cs,off),some u)) (hk : DW P n ops pres ds bads env h (i + 1) ((dd,u) :: cur) objs K) : DW P n ops pres ds bads env h i cur objs K := dL T hk (congrArg (fun q => (q.1,q.2.1,q.2.2.1)) e) (congrArg (·.2.2.2.1) e) (congrArg (·.2.2.2.2.1) e) (congrArg (·.2.2.2.2.2.1) e) (congrArg (·.2.2.2.2.2.2) e)
theorem tO (T : oG P) {dd t off gd tg : Nat} {want : Bool} {ii : TI} {cs : List AV} {x : Operand} {u v : AV} (e : (ops[i]?,pres[i]?,bads[i]?,(ops[gd]?).bind (·.dst),look (eE bad cur) tg,evu (eE bad cur) x,T.ti t,kF (h ++ mM pre objs) v,nF ii cs off) = (some ⟨some dd,.load t x,ty,pos,af,some (gd,want)⟩,some pre,some bad,some tg,some (.b want),some v,some ii,some (cs,off),some u)) (hk : DW P n ops pres ds bads env h (i + 1) ((dd,u) :: cur) objs K) : DW P n ops pres ds bads env h i cur objs K := tL T hk (congrArg (fun q => (q.1,q.2.1,q.2.2.1,q.2.2.2.1,q.2.2.2.2.1)) e) (congrArg (·.2.2.2.2.2.1) e) (congrArg (·.2.2.2.2.2.2.1) e) (congrArg (·.2.2.2.2.2.2.2.1) e) (congrArg (·.2.2.2.2.2.2.2.2) e)
theorem dP (T : oG P) {dd t f kf : Nat} {x : Operand} {u v : AV} (e : (ops[i]?,pres[i]?,bads[i]?,evu (eE bad cur) x,T.field t f,v.plus kf) = (some ⟨some dd,.fieldAddr t x f,ty,pos,af,none⟩,some pre,some bad,some v,some kf,some u)) (hk : DW P n ops pres ds bads env h (i + 1) ((dd,u) :: cur) objs K) : DW P n ops pres ds bads env h i cur objs K := dF T hk (congrArg (fun q => (q.1,q.2.1,q.2.2.1)) e) (congrArg (·.2.2.2.1) e) (congrArg (·.2.2.2.2.1) e) (congrArg (·.2.2.2.2.2) e)
theorem tP (T : oG P) {dd t f kf gd tg : Nat} {want : Bool} {x : Operand} {u v : AV} (e : (ops[i]?,pres[i]?,bads[i]?,(ops[gd]?).bind (·.dst),look (eE bad cur) tg,evu (eE bad cur) x,T.field t f,v.plus kf) = (some ⟨some dd,.fieldAddr t x f,ty,pos,af,some (gd,want)⟩,some pre,some bad,some tg,some (.b want),some v,some kf,some u)) (hk : DW P n ops pres ds bads env h (i + 1) ((dd,u) :: cur) objs K) : DW P n ops pres ds bads env h i cur objs K := tF T hk (congrArg (fun q => (q.1,q.2.1,q.2.2.1,q.2.2.2.1,q.2.2.2.2.1)) e) (congrArg (·.2.2.2.2.2.1) e) (congrArg (·.2.2.2.2.2.2.1) e) (congrArg (·.2.2.2.2.2.2.2) e)
theorem tG {dd : Nat} {gd t : Nat} {want : Bool} (e : (ops[i]?,pres[i]?,bads[i]?,(ops[gd]?).bind (·.dst),look (eE bad cur) t) = (some ⟨some dd,op,ty,pos,af,some (gd,want)⟩,some pre,some bad,some t,some (.b (!want)))) (hk : DW P n ops pres ds bads env h (i + 1) ((dd,.v undef) :: cur) objs K) : DW P n ops pres ds bads env h i cur objs K := dG hk (congrArg (·.1) e) (congrArg (·.2.1) e) (congrArg (·.2.2.1) e) (congrArg (·.2.2.2.1) e) (congrArg (·.2.2.2.2) e)
theorem tQ {gd t : Nat} {want b : Bool} (ho : ops[i]? = some ⟨d, op, ty, pos, af, some (gd, want)⟩) (hb : bads[i]? = some bad) (hj : (ops[gd]?).bind (·.dst) = some t) (hl : look (eE bad cur) t = some (.b b))
    (ht : b = true → DW P n ops pres ds bads env h i cur objs K) (hf : b = false → DW P n ops pres ds bads env h i cur objs K) : DW P n ops pres ds bads env h i cur objs K := by
  cases b
  · exact hf rfl
  · exact ht rfl
theorem zT {dd : Nat} {u : Nat → AV} {b : Nat → List AB} {m : Nat} (ho : ops[i]? = some ⟨some dd, op, ty, pos, af, none⟩) (hp : pres[i]? = some pre) (hb : bads[i]? = some bad) (hs : bX P ⟨some dd, op, ty, pos, af, none⟩ (eE bad cur) (h ++ mM pre objs) (m + 1) u b) (hm : (b (h ++ mM pre objs).length).length = m + 1)
    (hk : DW P n ops pres ds bads env h (i + 1) ((dd,u (h ++ mM pre objs).length) :: cur) (objs ++ [(i,b (h ++ mM pre objs).length)]) K) : DW P n ops pres ds bads env h i cur objs K := by
  intro hok hen effs g;have e : h ++ kE (fun j => pre.any (Nat.beq j)) 0 effs = h ++ mM pre objs := by rw [mG,← g.objs]
  refine yC6 (u := u) (b := b) (d := some dd) (m := m + 1) (by rw [g.len];exact hp) (by rw [g.len];simpa using ho) (by rw [e];exact hs.more (g.see hok hp hb)) (by rw [e];exact hm) ?_
  rw [e];refine hk hok hen _ (g.snoc' (f := ⟨some dd,u (h ++ mM pre objs).length,b (h ++ mM pre objs).length⟩) ho rfl ?_);intro e2;rw [show b (h ++ mM pre objs).length = [] from e2] at hm
  cases hm
theorem P2 {effs : List mU} {env : dW} {t : Nat} {x : AV} (hd : (effs.filterMap (·.d)).Nodup) (hx : look (yB env effs) t = some x) : look (K8 env effs) t = some x := by
  induction effs generalizing env with
  | nil => exact hx
  | cons f r ih =>
    have hr : (r.filterMap (·.d)).Nodup := by
      cases hc : f.d with
      | none => rwa [List.filterMap_cons_none hc] at hd
      | some y => rw [oF hc] at hd;exact (fH.1 hd).2
    have miss : ∀ {l : List mU} {env : dW},(∀ (j : Nat) f,l[j]? = some f → f.d ≠ some t) → look (K8 env l) t = look env t := fun {l env} hl => by
      induction l with
      | nil => rfl
      | cons g q ihq =>
        have h0 := hl 0 g rfl;have hq := ihq (fun j f hf => hl (j + 1) f (by simpa using hf))
        simp only [K8];cases hg : g.d with
        | none => exact hq
        | some d =>
          simp only [lY,gS];rw [if_neg (fun e => h0 (by rw [hg,e])),hq]
    simp only [yB] at hx;simp only [K8];rcases G5 hx with ⟨h1,h2⟩ | ⟨j,g,h1,h2,h3⟩
    · cases hfd : f.d with
      | none => rw [hfd] at h1;simp only [lY] at h1 ⊢;rw [miss h2];exact h1
      | some d =>
        rw [hfd] at h1;simp only [lY,gS] at h1 ⊢;split at h1
        · rename_i e;rw [if_pos e];exact h1
        · rename_i e;rw [if_neg e,miss h2];exact h1
    · have hne : f.d ≠ some t := fun e => by
        rw [oF e] at hd;exact (fH.1 hd).1 (kD.2 ⟨g,aQ h1,h2⟩)
      have hx' : look (yB env r) t = some x := by
        cases hfd : f.d with
        | none => rw [hfd] at hx;exact hx
        | some d =>
          rw [hfd] at hx;have key : ∀ (l : List mU) (e1 e2 : dW),look e1 t = look e2 t → look (yB e1 l) t = look (yB e2 l) t := by
            intro l
            induction l with
            | nil => exact fun _ _ h => h
            | cons q l ihl =>
              intro e1 e2 he;simp only [yB];refine ihl _ _ ?_;cases q.d with
              | none => exact he
              | some d => simp only [lY,gS];rw [he]
          have hdt : d ≠ t := fun e => hne (by rw [hfd,e])
          rw [← hx];exact key r env _ (by simp only [lY,gS];rw [if_neg hdt])
      have := ih hr hx';cases hfd : f.d with
      | none => exact this
      | some d => simp only [lY,gS];rw [if_neg (fun e => hne (by rw [hfd,e]))];exact this
theorem VC.moreE {ops : Array Oper} {rest : List Oper} {env env' : dW} {h : Hp} {K : dW → Hp → Prop} (hv : VC P n ops rest env h K) (he : ∀ t x,look env t = some x → look env' t = some x) : VC P n ops rest env' h K :=
  fun c ρ S a w Q s hQ => hv c ρ S a w Q (s.fewer he) hQ
theorem P7 (hi : pres.length = i) {rest : List Oper} {h' : Hp} (hr : ops.drop i = rest) (hh : h ++ lA objs = h')
    (hk : VC P n ops.toArray rest cur h' K) : DW P n ops pres ds bads env h i cur objs K := by
  intro hok hen effs g;have hok' := hok;simp only [kZ,aM,decide_eq_true_eq] at hok';obtain ⟨⟨⟨⟨⟨h1,h2⟩,h3⟩,h4⟩,h5⟩,h6⟩ := hok';have hds : jG effs = ds := by
    rw [← h5];have hle : i ≤ ops.length := by rw [← hi];exact aN h4
    unfold jG;have : effs.map (·.d) = (ops.take pres.length).map (·.dst) := by
      apply jL;intro j;simp only [bS,bZ,hi];by_cases hj : j < i
      · rw [if_pos hj];have hje : j < effs.length := by rw [g.len];exact hj
        obtain ⟨o,ho,hod⟩ := g.dst j effs[j] (aA hje);rw [aA hje,ho];simp [hod]
      · rw [if_neg hj,cM (by rw [g.len];omega)];rfl
    have e1 : effs.filterMap (·.d) = (effs.map (·.d)).filterMap id := by rw [pQ];rfl
    have e2 : (ops.take pres.length).filterMap (·.dst) = ((ops.take pres.length).map (·.dst)).filterMap id := by rw [pQ];rfl
    rw [e1,e2,this]
  refine zT7 (rest := rest) (env' := K8 env effs) (h' := h ++ JK effs) (by rw [g.len,hi]) hds (by rw [hi];simpa using hr) rfl rfl ?_
  have e : h ++ JK effs = h' := by rw [B6 effs 0,← g.objs,← xQ];exact hh
  rw [e];refine hk.moreE fun t x hx => ?_
  rw [g.cur] at hx;exact P2 (by have : jG effs = effs.filterMap (·.d) := rfl;rw [← this,hds];exact h2) hx
theorem dE {rest : List Oper} {h' : Hp} (hk : VC P n ops.toArray rest cur h' K) (hi : pres.length = i := by rfl) (hr : ops.drop i = rest := by rfl) (hh : h ++ lA objs = h' := by first | (dsimp only [List.nil_append,List.cons_append,List.append_nil,List.length_cons,List.length_nil,List.set_cons_zero,List.set_cons_succ,List.map_cons,List.map_nil,jO,lY,lA,pE,BY,uS,E5,E3,E2,E4,uR,uU,uQ,uT,Nat.zero_add,Nat.add_zero,Nat.reduceAdd,Bool.not_true,Bool.not_false];first | done | exact rfl) | exact rfl) : DW P n ops pres ds bads env h i cur objs K := P7 hi hr hh hk
end
end
def C2 (P : Program) : Nat → List Field → Bool
  | _,[] => true
  | i, f :: r => decide (f.name ≠ "_") && Nat.beq f.offset i && (match P.underlying f.type with | some (.int _) => P.plainKey f.type | _ => false) && C2 P (i + 1) r
def vW (P : Program) (t : TypeId) (n : Nat) : Bool := match P.underlying t with
  | some (.struct fs) => Nat.beq fs.size n && C2 P 0 fs.toList && !P.stoodInHeld t && !P.eqGuardType P.depth t
  | _ => false
def lL (P : Program) (t : TypeId) (n : Nat) : Prop := vW P t n = true
def EQ (P : Program) (t : TypeId) : Prop := P.underlying t = some .bool
section
variable {P : Program} {env : dW} {h : Hp}
variable {d : Option Nat} {ty : TypeId} {pos : String} {af : Array Edge} {g : Option (Nat × Bool)}
theorem P6 (w : World) (dd : Nat) (k : IntKind) : ∀ (fs : List Field) (i : Nat) (xs ys : Array Value) (aZ bs : List Int),C2 P i fs = true → fs.length = aZ.length → aZ.length = bs.length → (∀ (j : Nat) a,aZ[j]? = some a → xs[i + j]? = some (.int k a)) → (∀ (j : Nat) b,bs[j]? = some b → ys[i + j]? = some (.int k b)) →
    (Op.eqFields (dd + 1) xs ys fs).run P w = .ok (decide (aZ = bs)) w
  | [],i,xs,ys,aZ,bs,_,h1,h2,_,_ => by
    have : aZ = [] := bW (by simpa using h1.symm)
    subst this;have : bs = [] := bW (by simpa using h2.symm)
    subst this;simp [Op.eqFields]
  | f :: r,i,xs,ys,a :: aZ,b :: bs,hf,h1,h2,hx,hy => by
    simp only [C2,aM,decide_eq_true_eq] at hf;obtain ⟨⟨⟨h3,h4⟩,h5⟩,h6⟩ := hf;have h4 := aO h4;split at h5
    case h_2 => cases h5
    rename_i k' hu;have x0 := hx 0 a rfl;have y0 := hy 0 b rfl;rw [Nat.add_zero,← h4] at x0 y0;have ih := P6 w dd k r (i + 1) xs ys aZ bs h6 (by simpa using h1) (by simpa using h2) (fun j u hj => by rw [dU,rU 1 j];exact hx (j + 1) u (by simpa using hj)) (fun j u hj => by rw [dU,rU 1 j];exact hy (j + 1) u (by simpa using hj))
    simp only [Op.eqFields,h3,ne_eq,not_false_eq_true,if_true,Sem.run_bind,run_part_plain w h5 x0,run_part_plain w h5 y0,Result.andThen_ok,run_equalIn_int w dd f.type k k' a b hu];by_cases hab : a = b
    · subst hab;simp [ih]
    · have : (a == b) = false := by simpa using hab
      simp [this,hab]
  | f :: r,_,_,_,[],_,_,h1,_,_,_ => by simp at h1
  | f :: r,_,_,_,a :: aZ,[],_,_,h2,_,_ => by simp at h2
theorem HI {S : Nat → Prop} {w : World} {ρ : Pl} {k : IntKind} : ∀ {aZ : List Int} {ys : List Value}, RL S w (aZ.map fun a => .v (.int k a)) ρ ys → ys = aZ.map (.int k)
  | [],_,h => by simpa [RL] using h
  | a :: aZ,_,h => by
    simp only [List.map_cons,RL] at h;obtain ⟨y,zs,rfl,h1,h2⟩ := h;rw [rT h1,HI h2];rfl
theorem FX {t t2 : TypeId} {n : Nat} {k : IntKind} {x y : Operand} {aZ bs : List Int} (ht : vW P t n = true) (hx : evu env x = some (.agg (aZ.map fun a => .v (.int k a)))) (hy : evu env y = some (.agg (bs.map fun a => .v (.int k a)))) (h1 : Nat.beq aZ.length n = true) (h2 : Nat.beq bs.length n = true) :
    bX P ⟨d,.binOp .eql t x y t2,ty,pos,af,g⟩ env h 0 (fun _ => .b (decide (aZ = bs))) (fun _ => []) := by
  refine iF fun ρ S a w p => ⟨.bool (decide (aZ = bs)),?_,kM _⟩;have h3 := p.evu hx;have h4 := p.evu hy;simp only [R] at h3 h4;obtain ⟨xs,e1,h3⟩ := h3;obtain ⟨ys,e2,h4⟩ := h4;have h3 := HI h3;have h4 := HI h4;have h1 := aO h1;have h2 := aO h2;unfold vW at ht;split at ht
  case h_2 => cases ht
  rename_i fs hu;simp only [aM,Bool.not_eq_true'] at ht;obtain ⟨⟨⟨h5,h6⟩,h7⟩,h8⟩ := ht;have h5 := aO h5;have hfo : P.fieldsOf t = fs := by simp [Program.fieldsOf,hu]
  have hx2 : ∀ (j : Nat) a,aZ[j]? = some a → xs[0 + j]? = some (.int k a) := fun j a ha => by rw [Nat.zero_add,← jM,h3];simp [ha]
  have hy2 : ∀ (j : Nat) a,bs[j]? = some a → ys[0 + j]? = some (.int k a) := fun j a ha => by rw [Nat.zero_add,← jM,h4];simp [ha]
  have key := P6 w 9998 k fs.toList 0 xs ys aZ bs h6 (by simp;omega) (by omega) hx2 hy2
  have he : (Op.equalIn 10000 t (.agg xs) (.agg ys)).run P w = .ok (decide (aZ = bs)) w := by
    rw [run_equalIn_struct w 9999 t xs ys (by rw [hfo];exact hu) h7,hfo];exact key
  simp [execOp,e1,e2,run_eqGuard_agg w .eql t x y xs ys h8,run_eql_struct,he]
theorem xE {t t2 : TypeId} {n : Nat} {k : IntKind} {x y : Operand} {aZ bs : List Int} (ht : vW P t n = true) (hx : evu env x = some (.agg (aZ.map fun a => .v (.int k a)))) (hy : evu env y = some (.agg (bs.map fun a => .v (.int k a)))) (h1 : Nat.beq aZ.length n = true) (h2 : Nat.beq bs.length n = true) :
    bX P ⟨d,.binOp .neq t x y t2,ty,pos,af,g⟩ env h 0 (fun _ => .b (!decide (aZ = bs))) (fun _ => []) := by
  refine iF fun ρ S a w p => ⟨.bool (!decide (aZ = bs)),?_,kM _⟩;have h3 := p.evu hx;have h4 := p.evu hy;simp only [R] at h3 h4;obtain ⟨xs,e1,h3⟩ := h3;obtain ⟨ys,e2,h4⟩ := h4;have h3 := HI h3;have h4 := HI h4;have h1 := aO h1;have h2 := aO h2;unfold vW at ht;split at ht
  case h_2 => cases ht
  rename_i fs hu;simp only [aM,Bool.not_eq_true'] at ht;obtain ⟨⟨⟨h5,h6⟩,h7⟩,h8⟩ := ht;have h5 := aO h5;have hfo : P.fieldsOf t = fs := by simp [Program.fieldsOf,hu]
  have hx2 : ∀ (j : Nat) a,aZ[j]? = some a → xs[0 + j]? = some (.int k a) := fun j a ha => by rw [Nat.zero_add,← jM,h3];simp [ha]
  have hy2 : ∀ (j : Nat) a,bs[j]? = some a → ys[0 + j]? = some (.int k a) := fun j a ha => by rw [Nat.zero_add,← jM,h4];simp [ha]
  have key := P6 w 9998 k fs.toList 0 xs ys aZ bs h6 (by simp;omega) (by omega) hx2 hy2
  have he : (Op.equalIn 10000 t (.agg xs) (.agg ys)).run P w = .ok (decide (aZ = bs)) w := by
    rw [run_equalIn_struct w 9999 t xs ys (by rw [hfo];exact hu) h7,hfo];exact key
  simp [execOp,e1,e2,run_eqGuard_agg w .neq t x y xs ys h8,run_neq_struct,he]
theorem zJ4 {t t2 : TypeId} {k : IntKind} {x y : Operand} {a b a' b' : Int} (ht : lL P t 2) (hx : evu env x = some (.agg [.v (.int k a),.v (.int k b)])) (hy : evu env y = some (.agg [.v (.int k a'),.v (.int k b')])) :
    bX P ⟨d,.binOp .eql t x y t2,ty,pos,af,g⟩ env h 0 (fun _ => .b (decide (a = a' ∧ b = b'))) (fun _ => []) := by
  have := FX (d := d) (ty := ty) (pos := pos) (af := af) (g := g) (h := h) (t2 := t2) (aZ := [a,b]) (bs := [a',b']) ht hx hy rfl rfl;simpa using this
theorem zI9 {t t2 : TypeId} {k : IntKind} {x y : Operand} {a b a' b' : Int} (ht : lL P t 2) (hx : evu env x = some (.agg [.v (.int k a),.v (.int k b)])) (hy : evu env y = some (.agg [.v (.int k a'),.v (.int k b')])) :
    bX P ⟨d,.binOp .neq t x y t2,ty,pos,af,g⟩ env h 0 (fun _ => .b (!decide (a = a' ∧ b = b'))) (fun _ => []) := by
  have := xE (d := d) (ty := ty) (pos := pos) (af := af) (g := g) (h := h) (t2 := t2) (aZ := [a,b]) (bs := [a',b']) ht hx hy rfl rfl;simpa using this
theorem zI8 {t t2 : TypeId} {x y : Operand} {a b : Bool} (ht : EQ P t) (hx : evu env x = some (.b a)) (hy : evu env y = some (.b b)) : bX P ⟨d,.binOp .neq t x y t2,ty,pos,af,g⟩ env h 0 (fun _ => .b (!(a == b))) (fun _ => []) := by
  refine iF fun ρ S ac w p => ⟨.bool (!(a == b)),?_,kM _⟩;have h1 := rT (p.evu hx);have h2 := rT (p.evu hy);have hg : (eqGuard .neq t x y (.bool a) (.bool b)).run P w = .ok () w := rfl;simp [execOp,h1,h2,hg,run_neq_bool w t a b ht]
end
section
variable {P : Program} {n : Nat × Nat} {ops : Array Oper} {env : dW} {h : Hp} {K : dW → Hp → Prop} {rest : List Oper} {Q : Exit → dW → Hp → Prop} {code : Code}
theorem pN.own {c : nT} {ρ : Pl} {S : Nat → Prop} {a : Act} {w : World} {t sz : Nat} (s : pN n c ρ S env h a w) (ht : look env t = some .nils) (hs : 0 < sz) : pN n c ρ S ((t,.sl h.length 0 0 sz) :: env) (h ++ [.arr [] sz]) a w := by
  refine ⟨s.size,s.defers,fun t' x hx => ?_,?_,s.cm⟩
  · rw [gS] at hx;split at hx
    · rename_i e;subst e;cases hx;rw [rT (s.env t _ ht)];simp only [R];exact ⟨none,0,rfl,bU _,.inl ⟨trivial,rfl⟩⟩
    · exact s.env t' x hx
  · have hd := s.hs.dom h.length (aY _);have get : ∀ {j : Nat} {b : AB},(h ++ [.arr [] sz])[j]? = some b → h[j]? = some b ∨ (j = h.length ∧ b = .arr [] sz) := fun {j b} hj => by
      by_cases hlt : j < h.length
      · rw [aH hlt] at hj;exact .inl hj
      · have := (aB.1 hj).1;simp at this;have e : j = h.length := by omega
        subst e;simp at hj;exact .inr ⟨rfl,hj.symm⟩
    refine ⟨fun k hk => s.hs.dom k (by simp at hk;omega),s.hs.rng,fun k b hb => ?_,fun k b p hb hg hp => ?_,fun k k' b b' p p' hb hb' hg hg' hp hp' e => ?_,s.hs.stab,s.hs.ext,s.hs.st0,s.hs.st1,by simp;exact Nat.le_succ_of_le s.hs.mle,s.hs.keep,s.hs.glob⟩
    · rcases get hb with hb | ⟨rfl,rfl⟩
      · exact s.hs.blk k b hb
      · simp only [RB];exact ⟨(fun e he => by cases he),hs,.inl ⟨trivial,fun b o e => by rw [hd] at e;cases e⟩⟩
    · rcases get hb with hb | ⟨rfl,rfl⟩
      · exact s.hs.live k b p hb hg hp
      · rw [hd] at hp;cases hp
    · rcases get hb with hb | ⟨rfl,rfl⟩
      · rcases get hb' with hb' | ⟨rfl,rfl⟩
        · exact s.hs.inj k k' b b' p p' hb hb' hg hg' hp hp' e
        · rw [hd] at hp';cases hp'
      · rw [hd] at hp;cases hp
theorem rP (t sz : Nat) (ht : look env t = some .nils) (hs : 0 < sz) (hv : VC P n ops rest ((t,.sl h.length 0 0 sz) :: env) (h ++ [.arr [] sz]) K) : VC P n ops rest env h K :=
  fun c ρ S a w Q s hQ => hv c ρ S a w Q (s.own ht hs) hQ
theorem ZN (t sz : Nat) (ht : look env t = some .nils) (hs : 0 < sz) (hv : AW P n code ((t,.sl h.length 0 0 sz) :: env) (h ++ [.arr [] sz]) Q) : AW P n code env h Q :=
  fun c ρ S a w QQ s hQ => hv c ρ S a w QQ (s.own ht hs) hQ
end
end Go.Ab
namespace Go.Ab
open Go Go.RowKit Go.WideShapes Go.ChangeShapes Go.ChangeAt
section
variable {H : Type} {enc : TypeId × Value → H} {P : Program}
theorem E6 (hl : laidOutB P = true) {W W' : World} {sp : Nat → Bool} (hb : Below W.heap.size W W') : ∀ {ts : List TypeId} {vs : List Value} {ds : List (DataW H)} {ps : List MemPlace}, (∀ t, t ∈ ts → P.readableRec t = true ∧ t < P.types.size) → DataW.TrodAll enc P W 0 (fun _ => true) true ts vs ds ps → (∀ p ∈ ps, p.block < W.heap.size) → (∀ p ∈ ps, sp p.block = true) → DataW.TrodAll enc P W' 0 sp true ts vs ds ps
  | [],vs,ds,ps,_,h,_,_ => by
    cases vs with
    | nil =>
      cases ds with
      | nil => simp only [DataW.TrodAll] at h ⊢;exact h
      | cons _ _ => simp [DataW.TrodAll] at h
    | cons _ _ => simp [DataW.TrodAll] at h
  | t :: ts,vs,ds,ps,ht,h,hlt,hsp => by
    obtain ⟨v,vs',d,ds',p,q,rfl,rfl,rfl,h1,h2⟩ := trodAll_cons h;obtain ⟨h3,h4⟩ := ht t (by simp)
    exact trodAll_cons_mk (WideElems.Trod_stays hl h3 h4 h1 (fun x hx => hb.same (hlt x (by simp [hx]))) (fun x hx => hsp x (by simp [hx]))) (E6 hl hb (fun u hu => ht u (by simp [hu])) h2 (fun x hx => hlt x (by simp [hx])) (fun x hx => hsp x (by simp [hx])))
theorem WL (hl : laidOutB P = true) {f : Func} {s : ChangeSpec} {W W' : World} {args : Array Value} {ds gs : List (DataW H)} {before : List MemPlace} {tb : TypeId}
    (hts' : (f.params.toList.all fun t => P.readableRec t && decide (t < P.types.size)) = true) (hv : s.vars = []) (hrt : f.resultTypes = #[tb]) (htb : P.underlying tb = some .bool)
    (hW : DataW.Whole enc P f.params.toList s.vars false W args.toList ds gs before)
    (hfn : (s.fn H (ds ++ gs)).results = [.lit (.bool true)] ∧ (s.fn H (ds ++ gs)).args = ds ∧ (s.fn H (ds ++ gs)).vars = []) (hb : Below W.heap.size W W') :
    s.post enc P f false true false false W args (.bool true) W' := by
  have hW2 := hW;have hts : ∀ t,t ∈ f.params.toList → P.readableRec t = true ∧ t < P.types.size := fun t ht => by
    have := bG.1 hts' t ht;simpa using this
  have hlt : ∀ p ∈ before,p.block < W.heap.size := fun p hp => hW.lt p hp
  obtain ⟨p,q,hA,hV,rfl,hz,hn⟩ := hW;rw [hv] at hV;obtain ⟨_,rfl⟩ := trodVars_none hV;obtain ⟨f1,f2,f3⟩ := hfn;have hargs : ∀ sp : Nat → Bool,(∀ x ∈ p ++ [],sp x.block = true) → DataW.TrodAll enc P W' 0 sp true f.params.toList args.toList (s.fn H (ds ++ gs)).args p := fun sp hsp => by
    rw [f2];exact E6 hl hb hts hA (fun x hx => hlt x (by simpa using hx)) (fun x hx => hsp x (by simpa using hx))
  have hres : ∀ (b : Nat) (sp : Nat → Bool) (hd : Bool),DataW.TrodAll enc P W' b sp hd f.resultTypes.toList ((Value.bool true).resultList f.resultTypes.size) (s.fn H (ds ++ gs)).results [] := fun b sp hd => by
    rw [f1,hrt];exact trodAll_cons_mk (shut_bool htb _) trodAll_mk0
  have hvars : ∀ sp : Nat → Bool,DataW.TrodVars enc P W' sp s.vars (s.fn H (ds ++ gs)).vars [] := fun sp => by
    rw [f3,hv];rfl
  have hold : ∀ x ∈ p ++ [],(fun b => decide (b < W.heap.size)) x.block = true := fun x hx => by simpa using hlt x hx
  refine ⟨ds,gs,p ++ [],[],p,[],hW2,hres _ _ _,hargs _ hold,hvars _,World.keptBut_mono (fun x hx => ⟨hx,by simpa using hx⟩) (hb.frame (· ∈ p ++ [])),fun _ => ?_⟩
  refine ⟨?_,_,_,([] ++ p) ++ [],⟨[] ++ p,[],trodAll_append (hargs _ (fun _ _ => rfl)) (hres _ _ _),hvars _,rfl,?_,fun ha => by cases ha⟩,fun x hx _ => by simpa using hx⟩
  · exact ok_one hrt rfl (okWide_bool_mk htb _)
  · intro b off hp;have hin : MemPlace.cell b off ∈ p ++ [] := by simpa using hp
    rw [hb.frozen (hlt _ hin)];exact hz b off hin
end
end Go.Ab
namespace Go.Ab
open Go
def zC : Hp → List Nat → List AB → Hp
  | h,j :: L,b :: bs => zC (h.set j b) L bs
  | h,_,_ => h
theorem kS : ∀ (L : List Nat) (bs : List AB) (h : Hp), (zC h L bs).length = h.length
  | [],_,_ => by simp [zC]
  | _ :: _,[],_ => by simp [zC]
  | j :: L,b :: bs,h => by simp only [zC];rw [kS L bs];simp
theorem wQ {k : Nat} : ∀ (L : List Nat) (bs : List AB) (h : Hp), k ∉ L → (zC h L bs)[k]? = h[k]?
  | [],_,_,_ => by simp [zC]
  | _ :: _,[],_,_ => by simp [zC]
  | j :: L,b :: bs,h,hk => by
    simp only [bR,not_or] at hk;simp only [zC];rw [wQ L bs _ hk.2,gX,if_neg (fun e => hk.1 e.symm)]
theorem FD : ∀ {L : List Nat} {bs : List AB} {h : Hp} {i j : Nat} {b : AB}, L.Nodup → L[i]? = some j → bs[i]? = some b → j < h.length → (zC h L bs)[j]? = some b
  | j0 :: L,b0 :: bs,h,0,j,b,hnd,hi,hb,hj => by
    simp at hi hb;subst hi;subst hb;simp only [zC];rw [wQ L bs _ (fH.1 hnd).1,gX,if_pos rfl,if_pos hj]
  | j0 :: L,b0 :: bs,h,i + 1,j,b,hnd,hi,hb,hj => by
    simp only [zC];exact FD (fH.1 hnd).2 (by simpa using hi) (by simpa using hb) (by simpa using hj)
  | [],_,_,_,_,_,_,hi,_,_ => by simp at hi
  | _ :: _,[],_,_,_,_,_,_,hb,_ => by simp at hb
def rJ (L : List Nat) (N m k : Nat) : Nat := match L[k]? with
  | some j => j
  | none => N + (k - m)
section
variable {P : Program} {n : Nat × Nat} {ops : Array Oper} {rest : List Oper} {env : dW} {h : Hp} {K : dW → Hp → Prop}
variable {d : Option Nat} {ty : TypeId} {pos : String} {af : Array Edge}
theorem cH {op : Op} {j t : Nat} {want b : Bool} (hj : (ops[j]?).bind (·.dst) = some t) (hl : look env t = some (.b b)) (ht : b = true → VC P n ops (⟨d,op,ty,pos,af,some (j,want)⟩ :: rest) env h K) (hf : b = false → VC P n ops (⟨d,op,ty,pos,af,some (j,want)⟩ :: rest) env h K) : VC P n ops (⟨d,op,ty,pos,af,some (j,want)⟩ :: rest) env h K := by
  cases b
  · exact hf rfl
  · exact ht rfl
theorem gT {op : Op} {d : Option Nat} {j t : Nat} {want : Bool} (ht : VC P n ops (⟨d,op,ty,pos,af,none⟩ :: rest) env h K) (hj : (ops[j]?).bind (·.dst) = some t := by rfl) (hl : look env t = some (.b want) := by rfl) (hd : CA d n = true := by rfl) : VC P n ops (⟨d,op,ty,pos,af,some (j,want)⟩ :: rest) env h K := CP hj hl ht hd
theorem gF {op : Op} {d : Option Nat} {j t : Nat} {want : Bool} (hf : VC P n ops rest (lY d (.v undef) env) h K) (hj : (ops[j]?).bind (·.dst) = some t := by rfl) (hl : look env t = some (.b (!want)) := by rfl) (hd : CA d n = true := by rfl) : VC P n ops (⟨d,op,ty,pos,af,some (j,want)⟩ :: rest) env h K := CQ hj hl hf hd
theorem gU {op : Op} {d : Option Nat} {j t : Nat} {want : Bool} (hf : VC P n ops rest (lY d (.v undef) env) h K) (hj : (ops[j]?).bind (·.dst) = some t := by rfl) (hl : look env t = some (.v undef) := by rfl) (hd : CA d n = true := by rfl) : VC P n ops (⟨d,op,ty,pos,af,some (j,want)⟩ :: rest) env h K := NS hj hl hf hd
theorem mV {dd : Nat} {x : Operand} {u : AV} (hk : VC P n ops rest ((dd,u) :: env) h K) (hx : evu env x = some u := by rfl) (hd : Nat.blt dd n.1 = true := by rfl) : VC P n ops (⟨some dd,.move x,ty,pos,af,none⟩ :: rest) env h K := yQ (cC hx) hd hk
theorem aV {dd : Nat} {x : Operand} {u : AV} (hk : VC P n ops rest ((dd,u) :: env) h K) (hx : evu env x = some u := by rfl) (hd : Nat.blt dd n.1 = true := by rfl) : VC P n ops (⟨some dd,.assign x,ty,pos,af,none⟩ :: rest) env h K := yQ (eI hx) hd hk
theorem fV (T : oG P) {dd t f k : Nat} {x : Operand} {u z : AV} (hk : VC P n ops rest ((dd,z) :: env) h K) (hx : evu env x = some u := by rfl) (hf : T.field t f = some k := by rfl) (hz : u.plus k = some z := by rfl) (hd : Nat.blt dd n.1 = true := by rfl) : VC P n ops (⟨some dd,.fieldAddr t x f,ty,pos,af,none⟩ :: rest) env h K := yQ (cE T hx hf hz) hd hk
theorem lV (T : oG P) {dd t : Nat} {i : TI} {x : Operand} {u z : AV} {cs : List AV} {off : Nat} (hk : VC P n ops rest ((dd,z) :: env) h K) (hx : evu env x = some u := by rfl) (ht : T.ti t = some i := by rfl) (hb : kF h u = some (cs,off) := by rfl) (hz : nF i cs off = some z := by rfl) (hd : Nat.blt dd n.1 = true := by rfl) : VC P n ops (⟨some dd,.load t x,ty,pos,af,none⟩ :: rest) env h K := yQ (aP T hx ht hb hz) hd hk
theorem nV {dd : Nat} {x : Operand} {u z : AV} (hk : VC P n ops rest ((dd,u) :: env) h K) (hx : evu env x = some u := by rfl) (hz : u.plus 0 = some z := by rfl) (hd : Nat.blt dd n.1 = true := by rfl) : VC P n ops (⟨some dd,.nilCheck x,ty,pos,af,none⟩ :: rest) env h K := yQ (eS hx hz) hd hk
theorem xV {dd : Nat} {x : Operand} {vs : List AV} {j : Nat} {z : AV} (hk : VC P n ops rest ((dd,z) :: env) h K) (hx : evu env x = some (.tup vs) := by rfl) (hz : vs[j]? = some z := by rfl) (hd : Nat.blt dd n.1 = true := by rfl) : VC P n ops (⟨some dd,.extract x j,ty,pos,af,none⟩ :: rest) env h K := yQ (jY hx hz) hd hk
theorem vV {dd : Nat} {op : Op} {u : AV} (hs : bX P ⟨some dd,op,ty,pos,af,none⟩ env h 0 (fun _ => u) (fun _ => [])) (hk : VC P n ops rest ((dd,u) :: env) h K) (hd : Nat.blt dd n.1 = true := by rfl) : VC P n ops (⟨some dd,op,ty,pos,af,none⟩ :: rest) env h K := yQ hs hd hk
def yD5 (b : Bool) (u v : Option AV) : Option AV := match b with
  | true => u
  | false => v
theorem pV {dd : Nat} {c x y : Operand} {b : Bool} {r : AV} (hk : VC P n ops rest ((dd,r) :: env) h K) (hc : evu env c = some (.b b) := by rfl) (hr : yD5 b (evu env x) (evu env y) = some r := by rfl) (hd : Nat.blt dd n.1 = true := by rfl) : VC P n ops (⟨some dd,.pick c x y,ty,pos,af,none⟩ :: rest) env h K := by
  cases b
  · exact yQ (iE hc hr) hd hk
  · exact yQ (iQ hc hr) hd hk
def zY0 : AV → Option Nat
  | .sl _ _ len _ => some len
  | .row _ len _ => some len
  | _ => none
theorem qV (T : oG P) {dd t e m : Nat} {x : Operand} {u : AV} (hk : VC P n ops rest ((dd,.i (m : Int)) :: env) h K) (hx : evu env x = some u := by rfl) (ha : T.elem t = some e := by rfl) (hm : zY0 u = some m := by rfl) (hd : Nat.blt dd n.1 = true := by rfl) : VC P n ops (⟨some dd,.call { callee := .builtin .len,args := #[x],argTypes := #[t] },ty,pos,af,none⟩ :: rest) env h K := by
  cases u with
  | sl k off len sz => cases hm;exact yQ (SZ T hx ha) hd hk
  | row cs len sz => cases hm;exact yQ (gD T hx ha) hd hk
  | _ => cases hm
theorem wT {x : Operand} {p q : Code} {Q : Exit → dW → Hp → Prop} (ht : AW P n p env h Q) (hx : ev env x = some (.b true) := by rfl) : AW P n (.cond x p q) env h Q := rL hx ht
theorem wU {x : Operand} {p q : Code} {Q : Exit → dW → Hp → Prop} (hf : AW P n q env h Q) (hx : ev env x = some (.b false) := by rfl) : AW P n (.cond x p q) env h Q := BI hx hf
theorem kC {g : Option (Nat × Bool)} {x : Operand} {f : FuncId} {fs cs us xs : List AV} {args : List Operand} {ats : Array TypeId} {res : AV} (hc : aR P f xs [] res []) (hx : evu env x = some (.clo (.func f) fs cs) := by rfl) (ha : yD env args = some us := by rfl) (he : fs ++ us ++ cs = xs := by rfl) (hi : AV.idfL xs = true := by rfl) (hr : res.idf = true := by rfl) :
    bX P ⟨d,.call { callee := .value x,args := args.toArray,argTypes := ats },ty,pos,af,g⟩ env h 0 (fun _ => res) (fun _ => []) := eQ hx ha hc he hi hr
def zR7 : Option AV → Bool
  | some (.v (.bool true)) => true
  | some (.v (.bool false)) => true
  | some (.v _) => true
  | _ => false
theorem gK {op : Op} {d : Option Nat} {j t : Nat} {want : Bool} (hk : VC P n ops (⟨d,op,ty,pos,af,some (j,want)⟩ :: rest) env h K) (hj : (ops[j]?).bind (·.dst) = some t := by rfl) (hl : zR7 (look env t) = true := by rfl) : VC P n ops (⟨d,op,ty,pos,af,some (j,want)⟩ :: rest) env h K := hk
theorem yM {dd j tg : Nat} {want : Bool} {x : Operand} {u : AV} (hk : VC P n ops rest ((dd,u) :: env) h K) (hj : (ops[j]?).bind (·.dst) = some tg := by rfl) (hl : look env tg = some (.b want) := by rfl) (hx : evu env x = some u := by rfl) (hd : Nat.blt dd n.1 = true := by rfl) : VC P n ops (⟨some dd,.move x,ty,pos,af,some (j,want)⟩ :: rest) env h K := gT (vV (cC hx) hk hd) hj hl hd
theorem yL (T : oG P) {dd j tg t off : Nat} {want : Bool} {ii : TI} {cs : List AV} {x : Operand} {u v : AV} (hk : VC P n ops rest ((dd,u) :: env) h K) (hj : (ops[j]?).bind (·.dst) = some tg := by rfl) (hl : look env tg = some (.b want) := by rfl) (hx : evu env x = some v := by rfl) (ht : T.ti t = some ii := by rfl) (hb : kF h v = some (cs,off) := by rfl) (hz : nF ii cs off = some u := by rfl) (hd : Nat.blt dd n.1 = true := by rfl) : VC P n ops (⟨some dd,.load t x,ty,pos,af,some (j,want)⟩ :: rest) env h K := gT (vV (aP T hx ht hb hz) hk hd) hj hl hd
theorem yF (T : oG P) {dd j tg t f kf : Nat} {want : Bool} {x : Operand} {u v : AV} (hk : VC P n ops rest ((dd,u) :: env) h K) (hj : (ops[j]?).bind (·.dst) = some tg := by rfl) (hl : look env tg = some (.b want) := by rfl) (hx : evu env x = some v := by rfl) (hf : T.field t f = some kf := by rfl) (hz : v.plus kf = some u := by rfl) (hd : Nat.blt dd n.1 = true := by rfl) : VC P n ops (⟨some dd,.fieldAddr t x f,ty,pos,af,some (j,want)⟩ :: rest) env h K := gT (vV (cE T hx hf hz) hk hd) hj hl hd
theorem yV {op : Op} {dd j tg : Nat} {want : Bool} {u : AV} (hs : bX P ⟨some dd,op,ty,pos,af,none⟩ env h 0 (fun _ => u) (fun _ => [])) (hk : VC P n ops rest ((dd,u) :: env) h K) (hj : (ops[j]?).bind (·.dst) = some tg := by rfl) (hl : look env tg = some (.b want) := by rfl) (hd : Nat.blt dd n.1 = true := by rfl) : VC P n ops (⟨some dd,op,ty,pos,af,some (j,want)⟩ :: rest) env h K := gT (vV hs hk hd) hj hl hd
theorem yB8 {d1 d2 : Nat} {x y : Operand} {u v : AV} {ty' : TypeId} {pos' : String} {af' : Array Edge} (hk : VC P n ops rest ((d2,v) :: (d1,u) :: env) h K) (hx : evu env x = some u := by rfl) (hy : evu ((d1,u) :: env) y = some v := by rfl) (hd : Nat.blt d1 n.1 = true := by rfl) (he : Nat.blt d2 n.1 = true := by rfl) : VC P n ops (⟨some d1,.move x,ty,pos,af,none⟩ :: ⟨some d2,.move y,ty',pos',af',none⟩ :: rest) env h K := vV (cC hx) (vV (cC hy) hk he) hd
theorem qJ {d1 d2 : Nat} {x y : Operand} {u v : AV} {ty' : TypeId} {pos' : String} {af' : Array Edge} (hk : VC P n ops rest ((d2,v) :: (d1,u) :: env) h K) (hx : evu env x = some u := by rfl) (hy : evu ((d1,u) :: env) y = some v := by rfl) (hd : Nat.blt d1 n.1 = true := by rfl) (he : Nat.blt d2 n.1 = true := by rfl) : VC P n ops (⟨some d1,.assign x,ty,pos,af,none⟩ :: ⟨some d2,.assign y,ty',pos',af',none⟩ :: rest) env h K := vV (eI hx) (vV (eI hy) hk he) hd
theorem TG (T : oG P) {d1 d2 t f kf t2 off : Nat} {x : Operand} {u v w : AV} {ii : TI} {cs : List AV} {ty' : TypeId} {pos' : String} {af' : Array Edge} (hk : VC P n ops rest ((d2,w) :: (d1,u) :: env) h K) (hx : evu env x = some v := by rfl) (hf : T.field t f = some kf := by rfl) (hz : v.plus kf = some u := by rfl) (hy : evu ((d1,u) :: env) (.tmp d1) = some u := by rfl) (ht : T.ti t2 = some ii := by rfl) (hb : kF h u = some (cs,off) := by rfl) (hw : nF ii cs off = some w := by rfl) (hd : Nat.blt d1 n.1 = true := by rfl) (he : Nat.blt d2 n.1 = true := by rfl) : VC P n ops (⟨some d1,.fieldAddr t x f,ty,pos,af,none⟩ :: ⟨some d2,.load t2 (.tmp d1),ty',pos',af',none⟩ :: rest) env h K := vV (cE T hx hf hz) (vV (aP T hy ht hb hw) hk he) hd
theorem mW {dd : Nat} {x : Operand} {u : AV} (e : (evu env x,Nat.blt dd n.1) = (some u,true)) (hk : VC P n ops rest ((dd,u) :: env) h K) : VC P n ops (⟨some dd,.move x,ty,pos,af,none⟩ :: rest) env h K := mV hk (congrArg (·.1) e) (congrArg (·.2) e)
theorem aW {dd : Nat} {x : Operand} {u : AV} (e : (evu env x,Nat.blt dd n.1) = (some u,true)) (hk : VC P n ops rest ((dd,u) :: env) h K) : VC P n ops (⟨some dd,.assign x,ty,pos,af,none⟩ :: rest) env h K := aV hk (congrArg (·.1) e) (congrArg (·.2) e)
theorem fW (T : oG P) {dd t f k : Nat} {x : Operand} {u z : AV} (e : (evu env x,T.field t f,u.plus k,Nat.blt dd n.1) = (some u,some k,some z,true)) (hk : VC P n ops rest ((dd,z) :: env) h K) : VC P n ops (⟨some dd,.fieldAddr t x f,ty,pos,af,none⟩ :: rest) env h K := fV T hk (congrArg (·.1) e) (congrArg (·.2.1) e) (congrArg (·.2.2.1) e) (congrArg (·.2.2.2) e)
theorem lW (T : oG P) {dd t : Nat} {i : TI} {x : Operand} {u z : AV} {cs : List AV} {off : Nat} (e : (evu env x,T.ti t,kF h u,nF i cs off,Nat.blt dd n.1) = (some u,some i,some (cs,off),some z,true)) (hk : VC P n ops rest ((dd,z) :: env) h K) : VC P n ops (⟨some dd,.load t x,ty,pos,af,none⟩ :: rest) env h K := lV T hk (congrArg (·.1) e) (congrArg (·.2.1) e) (congrArg (·.2.2.1) e) (congrArg (·.2.2.2.1) e) (congrArg (·.2.2.2.2) e)
theorem qW (T : oG P) {dd t e' m : Nat} {x : Operand} {u : AV} (e : (evu env x,T.elem t,zY0 u,Nat.blt dd n.1) = (some u,some e',some m,true)) (hk : VC P n ops rest ((dd,.i (m : Int)) :: env) h K) : VC P n ops (⟨some dd,.call { callee := .builtin .len,args := #[x],argTypes := #[t] },ty,pos,af,none⟩ :: rest) env h K := qV T hk (congrArg (·.1) e) (congrArg (·.2.1) e) (congrArg (·.2.2.1) e) (congrArg (·.2.2.2) e)
theorem xW {dd : Nat} {x : Operand} {vs : List AV} {j : Nat} {z : AV} (e : (evu env x,vs[j]?,Nat.blt dd n.1) = (some (.tup vs),some z,true)) (hk : VC P n ops rest ((dd,z) :: env) h K) : VC P n ops (⟨some dd,.extract x j,ty,pos,af,none⟩ :: rest) env h K := xV hk (congrArg (·.1) e) (congrArg (·.2.1) e) (congrArg (·.2.2) e)
theorem pW {dd : Nat} {c x y : Operand} {b : Bool} {r : AV} (e : (evu env c,yD5 b (evu env x) (evu env y),Nat.blt dd n.1) = (some (.b b),some r,true)) (hk : VC P n ops rest ((dd,r) :: env) h K) : VC P n ops (⟨some dd,.pick c x y,ty,pos,af,none⟩ :: rest) env h K := pV hk (congrArg (·.1) e) (congrArg (·.2.1) e) (congrArg (·.2.2) e)
theorem yN {dd j tg : Nat} {want : Bool} {x : Operand} {u : AV} (e : ((ops[j]?).bind (·.dst),look env tg,evu env x,Nat.blt dd n.1) = (some tg,some (.b want),some u,true)) (hk : VC P n ops rest ((dd,u) :: env) h K) : VC P n ops (⟨some dd,.move x,ty,pos,af,some (j,want)⟩ :: rest) env h K := yM hk (congrArg (·.1) e) (congrArg (·.2.1) e) (congrArg (·.2.2.1) e) (congrArg (·.2.2.2) e)
theorem yO (T : oG P) {dd j tg t off : Nat} {want : Bool} {ii : TI} {cs : List AV} {x : Operand} {u v : AV} (e : ((ops[j]?).bind (·.dst),look env tg,evu env x,T.ti t,kF h v,nF ii cs off,Nat.blt dd n.1) = (some tg,some (.b want),some v,some ii,some (cs,off),some u,true)) (hk : VC P n ops rest ((dd,u) :: env) h K) : VC P n ops (⟨some dd,.load t x,ty,pos,af,some (j,want)⟩ :: rest) env h K := yL T hk (congrArg (·.1) e) (congrArg (·.2.1) e) (congrArg (·.2.2.1) e) (congrArg (·.2.2.2.1) e) (congrArg (·.2.2.2.2.1) e) (congrArg (·.2.2.2.2.2.1) e) (congrArg (·.2.2.2.2.2.2) e)
theorem yP (T : oG P) {dd j tg t f kf : Nat} {want : Bool} {x : Operand} {u v : AV} (e : ((ops[j]?).bind (·.dst),look env tg,evu env x,T.field t f,v.plus kf,Nat.blt dd n.1) = (some tg,some (.b want),some v,some kf,some u,true)) (hk : VC P n ops rest ((dd,u) :: env) h K) : VC P n ops (⟨some dd,.fieldAddr t x f,ty,pos,af,some (j,want)⟩ :: rest) env h K := yF T hk (congrArg (·.1) e) (congrArg (·.2.1) e) (congrArg (·.2.2.1) e) (congrArg (·.2.2.2.1) e) (congrArg (·.2.2.2.2.1) e) (congrArg (·.2.2.2.2.2) e)
theorem dK {d1 d2 : Nat} {x y : Operand} {u v : AV} {ty' : TypeId} {pos' : String} {af' : Array Edge} (e : (evu env x,evu ((d1,u) :: env) y,Nat.blt d1 n.1,Nat.blt d2 n.1) = (some u,some v,true,true)) (hk : VC P n ops rest ((d2,v) :: (d1,u) :: env) h K) : VC P n ops (⟨some d1,.move x,ty,pos,af,none⟩ :: ⟨some d2,.move y,ty',pos',af',none⟩ :: rest) env h K := yB8 hk (congrArg (·.1) e) (congrArg (·.2.1) e) (congrArg (·.2.2.1) e) (congrArg (·.2.2.2) e)
theorem zB1 {d1 d2 : Nat} {x y : Operand} {u v : AV} {ty' : TypeId} {pos' : String} {af' : Array Edge} (e : (evu env x,evu ((d1,u) :: env) y,Nat.blt d1 n.1,Nat.blt d2 n.1) = (some u,some v,true,true)) (hk : VC P n ops rest ((d2,v) :: (d1,u) :: env) h K) : VC P n ops (⟨some d1,.assign x,ty,pos,af,none⟩ :: ⟨some d2,.assign y,ty',pos',af',none⟩ :: rest) env h K := qJ hk (congrArg (·.1) e) (congrArg (·.2.1) e) (congrArg (·.2.2.1) e) (congrArg (·.2.2.2) e)
theorem gH (T : oG P) {d1 d2 t f kf t2 off : Nat} {x : Operand} {u v w : AV} {ii : TI} {cs : List AV} {ty' : TypeId} {pos' : String} {af' : Array Edge} (e : (evu env x,T.field t f,v.plus kf,evu ((d1,u) :: env) (.tmp d1),T.ti t2,kF h u,nF ii cs off,Nat.blt d1 n.1,Nat.blt d2 n.1) = (some v,some kf,some u,some u,some ii,some (cs,off),some w,true,true)) (hk : VC P n ops rest ((d2,w) :: (d1,u) :: env) h K) : VC P n ops (⟨some d1,.fieldAddr t x f,ty,pos,af,none⟩ :: ⟨some d2,.load t2 (.tmp d1),ty',pos',af',none⟩ :: rest) env h K :=
  TG T hk (congrArg (·.1) e) (congrArg (·.2.1) e) (congrArg (·.2.2.1) e) (congrArg (·.2.2.2.1) e) (congrArg (·.2.2.2.2.1) e) (congrArg (·.2.2.2.2.2.1) e) (congrArg (·.2.2.2.2.2.2.1) e) (congrArg (·.2.2.2.2.2.2.2.1) e) (congrArg (·.2.2.2.2.2.2.2.2) e)
theorem BY (x : Value) : (AV.v x).un = .v x := rfl
theorem uS (k o : Nat) : (AV.ptr k o).un = .ptr k o := rfl
theorem E5 (k i o s : Nat) : (AV.ep k i o s).un = .ep k i o s := rfl
theorem E3 (c : List AV) (o : Nat) : (AV.pr c o).un = .pr c o := rfl
theorem E2 (k o l s : Nat) : (AV.sl k o l s).un = .sl k o l s := rfl
theorem E4 (k : Nat) : (AV.mp k).un = .mp k := rfl
theorem uR (c : List AV) (l s : Nat) : (AV.row c l s).un = .row c l s := rfl
theorem uU (c : List AV) : (AV.agg c).un = .agg c := rfl
theorem uQ (c : List AV) : (AV.tup c).un = .tup c := rfl
theorem uT (f : Fn) (a b : List AV) : (AV.clo f a b).un = .clo f a b := rfl
theorem HS.hand {c : nT} {ρ : Pl} {S : Nat → Prop} {w : World} {hin : Hp} {L : List Nat} (s : HS c ρ S h w) (hL : L.length = hin.length) (hnd : L.Nodup) (hh : tT (th L h.length) h 0 hin) :
    HS (oB w (fun k => ρ (th L h.length k)) S hin) (fun k => ρ (th L h.length k)) S hin w := by
  have s0 : HS { c with m := 0 } ρ S h w := ⟨s.dom,s.rng,s.blk,s.live,s.inj,s.stab,s.ext,s.st0,s.st1,bU _,fun k hk => absurd hk (dH _),s.glob⟩;have s1 := s0.sub hL hh hnd (wX);refine ⟨s1.dom,s1.rng,s1.blk,fun k b p hb hg hp => ⟨.inr ⟨k,b,p.2,hb,hg,hp⟩,(s1.live k b p hb hg hp).2⟩,s1.inj,s1.stab,mK.refl _ _,fun _ h => h,fun _ h => .inl h,aY _,fun _ _ => rfl,s1.glob⟩
theorem fF (L : List Nat) {x : Operand} {f : FuncId} {fs cs us xs : List AV} {args : List Operand} {ats : Array TypeId} {res : AV} {hin hout : Hp} (hx : evu env x = some (.clo (.func f) fs cs)) (ha : yD env args = some us)
    (hc : aR P f xs hin res hout) (hxs : fs ++ us ++ cs = AV.mapL (th L h.length) xs) (hL : L.length = hin.length) (hnd : L.Nodup) (hh : tT (th L h.length) h 0 hin) (hng : ∀ b,b ∈ hin → b ≠ .gone) (hd : CA d n = true)
    (hk : VC P n ops rest (lY d (res.map (rJ L h.length hin.length)) env) (zC h L ((hout.take hin.length).map (AB.map (rJ L h.length hin.length))) ++ (hout.drop hin.length).map (AB.map (rJ L h.length hin.length))) K) :
    VC P n ops (⟨d,.call { callee := .value x,args := args.toArray,argTypes := ats },ty,pos,af,none⟩ :: rest) env h K := by
  intro c ρ S a w Q s hQ;refine wpList_plain rfl fun K' hK' => ?_
  have p := s.pre;have hxv := p.evu hx;simp only [R] at hxv;obtain ⟨ys,zs,e1,h1,h2⟩ := hxv;have hall : RL S w (fs ++ us ++ cs) ρ (ys.toList ++ args.map a.eval ++ zs.toList) := gW (gW h1 (uG p ha)) h2;rw [hxs] at hall;have hargs := nO (th L h.length) ρ _ _ hall;obtain ⟨hf,hc⟩ := hc;have hs0 := s.hs.hand hL hnd hh;have hcall := hc _ S w _ hs0 hargs;unfold Oper.wp;have hrun : (execOp a.eval ⟨d,.call { callee := .value x,args := args.toArray,argTypes := ats },ty,pos,af,none⟩).run P w = .ok (.enter f (ys.toList ++ args.map a.eval ++ zs.toList).toArray) w := by
    have e2 : (ys ++ (args.toArray.map a.eval) ++ zs) = (ys.toList ++ args.map a.eval ++ zs.toList).toArray := by
      apply Array.ext';simp
    simp only [execOp,resolve,e1,Deferred.ofValue,Sem.run_bind,Sem.run_pure,Result.andThen_ok,invoke];rw [e2];exact vM hf
  rw [hrun];simp only [Oper.upon];refine hcall.mono ?_;rintro e w' ⟨y,ρ',S',rfl,hs,hy⟩;simp only;refine hK' _ _ (hk c (fun k => if k < h.length then ρ k else ρ' (hin.length + (k - h.length))) S' _ w' Q ?_ hQ)
  -- the objects handed over
  have hin_at : ∀ {i : Nat} {b : AB},hin[i]? = some b → ∃ j,L[i]? = some j ∧ j < h.length ∧ h[j]? = some (b.map (th L h.length)) ∧ b.map (th L h.length) ≠ .gone := fun {i b} hb => by
    have hne := hng b (aQ hb);have hlt : i < L.length := by rw [hL];exact (aB.1 hb).1
    have hj := aA hlt;have hth : th L h.length i = L[i] := by simp [th,hj]
    rcases hh.get i b hb with hg | hg
    · exact absurd hg hne
    · rw [Nat.zero_add,hth] at hg;exact ⟨L[i],hj,(aB.1 hg).1,hg,by cases b <;> simp [AB.map] at * ⟩
  have hmle := hs.mle;have hmle' : hin.length ≤ hout.length := hmle;have thL : ∀ {i j : Nat},L[i]? = some j → th L h.length i = j := fun hi => by simp [th,hi]
  have keep : ∀ {i j : Nat},i < hin.length → L[i]? = some j → ρ' i = ρ j := fun {i j} hi hj => by
    have := hs.keep i hi;simp only [oB] at this;rw [this,thL hj]
  -- where the callee may write
  have hM : ∀ b,(oB w (fun k => ρ (th L h.length k)) S hin).M b → w.heap.size ≤ b ∨ ∃ (i j : Nat) (o : Nat) (x : AB),hin[i]? = some x ∧ L[i]? = some j ∧ ρ j = some (b,o) := fun b hb => by
    rcases hb with hb | ⟨k,x,o,hb,_,hp⟩
    · exact .inl hb
    · obtain ⟨j,h3,_⟩ := hin_at hb;exact .inr ⟨k,j,o,x,hb,h3,by rw [← thL h3];exact hp⟩
  have hcM : ∀ b,(oB w (fun k => ρ (th L h.length k)) S hin).M b → c.M b := fun b hb => by
    rcases hM b hb with hb | ⟨i,j,o,x,h3,h4,h5⟩
    · exact c.new b (bA s.hs.ext.size hb)
    · obtain ⟨j',h6,_,h7,h8⟩ := hin_at h3;rw [h4] at h6;cases h6;exact (s.hs.live j _ _ h7 h8 h5).1
  have hlow : ∀ b,b < w.heap.size → (oB w (fun k => ρ (th L h.length k)) S hin).M b → ∃ (i j : Nat) (o : Nat) (x : AB),hin[i]? = some x ∧ L[i]? = some j ∧ ρ j = some (b,o) := fun b hlt hb => by
    rcases hM b hb with hb | hb
    · omega
    · exact hb
  -- a live object that was not handed over: its block is left alone
  have other : ∀ {k : Nat} {b : AB} {q : Nat × Nat},h[k]? = some b → b ≠ .gone → k ∉ L → ρ k = some q → ¬ (oB w (fun k => ρ (th L h.length k)) S hin).M q.1 := fun {k b q} hb hg hkL hq hm => by
    obtain ⟨i,j,o,x,h3,h4,h5⟩ := hlow q.1 (s.hs.rng k q hq) hm;obtain ⟨j',h6,_,h7,h8⟩ := hin_at h3;rw [h4] at h6;cases h6;have := s.hs.inj k j _ _ q _ hb h7 hg h8 hq h5 rfl;subst this;exact hkL (aQ h4)
  have stM : ∀ b,S b → ¬ (oB w (fun k => ρ (th L h.length k)) S hin).M b := fun b hb hm => by
    obtain ⟨i,j,o,x,h3,h4,h5⟩ := hlow b (s.hs.stab b hb) hm;obtain ⟨j',h6,_,h7,h8⟩ := hin_at h3;rw [h4] at h6;cases h6;exact (s.hs.live j _ _ h7 h8 h5).2 hb
  have same : ∀ b,b < w.heap.size → ¬ (oB w (fun k => ρ (th L h.length k)) S hin).M b → w'.heap[b]? = w.heap[b]? := fun b hb hm => hs.ext.same b hb hm
  have l : iC ρ (fun k => if k < h.length then ρ k else ρ' (hin.length + (k - h.length))) S S' w w' := by
    refine ⟨fun k q hq => ?_,hs.st0,fun b hb => same b (s.hs.stab b hb) (stM b hb),fun _ _ _ _ _ hr => hs.ext.room hr⟩
    have hlt : k < h.length := by
      rcases hC k h.length with h3 | h3
      · exact h3
      · rw [s.hs.dom k h3] at hq;cases hq
    simp only [if_pos hlt];exact hq
  -- the callee's places,seen by the caller
  have pl : ∀ k q,ρ' k = some q → (fun k => if k < h.length then ρ k else ρ' (hin.length + (k - h.length))) (rJ L h.length hin.length k) = some q := fun k q hq => by
    by_cases hk : k < hin.length
    · have hj := aA (l := L) (i := k) (by omega)
      have hb := aA hk;obtain ⟨j,h3,h4,_⟩ := hin_at hb;have hbk : rJ L h.length hin.length k = j := by simp [rJ,h3]
      rw [hbk];simp only [if_pos h4];rw [← keep hk h3];exact hq
    · have hbk : rJ L h.length hin.length k = h.length + (k - hin.length) := by
        unfold rJ;rw [cM (by omega)]
      rw [hbk];simp only;rw [if_neg (by omega),show hin.length + (h.length + (k - hin.length) - h.length) = k by omega]
      exact hq
  have shift : ∀ {x : AV} {y : Value},R S' w' x ρ' y → R S' w' (x.map (rJ L h.length hin.length)) (fun k => if k < h.length then ρ k else ρ' (hin.length + (k - h.length))) y := fun {x y} hx => Q3 _ _ x y (mB (fun _ h => h) (fun _ _ => rfl) x ρ' _ y pl (fun _ _ _ _ _ h => h) hx)
  have shiftB : ∀ {b : AB} {pp},RB S' w' ρ' pp b → RB S' w' (fun k => if k < h.length then ρ k else ρ' (hin.length + (k - h.length))) pp (b.map (rJ L h.length hin.length)) := fun {b pp} hb => GY _ _ (RB.later (ρ := ρ') (S := S') ⟨pl,fun _ h => h,fun _ _ => rfl,fun _ _ _ _ _ h => h⟩ (fun _ _ _ => rfl) hb)
  -- what stands at a place kF the call
  have get : ∀ {k : Nat} {b : AB},(zC h L ((hout.take hin.length).map (AB.map (rJ L h.length hin.length))) ++ (hout.drop hin.length).map (AB.map (rJ L h.length hin.length)))[k]? = some b →
      (k < h.length ∧ k ∉ L ∧ h[k]? = some b) ∨ (∃ (i : Nat) (b' : AB),hout[i]? = some b' ∧ b = b'.map (rJ L h.length hin.length) ∧ rJ L h.length hin.length i = k ∧ (if k < h.length then ρ k else ρ' (hin.length + (k - h.length))) = ρ' i ∧ ((i < hin.length ∧ L[i]? = some k) ∨ (hin.length ≤ i ∧ k = h.length + (i - hin.length)))) := fun {k b} hb => by
    by_cases hk : k < h.length
    · rw [aH (by rw [kS];exact hk)] at hb
      by_cases hkL : k ∈ L
      · obtain ⟨i,hi⟩ := GZ.1 hkL;have hiL : i < hin.length := by rw [← hL];exact (aB.1 hi).1
        have hb' := aA (l := hout) (i := i) (by omega)
        rw [FD (b := (hout[i]'(by omega)).map (rJ L h.length hin.length)) hnd hi (by simp [hiL,hb']) hk] at hb
        simp only [Option.some.injEq] at hb;exact .inr ⟨i,_,hb',hb.symm,by simp [rJ,hi],by rw [if_pos hk];exact (keep hiL hi).symm,.inl ⟨hiL,hi⟩⟩
      · rw [wQ _ _ _ hkL] at hb;exact .inl ⟨hk,hkL,hb⟩
    · rw [aE (by rw [kS];omega),kS,bS,eD] at hb
      obtain ⟨b',h3,h4⟩ := gI.1 hb;refine .inr ⟨hin.length + (k - h.length),b',h3,h4.symm,?_,by rw [if_neg hk],.inr ⟨by omega,by omega⟩⟩
      unfold rJ;rw [cM (by omega)]
      simp only;omega
  have mapg : ∀ {θ : Nat → Nat} {b : AB},b.map θ ≠ .gone → b ≠ .gone := fun hb e => hb (by rw [e];rfl)
  refine ⟨by rw [mY];exact s.size,by rw [kL];exact s.defers.later l,xL s.size hd (fun t u hu => (s.env t u hu).later l) (shift hy),?_,s.cm⟩
  refine ⟨fun k hk => ?_,fun k q hq => ?_,fun k b hb => ?_,fun k b q hb hg hq => ?_,fun k k' b b' q q' hb hb' hg hg' hq hq' e => ?_,hs.stab,s.hs.ext.trans hs.ext (fun b hb hlt => hcM b hb),fun b hb => hs.st0 b (s.hs.st0 b hb),fun b hb => ?_,?_,fun k hk => ?_,hs.glob⟩
  · simp only [aF,kS,bB,dJ] at hk;rw [if_neg (by omega)]
    exact hs.dom _ (by omega)
  · split at hq
    · exact dI (s.hs.rng k q hq) hs.ext.size
    · exact hs.rng _ q hq
  · rcases get hb with ⟨h3,h4,h5⟩ | ⟨i,b',h3,rfl,h4,h5,h6⟩
    · simp only [if_pos h3];by_cases hg : b = .gone
      · subst hg;trivial
      · exact RB.later l (fun b1 o1 hp => same b1 (s.hs.rng k _ hp) (other h5 hg h4 hp)) (s.hs.blk k b h5)
    · rw [h5];exact shiftB (hs.blk i b' h3)
  · rcases get hb with ⟨h3,h4,h5⟩ | ⟨i,b',h3,rfl,h4,h5,h6⟩
    · simp only [if_pos h3] at hq;obtain ⟨h7,h8⟩ := s.hs.live k b q h5 hg hq;refine ⟨h7,fun hs' => ?_⟩
      rcases hs.st1 _ hs' with h9 | h9
      · exact h8 h9
      · exact other h5 hg h4 hq h9
    · rw [h5] at hq;obtain ⟨h7,h8⟩ := hs.live i b' q h3 (mapg hg) hq;exact ⟨hcM _ h7,h8⟩
  · rcases get hb with ⟨h3,h4,h5⟩ | ⟨i,b1,h3,rfl,h4,h5,h6⟩ <;> rcases get hb' with ⟨h3',h4',h5'⟩ | ⟨i',b1',h3',rfl,h4',h5',h6'⟩
    · simp only [if_pos h3] at hq;simp only [if_pos h3'] at hq';exact s.hs.inj k k' b b' q q' h5 h5' hg hg' hq hq' e
    · simp only [if_pos h3] at hq;rw [h5'] at hq';have hl := (hs.live i' b1' q' h3' (mapg hg') hq').1;rw [← e] at hl;exact absurd hl (other h5 hg h4 hq)
    · simp only [if_pos h3'] at hq';rw [h5] at hq;have hl := (hs.live i b1 q h3 (mapg hg) hq).1;rw [e] at hl;exact absurd hl (other h5' hg' h4' hq')
    · rw [h5] at hq;rw [h5'] at hq';have := hs.inj i i' b1 b1' q q' h3 h3' (mapg hg) (mapg hg') hq hq' e;subst this;rw [← h4,← h4']
  · rcases hs.st1 b hb with hb' | hb'
    · exact s.hs.st1 b hb'
    · exact .inr (hcM b hb')
  · simp only [aF,kS];exact bA s.hs.mle (iY _ _)
  · have hlt := dI hk s.hs.mle;simp only [if_pos hlt];exact s.hs.keep k hk
end
section
variable {P : Program} {env : dW} {h : Hp}
variable {d : Option Nat} {ty : TypeId} {pos : String} {af : Array Edge} {g : Option (Nat × Bool)}
theorem zJ0 {ts : Array TypeId} {x y z u : Operand} {k : IntKind} {a b c e : Int} (hx : evu env x = some (.v (.int k a))) (hy : evu env y = some (.v (.int k b))) (hz : evu env z = some (.v (.int k c))) (hu : evu env u = some (.v (.int k e))) :
    bX P ⟨d,.call { callee := .builtin .min,args := #[x,y,z,u],argTypes := ts },ty,pos,af,g⟩ env h 0 (fun _ => .v (.int k (min (min (min a b) c) e))) (fun _ => []) := by
  refine iF fun ρ S ac w p => ⟨.int k (min (min (min a b) c) e),?_,kM _⟩;have h1 := rT (p.evu hx);have h2 := rT (p.evu hy);have h3 := rT (p.evu hz);have h4 := rT (p.evu hu);have m2 : ∀ a b : Int,(if b < a then b else a) = min a b := fun a b => by split <;> omega
  have e2 := fun (a b : Int) => run_min_int2 (P := P) (w := w) #[] 0 k k a b;simp only [Builtin.min_,List.foldlM_cons,List.foldlM_nil] at e2;simp only [bind_pure] at e2;simp [execOp,resolve,invoke,builtin,h1,h2,h3,h4,Builtin.min_,e2,m2]
theorem zJ1 {ts : Array TypeId} {x y z u : Operand} {k : IntKind} {a b c e : Int} (hx : evu env x = some (.v (.int k a))) (hy : evu env y = some (.v (.int k b))) (hz : evu env z = some (.v (.int k c))) (hu : evu env u = some (.v (.int k e))) :
    bX P ⟨d,.call { callee := .builtin .max,args := #[x,y,z,u],argTypes := ts },ty,pos,af,g⟩ env h 0 (fun _ => .v (.int k (max (max (max a b) c) e))) (fun _ => []) := by
  refine iF fun ρ S ac w p => ⟨.int k (max (max (max a b) c) e),?_,kM _⟩;have h1 := rT (p.evu hx);have h2 := rT (p.evu hy);have h3 := rT (p.evu hz);have h4 := rT (p.evu hu);have m2 : ∀ a b : Int,(if a < b then b else a) = max a b := fun a b => by split <;> omega
  have e2 := fun (a b : Int) => run_max_int2 (P := P) (w := w) #[] 0 k k a b;simp only [Builtin.max_,List.foldlM_cons,List.foldlM_nil] at e2;simp only [bind_pure] at e2;simp [execOp,resolve,invoke,builtin,h1,h2,h3,h4,Builtin.max_,e2,m2]
theorem K4 {t t2 e len sz : Nat} {cs : List AV} {x y : Operand} (T : oG P) (hx : evu env x = some (.row cs len sz)) (hy : evu env y = some .nils) (ht : T.elem t = some e) (hl : 0 < len) :
    bX P ⟨d,.binOp .eql t x y t2,ty,pos,af,g⟩ env h 0 (fun _ => .b false) (fun _ => []) := by
  refine iF fun ρ S a w p => ⟨.bool false,?_,kM _⟩
  have h3 := p.evu hx;simp only [R] at h3;obtain ⟨ad,cap,h4,hlc,hn,_⟩ := h3;have h5 := rT (p.evu hy);cases ad with
  | none => have := hn rfl;omega
  | some ad =>
    have hg : (eqGuard .eql t x y (.slice (some ad) len cap) (.slice none 0 0)).run P w = .ok () w := rfl;have he := Lib.run_eql_slice_nil w t e (some ad) len cap 0 0 (T.elemOk _ _ ht);simp [execOp,h4,h5,hg,he]
end
section
variable {P : Program} {n : Nat × Nat} {ops : Array Oper} {env : dW} {h : Hp} {Q : Exit → dW → Hp → Prop} {code : Code}
end
theorem bY (θ : Nat → Nat) : ∀ {es : List (List AV)}, (∀ e, e ∈ es → AV.idfL e = true) → es.map (AV.mapL θ) = es
  | [],_ => rfl
  | e :: es,h => by simp only [List.map_cons];rw [oS θ e (h e (by simp)),bY θ fun q hq => h q (by simp [hq])]
theorem aD {h : Hp} {i sz : Nat} {θ : Nat → Nat} {es es' : List (List AV)} (hk : h[i]? = some (.arr es' sz)) (he : es' = es) (hi : ∀ e,e ∈ es → AV.idfL e = true) : h[i]? = some ((AB.arr es sz).map θ) := by
  subst he;rw [hk];simp only [AB.map,bY θ hi]
theorem lX {h : Hp} {k i off sz : Nat} {es : List (List AV)} {c xs : List AV} (hk : h[k]? = some (.arr es sz)) (hc : es[i]? = some c) (hl : Nat.ble (off + xs.length) sz = true) : upd h (.ep k i off sz) xs = some (h.set k (.arr (es.set i (jO c off xs)) sz)) := by
  simp only [upd,hk,hc,fJ,hl]
theorem bH {h : Hp} {k i off sz : Nat} {es : List (List AV)} {c : List AV} (hk : h[k]? = some (.arr es sz)) (hc : es[i]? = some c) : kF h (.ep k i off sz) = some (c,off) := by
  simp only [kF,hk,hc,fJ]
theorem I2 {P : Program} {n : Nat × Nat} {env : dW} {h : Hp} {K : dW → Hp → Prop} {ops : Array Oper} {env' : dW} {h' : Hp} (he : (env,h) = (env',h')) (hk : K env' h') : VC P n ops [] env h K := by
  cases he;exact fU hk
theorem nZ {P : Program} {n : Nat × Nat} {env : dW} {h : Hp} {K : dW → Hp → Prop} {ops : Array Oper} {env' : dW} {h' : Hp} (hk : K env' h') (he : (env,h) = (env',h') := by first | (dsimp only [List.nil_append,List.cons_append,List.append_nil,List.length_cons,List.length_nil,List.set_cons_zero,List.set_cons_succ,List.map_cons,List.map_nil,jO,lY,lA,pE,BY,uS,E5,E3,E2,E4,uR,uU,uQ,uT,Nat.zero_add,Nat.add_zero,Nat.reduceAdd,Bool.not_true,Bool.not_false];first | done | exact rfl) | exact rfl) : VC P n ops [] env h K := I2 he hk
theorem iA {P : Program} {n : Nat × Nat} {env : dW} {h : Hp} {Q : Exit → dW → Hp → Prop} (id : Nat) {d1 d2 d3 : Nat} {t t2 t3 t4 t5 : TypeId} {x y y2 : Operand} {a b : Int} {p1 p2 p3 : String} {f1 f2 f3 : Array Edge} (hx : evu env x = some (.i a)) (h1 : evu ((d1, .i a) :: env) y = some (.i a)) (h2 : evu ((d1, .i a) :: env) y2 = some (.i b)) (b1 : -9223372036854775808 ≤ a + b) (b2 : a + b ≤ 9223372036854775807)
    (hk : VC P n [⟨some d1,.move x,t3,p1,f1,none⟩,⟨some d2,.binOp .add t y y2 t2,t4,p2,f2,none⟩,⟨some d3,.assign (.tmp d2),t5,p3,f3,none⟩].toArray [] ((d3,.i (a + b)) :: (d2,.i (a + b)) :: (d1,.i a) :: env) h (fun v h => Q .normal v h)) (hz : evu ((d2,.i (a + b)) :: (d1,.i a) :: env) (.tmp d2) = some (.i (a + b)) := by rfl) (e1 : Nat.blt d1 n.1 = true := by rfl) (e2 : Nat.blt d2 n.1 = true := by rfl) (e3 : Nat.blt d3 n.1 = true := by rfl) :
    AW P n (.region id [⟨some d1,.move x,t3,p1,f1,none⟩,⟨some d2,.binOp .add t y y2 t2,t4,p2,f2,none⟩,⟨some d3,.assign (.tmp d2),t5,p3,f3,none⟩].toArray false) env h Q :=
  rg id (mV (vV (bV h1 h2 b1 b2) (aV hk hz e3) e2) hx e1)
def eO (L : Nat → Bool) : List (Nat × Nat) → List AB → Hp → Hp
  | (s,k) :: r,b :: bs,h => eO L r bs (match L s with | true => h.set k b | false => h)
  | _,_,h => h
def T9 (pre bef : Nat → Bool) : List (Nat × Nat) → List AB → Hp → Hp
  | (s,k) :: r,b :: bs,h => T9 pre bef r bs (match pre s with | true => h.set k b | false => match bef s with | true => h | false => h.set k .gone)
  | (s,k) :: r,[],h => T9 pre bef r [] (match bef s with | true => h | false => h.set k .gone)
  | [],_,h => h
def seeH (pres : List (List Nat)) (i : Nat) (pre : List Nat) (ss : List (Nat × Nat)) (bs : List AB) (h : Hp) : Hp :=
  T9 (fun s => pre.any (Nat.beq s)) (fun s => Nat.beq s i || (pres.getD s []).any (Nat.beq i)) ss bs h
def OQ (pres : List (List Nat)) : List (Nat × Nat) → Bool
  | [] => true
  | (s,k) :: r => (r.all fun x => !Nat.beq x.1 s && (!Nat.beq x.2 k || (pres.getD x.1 []).any (Nat.beq s))) && OQ pres r
theorem nN (L : Nat → Bool) : ∀ (ss : List (Nat × Nat)) (bs : List AB) (h : Hp), (eO L ss bs h).length = h.length
  | [],_,_ => rfl
  | _ :: _,[],_ => rfl
  | (s,k) :: r,b :: bs,h => by
    simp only [eO];rw [nN L r bs];cases L s <;> simp
theorem vK (pre bef : Nat → Bool) : ∀ (ss : List (Nat × Nat)) (bs : List AB) (h : Hp), (T9 pre bef ss bs h).length = h.length
  | [],_,_ => rfl
  | (s,k) :: r,[],h => by simp only [T9];rw [vK pre bef r []];cases bef s <;> simp
  | (s,k) :: r,b :: bs,h => by
    simp only [T9];rw [vK pre bef r bs];cases pre s <;> cases bef s <;> simp
theorem oD {L L' : Nat → Bool} : ∀ (ss : List (Nat × Nat)) (bs : List AB) (h : Hp), (∀ x, x ∈ ss → L x.1 = L' x.1) → eO L ss bs h = eO L' ss bs h
  | [],_,_,_ => rfl
  | _ :: _,[],_,_ => rfl
  | (s,k) :: r,b :: bs,h,hx => by
    simp only [eO];rw [hx (s,k) aS,oD r bs _ (fun x h => hx x (aK _ h))]
theorem RH {h1 h2 : Hp} (hl : h1.length = h2.length) (hb : ∀ (j : Nat) b,h1[j]? = some b → b ≠ .gone → h2[j]? = some b) (k : Nat) (b' : AB) : ∀ (j : Nat) b,(h1.set k b')[j]? = some b → b ≠ .gone → (h2.set k b')[j]? = some b := by
  intro j b hj hg;rw [gX] at hj ⊢;rw [← hl];split
  · rename_i e;rw [if_pos e] at hj;exact hj
  · rename_i e;rw [if_neg e] at hj;exact hb j b hj hg
theorem MO {h1 h2 : Hp} (hb : ∀ (j : Nat) b,h1[j]? = some b → b ≠ .gone → h2[j]? = some b) (k : Nat) : ∀ (j : Nat) b,(h1.set k .gone)[j]? = some b → b ≠ .gone → j ≠ k ∧ h2[j]? = some b := by
  intro j b hj hg;rw [gX] at hj;split at hj
  · split at hj
    · cases hj;exact absurd rfl hg
    · cases hj
  · rename_i e;exact ⟨fun e' => e e'.symm,hb j b hj hg⟩
theorem N8 {L pre bef : Nat → Bool} : ∀ (ss : List (Nat × Nat)) (bs : List AB) (h1 h2 : Hp),bs.length = ss.length → h1.length = h2.length → (∀ (j : Nat) b,h1[j]? = some b → b ≠ .gone → h2[j]? = some b) →
    (∀ x,x ∈ ss → pre x.1 = true → L x.1 = true) → (∀ x,x ∈ ss → pre x.1 = false → bef x.1 = true → L x.1 = false) → ∀ (j : Nat) b,(T9 pre bef ss bs h1)[j]? = some b → b ≠ .gone → (eO L ss bs h2)[j]? = some b
  | [],_,_,_,_,_,hb,_,_ => hb
  | _ :: _,[],_,_,hl,_,_,_,_ => by simp at hl
  | (s,k) :: r,b' :: bs,h1,h2,hl,hl2,hb,hp,hn => by
    simp only [T9,eO];have h3 := hp (s,k) aS;have h4 := hn (s,k) aS;simp only at h3 h4;refine N8 r bs _ _ (by simpa using hl) ?_ ?_ (fun x hx => hp x (aK _ hx)) (fun x hx => hn x (aK _ hx))
    · cases pre s <;> cases bef s <;> cases L s <;> simpa using hl2
    · cases hps : pre s with
      | true =>
        rw [h3 hps];exact RH hl2 hb k b'
      | false =>
        cases hbs : bef s with
        | true => rw [h4 hps hbs];exact hb
        | false =>
          intro j b hj hg;obtain ⟨h5,h6⟩ := MO hb k j b hj hg;cases L s with
          | true => simp only;rw [iT (fun e => h5 e.symm)];exact h6
          | false => exact h6
theorem Y3 {pre bef : Nat → Bool} : ∀ (ss : List (Nat × Nat)) (don mb : List AB) (h : Hp), (∀ x, x ∈ ss.drop don.length → pre x.1 = false) → T9 pre bef ss (don ++ mb) h = T9 pre bef ss don h
  | [],_,_,_,_ => rfl
  | (s,k) :: r,[],[],h,_ => by simp only [List.append_nil]
  | (s,k) :: r,[],b :: mb,h,hx => by
    have h1 := hx (s,k) aS;have h2 := Y3 (pre := pre) (bef := bef) r [] mb (match bef s with | true => h | false => h.set k .gone) (fun x hx' => hx x (by simpa using aK _ hx'))
    simp only at h1;simp only [List.nil_append,T9,h1] at h2 ⊢;exact h2
  | (s,k) :: r,b :: don,mb,h,hx => by
    simp only [List.cons_append,T9];exact Y3 r don mb _ (fun x hx' => hx x (by simpa using hx'))
theorem BK {L : Nat → Bool} : ∀ (ss : List (Nat × Nat)) (bs : List AB) (h : Hp) (k : Nat) (b : AB), (∀ x, x ∈ ss → L x.1 = true → x.2 ≠ k) → eO L ss bs (h.set k b) = (eO L ss bs h).set k b
  | [],_,_,_,_,_ => rfl
  | _ :: _,[],_,_,_,_ => rfl
  | (s,k') :: r,b' :: bs,h,k,b,hx => by
    simp only [eO];have h1 := hx (s,k') aS;simp only at h1;rw [← BK r bs _ k b (fun x h => hx x (aK _ h))];cases hL : L s with
    | true => simp only;rw [List.set_comm _ _ (fun e => h1 hL e.symm)]
    | false => rfl
theorem H1 {pres : List (List Nat)} {L L' : Nat → Bool} {s k : Nat} {b : AB} : ∀ (ss : List (Nat × Nat)) (bs : List AB) (h : Hp) (m : Nat),OQ pres ss = true → ss[m]? = some (s,k) → bs[m]? = some b → L s = false → (∀ j,L' j = (L j || Nat.beq j s)) →
    (∀ x,x ∈ ss → L x.1 = true → ∀ j,j ∈ pres.getD x.1 [] → L j = true) → eO L' ss bs h = (eO L ss bs h).set k b
  | [],_,_,m,_,hs,_,_,_,_ => by simp at hs
  | _ :: _,[],_,m,_,_,hb,_,_,_ => by simp at hb
  | (s0,k0) :: r,b0 :: bs,h,m,hok,hs,hb,hL,hL',hcl => by
    simp only [OQ,aM,bG] at hok;obtain ⟨h1,h2⟩ := hok;simp only [eO];cases m with
    | zero =>
      simp only [eH,Option.some.injEq,Prod.mk.injEq] at hs hb;obtain ⟨rfl,rfl⟩ := hs;subst hb;rw [hL,hL',fJ,wN];simp only
      rw [oD (L := L') (L' := L) r bs _ (fun x hx => by
        have := (h1 x hx).1
        rw [hL',show Nat.beq x.1 s0 = false from by simpa using this,kN])]
      refine BK r bs h k0 b0 fun x hx hLx e => ?_
      rcases iK.1 (h1 x hx).2 with h3 | h3
      · rw [e,fJ] at h3;cases h3
      · have := hcl x (aK _ hx) hLx s0 (oE.1 h3);rw [hL] at this;cases this
    | succ m =>
      simp only [kH] at hs hb;have hne : s0 ≠ s := fun e => by
        have := (h1 (s,k) (aQ hs)).1;rw [e] at this;simp at this
      have e1 : L' s0 = L s0 := by
        rw [hL',show Nat.beq s0 s = false from by rw [← eN];intro hb';exact hne (aO hb'),kN]
      rw [e1];exact H1 r bs _ m h2 hs hb hL hL' (fun x hx => hcl x (aK _ hx))
theorem IC {L L' : Nat → Bool} : ∀ (l : List mU) (i : Nat), (∀ (j : Nat) f, l[j]? = some f → L (i + j) = L' (i + j) ∨ f.new = []) → kE L i l = kE L' i l
  | [],_,_ => rfl
  | f :: r,i,hx => by
    simp only [kE];rw [IC (L := L) (L' := L') r (i + 1) (fun j g hg => by rw [dU,rU 1 j];exact hx (j + 1) g (by simpa using hg))]
    rcases hx 0 f rfl with h1 | h1
    · rw [Nat.add_zero] at h1;rw [h1]
    · rw [h1];cases L i <;> cases L' i <;> rfl
def S8 (P : Program) (o : Oper) (env : dW) (h : Hp) (k : Nat) (nb : AB) : Prop :=
  ∀ c ρ S a w H,HS c ρ S H w → EL ρ S env h a w → (∀ (j : Nat) b,h[j]? = some b → b ≠ .gone → H[j]? = some b) → ∀ (K : Act → World → Prop) Q,
    (∀ y w',HS c ρ S (H.set k nb) w' → iC ρ ρ S S w w' → K (a.put none y) w') → o.wp P a w K Q
theorem S8.more {P : Program} {o : Oper} {env env' : dW} {h : Hp} {k : Nat} {nb : AB} (hs : S8 P o env h k nb) (he : ∀ t u,look env t = some u → look env' t = some u) : S8 P o env' h k nb :=
  fun c ρ S a w H g p => hs c ρ S a w H g ⟨fun t u hu => p.env t u (he t u hu),p.rng,p.blk,p.live,p.stab,p.glob⟩
def HJ (h : Hp) : AV → List AV → Option (Nat × AB)
  | .ptr k off, xs => match h[k]? with
    | some (.cells cs) => match Nat.ble (off + xs.length) cs.length with
      | true => some (k,.cells (jO cs off xs))
      | false => none
    | _ => none
  | .ep k i off sz, xs => match h[k]? with
    | some (.arr es s) => match Nat.beq s sz, es[i]?, Nat.ble (off + xs.length) sz with
      | true,some c,true => some (k,.arr (es.set i (jO c off xs)) s)
      | _,_,_ => none
    | _ => none
  | _,_ => none
theorem tZ {h : Hp} {k i off sz : Nat} {es : List (List AV)} {c xs : List AV} (hk : h[k]? = some (.arr es sz)) (hc : es[i]? = some c) (hl : Nat.ble (off + xs.length) sz = true) : HJ h (.ep k i off sz) xs = some (k,.arr (es.set i (jO c off xs)) sz) := by
  simp only [HJ,hk,fJ,hc,hl]
theorem HV {P : Program} {env : dW} {h : Hp} {pos : String} {ty : TypeId} {af : Array Edge} (T : oG P) {t : Nat} {i : TI} {x y : Operand} {u v : AV} {xs : List AV} {k : Nat} {nb : AB} (hx : evu env x = some u) (hy : evu env y = some v) (ht : T.ti t = some i) (hv : v.cellsOf = some xs) (hl : xs.length = i.size) (h1 : xs.all AV.one = true) (h0 : 0 < i.size) (hu : HJ h u xs = some (k,nb)) :
    S8 P ⟨none,.store t x y,ty,pos,af,none⟩ env h k nb := by
  intro c ρ S a w H g p hH K' Q hK';have hxv := p.evu hx;have hyv := uH (p.evu hy) hv;have hone := V3 hyv h1;have hlen := fD hyv;simp only [gQ] at hlen;have run : ∀ {b o : Nat} {cc : Array Value} {e : TypeId},a.eval x = .pointer (some ⟨b,o,none⟩) → w.heap[b]? = some (.cells cc e (0,0)) → o + (a.eval y).cells.toList.length ≤ cc.size →
      (execOp a.eval ⟨none,.store t x y,ty,pos,af,none⟩).run P w = .ok .skip (w.setRow b (cc.toList.take o ++ (a.eval y).cells.toList ++ cc.toList.drop (o + (a.eval y).cells.toList.length)).toArray) := fun {b o cc e} he hc hle => by
    have hst := run_storeCells_at P b o e (a.eval y).cells.toList 0 cc w hc (by simpa using hle) hone
    simp only [Nat.add_zero] at hst;simp only [execOp,he,Instr.storeAt,Instr.sureAddr,storeVar,Sem.run_bind,Sem.run_pure,Result.andThen_ok,T.sizeOf ht];rw [if_neg (by simp;omega)]
    simp only [hst,Result.andThen_ok]
  have fin : ∀ {k b o : Nat} {b0 nb : AB} {cc : Array Value} {e : TypeId} {off : Nat} {ys : List Value},(∀ y w',HS c ρ S (H.set k nb) w' → iC ρ ρ S S w w' → K' (a.put none y) w') → h[k]? = some b0 → b0 ≠ .gone → ρ k = some (b,o) → w.heap[b]? = some (.cells cc e (0,0)) → (∀ (j : Nat) (y : Value),ys[j]? = some y → cc[o + j]? = some y) → off + (a.eval y).cells.toList.length ≤ ys.length → a.eval x = .pointer (some ⟨b,o + off,none⟩) →
      (∀ w',iC ρ ρ S S w w' → R7 w' b o (jO ys off (a.eval y).cells.toList) → RB S w' ρ (some (b,o)) nb) →
      Oper.wp P ⟨none,.store t x y,ty,pos,af,none⟩ a w K' Q := fun {k b o b0 nb cc e off ys} hK' e2 e3 e4 e5 e6 e7 e8 e9 => by
    obtain ⟨f1,f2,f3⟩ := R6 e5 e6 e7 (by simp;omega)
    have hr := run e8 e5 f1;unfold Oper.wp;rw [hr];obtain ⟨g1,g2⟩ := g.upd (hH _ _ e2 e3) e3 e4 (qU e5 f3) (fun l => e9 _ l f2);exact hK' _ _ g1 g2
  cases u with
  | ptr k off =>
    simp only [HJ] at hu;split at hu
    · rename_i cs hk';split at hu
      · rename_i hble;cases hu;have hle := aN hble;simp only [R] at hxv;obtain ⟨b,o,hp,hev⟩ := hxv;have hb := p.blk k _ hk';simp only [RB,hp] at hb;obtain ⟨b',o',ys,hq,⟨cc,e,hc,hcy⟩,hcs⟩ := hb;cases hq;have hyl := fD hcs;refine fin hK' hk' (by simp) hp hc hcy (by simp;omega) hev fun w' l hh => ?_
        simp only [RB];exact ⟨b,o,_,rfl,hh,Q4 (hcs.later l) (hyv.later l)⟩
      · cases hu
    · cases hu
  | ep k j off sz =>
    simp only [HJ] at hu;split at hu
    · rename_i es s' hk';split at hu
      · rename_i cj hbeq hj hble;cases hu;have hsz := aO hbeq;subst hsz;have hle := aN hble;simp only [R] at hxv;obtain ⟨b,o,hp,hev⟩ := hxv;have hb := p.blk k _ hk';simp only [RB,hp] at hb;obtain ⟨hes,hs0,hb⟩ := hb;rcases hb with hb | ⟨b',o',ys,hq,⟨cc,e,hc,hcy⟩,hcs⟩
        · obtain ⟨hb,_⟩ := hb;subst hb;simp at hj
        cases hq;have hyl := fD hcs;have hjl : j < es.length := (aB.1 hj).1;have hfl := eB hes;have hjm : j * s' + s' ≤ es.length * s' := by
          calc j * s' + s' = (j + 1) * s' := by rw [eC]; omega
            _ ≤ es.length * s' := eW _ hjl
        refine fin hK' hk' (by simp) hp hc hcy (off := j * s' + off) (by simp;omega) hev fun w' l hh => ?_
        simp only [RB];have hput := Q4 (off := j * s' + off) (hcs.later l) (hyv.later l);rw [uX hes hj (by omega)] at hput
        refine ⟨fun e1 he1 => ?_,hs0,.inr ⟨b,o,_,rfl,hh,hput⟩⟩
        rcases fO he1 with h2 | h2
        · exact hes e1 h2
        · subst h2;rw [wZ];exact hes _ (aQ hj)
      · cases hu
    · cases hu
  | _ => simp [HJ] at hu
theorem uM.store {P : Program} {n : Nat × Nat} {c : nT} {env : dW} {h h' : Hp} {all : List mU} {L L' : Nat → Bool} {ρ : Pl} {S : Nat → Prop} {a : Act} {w w' : World} {i : Nat} {y : Value} (s : uM P n c env h all L ρ S a w)
    (hf : all[i]? = some ⟨none,.v undef,[]⟩) (hL : ∀ j,L' j = (L j || Nat.beq j i)) (hh : HS c ρ S (h' ++ kE L 0 all) w') (hl : h'.length = h.length) (l : iC ρ ρ S S w w') : uM P n c env h' all L' ρ S (a.put none y) w' := by
  have old : ∀ j,L' j = false → L j = false := fun j hj => by rw [hL] at hj;exact (nU.1 hj).1
  refine ⟨s.size,s.defers.later l,s.cm,fun t x hx => (s.env0 t x hx).later l,fun j g t hg hj ht => ?_,?_,fun j g hg hj k hk => by rw [hl];exact s.undone j g hg (old j hj) k hk⟩
  · by_cases hji : j = i
    · subst hji;rw [hf] at hg;cases hg;cases ht
    · have hjL : L j = true := by
        rw [hL] at hj;rcases iK.1 hj with hj | hj
        · exact hj
        · exact absurd (aO hj) hji
      exact (s.done j g t hg hjL ht).later l
  · rwa [IC (L := L') (L' := L) all 0 (fun j g hg => by
      rw [Nat.zero_add];by_cases hji : j = i
      · subst hji;rw [hf] at hg;cases hg;exact .inr rfl
      · left;rw [hL,show Nat.beq j i = false from by rw [← eN];intro hb;exact hji (aO hb),kN])]
def yA6 (P : Program) (n : Nat × Nat) (ops : Array Oper) (pres : List (List Nat)) (ss : List (Nat × Nat)) (ds : List Nat) (env : dW) (h : Hp) (effs : List mU) (don : List AB) (K : dW → Hp → Prop) : Prop :=
  ∃ more mb,(effs ++ more).length = pres.length ∧ (don ++ mb).length = ss.length ∧ jG (effs ++ more) = ds ∧
    (∀ i f pre,effs.length ≤ i → (effs ++ more)[i]? = some f → pres[i]? = some pre →
      ((∀ x,x ∈ ss → x.1 ≠ i) ∧ EO P ops i (xX env ((effs ++ more).take i) pre) (seeH pres i pre ss (don ++ mb) h ++ kE (fun j => pre.any (Nat.beq j)) 0 ((effs ++ more).take i)) f) ∨
      (∃ (m k : Nat) (b : AB) (o : Oper),ss[m]? = some (i,k) ∧ (don ++ mb)[m]? = some b ∧ f = ⟨none,.v undef,[]⟩ ∧ ops[i]? = some o ∧ o.guard = none ∧ k < h.length ∧ S8 P o (xX env ((effs ++ more).take i) pre) (seeH pres i pre ss (don ++ mb) h ++ kE (fun j => pre.any (Nat.beq j)) 0 ((effs ++ more).take i)) k b)) ∧
    VC P n ops (ops.toList.drop pres.length) (xX env (effs ++ more) (List.range pres.length)) (eO (fun _ => true) ss (don ++ mb) h ++ kE (fun _ => true) 0 (effs ++ more)) K
theorem ZO {P : Program} {n : Nat × Nat} {env : dW} {h : Hp} {Q : Exit → dW → Hp → Prop} {id : Nat} {l : List Oper} (pres : List (List Nat)) (ds : List Nat) (ss : List (Nat × Nat)) (hm : P.follows .mixedOrders = true) (hok : sY l.toArray pres = true) (hss : OQ pres ss = true) (hssl : (ss.all fun x => Nat.blt x.1 pres.length) = true) (hnd : ds.Nodup) (hds : (ds.all fun d => Nat.blt d n.1) = true) (hsz : Nat.ble pres.length l.length = true)
    (hv : yA6 P n l.toArray pres ss ds (eE ds env) h [] [] (fun v h => Q .normal v h)) (hndf : mO l = true := by rfl) : AW P n (.region id l.toArray true) env h Q := by
  intro c ρ S a w QX s hX;refine oQ hm hndf ?_;have hQ : ∀ (env' : dW) (h' : Hp) ρ' S' a' w',Q .normal env' h' → pN n c ρ' S' env' h' a' w' → (fun e a w => e = Exit.normal ∧ QX Exit.normal a w) Exit.normal a' w' := fun env' h' ρ' S' a' w' k s' => ⟨rfl,hX .normal env' h' ρ' S' a' w' k s'⟩
  generalize (fun e a w => e = Exit.normal ∧ QX Exit.normal a w) = QQ at hQ ⊢;obtain ⟨all,bs,h1,hbl,h2,h3,h4⟩ := hv;simp only [List.nil_append,List.length_nil,bU,true_implies] at h1 hbl h2 h3 h4;have hAT : ∀ L : Nat → Bool,(∀ j,j < pres.length → L j = true) → eO L ss bs h = eO (fun _ => true) ss bs h := fun L hL => oD ss bs h fun x hx => hL x.1 (by have := bG.1 hssl x hx;exact aN this)
  have hple : pres.length ≤ l.toArray.size := by simpa using aN hsz
  have henv : ∀ t x,look (eE ds env) t = some x → look env t = some x ∧ t ∉ jG all := fun t x hx => by rw [h2];exact kK hx
  -- the first operations,in whatever order
  have key : ∀ (fuel : Nat) (listed : Array Bool) (U : List Nat) (ρ : Pl) (S : Nat → Prop) (a : Act) (w : World),listed.size = l.toArray.size → (∀ j,j < l.toArray.size → listed.getD j false = false → j ∈ U) → U.length ≤ fuel → (∀ j,pres.length ≤ j → listed.getD j false = false) →
      (∀ (i : Nat) o,l.toArray[i]? = some o → listed.getD i false = true → ∀ e,e ∈ o.after → Region.binds .any e = true → listed.getD e.on false = true) →
      uM P n c (eE ds env) (eO (fun j => listed.getD j false) ss bs h) all (fun j => listed.getD j false) ρ S a w → wpAny P .any l.toArray QQ fuel listed a w := by
    intro fuel
    induction fuel with
    | zero =>
      intro listed U ρ S a w hls hU hUl htail hcl st;have hU0 : U = [] := bW (by omega)
      subst hU0;have hall : ∀ j,j < l.toArray.size → listed.getD j false = true := fun j hj => by
        cases hb : listed.getD j false with
        | true => rfl
        | false => exact absurd (hU j hj hb) (by simp)
      have hpm : pres.length = l.toArray.size := by
        rcases hC pres.length l.toArray.size with h5 | h5
        · have := htail pres.length (aY _);rw [hall _ h5] at this;cases this
        · omega
      refine qN (k := pres.length) (r := 0) hok _ _ a w (by omega) (aY _) (aY _) hls (fun j hj => ?_) (h4 c ρ S a w QQ ?_ fun env' h' ρ' S' a' w' k s' => hQ env' h' ρ' S' a' w' k s')
      · rw [hall j hj];simp;omega
      · refine ⟨st.size,st.defers,fun t x hx => ?_,?_,st.cm⟩
        · rcases mX hx with hx | ⟨j,f,h5,h6,h7,rfl⟩
          · exact st.env0 t x hx
          · exact st.done j f t h6 (hall j (by have := (aB.1 h6).1;omega)) h7
        · have := st.hs
          rwa [mE (L := fun j => listed.getD j false) (L' := fun _ => true) all 0 (fun j _ hj => hall j (by omega)),hAT _ (fun j hj => hall j (by omega))] at this
    | succ fuel ih =>
      intro listed U ρ S a w hls hU hUl htail hcl st;by_cases hfl : ∀ j,j < pres.length → listed.getD j false = true
      · -- all of the first ones have come up
        refine qN (k := pres.length) (r := l.toArray.size - pres.length) hok _ _ a w (by omega) (aY _) ?_ hls (fun j hj => ?_) (h4 c ρ S a w QQ ?_ fun env' h' ρ' S' a' w' k s' => hQ env' h' ρ' S' a' w' k s')
        · have hsub : ∀ j,j ∈ List.range' pres.length (l.toArray.size - pres.length) → j ∈ U := fun j hj => by
            rw [zC3] at hj;exact hU j (by omega) (htail j hj.1)
          have := (zC2 (s := pres.length) (n := l.toArray.size - pres.length)).length_le_of_subset hsub;rw [UB] at this;omega
        · by_cases hj' : j < pres.length
          · rw [hfl j hj'];simp [hj']
          · rw [htail j (by omega)];simp;omega
        · refine ⟨st.size,st.defers,fun t x hx => ?_,?_,st.cm⟩
          · rcases mX hx with hx | ⟨j,f,h5,h6,h7,rfl⟩
            · exact st.env0 t x hx
            · exact st.done j f t h6 (hfl j (by have := (aB.1 h6).1;omega)) h7
          · have := st.hs
            rwa [mE (L := fun j => listed.getD j false) (L' := fun _ => true) all 0 (fun j _ hj => hfl j (by omega)),hAT _ hfl] at this
      · obtain ⟨j0,hj0,hjf⟩ : ∃ j,j < pres.length ∧ listed.getD j false = false := by
          apply Classical.byContradiction;intro hc;apply hfl;intro j hj;cases hb : listed.getD j false with
          | true => rfl
          | false => exact absurd ⟨j,hj,hb⟩ hc
        -- something is ready
        have hex : Region.ready .any l.toArray listed ≠ [] := by
          have fX : ∃ j,j < pres.length ∧ listed.getD j false = false ∧ ∀ k,k < j → listed.getD k false = true := by
            have : ∀ b j,j ≤ b → j < pres.length → listed.getD j false = false → ∃ j,j < pres.length ∧ listed.getD j false = false ∧ ∀ k,k < j → listed.getD k false = true := by
              intro b
              induction b with
              | zero => exact fun j hj h5 h6 => ⟨j,h5,h6,fun k hk => by omega⟩
              | succ b ihb =>
                intro j hj h5 h6;by_cases hk : ∃ k,k < j ∧ listed.getD k false = false
                · obtain ⟨k,hk1,hk2⟩ := hk;exact ihb k (by omega) (by omega) hk2
                · refine ⟨j,h5,h6,fun k hk' => ?_⟩
                  cases hb : listed.getD k false with
                  | true => rfl
                  | false => exact absurd ⟨k,hk',hb⟩ hk
            exact this j0 j0 (aY _) hj0 hjf
          obtain ⟨j,h5,h6,h7⟩ := fX;intro he;have hlt : j < l.toArray.size := by omega
          have : j ∈ Region.ready .any l.toArray listed := mem_ready.2 ⟨by
            have e : listed.getD j true = listed.getD j false := by simp only [Array.getD,hls,hlt,dif_pos]
            rw [e,h6],_,cT hlt,fun e he hb => h7 _ (lK hok (cT hlt) e he hb)⟩
          rw [he] at this;cases this
        refine ⟨fun h5 => absurd h5 hex,fun i hi => ?_⟩
        obtain ⟨g1,o,ho,hall⟩ := mem_ready.1 hi;have hil : i < l.toArray.size := (aG.1 ho).1;have g1' : listed.getD i false = false := by
          have e : listed.getD i true = listed.getD i false := by simp only [Array.getD,hls,hil,dif_pos]
          rw [← e];exact g1
        have him : i < pres.length := by
          rcases hC i pres.length with h5 | h5
          · exact h5
          · obtain ⟨e,he,hb,hon⟩ := uD hok ho h5 j0 (by omega)
            have := hall e he hb;rw [hon,hjf] at this;cases this
        have hfi : all[i]? = some all[i] := aA (by omega)
        obtain ⟨pre,hpre⟩ : ∃ pre,pres[i]? = some pre := ⟨_,aA him⟩
        -- its predecessors have come up
        have up : ∀ (b k : Nat) (p : List Nat),k ≤ b → pres[k]? = some p → (k = i ∨ listed.getD k false = true) → ∀ j,j ∈ p → listed.getD j false = true := by
          intro b
          induction b with
          | zero =>
            intro k p hk hp _ j hj;obtain ⟨ok,hok1⟩ : ∃ o,l.toArray[k]? = some o := ⟨_,cT (by have := (aB.1 hp).1;omega)⟩
            have := (pB hok hok1 hp j hj).1;omega
          | succ b ihb =>
            intro k p hk hp hki j hj;obtain ⟨ok,hok1⟩ : ∃ o,l.toArray[k]? = some o := ⟨_,cT (by have := (aB.1 hp).1;omega)⟩
            obtain ⟨_,e,he,hb,hor⟩ := pB hok hok1 hp j hj;have hle : listed.getD e.on false = true := by
              rcases hki with rfl | hki
              · rw [ho] at hok1;cases hok1;exact hall e he hb
              · exact hcl k ok hok1 hki e he hb
            rcases hor with hor | hor
            · rw [← hor];exact hle
            · have hon := lK hok hok1 e he hb;cases hpe : pres[e.on]? with
              | none => rw [aC,hpe] at hor;simp at hor
              | some p' =>
                rw [aC,hpe] at hor;exact ihb e.on p' (by omega) hpe (.inr hle) j hor
        have hprel : ∀ j,j ∈ pre → listed.getD j false = true := up i i pre (aY _) hpre (.inl rfl);have hH0 : (eO (fun j => listed.getD j false) ss bs h).length = h.length := nN _ _ _ _;have hhv : (seeH pres i pre ss bs h).length = h.length := vK _ _ _ _ _;have hbel : ∀ (k : Nat) b,(seeH pres i pre ss bs h)[k]? = some b → b ≠ .gone → (eO (fun j => listed.getD j false) ss bs h)[k]? = some b := by
          refine N8 ss bs h h hbl rfl (fun _ _ hb _ => hb) (fun x _ hp => hprel _ (oE.1 hp)) (fun x hx _ hbf => ?_);cases hlx : listed.getD x.1 false with
          | false => rfl
          | true =>
            rcases iK.1 hbf with h5 | h5
            · rw [aO h5,g1'] at hlx;cases hlx
            · cases hpx : pres[x.1]? with
              | none => rw [aC,hpx] at h5;simp at h5
              | some px =>
                rw [aC,hpx] at h5;have := up x.1 x.1 px (aY _) hpx (.inr hlx) i (oE.1 h5);rw [g1'] at this;cases this
        have hbel2 : ∀ (k : Nat) b,(seeH pres i pre ss bs h ++ kE (fun j => pre.any (Nat.beq j)) 0 (all.take i))[k]? = some b → b ≠ .gone → (eO (fun j => listed.getD j false) ss bs h ++ kE (fun j => listed.getD j false) 0 all)[k]? = some b := fun k b hb hgb => by
          by_cases hk : k < h.length
          · rw [aH (by omega)] at hb ⊢;exact hbel k b hb hgb
          · rw [aE (by omega)] at hb ⊢
            rw [hhv] at hb;rw [hH0];have h5 := I9 (L' := fun j => listed.getD j false) _ _ _ _ (fun j hj => hprel j (oE.1 hj)) hb hgb;have h6 : kE (fun j => listed.getD j false) 0 all = kE (fun j => listed.getD j false) 0 (all.take i) ++ kE (fun j => listed.getD j false) (0 + (all.take i).length) (all.drop i) := by
              rw [← qR,bL]
            rw [h6,aH (aB.1 h5).1];exact h5
        have hpreP : EL ρ S (xX (eE ds env) (all.take i) pre) (seeH pres i pre ss bs h ++ kE (fun j => pre.any (Nat.beq j)) 0 (all.take i)) a w := by
          refine ⟨fun t x hx => ?_,st.hs.rng,fun k b hb => ?_,fun k b p hb hgb hp => (st.hs.live k b p (hbel2 k b hb hgb) hgb hp).2,st.hs.stab,st.hs.glob⟩
          · rcases mX hx with hx | ⟨j,f,h5,h6,h7,rfl⟩
            · exact st.env0 t x hx
            · rw [bZ] at h6;split at h6
              · exact st.done j f t h6 (hprel j h5) h7
              · cases h6
          · by_cases hgb : b = .gone
            · subst hgb;trivial
            · exact st.hs.blk k b (hbel2 k b hb hgb)
        have hposl : (seeH pres i pre ss bs h ++ kE (fun j => pre.any (Nat.beq j)) 0 (all.take i)).length = (eO (fun j => listed.getD j false) ss bs h).length + mZ (all.take i) := by rw [aF,nK,hhv,hH0]
        have hokd : CA all[i].d n = true := by
          cases hdi : all[i].d with
          | none => rfl
          | some d =>
            have : d ∈ ds := by rw [← h2];exact kD.2 ⟨all[i],aI _,hdi⟩
            exact bG.1 hds d this
        -- on,kF it
        have hget : ∀ j,(listed.setIfInBounds i true).getD j false = (listed.getD j false || Nat.beq j i) := fun j => by
          by_cases hij : i = j
          · subst hij;rw [fJ,wN];simp only [Array.getD,U7,hls,hil,dif_pos];simp
          · rw [getD_set_ne false hij,show Nat.beq j i = false from by rw [← eN];intro hb;have := aO hb;omega,kN]
        have onS : ∀ ρ' S' a' w',uM P n c (eE ds env) (eO (fun j => (listed.setIfInBounds i true).getD j false) ss bs h) all (fun j => (listed.setIfInBounds i true).getD j false) ρ' S' a' w' → wpAny P .any l.toArray QQ fuel (listed.setIfInBounds i true) a' w' := fun ρ' S' a' w' st' => by
          have hiU : i ∈ U := hU i hil g1';refine ih (listed.setIfInBounds i true) (U.erase i) ρ' S' _ w' (by simpa using hls) (fun j hj hjl => ?_) (by rw [lJ hiU];omega) (fun j hj => ?_) (fun k ok hok1 hkl e he hb => ?_) st'
          · rw [hget] at hjl;obtain ⟨h5,h6⟩ := nU.1 hjl;have hne : j ≠ i := fun e => by rw [e,fJ] at h6;cases h6
            exact (lS hne).2 (hU j hj h5)
          · rw [hget,htail j hj,show Nat.beq j i = false from by rw [← eN];intro hb;have := aO hb;omega];rfl
          · rw [hget] at hkl ⊢;rcases iK.1 hkl with h5 | h5
            · rw [hcl k ok hok1 h5 e he hb];rfl
            · have := aO h5;subst this;rw [ho] at hok1;cases hok1;rw [hall e he hb];rfl
        have yv : ∀ {g t : Nat} {b : Bool},(l.toArray[g]?).bind (·.dst) = some t → look (xX (eE ds env) (all.take i) pre) t = some (.b b) → yielded l.toArray a.tmps g = some b := fun {g t b} h5 h6 => by
          have h7 := rT (hpreP.env t _ h6);unfold yielded;rw [h5];have : a.tmps[t]? = some (.bool b) := by
            rw [dQ] at h7;cases h8 : a.tmps[t]? with
            | none => rw [h8] at h7;simp [undef] at h7
            | some v => rw [h8] at h7;simp at h7;rw [h7]
          simp [this]
        have yvu : ∀ {g t : Nat},(l.toArray[g]?).bind (·.dst) = some t → look (xX (eE ds env) (all.take i) pre) t = some (.v undef) → yielded l.toArray a.tmps g = none := fun {g t} h5 h6 => by
          have h7 := rT (hpreP.env t _ h6);unfold yielded;rw [h5];rw [dQ] at h7;cases h8 : a.tmps[t]? with
          | none => simp [h8]
          | some v => rw [h8] at h7;simp at h7;simp [h8,h7,undef]
        unfold wpOp;rw [ho];simp only;rcases h3 i all[i] pre hfi hpre with ⟨hns,o',ho',hd',hg⟩ | ⟨m,k,b,o',hm1,hm2,hf0,ho',hgu,hkl,hst⟩
        · rw [ho] at ho';cases ho';have hsame : eO (fun j => (listed.setIfInBounds i true).getD j false) ss bs h = eO (fun j => listed.getD j false) ss bs h := oD ss bs h fun x hx => by
            rw [hget,show Nat.beq x.1 i = false from by rw [← eN];intro hb;exact hns x hx (aO hb),kN]
          have on : ∀ y ρ' S' w',U4 ρ ρ' S S' w w' ((eO (fun j => listed.getD j false) ss bs h).length + mZ (all.take i)) all[i].new.length all[i].x all[i].new y → wpAny P .any l.toArray QQ fuel (listed.setIfInBounds i true) (a.put all[i].d y) w' := fun y ρ' S' w' p => by
            have := st.step (L' := fun j => (listed.setIfInBounds i true).getD j false) hfi g1' hget p hokd (by rw [h2];exact hnd) (fun t x hx => (henv t x hx).2) (by rw [hH0];exact s.hs.mle)
            rw [← hsame] at this;exact onS _ _ _ _ this
          rcases hg with ⟨x,new,hgu,hfs,hx,hn⟩ | ⟨g,want,t,hgu,h5,h6,hx,hn⟩
          · have hw : Region.wanted o (yielded l.toArray a.tmps) = true := by
              rcases hgu with hgu | ⟨g,want,t,hgu,h5,h6⟩
              · exact nI hgu
              · simp [Region.wanted,hgu,yv h5 h6]
            rw [if_pos hw];left;have := hfs ρ S a w hpreP (seeH pres i pre ss bs h ++ kE (fun j => pre.any (Nat.beq j)) 0 (all.take i)).length (fun j hj => by rw [hposl];exact st.undone i _ hfi g1' j hj)
            refine this (wpAny P .any l.toArray QQ fuel (listed.setIfInBounds i true)) QQ fun y ρ' S' w' p => ?_
            rw [hx,hn,hposl] at p;have := on y ρ' S' w' p;rw [← hd'] at this;exact this
          · have hw : Region.wanted o (yielded l.toArray a.tmps) = false := by
              rcases h6 with h6 | h6
              · simp [Region.wanted,hgu,yv h5 h6]
              · simp [Region.wanted,hgu,yvu h5 h6]
            rw [if_neg (by rw [hw];exact tY)]
            have := on undef ρ S w ⟨mK.refl _ _,rfl,fun _ _ => rfl,fun _ h => h,fun _ h => .inl h,fun k p hk1 hk2 => by rw [hn,List.length_nil] at hk2;omega,fun k k' p p' hk1 hk2 => by rw [hn,List.length_nil] at hk2;omega,by rw [hx];exact kM _,fun j b hb => by rw [hn] at hb;simp at hb⟩
            rw [← hd'] at this;exact this
        · rw [ho] at ho';cases ho';have hw : Region.wanted o (yielded l.toArray a.tmps) = true := nI hgu;rw [if_pos hw];left;refine hst c ρ S a w _ st.hs hpreP hbel2 (wpAny P .any l.toArray QQ fuel (listed.setIfInBounds i true)) QQ fun y w' hh l' => ?_
          have hset : (eO (fun j => listed.getD j false) ss bs h ++ kE (fun j => listed.getD j false) 0 all).set k b = eO (fun j => (listed.setIfInBounds i true).getD j false) ss bs h ++ kE (fun j => listed.getD j false) 0 all := by
            rw [LD _ _ (by rw [hH0];exact hkl),H1 (L := fun j => listed.getD j false) (L' := fun j => (listed.setIfInBounds i true).getD j false) ss bs h m hss hm1 hm2 g1' hget (fun x hx hlx j hj => ?_)]
            cases hpx : pres[x.1]? with
            | none => rw [aC,hpx] at hj;simp at hj
            | some px =>
              rw [aC,hpx] at hj;exact up x.1 x.1 px (aY _) hpx (.inr hlx) j hj
          rw [hset] at hh;exact onS _ _ _ _ (st.store (hfi.trans (by rw [hf0])) hget hh (by rw [nN,nN]) l')
  have hsize : l.toArray.size = l.length := by simp
  have hrep : ∀ j,(Array.replicate l.toArray.size false).getD j false = false := fun j => by
    simp only [Array.getD];split <;> simp
  refine key l.toArray.size _ (List.range l.toArray.size) ρ S a _ (by simp) (fun j hj _ => by simpa using hj) (by simp) (fun j _ => hrep j) (fun i o _ hi => by rw [hrep] at hi;cases hi) ?_
  have hseg : ∀ (r : List mU) (i : Nat),kE (fun _ => false) i r = List.replicate (mZ r) .gone := by
    intro r
    induction r with
    | nil => intro i;rfl
    | cons f r ih => intro i;simp only [kE,ih,mZ,xS]
  have hL : (fun j => (Array.replicate l.toArray.size false).getD j false) = fun _ => false := funext hrep
  rw [hL,show eO (fun _ => false) ss bs h = h from ?_]
  rotate_left
  · have : ∀ (ss : List (Nat × Nat)) (bs : List AB) (h : Hp),eO (fun _ => false) ss bs h = h := by
      intro ss
      induction ss with
      | nil => intros;rfl
      | cons x r ihr =>
        intro bs h;cases bs with
        | nil => rfl
        | cons b bs => simp only [eO];exact ihr bs h
    exact this ss bs h
  have l0 : iC ρ ρ S S w { w with drawn := w.drawn + 1 } := ⟨fun _ _ h => h,fun _ h => h,fun _ _ => rfl,fun _ _ _ _ _ h => h⟩
  refine ⟨s.size,s.defers.later l0,s.cm,fun t x hx => (s.env t x (kK hx).1).later l0,fun i f t _ hi => (by cases hi),?_,fun i f _ _ j _ => s.hs.dom _ (by omega)⟩
  rw [hseg];have ext : mK c.M c.w0 { w with drawn := w.drawn + 1 } := s.hs.ext.drew;have at_ : ∀ {k : Nat} {b : AB},(h ++ List.replicate (mZ all) .gone)[k]? = some b → b ≠ .gone → h[k]? = some b := fun {k b} hb hg => by
    by_cases hk : k < h.length
    · rwa [aH hk] at hb
    · rw [aE (by omega),oW] at hb
      split at hb
      · cases hb;exact absurd rfl hg
      · cases hb
  refine ⟨fun k hk => s.hs.dom k (by simp at hk;omega),s.hs.rng,fun k b hb => ?_,fun k b p hb hg hp => s.hs.live k b p (at_ hb hg) hg hp,fun k k' b b' p p' hb hb' hg hg' hp hp' e => s.hs.inj k k' b b' p p' (at_ hb hg) (at_ hb' hg') hg hg' hp hp' e,s.hs.stab,ext,s.hs.st0,s.hs.st1,by simp;exact bA s.hs.mle (iY _ _),s.hs.keep,s.hs.glob.later l0⟩
  by_cases hg : b = .gone
  · subst hg;trivial
  · exact RB.later l0 (fun _ _ _ => rfl) (s.hs.blk k b (at_ hb hg))
def jP (ops : List Oper) (pres : List (List Nat)) (ds : List Nat) (bads : List (List Nat)) (ss : List (Nat × Nat)) (n : Nat) : Bool :=
  kZ ops pres ds bads n && OQ pres ss && ss.all fun x => Nat.blt x.1 pres.length
structure M4 (ops : List Oper) (ss : List (Nat × Nat)) (env : dW) (i : Nat) (cur : dW) (objs : List (Nat × Hp)) (don : List AB) (effs : List mU) : Prop where
  g : H9 ops env i cur objs effs
  later : ∀ x,x ∈ ss.drop don.length → i ≤ x.1
def zV2 (P : Program) (n : Nat × Nat) (ops : List Oper) (pres : List (List Nat)) (ds : List Nat) (bads : List (List Nat)) (ss : List (Nat × Nat)) (env : dW) (h : Hp) (i : Nat) (cur : dW) (objs : List (Nat × Hp)) (don : List AB) (K : dW → Hp → Prop) : Prop :=
  jP ops pres ds bads ss n.1 = true → (∀ t,t ∈ ds → look env t = none) → ∀ effs,M4 ops ss env i cur objs don effs → yA6 P n ops.toArray pres ss ds env h effs don K
section
variable {P : Program} {n : Nat × Nat} {ops : List Oper} {pres : List (List Nat)} {ds : List Nat} {bads : List (List Nat)} {ss : List (Nat × Nat)} {env : dW} {h : Hp} {K : dW → Hp → Prop} {pre bad : List Nat}
theorem ZR {Q : Exit → dW → Hp → Prop} {id : Nat} {l : List Oper} (pres : List (List Nat)) (ds : List Nat) (bads : List (List Nat)) (ss : List (Nat × Nat)) (hm : P.follows .mixedOrders = true) (hok : jP l pres ds bads ss n.1 = true)
    (hv : zV2 P n l pres ds bads ss (eE ds env) h 0 (eE ds env) [] [] (fun v h => Q .normal v h)) (hndf : mO l = true := by rfl) : AW P n (.region id l.toArray true) env h Q := by
  have hok' := hok;simp only [jP,kZ,aM,decide_eq_true_eq] at hok';obtain ⟨⟨⟨⟨⟨⟨⟨h1,h2⟩,h3⟩,h4⟩,h5⟩,h6⟩,h7⟩,h8⟩ := hok';refine ZO pres ds ss hm h1 h7 h8 h2 h3 h4 (hv hok (fun t ht => ?_) [] ⟨⟨rfl,rfl,rfl,fun j f hf => by simp at hf⟩,fun x _ => bU _⟩) hndf
  cases hl : look (eE ds env) t with
  | none => rfl
  | some x => exact absurd ht (kK hl).2
variable {op : Op} {ty : TypeId} {pos : String} {af : Array Edge} {d : Option Nat} {i : Nat} {cur : dW} {objs : List (Nat × Hp)} {don : List AB}
theorem M4.seeH {effs : List mU} (hok : jP ops pres ds bads ss n.1 = true) (hi : i < ops.length) (g : M4 ops ss env i cur objs don effs) (hp : pres[i]? = some pre) (mb : List AB) : seeH pres i pre ss (don ++ mb) h = seeH pres i pre ss don h := by
  refine Y3 ss don mb h fun x hx => ?_
  rw [← eN];intro hb;simp only [jP,kZ,aM] at hok;have h1 := (pB (ops := ops.toArray) (i := i) (o := ops[i]) hok.1.1.1.1.1.1.1 (by simp [hi]) hp x.1 (oE.1 hb)).1
  have := g.later x hx;omega
theorem YY {effs : List mU} {f : mU} (hok : jP ops pres ds bads ss n.1 = true) (g : M4 ops ss env i cur objs don effs) (hp : pres[i]? = some pre) (hi : i < ops.length) (hns : (ss.all fun x => !Nat.beq x.1 i) = true)
    (hg : EO P ops.toArray i (xX env effs pre) (seeH pres i pre ss don h ++ mM pre objs) f) (hk : yA6 P n ops.toArray pres ss ds env h (effs ++ [f]) don K) : yA6 P n ops.toArray pres ss ds env h effs don K := by
  obtain ⟨more,mb,h1,h0,h2,h3,h4⟩ := hk;have e : effs ++ [f] ++ more = effs ++ (f :: more) := by simp
  rw [e] at h1 h2 h3 h4;have hie : effs.length = i := g.g.len;refine ⟨f :: more,mb,h1,h0,h2,fun j q p hj hgj hpj => ?_,h4⟩
  by_cases hji : j = i
  · subst hji;rw [hp] at hpj;cases hpj;rw [aE (by omega),hie,eY] at hgj
    simp at hgj;subst hgj;left;refine ⟨fun x hx hxe => ?_,?_⟩
    · have := bG.1 hns x hx;rw [hxe,fJ] at this;cases this
    · rw [lD,cF (by omega),hie,eY,g.seeH hok hi hp mb]
      simp only [kQ,List.append_nil];rw [mG,← g.g.objs];exact hg
  · exact h3 j q p (by simp;omega) hgj hpj
theorem M4.next {effs : List mU} {f : mU} (g : M4 ops ss env i cur objs don effs) {cur' : dW} {objs' : List (Nat × Hp)} (h : H9 ops env (i + 1) cur' objs' (effs ++ [f])) (hns : (ss.all fun x => !Nat.beq x.1 i) = true) : M4 ops ss env (i + 1) cur' objs' don (effs ++ [f]) := by
  refine ⟨h,fun x hx => ?_⟩
  have h1 := g.later x hx;have h2 := bG.1 hns x (eK hx);have : x.1 ≠ i := fun e => by rw [e,fJ] at h2;cases h2
  omega
theorem GI {k : Nat} (hok : jP ops pres ds bads ss k = true) : kZ ops pres ds bads k = true := by
  simp only [jP,aM] at hok;exact hok.1.1
theorem cK {dd : Nat} {u : AV} (ho : ops[i]? = some ⟨some dd, op, ty, pos, af, none⟩) (hp : pres[i]? = some pre) (hb : bads[i]? = some bad) (hns : (ss.all fun x => !Nat.beq x.1 i) = true) (hs : bX P ⟨some dd, op, ty, pos, af, none⟩ (eE bad cur) (seeH pres i pre ss don h ++ mM pre objs) 0 (fun _ => u) (fun _ => []))
    (hk : zV2 P n ops pres ds bads ss env h (i + 1) ((dd,u) :: cur) objs don K) : zV2 P n ops pres ds bads ss env h i cur objs don K := by
  intro hok hen effs g;refine YY (f := ⟨some dd,u,[]⟩) hok g hp (aB.1 ho).1 hns ⟨_,by simpa using ho,rfl,.inl ⟨fun _ => u,fun _ => [],.inl rfl,hs.more (g.g.see (GI hok) hp hb),rfl,rfl⟩⟩ (hk hok hen _ (g.next (g.g.snoc (f := ⟨some dd,u,[]⟩) ho rfl rfl) hns))
theorem vB {k : Nat} {nb : AB} {t : TypeId} {x y : Operand} {j : TI} {u v : AV} {xs : List AV} (ho : ops[i]? = some ⟨none, .store t x y, ty, pos, af, none⟩) (hp : pres[i]? = some pre) (hb : bads[i]? = some bad) (hm : ss[don.length]? = some (i, k)) (hkl : k < h.length)
    (T : oG P) (hx : evu (eE bad cur) x = some u) (hy : evu (eE bad cur) y = some v) (ht : T.ti t = some j) (hv : v.cellsOf = some xs) (hl : xs.length = j.size) (h1 : xs.all AV.one = true) (h0 : 0 < j.size) (hu : HJ (seeH pres i pre ss don h ++ mM pre objs) u xs = some (k,nb))
    (hk : zV2 P n ops pres ds bads ss env h (i + 1) cur objs (don ++ [nb]) K) : zV2 P n ops pres ds bads ss env h i cur objs don K := by
  intro hok hen effs g;have hs := HV (P := P) (pos := pos) (ty := ty) (af := af) T hx hy ht hv hl h1 h0 hu;have hi := (aB.1 ho).1;have hgs : H9 ops env (i + 1) cur objs (effs ++ [⟨none,.v undef,[]⟩]) := g.g.snoc (f := ⟨none,.v undef,[]⟩) ho rfl rfl;have hkk := hk hok hen (effs ++ [⟨none,.v undef,[]⟩]) ⟨hgs,fun x hx => ?_⟩
  · obtain ⟨more,mb,g1,g0,g2,g3,g4⟩ := hkk;have e : effs ++ [⟨none,.v undef,[]⟩] ++ more = effs ++ ((⟨none,.v undef,[]⟩ : mU) :: more) := by simp
    have e' : don ++ [nb] ++ mb = don ++ (nb :: mb) := by simp
    rw [e] at g1 g2;rw [e'] at g0;simp only [e,e'] at g3 g4;have hie : effs.length = i := g.g.len;refine ⟨_,_,g1,g0,g2,fun j' q p hj hgj hpj => ?_,g4⟩
    by_cases hji : j' = i
    · subst hji;rw [hp] at hpj;cases hpj;rw [aE (by omega),hie,eY] at hgj
      simp at hgj;subst hgj;right;refine ⟨don.length,k,nb,_,hm,?_,rfl,by simpa using ho,rfl,hkl,?_⟩
      · rw [aE (aY _),eY];rfl
      · rw [lD,cF (by omega),hie,eY,g.seeH hok hi hp _]
        simp only [kQ,List.append_nil];rw [mG,← g.g.objs];exact hs.more (g.g.see (GI hok) hp hb)
    · exact g3 j' q p (by simp;omega) hgj hpj
  · have hok' := hok;simp only [jP,aM] at hok';have hls : don.length < ss.length := (aB.1 hm).1;have e1 : ss.drop don.length = (i,k) :: ss.drop (don.length + 1) := by
      rw [aX hls];have := aA hls;rw [hm] at this;rw [Option.some.inj this]
    have hx' : x ∈ ss.drop (don.length + 1) := by simpa using hx
    have h5 := g.later x (by rw [e1];exact aK _ hx')
    have key : ∀ (ss : List (Nat × Nat)) (m : Nat),OQ pres ss = true → ss[m]? = some (i,k) → ∀ x,x ∈ ss.drop (m + 1) → x.1 ≠ i := by
      intro ss
      induction ss with
      | nil => intro m _ h;simp at h
      | cons y r ih =>
        intro m hok h x hx;obtain ⟨s,k'⟩ := y;simp only [OQ,aM,bG] at hok;cases m with
        | zero =>
          simp only [eH,Option.some.injEq,Prod.mk.injEq] at h;intro e;have := (hok.1 x (by simpa using hx)).1
          rw [e,h.1,fJ] at this;cases this
        | succ m => exact ih m hok.2 (by simpa using h) x (by simpa using hx)
    have := key ss don.length hok'.1.2 hm x hx';omega
theorem rB (hi : pres.length = i) (hdl : don.length = ss.length) {rest : List Oper} {h' : Hp} (hr : ops.drop i = rest) (hh : eO (fun _ => true) ss don h ++ lA objs = h')
    (hk : VC P n ops.toArray rest cur h' K) : zV2 P n ops pres ds bads ss env h i cur objs don K := by
  intro hok hen effs gs;have g := gs.g;have hok' := GI hok;simp only [kZ,aM,decide_eq_true_eq] at hok';obtain ⟨⟨⟨⟨⟨h1,h2⟩,h3⟩,h4⟩,h5⟩,h6⟩ := hok';have hds : jG effs = ds := by
    rw [← h5];have hle : i ≤ ops.length := by rw [← hi];exact aN h4
    unfold jG;have : effs.map (·.d) = (ops.take pres.length).map (·.dst) := by
      apply jL;intro j;simp only [bS,bZ,hi];by_cases hj : j < i
      · rw [if_pos hj];have hje : j < effs.length := by rw [g.len];exact hj
        obtain ⟨o,ho,hod⟩ := g.dst j effs[j] (aA hje);rw [aA hje,ho];simp [hod]
      · rw [if_neg hj,cM (by rw [g.len];omega)];rfl
    have e1 : effs.filterMap (·.d) = (effs.map (·.d)).filterMap id := by rw [pQ];rfl
    have e2 : (ops.take pres.length).filterMap (·.dst) = ((ops.take pres.length).map (·.dst)).filterMap id := by rw [pQ];rfl
    rw [e1,e2,this]
  refine ⟨[],[],by rw [List.append_nil,g.len,hi],by rw [List.append_nil];exact hdl,by rw [List.append_nil];exact hds,fun j f pre hj hf _ => ?_,?_⟩
  · have := (aB.1 hf).1;simp at this;omega
  rw [List.append_nil,List.append_nil];have el : effs.length = pres.length := by rw [g.len,hi]
  rw [← el,A7,A9 0 effs.length (by omega),lT,← K7,I8,← V5,el,hi]
  rw [B6 effs 0,← g.objs,← xQ,hh];rw [show ops.toArray.toList.drop i = rest from by simpa using hr]
  refine hk.moreE fun t x hx => ?_
  rw [g.cur] at hx;exact P2 (by have : jG effs = effs.filterMap (·.d) := rfl;rw [← this,hds];exact h2) hx
end
section
variable {P : Program} {env : dW} {h : Hp}
variable {d : Option Nat} {ty : TypeId} {pos : String} {af : Array Edge} {g : Option (Nat × Bool)}
theorem sD {t t2 : TypeId} {x y : Operand} {k k' : IntKind} {a b : Int} (hx : evu env x = some (.v (.int k a))) (hy : evu env y = some (.v (.int k' b))) (h0 : 0 ≤ b) (h1 : b.toNat ≤ k.bits) :
    bX P ⟨d,.binOp .shr t x y t2,ty,pos,af,g⟩ env h 0 (fun _ => .v (.int k (a / 2 ^ b.toNat))) (fun _ => []) := by
  refine iF fun ρ S ac w p => ?_
  have h1' := rT (p.evu hx);have h2 := rT (p.evu hy);refine ⟨.int k (a / 2 ^ b.toNat),?_,kM _⟩;have hg : (eqGuard .shr t x y (.int k a) (.int k' b)).run P w = .ok () w := rfl;have e : a.fdiv (2 ^ b.toNat) = a / 2 ^ b.toNat := Int.fdiv_eq_ediv_of_nonneg _ (by exact Int.le_of_lt (Int.pow_pos (by omega)))
  simp [execOp,h1',h2,hg,binOp,Op.shift,Int.not_lt.2 h0,EM h1,e]
theorem jK {fn : Fn} {l1 l2 : List Operand} {us vs : List AV} (ha : yD env l1 = some us) (hb : yD env l2 = some vs) : bX P ⟨d,.makeFunc fn l1.toArray l2.toArray,ty,pos,af,g⟩ env h 0 (fun _ => .clo fn us vs) (fun _ => []) := by
  refine iF fun ρ S a w p => ⟨.func fn (l1.map a.eval).toArray (l2.map a.eval).toArray,?_,?_⟩
  · simp [execOp,Instr.makeFunc]
  · simp only [R];exact ⟨_,_,rfl,by simpa using uG p ha,by simpa using uG p hb⟩
theorem TB {s t : TypeId} {x : Operand} {ks k kk : IntKind} {n : Int} (hs : P.underlying s = some (.int ks)) (ht : P.underlying t = some (.int k)) (hx : evu env x = some (.v (.int kk n))) (hn : k.wrap n = n) :
    bX P ⟨d,.convert s t x,ty,pos,af,g⟩ env h 0 (fun _ => .v (.int k n)) (fun _ => []) := by
  refine iF fun ρ S a w p => ⟨.int k n,?_,kM _⟩
  have h1 := rT (p.evu hx);simp [execOp,h1,convert,run_underlying hs,run_underlying ht,Conv.intToInt,hn]
theorem SW {n : Nat} {cs : List AV} {off : Nat} {zs : List AV} (hg : SX cs off n = some zs) : zs = (cs.drop off).take n := by
  obtain ⟨h1,h2⟩ := AL hg;apply jL;intro j;rw [bZ];by_cases hj : j < n
  · rw [if_pos hj,eD,h2 j hj]
  · rw [if_neg hj,cM (by omega)]
end
theorem QI {S : Nat → Prop} {w : World} {ρ : Pl} {z : AV} : ∀ {cs : List AV} {ys : List Value} {i : Nat}, RL S w cs ρ ys → (∀ y, ys[i]? = some y → R S w z ρ y) → RL S w (cs.set i z) ρ ys
  | [],ys,i,h,_ => by simpa using h
  | c :: cs,ys,i,h,hz => by
    simp only [RL] at h;obtain ⟨y,ys',rfl,h1,h2⟩ := h;cases i with
    | zero => simp only [List.set_cons_zero,RL];exact ⟨y,ys',rfl,hz y rfl,h2⟩
    | succ i => simp only [List.set_cons_succ,RL];exact ⟨y,ys',rfl,h1,QI h2 (fun y' hy' => hz y' (by simpa using hy'))⟩
theorem HS.alter {c : nT} {ρ : Pl} {S : Nat → Prop} {h : Hp} {w : World} {k : Nat} {b0 b1 : AB} (s : HS c ρ S h w) (hk : h[k]? = some b0) (hb : RB S w ρ (ρ k) b0 → RB S w ρ (ρ k) b1) (hg : b0 ≠ .gone) : HS c ρ S (h.set k b1) w := by
  have hlt := (aB.1 hk).1;have get : ∀ {j : Nat} {b : AB},(h.set k b1)[j]? = some b → (j = k ∧ b = b1) ∨ (j ≠ k ∧ h[j]? = some b) := fun {j b} hj => by
    rw [gX] at hj;split at hj
    · rename_i e;exact .inl ⟨e.symm,by simpa using hj.symm⟩
    · rename_i e;exact .inr ⟨fun e' => e e'.symm,hj⟩
  have old : ∀ {j : Nat} {b : AB},(h.set k b1)[j]? = some b → b ≠ .gone → ∃ b',h[j]? = some b' ∧ b' ≠ .gone := fun {j b} hj hg' => by
    rcases get hj with ⟨rfl,_⟩ | ⟨_,h2⟩
    · exact ⟨b0,hk,hg⟩
    · exact ⟨b,h2,hg'⟩
  refine ⟨fun j hj => s.dom j (by simpa using hj),s.rng,fun j b hj => ?_,fun j b p hj hg' hp => ?_,fun j j' b b' p p' hj hj' hg1 hg2 hp hp' e => ?_,s.stab,s.ext,s.st0,s.st1,by simpa using s.mle,s.keep,s.glob⟩
  · rcases get hj with ⟨rfl,rfl⟩ | ⟨_,h2⟩
    · exact hb (s.blk _ _ hk)
    · exact s.blk j b h2
  · obtain ⟨b',h2,h3⟩ := old hj hg';exact s.live j b' p h2 h3 hp
  · obtain ⟨b1',h2,h3⟩ := old hj hg1;obtain ⟨b2',h4,h5⟩ := old hj' hg2;exact s.inj j j' b1' b2' p p' h2 h4 h3 h5 hp hp' e
section
variable {P : Program} {n : Nat × Nat} {ops : Array Oper} {env : dW} {h : Hp} {K : dW → Hp → Prop} {rest : List Oper} {Q : Exit → dW → Hp → Prop} {code : Code}
theorem uK (k j sz : Nat) {cs : List AV} (hk : h[k]? = some (.cells cs)) (hj : cs[j]? = some .nils) (hs : 0 < sz) (hv : AW P n code env (h.set k (.cells (cs.set j (.sl h.length 0 0 sz))) ++ [.arr [] sz]) Q) : AW P n code env h Q := by
  intro c ρ S a w QQ s hQ;refine hv c ρ S a w QQ ⟨s.size,s.defers,s.env,?_,s.cm⟩ hQ
  have h1 := s.hs.alter (b1 := .cells (cs.set j (.sl h.length 0 0 sz))) hk (fun hb => by
    simp only [RB] at hb ⊢;obtain ⟨b,o,ys,h2,h3,h4⟩ := hb;refine ⟨b,o,ys,h2,h3,QI h4 fun y hy => ?_⟩
    obtain ⟨y',h5,h6⟩ := qY h4 _ _ hj;rw [hy] at h5;cases h5;rw [rT h6];simp only [R]
    exact ⟨none,0,rfl,bU _,.inl ⟨trivial,rfl⟩⟩) (by simp)
  have hd := h1.dom h.length (by simp)
  generalize hh : h.set k (.cells (cs.set j (.sl h.length 0 0 sz))) = h' at h1 ⊢;have hl : h.length = h'.length := by rw [← hh];simp
  rw [hl] at hd;have get : ∀ {j : Nat} {b : AB},(h' ++ [.arr [] sz])[j]? = some b → h'[j]? = some b ∨ (j = h'.length ∧ b = .arr [] sz) := fun {j b} hj => by
    by_cases hlt : j < h'.length
    · rw [aH hlt] at hj;exact .inl hj
    · have := (aB.1 hj).1;simp at this;have e : j = h'.length := by omega
      subst e;simp at hj;exact .inr ⟨rfl,hj.symm⟩
  refine ⟨fun k hk => h1.dom k (by simp at hk;omega),h1.rng,fun k b hb => ?_,fun k b p hb hg hp => ?_,fun k k' b b' p p' hb hb' hg hg' hp hp' e => ?_,h1.stab,h1.ext,h1.st0,h1.st1,by simp;exact Nat.le_succ_of_le h1.mle,h1.keep,h1.glob⟩
  · rcases get hb with hb | ⟨rfl,rfl⟩
    · exact h1.blk k b hb
    · simp only [RB];exact ⟨(fun e he => by cases he),hs,.inl ⟨trivial,fun b o e => by rw [hd] at e;cases e⟩⟩
  · rcases get hb with hb | ⟨rfl,rfl⟩
    · exact h1.live k b p hb hg hp
    · rw [hd] at hp;cases hp
  · rcases get hb with hb | ⟨rfl,rfl⟩
    · rcases get hb' with hb' | ⟨rfl,rfl⟩
      · exact h1.inj k k' b b' p p' hb hb' hg hg' hp hp' e
      · rw [hd] at hp';cases hp'
    · rw [hd] at hp;cases hp
end
section
variable {P : Program} {n : Nat × Nat} {env : dW} {h : Hp}
theorem bN {Q : Exit → dW → Hp → Prop} {id : Nat} {l : List Oper} (k : Nat) (pres : List (List Nat)) (ds : List Nat) (bads : List (List Nat)) (hm : P.follows .mixedOrders = true) (hn : n.1 = k) (hok : kZ l pres ds bads k = true)
    (hv : DW P n l pres ds bads (eE ds env) h 0 (eE ds env) [] (fun v h => Q .normal v h)) (hndf : mO l = true := by rfl) : AW P n (.region id l.toArray true) env h Q := KP pres ds bads hm (by rw [hn];exact hok) hv hndf
theorem nD {Q : Exit → dW → Hp → Prop} {id : Nat} {l : List Oper} (k : Nat) (pres : List (List Nat)) (ds : List Nat) (bads : List (List Nat)) (ss : List (Nat × Nat)) (hm : P.follows .mixedOrders = true) (hn : n.1 = k) (hok : jP l pres ds bads ss k = true)
    (hv : zV2 P n l pres ds bads ss (eE ds env) h 0 (eE ds env) [] [] (fun v h => Q .normal v h)) (hndf : mO l = true := by rfl) : AW P n (.region id l.toArray true) env h Q := ZR pres ds bads ss hm (by rw [hn];exact hok) hv hndf
end
theorem NL {P : Program} {f : FuncId} {args : List AV} {sz : Nat} (h : aR P f args [] .nils []) : aR P f args [] (.rowE [] sz) [] := by
  refine ⟨h.1,fun ρ S w vs hs ha => (h.2 ρ S w vs hs ha).mono ?_⟩;rintro e w' ⟨y,ρ',S',rfl,h2,h3⟩;refine ⟨y,ρ',S',rfl,h2,?_⟩;rw [rT h3];simp only [R];exact ⟨none,0,rfl,aY _,fun _ => rfl,by simp [maxLen],by simp,.inl rfl⟩
theorem BQ {S : Nat → Prop} {w : World} {ρ : Pl} {y : Value} {sz : Nat} (h : R S w .nils ρ y) : R S w (.rowE [] sz) ρ y := by
  rw [rT h];simp only [R];exact ⟨none,0,rfl,aY _,fun _ => rfl,by simp [maxLen],by simp,.inl rfl⟩
theorem TZ {P : Program} {f : FuncId} {args args' : List AV} {res : AV} {hin hout : Hp} (h : aR P f args hin res hout) (ha : ∀ (S : Nat → Prop) w ρ ys,RL S w args' ρ ys → RL S w args ρ ys) : aR P f args' hin res hout :=
  ⟨h.1,fun ρ S w vs hs hv => h.2 ρ S w vs hs (ha S w ρ vs hv)⟩
theorem mS {S : Nat → Prop} {w : World} {ρ : Pl} {x x' : AV} {xs xs' : List AV} {ys : List Value} (h1 : ∀ y,R S w x' ρ y → R S w x ρ y) (h2 : ∀ ys,RL S w xs' ρ ys → RL S w xs ρ ys) (h : RL S w (x' :: xs') ρ ys) : RL S w (x :: xs) ρ ys := by
  simp only [RL] at h ⊢;obtain ⟨y,r,rfl,h3,h4⟩ := h;exact ⟨y,r,rfl,h1 y h3,h2 r h4⟩
end Go.Ab
namespace Go.Ab
open Go Go.MapKept
section
variable {P : Program} {env : dW} {h : Hp}
variable {d : Option Nat} {ty : TypeId} {pos : String} {af : Array Edge} {g : Option (Nat × Bool)}
def yA5 (x : AV) (v : Value) : Prop := ∀ (S : Nat → Prop) (w : World) (ρ : Pl) (y : Value),R S w x ρ y → y = v
theorem yA5.v (v : Value) : yA5 (.v v) v := fun _ _ _ _ h => rT h
theorem QG {S : Nat → Prop} {w : World} {ρ : Pl} : ∀ {vs ys : List Value}, RL S w (vs.map .v) ρ ys → ys = vs
  | [],_,h => by simpa [RL] using h
  | v :: vs,_,h => by
    simp only [List.map_cons,RL] at h;obtain ⟨y,zs,rfl,h1,h2⟩ := h;rw [rT h1,QG h2]
theorem yA5.agg (vs : List Value) : yA5 (.agg (vs.map .v)) (.agg vs.toArray) := fun _ _ _ _ h => by
  simp only [R] at h;obtain ⟨ys,rfl,h1⟩ := h;have := QG h1;rw [← this]
theorem A5.push {l : Array MapEntry} {ck : Nat} (h : A5 l ck) {kv v : Value} : A5 (l.push { key := kv,val := v,born := ck }) (ck + 1) := by
  refine ⟨?_,fun e he => ?_⟩
  · rw [Array.toList_push,dB,cO];refine ⟨h.1,by simp,fun x hx y hy e => ?_⟩
    obtain ⟨q,hq,rfl⟩ := bE.1 hx;simp at hy;have := h.2 q hq;omega
  · rw [Array.toList_push,bI] at he;rcases he with he | he
    · exact Nat.lt_succ_of_lt (h.2 e he)
    · simp at he;subst he;exact Nat.lt_succ_self _
structure EN (P : Program) (kt : TypeId) (good : Value → Prop) : Prop where
  check : ∀ (w : World) (em : Bool) {v : Value},good v → (Instr.checkKey em 10000 kt v).run P w = .ok () w
  find : ∀ (w : World) {x : Value},good x → ∀ es : List MapEntry,(∀ e,e ∈ es → good e.key) → ((Instr.findKey kt x es).run P w = .ok none w ∧ ∀ e,e ∈ es → e.key ≠ x) ∨ ∃ j e,(Instr.findKey kt x es).run P w = .ok (some (j,e.val)) w ∧ es[j]? = some e ∧ e.key = x
  stays : ∀ (w : World) {v : Value},good v → (Instr.keyThatStays v v).run P w = .ok v w
theorem VV {dk : TypeDesc} {kv : Value} (hk : IsKey dk kv) : ∀ n,Instr.sameBits n kv kv = true := by
  intro n;cases dk <;> cases kv <;> simp only [IsKey] at hk <;> cases n <;> simp [Instr.sameBits,bytes_beq]
theorem EN.plain {kt : TypeId} {dk : TypeDesc} (hd : P.underlying kt = some dk) : EN P kt (IsKey dk) := by
  refine ⟨fun w em v hv => MapKept.run_checkKey hd hv em 9999,fun w x hx es hall => ?_,fun w v hv => by simp [Instr.keyThatStays,VV hv]⟩
  rcases findNow_spec hx es 0 hall with ⟨h1,h2⟩ | ⟨j,e,h1,h2,h3⟩
  · exact .inl ⟨MapKept.run_findKey hd h1,h2⟩
  · exact .inr ⟨j,e,by have := MapKept.run_findKey (w := w) hd h1;rwa [Nat.zero_add] at this,h2,h3⟩
theorem iR {kt : TypeId} {good : Value → Prop} {kv : Value} {l : Array MapEntry} {ks : List Value} {i : Nat} (ko : EN P kt good) (w : World) (hl : l.toList.map (·.key) = ks) (hkeys : ∀ q,q ∈ ks → good q) (hkey : good kv) (hnd : ks.Nodup) (hi : ks[i]? = some kv) : ∃ e,(Instr.findKey kt kv l.toList).run P w = .ok (some (i,e.val)) w ∧ l.toList[i]? = some e ∧ e.key = kv := by
  rcases ko.find w hkey l.toList (fun x hx => hkeys _ (by rw [← hl];exact bE.2 ⟨x,hx,rfl⟩)) with ⟨_,h2⟩ | ⟨j,e,h1,h2,h3⟩
  · have hm := aQ hi;rw [← hl] at hm;obtain ⟨x,hx,hxe⟩ := bE.1 hm;exact absurd hxe (h2 x hx)
  · have hj : ks[j]? = some kv := by rw [← hl,bS,h2];simp [h3]
    have : j = i := (List.getElem?_inj (aB.1 hj).1 hnd).1 (hj.trans hi.symm);subst this;exact ⟨e,h1,h2,h3⟩
section
variable {t kt et : TypeId} {good : Value → Prop} {x y : Operand} {k i : Nat} {kv : Value} {ks : List Value} {vs : List AV} {v : AV}
section
variable {n : Nat × Nat} {ops : Array Oper} {rest : List Oper} {K : dW → Hp → Prop} {z : Operand}
end
end
end
end Go.Ab
namespace Go.Ab
open Go
section
variable {P : Program} {env : dW} {h : Hp}
variable {d : Option Nat} {ty : TypeId} {pos : String} {af : Array Edge} {g : Option (Nat × Bool)}
theorem WT (T : oG P) {S : Nat → Prop} {w : World} {ρ : Pl} {e off : Nat} {i : TI} {cs : List AV} {ys : Array Value} {z : AV} (h5 : RL S w cs ρ ys.toList) (he : T.ti e = some i) (hz : nF i cs off = some z) : ∃ v,(part e ys off).run P w = .ok v w ∧ R S w z ρ v := by
  unfold nF at hz;split at hz
  · rename_i hagg;split at hz
    · rename_i zs hg;simp only [Option.some.injEq] at hz;subst hz;refine ⟨.agg (ys.extract off (off + i.size)),by simp [part,T.agg he,hagg,T.sizeOf he],?_⟩
      rw [SW hg];simp only [R];refine ⟨_,rfl,?_⟩;have := qF (uN h5 off) i.size;simpa [Array.toList_extract,List.extract_eq_take_drop] using this
    · cases hz
  · rename_i hagg;obtain ⟨v,h7,h8⟩ := qY h5 _ _ hz;have h9 : ys[off]? = some v := by simpa using h7
    exact ⟨v,by simp [part,T.agg he,hagg,h9],h8⟩
def GB (P : Program) (t : TypeId) (f : Nat) : Option (Nat × Nat) := match P.underlying t with
  | some (.struct fs) => (fs[f]?).map fun fd => (fd.type,fd.offset)
  | _ => none
theorem DY (T : oG P) {t f e o : Nat} {i : TI} {x : Operand} {cs : List AV} {z : AV} (hx : evu env x = some (.agg cs)) (hf : GB P t f = some (e,o)) (he : T.ti e = some i) (hz : nF i cs o = some z) :
    bX P ⟨d,.field t x f,ty,pos,af,g⟩ env h 0 (fun _ => z) (fun _ => []) := by
  refine iF fun ρ S a w p => ?_
  have h3 := p.evu hx;simp only [R] at h3;obtain ⟨ys,h4,h5⟩ := h3;obtain ⟨v,h6,h7⟩ := WT T h5 he hz;unfold GB at hf;split at hf
  · rename_i fs hu;cases hfd : fs[f]? with
    | none => rw [hfd] at hf;cases hf
    | some fd =>
      rw [hfd] at hf;simp only [D9,Option.some.injEq,Prod.mk.injEq] at hf;obtain ⟨rfl,rfl⟩ := hf;exact ⟨v,by simp [execOp,h4,Instr.field,run_underlying hu,hfd,asAgg,h6],h7⟩
  · cases hf
theorem zP (T : oG P) {t e sz k : Nat} {es : List (List AV)} {i : TI} {x : Operand} {hi : Option Operand} (hx : evu env x = some (.rowE es sz)) (ht : T.elem t = some e) (he : T.ti e = some i) (hs : i.size = sz) (hhi : PT env hi es.length = some (k : Int)) (h2 : k ≤ es.length) (hl : ∀ e,e ∈ es → e.length = sz) :
    bX P ⟨d,.slice t x none hi none,ty,pos,af,g⟩ env h 0 (fun _ => .rowE (es.take k) sz) (fun _ => []) := by
  have := FW (env := env) (h := h) (d := d) (ty := ty) (pos := pos) (af := af) (g := g) (lo := none) (l := 0) T hx ht he hs rfl hhi (by omega) (by omega) (by omega) hl
  simpa using this
end
def H3 (i : Nat) : Nat → List Oper → List Oper
  | _,[] => []
  | 0,o :: r => { o with after := o.after.push ⟨i,.phase⟩ } :: r
  | j + 1,o :: r => o :: H3 i j r
theorem A4 (i : Nat) : ∀ (j : Nat) (l : List Oper), (H3 i j l).length = l.length
  | _,[] => by cases ‹Nat› <;> rfl
  | 0,_ :: _ => rfl
  | j + 1,_ :: r => by simp [H3,A4 i j r]
theorem BM (i : Nat) : ∀ (j k : Nat) (l : List Oper), (H3 i j l)[k]? = if k = j then (l[k]?).map (fun o => { o with after := o.after.push ⟨i, .phase⟩ }) else l[k]?
  | j,k,[] => by cases j <;> simp [H3]
  | 0,k,o :: r => by cases k <;> simp [H3]
  | j + 1,k,o :: r => by
    cases k with
    | zero => simp [H3]
    | succ k => simp only [H3,kH,BM i j k r,Nat.add_right_cancel_iff]
section
variable {P : Program} {ops ops' : Array Oper} {i j : Nat} {oi oj : Oper} {Q : Exit → Act → World → Prop}
theorem I0 (hd : ∀ k : Nat,(ops'[k]?).bind (·.dst) = (ops[k]?).bind (·.dst)) (tmps : Array Value) : yielded ops' tmps = yielded ops tmps := by
  funext g;simp only [yielded,hd]
theorem CK (ho : ∀ k,k ≠ j → ops'[k]? = ops[k]?) (hj : ops[j]? = some oj) (hj' : ops'[j]? = some { oj with after := oj.after.push ⟨i,.phase⟩ }) (k : Nat) (K : Act → World → Prop) (a : Act) (w : World) : wpOp P ops' Q k K a w = wpOp P ops Q k K a w := by
  have hd : ∀ k : Nat,(ops'[k]?).bind (·.dst) = (ops[k]?).bind (·.dst) := fun k => by
    by_cases h : k = j
    · subst h;rw [hj,hj'];rfl
    · rw [ho k h]
  unfold wpOp;by_cases h : k = j
  · subst h;rw [hj,hj'];simp only [I0 hd];cases oj;rfl
  · rw [ho k h];simp only [I0 hd]
def O7 (o : Oper) : Bool := match o.op, o.guard with
  | .extract ..,none => true
  | _,_ => false
theorem AU (hi : ops[i]? = some oi) (hx : O7 oi = true) (hq : ¬ LetsOut Q) {K : Act → World → Prop} {a : Act} {w : World} (h : wpOp P ops Q i K a w) : ∃ v,Yields P ops oi v a ∧ K (a.put oi.dst v) w := by
  obtain ⟨dst,op,ty,pos,af,g⟩ := oi;unfold O7 at hx;split at hx
  · rename_i x n h1 h2;simp only at h1 h2;subst h1 h2;unfold wpOp at h;rw [hi] at h;have hw : Region.wanted (⟨dst,.extract x n,ty,pos,af,none⟩ : Oper) (yielded ops a.tmps) = true := nI rfl;simp only [hw,if_true] at h;rcases h with h | h
    · unfold Oper.wp at h;have key : (∃ v,∀ w,(execOp a.eval ⟨dst,.extract x n,ty,pos,af,none⟩).run P w = .ok (.value v) w) ∨ ∀ K',¬ Oper.upon P (⟨dst,.extract x n,ty,pos,af,none⟩ : Oper) a K' Q ((execOp a.eval ⟨dst,.extract x n,ty,pos,af,none⟩).run P w) := by
        simp only [execOp,Instr.extract];split
        · split
          · rename_i v _;exact .inl ⟨v,fun w => by simp⟩
          · exact .inr fun K' hk => by simp [stuck,Oper.upon] at hk
        · exact .inr fun K' hk => by simp [stuck,Oper.upon] at hk
      rcases key with ⟨v,hv⟩ | hv
      · rw [hv w] at h;exact ⟨v,.inl ⟨hw,hv⟩,h⟩
      · exact absurd h (hv K)
    · exact absurd h.2 hq
  · cases hx
def zL7 (ops : Array Oper) (i j : Nat) : Bool :=
  match ops[i]?,ops[j]? with
  | some oi, some oj => O7 oi && Region.noSelect ops && !Nat.beq i j &&
    (oi.after.all fun e => !Region.binds .any e || (oj.after.any fun e' => Region.binds .any e' && Nat.beq e'.on e.on)) &&
    ((List.range ops.size).all fun k => Nat.beq k i || (oi.after.any fun e => Region.binds .any e && Nat.beq e.on k) || match ops[k]? with
      | some ok => (ok.after.any fun e => Region.binds .any e && Nat.beq e.on i) || oi.apart ops ok
      | none => true)
  | _,_ => false
theorem LM (hsz : ops'.size = ops.size) (ho : ∀ k,k ≠ j → ops'[k]? = ops[k]?) (hi : ops[i]? = some oi) (hj : ops[j]? = some oj) (hj' : ops'[j]? = some { oj with after := oj.after.push ⟨i,.phase⟩ }) (hc : zL7 ops i j = true) (hq : ∀ e a w,Q e a w → e = .normal) :
    ∀ (fuel : Nat) (listed : Array Bool) (a : Act) (w : World),listed.size = ops.size → wpAny P .any ops' Q fuel listed a w → wpAny P .any ops Q fuel listed a w := by
  unfold zL7 at hc;rw [hi,hj] at hc;simp only [aM,bG,eF] at hc;obtain ⟨⟨⟨⟨hx,hns⟩,hij⟩,hcov⟩,hfree⟩ := hc;have hij : i ≠ j := fun e => by rw [e] at hij;simp at hij
  have hlo : ¬ LetsOut Q := fun ⟨a,w,h⟩ => by have := hq _ _ _ h;cases this
  have hi' : ops'[i]? = some oi := by rw [ho i hij];exact hi
  have hilt : i < ops.size := (aG.1 hi).1;have d2 : ∀ (listed : Array Bool) (k : Nat),listed.size = ops.size → k < ops.size → listed.getD k true = listed.getD k false := fun listed k hl hk => by
    simp [Array.getD,hl,hk]
  -- what is ready there is ready here;what is ready here is ready there,or waits for i,which is ready
  have r1 : ∀ (listed : Array Bool) (k : Nat),k ≠ j → (k ∈ Region.ready .any ops listed ↔ k ∈ Region.ready .any ops' listed) := fun listed k hk => by
    rw [mem_ready,mem_ready,ho k hk]
  have r2 : ∀ (listed : Array Bool),listed.size = ops.size → j ∈ Region.ready .any ops listed → j ∈ Region.ready .any ops' listed ∨ i ∈ Region.ready .any ops listed := fun listed hl hjr => by
    obtain ⟨h1,o,h2,h3⟩ := mem_ready.1 hjr;rw [hj] at h2;cases h2;cases hli : listed.getD i false with
    | true =>
      refine .inl (mem_ready.2 ⟨h1,_,hj',fun e he hb => ?_⟩);simp only [Array.mem_push] at he;rcases he with he | rfl
      · exact h3 e he hb
      · exact hli
    | false =>
      refine .inr (mem_ready.2 ⟨by rw [d2 listed i hl hilt];exact hli,oi,hi,fun e he hb => ?_⟩)
      rw [Array.all_eq_true_iff_forall_mem] at hcov;have := hcov e he;simp only [hb,Bool.not_true,yD1] at this;obtain ⟨e',he',hb'⟩ := UF.1 this;simp only [aM] at hb';rw [← aO hb'.2];exact h3 e' he' hb'.1
  have r3 : ∀ (listed : Array Bool),j ∈ Region.ready .any ops' listed → j ∈ Region.ready .any ops listed := fun listed hjr => by
    obtain ⟨h1,o,h2,h3⟩ := mem_ready.1 hjr;rw [hj'] at h2;cases h2;exact mem_ready.2 ⟨h1,_,hj,fun e he hb => h3 e (by simp [he]) hb⟩
  have emp : ∀ (listed : Array Bool),listed.size = ops.size → (Region.ready .any ops listed = [] ↔ Region.ready .any ops' listed = []) := fun listed hl => by
    rw [lE,lE];constructor
    · intro h k hk;by_cases hkj : k = j
      · subst hkj;exact h k (r3 listed hk)
      · exact h k ((r1 listed k hkj).2 hk)
    · intro h k hk;by_cases hkj : k = j
      · subst hkj;rcases r2 listed hl hk with h1 | h1
        · exact h _ h1
        · exact h _ ((r1 listed i hij).1 h1)
      · exact h k ((r1 listed k hkj).1 hk)
  intro fuel
  induction fuel with
  | zero =>
    intro listed a w hl H;exact ⟨(emp listed hl).2 H.1,H.2⟩
  | succ fuel ih =>
    intro listed a w hl H;by_cases hri : i ∈ Region.ready .any ops listed
    · have h1 := H.2 i ((r1 listed i hij).1 hri);rw [CK ho hj hj'] at h1;obtain ⟨v,h2,h3⟩ := AU hi hx hlo h1;have h4 := ih _ _ _ (by simpa using hl) h3
      obtain ⟨g1,o,g2,g3⟩ := mem_ready.1 hri;rw [hi] at g2;cases g2;refine wpAny_first hi (Region.noSelect_spec hns) (fun c a w hp => by have := hq _ _ _ hp;cases this) fuel listed a w (fun k ok hk hki hun hno => ?_) hri h2 h4
      have h5 := hfree k (aG.1 hk).1;simp only [hk,E1] at h5;rcases h5 with (h5 | h5) | h5 | h5
      · exact absurd (aO h5) hki
      · obtain ⟨e,he,hb⟩ := UF.1 h5;simp only [aM] at hb;have h6 := g3 e he hb.1;rw [aO hb.2] at h6;rw [d2 listed k hl (aG.1 hk).1,h6] at hun;cases hun
      · obtain ⟨e,he,hb⟩ := UF.1 h5;simp only [aM] at hb;exact absurd (aO hb.2) (hno e he hb.1)
      · exact h5
    · refine ⟨fun h => H.1 ((emp listed hl).1 h),fun k hk => ?_⟩
      have hk' : k ∈ Region.ready .any ops' listed := by
        by_cases hkj : k = j
        · subst hkj;exact (r2 listed hl hk).resolve_right hri
        · exact (r1 listed k hkj).1 hk
      have h1 := H.2 k hk';rw [CK ho hj hj'] at h1;exact wpOp_mono (fun a' w' h2 => ih _ a' w' (by simpa using hl) h2) h1
end
section
variable {P : Program} {n : Nat × Nat} {env : dW} {h : Hp}
theorem L3 {Q : Exit → dW → Hp → Prop} {id : Nat} {l l' : List Oper} (i j k : Nat) (hl : H3 i j l = l') (hc : zL7 l.toArray i j = true) (pres : List (List Nat)) (ds : List Nat) (bads : List (List Nat)) (hm : P.follows .mixedOrders = true) (hn : n.1 = k) (hok : kZ l' pres ds bads k = true)
    (hv : DW P n l' pres ds bads (eE ds env) h 0 (eE ds env) [] (fun v h => Q .normal v h)) (hndf : mO l = true := by rfl) : AW P n (.region id l.toArray true) env h Q := by
  intro c ρ S a w QQ s hQ;subst hl;have hc' := hc;unfold zL7 at hc';cases hi : l.toArray[i]? with
  | none => rw [hi] at hc';cases hc'
  | some oi =>
    cases hj : l.toArray[j]? with
    | none => rw [hi,hj] at hc';cases hc'
    | some oj =>
      have h1 := D4 pres ds bads (by rw [hn];exact hok) hv c ρ S a w (fun e a w => e = .normal ∧ QQ .normal a w) s fun env' h' ρ' S' a' w' k s' => ⟨rfl,hQ .normal env' h' ρ' S' a' w' k s'⟩
      have hj2 : l[j]? = some oj := by simpa using hj
      have hsz : (H3 i j l).toArray.size = l.toArray.size := by simp [A4]
      have h2 := LM (P := P) (ops := l.toArray) (ops' := (H3 i j l).toArray) (j := j) hsz (fun k hk => by simp [BM,hk]) hi hj (by simp [BM,hj2]) hc (fun e a w h => h.1) _ _ _ _ (by simp [A4]) h1
      rw [hsz] at h2;exact oQ hm hndf h2
end
def zB6 (P : Program) (o : Oper) (env : dW) (h : Hp) (u : AV) : Prop :=
  ∀ ρ S a w,EL ρ S env h a w → ∃ y,(∀ w',(execOp a.eval o).run P w' = .ok (.value y) w') ∧ R S w u ρ y
section
variable {P : Program} {env : dW} {h : Hp}
variable {d : Option Nat} {ty : TypeId} {pos : String} {af : Array Edge} {g : Option (Nat × Bool)}
theorem uC {x : Operand} {u : AV} (hx : evu env x = some u) : zB6 P ⟨d,.move x,ty,pos,af,g⟩ env h u := fun ρ S a w p => ⟨a.eval x,fun w' => by simp [execOp],p.evu hx⟩
end
def T7 (P : Program) (n : Nat × Nat) (ops : Array Oper) (listed : Array Bool) (r : Nat) (env : dW) (h : Hp) (K : dW → Hp → Prop) : Prop :=
  ∀ c ρ S a w QQ,pN n c ρ S env h a w → (∀ e a w,QQ e a w → e = Exit.normal) → (∀ env' h' ρ' S' a' w',K env' h' → pN n c ρ' S' env' h' a' w' → QQ Exit.normal a' w') → wpAny P .any ops QQ r listed a w
section
variable {P : Program} {n : Nat × Nat} {ops : Array Oper} {env : dW} {h : Hp} {K : dW → Hp → Prop} {listed : Array Bool} {r : Nat}
theorem yE {i dd : Nat} {op : Op} {ty : TypeId} {pos : String} {af : Array Edge} {u : AV} (i' : Nat) (hi' : i' = i) (ho : ops[i]? = some ⟨some dd, op, ty, pos, af, none⟩) (hs : Region.noSelect ops = true) (hf : Region.free .any ops listed i = true) (hr : (Region.ready .any ops listed).contains i = true) (hp : zB6 P ⟨some dd, op, ty, pos, af, none⟩ env h u) (hd : Nat.blt dd n.1 = true)
    (hk : T7 P n ops (listed.setIfInBounds i true) r ((dd,u) :: env) h K) : T7 P n ops listed (r + 1) env h K := by
  intro c ρ S a w QQ s hq hQ;obtain ⟨y,h1,h2⟩ := hp ρ S a w s.pre;refine wpAny_take ho hs hf hr (fun c a w hp => by have := hq _ _ _ hp;cases this) (.inl ⟨nI rfl,h1⟩) ?_
  exact hk c ρ S (a.put (some dd) y) w QQ ⟨by rw [mY];exact s.size,by rw [kL];exact s.defers,xL (d := some dd) s.size hd s.env h2,s.hs,s.cm⟩ hq hQ
theorem pN.drew {c : nT} {ρ : Pl} {S : Nat → Prop} {a : Act} {w : World} (s : pN n c ρ S env h a w) : pN n c ρ S env h a { w with drawn := w.drawn + 1 } := by
  have l0 : iC ρ ρ S S w { w with drawn := w.drawn + 1 } := ⟨fun _ _ h => h,fun _ h => h,fun _ _ => rfl,fun _ _ _ _ _ h => h⟩
  refine ⟨s.size,s.defers.later l0,fun t x hx => (s.env t x hx).later l0,?_,s.cm⟩;exact ⟨s.hs.dom,s.hs.rng,fun k b hb => RB.later l0 (fun _ _ _ => rfl) (s.hs.blk k b hb),s.hs.live,s.hs.inj,s.hs.stab,s.hs.ext.drew,s.hs.st0,s.hs.st1,s.hs.mle,s.hs.keep,s.hs.glob.later l0⟩
theorem KQ {Q : Exit → dW → Hp → Prop} {id : Nat} {l : List Oper} (hm : P.follows .mixedOrders = true) (hv : T7 P n l.toArray (Array.replicate l.length false) l.length env h (fun v h => Q .normal v h)) (hndf : mO l = true := by rfl) : AW P n (.region id l.toArray true) env h Q := by
  intro c ρ S a w QQ s hQ;have h1 := hv c ρ S a { w with drawn := w.drawn + 1 } (fun e a w => e = .normal ∧ QQ .normal a w) s.drew (fun e a w h => h.1) fun env' h' ρ' S' a' w' k s' => ⟨rfl,hQ .normal env' h' ρ' S' a' w' k s'⟩
  exact oQ hm hndf (by simpa using h1)
end
theorem fE {P : Program} {n : Nat × Nat} {code : Code} {env : dW} {h : Hp} {Q : Exit → dW → Hp → Prop} (env' : dW) (h' : Hp) (hs : BW n.2 env h env' h') (hv : AW P n code env' h' Q) : AW P n code env h Q := NE hs hv
structure yD0 (T : Prop) : Prop where
  get : T
theorem cutT {G T : Prop} (h : yD0 T → G) (ht : T) : G := h ⟨ht⟩
section
variable {P : Program} {env : dW} {h : Hp} {d : Option Nat} {ty : TypeId} {pos : String} {af : Array Edge} {g : Option (Nat × Bool)}
theorem lO {t t2 : TypeId} {x y : Operand} {a b : Int} (hx : evu env x = some (.i a)) (hy : evu env y = some (.i b)) (e : a = b) : bX P ⟨d,.binOp .eql t x y t2,ty,pos,af,g⟩ env h 0 (fun _ => .b true) (fun _ => []) := by
  have := dR (P := P) (d := d) (ty := ty) (pos := pos) (af := af) (g := g) (h := h) (t := t) (t2 := t2) hx hy;simpa [e] using this
theorem gL {t t2 : TypeId} {x y : Operand} {a b : Int} (hx : evu env x = some (.i a)) (hy : evu env y = some (.i b)) (e : a ≠ b) : bX P ⟨d,.binOp .eql t x y t2,ty,pos,af,g⟩ env h 0 (fun _ => .b false) (fun _ => []) := by
  have := dR (P := P) (d := d) (ty := ty) (pos := pos) (af := af) (g := g) (h := h) (t := t) (t2 := t2) hx hy;simpa [e] using this
theorem xD {t t2 : TypeId} {x y : Operand} {a b : Int} (hx : evu env x = some (.i a)) (hy : evu env y = some (.i b)) (e : a ≠ b) : bX P ⟨d,.binOp .neq t x y t2,ty,pos,af,g⟩ env h 0 (fun _ => .b true) (fun _ => []) := by
  have := fG (P := P) (d := d) (ty := ty) (pos := pos) (af := af) (g := g) (h := h) (t := t) (t2 := t2) hx hy;simpa [e] using this
theorem rA {t t2 : TypeId} {x y : Operand} {a b : Int} (hx : evu env x = some (.i a)) (hy : evu env y = some (.i b)) (e : a = b) : bX P ⟨d,.binOp .neq t x y t2,ty,pos,af,g⟩ env h 0 (fun _ => .b false) (fun _ => []) := by
  have := fG (P := P) (d := d) (ty := ty) (pos := pos) (af := af) (g := g) (h := h) (t := t) (t2 := t2) hx hy;simpa [e] using this
theorem YJ {t t2 : TypeId} {x y : Operand} {a : Bool} (ht : EQ P t) (hx : evu env x = some (.b a)) (hy : evu env y = some (.b a)) : bX P ⟨d,.binOp .neq t x y t2,ty,pos,af,g⟩ env h 0 (fun _ => .b false) (fun _ => []) := by
  have := zI8 (d := d) (ty := ty) (pos := pos) (af := af) (g := g) (h := h) (t2 := t2) ht hx hy;simpa using this
end
end Go.Ab
