/-
  Texts of the logic and of the layer,in one module (part 2).
-/
import Derived.Test.YtdiogjgohbbllaaGreatDoorK1
import Derived.ProofKit
import Derived.OpenShut
import Derived.ShutString
import Derived.ChangeOld
import Derived.Laws.StructEq
import Derived.ChangeKeysEq
import Derived.Below
import Derived.ChangeSame
import Derived.WideKeyArgs
import Derived.Lib.SliceRun
import Derived.DeepKeys3
import Derived.RangeFuncSeq
set_option linter.unusedVariables false
set_option linter.unusedSimpArgs false
set_option linter.unnecessarySimpa false

namespace Go.Ab
open Go
def gS (P : Program) (t : TypeId) {α : Type} (ok : α → Prop) (enc : α → List AV) : Prop :=
  ∀ {H : Type} (e : TypeId × Value → H) (W : World) (fuel : Nat) (cs : List Value) x,DataW.trod e P W 0 (fun _ => true) true fuel t cs = some x →
    ∃ a,ok a ∧ (enc a).length = P.cellsOf t ∧ RL (fun b => b < W.heap.size) W (enc a) (fun _ => none) cs
section
variable {P : Program} {t : TypeId}
theorem gS.int {k : IntKind} (ht : P.underlying t = some (.int k)) (hc : P.cellsOf t = 1) : gS P t (fun n => (Lit.int k n).wf = true) (fun n => [.v (.int k n)]) := by
  intro H e W fuel cs x h;obtain ⟨n,rfl,_,hw⟩ := DataW.trod_int ht h;exact ⟨n,hw,by simp [hc],by simp [RL,R]⟩
theorem gS.bool (ht : P.underlying t = some .bool) (hc : P.cellsOf t = 1) : gS P t (fun _ => True) (fun b => [AV.b b]) := by
  intro H e W fuel cs x h;obtain ⟨b,rfl,_⟩ := DataW.trod_bool ht h;exact ⟨b,trivial,by simp [hc],by simp [RL,R]⟩
theorem gS.string (ht : P.underlying t = some .string) (hc : P.cellsOf t = 1) : gS P t (fun s => s.size ≤ maxLen) (fun s => [.v (.string s)]) := by
  intro H e W fuel cs x h;obtain ⟨s,rfl,_,hs⟩ := DataW.trod_string ht h;exact ⟨s,hs,by simp [hc],by simp [RL,R]⟩
theorem DX {α : Type} {n : Nat} {f : Nat → Option α} {l : List α} (h : (List.range n).mapM f = some l) : l.length = n ∧ ∀ i,i < n → f i = l[i]? := by
  induction n generalizing l with
  | zero => simp at h;subst h;simp
  | succ n ih =>
    rw [UO,List.mapM_append] at h;cases h1 : (List.range n).mapM f with
    | none => simp [h1] at h
    | some l1 =>
      cases h2 : f n with
      | none => simp [h1,h2] at h
      | some y =>
        simp [h1,h2] at h;subst h;obtain ⟨h3,h4⟩ := ih h1;refine ⟨by simp [h3],fun i hi => ?_⟩
        by_cases hin : i < n
        · rw [h4 i hin,aG (by omega)]
        · have : i = n := by omega
          subst this;rw [h2,aF (by omega)];simp [h3]
theorem NL (a : Addr) (n j : Nat) (h : n ≤ j) : (a.add n).add (j - n) = a.add j := by
  cases a with
  | mk bb oo sp =>
    unfold Addr.add;by_cases q1 : n = 0
    · rw [if_pos q1,q1];simp
    · rw [if_neg q1];by_cases q2 : j - n = 0
      · rw [if_pos q2,if_neg (by omega)];congr 1;omega
      · rw [if_neg q2,if_neg (by omega)];simp;omega
theorem gS.slice {e : TypeId} {sz : Nat} {α : Type} {ok : α → Prop} {enc : α → List AV} (ht : P.underlying t = some (.slice e)) (hc : P.cellsOf t = 1) (hsz : P.cellsOf e = sz) (h0 : 0 < sz) (he : gS P e ok enc) :
    gS P t (fun l => l.length ≤ maxLen ∧ ∀ a,a ∈ l → ok a) (fun l : List α => [.rowE (l.map enc) sz]) := by
  intro H en W fuel cs x h;rcases DataW.trod_slice ht h with ⟨rfl,_⟩ | ⟨a,len,cap,elems,rest,n,_,rfl,_,_,hlc,hcm,hel,hget,_,_⟩
  · refine ⟨[],⟨by simp,by simp⟩,by simp [hc],?_⟩
    simp only [RL,R];exact ⟨_,[],rfl,⟨none,0,rfl,by simp,fun _ => rfl,by simp,by simp,.inl (by simp)⟩,rfl⟩
  · have key : ∀ m,m ≤ len → ∃ (l : List α) (ys : List Value),l.length = m ∧ (∀ a,a ∈ l → ok a) ∧ RL (fun b => b < W.heap.size) W (l.map enc).flatten (fun _ => none) ys ∧ ys.length = m * sz ∧ ∀ (j : Nat) y,ys[j]? = some y → W.cell? (a.add j) = some y := by
      intro m
      induction m with
      | zero => exact fun _ => ⟨[],[],rfl,by simp,by simp [RL],by simp,by simp⟩
      | succ m ih =>
        intro hm;obtain ⟨l,ys,h1,h2,h3,h4,h5⟩ := ih (by omega)
        have hg := hget m (by omega)
        rw [aB (by omega)] at hg
        obtain ⟨cs',h6,h7⟩ := mA.1 hg;obtain ⟨b,h8,_,h9⟩ := he en W n cs' _ h7;unfold World.cells? at h6;split at h6
        · obtain ⟨g1,g2⟩ := DX h6;refine ⟨l ++ [b],ys ++ cs',by simp [h1],fun c hcc => ?_,?_,by rw [aC,h4,g1,hsz,dA,CL],fun j y hj => ?_⟩
          · rcases bD.1 hcc with hcc | hcc
            · exact h2 c hcc
            · simp at hcc;subst hcc;exact h8
          · rw [cO,gQ];exact eA h3 (by simpa using h9)
          · by_cases hjl : j < ys.length
            · rw [aG hjl] at hj;exact h5 j y hj
            · rw [aF (by omega)] at hj
              have hjl2 := (aA.1 hj).1;have := g2 (j - ys.length) (by omega)
              rw [hj] at this;have e2 : (a.add (m * P.cellsOf e)).add (j - ys.length) = a.add j := by
                rw [hsz,← h4];exact NL a ys.length j (by omega)
              rw [e2] at this;exact this
        · cases h6
    obtain ⟨l,ys,h1,h2,h3,h4,h5⟩ := key len (aQ _);refine ⟨l,⟨by omega,h2⟩,by simp [hc],?_⟩
    simp only [RL,R];refine ⟨_,[],rfl,⟨some a,cap,by simp [h1],by simpa [h1] using hlc,(fun e => by cases e),hcm,?_,?_⟩,rfl⟩
    · rw [dW h3] at h4;simpa [h1] using h4
    · by_cases hz : len = 0
      · left;simp [h1,hz]
      · right;have hlt : 0 < ys.length := by rw [h4];exact Nat.mul_pos (by omega) h0
        have hcell := h5 0 ys[0] (aB hlt);have ha : a.add 0 = a := by simp [Addr.add]
        rw [ha] at hcell;have hsp := World.cell?_spot hcell;obtain ⟨bb,oo,sp⟩ := a;simp only at hsp;subst hsp;refine ⟨bb,oo,ys,rfl,World.block_lt_of_cell? W _ hcell,?_,h3⟩;unfold World.cell? at hcell;split at hcell
        · rename_i c e fz hb;refine ⟨c,e,fz,hb,fun j y hj => ?_⟩
          have := h5 j y hj;rw [Addr.add_lit] at this;simpa [World.cell?,hb] using this
        · cases hcell
def iE (P : Program) (ts : List TypeId) {α : Type} (ok : α → Prop) (enc : α → List AV) : Prop :=
  ∀ {H : Type} (e : TypeId × Value → H) (W : World) (fuel : Nat) (css : List (List Value)),css.length = ts.length → (∀ (i : Nat) t cs,ts[i]? = some t → css[i]? = some cs → ∃ x,DataW.trod e P W 0 (fun _ => true) true fuel t cs = some x) →
    ∃ a,ok a ∧ (enc a).length = (ts.map P.cellsOf).sum ∧ RL (fun b => b < W.heap.size) W (enc a) (fun _ => none) css.flatten
theorem iE.nil : iE P [] (fun _ : Unit => True) (fun _ => []) := by
  intro H e W fuel css hl _;have : css = [] := bV hl;subst this;exact ⟨(),trivial,rfl,by simp [RL]⟩
theorem iE.cons {ts : List TypeId} {α β : Type} {ok : α → Prop} {enc : α → List AV} {ok' : β → Prop} {enc' : β → List AV} (h : gS P t ok enc) (h' : iE P ts ok' enc') :
    iE P (t :: ts) (fun a : α × β => ok a.1 ∧ ok' a.2) (fun a => enc a.1 ++ enc' a.2) := by
  intro H e W fuel css hl hx
  match css,hl with
  | cs :: css,hl =>
    obtain ⟨x,hx0⟩ := hx 0 t cs (by simp) (by simp)
    obtain ⟨a,h1,h2,h3⟩ := h e W fuel cs x hx0;obtain ⟨b,h4,h5,h6⟩ := h' e W fuel css (by simpa using hl) (fun i t cs hi hi' => hx (i + 1) t cs (by simpa using hi) (by simpa using hi'))
    exact ⟨(a,b),⟨h1,h4⟩,by simp [h2,h5],by simpa using eA h3 h6⟩
def FY (P : Program) (t : TypeId) : Option (List (TypeId × Nat)) := match P.underlying t with
  | some (.struct fs) => some (fs.toList.map fun f => (f.type,f.offset))
  | _ => none
def FE (P : Program) : Nat → List (TypeId × Nat) → Nat → Bool
  | o,[],n => Nat.beq o n
  | o,(t,o') :: r,n => Nat.beq o o' && FE P (o + P.cellsOf t) r n
theorem M5 {cs : List Value} : ∀ {fs : List (TypeId × Nat)} {o n : Nat}, FE P o fs n = true → n = cs.length → o ≤ n ∧ (fs.map fun f => (cs.drop f.2).take (P.cellsOf f.1)).flatten = cs.drop o
  | [],o,n,h,hn => by
    have := aP h;subst this;simp [hn]
  | (t,o') :: r,o,n,h,hn => by
    simp only [FE,aM] at h;have := aP h.1;subst this;obtain ⟨h1,h2⟩ := M5 h.2 hn;refine ⟨by omega,?_⟩
    simp only [List.map_cons,bJ,h2];rw [← CN,bX]
theorem gS.struct {fs : List (TypeId × Nat)} {α : Type} {ok : α → Prop} {enc : α → List AV} (ht : FY P t = some fs) (hr : FE P 0 fs (P.cellsOf t) = true) (h : iE P (fs.map (·.1)) ok enc) (hl : ∀ a,(enc a).length = P.cellsOf t) : gS P t ok enc := by
  intro H e W fuel cs x hx;unfold FY at ht;split at ht
  · rename_i fields hu;simp only [Option.some.injEq] at ht;subst ht;obtain ⟨xs,n,_,_,h1,h2,h3⟩ := DataW.trod_struct hu hx;obtain ⟨_,hsplit⟩ := M5 (cs := cs) hr h1.symm
    obtain ⟨a,h4,h5,h6⟩ := h e W n ((fields.toList.map fun f => (f.type,f.offset)).map fun f => (cs.drop f.2).take (P.cellsOf f.1)) (by simp) (fun i tt cc hi hi' => by
      simp only [mP,aO,bY] at hi hi';obtain ⟨f,hf,rfl⟩ := hi;obtain ⟨f',hf',rfl⟩ := hi';rw [hf] at hf';cases hf';have hlt : i < xs.length := by rw [h2];simpa using (aA.1 hf).1
      have := h3 i f (by simpa using hf)
      rw [aB hlt] at this
      exact ⟨_,this⟩)
    refine ⟨a,h4,hl a,?_⟩;rw [hsplit] at h6;simpa using h6
  · cases ht
theorem gS.one {α : Type} {ok : α → Prop} {enc : α → AV} (h : gS P t ok (fun a => [enc a])) {H : Type} {e : TypeId × Value → H} {W : World} {v : Value} {d : DataW H} {p : List MemPlace} {base : Nat} (hok : Value.okWide P W .any base t v) (ha : W7 P t = some false) (hv : DataW.Trod e P W 0 (fun _ => true) true t v d p) :
    ∃ a,ok a ∧ R (fun b => b < W.heap.size) W (enc a) (fun _ => none) v := by
  obtain ⟨fuel,hf⟩ := hv;obtain ⟨a,h1,_,h3⟩ := h e W fuel _ _ hf;refine ⟨a,h1,?_⟩;simp only [RL] at h3;obtain ⟨y,zs,h4,h5,h6⟩ := h3;subst h6;have hone : v.cells = #[v] := by
    cases v with
    | agg cs =>
      exfalso;unfold W7 at ha;unfold Value.okWide at hok;split at ha <;> rename_i hu <;> try (cases ha;done)
      · cases h4' : cs.toList with
        | nil => simp [Value.cells,h4'] at h4
        | cons u r =>
          rename_i d hn1 hn2;rw [hu] at hok;cases d <;> first | exact absurd rfl (hn1 _) | exact absurd rfl (hn2 _ _) | (simp [Cell.okWide,Cell.ok,hu] at hok)
    | _ => rfl
  rw [hone] at h4;simp at h4;rw [h4];exact h5
open RowKit in
theorem I2 {f : FuncId} {xs : List AV} {vs : List Value} {W : World} (h : bN P f xs [] (.b true) []) (hv : RL (fun b => b < W.heap.size) W xs (fun _ => none) vs) (hgl : kH (fun b => b < W.heap.size) W := by exact kH.none rfl) :
    Calls P f vs.toArray W fun e w' => e = .returned (.bool true) ∧ Below W.heap.size W w' := by
  refine (h.2 (fun _ => none) (fun b => b < W.heap.size) W vs ⟨fun _ _ => rfl,(fun _ _ h => by cases h),(fun k b hb => by simp at hb),(fun k b p hb => by simp at hb),(fun k _ b _ _ _ hb => by simp at hb),fun _ h => h,iZ.refl _ _,fun _ h => h,fun _ h => .inl h,aQ _,(fun _ h => by simp [gL] at h),hgl⟩ hv).mono ?_
  rintro e w' ⟨y,ρ',S',rfl,hs,hy⟩;have := pQ hy;subst this;refine ⟨rfl,hs.ext.os,hs.ext.tape,hs.ext.output,hs.ext.size,fun k hk => hs.ext.same k hk fun hm => ?_⟩
  rcases hm with hm | ⟨_,_,_,hm,_⟩
  · omega
  · simp at hm
end
structure jS where
  d : Option Nat
  x : AV
  new : List AB
theorem HS.fill {c : mE} {ρ ρ' : Pl} {S S' : Nat → Prop} {h h' : Hp} {w w' : World} {q m : Nat} {x : AV} {new : List AB} {y : Value} (s : HS c ρ S h w) (p : zT ρ ρ' S S' w w' q m x new y) (hn : ∀ j, j < m → ρ (q + j) = none)
    (hl : h.length ≤ h'.length) (hout : ∀ k,k < q ∨ q + m ≤ k → h'[k]? = h[k]?) (hin : ∀ j,j < m → h'[q + j]? = new[j]?) (hm : c.m ≤ q ∨ m = 0) : HS c ρ' S' h' w' := by
  have l := p.later hn s.stab;have hsz : c.w0.heap.size ≤ w.heap.size := s.ext.size;have cs : ∀ k,(k < q ∨ q + m ≤ k) ∨ ∃ j,j < m ∧ k = q + j := fun k => by
    by_cases h1 : k < q ∨ q + m ≤ k
    · exact .inl h1
    · exact .inr ⟨k - q,by omega,by omega⟩
  have new_lt : ∀ {k : Nat} {b : AB},h'[k]? = some b → (∃ j,j < m ∧ k = q + j ∧ new[j]? = some b) ∨ ((k < q ∨ q + m ≤ k) ∧ h[k]? = some b) := fun {k b} hb => by
    rcases cs k with h1 | ⟨j,h1,rfl⟩
    · exact .inr ⟨h1,by rw [← hout k h1];exact hb⟩
    · exact .inl ⟨j,h1,rfl,by rw [← hin j h1];exact hb⟩
  refine ⟨fun k hk => ?_,fun k r hr => ?_,fun k b hb => ?_,fun k b r hb hg hr => ?_,fun k k' b b' r r' hb hb' hg hg' hr hr' e => ?_,fun b hb => ?_,s.ext.trans p.ext (fun _ h => h.elim),fun b hb => p.st b (s.st0 b hb),fun b hb => ?_,cC s.mle hl,fun k hk => ?_,s.glob.later l⟩
  · rcases cs k with h1 | ⟨j,h1,rfl⟩
    · rw [p.keep k h1];exact s.dom k (by omega)
    · have := hin j h1;rw [bO hk] at this;have h2 : j < new.length := by rw [p.len];exact h1
      rw [aB h2] at this;cases this
  · rcases cs k with h1 | ⟨j,h1,rfl⟩
    · rw [p.keep k h1] at hr;exact bP (s.rng k r hr) p.ext.size
    · exact (p.fresh _ r (by omega) (by omega) hr).2.1
  · rcases new_lt hb with ⟨j,h1,rfl,h2⟩ | ⟨h1,h2⟩
    · exact p.blk j b h2
    · rw [p.keep k h1];exact RB.later l (fun b' o hb' => p.ext.same b' (s.rng k _ hb') (by simp)) (s.blk k b h2)
  · rcases new_lt hb with ⟨j,h1,rfl,h2⟩ | ⟨h1,h2⟩
    · obtain ⟨f1,_,f3⟩ := p.fresh _ r (by omega) (by omega) hr
      exact ⟨c.new _ (by omega),f3⟩
    · rw [p.keep k h1] at hr;obtain ⟨f1,f2⟩ := s.live k b r h2 hg hr;refine ⟨f1,fun hs => ?_⟩
      rcases p.stn _ hs with hs | hs
      · exact f2 hs
      · have := s.rng k r hr;omega
  · rcases new_lt hb with ⟨j,h1,rfl,h2⟩ | ⟨h1,h2⟩ <;> rcases new_lt hb' with ⟨j',h1',rfl,h2'⟩ | ⟨h1',h2'⟩
    · exact p.inj _ _ r r' (by omega) (by omega) (by omega) (by omega) hr hr' e
    · rw [p.keep k' h1'] at hr';have f1 := s.rng k' r' hr';have f2 := (p.fresh _ r (by omega) (by omega) hr).1
      omega
    · rw [p.keep k h1] at hr;have f1 := s.rng k r hr;have f2 := (p.fresh _ r' (by omega) (by omega) hr').1
      omega
    · rw [p.keep k h1] at hr;rw [p.keep k' h1'] at hr';exact s.inj k k' b b' r r' h2 h2' hg hg' hr hr' e
  · rcases p.stn b hb with hb | hb
    · exact bP (s.stab b hb) p.ext.size
    · exact hb.2
  · rcases p.stn b hb with hb | hb
    · exact s.st1 b hb
    · exact .inr (c.new b (by omega))
  · rcases hm with hm | hm
    · rw [p.keep k (.inl (by omega))];exact s.keep k hk
    · rw [p.keep k (by omega)];exact s.keep k hk
def sU (env : cJ) (all : List jS) : List Nat → cJ
  | [] => env
  | j :: r => match all[j]? with
    | some f => fC f.d f.x (sU env all r)
    | none => sU env all r
def iC (L : Nat → Bool) : Nat → List jS → Hp
  | _,[] => []
  | i,f :: r => (match L i with | true => f.new | false => List.replicate f.new.length .gone) ++ iC L (i + 1) r
def jU : List jS → Nat
  | [] => 0
  | f :: r => f.new.length + jU r
theorem jT {env : cJ} {all : List jS} : ∀ {pre : List Nat} {t : Nat} {x : AV}, look (sU env all pre) t = some x → look env t = some x ∨ ∃ j f, j ∈ pre ∧ all[j]? = some f ∧ f.d = some t ∧ f.x = x
  | [],_,_,h => .inl h
  | j :: r,t,x,h => by
    simp only [sU] at h;have up : (look env t = some x ∨ ∃ j f,j ∈ r ∧ all[j]? = some f ∧ f.d = some t ∧ f.x = x) → (look env t = some x ∨ ∃ j' f,j' ∈ j :: r ∧ all[j']? = some f ∧ f.d = some t ∧ f.x = x) := fun h => h.imp id fun ⟨j',f,h1,h2⟩ => ⟨j',f,aE _ h1,h2⟩
    split at h
    · rename_i f hf;cases hd : f.d with
      | none => rw [hd] at h;exact up (jT h)
      | some d =>
        rw [hd] at h;simp only [fC,eY] at h;split at h
        · rename_i he;subst he;cases h;exact .inr ⟨j,f,aN,hf,hd,rfl⟩
        · exact up (jT h)
    · exact up (jT h)
theorem kU (L : Nat → Bool) : ∀ (i : Nat) (l : List jS), (iC L i l).length = jU l
  | _,[] => rfl
  | i,f :: r => by
    simp only [iC,jU,aC,kU L (i + 1) r];cases L i <;> simp
theorem A7 : ∀ (a b : List jS), jU (a ++ b) = jU a + jU b
  | [],b => by simp [jU]
  | f :: a,b => by simp [jU,A7 a b,eC]
theorem nL (L : Nat → Bool) : ∀ (i : Nat) (a b : List jS), iC L i (a ++ b) = iC L i a ++ iC L (i + a.length) b
  | i,[],b => by simp [iC]
  | i,f :: a,b => by
    simp only [List.cons_append,iC,nL L (i + 1) a b,List.length_cons,bF];rw [show i + 1 + a.length = i + (a.length + 1) by omega]
theorem jD {L L' : Nat → Bool} : ∀ (l : List jS) (i : Nat), (∀ j, i ≤ j → j < i + l.length → L j = L' j) → iC L i l = iC L' i l
  | [],_,_ => rfl
  | f :: r,i,h => by
    simp only [iC,h i (aQ _) (by simp),jD r (i + 1) (fun j h1 h2 => h j (by omega) (by simp;omega))]
theorem wZ {L L' : Nat → Bool} : ∀ (l : List jS) (i k : Nat) (b : AB), (∀ j, L j = true → L' j = true) → (iC L i l)[k]? = some b → b ≠ .gone → (iC L' i l)[k]? = some b
  | [],_,k,b,_,h,_ => by simp [iC] at h
  | f :: r,i,k,b,hL,h,hg => by
    simp only [iC] at h ⊢;have len : ∀ L : Nat → Bool,(match L i with | true => f.new | false => List.replicate f.new.length .gone).length = f.new.length := fun L => by cases L i <;> simp
    by_cases hk : k < f.new.length
    · rw [aG (by rw [len];exact hk)] at h ⊢
      cases h1 : L i with
      | true => rw [h1] at h;rw [hL i h1];exact h
      | false =>
        rw [h1] at h;simp only [mB] at h;rw [if_pos hk] at h;cases h;exact absurd rfl hg
    · rw [aF (by rw [len];omega),len] at h ⊢
      exact wZ r (i + 1) _ b hL h hg
def cW (ds : List Nat) : cJ → cJ
  | [] => []
  | (t, x) :: r => match ds.any (Nat.beq t) with
    | true => cW ds r
    | false => (t,x) :: cW ds r
theorem lJ {ds : List Nat} {t : Nat} : ds.any (Nat.beq t) = true ↔ t ∈ ds := by
  rw [jR];constructor
  · rintro ⟨x,h1,h2⟩;rw [aP h2];exact h1
  · exact fun h => ⟨t,h,dD t⟩
theorem iD {ds : List Nat} : ∀ {env : cJ} {t : Nat} {x : AV}, look (cW ds env) t = some x → look env t = some x ∧ t ∉ ds
  | [],_,_,h => by cases h
  | (k,u) :: r,t,x,h => by
    simp only [cW] at h;split at h
    · rename_i hb;obtain ⟨h1,h2⟩ := iD h;refine ⟨?_,h2⟩;rw [eY,if_neg (fun e : k = t => h2 (e ▸ lJ.1 hb))];exact h1
    · rename_i hb;rw [eY] at h ⊢;split at h
      · rename_i he;subst he;exact ⟨by rw [if_pos rfl];exact h,fun hm => by rw [lJ.2 hm] at hb;cases hb⟩
      · rename_i he;rw [if_neg he];exact iD h
theorem PO {α : Type} (A B B' C : List α) (hB : B.length = B'.length) (k : Nat) (hk : k < A.length ∨ A.length + B.length ≤ k) : (A ++ (B ++ C))[k]? = (A ++ (B' ++ C))[k]? := by
  rcases hk with hk | hk
  · rw [aG hk,aG hk]
  · rw [aF (by omega),aF (by omega),aF (by omega),aF (by omega),hB]
def pE (ops : Array Oper) (pres : List (List Nat)) : Bool :=
  (List.range ops.size).all fun i => match ops[i]? with
    | none => false
    | some o =>
      (o.after.toList.all fun e => !Region.binds .any e || decide (e.on < i)) &&
      (match pres[i]? with
        | some pre => pre.all fun j => decide (j < i) && o.after.toList.any fun e => Region.binds .any e && (Nat.beq e.on j || (pres.getD e.on []).any (Nat.beq j))
        | none => (List.range i).all fun j => o.after.toList.any fun e => Region.binds .any e && Nat.beq e.on j)
def gO (all : List jS) : List Nat := all.filterMap (·.d)
def R9 (P : Program) (ops : Array Oper) (i : Nat) (env : cJ) (h : Hp) (f : jS) : Prop :=
  ∃ o,ops[i]? = some o ∧ o.dst = f.d ∧
    ((∃ x new,(o.guard = none ∨ ∃ g want t,o.guard = some (g,want) ∧ (ops[g]?).bind (·.dst) = some t ∧ look env t = some (.b want)) ∧ bR P ⟨o.dst,o.op,o.type,o.pos,o.after,none⟩ env h f.new.length x new ∧ x h.length = f.x ∧ new h.length = f.new) ∨
     (∃ g want t,o.guard = some (g,want) ∧ (ops[g]?).bind (·.dst) = some t ∧ (look env t = some (.b (!want)) ∨ look env t = some (.v undef)) ∧ f.x = .v undef ∧ f.new = []))
def DV (P : Program) (n : Nat × Nat) (ops : Array Oper) (pres : List (List Nat)) (ds : List Nat) (env : cJ) (h : Hp) (effs : List jS) (K : cJ → Hp → Prop) : Prop :=
  ∃ more,(effs ++ more).length = pres.length ∧ gO (effs ++ more) = ds ∧
    (∀ i f pre,effs.length ≤ i → (effs ++ more)[i]? = some f → pres[i]? = some pre → R9 P ops i (sU env ((effs ++ more).take i) pre) (h ++ iC (fun j => pre.any (Nat.beq j)) 0 ((effs ++ more).take i)) f) ∧
    VC P n ops (ops.toList.drop pres.length) (sU env (effs ++ more) (List.range pres.length)) (h ++ iC (fun _ => true) 0 (effs ++ more)) K
theorem V3 {P : Program} {n : Nat × Nat} {ops : Array Oper} {pres : List (List Nat)} {ds : List Nat} {env : cJ} {h : Hp} {effs : List jS} {K : cJ → Hp → Prop} {f : jS} {pre : List Nat} {i : Nat} (hi : effs.length = i) (hp : pres[i]? = some pre)
    (hg : R9 P ops i (sU env effs pre) (h ++ iC (fun j => pre.any (Nat.beq j)) 0 effs) f) (hk : DV P n ops pres ds env h (effs ++ [f]) K) : DV P n ops pres ds env h effs K := by
  obtain ⟨more,h1,h2,h3,h4⟩ := hk;have e : effs ++ [f] ++ more = effs ++ (f :: more) := by simp
  rw [e] at h1 h2 h3 h4;refine ⟨f :: more,h1,h2,fun j g p hj hgj hpj => ?_,h4⟩
  by_cases hji : j = i
  · subst hji;rw [hp] at hpj;cases hpj;rw [aF (by omega),hi,eL] at hgj
    simp at hgj;subst hgj;rw [hC,aX (by omega),hi,eL]
    simpa using hg
  · exact h3 j g p (by simp;omega) hgj hpj
theorem TP {P : Program} {n : Nat × Nat} {ops : Array Oper} {pres : List (List Nat)} {ds : List Nat} {env : cJ} {h : Hp} {effs : List jS} {K : cJ → Hp → Prop} (hl : effs.length = pres.length) (hd : gO effs = ds)
    (hk : VC P n ops (ops.toList.drop pres.length) (sU env effs (List.range pres.length)) (h ++ iC (fun _ => true) 0 effs) K) : DV P n ops pres ds env h effs K := by
  refine ⟨[],by simpa using hl,by simpa using hd,fun i f pre hi hf _ => ?_,by simpa using hk⟩
  have := (aA.1 hf).1;simp at this;omega
structure qF (P : Program) (n : Nat × Nat) (c : mE) (env : cJ) (h : Hp) (all : List jS) (L : Nat → Bool) (ρ : Pl) (S : Nat → Prop) (a : Act) (w : World) : Prop where
  size : a.tmps.size = n.1
  defers : oI c S a.defers w
  cm : c.m = n.2
  env0 : ∀ t x,look env t = some x → R S w x ρ (a.tmps.getD t undef)
  done : ∀ (i : Nat) f t,all[i]? = some f → L i = true → f.d = some t → R S w f.x ρ (a.tmps.getD t undef)
  hs : HS c ρ S (h ++ iC L 0 all) w
  undone : ∀ (i : Nat) f,all[i]? = some f → L i = false → ∀ j,j < f.new.length → ρ (h.length + jU (all.take i) + j) = none
theorem qF.step {P : Program} {n : Nat × Nat} {c : mE} {env : cJ} {h : Hp} {all : List jS} {L L' : Nat → Bool} {ρ ρ' : Pl} {S S' : Nat → Prop} {a : Act} {w w' : World} {i : Nat} {f : jS} {y : Value} (s : qF P n c env h all L ρ S a w)
    (hf : all[i]? = some f) (hi : L i = false) (hL : ∀ j,L' j = (L j || Nat.beq j i)) (p : zT ρ ρ' S S' w w' (h.length + jU (all.take i)) f.new.length f.x f.new y) (hd : yZ f.d n = true) (hnd : (gO all).Nodup) (henv : ∀ t x,look env t = some x → t ∉ gO all) (hm : c.m ≤ h.length) :
    qF P n c env h all L' ρ' S' (a.put f.d y) w' := by
  have hn := s.undone i f hf hi;have l := p.later hn s.hs.stab;have hil : i < all.length := (aA.1 hf).1;have dst_ne : ∀ {j : Nat} {g : jS} {t : Nat},all[j]? = some g → j ≠ i → g.d = some t → f.d ≠ some t := fun {j g t} hg hne hgt hft => by
    have key : ∀ {l : List jS} {i j : Nat} {f g : jS},(gO l).Nodup → l[i]? = some f → l[j]? = some g → i < j → f.d = some t → g.d = some t → False := by
      intro l
      induction l with
      | nil => intro i j f g _ h1;simp at h1
      | cons e l ih =>
        intro i j f g hnd h1 h2 hij hf hg;have tail : (gO l).Nodup := by
          unfold gO at hnd ⊢;rw [vE] at hnd;split at hnd
          · exact hnd
          · exact (aL.1 hnd).2
        cases j with
        | zero => omega
        | succ j =>
          simp only [fE] at h2;cases i with
          | zero =>
            simp only [cH,Option.some.injEq] at h1;subst h1;unfold gO at hnd;rw [vE,hf] at hnd;exact (aL.1 hnd).1 (gZ.2 ⟨g,aH h2,hg⟩)
          | succ i => exact ih tail (by simpa using h1) h2 (by omega) hf hg
    rcases yB hne with h1 | h1
    · exact key hnd hg hf h1 hgt hft
    · exact key hnd hf hg h1 hft hgt
  have other : ∀ {t : Nat},f.d ≠ some t → (a.put f.d y).tmps.getD t undef = a.tmps.getD t undef := fun {t} ht => by
    cases hfd : f.d with
    | none => rfl
    | some d => exact pG (fun e => ht (by rw [hfd,e]))
  have hsplit : all = all.take i ++ f :: all.drop (i + 1) := by
    have := bX i all;rw [aS hil] at this;have e : all[i] = f := by rw [aB hil] at hf;exact Option.some.inj hf
    rw [e] at this;exact this.symm
  have hti : (all.take i).length = i := by rw [bU];omega
  have sL : ∀ M : Nat → Bool,iC M 0 all = iC M 0 (all.take i) ++ ((match M i with | true => f.new | false => List.replicate f.new.length .gone) ++ iC M (i + 1) (all.drop (i + 1))) := fun M => by
    conv => lhs;rw [hsplit]
    rw [nL,hti,Nat.zero_add];rfl
  have e1 : iC L' 0 (all.take i) = iC L 0 (all.take i) := jD _ _ fun j _ hj => by
    rw [hti] at hj;rw [hL,show Nat.beq j i = false from by rw [← cV];intro hb;have := aP hb;omega,iF]
  have e2 : iC L' (i + 1) (all.drop (i + 1)) = iC L (i + 1) (all.drop (i + 1)) := jD _ _ fun j hj _ => by
    rw [hL,show Nat.beq j i = false from by rw [← cV];intro hb;have := aP hb;omega,iF]
  have hLi : L' i = true := by rw [hL,dD,oG]
  have hA : h ++ iC L 0 all = h ++ (iC L 0 (all.take i) ++ (List.replicate f.new.length .gone ++ iC L (i + 1) (all.drop (i + 1)))) := by rw [sL L,hi]
  have hB : h ++ iC L' 0 all = h ++ (iC L 0 (all.take i) ++ (f.new ++ iC L (i + 1) (all.drop (i + 1)))) := by rw [sL L',hLi,e1,e2]
  have hlen := kU L 0 (all.take i);refine ⟨by rw [gC];exact s.size,by rw [eN];exact s.defers.later l,s.cm,fun t x hx => ?_,fun j g t hg hj ht => ?_,?_,fun j g hg hj k hk => ?_⟩
  · rw [other (fun e => henv t x hx (gZ.2 ⟨f,aH hf,e⟩))];exact (s.env0 t x hx).later l
  · by_cases hji : j = i
    · subst hji;rw [hf] at hg;cases hg;rw [ht] at hd ⊢;have hlt : t < a.tmps.size := by rw [s.size];exact aU hd
      rw [qL hlt];exact p.val
    · rw [other (dst_ne hg hji ht)];have hjL : L j = true := by
        rw [hL] at hj;rcases fS.1 hj with hj | hj
        · exact hj
        · exact absurd (aP hj) hji
      exact (s.done j g t hg hjL ht).later l
  · have hs := s.hs;rw [hA] at hs;rw [hB];refine hs.fill p hn (by simp) (fun k hk => ?_) (fun j hj => ?_) (.inl (by omega))
    · have := PO (h ++ iC L 0 (all.take i)) f.new (List.replicate f.new.length .gone) (iC L (i + 1) (all.drop (i + 1))) (by simp) k (by rw [aC,hlen];omega)
      simpa only [bF] using this
    · rw [aF (by omega),aF (by omega),aG (by omega)]
      congr 1;omega
  · have hjne : j ≠ i := fun e => by rw [e,hLi] at hj;cases hj
    have hjL : L j = false := by
      rw [hL] at hj;exact (gH.1 hj).1
    have h1 := s.undone j g hg hjL k hk;rw [p.keep _ ?_];exact h1;have hjl : j < all.length := (aA.1 hg).1;have eg : all[j] = g := by rw [aB hjl] at hg;exact Option.some.inj hg
    have ef : all[i] = f := by rw [aB hil] at hf;exact Option.some.inj hf
    have mono : ∀ {u v : Nat},u < v → (hv : v ≤ all.length) → (hu : u < all.length) → jU (all.take u) + all[u].new.length ≤ jU (all.take v) := fun {u v} huv hv hu => by
      have e3 : all.take v = all.take u ++ (all[u] :: (all.take v).drop (u + 1)) := by
        have := bX u (all.take v);rw [WN,R7 (by omega),aS (by simp;omega)] at this
        rw [List.getElem_take] at this;exact this.symm
      rw [e3,A7,jU];omega
    rcases yB hjne with h2 | h2
    · left;have := mono h2 (by omega) hjl
      rw [eg] at this;omega
    · right;have := mono h2 (by omega) hil
      rw [ef] at this;omega
theorem iS {ops : Array Oper} {pres : List (List Nat)} (hok : pE ops pres = true) {i : Nat} {o : Oper} (ho : ops[i]? = some o) : ∀ e,e ∈ o.after → Region.binds .any e = true → e.on < i := by
  intro e he hb;have hlt : i < ops.size := (aK.1 ho).1;have h := aT.1 hok i (by simpa using hlt)
  rw [ho] at h;simp only [aM,aT] at h;have := h.1 e (by simpa using he)
  simpa [hb] using this
theorem mF {ops : Array Oper} {pres : List (List Nat)} (hok : pE ops pres = true) {i : Nat} {o : Oper} {pre : List Nat} (ho : ops[i]? = some o) (hp : pres[i]? = some pre) : ∀ j,j ∈ pre → j < i ∧ ∃ e,e ∈ o.after ∧ Region.binds .any e = true ∧ (e.on = j ∨ j ∈ pres.getD e.on []) := by
  intro j hj;have hlt : i < ops.size := (aK.1 ho).1;have h := aT.1 hok i (by simpa using hlt)
  rw [ho] at h;simp only [hp,aM,aT] at h;have := h.2 j hj;simp only [decide_eq_true_eq,jR,aM,nE] at this;obtain ⟨h1,e,h2,h3,h4⟩ := this;refine ⟨h1,e,by simpa using h2,h3,?_⟩
  rcases h4 with h4 | ⟨x,h5,h6⟩
  · exact .inl (aP h4)
  · right;rw [aP h6];exact h5
theorem qA {ops : Array Oper} {pres : List (List Nat)} (hok : pE ops pres = true) {i : Nat} {o : Oper} (ho : ops[i]? = some o) (hp : pres.length ≤ i) : ∀ j,j < i → ∃ e,e ∈ o.after ∧ Region.binds .any e = true ∧ e.on = j := by
  intro j hj;have hlt : i < ops.size := (aK.1 ho).1;have h := aT.1 hok i (by simpa using hlt)
  rw [ho] at h;simp only [bO hp,aM,aT] at h;have := h.2 j (by simpa using hj)
  simp only [jR,aM] at this;obtain ⟨e,h2,h3,h4⟩ := this;exact ⟨e,by simpa using h2,h3,aP h4⟩
theorem nJ {P : Program} {ops : Array Oper} {pres : List (List Nat)} {Q : Exit → Act → World → Prop} (hok : pE ops pres = true) : ∀ (r k fuel : Nat) (listed : Array Bool) (a : Act) (w : World),k + r = ops.size → pres.length ≤ k → r ≤ fuel → listed.size = ops.size → (∀ j,j < ops.size → listed.getD j false = decide (j < k)) →
    wpList P ops Q (ops.toList.drop k) a w → wpAny P .any ops Q fuel listed a w := by
  intro r
  induction r with
  | zero =>
    intro k fuel listed a w hk _ _ hsz hl h;have hk' : k = ops.size := by omega
    have hr : Region.ready .any ops listed = [] := by
      rw [sX];intro i hi;obtain ⟨h1,o,ho,_⟩ := mem_ready.1 hi;have hlt : i < ops.size := (aK.1 ho).1;have := hl i hlt;have e : listed.getD i true = listed.getD i false := by simp [Array.getD,hsz,hlt]
      rw [e,this] at h1;simp at h1;omega
    rw [dJ (by simp;omega)] at h
    cases fuel with
    | zero => exact ⟨hr,h⟩
    | succ fuel => exact ⟨fun _ => h,fun i hi => by rw [hr] at hi;cases hi⟩
  | succ r ih =>
    intro k fuel listed a w hk hp hf hsz hl h;obtain ⟨fuel,rfl⟩ : ∃ f,fuel = f + 1 := ⟨fuel - 1,by omega⟩
    have hlt : k < ops.size := by omega
    have ho : ops[k]? = some ops[k] := bW hlt
    have hin : k ∈ Region.ready .any ops listed := mem_ready.2 ⟨by
      have e : listed.getD k true = listed.getD k false := by simp [Array.getD,hsz,hlt]
      rw [e,hl k hlt];simp,ops[k],ho,fun e he hb => by
      have := iS hok ho e he hb
      rw [hl e.on (by omega)];simpa using this⟩
    refine ⟨(fun hr => by rw [hr] at hin;cases hin),fun i hi => ?_⟩
    obtain ⟨h1,o,hoi,hall⟩ := mem_ready.1 hi;have hil : i < ops.size := (aK.1 hoi).1;have hik : i = k := by
      have e : listed.getD i true = listed.getD i false := by simp [Array.getD,hsz,hil]
      rw [e,hl i hil] at h1;have h2 : k ≤ i := by simpa using h1
      rcases Nat.eq_or_lt_of_le h2 with h3 | h3
      · exact h3.symm
      · obtain ⟨e,he,hb,hon⟩ := qA hok hoi (by omega) k h3
        have := hall e he hb;rw [hon,hl k hlt] at this;simp at this
    subst hik;have hlist : ops.toList.drop i = ops[i] :: ops.toList.drop (i + 1) := by
      rw [aS (by simpa using hlt)];simp
    rw [hlist] at h;have : wpOp P ops Q i (wpList P ops Q (ops.toList.drop (i + 1))) a w := by
      unfold wpOp;rw [ho];exact h
    refine wpOp_mono (fun a' w' h' => ih (i + 1) fuel _ a' w' (by omega) (by omega) (by omega) (by simpa using hsz) (fun j hj => ?_) h') this
    by_cases hij : i = j
    · subst hij;simp [Array.getD,hsz,hlt]
    · rw [getD_set_ne false hij,hl j hj];simp;omega
theorem NF {P : Program} {n : Nat × Nat} {env : cJ} {h : Hp} {KK : cJ → Hp → Prop} {l : List Oper} (pres : List (List Nat)) (ds : List Nat) (hok : pE l.toArray pres = true) (hnd : ds.Nodup) (hds : (ds.all fun d => Nat.blt d n.1) = true) (hsz : Nat.ble pres.length l.length = true)
    (hv : DV P n l.toArray pres ds (cW ds env) h [] KK) : ∀ c ρ S a w QQ,lM n c ρ S env h a w → (∀ env' h' ρ' S' a' w',KK env' h' → lM n c ρ' S' env' h' a' w' → QQ Exit.normal a' w') →
    wpAny P .any l.toArray QQ l.toArray.size (Array.replicate l.toArray.size false) a { w with drawn := w.drawn + 1 } := by
  intro c ρ S a w QQ s hQ;obtain ⟨all,h1,h2,h3,h4⟩ := hv;simp only [List.nil_append,List.length_nil,bM,true_implies] at h1 h2 h3 h4;have hple : pres.length ≤ l.toArray.size := by simpa using aU hsz
  have henv : ∀ t x,look (cW ds env) t = some x → look env t = some x ∧ t ∉ gO all := fun t x hx => by rw [h2];exact iD hx
  -- the first operations,in whatever order
  have key : ∀ (fuel : Nat) (listed : Array Bool) (U : List Nat) (ρ : Pl) (S : Nat → Prop) (a : Act) (w : World),listed.size = l.toArray.size → (∀ j,j < l.toArray.size → listed.getD j false = false → j ∈ U) → U.length ≤ fuel → (∀ j,pres.length ≤ j → listed.getD j false = false) →
      (∀ (i : Nat) o,l.toArray[i]? = some o → listed.getD i false = true → ∀ e,e ∈ o.after → Region.binds .any e = true → listed.getD e.on false = true) →
      qF P n c (cW ds env) h all (fun j => listed.getD j false) ρ S a w → wpAny P .any l.toArray QQ fuel listed a w := by
    intro fuel
    induction fuel with
    | zero =>
      intro listed U ρ S a w hls hU hUl htail hcl st;have hU0 : U = [] := bV (by omega)
      subst hU0;have hall : ∀ j,j < l.toArray.size → listed.getD j false = true := fun j hj => by
        cases hb : listed.getD j false with
        | true => rfl
        | false => exact absurd (hU j hj hb) (by simp)
      have hpm : pres.length = l.toArray.size := by
        rcases fJ pres.length l.toArray.size with h5 | h5
        · have := htail pres.length (aQ _);rw [hall _ h5] at this;cases this
        · omega
      refine nJ (k := pres.length) (r := 0) hok _ _ a w (by omega) (aQ _) (aQ _) hls (fun j hj => ?_) (h4 c ρ S a w QQ ?_ fun env' h' ρ' S' a' w' k s' => hQ env' h' ρ' S' a' w' k s')
      · rw [hall j hj];simp;omega
      · refine ⟨st.size,st.defers,fun t x hx => ?_,?_,st.cm⟩
        · rcases jT hx with hx | ⟨j,f,h5,h6,h7,rfl⟩
          · exact st.env0 t x hx
          · exact st.done j f t h6 (hall j (by have := (aA.1 h6).1;omega)) h7
        · have := st.hs
          rwa [jD (L := fun j => listed.getD j false) (L' := fun _ => true) all 0 (fun j _ hj => hall j (by omega))] at this
    | succ fuel ih =>
      intro listed U ρ S a w hls hU hUl htail hcl st;by_cases hfl : ∀ j,j < pres.length → listed.getD j false = true
      · -- all of the first ones have come up
        refine nJ (k := pres.length) (r := l.toArray.size - pres.length) hok _ _ a w (by omega) (aQ _) ?_ hls (fun j hj => ?_) (h4 c ρ S a w QQ ?_ fun env' h' ρ' S' a' w' k s' => hQ env' h' ρ' S' a' w' k s')
        · have hsub : ∀ j,j ∈ List.range' pres.length (l.toArray.size - pres.length) → j ∈ U := fun j hj => by
            rw [NU] at hj;exact hU j (by omega) (htail j hj.1)
          have := (NT (s := pres.length) (n := l.toArray.size - pres.length)).length_le_of_subset hsub;rw [IV] at this;omega
        · by_cases hj' : j < pres.length
          · rw [hfl j hj'];simp [hj']
          · rw [htail j (by omega)];simp;omega
        · refine ⟨st.size,st.defers,fun t x hx => ?_,?_,st.cm⟩
          · rcases jT hx with hx | ⟨j,f,h5,h6,h7,rfl⟩
            · exact st.env0 t x hx
            · exact st.done j f t h6 (hfl j (by have := (aA.1 h6).1;omega)) h7
          · have := st.hs
            rwa [jD (L := fun j => listed.getD j false) (L' := fun _ => true) all 0 (fun j _ hj => hfl j (by omega))] at this
      · obtain ⟨j0,hj0,hjf⟩ : ∃ j,j < pres.length ∧ listed.getD j false = false := by
          apply Classical.byContradiction;intro hc;apply hfl;intro j hj;cases hb : listed.getD j false with
          | true => rfl
          | false => exact absurd ⟨j,hj,hb⟩ hc
        -- something is ready
        have hex : Region.ready .any l.toArray listed ≠ [] := by
          have least : ∃ j,j < pres.length ∧ listed.getD j false = false ∧ ∀ k,k < j → listed.getD k false = true := by
            have : ∀ b j,j ≤ b → j < pres.length → listed.getD j false = false → ∃ j,j < pres.length ∧ listed.getD j false = false ∧ ∀ k,k < j → listed.getD k false = true := by
              intro b
              induction b with
              | zero => exact fun j hj h5 h6 => ⟨j,h5,h6,fun k hk => by omega⟩
              | succ b ihb =>
                intro j hj h5 h6;by_cases hk : ∃ k,k < j ∧ listed.getD k false = false
                · obtain ⟨k,hk1,hk2⟩ := hk;exact ihb k (by omega) (by omega) hk2
                · refine ⟨j,h5,h6,fun k hk' => ?_⟩
                  cases hb : listed.getD k false with
                  | true => rfl
                  | false => exact absurd ⟨k,hk',hb⟩ hk
            exact this j0 j0 (aQ _) hj0 hjf
          obtain ⟨j,h5,h6,h7⟩ := least;intro he;have hlt : j < l.toArray.size := by omega
          have : j ∈ Region.ready .any l.toArray listed := mem_ready.2 ⟨by
            have e : listed.getD j true = listed.getD j false := by simp only [Array.getD,hls,hlt,dif_pos]
            rw [e,h6],_,bW hlt,fun e he hb => h7 _ (iS hok (bW hlt) e he hb)⟩
          rw [he] at this;cases this
        refine ⟨fun h5 => absurd h5 hex,fun i hi => ?_⟩
        obtain ⟨g1,o,ho,hall⟩ := mem_ready.1 hi;have hil : i < l.toArray.size := (aK.1 ho).1;have g1' : listed.getD i false = false := by
          have e : listed.getD i true = listed.getD i false := by simp only [Array.getD,hls,hil,dif_pos]
          rw [← e];exact g1
        have him : i < pres.length := by
          rcases fJ i pres.length with h5 | h5
          · exact h5
          · obtain ⟨e,he,hb,hon⟩ := qA hok ho h5 j0 (by omega)
            have := hall e he hb;rw [hon,hjf] at this;cases this
        have hfi : all[i]? = some all[i] := aB (by omega)
        obtain ⟨pre,hpre⟩ : ∃ pre,pres[i]? = some pre := ⟨_,aB him⟩;obtain ⟨o',ho',hd',hg⟩ := h3 i all[i] pre hfi hpre;rw [ho] at ho';cases ho'
        -- its predecessors have come up
        have hprel : ∀ j,j ∈ pre → listed.getD j false = true := by
          have up : ∀ (b k : Nat) (p : List Nat),k ≤ b → pres[k]? = some p → (k = i ∨ listed.getD k false = true) → ∀ j,j ∈ p → listed.getD j false = true := by
            intro b
            induction b with
            | zero =>
              intro k p hk hp _ j hj;obtain ⟨ok,hok1⟩ : ∃ o,l.toArray[k]? = some o := ⟨_,bW (by have := (aA.1 hp).1;omega)⟩
              have := (mF hok hok1 hp j hj).1;omega
            | succ b ihb =>
              intro k p hk hp hki j hj;obtain ⟨ok,hok1⟩ : ∃ o,l.toArray[k]? = some o := ⟨_,bW (by have := (aA.1 hp).1;omega)⟩
              obtain ⟨_,e,he,hb,hor⟩ := mF hok hok1 hp j hj;have hle : listed.getD e.on false = true := by
                rcases hki with rfl | hki
                · rw [ho] at hok1;cases hok1;exact hall e he hb
                · exact hcl k ok hok1 hki e he hb
              rcases hor with hor | hor
              · rw [← hor];exact hle
              · have hon := iS hok hok1 e he hb;cases hpe : pres[e.on]? with
                | none => rw [aD,hpe] at hor;simp at hor
                | some p' =>
                  rw [aD,hpe] at hor;exact ihb e.on p' (by omega) hpe (.inr hle) j hor
          exact up i i pre (aQ _) hpre (.inl rfl)
        have hpreP : L2 ρ S (sU (cW ds env) (all.take i) pre) (h ++ iC (fun j => pre.any (Nat.beq j)) 0 (all.take i)) a w := by
          have sub : ∀ (k : Nat) b,(h ++ iC (fun j => pre.any (Nat.beq j)) 0 (all.take i))[k]? = some b → b ≠ .gone → (h ++ iC (fun j => listed.getD j false) 0 all)[k]? = some b := fun k b hb hgb => by
            by_cases hk : k < h.length
            · rw [aG hk] at hb ⊢;exact hb
            · rw [aF (by omega)] at hb ⊢
              have h5 := wZ (L' := fun j => listed.getD j false) _ _ _ _ (fun j hj => hprel j (lJ.1 hj)) hb hgb;have h6 : iC (fun j => listed.getD j false) 0 all = iC (fun j => listed.getD j false) 0 (all.take i) ++ iC (fun j => listed.getD j false) (0 + (all.take i).length) (all.drop i) := by
                rw [← nL,bX]
              rw [h6,aG (aA.1 h5).1];exact h5
          refine ⟨fun t x hx => ?_,st.hs.rng,fun k b hb => ?_,fun k b p hb hgb hp => (st.hs.live k b p (sub k b hb hgb) hgb hp).2,st.hs.stab,st.hs.glob⟩
          · rcases jT hx with hx | ⟨j,f,h5,h6,h7,rfl⟩
            · exact st.env0 t x hx
            · rw [bH] at h6;split at h6
              · exact st.done j f t h6 (hprel j h5) h7
              · cases h6
          · by_cases hgb : b = .gone
            · subst hgb;trivial
            · exact st.hs.blk k b (sub k b hb hgb)
        have hposl : (h ++ iC (fun j => pre.any (Nat.beq j)) 0 (all.take i)).length = h.length + jU (all.take i) := by rw [aC,kU]
        have hokd : yZ all[i].d n = true := by
          cases hdi : all[i].d with
          | none => rfl
          | some d =>
            have : d ∈ ds := by rw [← h2];exact gZ.2 ⟨all[i],aI _,hdi⟩
            exact aT.1 hds d this
        -- on,fX it
        have on : ∀ y ρ' S' w',zT ρ ρ' S S' w w' (h.length + jU (all.take i)) all[i].new.length all[i].x all[i].new y → wpAny P .any l.toArray QQ fuel (listed.setIfInBounds i true) (a.put all[i].d y) w' := fun y ρ' S' w' p => by
          have hiU : i ∈ U := hU i hil g1';have hget : ∀ j,(listed.setIfInBounds i true).getD j false = (listed.getD j false || Nat.beq j i) := fun j => by
            by_cases hij : i = j
            · subst hij;rw [dD,oG];simp only [Array.getD,C5,hls,hil,dif_pos];simp
            · rw [getD_set_ne false hij,show Nat.beq j i = false from by rw [← cV];intro hb;have := aP hb;omega,iF]
          refine ih (listed.setIfInBounds i true) (U.erase i) ρ' S' _ w' (by simpa using hls) (fun j hj hjl => ?_) (by rw [pO hiU];omega) (fun j hj => ?_) (fun k ok hok1 hkl e he hb => ?_) (st.step (L' := fun j => (listed.setIfInBounds i true).getD j false) hfi g1' hget p hokd (by rw [h2];exact hnd) (fun t x hx => (henv t x hx).2) s.hs.mle)
          · rw [hget] at hjl;obtain ⟨h5,h6⟩ := gH.1 hjl;have hne : j ≠ i := fun e => by rw [e,dD] at h6;cases h6
            exact (uI hne).2 (hU j hj h5)
          · rw [hget,htail j hj,show Nat.beq j i = false from by rw [← cV];intro hb;have := aP hb;omega];rfl
          · rw [hget] at hkl ⊢;rcases fS.1 hkl with h5 | h5
            · rw [hcl k ok hok1 h5 e he hb];rfl
            · have := aP h5;subst this;rw [ho] at hok1;cases hok1;rw [hall e he hb];rfl
        have yv : ∀ {g t : Nat} {b : Bool},(l.toArray[g]?).bind (·.dst) = some t → look (sU (cW ds env) (all.take i) pre) t = some (.b b) → yielded l.toArray a.tmps g = some b := fun {g t b} h5 h6 => by
          have h7 := pQ (hpreP.env t _ h6);unfold yielded;rw [h5];have : a.tmps[t]? = some (.bool b) := by
            rw [cE] at h7;cases h8 : a.tmps[t]? with
            | none => rw [h8] at h7;simp [undef] at h7
            | some v => rw [h8] at h7;simp at h7;rw [h7]
          simp [this]
        have yvu : ∀ {g t : Nat},(l.toArray[g]?).bind (·.dst) = some t → look (sU (cW ds env) (all.take i) pre) t = some (.v undef) → yielded l.toArray a.tmps g = none := fun {g t} h5 h6 => by
          have h7 := pQ (hpreP.env t _ h6);unfold yielded;rw [h5];rw [cE] at h7;cases h8 : a.tmps[t]? with
          | none => simp [h8]
          | some v => rw [h8] at h7;simp at h7;simp [h8,h7,undef]
        unfold wpOp;rw [ho];simp only;rcases hg with ⟨x,new,hgu,hfs,hx,hn⟩ | ⟨g,want,t,hgu,h5,h6,hx,hn⟩
        · have hw : Region.wanted o (yielded l.toArray a.tmps) = true := by
            rcases hgu with hgu | ⟨g,want,t,hgu,h5,h6⟩
            · exact mJ hgu
            · simp [Region.wanted,hgu,yv h5 h6]
          rw [if_pos hw];left;have := hfs ρ S a w hpreP (h ++ iC (fun j => pre.any (Nat.beq j)) 0 (all.take i)).length (fun j hj => by rw [hposl];exact st.undone i _ hfi g1' j hj)
          refine this (wpAny P .any l.toArray QQ fuel (listed.setIfInBounds i true)) QQ fun y ρ' S' w' p => ?_
          rw [hx,hn,hposl] at p;have := on y ρ' S' w' p;rw [← hd'] at this;exact this
        · have hw : Region.wanted o (yielded l.toArray a.tmps) = false := by
            rcases h6 with h6 | h6
            · simp [Region.wanted,hgu,yv h5 h6]
            · simp [Region.wanted,hgu,yvu h5 h6]
          rw [if_neg (by rw [hw];exact pR)]
          have := on undef ρ S w ⟨iZ.refl _ _,rfl,fun _ _ => rfl,fun _ h => h,fun _ h => .inl h,fun k p hk1 hk2 => by rw [hn] at hk2;simp at hk2;omega,fun k k' p p' hk1 hk2 => by rw [hn] at hk2;simp at hk2;omega,by rw [hx];exact lD _,fun j b hb => by rw [hn] at hb;simp at hb⟩
          rw [← hd'] at this;exact this
  have hsize : l.toArray.size = l.length := by simp
  have hrep : ∀ j,(Array.replicate l.toArray.size false).getD j false = false := fun j => by
    simp only [Array.getD];split <;> simp
  refine key l.toArray.size _ (List.range l.toArray.size) ρ S a _ (by simp) (fun j hj _ => by simpa using hj) (by simp) (fun j _ => hrep j) (fun i o _ hi => by rw [hrep] at hi;cases hi) ?_
  have hseg : ∀ (r : List jS) (i : Nat),iC (fun _ => false) i r = List.replicate (jU r) .gone := by
    intro r
    induction r with
    | nil => intro i;rfl
    | cons f r ih => intro i;simp only [iC,ih,jU,sH]
  have hL : (fun j => (Array.replicate l.toArray.size false).getD j false) = fun _ => false := funext hrep
  rw [hL];have l0 : fN ρ ρ S S w { w with drawn := w.drawn + 1 } := ⟨fun _ _ h => h,fun _ h => h,fun _ _ => rfl,fun _ _ _ _ _ h => h⟩
  refine ⟨s.size,s.defers.later l0,s.cm,fun t x hx => (s.env t x (iD hx).1).later l0,fun i f t _ hi => (by cases hi),?_,fun i f _ _ j _ => s.hs.dom _ (by omega)⟩
  rw [hseg];have ext : iZ c.M c.w0 { w with drawn := w.drawn + 1 } := s.hs.ext.drew;have at_ : ∀ {k : Nat} {b : AB},(h ++ List.replicate (jU all) .gone)[k]? = some b → b ≠ .gone → h[k]? = some b := fun {k b} hb hg => by
    by_cases hk : k < h.length
    · rwa [aG hk] at hb
    · rw [aF (by omega),mB] at hb
      split at hb
      · cases hb;exact absurd rfl hg
      · cases hb
  refine ⟨fun k hk => s.hs.dom k (by simp at hk;omega),s.hs.rng,fun k b hb => ?_,fun k b p hb hg hp => s.hs.live k b p (at_ hb hg) hg hp,fun k k' b b' p p' hb hb' hg hg' hp hp' e => s.hs.inj k k' b b' p p' (at_ hb hg) (at_ hb' hg') hg hg' hp hp' e,s.hs.stab,ext,s.hs.st0,s.hs.st1,by simp;exact cC s.hs.mle (fD _ _),s.hs.keep,s.hs.glob.later l0⟩
  by_cases hg : b = .gone
  · subst hg;trivial
  · exact RB.later l0 (fun _ _ _ => rfl) (s.hs.blk k b (at_ hb hg))
theorem nO {P : Program} {QQ : Exit → Act → World → Prop} {id : Nat} {l : List Oper} {a : Act} {w : World} {r : Option Nat} (hm : P.follows .mixedOrders = true) (hnd : kM l = true) (h : wpAny P .any l.toArray (fun e a w => e = .normal ∧ QQ .normal a w) l.toArray.size (Array.replicate l.toArray.size false) a { w with drawn := w.drawn + 1 }) :
    (Code.region id l.toArray true).wpIn (rd r) 0 P QQ a w :=
  wpIn_mono (wpIn_region_any hm (wN (fun e a w h => h.1) hnd h)) fun e a w he => by obtain ⟨rfl,h3⟩ := he;exact h3
theorem uN {env : cJ} {all : List jS} : ∀ (s n : Nat), s + n = all.length → sU env all (List.range' s n) = (all.drop s).foldr (fun f e => fC f.d f.x e) env
  | s,0,h => by rw [dJ (by omega)];rfl
  | s,n + 1,h => by
    have hlt : s < all.length := by omega
    rw [List.range'_succ,aS hlt];simp only [sU,aB hlt,List.foldr_cons];rw [uN (s + 1) n (by omega)]
theorem wY : ∀ (i : Nat) (l : List jS), iC (fun _ => true) i l = l.flatMap (·.new)
  | _,[] => rfl
  | i,f :: r => by simp only [iC,fH,wY (i + 1) r]
def xN (env : cJ) : List jS → cJ
  | [] => env
  | f :: r => fC f.d f.x (xN env r)
def BH : List jS → Hp
  | [] => []
  | f :: r => f.new ++ BH r
theorem xM (env : cJ) : ∀ l : List jS, xN env l = l.foldr (fun f e => fC f.d f.x e) env
  | [] => rfl
  | f :: r => by simp only [xN,List.foldr_cons,xM env r]
theorem D5 : ∀ l : List jS, BH l = l.flatMap (·.new)
  | [] => rfl
  | f :: r => by simp only [BH,fH,D5 r]
section
variable {P : Program} {n : Nat × Nat} {ops : Array Oper} {pres : List (List Nat)} {ds : List Nat} {env : cJ} {h : Hp} {effs : List jS} {K : cJ → Hp → Prop} {pre : List Nat}
variable {op : Op} {ty : TypeId} {pos : String} {af : Array Edge} {d : Option Nat}
theorem XL {u : AV} (hp : pres[effs.length]? = some pre) (ho : ops[effs.length]? = some ⟨d, op, ty, pos, af, none⟩) (hs : bR P ⟨d, op, ty, pos, af, none⟩ (sU env effs pre) (h ++ iC (fun j => pre.any (Nat.beq j)) 0 effs) 0 (fun _ => u) (fun _ => []))
    (hk : DV P n ops pres ds env h (effs ++ [⟨d,u,[]⟩]) K) : DV P n ops pres ds env h effs K :=
  V3 (f := ⟨d,u,[]⟩) rfl hp ⟨_,ho,rfl,.inl ⟨fun _ => u,fun _ => [],.inl rfl,hs,rfl,rfl⟩⟩ hk
theorem VX {u : AV} {g t : Nat} {want : Bool} (hp : pres[effs.length]? = some pre) (ho : ops[effs.length]? = some ⟨d, op, ty, pos, af, some (g, want)⟩) (hj : (ops[g]?).bind (·.dst) = some t) (hl : look (sU env effs pre) t = some (.b want)) (hs : bR P ⟨d, op, ty, pos, af, none⟩ (sU env effs pre) (h ++ iC (fun j => pre.any (Nat.beq j)) 0 effs) 0 (fun _ => u) (fun _ => []))
    (hk : DV P n ops pres ds env h (effs ++ [⟨d,u,[]⟩]) K) : DV P n ops pres ds env h effs K :=
  V3 (f := ⟨d,u,[]⟩) rfl hp ⟨_,ho,rfl,.inl ⟨fun _ => u,fun _ => [],.inr ⟨g,want,t,rfl,hj,hl⟩,hs,rfl,rfl⟩⟩ hk
theorem VZ {g t : Nat} {want : Bool} (hp : pres[effs.length]? = some pre) (ho : ops[effs.length]? = some ⟨d, op, ty, pos, af, some (g, want)⟩) (hj : (ops[g]?).bind (·.dst) = some t) (hl : look (sU env effs pre) t = some (.b (!want)))
    (hk : DV P n ops pres ds env h (effs ++ [⟨d,.v undef,[]⟩]) K) : DV P n ops pres ds env h effs K :=
  V3 rfl hp ⟨_,ho,rfl,.inr ⟨g,want,t,rfl,hj,.inl hl,rfl,rfl⟩⟩ hk
theorem TO {rest : List Oper} {env' : cJ} {h' : Hp} (hl : effs.length = pres.length) (hd : gO effs = ds) (hr : ops.toList.drop pres.length = rest) (he : xN env effs = env') (hh : h ++ BH effs = h')
    (hk : VC P n ops rest env' h' K) : DV P n ops pres ds env h effs K := by
  refine TP hl hd ?_;rw [← hl,uH,uN 0 effs.length (by omega),dI,← xM,wY,← D5,hl,hr,he,hh]
  exact hk
end
theorem QT {S S' : Nat → Prop} {w : World} {ρ : Pl} {x : AV} {y : Value} (hS : ∀ b,S b → S' b) (h : R S w x ρ y) : R S' w x ρ y :=
  iU hS (fun _ _ => rfl) x ρ ρ y (fun _ _ h => h) (fun _ _ _ _ _ h => h) h
theorem NO {S S' : Nat → Prop} {w : World} {ρ : Pl} {x : List AV} {y : List Value} (hS : ∀ b,S b → S' b) (h : RL S w x ρ y) : RL S' w x ρ y :=
  iV hS (fun _ _ => rfl) x ρ ρ y (fun _ _ h => h) (fun _ _ _ _ _ h => h) h
theorem D6 {S : Nat → Prop} {w : World} {ρ : Pl} {k sz : Nat} {es : List (List AV)} (hi : AV.idfL es.flatten = true) (hb : RB S w ρ (ρ k) (.arr es sz)) {y : Value} (hy : R S w (.sl k 0 es.length sz) ρ y) : R (fun c => S c ∨ ∃ o,ρ k = some (c,o)) w (.rowE es sz) ρ y := by
  simp only [RB] at hb;obtain ⟨hl,h0,hb⟩ := hb;simp only [R] at hy ⊢;obtain ⟨a,cap,rfl,hcm,hc⟩ := hy;rcases hc with ⟨h1,rfl⟩ | ⟨b,o,h5,rfl,h7,h8⟩
  · exact ⟨a,0,rfl,by omega,fun _ => rfl,hcm,dR hl,.inl h1⟩
  · refine ⟨_,cap,rfl,h7,(fun e => by cases e),hcm,dR hl,?_⟩
    rcases hb with ⟨rfl,_⟩ | ⟨b',o',ys,g1,g2,g3⟩
    · exact .inl rfl
    · rw [h5] at g1;cases g1;exact .inr ⟨b,o,ys,by simp,.inr ⟨o,h5⟩,g2.lies,NO (fun _ h => .inl h) (qN ρ _ _ _ hi g3)⟩
theorem HS.freeze {c : mE} {ρ : Pl} {S : Nat → Prop} {h : Hp} {w : World} {k sz : Nat} {es : List (List AV)} (s : HS c ρ S h w) (hk : h[k]? = some (.arr es sz)) : HS c ρ (fun b => S b ∨ ∃ o,ρ k = some (b,o)) (h.set k .gone) w := by
  have get : ∀ {j : Nat} {b : AB},(h.set k .gone)[j]? = some b → b ≠ .gone → j ≠ k ∧ h[j]? = some b := fun {j b} hj hg => by
    rw [bQ] at hj;split at hj
    · split at hj
      · cases hj;exact absurd rfl hg
      · cases hj
    · rename_i e;exact ⟨fun e' => e e'.symm,hj⟩
  have l : fN ρ ρ S (fun b => S b ∨ ∃ o,ρ k = some (b,o)) w w := ⟨fun _ _ h => h,fun _ h => .inl h,fun _ _ => rfl,fun _ _ _ _ _ h => h⟩
  refine ⟨fun j hj => s.dom j (by simpa using hj),s.rng,fun j b hb => ?_,fun j b p hb hg hp => ?_,fun j j' b b' p p' hb hb' hg hg' hp hp' e => s.inj j j' b b' p p' (get hb hg).2 (get hb' hg').2 hg hg' hp hp' e,fun b hb => ?_,s.ext,fun b hb => .inl (s.st0 b hb),fun b hb => ?_,by simpa using s.mle,s.keep,s.glob.st (fun b hb => .inl hb)⟩
  · by_cases hg : b = .gone
    · subst hg;trivial
    · exact RB.later l (fun _ _ _ => rfl) (s.blk j b (get hb hg).2)
  · obtain ⟨h1,h2⟩ := s.live j b p (get hb hg).2 hg hp;refine ⟨h1,fun hs => ?_⟩
    rcases hs with hs | ⟨o,ho⟩
    · exact h2 hs
    · exact (get hb hg).1 (s.inj j k b _ p _ (get hb hg).2 hk hg (by simp) hp ho rfl)
  · rcases hb with hb | ⟨o,ho⟩
    · exact s.stab b hb
    · exact s.rng k _ ho
  · rcases hb with hb | ⟨o,ho⟩
    · exact s.st1 b hb
    · exact .inr (s.live k _ _ hk (by simp) ho).1
theorem lM.freeze {n : Nat × Nat} {c : mE} {ρ : Pl} {S : Nat → Prop} {env : cJ} {h : Hp} {a : Act} {w : World} {t k len sz : Nat} {es : List (List AV)} (s : lM n c ρ S env h a w) (ht : look env t = some (.sl k 0 len sz)) (hk : h[k]? = some (.arr es sz)) (hn : len = es.length) (hi : AV.idfL es.flatten = true) :
    lM n c ρ (fun b => S b ∨ ∃ o,ρ k = some (b,o)) ((t,.rowE es sz) :: env) (h.set k .gone) a w := by
  refine ⟨s.size,s.defers.st (fun _ h => .inl h),fun t' x hx => ?_,s.hs.freeze hk,s.cm⟩
  rw [eY] at hx;split at hx
  · rename_i e;subst e;cases hx;have := s.env t _ ht;rw [hn] at this;exact D6 hi (s.hs.blk k _ hk) this
  · exact QT (fun _ h => .inl h) (s.env t' x hx)
section
variable {P : Program} {n : Nat × Nat} {ops : Array Oper} {env : cJ} {h : Hp} {K : cJ → Hp → Prop} {rest : List Oper} {Q : Exit → cJ → Hp → Prop} {code : Code}
theorem tC (t : Nat) {k len sz : Nat} {es : List (List AV)} (ht : look env t = some (.sl k 0 len sz)) (hk : h[k]? = some (.arr es sz)) (hn : len = es.length) (hi : AV.idfL es.flatten = true) (hv : VC P n ops rest ((t,.rowE es sz) :: env) (h.set k .gone) K) : VC P n ops rest env h K :=
  fun c ρ S a w Q s hQ => hv c ρ _ a w Q (s.freeze ht hk hn hi) hQ
theorem EU (t : Nat) {k len sz : Nat} {es : List (List AV)} (ht : look env t = some (.sl k 0 len sz)) (hk : h[k]? = some (.arr es sz)) (hn : len = es.length) (hi : AV.idfL es.flatten = true) (hv : AW P n code ((t,.rowE es sz) :: env) (h.set k .gone) Q) : AW P n code env h Q :=
  fun c ρ S a w QQ s hQ => hv c ρ _ a w QQ (s.freeze ht hk hn hi) hQ
theorem HS.none {c : mE} {ρ : Pl} {S : Nat → Prop} {h : Hp} {w : World} (s : HS c ρ S h w) (hm : c.m = 0) : HS c (fun _ => none) S [] w :=
  ⟨fun _ _ => rfl,(fun _ _ h => by cases h),(fun _ _ hb => by simp at hb),(fun _ _ _ hb => by simp at hb),(fun _ _ _ _ _ _ hb => by simp at hb),s.stab,s.ext,s.st0,s.st1,(by rw [hm];exact bM _),(fun _ hk => by omega),s.glob⟩
theorem IQ {f : FuncId} {args : List AV} {es : List (List AV)} {len sz : Nat} (hn : len = es.length) (hi : AV.idfL es.flatten = true) (h : bN P f args [] (.sl 0 0 len sz) [.arr es sz]) : bN P f args [] (.rowE es sz) [] := by
  refine ⟨h.1,fun ρ S w vs hs ha => (h.2 ρ S w vs hs ha).mono ?_⟩;rintro e w' ⟨y,ρ',S',rfl,h2,h3⟩;rw [hn] at h3;exact ⟨y,_,_,rfl,(h2.freeze (k := 0) rfl).none rfl,B5 ρ' _ _ _ rfl (D6 hi (h2.blk 0 _ rfl) h3)⟩
end
theorem bR.more {P : Program} {o : Oper} {env env' : cJ} {h : Hp} {m : Nat} {x : Nat → AV} {new : Nat → List AB} (hs : bR P o env h m x new) (he : ∀ t u,look env t = some u → look env' t = some u) : bR P o env' h m x new :=
  fun ρ S a w p => hs ρ S a w ⟨fun t u hu => p.env t u (he t u hu),p.rng,p.blk,p.live,p.stab,p.glob⟩
def sK (env : cJ) : List jS → cJ
  | [] => env
  | f :: r => sK (fC f.d f.x env) r
theorem vS (f : jS) : ∀ (l : List jS) (env : cJ), sK env (l ++ [f]) = fC f.d f.x (sK env l)
  | [],_ => rfl
  | g :: r,env => by simp only [List.cons_append,sK,vS f r]
def mG : Nat → List jS → List (Nat × Hp)
  | _,[] => []
  | i, f :: r => match f.new with
    | [] => mG (i + 1) r
    | b :: q => (i,b :: q) :: mG (i + 1) r
def lX (pre : List Nat) : List (Nat × Hp) → Hp
  | [] => []
  | (i,l) :: r => (match pre.any (Nat.beq i) with | true => l | false => List.replicate l.length .gone) ++ lX pre r
theorem jV (pre : List Nat) : ∀ (i : Nat) (l : List jS), iC (fun j => pre.any (Nat.beq j)) i l = lX pre (mG i l)
  | _,[] => rfl
  | i,f :: r => by
    simp only [iC,mG];cases hf : f.new with
    | nil => simp only [List.length_nil,List.replicate_zero] <;> (cases pre.any (Nat.beq i) <;> simpa using jV pre (i + 1) r)
    | cons b q => simp only [lX];rw [jV pre (i + 1) r];try rfl
theorem sJ {f : jS} (hf : f.new = []) : ∀ (l : List jS) (i : Nat), mG i (l ++ [f]) = mG i l
  | [],i => by simp [mG,hf]
  | g :: r,i => by
    simp only [List.cons_append,mG];rw [sJ hf r (i + 1)]
theorem zZ {f : jS} (hf : f.new ≠ []) : ∀ (l : List jS) (i : Nat), mG i (l ++ [f]) = mG i l ++ [(i + l.length, f.new)]
  | [],i => by
    simp only [List.nil_append,mG,List.length_nil,Nat.add_zero];cases h : f.new with
    | nil => exact absurd h hf
    | cons b q => rfl
  | g :: r,i => by
    simp only [List.cons_append,mG];rw [zZ hf r (i + 1)];have : i + (g :: r).length = i + 1 + r.length := by simp;omega
    rw [this];cases g.new <;> rfl
theorem uP : ∀ (l : List jS) (i : Nat), BH l = ((mG i l).map (·.2)).flatten
  | [],_ => rfl
  | f :: r,i => by
    simp only [BH,mG];rw [uP r (i + 1)];cases hf : f.new <;> simp
def lK : List (Nat × Hp) → Hp
  | [] => []
  | (_,l) :: r => l ++ lK r
theorem sE : ∀ l : List (Nat × Hp), lK l = (l.map (·.2)).flatten
  | [] => rfl
  | (_,l) :: r => by simp only [lK,List.map_cons,bJ,sE r]
def iQ (ops : List Oper) (pres : List (List Nat)) (ds : List Nat) (bads : List (List Nat)) (n : Nat) : Bool :=
  pE ops.toArray pres && decide ds.Nodup && ds.all (fun d => Nat.blt d n) && Nat.ble pres.length ops.length &&
  decide ((ops.take pres.length).filterMap (·.dst) = ds) &&
  (List.range pres.length).all fun i => (List.range i).all fun j => (pres.getD i []).any (Nat.beq j) || (match ops[j]? with
    | some o => (match o.dst with | some d => (bads.getD i []).any (Nat.beq d) | none => true)
    | none => true)
section
variable {P : Program} {n : Nat × Nat} {ops : List Oper} {pres : List (List Nat)} {ds : List Nat} {bads : List (List Nat)} {env : cJ} {h : Hp} {K : cJ → Hp → Prop} {pre bad : List Nat}
structure wJ (ops : List Oper) (env : cJ) (i : Nat) (cur : cJ) (objs : List (Nat × Hp)) (effs : List jS) : Prop where
  len : effs.length = i
  cur : cur = sK env effs
  objs : objs = mG 0 effs
  dst : ∀ (j : Nat) f,effs[j]? = some f → ∃ o,ops[j]? = some o ∧ o.dst = f.d
def DW (P : Program) (n : Nat × Nat) (ops : List Oper) (pres : List (List Nat)) (ds : List Nat) (bads : List (List Nat)) (env : cJ) (h : Hp) (i : Nat) (cur : cJ) (objs : List (Nat × Hp)) (K : cJ → Hp → Prop) : Prop :=
  iQ ops pres ds bads n.1 = true → (∀ t,t ∈ ds → look env t = none) → ∀ effs,wJ ops env i cur objs effs → DV P n ops.toArray pres ds env h effs K
theorem R2 {KK : cJ → Hp → Prop} {l : List Oper} (pres : List (List Nat)) (ds : List Nat) (bads : List (List Nat)) (hok : iQ l pres ds bads n.1 = true)
    (hv : DW P n l pres ds bads (cW ds env) h 0 (cW ds env) [] KK) : ∀ c ρ S a w QQ,lM n c ρ S env h a w → (∀ env' h' ρ' S' a' w',KK env' h' → lM n c ρ' S' env' h' a' w' → QQ Exit.normal a' w') →
    wpAny P .any l.toArray QQ l.toArray.size (Array.replicate l.toArray.size false) a { w with drawn := w.drawn + 1 } := by
  have hok' := hok;simp only [iQ,aM,decide_eq_true_eq] at hok';obtain ⟨⟨⟨⟨⟨h1,h2⟩,h3⟩,h4⟩,h5⟩,h6⟩ := hok';refine NF pres ds h1 h2 h3 h4 (hv hok (fun t ht => ?_) [] ⟨rfl,rfl,rfl,fun j f hf => by simp at hf⟩)
  cases hl : look (cW ds env) t with
  | none => rfl
  | some x => exact absurd ht (iD hl).2
theorem NB {Q : Exit → cJ → Hp → Prop} {id : Nat} {l : List Oper} (pres : List (List Nat)) (ds : List Nat) (bads : List (List Nat)) (hm : P.follows .mixedOrders = true) (hok : iQ l pres ds bads n.1 = true)
    (hv : DW P n l pres ds bads (cW ds env) h 0 (cW ds env) [] (fun v h => Q .normal v h)) (hndf : kM l = true := by rfl) : AW P n (.region id l.toArray true) env h Q :=
  fun c ρ S a w QQ s hQ => nO hm hndf (R2 pres ds bads hok hv c ρ S a w (fun e a w => e = .normal ∧ QQ .normal a w) s fun env' h' ρ' S' a' w' k s' => ⟨rfl,hQ .normal env' h' ρ' S' a' w' k s'⟩)
theorem vT : ∀ {effs : List jS} {env : cJ} {t : Nat} {x : AV}, look (sK env effs) t = some x → (look env t = some x ∧ ∀ (j : Nat) f, effs[j]? = some f → f.d ≠ some t) ∨ ∃ (j : Nat) (f : jS), effs[j]? = some f ∧ f.d = some t ∧ f.x = x
  | [],env,t,x,h => .inl ⟨h,fun j f hf => by simp at hf⟩
  | f :: r,env,t,x,h => by
    rcases vT (effs := r) h with ⟨h1,h2⟩ | ⟨j,g,h1,h2,h3⟩
    · cases hd : f.d with
      | none =>
        rw [hd] at h1;refine .inl ⟨h1,fun j g hg => ?_⟩
        cases j with
        | zero => simp at hg;subst hg;rw [hd];simp
        | succ j => exact h2 j g (by simpa using hg)
      | some d =>
        rw [hd] at h1;simp only [fC,eY] at h1;split at h1
        · rename_i e;subst e;cases h1;exact .inr ⟨0,f,rfl,hd,rfl⟩
        · rename_i e;refine .inl ⟨h1,fun j g hg => ?_⟩
          cases j with
          | zero => simp at hg;subst hg;rw [hd];simpa using e
          | succ j => exact h2 j g (by simpa using hg)
    · exact .inr ⟨j + 1,g,by simpa using h1,h2,h3⟩
theorem wV {env : cJ} {effs : List jS} {t : Nat} : ∀ {pre : List Nat}, (∀ (j : Nat) f, effs[j]? = some f → f.d ≠ some t) → look (sU env effs pre) t = look env t
  | [],_ => rfl
  | k :: r,hn => by
    simp only [sU];cases hk : effs[k]? with
    | none => exact wV hn
    | some f =>
      have := hn k f hk;simp only;cases hd : f.d with
      | none => exact wV hn
      | some d =>
        rw [hd] at this;simp only [fC,eY];rw [if_neg (fun e => this (by rw [e])),wV hn]
theorem C9 {env : cJ} {effs : List jS} {t j : Nat} {f : jS} (hf : effs[j]? = some f) (hd : f.d = some t) (hu : ∀ (k : Nat) g, effs[k]? = some g → g.d = some t → k = j) : ∀ {pre : List Nat}, j ∈ pre → look (sU env effs pre) t = some f.x
  | k :: r,hj => by
    simp only [sU];by_cases hkj : k = j
    · subst hkj;rw [hf];simp only [hd,fC,eY,if_pos]
    · have hr : j ∈ r := by
        rcases aR.1 hj with e | e
        · exact absurd e.symm hkj
        · exact e
      cases hk : effs[k]? with
      | none => exact C9 hf hd hu hr
      | some g =>
        simp only;cases hgd : g.d with
        | none => exact C9 hf hd hu hr
        | some d =>
          simp only [fC,eY];rw [if_neg (fun e => hkj (hu k g hk (by rw [hgd,e])))]
          exact C9 hf hd hu hr
theorem sN {α β : Type} {f : α → Option β} : ∀ {l : List α}, (l.filterMap f).Nodup → ∀ {i j : Nat} {a b : α} {x : β}, l[i]? = some a → l[j]? = some b → f a = some x → f b = some x → i = j
  | [],_,i,j,a,b,x,hi,_,_,_ => by simp at hi
  | c :: r,hnd,i,j,a,b,x,hi,hj,ha,hb => by
    have mem : ∀ {k : Nat} {u : α},r[k]? = some u → f u = some x → x ∈ r.filterMap f := fun hk hu => gZ.2 ⟨_,aH hk,hu⟩
    have hr : (r.filterMap f).Nodup := by
      cases hc : f c with
      | none => rwa [List.filterMap_cons_none hc] at hnd
      | some y => rw [lL hc] at hnd;exact (aL.1 hnd).2
    cases i with
    | zero =>
      cases j with
      | zero => rfl
      | succ j =>
        simp at hi hj;subst hi;rw [lL ha] at hnd;exact absurd (mem hj hb) (aL.1 hnd).1
    | succ i =>
      cases j with
      | zero =>
        simp at hi hj;subst hj;rw [lL hb] at hnd;exact absurd (mem hi ha) (aL.1 hnd).1
      | succ j => exact congrArg (· + 1) (sN hr (a := a) (b := b) (i := i) (j := j) (by simpa using hi) (by simpa using hj) ha hb)
theorem wJ.see {i : Nat} {cur : cJ} {objs : List (Nat × Hp)} {effs : List jS} (hok : iQ ops pres ds bads n.1 = true) (g : wJ ops env i cur objs effs) (hp : pres[i]? = some pre) (hb : bads[i]? = some bad) : ∀ t x,look (cW bad cur) t = some x → look (sU env effs pre) t = some x := by
  intro t x hx;simp only [iQ,aM,decide_eq_true_eq] at hok;obtain ⟨⟨⟨⟨⟨h1,h2⟩,h3⟩,h4⟩,h5⟩,h6⟩ := hok;obtain ⟨h7,h8⟩ := iD hx;rw [g.cur] at h7;have hi : i < pres.length := (aA.1 hp).1;rcases vT h7 with ⟨h9,h10⟩ | ⟨j,f,h9,h10,h11⟩
  · rw [wV h10];exact h9
  · have hji : j < i := by rw [← g.len];exact (aA.1 h9).1
    obtain ⟨o,ho,hod⟩ := g.dst j f h9;have huniq : ∀ (k : Nat) q,effs[k]? = some q → q.d = some t → k = j := fun k q hk hq => by
      obtain ⟨o',ho',hod'⟩ := g.dst k q hk;have hki : k < i := by rw [← g.len];exact (aA.1 hk).1
      rw [← h5] at h2;refine sN h2 (i := k) (j := j) (a := o') (b := o) (x := t) ?_ ?_ (by rw [hod',hq]) (by rw [hod,h10])
      · rw [bH,if_pos (by omega)];exact ho'
      · rw [bH,if_pos (by omega)];exact ho
    rw [← h11];refine C9 h9 h10 huniq ?_;have h12 := aT.1 (aT.1 h6 i (by simpa using hi)) j (by simpa using hji)
    rcases fS.1 h12 with h12 | h12
    · rw [aD,hp] at h12;exact lJ.1 h12
    · rw [ho] at h12;simp only [hod,h10] at h12;rw [aD,hb] at h12;exact absurd (lJ.1 h12) h8
section
variable {op : Op} {ty : TypeId} {pos : String} {af : Array Edge} {d : Option Nat} {i : Nat} {cur : cJ} {objs : List (Nat × Hp)}
theorem wJ.snoc {effs : List jS} {f : jS} {o : Oper} (g : wJ ops env i cur objs effs) (ho : ops[i]? = some o) (hd : o.dst = f.d) (hf : f.new = []) : wJ ops env (i + 1) (fC f.d f.x cur) objs (effs ++ [f]) := by
  refine ⟨by simp [g.len],by rw [vS,g.cur],by rw [sJ hf];exact g.objs,fun j q hj => ?_⟩
  by_cases hlt : j < effs.length
  · rw [aG hlt] at hj;exact g.dst j q hj
  · have hle := (aA.1 hj).1;have hji : j = i := by have := g.len;simp at hle;omega
    subst hji;rw [aF (by omega),g.len] at hj
    simp at hj;subst hj;exact ⟨o,ho,hd⟩
theorem wJ.snoc' {effs : List jS} {f : jS} {o : Oper} (g : wJ ops env i cur objs effs) (ho : ops[i]? = some o) (hd : o.dst = f.d) (hf : f.new ≠ []) : wJ ops env (i + 1) (fC f.d f.x cur) (objs ++ [(i,f.new)]) (effs ++ [f]) := by
  refine ⟨by simp [g.len],by rw [vS,g.cur],by rw [zZ hf,g.len,Nat.zero_add,g.objs],fun j q hj => ?_⟩
  by_cases hlt : j < effs.length
  · rw [aG hlt] at hj;exact g.dst j q hj
  · have hle := (aA.1 hj).1;have hji : j = i := by have := g.len;simp at hle;omega
    subst hji;rw [aF (by omega),g.len] at hj
    simp at hj;subst hj;exact ⟨o,ho,hd⟩
theorem XK {dd : Nat} {u : AV} (ho : ops[i]? = some ⟨some dd, op, ty, pos, af, none⟩) (hp : pres[i]? = some pre) (hb : bads[i]? = some bad) (hs : bR P ⟨some dd, op, ty, pos, af, none⟩ (cW bad cur) (h ++ lX pre objs) 0 (fun _ => u) (fun _ => []))
    (hk : DW P n ops pres ds bads env h (i + 1) ((dd,u) :: cur) objs K) : DW P n ops pres ds bads env h i cur objs K := by
  intro hok hen effs g;refine XL (u := u) (d := some dd) (by rw [g.len];exact hp) (by rw [g.len];simpa using ho) (by rw [jV,← g.objs];exact hs.more (g.see hok hp hb)) (hk hok hen _ (g.snoc (f := ⟨some dd,u,[]⟩) ho rfl rfl))
theorem VV {dd : Nat} {u : AV} {gd t : Nat} {want : Bool} (ho : ops[i]? = some ⟨some dd, op, ty, pos, af, some (gd, want)⟩) (hp : pres[i]? = some pre) (hb : bads[i]? = some bad) (hj : (ops[gd]?).bind (·.dst) = some t) (hl : look (cW bad cur) t = some (.b want)) (hs : bR P ⟨some dd, op, ty, pos, af, none⟩ (cW bad cur) (h ++ lX pre objs) 0 (fun _ => u) (fun _ => []))
    (hk : DW P n ops pres ds bads env h (i + 1) ((dd,u) :: cur) objs K) : DW P n ops pres ds bads env h i cur objs K := by
  intro hok hen effs g;refine VX (u := u) (d := some dd) (by rw [g.len];exact hp) (by rw [g.len];simpa using ho) (by simpa using hj) (g.see hok hp hb _ _ hl) (by rw [jV,← g.objs];exact hs.more (g.see hok hp hb)) (hk hok hen _ (g.snoc (f := ⟨some dd,u,[]⟩) ho rfl rfl))
theorem VW {dd : Nat} {gd t : Nat} {want : Bool} (ho : ops[i]? = some ⟨some dd, op, ty, pos, af, some (gd, want)⟩) (hp : pres[i]? = some pre) (hb : bads[i]? = some bad) (hj : (ops[gd]?).bind (·.dst) = some t) (hl : look (cW bad cur) t = some (.b (!want)))
    (hk : DW P n ops pres ds bads env h (i + 1) ((dd,.v undef) :: cur) objs K) : DW P n ops pres ds bads env h i cur objs K := by
  intro hok hen effs g;refine VZ (d := some dd) (by rw [g.len];exact hp) (by rw [g.len];simpa using ho) (by simpa using hj) (g.see hok hp hb _ _ hl) (hk hok hen _ (g.snoc (f := ⟨some dd,.v undef,[]⟩) ho rfl rfl))
theorem dG {dd : Nat} {gd t : Nat} {want : Bool} (hk : DW P n ops pres ds bads env h (i + 1) ((dd,.v undef) :: cur) objs K) (ho : ops[i]? = some ⟨some dd,op,ty,pos,af,some (gd,want)⟩ := by rfl) (hp : pres[i]? = some pre := by rfl) (hb : bads[i]? = some bad := by rfl) (hj : (ops[gd]?).bind (·.dst) = some t := by rfl) (hl : look (cW bad cur) t = some (.b (!want)) := by rfl) : DW P n ops pres ds bads env h i cur objs K := VW ho hp hb hj hl hk
theorem dV {dd : Nat} {u : AV} (e : (ops[i]?,pres[i]?,bads[i]?) = (some ⟨some dd,op,ty,pos,af,none⟩,some pre,some bad)) (hs : bR P ⟨some dd,op,ty,pos,af,none⟩ (cW bad cur) (h ++ lX pre objs) 0 (fun _ => u) (fun _ => [])) (hk : DW P n ops pres ds bads env h (i + 1) ((dd,u) :: cur) objs K) : DW P n ops pres ds bads env h i cur objs K :=
  XK (congrArg (·.1) e) (congrArg (·.2.1) e) (congrArg (·.2.2) e) hs hk
theorem dT {dd : Nat} {u : AV} {gd t : Nat} {want : Bool} (e : (ops[i]?,pres[i]?,bads[i]?,(ops[gd]?).bind (·.dst),look (cW bad cur) t) = (some ⟨some dd,op,ty,pos,af,some (gd,want)⟩,some pre,some bad,some t,some (.b want))) (hs : bR P ⟨some dd,op,ty,pos,af,none⟩ (cW bad cur) (h ++ lX pre objs) 0 (fun _ => u) (fun _ => [])) (hk : DW P n ops pres ds bads env h (i + 1) ((dd,u) :: cur) objs K) : DW P n ops pres ds bads env h i cur objs K :=
  VV (congrArg (·.1) e) (congrArg (·.2.1) e) (congrArg (·.2.2.1) e) (congrArg (·.2.2.2.1) e) (congrArg (·.2.2.2.2) e) hs hk
theorem dM {dd : Nat} {x : Operand} {u : AV} (hk : DW P n ops pres ds bads env h (i + 1) ((dd,u) :: cur) objs K) (e : (ops[i]?,pres[i]?,bads[i]?) = (some ⟨some dd,.move x,ty,pos,af,none⟩,some pre,some bad) := by rfl) (hx : evu (cW bad cur) x = some u := by rfl) : DW P n ops pres ds bads env h i cur objs K := dV e (eQ hx) hk
theorem dL (T : lR P) {dd t off : Nat} {ii : TI} {cs : List AV} {x : Operand} {u v : AV} (hk : DW P n ops pres ds bads env h (i + 1) ((dd,u) :: cur) objs K) (e : (ops[i]?,pres[i]?,bads[i]?) = (some ⟨some dd,.load t x,ty,pos,af,none⟩,some pre,some bad) := by rfl) (hx : evu (cW bad cur) x = some v := by rfl) (ht : T.ti t = some ii := by rfl) (hb : fX (h ++ lX pre objs) v = some (cs,off) := by rfl) (hz : lP ii cs off = some u := by rfl) : DW P n ops pres ds bads env h i cur objs K := dV e (bC T hx ht hb hz) hk
theorem dF (T : lR P) {dd t f kf : Nat} {x : Operand} {u v : AV} (hk : DW P n ops pres ds bads env h (i + 1) ((dd,u) :: cur) objs K) (e : (ops[i]?,pres[i]?,bads[i]?) = (some ⟨some dd,.fieldAddr t x f,ty,pos,af,none⟩,some pre,some bad) := by rfl) (hx : evu (cW bad cur) x = some v := by rfl) (hf : T.field t f = some kf := by rfl) (hz : v.plus kf = some u := by rfl) : DW P n ops pres ds bads env h i cur objs K := dV e (eE T hx hf hz) hk
theorem tM {dd gd tg : Nat} {want : Bool} {x : Operand} {u : AV} (hk : DW P n ops pres ds bads env h (i + 1) ((dd,u) :: cur) objs K) (e : (ops[i]?,pres[i]?,bads[i]?,(ops[gd]?).bind (·.dst),look (cW bad cur) tg) = (some ⟨some dd,.move x,ty,pos,af,some (gd,want)⟩,some pre,some bad,some tg,some (.b want)) := by rfl) (hx : evu (cW bad cur) x = some u := by rfl) : DW P n ops pres ds bads env h i cur objs K := dT e (eQ hx) hk
theorem tL (T : lR P) {dd gd tg t off : Nat} {want : Bool} {ii : TI} {cs : List AV} {x : Operand} {u v : AV} (hk : DW P n ops pres ds bads env h (i + 1) ((dd,u) :: cur) objs K) (e : (ops[i]?,pres[i]?,bads[i]?,(ops[gd]?).bind (·.dst),look (cW bad cur) tg) = (some ⟨some dd,.load t x,ty,pos,af,some (gd,want)⟩,some pre,some bad,some tg,some (.b want)) := by rfl) (hx : evu (cW bad cur) x = some v := by rfl) (ht : T.ti t = some ii := by rfl) (hb : fX (h ++ lX pre objs) v = some (cs,off) := by rfl) (hz : lP ii cs off = some u := by rfl) : DW P n ops pres ds bads env h i cur objs K := dT e (bC T hx ht hb hz) hk
theorem tF (T : lR P) {dd gd tg t f kf : Nat} {want : Bool} {x : Operand} {u v : AV} (hk : DW P n ops pres ds bads env h (i + 1) ((dd,u) :: cur) objs K) (e : (ops[i]?,pres[i]?,bads[i]?,(ops[gd]?).bind (·.dst),look (cW bad cur) tg) = (some ⟨some dd,.fieldAddr t x f,ty,pos,af,some (gd,want)⟩,some pre,some bad,some tg,some (.b want)) := by rfl) (hx : evu (cW bad cur) x = some v := by rfl) (hf : T.field t f = some kf := by rfl) (hz : v.plus kf = some u := by rfl) : DW P n ops pres ds bads env h i cur objs K := dT e (eE T hx hf hz) hk
theorem dN {dd : Nat} {x : Operand} {u : AV} (e : (ops[i]?,pres[i]?,bads[i]?,evu (cW bad cur) x) = (some ⟨some dd,.move x,ty,pos,af,none⟩,some pre,some bad,some u)) (hk : DW P n ops pres ds bads env h (i + 1) ((dd,u) :: cur) objs K) : DW P n ops pres ds bads env h i cur objs K := dM hk (congrArg (fun q => (q.1,q.2.1,q.2.2.1)) e) (congrArg (·.2.2.2) e)
theorem tN {dd gd tg : Nat} {want : Bool} {x : Operand} {u : AV} (e : (ops[i]?,pres[i]?,bads[i]?,(ops[gd]?).bind (·.dst),look (cW bad cur) tg,evu (cW bad cur) x) = (some ⟨some dd,.move x,ty,pos,af,some (gd,want)⟩,some pre,some bad,some tg,some (.b want),some u)) (hk : DW P n ops pres ds bads env h (i + 1) ((dd,u) :: cur) objs K) : DW P n ops pres ds bads env h i cur objs K := tM hk (congrArg (fun q => (q.1,q.2.1,q.2.2.1,q.2.2.2.1,q.2.2.2.2.1)) e) (congrArg (·.2.2.2.2.2) e)
theorem dO (T : lR P) {dd t off : Nat} {ii : TI} {cs : List AV} {x : Operand} {u v : AV} (e : (ops[i]?,pres[i]?,bads[i]?,evu (cW bad cur) x,T.ti t,fX (h ++ lX pre objs) v,lP ii cs off) = (some ⟨some dd,.load t x,ty,pos,af,none⟩,some pre,some bad,some v,some ii,some (cs,off),some u)) (hk : DW P n ops pres ds bads env h (i + 1) ((dd,u) :: cur) objs K) : DW P n ops pres ds bads env h i cur objs K := dL T hk (congrArg (fun q => (q.1,q.2.1,q.2.2.1)) e) (congrArg (·.2.2.2.1) e) (congrArg (·.2.2.2.2.1) e) (congrArg (·.2.2.2.2.2.1) e) (congrArg (·.2.2.2.2.2.2) e)
theorem tO (T : lR P) {dd t off gd tg : Nat} {want : Bool} {ii : TI} {cs : List AV} {x : Operand} {u v : AV} (e : (ops[i]?,pres[i]?,bads[i]?,(ops[gd]?).bind (·.dst),look (cW bad cur) tg,evu (cW bad cur) x,T.ti t,fX (h ++ lX pre objs) v,lP ii cs off) = (some ⟨some dd,.load t x,ty,pos,af,some (gd,want)⟩,some pre,some bad,some tg,some (.b want),some v,some ii,some (cs,off),some u)) (hk : DW P n ops pres ds bads env h (i + 1) ((dd,u) :: cur) objs K) : DW P n ops pres ds bads env h i cur objs K := tL T hk (congrArg (fun q => (q.1,q.2.1,q.2.2.1,q.2.2.2.1,q.2.2.2.2.1)) e) (congrArg (·.2.2.2.2.2.1) e) (congrArg (·.2.2.2.2.2.2.1) e) (congrArg (·.2.2.2.2.2.2.2.1) e) (congrArg (·.2.2.2.2.2.2.2.2) e)
theorem dP (T : lR P) {dd t f kf : Nat} {x : Operand} {u v : AV} (e : (ops[i]?,pres[i]?,bads[i]?,evu (cW bad cur) x,T.field t f,v.plus kf) = (some ⟨some dd,.fieldAddr t x f,ty,pos,af,none⟩,some pre,some bad,some v,some kf,some u)) (hk : DW P n ops pres ds bads env h (i + 1) ((dd,u) :: cur) objs K) : DW P n ops pres ds bads env h i cur objs K := dF T hk (congrArg (fun q => (q.1,q.2.1,q.2.2.1)) e) (congrArg (·.2.2.2.1) e) (congrArg (·.2.2.2.2.1) e) (congrArg (·.2.2.2.2.2) e)
theorem tP (T : lR P) {dd t f kf gd tg : Nat} {want : Bool} {x : Operand} {u v : AV} (e : (ops[i]?,pres[i]?,bads[i]?,(ops[gd]?).bind (·.dst),look (cW bad cur) tg,evu (cW bad cur) x,T.field t f,v.plus kf) = (some ⟨some dd,.fieldAddr t x f,ty,pos,af,some (gd,want)⟩,some pre,some bad,some tg,some (.b want),some v,some kf,some u)) (hk : DW P n ops pres ds bads env h (i + 1) ((dd,u) :: cur) objs K) : DW P n ops pres ds bads env h i cur objs K := tF T hk (congrArg (fun q => (q.1,q.2.1,q.2.2.1,q.2.2.2.1,q.2.2.2.2.1)) e) (congrArg (·.2.2.2.2.2.1) e) (congrArg (·.2.2.2.2.2.2.1) e) (congrArg (·.2.2.2.2.2.2.2) e)
theorem tG {dd : Nat} {gd t : Nat} {want : Bool} (e : (ops[i]?,pres[i]?,bads[i]?,(ops[gd]?).bind (·.dst),look (cW bad cur) t) = (some ⟨some dd,op,ty,pos,af,some (gd,want)⟩,some pre,some bad,some t,some (.b (!want)))) (hk : DW P n ops pres ds bads env h (i + 1) ((dd,.v undef) :: cur) objs K) : DW P n ops pres ds bads env h i cur objs K := dG hk (congrArg (·.1) e) (congrArg (·.2.1) e) (congrArg (·.2.2.1) e) (congrArg (·.2.2.2.1) e) (congrArg (·.2.2.2.2) e)
theorem xP {gd t : Nat} {want b : Bool} (ho : ops[i]? = some ⟨d, op, ty, pos, af, some (gd, want)⟩) (hb : bads[i]? = some bad) (hj : (ops[gd]?).bind (·.dst) = some t) (hl : look (cW bad cur) t = some (.b b))
    (ht : b = true → DW P n ops pres ds bads env h i cur objs K) (hf : b = false → DW P n ops pres ds bads env h i cur objs K) : DW P n ops pres ds bads env h i cur objs K := by
  cases b
  · exact hf rfl
  · exact ht rfl
theorem zK {effs : List jS} {env : cJ} {t : Nat} {x : AV} (hd : (effs.filterMap (·.d)).Nodup) (hx : look (sK env effs) t = some x) : look (xN env effs) t = some x := by
  induction effs generalizing env with
  | nil => exact hx
  | cons f r ih =>
    have hr : (r.filterMap (·.d)).Nodup := by
      cases hc : f.d with
      | none => rwa [List.filterMap_cons_none hc] at hd
      | some y => rw [lL hc] at hd;exact (aL.1 hd).2
    have miss : ∀ {l : List jS} {env : cJ},(∀ (j : Nat) f,l[j]? = some f → f.d ≠ some t) → look (xN env l) t = look env t := fun {l env} hl => by
      induction l with
      | nil => rfl
      | cons g q ihq =>
        have h0 := hl 0 g rfl;have hq := ihq (fun j f hf => hl (j + 1) f (by simpa using hf))
        simp only [xN];cases hg : g.d with
        | none => exact hq
        | some d =>
          simp only [fC,eY];rw [if_neg (fun e => h0 (by rw [hg,e])),hq]
    simp only [sK] at hx;simp only [xN];rcases vT hx with ⟨h1,h2⟩ | ⟨j,g,h1,h2,h3⟩
    · cases hfd : f.d with
      | none => rw [hfd] at h1;simp only [fC] at h1 ⊢;rw [miss h2];exact h1
      | some d =>
        rw [hfd] at h1;simp only [fC,eY] at h1 ⊢;split at h1
        · rename_i e;rw [if_pos e];exact h1
        · rename_i e;rw [if_neg e,miss h2];exact h1
    · have hne : f.d ≠ some t := fun e => by
        rw [lL e] at hd;exact (aL.1 hd).1 (gZ.2 ⟨g,aH h1,h2⟩)
      have hx' : look (sK env r) t = some x := by
        cases hfd : f.d with
        | none => rw [hfd] at hx;exact hx
        | some d =>
          rw [hfd] at hx;have key : ∀ (l : List jS) (e1 e2 : cJ),look e1 t = look e2 t → look (sK e1 l) t = look (sK e2 l) t := by
            intro l
            induction l with
            | nil => exact fun _ _ h => h
            | cons q l ihl =>
              intro e1 e2 he;simp only [sK];refine ihl _ _ ?_;cases q.d with
              | none => exact he
              | some d => simp only [fC,eY];rw [he]
          have hdt : d ≠ t := fun e => hne (by rw [hfd,e])
          rw [← hx];exact key r env _ (by simp only [fC,eY];rw [if_neg hdt])
      have := ih hr hx';cases hfd : f.d with
      | none => exact this
      | some d => simp only [fC,eY];rw [if_neg (fun e => hne (by rw [hfd,e]))];exact this
theorem VC.moreE {ops : Array Oper} {rest : List Oper} {env env' : cJ} {h : Hp} {K : cJ → Hp → Prop} (hv : VC P n ops rest env h K) (he : ∀ t x,look env t = some x → look env' t = some x) : VC P n ops rest env' h K :=
  fun c ρ S a w Q s hQ => hv c ρ S a w Q (s.fewer he) hQ
theorem TN (hi : pres.length = i) {rest : List Oper} {h' : Hp} (hr : ops.drop i = rest) (hh : h ++ lK objs = h')
    (hk : VC P n ops.toArray rest cur h' K) : DW P n ops pres ds bads env h i cur objs K := by
  intro hok hen effs g;have hok' := hok;simp only [iQ,aM,decide_eq_true_eq] at hok';obtain ⟨⟨⟨⟨⟨h1,h2⟩,h3⟩,h4⟩,h5⟩,h6⟩ := hok';have hds : gO effs = ds := by
    rw [← h5];have hle : i ≤ ops.length := by rw [← hi];exact aU h4
    unfold gO;have : effs.map (·.d) = (ops.take pres.length).map (·.dst) := by
      apply cU;intro j;simp only [aO,bH,hi];by_cases hj : j < i
      · rw [if_pos hj];have hje : j < effs.length := by rw [g.len];exact hj
        obtain ⟨o,ho,hod⟩ := g.dst j effs[j] (aB hje);rw [aB hje,ho];simp [hod]
      · rw [if_neg hj,bO (by rw [g.len];omega)];rfl
    have e1 : effs.filterMap (·.d) = (effs.map (·.d)).filterMap id := by rw [mQ];rfl
    have e2 : (ops.take pres.length).filterMap (·.dst) = ((ops.take pres.length).map (·.dst)).filterMap id := by rw [mQ];rfl
    rw [e1,e2,this]
  refine TO (rest := rest) (env' := xN env effs) (h' := h ++ BH effs) (by rw [g.len,hi]) hds (by rw [hi];simpa using hr) rfl rfl ?_
  have e : h ++ BH effs = h' := by rw [uP effs 0,← g.objs,← sE];exact hh
  rw [e];refine hk.moreE fun t x hx => ?_
  rw [g.cur] at hx;exact zK (by have : gO effs = effs.filterMap (·.d) := rfl;rw [← this,hds];exact h2) hx
theorem dE {rest : List Oper} {h' : Hp} (hk : VC P n ops.toArray rest cur h' K) (hi : pres.length = i := by rfl) (hr : ops.drop i = rest := by rfl) (hh : h ++ lK objs = h' := by first | (dsimp only [List.nil_append,List.cons_append,List.append_nil,List.length_cons,List.length_nil,List.set_cons_zero,List.set_cons_succ,List.map_cons,List.map_nil,gM,fC,lK,oB,GR,yH,M0,L8,L7,L9,yG,yJ,yE,yI,Nat.zero_add,Nat.add_zero,Nat.reduceAdd,Bool.not_true,Bool.not_false];first | done | exact rfl) | exact rfl) : DW P n ops pres ds bads env h i cur objs K := TN hi hr hh hk
end
end
def P9 (P : Program) : Nat → List Field → Bool
  | _,[] => true
  | i, f :: r => decide (f.name ≠ "_") && Nat.beq f.offset i && (match P.underlying f.type with | some (.int _) => P.plainKey f.type | _ => false) && P9 P (i + 1) r
def HR (P : Program) (t : TypeId) (n : Nat) : Bool := match P.underlying t with
  | some (.struct fs) => Nat.beq fs.size n && P9 P 0 fs.toList && !P.stoodInHeld t && !P.eqGuardType P.depth t
  | _ => false
def RW (P : Program) (t : TypeId) : Prop := P.underlying t = some .bool
section
variable {P : Program} {env : cJ} {h : Hp}
variable {d : Option Nat} {ty : TypeId} {pos : String} {af : Array Edge} {g : Option (Nat × Bool)}
end
section
variable {P : Program} {n : Nat × Nat} {ops : Array Oper} {env : cJ} {h : Hp} {K : cJ → Hp → Prop} {rest : List Oper} {Q : Exit → cJ → Hp → Prop} {code : Code}
theorem lM.own {c : mE} {ρ : Pl} {S : Nat → Prop} {a : Act} {w : World} {t sz : Nat} (s : lM n c ρ S env h a w) (ht : look env t = some .nils) (hs : 0 < sz) : lM n c ρ S ((t,.sl h.length 0 0 sz) :: env) (h ++ [.arr [] sz]) a w := by
  refine ⟨s.size,s.defers,fun t' x hx => ?_,?_,s.cm⟩
  · rw [eY] at hx;split at hx
    · rename_i e;subst e;cases hx;rw [pQ (s.env t _ ht)];simp only [R];exact ⟨none,0,rfl,bM _,.inl ⟨trivial,rfl⟩⟩
    · exact s.env t' x hx
  · have hd := s.hs.dom h.length (aQ _);have get : ∀ {j : Nat} {b : AB},(h ++ [.arr [] sz])[j]? = some b → h[j]? = some b ∨ (j = h.length ∧ b = .arr [] sz) := fun {j b} hj => by
      by_cases hlt : j < h.length
      · rw [aG hlt] at hj;exact .inl hj
      · have := (aA.1 hj).1;simp at this;have e : j = h.length := by omega
        subst e;simp at hj;exact .inr ⟨rfl,hj.symm⟩
    refine ⟨fun k hk => s.hs.dom k (by simp at hk;omega),s.hs.rng,fun k b hb => ?_,fun k b p hb hg hp => ?_,fun k k' b b' p p' hb hb' hg hg' hp hp' e => ?_,s.hs.stab,s.hs.ext,s.hs.st0,s.hs.st1,by simp;exact NR s.hs.mle,s.hs.keep,s.hs.glob⟩
    · rcases get hb with hb | ⟨rfl,rfl⟩
      · exact s.hs.blk k b hb
      · simp only [RB];exact ⟨(fun e he => by cases he),hs,.inl ⟨trivial,fun b o e => by rw [hd] at e;cases e⟩⟩
    · rcases get hb with hb | ⟨rfl,rfl⟩
      · exact s.hs.live k b p hb hg hp
      · rw [hd] at hp;cases hp
    · rcases get hb with hb | ⟨rfl,rfl⟩
      · rcases get hb' with hb' | ⟨rfl,rfl⟩
        · exact s.hs.inj k k' b b' p p' hb hb' hg hg' hp hp' e
        · rw [hd] at hp';cases hp'
      · rw [hd] at hp;cases hp
theorem E3 (t sz : Nat) (ht : look env t = some .nils) (hs : 0 < sz) (hv : VC P n ops rest ((t,.sl h.length 0 0 sz) :: env) (h ++ [.arr [] sz]) K) : VC P n ops rest env h K :=
  fun c ρ S a w Q s hQ => hv c ρ S a w Q (s.own ht hs) hQ
theorem I7 (t sz : Nat) (ht : look env t = some .nils) (hs : 0 < sz) (hv : AW P n code ((t,.sl h.length 0 0 sz) :: env) (h ++ [.arr [] sz]) Q) : AW P n code env h Q :=
  fun c ρ S a w QQ s hQ => hv c ρ S a w QQ (s.own ht hs) hQ
end
end Go.Ab
namespace Go.Ab
open Go Go.RowKit Go.WideShapes Go.ChangeShapes Go.ChangeAt
section
variable {H : Type} {enc : TypeId × Value → H} {P : Program}
theorem uY (hl : laidOutB P = true) {W W' : World} {sp : Nat → Bool} (hb : Below W.heap.size W W') : ∀ {ts : List TypeId} {vs : List Value} {ds : List (DataW H)} {ps : List MemPlace}, (∀ t, t ∈ ts → P.readableRec t = true ∧ t < P.types.size) → DataW.TrodAll enc P W 0 (fun _ => true) true ts vs ds ps → (∀ p ∈ ps, p.block < W.heap.size) → (∀ p ∈ ps, sp p.block = true) → DataW.TrodAll enc P W' 0 sp true ts vs ds ps
  | [],vs,ds,ps,_,h,_,_ => by
    cases vs with
    | nil =>
      cases ds with
      | nil => simp only [DataW.TrodAll] at h ⊢;exact h
      | cons _ _ => simp [DataW.TrodAll] at h
    | cons _ _ => simp [DataW.TrodAll] at h
  | t :: ts,vs,ds,ps,ht,h,hlt,hsp => by
    obtain ⟨v,vs',d,ds',p,q,rfl,rfl,rfl,h1,h2⟩ := trodAll_cons h;obtain ⟨h3,h4⟩ := ht t (by simp)
    exact trodAll_cons_mk (WideElems.Trod_stays hl h3 h4 h1 (fun x hx => hb.same (hlt x (by simp [hx]))) (fun x hx => hsp x (by simp [hx]))) (uY hl hb (fun u hu => ht u (by simp [hu])) h2 (fun x hx => hlt x (by simp [hx])) (fun x hx => hsp x (by simp [hx])))
theorem KJ (hl : laidOutB P = true) {f : Func} {s : ChangeSpec} {W W' : World} {args : Array Value} {ds gs : List (DataW H)} {before : List MemPlace} {tb : TypeId}
    (hts' : (f.params.toList.all fun t => P.readableRec t && decide (t < P.types.size)) = true) (hv : s.vars = []) (hrt : f.resultTypes = #[tb]) (htb : P.underlying tb = some .bool)
    (hW : DataW.Whole enc P f.params.toList s.vars false W args.toList ds gs before)
    (hfn : (s.fn H (ds ++ gs)).results = [.lit (.bool true)] ∧ (s.fn H (ds ++ gs)).args = ds ∧ (s.fn H (ds ++ gs)).vars = []) (hb : Below W.heap.size W W') :
    s.post enc P f false true false false W args (.bool true) W' := by
  have hW2 := hW;have hts : ∀ t,t ∈ f.params.toList → P.readableRec t = true ∧ t < P.types.size := fun t ht => by
    have := aT.1 hts' t ht;simpa using this
  have hlt : ∀ p ∈ before,p.block < W.heap.size := fun p hp => hW.lt p hp
  obtain ⟨p,q,hA,hV,rfl,hz,hn⟩ := hW;rw [hv] at hV;obtain ⟨_,rfl⟩ := trodVars_none hV;obtain ⟨f1,f2,f3⟩ := hfn;have hargs : ∀ sp : Nat → Bool,(∀ x ∈ p ++ [],sp x.block = true) → DataW.TrodAll enc P W' 0 sp true f.params.toList args.toList (s.fn H (ds ++ gs)).args p := fun sp hsp => by
    rw [f2];exact uY hl hb hts hA (fun x hx => hlt x (by simpa using hx)) (fun x hx => hsp x (by simpa using hx))
  have hres : ∀ (b : Nat) (sp : Nat → Bool) (hd : Bool),DataW.TrodAll enc P W' b sp hd f.resultTypes.toList ((Value.bool true).resultList f.resultTypes.size) (s.fn H (ds ++ gs)).results [] := fun b sp hd => by
    rw [f1,hrt];exact trodAll_cons_mk (shut_bool htb _) trodAll_mk0
  have hvars : ∀ sp : Nat → Bool,DataW.TrodVars enc P W' sp s.vars (s.fn H (ds ++ gs)).vars [] := fun sp => by
    rw [f3,hv];rfl
  have hold : ∀ x ∈ p ++ [],(fun b => decide (b < W.heap.size)) x.block = true := fun x hx => by simpa using hlt x hx
  refine ⟨ds,gs,p ++ [],[],p,[],hW2,hres _ _ _,hargs _ hold,hvars _,World.keptBut_mono (fun x hx => ⟨hx,by simpa using hx⟩) (hb.frame (· ∈ p ++ [])),fun _ => ?_⟩
  refine ⟨?_,_,_,([] ++ p) ++ [],⟨[] ++ p,[],trodAll_append (hargs _ (fun _ _ => rfl)) (hres _ _ _),hvars _,rfl,?_,fun ha => by cases ha⟩,fun x hx _ => by simpa using hx⟩
  · exact ok_one hrt rfl (okWide_bool_mk htb _)
  · intro b off hp;have hin : MemPlace.cell b off ∈ p ++ [] := by simpa using hp
    rw [hb.frozen (hlt _ hin)];exact hz b off hin
end
end Go.Ab
namespace Go.Ab
open Go
def rP : Hp → List Nat → List AB → Hp
  | h,j :: L,b :: bs => rP (h.set j b) L bs
  | h,_,_ => h
theorem fA : ∀ (L : List Nat) (bs : List AB) (h : Hp), (rP h L bs).length = h.length
  | [],_,_ => by simp [rP]
  | _ :: _,[],_ => by simp [rP]
  | j :: L,b :: bs,h => by simp only [rP];rw [fA L bs];simp
theorem pC {k : Nat} : ∀ (L : List Nat) (bs : List AB) (h : Hp), k ∉ L → (rP h L bs)[k]? = h[k]?
  | [],_,_,_ => by simp [rP]
  | _ :: _,[],_,_ => by simp [rP]
  | j :: L,b :: bs,h,hk => by
    simp only [aR,not_or] at hk;simp only [rP];rw [pC L bs _ hk.2,bQ,if_neg (fun e => hk.1 e.symm)]
theorem D3 : ∀ {L : List Nat} {bs : List AB} {h : Hp} {i j : Nat} {b : AB}, L.Nodup → L[i]? = some j → bs[i]? = some b → j < h.length → (rP h L bs)[j]? = some b
  | j0 :: L,b0 :: bs,h,0,j,b,hnd,hi,hb,hj => by
    simp at hi hb;subst hi;subst hb;simp only [rP];rw [pC L bs _ (aL.1 hnd).1,bQ,if_pos rfl,if_pos hj]
  | j0 :: L,b0 :: bs,h,i + 1,j,b,hnd,hi,hb,hj => by
    simp only [rP];exact D3 (aL.1 hnd).2 (by simpa using hi) (by simpa using hb) (by simpa using hj)
  | [],_,_,_,_,_,_,hi,_,_ => by simp at hi
  | _ :: _,[],_,_,_,_,_,_,hb,_ => by simp at hb
def fM (L : List Nat) (N m k : Nat) : Nat := match L[k]? with
  | some j => j
  | none => N + (k - m)
section
variable {P : Program} {n : Nat × Nat} {ops : Array Oper} {rest : List Oper} {env : cJ} {h : Hp} {K : cJ → Hp → Prop}
variable {d : Option Nat} {ty : TypeId} {pos : String} {af : Array Edge}
theorem bL {op : Op} {j t : Nat} {want b : Bool} (hj : (ops[j]?).bind (·.dst) = some t) (hl : look env t = some (.b b)) (ht : b = true → VC P n ops (⟨d,op,ty,pos,af,some (j,want)⟩ :: rest) env h K) (hf : b = false → VC P n ops (⟨d,op,ty,pos,af,some (j,want)⟩ :: rest) env h K) : VC P n ops (⟨d,op,ty,pos,af,some (j,want)⟩ :: rest) env h K := by
  cases b
  · exact hf rfl
  · exact ht rfl
theorem gT {op : Op} {d : Option Nat} {j t : Nat} {want : Bool} (ht : VC P n ops (⟨d,op,ty,pos,af,none⟩ :: rest) env h K) (hj : (ops[j]?).bind (·.dst) = some t := by rfl) (hl : look env t = some (.b want) := by rfl) (hd : yZ d n = true := by rfl) : VC P n ops (⟨d,op,ty,pos,af,some (j,want)⟩ :: rest) env h K := UY hj hl ht hd
theorem gF {op : Op} {d : Option Nat} {j t : Nat} {want : Bool} (hf : VC P n ops rest (fC d (.v undef) env) h K) (hj : (ops[j]?).bind (·.dst) = some t := by rfl) (hl : look env t = some (.b (!want)) := by rfl) (hd : yZ d n = true := by rfl) : VC P n ops (⟨d,op,ty,pos,af,some (j,want)⟩ :: rest) env h K := UZ hj hl hf hd
theorem gU {op : Op} {d : Option Nat} {j t : Nat} {want : Bool} (hf : VC P n ops rest (fC d (.v undef) env) h K) (hj : (ops[j]?).bind (·.dst) = some t := by rfl) (hl : look env t = some (.v undef) := by rfl) (hd : yZ d n = true := by rfl) : VC P n ops (⟨d,op,ty,pos,af,some (j,want)⟩ :: rest) env h K := UX hj hl hf hd
theorem mV {dd : Nat} {x : Operand} {u : AV} (hk : VC P n ops rest ((dd,u) :: env) h K) (hx : evu env x = some u := by rfl) (hd : Nat.blt dd n.1 = true := by rfl) : VC P n ops (⟨some dd,.move x,ty,pos,af,none⟩ :: rest) env h K := tB (eQ hx) hd hk
theorem aV {dd : Nat} {x : Operand} {u : AV} (hk : VC P n ops rest ((dd,u) :: env) h K) (hx : evu env x = some u := by rfl) (hd : Nat.blt dd n.1 = true := by rfl) : VC P n ops (⟨some dd,.assign x,ty,pos,af,none⟩ :: rest) env h K := tB (jG hx) hd hk
theorem fV (T : lR P) {dd t f k : Nat} {x : Operand} {u z : AV} (hk : VC P n ops rest ((dd,z) :: env) h K) (hx : evu env x = some u := by rfl) (hf : T.field t f = some k := by rfl) (hz : u.plus k = some z := by rfl) (hd : Nat.blt dd n.1 = true := by rfl) : VC P n ops (⟨some dd,.fieldAddr t x f,ty,pos,af,none⟩ :: rest) env h K := tB (eE T hx hf hz) hd hk
theorem lV (T : lR P) {dd t : Nat} {i : TI} {x : Operand} {u z : AV} {cs : List AV} {off : Nat} (hk : VC P n ops rest ((dd,z) :: env) h K) (hx : evu env x = some u := by rfl) (ht : T.ti t = some i := by rfl) (hb : fX h u = some (cs,off) := by rfl) (hz : lP i cs off = some z := by rfl) (hd : Nat.blt dd n.1 = true := by rfl) : VC P n ops (⟨some dd,.load t x,ty,pos,af,none⟩ :: rest) env h K := tB (bC T hx ht hb hz) hd hk
theorem nV {dd : Nat} {x : Operand} {u z : AV} (hk : VC P n ops rest ((dd,u) :: env) h K) (hx : evu env x = some u := by rfl) (hz : u.plus 0 = some z := by rfl) (hd : Nat.blt dd n.1 = true := by rfl) : VC P n ops (⟨some dd,.nilCheck x,ty,pos,af,none⟩ :: rest) env h K := tB (dQ hx hz) hd hk
theorem xV {dd : Nat} {x : Operand} {vs : List AV} {j : Nat} {z : AV} (hk : VC P n ops rest ((dd,z) :: env) h K) (hx : evu env x = some (.tup vs) := by rfl) (hz : vs[j]? = some z := by rfl) (hd : Nat.blt dd n.1 = true := by rfl) : VC P n ops (⟨some dd,.extract x j,ty,pos,af,none⟩ :: rest) env h K := tB (rW hx hz) hd hk
theorem vV {dd : Nat} {op : Op} {u : AV} (hs : bR P ⟨some dd,op,ty,pos,af,none⟩ env h 0 (fun _ => u) (fun _ => [])) (hk : VC P n ops rest ((dd,u) :: env) h K) (hd : Nat.blt dd n.1 = true := by rfl) : VC P n ops (⟨some dd,op,ty,pos,af,none⟩ :: rest) env h K := tB hs hd hk
def XR (b : Bool) (u v : Option AV) : Option AV := match b with
  | true => u
  | false => v
theorem pV {dd : Nat} {c x y : Operand} {b : Bool} {r : AV} (hk : VC P n ops rest ((dd,r) :: env) h K) (hc : evu env c = some (.b b) := by rfl) (hr : XR b (evu env x) (evu env y) = some r := by rfl) (hd : Nat.blt dd n.1 = true := by rfl) : VC P n ops (⟨some dd,.pick c x y,ty,pos,af,none⟩ :: rest) env h K := by
  cases b
  · exact tB (lZ hc hr) hd hk
  · exact tB (lY hc hr) hd hk
def VP : AV → Option Nat
  | .sl _ _ len _ => some len
  | .row _ len _ => some len
  | _ => none
theorem qV (T : lR P) {dd t e m : Nat} {x : Operand} {u : AV} (hk : VC P n ops rest ((dd,.i (m : Int)) :: env) h K) (hx : evu env x = some u := by rfl) (ha : T.elem t = some e := by rfl) (hm : VP u = some m := by rfl) (hd : Nat.blt dd n.1 = true := by rfl) : VC P n ops (⟨some dd,.call { callee := .builtin .len,args := #[x],argTypes := #[t] },ty,pos,af,none⟩ :: rest) env h K := by
  cases u with
  | sl k off len sz => cases hm;exact tB (Q7 T hx ha) hd hk
  | row cs len sz => cases hm;exact tB (Q6 T hx ha) hd hk
  | _ => cases hm
theorem wT {x : Operand} {p q : Code} {Q : Exit → cJ → Hp → Prop} (ht : AW P n p env h Q) (hx : ev env x = some (.b true) := by rfl) : AW P n (.cond x p q) env h Q := I8 hx ht
theorem wU {x : Operand} {p q : Code} {Q : Exit → cJ → Hp → Prop} (hf : AW P n q env h Q) (hx : ev env x = some (.b false) := by rfl) : AW P n (.cond x p q) env h Q := jY hx hf
theorem kC {g : Option (Nat × Bool)} {x : Operand} {f : FuncId} {fs cs us xs : List AV} {args : List Operand} {ats : Array TypeId} {res : AV} (hc : bN P f xs [] res []) (hx : evu env x = some (.clo (.func f) fs cs) := by rfl) (ha : V1 env args = some us := by rfl) (he : fs ++ us ++ cs = xs := by rfl) (hi : AV.idfL xs = true := by rfl) (hr : res.idf = true := by rfl) :
    bR P ⟨d,.call { callee := .value x,args := args.toArray,argTypes := ats },ty,pos,af,g⟩ env h 0 (fun _ => res) (fun _ => []) := cN hx ha hc he hi hr
def SZ : Option AV → Bool
  | some (.v (.bool true)) => true
  | some (.v (.bool false)) => true
  | some (.v _) => true
  | _ => false
theorem gK {op : Op} {d : Option Nat} {j t : Nat} {want : Bool} (hk : VC P n ops (⟨d,op,ty,pos,af,some (j,want)⟩ :: rest) env h K) (hj : (ops[j]?).bind (·.dst) = some t := by rfl) (hl : SZ (look env t) = true := by rfl) : VC P n ops (⟨d,op,ty,pos,af,some (j,want)⟩ :: rest) env h K := hk
theorem yM {dd j tg : Nat} {want : Bool} {x : Operand} {u : AV} (hk : VC P n ops rest ((dd,u) :: env) h K) (hj : (ops[j]?).bind (·.dst) = some tg := by rfl) (hl : look env tg = some (.b want) := by rfl) (hx : evu env x = some u := by rfl) (hd : Nat.blt dd n.1 = true := by rfl) : VC P n ops (⟨some dd,.move x,ty,pos,af,some (j,want)⟩ :: rest) env h K := gT (vV (eQ hx) hk hd) hj hl hd
theorem yL (T : lR P) {dd j tg t off : Nat} {want : Bool} {ii : TI} {cs : List AV} {x : Operand} {u v : AV} (hk : VC P n ops rest ((dd,u) :: env) h K) (hj : (ops[j]?).bind (·.dst) = some tg := by rfl) (hl : look env tg = some (.b want) := by rfl) (hx : evu env x = some v := by rfl) (ht : T.ti t = some ii := by rfl) (hb : fX h v = some (cs,off) := by rfl) (hz : lP ii cs off = some u := by rfl) (hd : Nat.blt dd n.1 = true := by rfl) : VC P n ops (⟨some dd,.load t x,ty,pos,af,some (j,want)⟩ :: rest) env h K := gT (vV (bC T hx ht hb hz) hk hd) hj hl hd
theorem yF (T : lR P) {dd j tg t f kf : Nat} {want : Bool} {x : Operand} {u v : AV} (hk : VC P n ops rest ((dd,u) :: env) h K) (hj : (ops[j]?).bind (·.dst) = some tg := by rfl) (hl : look env tg = some (.b want) := by rfl) (hx : evu env x = some v := by rfl) (hf : T.field t f = some kf := by rfl) (hz : v.plus kf = some u := by rfl) (hd : Nat.blt dd n.1 = true := by rfl) : VC P n ops (⟨some dd,.fieldAddr t x f,ty,pos,af,some (j,want)⟩ :: rest) env h K := gT (vV (eE T hx hf hz) hk hd) hj hl hd
theorem yV {op : Op} {dd j tg : Nat} {want : Bool} {u : AV} (hs : bR P ⟨some dd,op,ty,pos,af,none⟩ env h 0 (fun _ => u) (fun _ => [])) (hk : VC P n ops rest ((dd,u) :: env) h K) (hj : (ops[j]?).bind (·.dst) = some tg := by rfl) (hl : look env tg = some (.b want) := by rfl) (hd : Nat.blt dd n.1 = true := by rfl) : VC P n ops (⟨some dd,op,ty,pos,af,some (j,want)⟩ :: rest) env h K := gT (vV hs hk hd) hj hl hd
theorem XG {d1 d2 : Nat} {x y : Operand} {u v : AV} {ty' : TypeId} {pos' : String} {af' : Array Edge} (hk : VC P n ops rest ((d2,v) :: (d1,u) :: env) h K) (hx : evu env x = some u := by rfl) (hy : evu ((d1,u) :: env) y = some v := by rfl) (hd : Nat.blt d1 n.1 = true := by rfl) (he : Nat.blt d2 n.1 = true := by rfl) : VC P n ops (⟨some d1,.move x,ty,pos,af,none⟩ :: ⟨some d2,.move y,ty',pos',af',none⟩ :: rest) env h K := vV (eQ hx) (vV (eQ hy) hk he) hd
theorem oC {d1 d2 : Nat} {x y : Operand} {u v : AV} {ty' : TypeId} {pos' : String} {af' : Array Edge} (hk : VC P n ops rest ((d2,v) :: (d1,u) :: env) h K) (hx : evu env x = some u := by rfl) (hy : evu ((d1,u) :: env) y = some v := by rfl) (hd : Nat.blt d1 n.1 = true := by rfl) (he : Nat.blt d2 n.1 = true := by rfl) : VC P n ops (⟨some d1,.assign x,ty,pos,af,none⟩ :: ⟨some d2,.assign y,ty',pos',af',none⟩ :: rest) env h K := vV (jG hx) (vV (jG hy) hk he) hd
theorem MH (T : lR P) {d1 d2 t f kf t2 off : Nat} {x : Operand} {u v w : AV} {ii : TI} {cs : List AV} {ty' : TypeId} {pos' : String} {af' : Array Edge} (hk : VC P n ops rest ((d2,w) :: (d1,u) :: env) h K) (hx : evu env x = some v := by rfl) (hf : T.field t f = some kf := by rfl) (hz : v.plus kf = some u := by rfl) (hy : evu ((d1,u) :: env) (.tmp d1) = some u := by rfl) (ht : T.ti t2 = some ii := by rfl) (hb : fX h u = some (cs,off) := by rfl) (hw : lP ii cs off = some w := by rfl) (hd : Nat.blt d1 n.1 = true := by rfl) (he : Nat.blt d2 n.1 = true := by rfl) : VC P n ops (⟨some d1,.fieldAddr t x f,ty,pos,af,none⟩ :: ⟨some d2,.load t2 (.tmp d1),ty',pos',af',none⟩ :: rest) env h K := vV (eE T hx hf hz) (vV (bC T hy ht hb hw) hk he) hd
theorem mW {dd : Nat} {x : Operand} {u : AV} (e : (evu env x,Nat.blt dd n.1) = (some u,true)) (hk : VC P n ops rest ((dd,u) :: env) h K) : VC P n ops (⟨some dd,.move x,ty,pos,af,none⟩ :: rest) env h K := mV hk (congrArg (·.1) e) (congrArg (·.2) e)
theorem aW {dd : Nat} {x : Operand} {u : AV} (e : (evu env x,Nat.blt dd n.1) = (some u,true)) (hk : VC P n ops rest ((dd,u) :: env) h K) : VC P n ops (⟨some dd,.assign x,ty,pos,af,none⟩ :: rest) env h K := aV hk (congrArg (·.1) e) (congrArg (·.2) e)
theorem fW (T : lR P) {dd t f k : Nat} {x : Operand} {u z : AV} (e : (evu env x,T.field t f,u.plus k,Nat.blt dd n.1) = (some u,some k,some z,true)) (hk : VC P n ops rest ((dd,z) :: env) h K) : VC P n ops (⟨some dd,.fieldAddr t x f,ty,pos,af,none⟩ :: rest) env h K := fV T hk (congrArg (·.1) e) (congrArg (·.2.1) e) (congrArg (·.2.2.1) e) (congrArg (·.2.2.2) e)
theorem lW (T : lR P) {dd t : Nat} {i : TI} {x : Operand} {u z : AV} {cs : List AV} {off : Nat} (e : (evu env x,T.ti t,fX h u,lP i cs off,Nat.blt dd n.1) = (some u,some i,some (cs,off),some z,true)) (hk : VC P n ops rest ((dd,z) :: env) h K) : VC P n ops (⟨some dd,.load t x,ty,pos,af,none⟩ :: rest) env h K := lV T hk (congrArg (·.1) e) (congrArg (·.2.1) e) (congrArg (·.2.2.1) e) (congrArg (·.2.2.2.1) e) (congrArg (·.2.2.2.2) e)
theorem qW (T : lR P) {dd t e' m : Nat} {x : Operand} {u : AV} (e : (evu env x,T.elem t,VP u,Nat.blt dd n.1) = (some u,some e',some m,true)) (hk : VC P n ops rest ((dd,.i (m : Int)) :: env) h K) : VC P n ops (⟨some dd,.call { callee := .builtin .len,args := #[x],argTypes := #[t] },ty,pos,af,none⟩ :: rest) env h K := qV T hk (congrArg (·.1) e) (congrArg (·.2.1) e) (congrArg (·.2.2.1) e) (congrArg (·.2.2.2) e)
theorem xW {dd : Nat} {x : Operand} {vs : List AV} {j : Nat} {z : AV} (e : (evu env x,vs[j]?,Nat.blt dd n.1) = (some (.tup vs),some z,true)) (hk : VC P n ops rest ((dd,z) :: env) h K) : VC P n ops (⟨some dd,.extract x j,ty,pos,af,none⟩ :: rest) env h K := xV hk (congrArg (·.1) e) (congrArg (·.2.1) e) (congrArg (·.2.2) e)
theorem pW {dd : Nat} {c x y : Operand} {b : Bool} {r : AV} (e : (evu env c,XR b (evu env x) (evu env y),Nat.blt dd n.1) = (some (.b b),some r,true)) (hk : VC P n ops rest ((dd,r) :: env) h K) : VC P n ops (⟨some dd,.pick c x y,ty,pos,af,none⟩ :: rest) env h K := pV hk (congrArg (·.1) e) (congrArg (·.2.1) e) (congrArg (·.2.2) e)
theorem yN {dd j tg : Nat} {want : Bool} {x : Operand} {u : AV} (e : ((ops[j]?).bind (·.dst),look env tg,evu env x,Nat.blt dd n.1) = (some tg,some (.b want),some u,true)) (hk : VC P n ops rest ((dd,u) :: env) h K) : VC P n ops (⟨some dd,.move x,ty,pos,af,some (j,want)⟩ :: rest) env h K := yM hk (congrArg (·.1) e) (congrArg (·.2.1) e) (congrArg (·.2.2.1) e) (congrArg (·.2.2.2) e)
theorem yO (T : lR P) {dd j tg t off : Nat} {want : Bool} {ii : TI} {cs : List AV} {x : Operand} {u v : AV} (e : ((ops[j]?).bind (·.dst),look env tg,evu env x,T.ti t,fX h v,lP ii cs off,Nat.blt dd n.1) = (some tg,some (.b want),some v,some ii,some (cs,off),some u,true)) (hk : VC P n ops rest ((dd,u) :: env) h K) : VC P n ops (⟨some dd,.load t x,ty,pos,af,some (j,want)⟩ :: rest) env h K := yL T hk (congrArg (·.1) e) (congrArg (·.2.1) e) (congrArg (·.2.2.1) e) (congrArg (·.2.2.2.1) e) (congrArg (·.2.2.2.2.1) e) (congrArg (·.2.2.2.2.2.1) e) (congrArg (·.2.2.2.2.2.2) e)
theorem yP (T : lR P) {dd j tg t f kf : Nat} {want : Bool} {x : Operand} {u v : AV} (e : ((ops[j]?).bind (·.dst),look env tg,evu env x,T.field t f,v.plus kf,Nat.blt dd n.1) = (some tg,some (.b want),some v,some kf,some u,true)) (hk : VC P n ops rest ((dd,u) :: env) h K) : VC P n ops (⟨some dd,.fieldAddr t x f,ty,pos,af,some (j,want)⟩ :: rest) env h K := yF T hk (congrArg (·.1) e) (congrArg (·.2.1) e) (congrArg (·.2.2.1) e) (congrArg (·.2.2.2.1) e) (congrArg (·.2.2.2.2.1) e) (congrArg (·.2.2.2.2.2) e)
theorem fF {d1 d2 : Nat} {x y : Operand} {u v : AV} {ty' : TypeId} {pos' : String} {af' : Array Edge} (e : (evu env x,evu ((d1,u) :: env) y,Nat.blt d1 n.1,Nat.blt d2 n.1) = (some u,some v,true,true)) (hk : VC P n ops rest ((d2,v) :: (d1,u) :: env) h K) : VC P n ops (⟨some d1,.move x,ty,pos,af,none⟩ :: ⟨some d2,.move y,ty',pos',af',none⟩ :: rest) env h K := XG hk (congrArg (·.1) e) (congrArg (·.2.1) e) (congrArg (·.2.2.1) e) (congrArg (·.2.2.2) e)
theorem OE {d1 d2 : Nat} {x y : Operand} {u v : AV} {ty' : TypeId} {pos' : String} {af' : Array Edge} (e : (evu env x,evu ((d1,u) :: env) y,Nat.blt d1 n.1,Nat.blt d2 n.1) = (some u,some v,true,true)) (hk : VC P n ops rest ((d2,v) :: (d1,u) :: env) h K) : VC P n ops (⟨some d1,.assign x,ty,pos,af,none⟩ :: ⟨some d2,.assign y,ty',pos',af',none⟩ :: rest) env h K := oC hk (congrArg (·.1) e) (congrArg (·.2.1) e) (congrArg (·.2.2.1) e) (congrArg (·.2.2.2) e)
theorem jH (T : lR P) {d1 d2 t f kf t2 off : Nat} {x : Operand} {u v w : AV} {ii : TI} {cs : List AV} {ty' : TypeId} {pos' : String} {af' : Array Edge} (e : (evu env x,T.field t f,v.plus kf,evu ((d1,u) :: env) (.tmp d1),T.ti t2,fX h u,lP ii cs off,Nat.blt d1 n.1,Nat.blt d2 n.1) = (some v,some kf,some u,some u,some ii,some (cs,off),some w,true,true)) (hk : VC P n ops rest ((d2,w) :: (d1,u) :: env) h K) : VC P n ops (⟨some d1,.fieldAddr t x f,ty,pos,af,none⟩ :: ⟨some d2,.load t2 (.tmp d1),ty',pos',af',none⟩ :: rest) env h K :=
  MH T hk (congrArg (·.1) e) (congrArg (·.2.1) e) (congrArg (·.2.2.1) e) (congrArg (·.2.2.2.1) e) (congrArg (·.2.2.2.2.1) e) (congrArg (·.2.2.2.2.2.1) e) (congrArg (·.2.2.2.2.2.2.1) e) (congrArg (·.2.2.2.2.2.2.2.1) e) (congrArg (·.2.2.2.2.2.2.2.2) e)
theorem GR (x : Value) : (AV.v x).un = .v x := rfl
theorem yH (k o : Nat) : (AV.ptr k o).un = .ptr k o := rfl
theorem M0 (k i o s : Nat) : (AV.ep k i o s).un = .ep k i o s := rfl
theorem L8 (c : List AV) (o : Nat) : (AV.pr c o).un = .pr c o := rfl
theorem L7 (k o l s : Nat) : (AV.sl k o l s).un = .sl k o l s := rfl
theorem L9 (k : Nat) : (AV.mp k).un = .mp k := rfl
theorem yG (c : List AV) (l s : Nat) : (AV.row c l s).un = .row c l s := rfl
theorem yJ (c : List AV) : (AV.agg c).un = .agg c := rfl
theorem yE (c : List AV) : (AV.tup c).un = .tup c := rfl
theorem yI (f : Fn) (a b : List AV) : (AV.clo f a b).un = .clo f a b := rfl
theorem HS.hand {c : mE} {ρ : Pl} {S : Nat → Prop} {w : World} {hin : Hp} {L : List Nat} (s : HS c ρ S h w) (hL : L.length = hin.length) (hnd : L.Nodup) (hh : pN (th L h.length) h 0 hin) :
    HS (gL w (fun k => ρ (th L h.length k)) S hin) (fun k => ρ (th L h.length k)) S hin w := by
  have s0 : HS { c with m := 0 } ρ S h w := ⟨s.dom,s.rng,s.blk,s.live,s.inj,s.stab,s.ext,s.st0,s.st1,bM _,fun k hk => absurd hk (gI _),s.glob⟩;have s1 := s0.sub hL hh hnd (WQ);refine ⟨s1.dom,s1.rng,s1.blk,fun k b p hb hg hp => ⟨.inr ⟨k,b,p.2,hb,hg,hp⟩,(s1.live k b p hb hg hp).2⟩,s1.inj,s1.stab,iZ.refl _ _,fun _ h => h,fun _ h => .inl h,aQ _,fun _ _ => rfl,s1.glob⟩
theorem cQ (L : List Nat) {x : Operand} {f : FuncId} {fs cs us xs : List AV} {args : List Operand} {ats : Array TypeId} {res : AV} {hin hout : Hp} (hx : evu env x = some (.clo (.func f) fs cs)) (ha : V1 env args = some us)
    (hc : bN P f xs hin res hout) (hxs : fs ++ us ++ cs = AV.mapL (th L h.length) xs) (hL : L.length = hin.length) (hnd : L.Nodup) (hh : pN (th L h.length) h 0 hin) (hng : ∀ b,b ∈ hin → b ≠ .gone) (hd : yZ d n = true)
    (hk : VC P n ops rest (fC d (res.map (fM L h.length hin.length)) env) (rP h L ((hout.take hin.length).map (AB.map (fM L h.length hin.length))) ++ (hout.drop hin.length).map (AB.map (fM L h.length hin.length))) K) :
    VC P n ops (⟨d,.call { callee := .value x,args := args.toArray,argTypes := ats },ty,pos,af,none⟩ :: rest) env h K := by
  intro c ρ S a w Q s hQ;refine wpList_plain rfl fun K' hK' => ?_
  have p := s.pre;have hxv := p.evu hx;simp only [R] at hxv;obtain ⟨ys,zs,e1,h1,h2⟩ := hxv;have hall : RL S w (fs ++ us ++ cs) ρ (ys.toList ++ args.map a.eval ++ zs.toList) := eA (eA h1 (lG p ha)) h2;rw [hxs] at hall;have hargs := lQ (th L h.length) ρ _ _ hall;obtain ⟨hf,hc⟩ := hc;have hs0 := s.hs.hand hL hnd hh;have hcall := hc _ S w _ hs0 hargs;unfold Oper.wp;have hrun : (execOp a.eval ⟨d,.call { callee := .value x,args := args.toArray,argTypes := ats },ty,pos,af,none⟩).run P w = .ok (.enter f (ys.toList ++ args.map a.eval ++ zs.toList).toArray) w := by
    have e2 : (ys ++ (args.toArray.map a.eval) ++ zs) = (ys.toList ++ args.map a.eval ++ zs.toList).toArray := by
      apply Array.ext';simp
    simp only [execOp,resolve,e1,Deferred.ofValue,Sem.run_bind,Sem.run_pure,Result.andThen_ok,invoke];rw [e2];exact lT hf
  rw [hrun];simp only [Oper.upon];refine hcall.mono ?_;rintro e w' ⟨y,ρ',S',rfl,hs,hy⟩;simp only;refine hK' _ _ (hk c (fun k => if k < h.length then ρ k else ρ' (hin.length + (k - h.length))) S' _ w' Q ?_ hQ)
  -- the objects handed over
  have hin_at : ∀ {i : Nat} {b : AB},hin[i]? = some b → ∃ j,L[i]? = some j ∧ j < h.length ∧ h[j]? = some (b.map (th L h.length)) ∧ b.map (th L h.length) ≠ .gone := fun {i b} hb => by
    have hne := hng b (aH hb);have hlt : i < L.length := by rw [hL];exact (aA.1 hb).1
    have hj := aB hlt;have hth : th L h.length i = L[i] := by simp [th,hj]
    rcases hh.get i b hb with hg | hg
    · exact absurd hg hne
    · rw [Nat.zero_add,hth] at hg;exact ⟨L[i],hj,(aA.1 hg).1,hg,by cases b <;> simp [AB.map] at * ⟩
  have hmle := hs.mle;have hmle' : hin.length ≤ hout.length := hmle;have thL : ∀ {i j : Nat},L[i]? = some j → th L h.length i = j := fun hi => by simp [th,hi]
  have keep : ∀ {i j : Nat},i < hin.length → L[i]? = some j → ρ' i = ρ j := fun {i j} hi hj => by
    have := hs.keep i hi;simp only [gL] at this;rw [this,thL hj]
  -- where the callee may write
  have hM : ∀ b,(gL w (fun k => ρ (th L h.length k)) S hin).M b → w.heap.size ≤ b ∨ ∃ (i j : Nat) (o : Nat) (x : AB),hin[i]? = some x ∧ L[i]? = some j ∧ ρ j = some (b,o) := fun b hb => by
    rcases hb with hb | ⟨k,x,o,hb,_,hp⟩
    · exact .inl hb
    · obtain ⟨j,h3,_⟩ := hin_at hb;exact .inr ⟨k,j,o,x,hb,h3,by rw [← thL h3];exact hp⟩
  have hcM : ∀ b,(gL w (fun k => ρ (th L h.length k)) S hin).M b → c.M b := fun b hb => by
    rcases hM b hb with hb | ⟨i,j,o,x,h3,h4,h5⟩
    · exact c.new b (cC s.hs.ext.size hb)
    · obtain ⟨j',h6,_,h7,h8⟩ := hin_at h3;rw [h4] at h6;cases h6;exact (s.hs.live j _ _ h7 h8 h5).1
  have hlow : ∀ b,b < w.heap.size → (gL w (fun k => ρ (th L h.length k)) S hin).M b → ∃ (i j : Nat) (o : Nat) (x : AB),hin[i]? = some x ∧ L[i]? = some j ∧ ρ j = some (b,o) := fun b hlt hb => by
    rcases hM b hb with hb | hb
    · omega
    · exact hb
  -- a live object that was not handed over: its block is left alone
  have other : ∀ {k : Nat} {b : AB} {q : Nat × Nat},h[k]? = some b → b ≠ .gone → k ∉ L → ρ k = some q → ¬ (gL w (fun k => ρ (th L h.length k)) S hin).M q.1 := fun {k b q} hb hg hkL hq hm => by
    obtain ⟨i,j,o,x,h3,h4,h5⟩ := hlow q.1 (s.hs.rng k q hq) hm;obtain ⟨j',h6,_,h7,h8⟩ := hin_at h3;rw [h4] at h6;cases h6;have := s.hs.inj k j _ _ q _ hb h7 hg h8 hq h5 rfl;subst this;exact hkL (aH h4)
  have stM : ∀ b,S b → ¬ (gL w (fun k => ρ (th L h.length k)) S hin).M b := fun b hb hm => by
    obtain ⟨i,j,o,x,h3,h4,h5⟩ := hlow b (s.hs.stab b hb) hm;obtain ⟨j',h6,_,h7,h8⟩ := hin_at h3;rw [h4] at h6;cases h6;exact (s.hs.live j _ _ h7 h8 h5).2 hb
  have same : ∀ b,b < w.heap.size → ¬ (gL w (fun k => ρ (th L h.length k)) S hin).M b → w'.heap[b]? = w.heap[b]? := fun b hb hm => hs.ext.same b hb hm
  have l : fN ρ (fun k => if k < h.length then ρ k else ρ' (hin.length + (k - h.length))) S S' w w' := by
    refine ⟨fun k q hq => ?_,hs.st0,fun b hb => same b (s.hs.stab b hb) (stM b hb),fun _ _ _ _ _ hr => hs.ext.room hr⟩
    have hlt : k < h.length := by
      rcases fJ k h.length with h3 | h3
      · exact h3
      · rw [s.hs.dom k h3] at hq;cases hq
    simp only [if_pos hlt];exact hq
  -- the callee's places,seen by the caller
  have pl : ∀ k q,ρ' k = some q → (fun k => if k < h.length then ρ k else ρ' (hin.length + (k - h.length))) (fM L h.length hin.length k) = some q := fun k q hq => by
    by_cases hk : k < hin.length
    · have hj := aB (l := L) (i := k) (by omega)
      have hb := aB hk;obtain ⟨j,h3,h4,_⟩ := hin_at hb;have hbk : fM L h.length hin.length k = j := by simp [fM,h3]
      rw [hbk];simp only [if_pos h4];rw [← keep hk h3];exact hq
    · have hbk : fM L h.length hin.length k = h.length + (k - hin.length) := by
        unfold fM;rw [bO (by omega)]
      rw [hbk];simp only;rw [if_neg (by omega),show hin.length + (h.length + (k - hin.length) - h.length) = k by omega]
      exact hq
  have shift : ∀ {x : AV} {y : Value},R S' w' x ρ' y → R S' w' (x.map (fM L h.length hin.length)) (fun k => if k < h.length then ρ k else ρ' (hin.length + (k - h.length))) y := fun {x y} hx => uE _ _ x y (iU (fun _ h => h) (fun _ _ => rfl) x ρ' _ y pl (fun _ _ _ _ _ h => h) hx)
  have shiftB : ∀ {b : AB} {pp},RB S' w' ρ' pp b → RB S' w' (fun k => if k < h.length then ρ k else ρ' (hin.length + (k - h.length))) pp (b.map (fM L h.length hin.length)) := fun {b pp} hb => yA _ _ (RB.later (ρ := ρ') (S := S') ⟨pl,fun _ h => h,fun _ _ => rfl,fun _ _ _ _ _ h => h⟩ (fun _ _ _ => rfl) hb)
  -- what stands at a place fX the call
  have get : ∀ {k : Nat} {b : AB},(rP h L ((hout.take hin.length).map (AB.map (fM L h.length hin.length))) ++ (hout.drop hin.length).map (AB.map (fM L h.length hin.length)))[k]? = some b →
      (k < h.length ∧ k ∉ L ∧ h[k]? = some b) ∨ (∃ (i : Nat) (b' : AB),hout[i]? = some b' ∧ b = b'.map (fM L h.length hin.length) ∧ fM L h.length hin.length i = k ∧ (if k < h.length then ρ k else ρ' (hin.length + (k - h.length))) = ρ' i ∧ ((i < hin.length ∧ L[i]? = some k) ∨ (hin.length ≤ i ∧ k = h.length + (i - hin.length)))) := fun {k b} hb => by
    by_cases hk : k < h.length
    · rw [aG (by rw [fA];exact hk)] at hb
      by_cases hkL : k ∈ L
      · obtain ⟨i,hi⟩ := bT.1 hkL;have hiL : i < hin.length := by rw [← hL];exact (aA.1 hi).1
        have hb' := aB (l := hout) (i := i) (by omega)
        rw [D3 (b := (hout[i]'(by omega)).map (fM L h.length hin.length)) hnd hi (by simp [hiL,hb']) hk] at hb
        simp only [Option.some.injEq] at hb;exact .inr ⟨i,_,hb',hb.symm,by simp [fM,hi],by rw [if_pos hk];exact (keep hiL hi).symm,.inl ⟨hiL,hi⟩⟩
      · rw [pC _ _ _ hkL] at hb;exact .inl ⟨hk,hkL,hb⟩
    · rw [aF (by rw [fA];omega),fA,aO,dH] at hb
      obtain ⟨b',h3,h4⟩ := bY.1 hb;refine .inr ⟨hin.length + (k - h.length),b',h3,h4.symm,?_,by rw [if_neg hk],.inr ⟨by omega,by omega⟩⟩
      unfold fM;rw [bO (by omega)]
      simp only;omega
  have mapg : ∀ {θ : Nat → Nat} {b : AB},b.map θ ≠ .gone → b ≠ .gone := fun hb e => hb (by rw [e];rfl)
  refine ⟨by rw [gC];exact s.size,by rw [eN];exact s.defers.later l,kP s.size hd (fun t u hu => (s.env t u hu).later l) (shift hy),?_,s.cm⟩
  refine ⟨fun k hk => ?_,fun k q hq => ?_,fun k b hb => ?_,fun k b q hb hg hq => ?_,fun k k' b b' q q' hb hb' hg hg' hq hq' e => ?_,hs.stab,s.hs.ext.trans hs.ext (fun b hb hlt => hcM b hb),fun b hb => hs.st0 b (s.hs.st0 b hb),fun b hb => ?_,?_,fun k hk => ?_,hs.glob⟩
  · simp only [aC,fA,bI,fP] at hk;rw [if_neg (by omega)]
    exact hs.dom _ (by omega)
  · split at hq
    · exact bP (s.hs.rng k q hq) hs.ext.size
    · exact hs.rng _ q hq
  · rcases get hb with ⟨h3,h4,h5⟩ | ⟨i,b',h3,rfl,h4,h5,h6⟩
    · simp only [if_pos h3];by_cases hg : b = .gone
      · subst hg;trivial
      · exact RB.later l (fun b1 o1 hp => same b1 (s.hs.rng k _ hp) (other h5 hg h4 hp)) (s.hs.blk k b h5)
    · rw [h5];exact shiftB (hs.blk i b' h3)
  · rcases get hb with ⟨h3,h4,h5⟩ | ⟨i,b',h3,rfl,h4,h5,h6⟩
    · simp only [if_pos h3] at hq;obtain ⟨h7,h8⟩ := s.hs.live k b q h5 hg hq;refine ⟨h7,fun hs' => ?_⟩
      rcases hs.st1 _ hs' with h9 | h9
      · exact h8 h9
      · exact other h5 hg h4 hq h9
    · rw [h5] at hq;obtain ⟨h7,h8⟩ := hs.live i b' q h3 (mapg hg) hq;exact ⟨hcM _ h7,h8⟩
  · rcases get hb with ⟨h3,h4,h5⟩ | ⟨i,b1,h3,rfl,h4,h5,h6⟩ <;> rcases get hb' with ⟨h3',h4',h5'⟩ | ⟨i',b1',h3',rfl,h4',h5',h6'⟩
    · simp only [if_pos h3] at hq;simp only [if_pos h3'] at hq';exact s.hs.inj k k' b b' q q' h5 h5' hg hg' hq hq' e
    · simp only [if_pos h3] at hq;rw [h5'] at hq';have hl := (hs.live i' b1' q' h3' (mapg hg') hq').1;rw [← e] at hl;exact absurd hl (other h5 hg h4 hq)
    · simp only [if_pos h3'] at hq';rw [h5] at hq;have hl := (hs.live i b1 q h3 (mapg hg) hq).1;rw [e] at hl;exact absurd hl (other h5' hg' h4' hq')
    · rw [h5] at hq;rw [h5'] at hq';have := hs.inj i i' b1 b1' q q' h3 h3' (mapg hg) (mapg hg') hq hq' e;subst this;rw [← h4,← h4']
  · rcases hs.st1 b hb with hb' | hb'
    · exact s.hs.st1 b hb'
    · exact .inr (hcM b hb')
  · simp only [aC,fA];exact cC s.hs.mle (fD _ _)
  · have hlt := bP hk s.hs.mle;simp only [if_pos hlt];exact s.hs.keep k hk
end
section
variable {P : Program} {env : cJ} {h : Hp}
variable {d : Option Nat} {ty : TypeId} {pos : String} {af : Array Edge} {g : Option (Nat × Bool)}
end
section
variable {P : Program} {n : Nat × Nat} {ops : Array Oper} {env : cJ} {h : Hp} {Q : Exit → cJ → Hp → Prop} {code : Code}
end
theorem gW (θ : Nat → Nat) : ∀ {es : List (List AV)}, (∀ e, e ∈ es → AV.idfL e = true) → es.map (AV.mapL θ) = es
  | [],_ => rfl
  | e :: es,h => by simp only [List.map_cons];rw [kZ θ e (h e (by simp)),gW θ fun q hq => h q (by simp [hq])]
theorem cM {h : Hp} {i sz : Nat} {θ : Nat → Nat} {es es' : List (List AV)} (hk : h[i]? = some (.arr es' sz)) (he : es' = es) (hi : ∀ e,e ∈ es → AV.idfL e = true) : h[i]? = some ((AB.arr es sz).map θ) := by
  subst he;rw [hk];simp only [AB.map,gW θ hi]
theorem JH {h : Hp} {k i off sz : Nat} {es : List (List AV)} {c xs : List AV} (hk : h[k]? = some (.arr es sz)) (hc : es[i]? = some c) (hl : Nat.ble (off + xs.length) sz = true) : upd h (.ep k i off sz) xs = some (h.set k (.arr (es.set i (gM c off xs)) sz)) := by
  simp only [upd,hk,hc,dD,hl]
theorem mN {h : Hp} {k i off sz : Nat} {es : List (List AV)} {c : List AV} (hk : h[k]? = some (.arr es sz)) (hc : es[i]? = some c) : fX h (.ep k i off sz) = some (c,off) := by
  simp only [fX,hk,hc,dD]
theorem C6 {P : Program} {n : Nat × Nat} {env : cJ} {h : Hp} {K : cJ → Hp → Prop} {ops : Array Oper} {env' : cJ} {h' : Hp} (he : (env,h) = (env',h')) (hk : K env' h') : VC P n ops [] env h K := by
  cases he;exact oY hk
theorem nZ {P : Program} {n : Nat × Nat} {env : cJ} {h : Hp} {K : cJ → Hp → Prop} {ops : Array Oper} {env' : cJ} {h' : Hp} (hk : K env' h') (he : (env,h) = (env',h') := by first | (dsimp only [List.nil_append,List.cons_append,List.append_nil,List.length_cons,List.length_nil,List.set_cons_zero,List.set_cons_succ,List.map_cons,List.map_nil,gM,fC,lK,oB,GR,yH,M0,L8,L7,L9,yG,yJ,yE,yI,Nat.zero_add,Nat.add_zero,Nat.reduceAdd,Bool.not_true,Bool.not_false];first | done | exact rfl) | exact rfl) : VC P n ops [] env h K := C6 he hk
theorem iA {P : Program} {n : Nat × Nat} {env : cJ} {h : Hp} {Q : Exit → cJ → Hp → Prop} (id : Nat) {d1 d2 d3 : Nat} {t t2 t3 t4 t5 : TypeId} {x y y2 : Operand} {a b : Int} {p1 p2 p3 : String} {f1 f2 f3 : Array Edge} (hx : evu env x = some (.i a)) (h1 : evu ((d1, .i a) :: env) y = some (.i a)) (h2 : evu ((d1, .i a) :: env) y2 = some (.i b)) (b1 : -9223372036854775808 ≤ a + b) (b2 : a + b ≤ 9223372036854775807)
    (hk : VC P n [⟨some d1,.move x,t3,p1,f1,none⟩,⟨some d2,.binOp .add t y y2 t2,t4,p2,f2,none⟩,⟨some d3,.assign (.tmp d2),t5,p3,f3,none⟩].toArray [] ((d3,.i (a + b)) :: (d2,.i (a + b)) :: (d1,.i a) :: env) h (fun v h => Q .normal v h)) (hz : evu ((d2,.i (a + b)) :: (d1,.i a) :: env) (.tmp d2) = some (.i (a + b)) := by rfl) (e1 : Nat.blt d1 n.1 = true := by rfl) (e2 : Nat.blt d2 n.1 = true := by rfl) (e3 : Nat.blt d3 n.1 = true := by rfl) :
    AW P n (.region id [⟨some d1,.move x,t3,p1,f1,none⟩,⟨some d2,.binOp .add t y y2 t2,t4,p2,f2,none⟩,⟨some d3,.assign (.tmp d2),t5,p3,f3,none⟩].toArray false) env h Q :=
  rg id (mV (vV (dS h1 h2 b1 b2) (aV hk hz e3) e2) hx e1)
def cX (L : Nat → Bool) : List (Nat × Nat) → List AB → Hp → Hp
  | (s,k) :: r,b :: bs,h => cX L r bs (match L s with | true => h.set k b | false => h)
  | _,_,h => h
def B9 (pre bef : Nat → Bool) : List (Nat × Nat) → List AB → Hp → Hp
  | (s,k) :: r,b :: bs,h => B9 pre bef r bs (match pre s with | true => h.set k b | false => match bef s with | true => h | false => h.set k .gone)
  | (s,k) :: r,[],h => B9 pre bef r [] (match bef s with | true => h | false => h.set k .gone)
  | [],_,h => h
def seeH (pres : List (List Nat)) (i : Nat) (pre : List Nat) (ss : List (Nat × Nat)) (bs : List AB) (h : Hp) : Hp :=
  B9 (fun s => pre.any (Nat.beq s)) (fun s => Nat.beq s i || (pres.getD s []).any (Nat.beq i)) ss bs h
def CT (pres : List (List Nat)) : List (Nat × Nat) → Bool
  | [] => true
  | (s,k) :: r => (r.all fun x => !Nat.beq x.1 s && (!Nat.beq x.2 k || (pres.getD x.1 []).any (Nat.beq s))) && CT pres r
theorem lC (L : Nat → Bool) : ∀ (ss : List (Nat × Nat)) (bs : List AB) (h : Hp), (cX L ss bs h).length = h.length
  | [],_,_ => rfl
  | _ :: _,[],_ => rfl
  | (s,k) :: r,b :: bs,h => by
    simp only [cX];rw [lC L r bs];cases L s <;> simp
theorem qT (pre bef : Nat → Bool) : ∀ (ss : List (Nat × Nat)) (bs : List AB) (h : Hp), (B9 pre bef ss bs h).length = h.length
  | [],_,_ => rfl
  | (s,k) :: r,[],h => by simp only [B9];rw [qT pre bef r []];cases bef s <;> simp
  | (s,k) :: r,b :: bs,h => by
    simp only [B9];rw [qT pre bef r bs];cases pre s <;> cases bef s <;> simp
theorem lH {L L' : Nat → Bool} : ∀ (ss : List (Nat × Nat)) (bs : List AB) (h : Hp), (∀ x, x ∈ ss → L x.1 = L' x.1) → cX L ss bs h = cX L' ss bs h
  | [],_,_,_ => rfl
  | _ :: _,[],_,_ => rfl
  | (s,k) :: r,b :: bs,h,hx => by
    simp only [cX];rw [hx (s,k) aN,lH r bs _ (fun x h => hx x (aE _ h))]
theorem GV {h1 h2 : Hp} (hl : h1.length = h2.length) (hb : ∀ (j : Nat) b,h1[j]? = some b → b ≠ .gone → h2[j]? = some b) (k : Nat) (b' : AB) : ∀ (j : Nat) b,(h1.set k b')[j]? = some b → b ≠ .gone → (h2.set k b')[j]? = some b := by
  intro j b hj hg;rw [bQ] at hj ⊢;rw [← hl];split
  · rename_i e;rw [if_pos e] at hj;exact hj
  · rename_i e;rw [if_neg e] at hj;exact hb j b hj hg
theorem ED {h1 h2 : Hp} (hb : ∀ (j : Nat) b,h1[j]? = some b → b ≠ .gone → h2[j]? = some b) (k : Nat) : ∀ (j : Nat) b,(h1.set k .gone)[j]? = some b → b ≠ .gone → j ≠ k ∧ h2[j]? = some b := by
  intro j b hj hg;rw [bQ] at hj;split at hj
  · split at hj
    · cases hj;exact absurd rfl hg
    · cases hj
  · rename_i e;exact ⟨fun e' => e e'.symm,hb j b hj hg⟩
theorem yU {L pre bef : Nat → Bool} : ∀ (ss : List (Nat × Nat)) (bs : List AB) (h1 h2 : Hp),bs.length = ss.length → h1.length = h2.length → (∀ (j : Nat) b,h1[j]? = some b → b ≠ .gone → h2[j]? = some b) →
    (∀ x,x ∈ ss → pre x.1 = true → L x.1 = true) → (∀ x,x ∈ ss → pre x.1 = false → bef x.1 = true → L x.1 = false) → ∀ (j : Nat) b,(B9 pre bef ss bs h1)[j]? = some b → b ≠ .gone → (cX L ss bs h2)[j]? = some b
  | [],_,_,_,_,_,hb,_,_ => hb
  | _ :: _,[],_,_,hl,_,_,_,_ => by simp at hl
  | (s,k) :: r,b' :: bs,h1,h2,hl,hl2,hb,hp,hn => by
    simp only [B9,cX];have h3 := hp (s,k) aN;have h4 := hn (s,k) aN;simp only at h3 h4;refine yU r bs _ _ (by simpa using hl) ?_ ?_ (fun x hx => hp x (aE _ hx)) (fun x hx => hn x (aE _ hx))
    · cases pre s <;> cases bef s <;> cases L s <;> simpa using hl2
    · cases hps : pre s with
      | true =>
        rw [h3 hps];exact GV hl2 hb k b'
      | false =>
        cases hbs : bef s with
        | true => rw [h4 hps hbs];exact hb
        | false =>
          intro j b hj hg;obtain ⟨h5,h6⟩ := ED hb k j b hj hg;cases L s with
          | true => simp only;rw [gG (fun e => h5 e.symm)];exact h6
          | false => exact h6
theorem F0 {pre bef : Nat → Bool} : ∀ (ss : List (Nat × Nat)) (don mb : List AB) (h : Hp), (∀ x, x ∈ ss.drop don.length → pre x.1 = false) → B9 pre bef ss (don ++ mb) h = B9 pre bef ss don h
  | [],_,_,_,_ => rfl
  | (s,k) :: r,[],[],h,_ => by simp only [List.append_nil]
  | (s,k) :: r,[],b :: mb,h,hx => by
    have h1 := hx (s,k) aN;have h2 := F0 (pre := pre) (bef := bef) r [] mb (match bef s with | true => h | false => h.set k .gone) (fun x hx' => hx x (by simpa using aE _ hx'))
    simp only at h1;simp only [List.nil_append,B9,h1] at h2 ⊢;exact h2
  | (s,k) :: r,b :: don,mb,h,hx => by
    simp only [List.cons_append,B9];exact F0 r don mb _ (fun x hx' => hx x (by simpa using hx'))
theorem I9 {L : Nat → Bool} : ∀ (ss : List (Nat × Nat)) (bs : List AB) (h : Hp) (k : Nat) (b : AB), (∀ x, x ∈ ss → L x.1 = true → x.2 ≠ k) → cX L ss bs (h.set k b) = (cX L ss bs h).set k b
  | [],_,_,_,_,_ => rfl
  | _ :: _,[],_,_,_,_ => rfl
  | (s,k') :: r,b' :: bs,h,k,b,hx => by
    simp only [cX];have h1 := hx (s,k') aN;simp only at h1;rw [← I9 r bs _ k b (fun x h => hx x (aE _ h))];cases hL : L s with
    | true => simp only;rw [List.set_comm _ _ (fun e => h1 hL e.symm)]
    | false => rfl
theorem wG {pres : List (List Nat)} {L L' : Nat → Bool} {s k : Nat} {b : AB} : ∀ (ss : List (Nat × Nat)) (bs : List AB) (h : Hp) (m : Nat),CT pres ss = true → ss[m]? = some (s,k) → bs[m]? = some b → L s = false → (∀ j,L' j = (L j || Nat.beq j s)) →
    (∀ x,x ∈ ss → L x.1 = true → ∀ j,j ∈ pres.getD x.1 [] → L j = true) → cX L' ss bs h = (cX L ss bs h).set k b
  | [],_,_,m,_,hs,_,_,_,_ => by simp at hs
  | _ :: _,[],_,m,_,_,hb,_,_,_ => by simp at hb
  | (s0,k0) :: r,b0 :: bs,h,m,hok,hs,hb,hL,hL',hcl => by
    simp only [CT,aM,aT] at hok;obtain ⟨h1,h2⟩ := hok;simp only [cX];cases m with
    | zero =>
      simp only [cH,Option.some.injEq,Prod.mk.injEq] at hs hb;obtain ⟨rfl,rfl⟩ := hs;subst hb;rw [hL,hL',dD,oG];simp only
      rw [lH (L := L') (L' := L) r bs _ (fun x hx => by
        have := (h1 x hx).1
        rw [hL',show Nat.beq x.1 s0 = false from by simpa using this,iF])]
      refine I9 r bs h k0 b0 fun x hx hLx e => ?_
      rcases fS.1 (h1 x hx).2 with h3 | h3
      · rw [e,dD] at h3;cases h3
      · have := hcl x (aE _ hx) hLx s0 (lJ.1 h3);rw [hL] at this;cases this
    | succ m =>
      simp only [fE] at hs hb;have hne : s0 ≠ s := fun e => by
        have := (h1 (s,k) (aH hs)).1;rw [e] at this;simp at this
      have e1 : L' s0 = L s0 := by
        rw [hL',show Nat.beq s0 s = false from by rw [← cV];intro hb';exact hne (aP hb'),iF]
      rw [e1];exact wG r bs _ m h2 hs hb hL hL' (fun x hx => hcl x (aE _ hx))
theorem AE {L L' : Nat → Bool} : ∀ (l : List jS) (i : Nat), (∀ (j : Nat) f, l[j]? = some f → L (i + j) = L' (i + j) ∨ f.new = []) → iC L i l = iC L' i l
  | [],_,_ => rfl
  | f :: r,i,hx => by
    simp only [iC];rw [AE (L := L) (L' := L') r (i + 1) (fun j g hg => by rw [eC,L3 1 j];exact hx (j + 1) g (by simpa using hg))]
    rcases hx 0 f rfl with h1 | h1
    · rw [Nat.add_zero] at h1;rw [h1]
    · rw [h1];cases L i <;> cases L' i <;> rfl
def B3 (P : Program) (o : Oper) (env : cJ) (h : Hp) (k : Nat) (nb : AB) : Prop :=
  ∀ c ρ S a w H,HS c ρ S H w → L2 ρ S env h a w → (∀ (j : Nat) b,h[j]? = some b → b ≠ .gone → H[j]? = some b) → ∀ (K : Act → World → Prop) Q,
    (∀ y w',HS c ρ S (H.set k nb) w' → fN ρ ρ S S w w' → K (a.put none y) w') → o.wp P a w K Q
theorem B3.more {P : Program} {o : Oper} {env env' : cJ} {h : Hp} {k : Nat} {nb : AB} (hs : B3 P o env h k nb) (he : ∀ t u,look env t = some u → look env' t = some u) : B3 P o env' h k nb :=
  fun c ρ S a w H g p => hs c ρ S a w H g ⟨fun t u hu => p.env t u (he t u hu),p.rng,p.blk,p.live,p.stab,p.glob⟩
def K3 (h : Hp) : AV → List AV → Option (Nat × AB)
  | .ptr k off, xs => match h[k]? with
    | some (.cells cs) => match Nat.ble (off + xs.length) cs.length with
      | true => some (k,.cells (gM cs off xs))
      | false => none
    | _ => none
  | .ep k i off sz, xs => match h[k]? with
    | some (.arr es s) => match Nat.beq s sz, es[i]?, Nat.ble (off + xs.length) sz with
      | true,some c,true => some (k,.arr (es.set i (gM c off xs)) s)
      | _,_,_ => none
    | _ => none
  | _,_ => none
theorem OK {h : Hp} {k i off sz : Nat} {es : List (List AV)} {c xs : List AV} (hk : h[k]? = some (.arr es sz)) (hc : es[i]? = some c) (hl : Nat.ble (off + xs.length) sz = true) : K3 h (.ep k i off sz) xs = some (k,.arr (es.set i (gM c off xs)) sz) := by
  simp only [K3,hk,dD,hc,hl]
theorem Z8 {P : Program} {env : cJ} {h : Hp} {pos : String} {ty : TypeId} {af : Array Edge} (T : lR P) {t : Nat} {i : TI} {x y : Operand} {u v : AV} {xs : List AV} {k : Nat} {nb : AB} (hx : evu env x = some u) (hy : evu env y = some v) (ht : T.ti t = some i) (hv : v.cellsOf = some xs) (hl : xs.length = i.size) (h1 : xs.all AV.one = true) (h0 : 0 < i.size) (hu : K3 h u xs = some (k,nb)) :
    B3 P ⟨none,.store t x y,ty,pos,af,none⟩ env h k nb := by
  intro c ρ S a w H g p hH K' Q hK';have hxv := p.evu hx;have hyv := qD (p.evu hy) hv;have hone := xC hyv h1;have hlen := dW hyv;simp only [eG] at hlen;have run : ∀ {b o : Nat} {cc : Array Value} {e : TypeId},a.eval x = .pointer (some ⟨b,o,none⟩) → w.heap[b]? = some (.cells cc e (0,0)) → o + (a.eval y).cells.toList.length ≤ cc.size →
      (execOp a.eval ⟨none,.store t x y,ty,pos,af,none⟩).run P w = .ok .skip (w.setRow b (cc.toList.take o ++ (a.eval y).cells.toList ++ cc.toList.drop (o + (a.eval y).cells.toList.length)).toArray) := fun {b o cc e} he hc hle => by
    have hst := run_storeCells_at P b o e (a.eval y).cells.toList 0 cc w hc (by simpa using hle) hone
    simp only [Nat.add_zero] at hst;simp only [execOp,he,Instr.storeAt,Instr.sureAddr,storeVar,Sem.run_bind,Sem.run_pure,Result.andThen_ok,T.sizeOf ht];rw [if_neg (by simp;omega)]
    simp only [hst,Result.andThen_ok]
  have fin : ∀ {k b o : Nat} {b0 nb : AB} {cc : Array Value} {e : TypeId} {off : Nat} {ys : List Value},(∀ y w',HS c ρ S (H.set k nb) w' → fN ρ ρ S S w w' → K' (a.put none y) w') → h[k]? = some b0 → b0 ≠ .gone → ρ k = some (b,o) → w.heap[b]? = some (.cells cc e (0,0)) → (∀ (j : Nat) (y : Value),ys[j]? = some y → cc[o + j]? = some y) → off + (a.eval y).cells.toList.length ≤ ys.length → a.eval x = .pointer (some ⟨b,o + off,none⟩) →
      (∀ w',fN ρ ρ S S w w' → H4 w' b o (gM ys off (a.eval y).cells.toList) → RB S w' ρ (some (b,o)) nb) →
      Oper.wp P ⟨none,.store t x y,ty,pos,af,none⟩ a w K' Q := fun {k b o b0 nb cc e off ys} hK' e2 e3 e4 e5 e6 e7 e8 e9 => by
    obtain ⟨f1,f2,f3⟩ := tV e5 e6 e7 (by simp;omega)
    have hr := run e8 e5 f1;unfold Oper.wp;rw [hr];obtain ⟨g1,g2⟩ := g.upd (hH _ _ e2 e3) e3 e4 (mH e5 f3) (fun l => e9 _ l f2);exact hK' _ _ g1 g2
  cases u with
  | ptr k off =>
    simp only [K3] at hu;split at hu
    · rename_i cs hk';split at hu
      · rename_i hble;cases hu;have hle := aU hble;simp only [R] at hxv;obtain ⟨b,o,hp,hev⟩ := hxv;have hb := p.blk k _ hk';simp only [RB,hp] at hb;obtain ⟨b',o',ys,hq,⟨cc,e,hc,hcy⟩,hcs⟩ := hb;cases hq;have hyl := dW hcs;refine fin hK' hk' (by simp) hp hc hcy (by simp;omega) hev fun w' l hh => ?_
        simp only [RB];exact ⟨b,o,_,rfl,hh,zS (hcs.later l) (hyv.later l)⟩
      · cases hu
    · cases hu
  | ep k j off sz =>
    simp only [K3] at hu;split at hu
    · rename_i es s' hk';split at hu
      · rename_i cj hbeq hj hble;cases hu;have hsz := aP hbeq;subst hsz;have hle := aU hble;simp only [R] at hxv;obtain ⟨b,o,hp,hev⟩ := hxv;have hb := p.blk k _ hk';simp only [RB,hp] at hb;obtain ⟨hes,hs0,hb⟩ := hb;rcases hb with hb | ⟨b',o',ys,hq,⟨cc,e,hc,hcy⟩,hcs⟩
        · obtain ⟨hb,_⟩ := hb;subst hb;simp at hj
        cases hq;have hyl := dW hcs;have hjl : j < es.length := (aA.1 hj).1;have hfl := dR hes;have hjm : j * s' + s' ≤ es.length * s' := by
          calc j * s' + s' = (j + 1) * s' := by rw [dA]; omega
            _ ≤ es.length * s' := eJ _ hjl
        refine fin hK' hk' (by simp) hp hc hcy (off := j * s' + off) (by simp;omega) hev fun w' l hh => ?_
        simp only [RB];have hput := zS (off := j * s' + off) (hcs.later l) (hyv.later l);rw [qI hes hj (by omega)] at hput
        refine ⟨fun e1 he1 => ?_,hs0,.inr ⟨b,o,_,rfl,hh,hput⟩⟩
        rcases oJ he1 with h2 | h2
        · exact hes e1 h2
        · subst h2;rw [rU];exact hes _ (aH hj)
      · cases hu
    · cases hu
  | _ => simp [K3] at hu
theorem qF.store {P : Program} {n : Nat × Nat} {c : mE} {env : cJ} {h h' : Hp} {all : List jS} {L L' : Nat → Bool} {ρ : Pl} {S : Nat → Prop} {a : Act} {w w' : World} {i : Nat} {y : Value} (s : qF P n c env h all L ρ S a w)
    (hf : all[i]? = some ⟨none,.v undef,[]⟩) (hL : ∀ j,L' j = (L j || Nat.beq j i)) (hh : HS c ρ S (h' ++ iC L 0 all) w') (hl : h'.length = h.length) (l : fN ρ ρ S S w w') : qF P n c env h' all L' ρ S (a.put none y) w' := by
  have old : ∀ j,L' j = false → L j = false := fun j hj => by rw [hL] at hj;exact (gH.1 hj).1
  refine ⟨s.size,s.defers.later l,s.cm,fun t x hx => (s.env0 t x hx).later l,fun j g t hg hj ht => ?_,?_,fun j g hg hj k hk => by rw [hl];exact s.undone j g hg (old j hj) k hk⟩
  · by_cases hji : j = i
    · subst hji;rw [hf] at hg;cases hg;cases ht
    · have hjL : L j = true := by
        rw [hL] at hj;rcases fS.1 hj with hj | hj
        · exact hj
        · exact absurd (aP hj) hji
      exact (s.done j g t hg hjL ht).later l
  · rwa [AE (L := L') (L' := L) all 0 (fun j g hg => by
      rw [Nat.zero_add];by_cases hji : j = i
      · subst hji;rw [hf] at hg;cases hg;exact .inr rfl
      · left;rw [hL,show Nat.beq j i = false from by rw [← cV];intro hb;exact hji (aP hb),iF])]
def WU (P : Program) (n : Nat × Nat) (ops : Array Oper) (pres : List (List Nat)) (ss : List (Nat × Nat)) (ds : List Nat) (env : cJ) (h : Hp) (effs : List jS) (don : List AB) (K : cJ → Hp → Prop) : Prop :=
  ∃ more mb,(effs ++ more).length = pres.length ∧ (don ++ mb).length = ss.length ∧ gO (effs ++ more) = ds ∧
    (∀ i f pre,effs.length ≤ i → (effs ++ more)[i]? = some f → pres[i]? = some pre →
      ((∀ x,x ∈ ss → x.1 ≠ i) ∧ R9 P ops i (sU env ((effs ++ more).take i) pre) (seeH pres i pre ss (don ++ mb) h ++ iC (fun j => pre.any (Nat.beq j)) 0 ((effs ++ more).take i)) f) ∨
      (∃ (m k : Nat) (b : AB) (o : Oper),ss[m]? = some (i,k) ∧ (don ++ mb)[m]? = some b ∧ f = ⟨none,.v undef,[]⟩ ∧ ops[i]? = some o ∧ o.guard = none ∧ k < h.length ∧ B3 P o (sU env ((effs ++ more).take i) pre) (seeH pres i pre ss (don ++ mb) h ++ iC (fun j => pre.any (Nat.beq j)) 0 ((effs ++ more).take i)) k b)) ∧
    VC P n ops (ops.toList.drop pres.length) (sU env (effs ++ more) (List.range pres.length)) (cX (fun _ => true) ss (don ++ mb) h ++ iC (fun _ => true) 0 (effs ++ more)) K
theorem MX {P : Program} {n : Nat × Nat} {env : cJ} {h : Hp} {Q : Exit → cJ → Hp → Prop} {id : Nat} {l : List Oper} (pres : List (List Nat)) (ds : List Nat) (ss : List (Nat × Nat)) (hm : P.follows .mixedOrders = true) (hok : pE l.toArray pres = true) (hss : CT pres ss = true) (hssl : (ss.all fun x => Nat.blt x.1 pres.length) = true) (hnd : ds.Nodup) (hds : (ds.all fun d => Nat.blt d n.1) = true) (hsz : Nat.ble pres.length l.length = true)
    (hv : WU P n l.toArray pres ss ds (cW ds env) h [] [] (fun v h => Q .normal v h)) (hndf : kM l = true := by rfl) : AW P n (.region id l.toArray true) env h Q := by
  intro c ρ S a w QX s hX;refine nO hm hndf ?_;have hQ : ∀ (env' : cJ) (h' : Hp) ρ' S' a' w',Q .normal env' h' → lM n c ρ' S' env' h' a' w' → (fun e a w => e = Exit.normal ∧ QX Exit.normal a w) Exit.normal a' w' := fun env' h' ρ' S' a' w' k s' => ⟨rfl,hX .normal env' h' ρ' S' a' w' k s'⟩
  generalize (fun e a w => e = Exit.normal ∧ QX Exit.normal a w) = QQ at hQ ⊢;obtain ⟨all,bs,h1,hbl,h2,h3,h4⟩ := hv;simp only [List.nil_append,List.length_nil,bM,true_implies] at h1 hbl h2 h3 h4;have hAT : ∀ L : Nat → Bool,(∀ j,j < pres.length → L j = true) → cX L ss bs h = cX (fun _ => true) ss bs h := fun L hL => lH ss bs h fun x hx => hL x.1 (by have := aT.1 hssl x hx;exact aU this)
  have hple : pres.length ≤ l.toArray.size := by simpa using aU hsz
  have henv : ∀ t x,look (cW ds env) t = some x → look env t = some x ∧ t ∉ gO all := fun t x hx => by rw [h2];exact iD hx
  -- the first operations,in whatever order
  have key : ∀ (fuel : Nat) (listed : Array Bool) (U : List Nat) (ρ : Pl) (S : Nat → Prop) (a : Act) (w : World),listed.size = l.toArray.size → (∀ j,j < l.toArray.size → listed.getD j false = false → j ∈ U) → U.length ≤ fuel → (∀ j,pres.length ≤ j → listed.getD j false = false) →
      (∀ (i : Nat) o,l.toArray[i]? = some o → listed.getD i false = true → ∀ e,e ∈ o.after → Region.binds .any e = true → listed.getD e.on false = true) →
      qF P n c (cW ds env) (cX (fun j => listed.getD j false) ss bs h) all (fun j => listed.getD j false) ρ S a w → wpAny P .any l.toArray QQ fuel listed a w := by
    intro fuel
    induction fuel with
    | zero =>
      intro listed U ρ S a w hls hU hUl htail hcl st;have hU0 : U = [] := bV (by omega)
      subst hU0;have hall : ∀ j,j < l.toArray.size → listed.getD j false = true := fun j hj => by
        cases hb : listed.getD j false with
        | true => rfl
        | false => exact absurd (hU j hj hb) (by simp)
      have hpm : pres.length = l.toArray.size := by
        rcases fJ pres.length l.toArray.size with h5 | h5
        · have := htail pres.length (aQ _);rw [hall _ h5] at this;cases this
        · omega
      refine nJ (k := pres.length) (r := 0) hok _ _ a w (by omega) (aQ _) (aQ _) hls (fun j hj => ?_) (h4 c ρ S a w QQ ?_ fun env' h' ρ' S' a' w' k s' => hQ env' h' ρ' S' a' w' k s')
      · rw [hall j hj];simp;omega
      · refine ⟨st.size,st.defers,fun t x hx => ?_,?_,st.cm⟩
        · rcases jT hx with hx | ⟨j,f,h5,h6,h7,rfl⟩
          · exact st.env0 t x hx
          · exact st.done j f t h6 (hall j (by have := (aA.1 h6).1;omega)) h7
        · have := st.hs
          rwa [jD (L := fun j => listed.getD j false) (L' := fun _ => true) all 0 (fun j _ hj => hall j (by omega)),hAT _ (fun j hj => hall j (by omega))] at this
    | succ fuel ih =>
      intro listed U ρ S a w hls hU hUl htail hcl st;by_cases hfl : ∀ j,j < pres.length → listed.getD j false = true
      · -- all of the first ones have come up
        refine nJ (k := pres.length) (r := l.toArray.size - pres.length) hok _ _ a w (by omega) (aQ _) ?_ hls (fun j hj => ?_) (h4 c ρ S a w QQ ?_ fun env' h' ρ' S' a' w' k s' => hQ env' h' ρ' S' a' w' k s')
        · have hsub : ∀ j,j ∈ List.range' pres.length (l.toArray.size - pres.length) → j ∈ U := fun j hj => by
            rw [NU] at hj;exact hU j (by omega) (htail j hj.1)
          have := (NT (s := pres.length) (n := l.toArray.size - pres.length)).length_le_of_subset hsub;rw [IV] at this;omega
        · by_cases hj' : j < pres.length
          · rw [hfl j hj'];simp [hj']
          · rw [htail j (by omega)];simp;omega
        · refine ⟨st.size,st.defers,fun t x hx => ?_,?_,st.cm⟩
          · rcases jT hx with hx | ⟨j,f,h5,h6,h7,rfl⟩
            · exact st.env0 t x hx
            · exact st.done j f t h6 (hfl j (by have := (aA.1 h6).1;omega)) h7
          · have := st.hs
            rwa [jD (L := fun j => listed.getD j false) (L' := fun _ => true) all 0 (fun j _ hj => hfl j (by omega)),hAT _ hfl] at this
      · obtain ⟨j0,hj0,hjf⟩ : ∃ j,j < pres.length ∧ listed.getD j false = false := by
          apply Classical.byContradiction;intro hc;apply hfl;intro j hj;cases hb : listed.getD j false with
          | true => rfl
          | false => exact absurd ⟨j,hj,hb⟩ hc
        -- something is ready
        have hex : Region.ready .any l.toArray listed ≠ [] := by
          have least : ∃ j,j < pres.length ∧ listed.getD j false = false ∧ ∀ k,k < j → listed.getD k false = true := by
            have : ∀ b j,j ≤ b → j < pres.length → listed.getD j false = false → ∃ j,j < pres.length ∧ listed.getD j false = false ∧ ∀ k,k < j → listed.getD k false = true := by
              intro b
              induction b with
              | zero => exact fun j hj h5 h6 => ⟨j,h5,h6,fun k hk => by omega⟩
              | succ b ihb =>
                intro j hj h5 h6;by_cases hk : ∃ k,k < j ∧ listed.getD k false = false
                · obtain ⟨k,hk1,hk2⟩ := hk;exact ihb k (by omega) (by omega) hk2
                · refine ⟨j,h5,h6,fun k hk' => ?_⟩
                  cases hb : listed.getD k false with
                  | true => rfl
                  | false => exact absurd ⟨k,hk',hb⟩ hk
            exact this j0 j0 (aQ _) hj0 hjf
          obtain ⟨j,h5,h6,h7⟩ := least;intro he;have hlt : j < l.toArray.size := by omega
          have : j ∈ Region.ready .any l.toArray listed := mem_ready.2 ⟨by
            have e : listed.getD j true = listed.getD j false := by simp only [Array.getD,hls,hlt,dif_pos]
            rw [e,h6],_,bW hlt,fun e he hb => h7 _ (iS hok (bW hlt) e he hb)⟩
          rw [he] at this;cases this
        refine ⟨fun h5 => absurd h5 hex,fun i hi => ?_⟩
        obtain ⟨g1,o,ho,hall⟩ := mem_ready.1 hi;have hil : i < l.toArray.size := (aK.1 ho).1;have g1' : listed.getD i false = false := by
          have e : listed.getD i true = listed.getD i false := by simp only [Array.getD,hls,hil,dif_pos]
          rw [← e];exact g1
        have him : i < pres.length := by
          rcases fJ i pres.length with h5 | h5
          · exact h5
          · obtain ⟨e,he,hb,hon⟩ := qA hok ho h5 j0 (by omega)
            have := hall e he hb;rw [hon,hjf] at this;cases this
        have hfi : all[i]? = some all[i] := aB (by omega)
        obtain ⟨pre,hpre⟩ : ∃ pre,pres[i]? = some pre := ⟨_,aB him⟩
        -- its predecessors have come up
        have up : ∀ (b k : Nat) (p : List Nat),k ≤ b → pres[k]? = some p → (k = i ∨ listed.getD k false = true) → ∀ j,j ∈ p → listed.getD j false = true := by
          intro b
          induction b with
          | zero =>
            intro k p hk hp _ j hj;obtain ⟨ok,hok1⟩ : ∃ o,l.toArray[k]? = some o := ⟨_,bW (by have := (aA.1 hp).1;omega)⟩
            have := (mF hok hok1 hp j hj).1;omega
          | succ b ihb =>
            intro k p hk hp hki j hj;obtain ⟨ok,hok1⟩ : ∃ o,l.toArray[k]? = some o := ⟨_,bW (by have := (aA.1 hp).1;omega)⟩
            obtain ⟨_,e,he,hb,hor⟩ := mF hok hok1 hp j hj;have hle : listed.getD e.on false = true := by
              rcases hki with rfl | hki
              · rw [ho] at hok1;cases hok1;exact hall e he hb
              · exact hcl k ok hok1 hki e he hb
            rcases hor with hor | hor
            · rw [← hor];exact hle
            · have hon := iS hok hok1 e he hb;cases hpe : pres[e.on]? with
              | none => rw [aD,hpe] at hor;simp at hor
              | some p' =>
                rw [aD,hpe] at hor;exact ihb e.on p' (by omega) hpe (.inr hle) j hor
        have hprel : ∀ j,j ∈ pre → listed.getD j false = true := up i i pre (aQ _) hpre (.inl rfl);have hH0 : (cX (fun j => listed.getD j false) ss bs h).length = h.length := lC _ _ _ _;have hhv : (seeH pres i pre ss bs h).length = h.length := qT _ _ _ _ _;have hbel : ∀ (k : Nat) b,(seeH pres i pre ss bs h)[k]? = some b → b ≠ .gone → (cX (fun j => listed.getD j false) ss bs h)[k]? = some b := by
          refine yU ss bs h h hbl rfl (fun _ _ hb _ => hb) (fun x _ hp => hprel _ (lJ.1 hp)) (fun x hx _ hbf => ?_);cases hlx : listed.getD x.1 false with
          | false => rfl
          | true =>
            rcases fS.1 hbf with h5 | h5
            · rw [aP h5,g1'] at hlx;cases hlx
            · cases hpx : pres[x.1]? with
              | none => rw [aD,hpx] at h5;simp at h5
              | some px =>
                rw [aD,hpx] at h5;have := up x.1 x.1 px (aQ _) hpx (.inr hlx) i (lJ.1 h5);rw [g1'] at this;cases this
        have hbel2 : ∀ (k : Nat) b,(seeH pres i pre ss bs h ++ iC (fun j => pre.any (Nat.beq j)) 0 (all.take i))[k]? = some b → b ≠ .gone → (cX (fun j => listed.getD j false) ss bs h ++ iC (fun j => listed.getD j false) 0 all)[k]? = some b := fun k b hb hgb => by
          by_cases hk : k < h.length
          · rw [aG (by omega)] at hb ⊢;exact hbel k b hb hgb
          · rw [aF (by omega)] at hb ⊢
            rw [hhv] at hb;rw [hH0];have h5 := wZ (L' := fun j => listed.getD j false) _ _ _ _ (fun j hj => hprel j (lJ.1 hj)) hb hgb;have h6 : iC (fun j => listed.getD j false) 0 all = iC (fun j => listed.getD j false) 0 (all.take i) ++ iC (fun j => listed.getD j false) (0 + (all.take i).length) (all.drop i) := by
              rw [← nL,bX]
            rw [h6,aG (aA.1 h5).1];exact h5
        have hpreP : L2 ρ S (sU (cW ds env) (all.take i) pre) (seeH pres i pre ss bs h ++ iC (fun j => pre.any (Nat.beq j)) 0 (all.take i)) a w := by
          refine ⟨fun t x hx => ?_,st.hs.rng,fun k b hb => ?_,fun k b p hb hgb hp => (st.hs.live k b p (hbel2 k b hb hgb) hgb hp).2,st.hs.stab,st.hs.glob⟩
          · rcases jT hx with hx | ⟨j,f,h5,h6,h7,rfl⟩
            · exact st.env0 t x hx
            · rw [bH] at h6;split at h6
              · exact st.done j f t h6 (hprel j h5) h7
              · cases h6
          · by_cases hgb : b = .gone
            · subst hgb;trivial
            · exact st.hs.blk k b (hbel2 k b hb hgb)
        have hposl : (seeH pres i pre ss bs h ++ iC (fun j => pre.any (Nat.beq j)) 0 (all.take i)).length = (cX (fun j => listed.getD j false) ss bs h).length + jU (all.take i) := by rw [aC,kU,hhv,hH0]
        have hokd : yZ all[i].d n = true := by
          cases hdi : all[i].d with
          | none => rfl
          | some d =>
            have : d ∈ ds := by rw [← h2];exact gZ.2 ⟨all[i],aI _,hdi⟩
            exact aT.1 hds d this
        -- on,fX it
        have hget : ∀ j,(listed.setIfInBounds i true).getD j false = (listed.getD j false || Nat.beq j i) := fun j => by
          by_cases hij : i = j
          · subst hij;rw [dD,oG];simp only [Array.getD,C5,hls,hil,dif_pos];simp
          · rw [getD_set_ne false hij,show Nat.beq j i = false from by rw [← cV];intro hb;have := aP hb;omega,iF]
        have onS : ∀ ρ' S' a' w',qF P n c (cW ds env) (cX (fun j => (listed.setIfInBounds i true).getD j false) ss bs h) all (fun j => (listed.setIfInBounds i true).getD j false) ρ' S' a' w' → wpAny P .any l.toArray QQ fuel (listed.setIfInBounds i true) a' w' := fun ρ' S' a' w' st' => by
          have hiU : i ∈ U := hU i hil g1';refine ih (listed.setIfInBounds i true) (U.erase i) ρ' S' _ w' (by simpa using hls) (fun j hj hjl => ?_) (by rw [pO hiU];omega) (fun j hj => ?_) (fun k ok hok1 hkl e he hb => ?_) st'
          · rw [hget] at hjl;obtain ⟨h5,h6⟩ := gH.1 hjl;have hne : j ≠ i := fun e => by rw [e,dD] at h6;cases h6
            exact (uI hne).2 (hU j hj h5)
          · rw [hget,htail j hj,show Nat.beq j i = false from by rw [← cV];intro hb;have := aP hb;omega];rfl
          · rw [hget] at hkl ⊢;rcases fS.1 hkl with h5 | h5
            · rw [hcl k ok hok1 h5 e he hb];rfl
            · have := aP h5;subst this;rw [ho] at hok1;cases hok1;rw [hall e he hb];rfl
        have yv : ∀ {g t : Nat} {b : Bool},(l.toArray[g]?).bind (·.dst) = some t → look (sU (cW ds env) (all.take i) pre) t = some (.b b) → yielded l.toArray a.tmps g = some b := fun {g t b} h5 h6 => by
          have h7 := pQ (hpreP.env t _ h6);unfold yielded;rw [h5];have : a.tmps[t]? = some (.bool b) := by
            rw [cE] at h7;cases h8 : a.tmps[t]? with
            | none => rw [h8] at h7;simp [undef] at h7
            | some v => rw [h8] at h7;simp at h7;rw [h7]
          simp [this]
        have yvu : ∀ {g t : Nat},(l.toArray[g]?).bind (·.dst) = some t → look (sU (cW ds env) (all.take i) pre) t = some (.v undef) → yielded l.toArray a.tmps g = none := fun {g t} h5 h6 => by
          have h7 := pQ (hpreP.env t _ h6);unfold yielded;rw [h5];rw [cE] at h7;cases h8 : a.tmps[t]? with
          | none => simp [h8]
          | some v => rw [h8] at h7;simp at h7;simp [h8,h7,undef]
        unfold wpOp;rw [ho];simp only;rcases h3 i all[i] pre hfi hpre with ⟨hns,o',ho',hd',hg⟩ | ⟨m,k,b,o',hm1,hm2,hf0,ho',hgu,hkl,hst⟩
        · rw [ho] at ho';cases ho';have hsame : cX (fun j => (listed.setIfInBounds i true).getD j false) ss bs h = cX (fun j => listed.getD j false) ss bs h := lH ss bs h fun x hx => by
            rw [hget,show Nat.beq x.1 i = false from by rw [← cV];intro hb;exact hns x hx (aP hb),iF]
          have on : ∀ y ρ' S' w',zT ρ ρ' S S' w w' ((cX (fun j => listed.getD j false) ss bs h).length + jU (all.take i)) all[i].new.length all[i].x all[i].new y → wpAny P .any l.toArray QQ fuel (listed.setIfInBounds i true) (a.put all[i].d y) w' := fun y ρ' S' w' p => by
            have := st.step (L' := fun j => (listed.setIfInBounds i true).getD j false) hfi g1' hget p hokd (by rw [h2];exact hnd) (fun t x hx => (henv t x hx).2) (by rw [hH0];exact s.hs.mle)
            rw [← hsame] at this;exact onS _ _ _ _ this
          rcases hg with ⟨x,new,hgu,hfs,hx,hn⟩ | ⟨g,want,t,hgu,h5,h6,hx,hn⟩
          · have hw : Region.wanted o (yielded l.toArray a.tmps) = true := by
              rcases hgu with hgu | ⟨g,want,t,hgu,h5,h6⟩
              · exact mJ hgu
              · simp [Region.wanted,hgu,yv h5 h6]
            rw [if_pos hw];left;have := hfs ρ S a w hpreP (seeH pres i pre ss bs h ++ iC (fun j => pre.any (Nat.beq j)) 0 (all.take i)).length (fun j hj => by rw [hposl];exact st.undone i _ hfi g1' j hj)
            refine this (wpAny P .any l.toArray QQ fuel (listed.setIfInBounds i true)) QQ fun y ρ' S' w' p => ?_
            rw [hx,hn,hposl] at p;have := on y ρ' S' w' p;rw [← hd'] at this;exact this
          · have hw : Region.wanted o (yielded l.toArray a.tmps) = false := by
              rcases h6 with h6 | h6
              · simp [Region.wanted,hgu,yv h5 h6]
              · simp [Region.wanted,hgu,yvu h5 h6]
            rw [if_neg (by rw [hw];exact pR)]
            have := on undef ρ S w ⟨iZ.refl _ _,rfl,fun _ _ => rfl,fun _ h => h,fun _ h => .inl h,fun k p hk1 hk2 => by rw [hn,List.length_nil] at hk2;omega,fun k k' p p' hk1 hk2 => by rw [hn,List.length_nil] at hk2;omega,by rw [hx];exact lD _,fun j b hb => by rw [hn] at hb;simp at hb⟩
            rw [← hd'] at this;exact this
        · rw [ho] at ho';cases ho';have hw : Region.wanted o (yielded l.toArray a.tmps) = true := mJ hgu;rw [if_pos hw];left;refine hst c ρ S a w _ st.hs hpreP hbel2 (wpAny P .any l.toArray QQ fuel (listed.setIfInBounds i true)) QQ fun y w' hh l' => ?_
          have hset : (cX (fun j => listed.getD j false) ss bs h ++ iC (fun j => listed.getD j false) 0 all).set k b = cX (fun j => (listed.setIfInBounds i true).getD j false) ss bs h ++ iC (fun j => listed.getD j false) 0 all := by
            rw [uG _ _ (by rw [hH0];exact hkl),wG (L := fun j => listed.getD j false) (L' := fun j => (listed.setIfInBounds i true).getD j false) ss bs h m hss hm1 hm2 g1' hget (fun x hx hlx j hj => ?_)]
            cases hpx : pres[x.1]? with
            | none => rw [aD,hpx] at hj;simp at hj
            | some px =>
              rw [aD,hpx] at hj;exact up x.1 x.1 px (aQ _) hpx (.inr hlx) j hj
          rw [hset] at hh;exact onS _ _ _ _ (st.store (hfi.trans (by rw [hf0])) hget hh (by rw [lC,lC]) l')
  have hsize : l.toArray.size = l.length := by simp
  have hrep : ∀ j,(Array.replicate l.toArray.size false).getD j false = false := fun j => by
    simp only [Array.getD];split <;> simp
  refine key l.toArray.size _ (List.range l.toArray.size) ρ S a _ (by simp) (fun j hj _ => by simpa using hj) (by simp) (fun j _ => hrep j) (fun i o _ hi => by rw [hrep] at hi;cases hi) ?_
  have hseg : ∀ (r : List jS) (i : Nat),iC (fun _ => false) i r = List.replicate (jU r) .gone := by
    intro r
    induction r with
    | nil => intro i;rfl
    | cons f r ih => intro i;simp only [iC,ih,jU,sH]
  have hL : (fun j => (Array.replicate l.toArray.size false).getD j false) = fun _ => false := funext hrep
  rw [hL,show cX (fun _ => false) ss bs h = h from ?_]
  rotate_left
  · have : ∀ (ss : List (Nat × Nat)) (bs : List AB) (h : Hp),cX (fun _ => false) ss bs h = h := by
      intro ss
      induction ss with
      | nil => intros;rfl
      | cons x r ihr =>
        intro bs h;cases bs with
        | nil => rfl
        | cons b bs => simp only [cX];exact ihr bs h
    exact this ss bs h
  have l0 : fN ρ ρ S S w { w with drawn := w.drawn + 1 } := ⟨fun _ _ h => h,fun _ h => h,fun _ _ => rfl,fun _ _ _ _ _ h => h⟩
  refine ⟨s.size,s.defers.later l0,s.cm,fun t x hx => (s.env t x (iD hx).1).later l0,fun i f t _ hi => (by cases hi),?_,fun i f _ _ j _ => s.hs.dom _ (by omega)⟩
  rw [hseg];have ext : iZ c.M c.w0 { w with drawn := w.drawn + 1 } := s.hs.ext.drew;have at_ : ∀ {k : Nat} {b : AB},(h ++ List.replicate (jU all) .gone)[k]? = some b → b ≠ .gone → h[k]? = some b := fun {k b} hb hg => by
    by_cases hk : k < h.length
    · rwa [aG hk] at hb
    · rw [aF (by omega),mB] at hb
      split at hb
      · cases hb;exact absurd rfl hg
      · cases hb
  refine ⟨fun k hk => s.hs.dom k (by simp at hk;omega),s.hs.rng,fun k b hb => ?_,fun k b p hb hg hp => s.hs.live k b p (at_ hb hg) hg hp,fun k k' b b' p p' hb hb' hg hg' hp hp' e => s.hs.inj k k' b b' p p' (at_ hb hg) (at_ hb' hg') hg hg' hp hp' e,s.hs.stab,ext,s.hs.st0,s.hs.st1,by simp;exact cC s.hs.mle (fD _ _),s.hs.keep,s.hs.glob.later l0⟩
  by_cases hg : b = .gone
  · subst hg;trivial
  · exact RB.later l0 (fun _ _ _ => rfl) (s.hs.blk k b (at_ hb hg))
def fL (ops : List Oper) (pres : List (List Nat)) (ds : List Nat) (bads : List (List Nat)) (ss : List (Nat × Nat)) (n : Nat) : Bool :=
  iQ ops pres ds bads n && CT pres ss && ss.all fun x => Nat.blt x.1 pres.length
structure yD (ops : List Oper) (ss : List (Nat × Nat)) (env : cJ) (i : Nat) (cur : cJ) (objs : List (Nat × Hp)) (don : List AB) (effs : List jS) : Prop where
  g : wJ ops env i cur objs effs
  later : ∀ x,x ∈ ss.drop don.length → i ≤ x.1
def UQ (P : Program) (n : Nat × Nat) (ops : List Oper) (pres : List (List Nat)) (ds : List Nat) (bads : List (List Nat)) (ss : List (Nat × Nat)) (env : cJ) (h : Hp) (i : Nat) (cur : cJ) (objs : List (Nat × Hp)) (don : List AB) (K : cJ → Hp → Prop) : Prop :=
  fL ops pres ds bads ss n.1 = true → (∀ t,t ∈ ds → look env t = none) → ∀ effs,yD ops ss env i cur objs don effs → WU P n ops.toArray pres ss ds env h effs don K
section
variable {P : Program} {n : Nat × Nat} {ops : List Oper} {pres : List (List Nat)} {ds : List Nat} {bads : List (List Nat)} {ss : List (Nat × Nat)} {env : cJ} {h : Hp} {K : cJ → Hp → Prop} {pre bad : List Nat}
theorem NA {Q : Exit → cJ → Hp → Prop} {id : Nat} {l : List Oper} (pres : List (List Nat)) (ds : List Nat) (bads : List (List Nat)) (ss : List (Nat × Nat)) (hm : P.follows .mixedOrders = true) (hok : fL l pres ds bads ss n.1 = true)
    (hv : UQ P n l pres ds bads ss (cW ds env) h 0 (cW ds env) [] [] (fun v h => Q .normal v h)) (hndf : kM l = true := by rfl) : AW P n (.region id l.toArray true) env h Q := by
  have hok' := hok;simp only [fL,iQ,aM,decide_eq_true_eq] at hok';obtain ⟨⟨⟨⟨⟨⟨⟨h1,h2⟩,h3⟩,h4⟩,h5⟩,h6⟩,h7⟩,h8⟩ := hok';refine MX pres ds ss hm h1 h7 h8 h2 h3 h4 (hv hok (fun t ht => ?_) [] ⟨⟨rfl,rfl,rfl,fun j f hf => by simp at hf⟩,fun x _ => bM _⟩) hndf
  cases hl : look (cW ds env) t with
  | none => rfl
  | some x => exact absurd ht (iD hl).2
variable {op : Op} {ty : TypeId} {pos : String} {af : Array Edge} {d : Option Nat} {i : Nat} {cur : cJ} {objs : List (Nat × Hp)} {don : List AB}
theorem yD.seeH {effs : List jS} (hok : fL ops pres ds bads ss n.1 = true) (hi : i < ops.length) (g : yD ops ss env i cur objs don effs) (hp : pres[i]? = some pre) (mb : List AB) : seeH pres i pre ss (don ++ mb) h = seeH pres i pre ss don h := by
  refine F0 ss don mb h fun x hx => ?_
  rw [← cV];intro hb;simp only [fL,iQ,aM] at hok;have h1 := (mF (ops := ops.toArray) (i := i) (o := ops[i]) hok.1.1.1.1.1.1.1 (by simp [hi]) hp x.1 (lJ.1 hb)).1
  have := g.later x hx;omega
theorem MN {effs : List jS} {f : jS} (hok : fL ops pres ds bads ss n.1 = true) (g : yD ops ss env i cur objs don effs) (hp : pres[i]? = some pre) (hi : i < ops.length) (hns : (ss.all fun x => !Nat.beq x.1 i) = true)
    (hg : R9 P ops.toArray i (sU env effs pre) (seeH pres i pre ss don h ++ lX pre objs) f) (hk : WU P n ops.toArray pres ss ds env h (effs ++ [f]) don K) : WU P n ops.toArray pres ss ds env h effs don K := by
  obtain ⟨more,mb,h1,h0,h2,h3,h4⟩ := hk;have e : effs ++ [f] ++ more = effs ++ (f :: more) := by simp
  rw [e] at h1 h2 h3 h4;have hie : effs.length = i := g.g.len;refine ⟨f :: more,mb,h1,h0,h2,fun j q p hj hgj hpj => ?_,h4⟩
  by_cases hji : j = i
  · subst hji;rw [hp] at hpj;cases hpj;rw [aF (by omega),hie,eL] at hgj
    simp at hgj;subst hgj;left;refine ⟨fun x hx hxe => ?_,?_⟩
    · have := aT.1 hns x hx;rw [hxe,dD] at this;cases this
    · rw [hC,aX (by omega),hie,eL,g.seeH hok hi hp mb]
      simp only [rD,List.append_nil];rw [jV,← g.g.objs];exact hg
  · exact h3 j q p (by simp;omega) hgj hpj
theorem yD.next {effs : List jS} {f : jS} (g : yD ops ss env i cur objs don effs) {cur' : cJ} {objs' : List (Nat × Hp)} (h : wJ ops env (i + 1) cur' objs' (effs ++ [f])) (hns : (ss.all fun x => !Nat.beq x.1 i) = true) : yD ops ss env (i + 1) cur' objs' don (effs ++ [f]) := by
  refine ⟨h,fun x hx => ?_⟩
  have h1 := g.later x hx;have h2 := aT.1 hns x (gE hx);have : x.1 ≠ i := fun e => by rw [e,dD] at h2;cases h2
  omega
theorem V5 {k : Nat} (hok : fL ops pres ds bads ss k = true) : iQ ops pres ds bads k = true := by
  simp only [fL,aM] at hok;exact hok.1.1
theorem pI {dd : Nat} {u : AV} (ho : ops[i]? = some ⟨some dd, op, ty, pos, af, none⟩) (hp : pres[i]? = some pre) (hb : bads[i]? = some bad) (hns : (ss.all fun x => !Nat.beq x.1 i) = true) (hs : bR P ⟨some dd, op, ty, pos, af, none⟩ (cW bad cur) (seeH pres i pre ss don h ++ lX pre objs) 0 (fun _ => u) (fun _ => []))
    (hk : UQ P n ops pres ds bads ss env h (i + 1) ((dd,u) :: cur) objs don K) : UQ P n ops pres ds bads ss env h i cur objs don K := by
  intro hok hen effs g;refine MN (f := ⟨some dd,u,[]⟩) hok g hp (aA.1 ho).1 hns ⟨_,by simpa using ho,rfl,.inl ⟨fun _ => u,fun _ => [],.inl rfl,hs.more (g.g.see (V5 hok) hp hb),rfl,rfl⟩⟩ (hk hok hen _ (g.next (g.g.snoc (f := ⟨some dd,u,[]⟩) ho rfl rfl) hns))
theorem TL {k : Nat} {nb : AB} {t : TypeId} {x y : Operand} {j : TI} {u v : AV} {xs : List AV} (ho : ops[i]? = some ⟨none, .store t x y, ty, pos, af, none⟩) (hp : pres[i]? = some pre) (hb : bads[i]? = some bad) (hm : ss[don.length]? = some (i, k)) (hkl : k < h.length)
    (T : lR P) (hx : evu (cW bad cur) x = some u) (hy : evu (cW bad cur) y = some v) (ht : T.ti t = some j) (hv : v.cellsOf = some xs) (hl : xs.length = j.size) (h1 : xs.all AV.one = true) (h0 : 0 < j.size) (hu : K3 (seeH pres i pre ss don h ++ lX pre objs) u xs = some (k,nb))
    (hk : UQ P n ops pres ds bads ss env h (i + 1) cur objs (don ++ [nb]) K) : UQ P n ops pres ds bads ss env h i cur objs don K := by
  intro hok hen effs g;have hs := Z8 (P := P) (pos := pos) (ty := ty) (af := af) T hx hy ht hv hl h1 h0 hu;have hi := (aA.1 ho).1;have hgs : wJ ops env (i + 1) cur objs (effs ++ [⟨none,.v undef,[]⟩]) := g.g.snoc (f := ⟨none,.v undef,[]⟩) ho rfl rfl;have hkk := hk hok hen (effs ++ [⟨none,.v undef,[]⟩]) ⟨hgs,fun x hx => ?_⟩
  · obtain ⟨more,mb,g1,g0,g2,g3,g4⟩ := hkk;have e : effs ++ [⟨none,.v undef,[]⟩] ++ more = effs ++ ((⟨none,.v undef,[]⟩ : jS) :: more) := by simp
    have e' : don ++ [nb] ++ mb = don ++ (nb :: mb) := by simp
    rw [e] at g1 g2;rw [e'] at g0;simp only [e,e'] at g3 g4;have hie : effs.length = i := g.g.len;refine ⟨_,_,g1,g0,g2,fun j' q p hj hgj hpj => ?_,g4⟩
    by_cases hji : j' = i
    · subst hji;rw [hp] at hpj;cases hpj;rw [aF (by omega),hie,eL] at hgj
      simp at hgj;subst hgj;right;refine ⟨don.length,k,nb,_,hm,?_,rfl,by simpa using ho,rfl,hkl,?_⟩
      · rw [aF (aQ _),eL];rfl
      · rw [hC,aX (by omega),hie,eL,g.seeH hok hi hp _]
        simp only [rD,List.append_nil];rw [jV,← g.g.objs];exact hs.more (g.g.see (V5 hok) hp hb)
    · exact g3 j' q p (by simp;omega) hgj hpj
  · have hok' := hok;simp only [fL,aM] at hok';have hls : don.length < ss.length := (aA.1 hm).1;have e1 : ss.drop don.length = (i,k) :: ss.drop (don.length + 1) := by
      rw [aS hls];have := aB hls;rw [hm] at this;rw [Option.some.inj this]
    have hx' : x ∈ ss.drop (don.length + 1) := by simpa using hx
    have h5 := g.later x (by rw [e1];exact aE _ hx')
    have key : ∀ (ss : List (Nat × Nat)) (m : Nat),CT pres ss = true → ss[m]? = some (i,k) → ∀ x,x ∈ ss.drop (m + 1) → x.1 ≠ i := by
      intro ss
      induction ss with
      | nil => intro m _ h;simp at h
      | cons y r ih =>
        intro m hok h x hx;obtain ⟨s,k'⟩ := y;simp only [CT,aM,aT] at hok;cases m with
        | zero =>
          simp only [cH,Option.some.injEq,Prod.mk.injEq] at h;intro e;have := (hok.1 x (by simpa using hx)).1
          rw [e,h.1,dD] at this;cases this
        | succ m => exact ih m hok.2 (by simpa using h) x (by simpa using hx)
    have := key ss don.length hok'.1.2 hm x hx';omega
theorem QG (hi : pres.length = i) (hdl : don.length = ss.length) {rest : List Oper} {h' : Hp} (hr : ops.drop i = rest) (hh : cX (fun _ => true) ss don h ++ lK objs = h')
    (hk : VC P n ops.toArray rest cur h' K) : UQ P n ops pres ds bads ss env h i cur objs don K := by
  intro hok hen effs gs;have g := gs.g;have hok' := V5 hok;simp only [iQ,aM,decide_eq_true_eq] at hok';obtain ⟨⟨⟨⟨⟨h1,h2⟩,h3⟩,h4⟩,h5⟩,h6⟩ := hok';have hds : gO effs = ds := by
    rw [← h5];have hle : i ≤ ops.length := by rw [← hi];exact aU h4
    unfold gO;have : effs.map (·.d) = (ops.take pres.length).map (·.dst) := by
      apply cU;intro j;simp only [aO,bH,hi];by_cases hj : j < i
      · rw [if_pos hj];have hje : j < effs.length := by rw [g.len];exact hj
        obtain ⟨o,ho,hod⟩ := g.dst j effs[j] (aB hje);rw [aB hje,ho];simp [hod]
      · rw [if_neg hj,bO (by rw [g.len];omega)];rfl
    have e1 : effs.filterMap (·.d) = (effs.map (·.d)).filterMap id := by rw [mQ];rfl
    have e2 : (ops.take pres.length).filterMap (·.dst) = ((ops.take pres.length).map (·.dst)).filterMap id := by rw [mQ];rfl
    rw [e1,e2,this]
  refine ⟨[],[],by rw [List.append_nil,g.len,hi],by rw [List.append_nil];exact hdl,by rw [List.append_nil];exact hds,fun j f pre hj hf _ => ?_,?_⟩
  · have := (aA.1 hf).1;simp at this;omega
  rw [List.append_nil,List.append_nil];have el : effs.length = pres.length := by rw [g.len,hi]
  rw [← el,uH,uN 0 effs.length (by omega),dI,← xM,wY,← D5,el,hi]
  rw [uP effs 0,← g.objs,← sE,hh];rw [show ops.toArray.toList.drop i = rest from by simpa using hr]
  refine hk.moreE fun t x hx => ?_
  rw [g.cur] at hx;exact zK (by have : gO effs = effs.filterMap (·.d) := rfl;rw [← this,hds];exact h2) hx
end
section
variable {P : Program} {env : cJ} {h : Hp}
variable {d : Option Nat} {ty : TypeId} {pos : String} {af : Array Edge} {g : Option (Nat × Bool)}
theorem nU {fn : Fn} {l1 l2 : List Operand} {us vs : List AV} (ha : V1 env l1 = some us) (hb : V1 env l2 = some vs) : bR P ⟨d,.makeFunc fn l1.toArray l2.toArray,ty,pos,af,g⟩ env h 0 (fun _ => .clo fn us vs) (fun _ => []) := by
  refine fO fun ρ S a w p => ⟨.func fn (l1.map a.eval).toArray (l2.map a.eval).toArray,?_,?_⟩
  · simp [execOp,Instr.makeFunc]
  · simp only [R];exact ⟨_,_,rfl,by simpa using lG p ha,by simpa using lG p hb⟩
end
theorem X9 {S : Nat → Prop} {w : World} {ρ : Pl} {z : AV} : ∀ {cs : List AV} {ys : List Value} {i : Nat}, RL S w cs ρ ys → (∀ y, ys[i]? = some y → R S w z ρ y) → RL S w (cs.set i z) ρ ys
  | [],ys,i,h,_ => by simpa using h
  | c :: cs,ys,i,h,hz => by
    simp only [RL] at h;obtain ⟨y,ys',rfl,h1,h2⟩ := h;cases i with
    | zero => simp only [List.set_cons_zero,RL];exact ⟨y,ys',rfl,hz y rfl,h2⟩
    | succ i => simp only [List.set_cons_succ,RL];exact ⟨y,ys',rfl,h1,X9 h2 (fun y' hy' => hz y' (by simpa using hy'))⟩
theorem HS.alter {c : mE} {ρ : Pl} {S : Nat → Prop} {h : Hp} {w : World} {k : Nat} {b0 b1 : AB} (s : HS c ρ S h w) (hk : h[k]? = some b0) (hb : RB S w ρ (ρ k) b0 → RB S w ρ (ρ k) b1) (hg : b0 ≠ .gone) : HS c ρ S (h.set k b1) w := by
  have hlt := (aA.1 hk).1;have get : ∀ {j : Nat} {b : AB},(h.set k b1)[j]? = some b → (j = k ∧ b = b1) ∨ (j ≠ k ∧ h[j]? = some b) := fun {j b} hj => by
    rw [bQ] at hj;split at hj
    · rename_i e;exact .inl ⟨e.symm,by simpa using hj.symm⟩
    · rename_i e;exact .inr ⟨fun e' => e e'.symm,hj⟩
  have old : ∀ {j : Nat} {b : AB},(h.set k b1)[j]? = some b → b ≠ .gone → ∃ b',h[j]? = some b' ∧ b' ≠ .gone := fun {j b} hj hg' => by
    rcases get hj with ⟨rfl,_⟩ | ⟨_,h2⟩
    · exact ⟨b0,hk,hg⟩
    · exact ⟨b,h2,hg'⟩
  refine ⟨fun j hj => s.dom j (by simpa using hj),s.rng,fun j b hj => ?_,fun j b p hj hg' hp => ?_,fun j j' b b' p p' hj hj' hg1 hg2 hp hp' e => ?_,s.stab,s.ext,s.st0,s.st1,by simpa using s.mle,s.keep,s.glob⟩
  · rcases get hj with ⟨rfl,rfl⟩ | ⟨_,h2⟩
    · exact hb (s.blk _ _ hk)
    · exact s.blk j b h2
  · obtain ⟨b',h2,h3⟩ := old hj hg';exact s.live j b' p h2 h3 hp
  · obtain ⟨b1',h2,h3⟩ := old hj hg1;obtain ⟨b2',h4,h5⟩ := old hj' hg2;exact s.inj j j' b1' b2' p p' h2 h4 h3 h5 hp hp' e
section
variable {P : Program} {n : Nat × Nat} {ops : Array Oper} {env : cJ} {h : Hp} {K : cJ → Hp → Prop} {rest : List Oper} {Q : Exit → cJ → Hp → Prop} {code : Code}
theorem xU (k j sz : Nat) {cs : List AV} (hk : h[k]? = some (.cells cs)) (hj : cs[j]? = some .nils) (hs : 0 < sz) (hv : AW P n code env (h.set k (.cells (cs.set j (.sl h.length 0 0 sz))) ++ [.arr [] sz]) Q) : AW P n code env h Q := by
  intro c ρ S a w QQ s hQ;refine hv c ρ S a w QQ ⟨s.size,s.defers,s.env,?_,s.cm⟩ hQ
  have h1 := s.hs.alter (b1 := .cells (cs.set j (.sl h.length 0 0 sz))) hk (fun hb => by
    simp only [RB] at hb ⊢;obtain ⟨b,o,ys,h2,h3,h4⟩ := hb;refine ⟨b,o,ys,h2,h3,X9 h4 fun y hy => ?_⟩
    obtain ⟨y',h5,h6⟩ := kF h4 _ _ hj;rw [hy] at h5;cases h5;rw [pQ h6];simp only [R]
    exact ⟨none,0,rfl,bM _,.inl ⟨trivial,rfl⟩⟩) (by simp)
  have hd := h1.dom h.length (by simp)
  generalize hh : h.set k (.cells (cs.set j (.sl h.length 0 0 sz))) = h' at h1 ⊢;have hl : h.length = h'.length := by rw [← hh];simp
  rw [hl] at hd;have get : ∀ {j : Nat} {b : AB},(h' ++ [.arr [] sz])[j]? = some b → h'[j]? = some b ∨ (j = h'.length ∧ b = .arr [] sz) := fun {j b} hj => by
    by_cases hlt : j < h'.length
    · rw [aG hlt] at hj;exact .inl hj
    · have := (aA.1 hj).1;simp at this;have e : j = h'.length := by omega
      subst e;simp at hj;exact .inr ⟨rfl,hj.symm⟩
  refine ⟨fun k hk => h1.dom k (by simp at hk;omega),h1.rng,fun k b hb => ?_,fun k b p hb hg hp => ?_,fun k k' b b' p p' hb hb' hg hg' hp hp' e => ?_,h1.stab,h1.ext,h1.st0,h1.st1,by simp;exact NR h1.mle,h1.keep,h1.glob⟩
  · rcases get hb with hb | ⟨rfl,rfl⟩
    · exact h1.blk k b hb
    · simp only [RB];exact ⟨(fun e he => by cases he),hs,.inl ⟨trivial,fun b o e => by rw [hd] at e;cases e⟩⟩
  · rcases get hb with hb | ⟨rfl,rfl⟩
    · exact h1.live k b p hb hg hp
    · rw [hd] at hp;cases hp
  · rcases get hb with hb | ⟨rfl,rfl⟩
    · rcases get hb' with hb' | ⟨rfl,rfl⟩
      · exact h1.inj k k' b b' p p' hb hb' hg hg' hp hp' e
      · rw [hd] at hp';cases hp'
    · rw [hd] at hp;cases hp
end
section
variable {P : Program} {n : Nat × Nat} {env : cJ} {h : Hp}
theorem eZ {Q : Exit → cJ → Hp → Prop} {id : Nat} {l : List Oper} (k : Nat) (pres : List (List Nat)) (ds : List Nat) (bads : List (List Nat)) (hm : P.follows .mixedOrders = true) (hn : n.1 = k) (hok : iQ l pres ds bads k = true)
    (hv : DW P n l pres ds bads (cW ds env) h 0 (cW ds env) [] (fun v h => Q .normal v h)) (hndf : kM l = true := by rfl) : AW P n (.region id l.toArray true) env h Q := NB pres ds bads hm (by rw [hn];exact hok) hv hndf
theorem IK {Q : Exit → cJ → Hp → Prop} {id : Nat} {l : List Oper} (k : Nat) (pres : List (List Nat)) (ds : List Nat) (bads : List (List Nat)) (ss : List (Nat × Nat)) (hm : P.follows .mixedOrders = true) (hn : n.1 = k) (hok : fL l pres ds bads ss k = true)
    (hv : UQ P n l pres ds bads ss (cW ds env) h 0 (cW ds env) [] [] (fun v h => Q .normal v h)) (hndf : kM l = true := by rfl) : AW P n (.region id l.toArray true) env h Q := NA pres ds bads ss hm (by rw [hn];exact hok) hv hndf
end
end Go.Ab
namespace Go.Ab
open Go Go.MapKept
section
variable {P : Program} {env : cJ} {h : Hp}
variable {d : Option Nat} {ty : TypeId} {pos : String} {af : Array Edge} {g : Option (Nat × Bool)}
theorem U5 {o : Oper} {u : Nat → AV} {b : AB} (hrun : ∀ ρ S a w,L2 ρ S env h a w → ∃ (ob : Obj) (y : Value),(execOp a.eval o).run P w = .ok (.value y) (w.alloc ob) ∧
      ∀ pos,ρ pos = none → ∀ w',(w'.heap[w.heap.size]? = some ob) → R S w' (u pos) (ρ.with pos (w.heap.size,0)) y ∧ RB S w' (ρ.with pos (w.heap.size,0)) (some (w.heap.size,0)) b) :
    bR P o env h 1 u (fun _ => [b]) := by
  intro ρ S a w p pos hp K Q hk;obtain ⟨ob,y,h1,h2⟩ := hrun ρ S a w p;have hpos : ρ pos = none := by simpa using hp 0 (by omega)
  unfold Oper.wp;rw [h1];have hx : iZ (fun _ => False) w (w.alloc ob) := lF _ _ _;have hnew : (w.alloc ob).heap[w.heap.size]? = some ob := (heap_alloc w ob).1;obtain ⟨h3,h4⟩ := h2 pos hpos _ hnew;have hss : (w.alloc ob).heap.size = w.heap.size + 1 := by rw [World.size_alloc]
  refine hk y (ρ.with pos (w.heap.size,0)) S _ ⟨hx,rfl,fun k hk => ?_,fun _ h => h,fun _ h => .inl h,fun k q hk1 hk2 hq => ?_,fun k k' q q' a1 a2 a3 a4 _ _ _ => by omega,h3,fun j b' hb => ?_⟩
  · unfold Pl.with;rw [if_neg (by omega)]
  · have : k = pos := by omega
    subst this;simp only [Pl.with,if_true,Option.some.injEq] at hq;subst hq;refine ⟨aQ _,by simp [hss],fun hs => ?_⟩
    have := p.stab _ hs;simp at this
  · cases j with
    | zero =>
      simp only [cH,Option.some.injEq] at hb;subst hb;simpa [Pl.with] using h4
    | succ j => simp at hb
theorem Q5 {t : TypeId} : bR P ⟨d,.makeMap t none,ty,pos,af,g⟩ env h 1 (fun p => .mp p) (fun _ => [.mapO [] []]) := by
  refine U5 fun ρ S a w p => ⟨.map #[] 0,.map (some w.heap.size),?_,fun pos hpos w' hw' => ⟨?_,?_⟩⟩
  · simp [execOp,Instr.makeMap]
  · simp [R,Pl.with]
  · simp only [RB];exact ⟨_,_,#[],0,rfl,hw',⟨rfl,by simp,by simp⟩,by simp [RL]⟩
def IX (x : AV) (v : Value) : Prop := ∀ (S : Nat → Prop) (w : World) (ρ : Pl) (y : Value),R S w x ρ y → y = v
theorem IX.v (v : Value) : IX (.v v) v := fun _ _ _ _ h => pQ h
theorem X8 {S : Nat → Prop} {w : World} {ρ : Pl} : ∀ {vs ys : List Value}, RL S w (vs.map .v) ρ ys → ys = vs
  | [],_,h => by simpa [RL] using h
  | v :: vs,_,h => by
    simp only [List.map_cons,RL] at h;obtain ⟨y,zs,rfl,h1,h2⟩ := h;rw [pQ h1,X8 h2]
theorem IX.agg (vs : List Value) : IX (.agg (vs.map .v)) (.agg vs.toArray) := fun _ _ _ _ h => by
  simp only [R] at h;obtain ⟨ys,rfl,h1⟩ := h;have := X8 h1;rw [← this]
theorem Y9 {et : TypeId} {z : Value} (h : (P.info? et).bind (·.zero) = some z) : ∀ w,(zeroValue et).run P w = .ok z w := by
  intro w;cases hi : P.info? et with
  | none => rw [hi] at h;cases h
  | some inf =>
    rw [hi] at h;simp only [Option.bind_some] at h;simp [zeroValue,typeInfo,hi,h]
theorem AU {S : Nat → Prop} {w : World} {ρ : Pl} {k : Nat} {ks : List Value} {vs : List AV} (p : RB S w ρ (ρ k) (.mapO ks vs)) : ∃ b o l ck,ρ k = some (b,o) ∧ w.heap[b]? = some (.map l ck) ∧ l.toList.map (·.key) = ks ∧ RL S w vs ρ (l.toList.map (·.val)) := by
  obtain ⟨b,o,l,ck,h1,h2,h3,h4⟩ := p;exact ⟨b,o,l,ck,h1,h2,h3.1,h4⟩
theorem P4 {S : Nat → Prop} {w : World} {ρ : Pl} {k : Nat} {ks : List Value} {vs : List AV} (p : RB S w ρ (ρ k) (.mapO ks vs)) : ∃ b o l ck,ρ k = some (b,o) ∧ w.heap[b]? = some (.map l ck) ∧ l.toList.map (·.key) = ks ∧ RL S w vs ρ (l.toList.map (·.val)) ∧ sF l ck := by
  obtain ⟨b,o,l,ck,h1,h2,h3,h4⟩ := p;exact ⟨b,o,l,ck,h1,h2,h3.1,h4,h3.2⟩
theorem sF.push {l : Array MapEntry} {ck : Nat} (h : sF l ck) {kv v : Value} : sF (l.push { key := kv,val := v,born := ck }) (ck + 1) := by
  refine ⟨?_,fun e he => ?_⟩
  · rw [OB,cO,dX];refine ⟨h.1,by simp,fun x hx y hy e => ?_⟩
    obtain ⟨q,hq,rfl⟩ := aJ.1 hx;simp at hy;have := h.2 q hq;omega
  · rw [OB,bD] at he;rcases he with he | he
    · exact Nat.lt_succ_of_lt (h.2 e he)
    · simp at he;subst he;exact J7 _
theorem sF.modify {l l' : Array MapEntry} {ck i : Nat} (h : sF l ck) {f : MapEntry → MapEntry} (hg : ∀ j : Nat,l'.toList[j]? = if i = j then (l.toList[j]?).map f else l.toList[j]?) (hf : ∀ e,(f e).born = e.born := by intro e;rfl) : sF l' ck := by
  have e1 : l'.toList.map (·.born) = l.toList.map (·.born) := by
    apply cU;intro j;rw [aO,aO,hg];split
    · cases l.toList[j]? <;> simp [hf]
    · rfl
  refine ⟨by rw [e1];exact h.1,fun e he => ?_⟩
  have h1 : e.born ∈ l.toList.map (·.born) := by rw [← e1];exact aJ.2 ⟨e,he,rfl⟩
  obtain ⟨q,hq,hqe⟩ := aJ.1 h1;rw [← hqe];exact h.2 q hq
structure oK (P : Program) (kt : TypeId) (good : Value → Prop) : Prop where
  check : ∀ (w : World) (em : Bool) {v : Value},good v → (Instr.checkKey em 10000 kt v).run P w = .ok () w
  find : ∀ (w : World) {x : Value},good x → ∀ es : List MapEntry,(∀ e,e ∈ es → good e.key) → ((Instr.findKey kt x es).run P w = .ok none w ∧ ∀ e,e ∈ es → e.key ≠ x) ∨ ∃ j e,(Instr.findKey kt x es).run P w = .ok (some (j,e.val)) w ∧ es[j]? = some e ∧ e.key = x
  stays : ∀ (w : World) {v : Value},good v → (Instr.keyThatStays v v).run P w = .ok v w
theorem KB {dk : TypeDesc} {kv : Value} (hk : IsKey dk kv) : ∀ n,Instr.sameBits n kv kv = true := by
  intro n;cases dk <;> cases kv <;> simp only [IsKey] at hk <;> cases n <;> simp [Instr.sameBits,bytes_beq]
theorem oK.plain {kt : TypeId} {dk : TypeDesc} (hd : P.underlying kt = some dk) : oK P kt (IsKey dk) := by
  refine ⟨fun w em v hv => MapKept.run_checkKey hd hv em 9999,fun w x hx es hall => ?_,fun w v hv => by simp [Instr.keyThatStays,KB hv]⟩
  rcases findNow_spec hx es 0 hall with ⟨h1,h2⟩ | ⟨j,e,h1,h2,h3⟩
  · exact .inl ⟨MapKept.run_findKey hd h1,h2⟩
  · exact .inr ⟨j,e,by have := MapKept.run_findKey (w := w) hd h1;rwa [Nat.zero_add] at this,h2,h3⟩
theorem oV {kt : TypeId} {good : Value → Prop} {kv : Value} {l : Array MapEntry} {ks : List Value} {i : Nat} (ko : oK P kt good) (w : World) (hl : l.toList.map (·.key) = ks) (hkeys : ∀ q,q ∈ ks → good q) (hkey : good kv) (hnd : ks.Nodup) (hi : ks[i]? = some kv) : ∃ e,(Instr.findKey kt kv l.toList).run P w = .ok (some (i,e.val)) w ∧ l.toList[i]? = some e ∧ e.key = kv := by
  rcases ko.find w hkey l.toList (fun x hx => hkeys _ (by rw [← hl];exact aJ.2 ⟨x,hx,rfl⟩)) with ⟨_,h2⟩ | ⟨j,e,h1,h2,h3⟩
  · have hm := aH hi;rw [← hl] at hm;obtain ⟨x,hx,hxe⟩ := aJ.1 hm;exact absurd hxe (h2 x hx)
  · have hj : ks[j]? = some kv := by rw [← hl,aO,h2];simp [h3]
    have : j = i := (rF (aA.1 hj).1 hnd).1 (hj.trans hi.symm);subst this;exact ⟨e,h1,h2,h3⟩
theorem oW {kt : TypeId} {good : Value → Prop} {kv : Value} {l : Array MapEntry} {ks : List Value} (ko : oK P kt good) (w : World) (hl : l.toList.map (·.key) = ks) (hkeys : ∀ q,q ∈ ks → good q) (hkey : good kv) (hni : kv ∉ ks) : (Instr.findKey kt kv l.toList).run P w = .ok none w := by
  rcases ko.find w hkey l.toList (fun x hx => hkeys _ (by rw [← hl];exact aJ.2 ⟨x,hx,rfl⟩)) with ⟨h1,_⟩ | ⟨j,e,_,h2,h3⟩
  · exact h1
  · refine absurd ?_ hni;rw [← hl,← h3];exact aJ.2 ⟨e,aH h2,rfl⟩
section
variable {t kt et : TypeId} {good : Value → Prop} {x y : Operand} {k i : Nat} {kv : Value} {ks : List Value} {vs : List AV} {v : AV}
theorem I1 {w : World} {b : Nat} {l : Array MapEntry} {ck : Nat} {o : Obj} (hb : w.heap[b]? = some (.map l ck)) : iZ (fun x => x = b) w { w with heap := w.heap.setIfInBounds b o } := by
  refine ⟨rfl,rfl,rfl,by simp,fun x _ hx => ?_,fun x c e fz hc => ?_⟩
  · exact (MapKept.heap_set (o' := o) hb).2 x hx
  · have hne : x ≠ b := fun e' => by rw [e',hb] at hc;cases hc
    exact ⟨c,fz,by rw [← hc];exact (MapKept.heap_set (o' := o) hb).2 x hne,rfl⟩
section
variable {n : Nat × Nat} {ops : Array Oper} {rest : List Oper} {K : cJ → Hp → Prop} {z : Operand}
theorem L6 (ht : P.underlying t = some (.map kt et)) (ko : oK P kt good) (hx : evu env x = some (.mp k)) {yv : AV} (hy : evu env y = some yv) (hyv : IX yv kv) (hz : evu env z = some v) (hk : h[k]? = some (.mapO ks vs)) (hkeys : ∀ q, q ∈ ks → good q) (hkey : good kv) (hni : kv ∉ ks)
    (hv : VC P n ops rest env (h.set k (.mapO (ks ++ [kv]) (vs ++ [v]))) K) : VC P n ops (⟨none,.mapUpdate t x y z,ty,pos,af,none⟩ :: rest) env h K := by
  intro c ρ S a w Q s hQ;refine wpList_plain rfl fun K' hK' => ?_
  have p := s.pre;have h1 := p.evu hx;simp only [R] at h1;obtain ⟨b,o,h2,h3⟩ := h1;have h4 := hyv _ _ _ _ (p.evu hy);have hzv := p.evu hz;obtain ⟨b',o',l,ck,h5,h6,h7,h8,h13⟩ := P4 (p.blk k _ hk);rw [h2] at h5;cases h5;have h9 := oW ko w h7 hkeys hkey hni;have hr : (execOp a.eval ⟨none,.mapUpdate t x y z,ty,pos,af,none⟩).run P w = .ok .skip { w with heap := w.heap.setIfInBounds b (.map (l.push { key := kv,val := a.eval z,born := ck }) (ck + 1)) } := by
    simp [execOp,h3,h4,Instr.mapUpdate,run_underlying ht,MapKept.run_getObj_map h6,ko.check w _ hkey,h9,MapKept.run_setObj_map _ h6]
  unfold Oper.wp;rw [hr]
  obtain ⟨g1,g2⟩ := s.hs.upd (nb := .mapO (ks ++ [kv]) (vs ++ [v])) hk (by simp) h2 (I1 (o := .map (l.push { key := kv,val := a.eval z,born := ck }) (ck + 1)) h6) (fun l' => by
    simp only [RB];refine ⟨b,o,_,_,rfl,(MapKept.heap_set h6).1,⟨by simp [h7],h13.push⟩,?_⟩
    rw [OB,cO]
    exact eA (h8.later l') (by simp only [List.map_cons,List.map_nil,RL];exact ⟨_,_,rfl,hzv.later l',rfl⟩))
  exact hK' _ _ (hv c ρ S _ _ Q ⟨by rw [gC];exact s.size,by rw [eN];exact s.defers.later g2,fun tt uu huu => (s.env tt uu huu).later g2,g1,s.cm⟩ hQ)
theorem GN (ht : P.underlying t = some (.map kt et)) (ko : oK P kt good) (hx : evu env x = some (.mp k)) {yv : AV} (hy : evu env y = some yv) (hyv : IX yv kv) (hz : evu env z = some v) (hk : h[k]? = some (.mapO ks vs)) (hkeys : ∀ q, q ∈ ks → good q) (hkey : good kv) (hnd : ks.Nodup) (hi : ks[i]? = some kv)
    (hv : VC P n ops rest env (h.set k (.mapO ks (vs.set i v))) K) : VC P n ops (⟨none,.mapUpdate t x y z,ty,pos,af,none⟩ :: rest) env h K := by
  intro c ρ S a w Q s hQ;refine wpList_plain rfl fun K' hK' => ?_
  have p := s.pre;have h1 := p.evu hx;simp only [R] at h1;obtain ⟨b,o,h2,h3⟩ := h1;have h4 := hyv _ _ _ _ (p.evu hy);have hzv := p.evu hz;obtain ⟨b',o',l,ck,h5,h6,h7,h8,h13⟩ := P4 (p.blk k _ hk);rw [h2] at h5;cases h5;obtain ⟨e,h9,h10,h11⟩ := oV ko w h7 hkeys hkey hnd hi;have h12 : l[i]? = some e := by simpa using h10
  have hr : (execOp a.eval ⟨none,.mapUpdate t x y z,ty,pos,af,none⟩).run P w = .ok .skip { w with heap := w.heap.setIfInBounds b (.map (l.modify i fun e => { e with key := kv,val := a.eval z }) ck) } := by
    simp [execOp,h3,h4,Instr.mapUpdate,run_underlying ht,MapKept.run_getObj_map h6,ko.check w _ hkey,h9,MapKept.run_setObj_map _ h6,h12,h11,ko.stays w hkey]
  unfold Oper.wp;rw [hr];have hget : ∀ j,(l.modify i fun e => { e with key := kv,val := a.eval z }).toList[j]? = if i = j then (l.toList[j]?).map (fun e => { e with key := kv,val := a.eval z }) else l.toList[j]? := fun j => by
    simp only [sT,Y5]
  obtain ⟨g1,g2⟩ := s.hs.upd (nb := .mapO ks (vs.set i v)) hk (by simp) h2 (I1 (o := .map (l.modify i fun e => { e with key := kv,val := a.eval z }) ck) h6) (fun l' => by
    simp only [RB];refine ⟨b,o,_,_,rfl,(MapKept.heap_set h6).1,⟨?_,h13.modify hget⟩,?_⟩
    · rw [← h7];apply cU;intro j;rw [aO,aO,hget];split
      · rename_i e';subst e';rw [h10];simp [h11]
      · rfl
    · have e1 : List.map (fun x => x.val) (l.modify i fun e => { e with key := kv,val := a.eval z }).toList = (l.toList.map (·.val)).set i (a.eval z) := by
        apply cU;intro j;rw [aO,hget,bQ,aO];split
        · rename_i e';subst e';have := (aA.1 h10).1;rw [h10,if_pos (by simpa using this)];rfl
        · rfl
      rw [e1]
      exact NP (h8.later l') i (hzv.later l'))
  exact hK' _ _ (hv c ρ S _ _ Q ⟨by rw [gC];exact s.size,by rw [eN];exact s.defers.later g2,fun tt uu huu => (s.env tt uu huu).later g2,g1,s.cm⟩ hQ)
end
end
end
end Go.Ab
namespace Go.Ab
open Go
section
variable {P : Program} {env : cJ} {h : Hp}
variable {d : Option Nat} {ty : TypeId} {pos : String} {af : Array Edge} {g : Option (Nat × Bool)}
end
section
variable {P : Program} {ops ops' : Array Oper} {i j : Nat} {oi oj : Oper} {Q : Exit → Act → World → Prop}
end
section
variable {P : Program} {n : Nat × Nat} {env : cJ} {h : Hp}
end
def GL (P : Program) (o : Oper) (env : cJ) (h : Hp) (u : AV) : Prop :=
  ∀ ρ S a w,L2 ρ S env h a w → ∃ y,(∀ w',(execOp a.eval o).run P w' = .ok (.value y) w') ∧ R S w u ρ y
section
variable {P : Program} {env : cJ} {h : Hp}
variable {d : Option Nat} {ty : TypeId} {pos : String} {af : Array Edge} {g : Option (Nat × Bool)}
theorem pX {x : Operand} {u : AV} (hx : evu env x = some u) : GL P ⟨d,.move x,ty,pos,af,g⟩ env h u := fun ρ S a w p => ⟨a.eval x,fun w' => by simp [execOp],p.evu hx⟩
end
def B7 (P : Program) (n : Nat × Nat) (ops : Array Oper) (listed : Array Bool) (r : Nat) (env : cJ) (h : Hp) (K : cJ → Hp → Prop) : Prop :=
  ∀ c ρ S a w QQ,lM n c ρ S env h a w → (∀ e a w,QQ e a w → e = Exit.normal) → (∀ env' h' ρ' S' a' w',K env' h' → lM n c ρ' S' env' h' a' w' → QQ Exit.normal a' w') → wpAny P .any ops QQ r listed a w
section
variable {P : Program} {n : Nat × Nat} {ops : Array Oper} {env : cJ} {h : Hp} {K : cJ → Hp → Prop} {listed : Array Bool} {r : Nat}
theorem oH {i dd : Nat} {op : Op} {ty : TypeId} {pos : String} {af : Array Edge} {u : AV} (i' : Nat) (hi' : i' = i) (ho : ops[i]? = some ⟨some dd, op, ty, pos, af, none⟩) (hs : Region.noSelect ops = true) (hf : Region.free .any ops listed i = true) (hr : (Region.ready .any ops listed).contains i = true) (hp : GL P ⟨some dd, op, ty, pos, af, none⟩ env h u) (hd : Nat.blt dd n.1 = true)
    (hk : B7 P n ops (listed.setIfInBounds i true) r ((dd,u) :: env) h K) : B7 P n ops listed (r + 1) env h K := by
  intro c ρ S a w QQ s hq hQ;obtain ⟨y,h1,h2⟩ := hp ρ S a w s.pre;refine wpAny_take ho hs hf hr (fun c a w hp => by have := hq _ _ _ hp;cases this) (.inl ⟨mJ rfl,h1⟩) ?_
  exact hk c ρ S (a.put (some dd) y) w QQ ⟨by rw [gC];exact s.size,by rw [eN];exact s.defers,kP (d := some dd) s.size hd s.env h2,s.hs,s.cm⟩ hq hQ
theorem lM.drew {c : mE} {ρ : Pl} {S : Nat → Prop} {a : Act} {w : World} (s : lM n c ρ S env h a w) : lM n c ρ S env h a { w with drawn := w.drawn + 1 } := by
  have l0 : fN ρ ρ S S w { w with drawn := w.drawn + 1 } := ⟨fun _ _ h => h,fun _ h => h,fun _ _ => rfl,fun _ _ _ _ _ h => h⟩
  refine ⟨s.size,s.defers.later l0,fun t x hx => (s.env t x hx).later l0,?_,s.cm⟩;exact ⟨s.hs.dom,s.hs.rng,fun k b hb => RB.later l0 (fun _ _ _ => rfl) (s.hs.blk k b hb),s.hs.live,s.hs.inj,s.hs.stab,s.hs.ext.drew,s.hs.st0,s.hs.st1,s.hs.mle,s.hs.keep,s.hs.glob.later l0⟩
theorem CD {Q : Exit → cJ → Hp → Prop} {id : Nat} {l : List Oper} (hm : P.follows .mixedOrders = true) (hv : B7 P n l.toArray (Array.replicate l.length false) l.length env h (fun v h => Q .normal v h)) (hndf : kM l = true := by rfl) : AW P n (.region id l.toArray true) env h Q := by
  intro c ρ S a w QQ s hQ;have h1 := hv c ρ S a { w with drawn := w.drawn + 1 } (fun e a w => e = .normal ∧ QQ .normal a w) s.drew (fun e a w h => h.1) fun env' h' ρ' S' a' w' k s' => ⟨rfl,hQ .normal env' h' ρ' S' a' w' k s'⟩
  exact nO hm hndf (by simpa using h1)
end
theorem oP {P : Program} {n : Nat × Nat} {code : Code} {env : cJ} {h : Hp} {Q : Exit → cJ → Hp → Prop} (env' : cJ) (h' : Hp) (hs : W9 n.2 env h env' h') (hv : AW P n code env' h' Q) : AW P n code env h Q := UG hs hv
structure XP (T : Prop) : Prop where
  get : T
theorem cutT {G T : Prop} (h : XP T → G) (ht : T) : G := h ⟨ht⟩
section
variable {P : Program} {env : cJ} {h : Hp} {d : Option Nat} {ty : TypeId} {pos : String} {af : Array Edge} {g : Option (Nat × Bool)}
theorem FU {t t2 : TypeId} {x y : Operand} {a b : Int} (hx : evu env x = some (.i a)) (hy : evu env y = some (.i b)) (e : a = b) : bR P ⟨d,.binOp .eql t x y t2,ty,pos,af,g⟩ env h 0 (fun _ => .b true) (fun _ => []) := by
  have := cT (P := P) (d := d) (ty := ty) (pos := pos) (af := af) (g := g) (h := h) (t := t) (t2 := t2) hx hy;simpa [e] using this
theorem U6 {t t2 : TypeId} {x y : Operand} {a b : Int} (hx : evu env x = some (.i a)) (hy : evu env y = some (.i b)) (e : a ≠ b) : bR P ⟨d,.binOp .neq t x y t2,ty,pos,af,g⟩ env h 0 (fun _ => .b true) (fun _ => []) := by
  have := pH (P := P) (d := d) (ty := ty) (pos := pos) (af := af) (g := g) (h := h) (t := t) (t2 := t2) hx hy;simpa [e] using this
theorem U7 {t t2 : TypeId} {x y : Operand} {a b : Int} (hx : evu env x = some (.i a)) (hy : evu env y = some (.i b)) (e : a = b) : bR P ⟨d,.binOp .neq t x y t2,ty,pos,af,g⟩ env h 0 (fun _ => .b false) (fun _ => []) := by
  have := pH (P := P) (d := d) (ty := ty) (pos := pos) (af := af) (g := g) (h := h) (t := t) (t2 := t2) hx hy;simpa [e] using this
end
theorem XX {S S' : Nat → Prop} {w : World} {ρ : Pl} {x : AV} {y : Value} (hS : ∀ b,S b → S' b) (h : R S w x ρ y) : R S' w x ρ y :=
  iU hS (fun _ _ => rfl) x ρ ρ y (fun _ _ h => h) (fun _ _ _ _ _ h => h) h
theorem XO {S S' : Nat → Prop} {w : World} {ρ : Pl} {p : Option (Nat × Nat)} {x : AB} (hS : ∀ b,S b → S' b) (h : RB S w ρ p x) : RB S' w ρ p x :=
  J6 (fun b _ _ hb _ => hS b hb) (fun _ _ _ h => h) h
theorem HS.re {c : mE} {ρ : Pl} {S : Nat → Prop} {h : Hp} {w : World} (s : HS c ρ S h w) (c' : mE) (hM : ∀ (k : Nat) x p,h[k]? = some x → x ≠ .gone → ρ k = some p → c'.M p.1) (hext : iZ c'.M c'.w0 w) (h0 : ∀ b,c'.S0 b → S b) (h1 : ∀ b,S b → c'.S0 b ∨ c'.M b) (hm : c'.m ≤ h.length) (hk : ∀ k,k < c'.m → ρ k = c'.ρ0 k) : HS c' ρ S h w :=
  ⟨s.dom,s.rng,s.blk,fun k b p hb hg hp => ⟨hM k b p hb hg hp,(s.live k b p hb hg hp).2⟩,s.inj,s.stab,hext,h0,h1,hm,hk,s.glob⟩
theorem HS.world {c : mE} {ρ : Pl} {S N : Nat → Prop} {h : Hp} {w w' : World} (s : HS c ρ S h w) (x : iZ N w w') (hS : ∀ b,S b → ¬ N b) (hl : ∀ (k : Nat) y p,h[k]? = some y → y ≠ .gone → ρ k = some p → ¬ N p.1) (hM : ∀ b,b < c.w0.heap.size → N b → c.M b) : HS c ρ S h w' ∧ fN ρ ρ S S w w' := by
  have l : fN ρ ρ S S w w' := ⟨fun _ _ h => h,fun _ h => h,fun b hb => x.same b (s.stab b hb) (hS b hb),fun _ _ _ _ _ hr => x.room hr⟩
  refine ⟨⟨s.dom,fun k p hp => bP (s.rng k p hp) x.size,fun k b hb => ?_,s.live,s.inj,fun b hb => bP (s.stab b hb) x.size,s.ext.trans x (fun b hb hlt => hM b hlt hb),s.st0,s.st1,s.mle,s.keep,s.glob.later l⟩,l⟩;by_cases hg : b = .gone
  · subst hg;trivial
  · exact RB.later l (fun b' o hp => x.same b' (s.rng k _ hp) (hl k b _ hb hg hp)) (s.blk k b hb)
theorem HS.more {c : mE} {ρ : Pl} {S S' : Nat → Prop} {h : Hp} {w : World} (s : HS c ρ S h w) (hS : ∀ b,S b → S' b) (hlt : ∀ b,S' b → b < w.heap.size) (hl : ∀ (k : Nat) y p,h[k]? = some y → y ≠ .gone → ρ k = some p → ¬ S' p.1) (h1 : ∀ b,S' b → c.S0 b ∨ c.M b) : HS c ρ S' h w :=
  ⟨s.dom,s.rng,fun k b hb => XO hS (s.blk k b hb),fun k b p hb hg hp => ⟨(s.live k b p hb hg hp).1,hl k b p hb hg hp⟩,s.inj,hlt,s.ext,fun b hb => hS b (s.st0 b hb),h1,s.mle,s.keep,s.glob.st hS⟩
theorem V0 {w : World} {l : Nat} {o o' : Obj} (hl : w.heap[l]? = some o) (hn : ∀ c e fz,o ≠ .cells c e fz) : iZ (fun b => b = l) w (w.putObj l o') :=
  ⟨rfl,rfl,rfl,by rw [World.putObj_size];exact aQ _,fun b _ hb => mM hb,fun b c e fz hc => ⟨c,fz,by
    have : b ≠ l := fun e' => by rw [e',hl] at hc;cases hc;exact hn _ _ _ rfl
    rw [mM this];exact hc,rfl⟩⟩
theorem HS.put {c : mE} {ρ : Pl} {S : Nat → Prop} {h : Hp} {w : World} {l : Nat} {o : Obj} (s : HS c ρ S h w) (hl : w.heap[l]? = some o) (hn : ∀ c e fz,o ≠ .cells c e fz) (hm : QY o = false) (o' : Obj) (hM : l < c.w0.heap.size → c.M l) (h0 : ¬ c.S0 l) :
    HS c ρ (fun b => S b ∧ b ≠ l) h (w.putObj l o') ∧ ∀ x y,R S w x ρ y → R (fun b => S b ∧ b ≠ l) (w.putObj l o') x ρ y := by
  have hmm : ∀ (b : Nat) q,pK q = true → w.heap[b]? = some q → b ≠ l := fun b q hq hb e' => by
    rw [e',hl] at hb;cases hb;cases o <;> first | (cases hq;done) | exact hn _ _ _ rfl | (rw [QY] at hm;cases hm)
  have a1 : ∀ (b : Nat) q,pK q = true → S b → w.heap[b]? = some q → S b ∧ b ≠ l := fun b q hq h1 h2 => ⟨h1,hmm b q hq h2⟩
  have a2 : ∀ (b : Nat) q,pK q = true → w.heap[b]? = some q → (w.putObj l o').heap[b]? = some q := fun b q hq h2 => by rw [mM (hmm b q hq h2)];exact h2
  refine ⟨⟨s.dom,fun k p hp => by rw [World.putObj_size];exact s.rng k p hp,fun k b hb => J6 a1 a2 (s.blk k b hb),fun k b p hb hg hp => ⟨(s.live k b p hb hg hp).1,fun h => (s.live k b p hb hg hp).2 h.1⟩,s.inj,fun b hb => by rw [World.putObj_size];exact s.stab b hb.1,s.ext.trans (V0 hl hn) (fun b hb hlt => by subst hb;exact hM hlt),fun b hb => ⟨s.st0 b hb,fun e => h0 (e ▸ hb)⟩,fun b hb => s.st1 b hb.1,s.mle,s.keep,s.glob.cells a1 a2⟩,fun x y hx => xY a1 a2 x ρ y hx⟩
abbrev JT := Nat × Bool → (Nat → Prop) → (Nat → Prop) → World → Prop
structure NX (J : JT) : Prop where
  st : ∀ {g W N w w'},J g W N w → iZ (fun b => ¬ N b) w w' → J g W N w'
  sub : ∀ {g W N w},J g W N w → ∀ b,W b → N b
  lt : ∀ {g W N w},J g W N w → ∀ b,N b → b < w.heap.size
structure UP (J : JT) (A : Nat → Prop) (g : Nat × Bool) (c : mE) (ρ : Pl) (S : Nat → Prop) (h : Hp) (w : World) (W N : Nat → Prop) : Prop where
  j : J g W N w
  live : ∀ (k : Nat) x p,h[k]? = some x → x ≠ .gone → ρ k = some p → ¬ N p.1
  st : ∀ b,S b → ¬ W b
  cell : ∀ b,S b → c.lo ≤ b → N b → zJ w b
  wm : ∀ b,W b → c.M b
  accS : ∀ b,S b → A b
  accM : ∀ b,c.M b → A b
  nn : ∀ b,N b → c.nb b ∨ c.S0 b ∨ c.M b
def JS (J : JT) (A : Nat → Prop) (g : Nat × Bool) (c : mE) (ρ : Pl) (S : Nat → Prop) (h : Hp) (w : World) : Prop := ∃ W N,UP J A g c ρ S h w W N
def mE.re (c : mE) (w : World) (S N : Nat → Prop) (hn : ∀ b, N b → b < w.heap.size) (hs : c.w0.heap.size ≤ w.heap.size) : mE where
  w0 := w
  M := fun b => c.M b ∧ ¬ N b
  new := fun b hb => ⟨c.new b (cC hs hb),fun h => by have := hn b h;omega⟩
  S0 := S
  ρ0 := c.ρ0
  m := c.m
  lo := c.lo
  lole := cC c.lole hs
  r := c.r
  nb := c.nb
section
variable {P : Program} {J : JT} {A : Nat → Prop} {g : Nat × Bool} {n : Nat × Nat} {c : mE} {ρ : Pl} {S W N : Nat → Prop} {env : cJ} {h : Hp} {a : Act} {w : World}
theorem lM.re (s : lM n c ρ S env h a w) (j : UP J A g c ρ S h w W N) (hn : ∀ b,N b → b < w.heap.size) (hs : c.w0.heap.size ≤ w.heap.size) : lM n (c.re w S N hn hs) ρ S env h a w :=
  ⟨s.size,s.defers,s.env,s.hs.re _ (fun k x p hx hg hp => ⟨(s.hs.live k x p hx hg hp).1,j.live k x p hx hg hp⟩) (iZ.refl _ _) (fun _ h => h) (fun _ h => .inl h) s.hs.mle s.hs.keep,s.cm⟩
theorem lM.un {ρ' : Pl} {S' : Nat → Prop} {env' : cJ} {h' : Hp} {a' : Act} {w' : World} (hJ : NX J) (s : lM n c ρ S env h a w) (j : UP J A g c ρ S h w W N) (hn : ∀ b,N b → b < w.heap.size) (hs : c.w0.heap.size ≤ w.heap.size) (s' : lM n (c.re w S N hn hs) ρ' S' env' h' a' w') :
    lM n c ρ' S' env' h' a' w' ∧ UP J A g c ρ' S' h' w' W N := by
  have hx : iZ (fun b => c.M b ∧ ¬ N b) w w' := s'.hs.ext;have hl : ∀ (k : Nat) x p,h'[k]? = some x → x ≠ .gone → ρ' k = some p → c.M p.1 ∧ ¬ N p.1 := fun k x p a1 a2 a3 => (s'.hs.live k x p a1 a2 a3).1;have hst : ∀ b,S' b → S b ∨ (c.M b ∧ ¬ N b) := fun b hb => s'.hs.st1 b hb
  refine ⟨⟨s'.size,s'.defers,s'.env,s'.hs.re c (fun k x p a1 a2 a3 => (hl k x p a1 a2 a3).1) (s.hs.ext.trans hx fun b hb _ => hb.1) (fun b hb => s'.hs.st0 b (s.hs.st0 b hb)) (fun b hb => (hst b hb).elim (s.hs.st1 b) fun h => .inr h.1) s'.hs.mle s'.hs.keep,s'.cm⟩,?_⟩;refine ⟨hJ.st j.j (hx.mono fun b _ hb => hb.2),fun k x p a1 a2 a3 => (hl k x p a1 a2 a3).2,fun b hb hw => ?_,fun b hb h1 h2 => ?_,j.wm,fun b hb => (hst b hb).elim (j.accS b) fun h => j.accM b h.1,j.accM,j.nn⟩
  · rcases hst b hb with h1 | h1
    · exact j.st b h1 hw
    · exact h1.2 (hJ.sub j.j b hw)
  · rcases hst b hb with h3 | h3
    · obtain ⟨cc,e,h4⟩ := j.cell b h3 h1 h2;exact ⟨cc,e,by rw [hx.same b (hn b h2) fun h => h.2 h2];exact h4⟩
    · exact absurd h2 h3.2
theorem JS.sub {L : List Nat} {h' : Hp} (s : HS c ρ S h w) (hl : L.length = h'.length) (hh : pN (th L h.length) h 0 h') (j : JS J A g c ρ S h w) : JS J A g c (fun k => ρ (th L h.length k)) S h' w := by
  obtain ⟨W,N,j⟩ := j;refine ⟨W,N,j.j,fun k x p hx hg hp => ?_,j.st,j.cell,j.wm,j.accS,j.accM,j.nn⟩
  have h1 := hh.get k x hx;rw [Nat.zero_add] at h1;exact j.live _ _ p (h1.resolve_left hg) (by cases x <;> simp [AB.map] at *) hp
end
def K1 (P : Program) (l : Nat) (J : JT) (A : Nat → Prop) (items : Nat → List AV) (N : Nat) : Prop :=
  ∀ k,k < N → ∀ W Nn w S vs,J (k,false) W Nn w → (∀ b,S b → A b ∧ ¬ W b ∧ zJ w b) → RL S w (items k) (fun _ => none) vs →
    YieldAt Fence.wide 0 P l vs.toArray w fun e w' => ∃ (b : Bool) (W' N' : Nat → Prop),e = .returned (.bool b) ∧ J (k + 1,!b) W' N' w' ∧ iZ W w w' ∧ (∀ x,W' x → W x ∨ w.heap.size ≤ x) ∧ (∀ x,N' x → Nn x ∨ S x ∨ w.heap.size ≤ x)
def AY (P : Program) (J : JT) (A : Nat → Prop) (n : Nat × Nat) (code : Code) (g : Nat × Bool) (env : cJ) (h : Hp) (Q : Nat × Bool → Exit → cJ → Hp → Prop) : Prop :=
  ∀ c ρ S a w QQ,lM n c ρ S env h a w → JS J A g c ρ S h w → (∀ g' e env' h' ρ' S' a' w',Q g' e env' h' → lM n c ρ' S' env' h' a' w' → JS J A g' c ρ' S' h' w' → QQ e a' w') → code.wpIn (rd c.r) 0 P QQ a w
def VY (P : Program) (J : JT) (A : Nat → Prop) (n : Nat × Nat) (ops : Array Oper) (rest : List Oper) (g : Nat × Bool) (env : cJ) (h : Hp) (K : Nat × Bool → cJ → Hp → Prop) : Prop :=
  ∀ c ρ S a w Q,lM n c ρ S env h a w → JS J A g c ρ S h w → (∀ e a w,Q e a w → e = Exit.normal) → (∀ g' env' h' ρ' S' a' w',K g' env' h' → lM n c ρ' S' env' h' a' w' → JS J A g' c ρ' S' h' w' → Q .normal a' w') → wpListIn (rd c.r) 0 P ops Q rest a w
def LB (K : Nat × Bool → cJ → Hp → Prop) (Q : Nat × Bool → Exit → cJ → Hp → Prop) : Nat × Bool → Exit → cJ → Hp → Prop
  | g,.normal,v,h => K g v h
  | g,e,v,h => Q g e v h
def ET (id : Nat) (Q : Nat × Bool → Exit → cJ → Hp → Prop) : Nat × Bool → Exit → cJ → Hp → Prop
  | g,.exit id',v,h => if id' = id then Q g .normal v h else Q g (.exit id') v h
  | g,e,v,h => Q g e v h
section
variable {P : Program} {J : JT} {A : Nat → Prop} {n : Nat × Nat} {g : Nat × Bool} {env : cJ} {h : Hp} {Q : Nat × Bool → Exit → cJ → Hp → Prop}
theorem vD {code : Code} (hJ : NX J) (hv : AW P n code env h (fun e v h => Q g e v h)) : AY P J A n code g env h Q := by
  intro c ρ S a w QQ s ⟨W,N,j⟩ hQ;have hn := hJ.lt j.j;refine hv (c.re w S N hn s.hs.ext.size) ρ S a w QQ (s.re j hn s.hs.ext.size) fun e env' h' ρ' S' a' w' hq s' => ?_
  obtain ⟨h1,h2⟩ := s.un hJ j hn s.hs.ext.size s';exact hQ g e env' h' ρ' S' a' w' hq h1 ⟨W,N,h2⟩
theorem I5 {x y : Code} (hx : AY P J A n x g env h (LB (fun g v h => AY P J A n y g v h Q) Q)) : AY P J A n (.seq x y) g env h Q := by
  intro c ρ S a w QQ s j hQ;refine wpIn_seq (hx c ρ S a w _ s j fun g' e env' h' ρ' S' a' w' k s' j' => ?_);cases e with
  | normal => exact k c ρ' S' a' w' QQ s' j' hQ
  | _ => exact hQ g' _ env' h' ρ' S' a' w' k s' j'
theorem GD (hk : Q g .normal env h) : AY P J A n .skip g env h Q := fun _ _ _ _ _ _ s j hQ => wpIn_skip (hQ _ _ _ _ _ _ _ _ hk s j)
theorem GG {id : Nat} (hk : Q g (.exit id) env h) : AY P J A n (.exit id) g env h Q := fun _ _ _ _ _ _ s j hQ => wpIn_exit (hQ _ _ _ _ _ _ _ _ hk s j)
theorem UF (hk : Q g .ret env h) : AY P J A n .ret g env h Q := fun _ _ _ _ _ _ s j hQ => wpIn_ret (hQ _ _ _ _ _ _ _ _ hk s j)
theorem I6 {id : Nat} {x : Code} (hx : AY P J A n x g env h (ET id Q)) : AY P J A n (.block id x) g env h Q := by
  intro c ρ S a w QQ s j hQ;refine wpIn_block (hx c ρ S a w _ s j fun g' e env' h' ρ' S' a' w' k s' j' => ?_);cases e with
  | exit id' =>
    by_cases hid : id' = id
    · simp only [ET,hid,if_true] at k;simp only [Exit.inBlock,hid,if_true];exact hQ g' _ env' h' ρ' S' a' w' k s' j'
    · simp only [ET,hid,if_false] at k;simp only [Exit.inBlock,hid,if_false];exact hQ g' _ env' h' ρ' S' a' w' k s' j'
  | _ => exact hQ g' _ env' h' ρ' S' a' w' k s' j'
theorem D8 {x : Operand} {b : Bool} {p q : Code} (hx : ev env x = some (.b b)) (ht : b = true → AY P J A n p g env h Q) (hf : b = false → AY P J A n q g env h Q) : AY P J A n (.cond x p q) g env h Q := by
  intro c ρ S a w QQ s j hQ;have hb := s.ev hx;simp only [R] at hb;exact wpIn_cond_split hb (fun h1 => ht h1 c ρ S a w QQ s j hQ) (fun h1 => hf h1 c ρ S a w QQ s j hQ)
theorem UE {code : Code} {env' : cJ} {h' : Hp} (hs : W9 n.2 env h env' h') (hk : AY P J A n code g env' h' Q) : AY P J A n code g env h Q := by
  intro c ρ S a w QQ s j hQ;obtain ⟨L,h1,h2,h3,h4,h5⟩ := hs;exact hk c _ S a w QQ ⟨s.size,s.defers,fun t x hx => B4 _ ρ _ _ (s.env t _ (h2.look t x hx)),s.hs.sub h1 h3 h4 (fun i hi => h5 i (s.cm ▸ hi)),s.cm⟩ (JS.sub s.hs h1 h3 j) hQ
theorem GF {body : Code} {X : Type} (E : X → cJ) (H : X → Hp) (G : X → Nat × Bool) (μ : X → Nat) (x0 : X) (hg : g = G x0) (h0 : W9 n.2 env h (E x0) (H x0))
    (round : ∀ x,AY P J A n body (G x) (E x) (H x) (LB (fun g v h => ∃ x',μ x' < μ x ∧ g = G x' ∧ W9 n.2 v h (E x') (H x')) Q)) : AY P J A n (.loop body) g env h Q := by
  subst hg;refine UE h0 ?_;intro c ρ S a w QQ s0 j0 hQ b k cs hro hb hr;have key : ∀ m x,μ x = m → ∀ ρ S a w,lM n c ρ S (E x) (H x) a w → JS J A (G x) c ρ S (H x) w → ∃ e a' w',QQ e a' w' ∧ ArrivesIn (Machine.fenced P (rd c.r)) P (lone (b.atR a (.code body :: .inLoop body :: k)) cs w) b k cs e a' w' := by
    intro m
    induction m using Nat.strongRecOn with
    | _ m ih =>
      intro x hx ρ S a w s j;obtain ⟨e,a₁,w₁,hq,harr⟩ := round x c ρ S a w (fun e a' w' => ∃ g' env' h' ρ' S',LB (fun g v h => ∃ x',μ x' < μ x ∧ g = G x' ∧ W9 n.2 v h (E x') (H x')) Q g' e env' h' ∧ lM n c ρ' S' env' h' a' w' ∧ JS J A g' c ρ' S' h' w') s j (fun g' e env' h' ρ' S' a' w' hq s' j' => ⟨g',env',h',ρ',S',hq,s',j'⟩) b (.inLoop body :: k) cs hro hb hr;obtain ⟨g',env',h',ρ',S',hq,s',j'⟩ := hq;cases e with
      | normal =>
        obtain ⟨x',hlt,rfl,L,h1,h2,h3,h4,h5⟩ := hq;have s2 : lM n c (fun k => ρ' (th L h'.length k)) S' (E x') (H x') a₁ w₁ := ⟨s'.size,s'.defers,fun t x hx => B4 _ ρ' _ _ (s'.env t _ (h2.look t x hx)),s'.hs.sub h1 h3 h4 (fun i hi => h5 i (s'.cm ▸ hi)),s'.cm⟩;obtain ⟨e₂,a₂,w₂,hq₂,harr₂⟩ := ih (μ x') (hx ▸ hlt) x' rfl _ S' a₁ w₁ s2 (JS.sub s'.hs h1 h3 j');exact ⟨e₂,a₂,w₂,hq₂,.of_steps (StepsIn.trans harr (.one (fenced_calm hb hr rfl) stepR_inLoop)) harr₂⟩
      | exit id => exact ⟨_,a₁,w₁,hQ _ _ env' h' ρ' S' a₁ w₁ hq s' j',.pass (x := .inLoop body) rfl (fun _ _ => .inl (by simp)) harr⟩
      | goto l => exact ⟨_,a₁,w₁,hQ _ _ env' h' ρ' S' a₁ w₁ hq s' j',.pass (x := .inLoop body) rfl (fun _ _ => .inl (by simp)) harr⟩
      | ret => exact ⟨_,a₁,w₁,hQ _ _ env' h' ρ' S' a₁ w₁ hq s' j',.pass (x := .inLoop body) rfl (fun _ _ => .inl (by simp)) harr⟩
      | panic ch => exact ⟨_,a₁,w₁,hQ _ _ env' h' ρ' S' a₁ w₁ hq s' j',.pass (x := .inLoop body) rfl (fun _ _ => .inl (by simp)) harr⟩
      | outgrown => exact ⟨_,a₁,w₁,hQ _ _ env' h' ρ' S' a₁ w₁ hq s' j',.pass (x := .inLoop body) rfl (fun _ _ => .inl (by simp)) harr⟩
  obtain ⟨e,a',w',hq,harr⟩ := key _ x0 rfl ρ S a w s0 j0;exact ⟨e,a',w',hq,.of_steps (.one (fenced_calm hb hr rfl) stepR_loop) harr⟩
theorem IJ {id : Nat} {l : List Oper} (hv : VY P J A n l.toArray l g env h (fun g v h => Q g .normal v h)) : AY P J A n (.region id l.toArray false) g env h Q := by
  intro c ρ S a w QQ s j hQ;exact wpIn_mono (wpIn_region_lit (hv c ρ S a w (fun e a w => e = .normal ∧ QQ .normal a w) s j (fun e a w h => h.1) fun g' env' h' ρ' S' a' w' k s' j' => ⟨rfl,hQ g' .normal env' h' ρ' S' a' w' k s' j'⟩)) fun e a w he => by obtain ⟨rfl,h3⟩ := he;exact h3
end
theorem AN {F : Fence} {m : Nat} {P : Program} {o : Oper} {a : Act} {w : World} {K : Act → World → Prop} {Q Q' : Exit → Act → World → Prop} (hq : ∀ e a w,Q e a w → e = .normal) (h : o.wpIn F m P a w K Q) : o.wpIn F m P a w K Q' := by
  refine ⟨h.1,?_⟩;have h := h.2;have hp : ∀ {ch a w} {p : Prop},Q (.panic ch) a w → p := fun hh => by have := hq _ _ _ hh;cases this
  have ho : ∀ {p : Prop},LetsOut Q → p := fun ⟨_,_,hh⟩ => by have := hq _ _ _ hh;cases this
  generalize (o.semAt F.round a.eval).run P w = r at h ⊢;cases r with
  | ok x w' =>
    cases x <;> simp only [Oper.uponIn] at h ⊢ <;>
      first
        | exact h
        | exact ⟨h.1,h.2.mono (fun e w'' he => by cases e <;> first | exact he | exact hp he | exact ho he)⟩
  | halt x w' => cases x <;> simp only [Oper.uponIn] at h ⊢ <;> first | exact h | exact hp h
theorem rI {F : Fence} {m : Nat} {P : Program} {ops : Array Oper} {Q : Exit → Act → World → Prop} {l2 : List Oper} : ∀ {l1 : List Oper} {a : Act} {w : World}, wpListIn F m P ops (fun e a w => e = .normal ∧ wpListIn F m P ops Q l2 a w) l1 a w → wpListIn F m P ops Q (l1 ++ l2) a w
  | [],_,_,h => h.2
  | o :: l1,a,w,h => by
    show wpListIn F m P ops Q (o :: (l1 ++ l2)) a w;unfold wpListIn at h ⊢;split at h
    · rename_i hw;rw [if_pos hw];exact AN (Q := fun e a w => e = .normal ∧ wpListIn F m P ops Q l2 a w) (fun e a w h => h.1) (Oper.wpIn_mono (fun a w h => rI h) h)
    · rename_i hw;rw [if_neg hw];exact ⟨h.1,rI h.2⟩
section
variable {P : Program} {J : JT} {A : Nat → Prop} {n : Nat × Nat} {g : Nat × Bool} {ops : Array Oper} {env : cJ} {h : Hp} {K : Nat × Bool → cJ → Hp → Prop}
theorem JG {l1 l2 : List Oper} (hJ : NX J) (hnd : kM l1 = true) (hv : VC P n ops l1 env h (fun v h => VY P J A n ops l2 g v h K)) : VY P J A n ops (l1 ++ l2) g env h K := by
  intro c ρ S a w Q s ⟨W,N,j⟩ hq hQ;have hn := hJ.lt j.j;refine rI (qO (fun e a w h => h.1) hnd (hv (c.re w S N hn s.hs.ext.size) ρ S a w (fun e a w => e = .normal ∧ wpListIn (rd c.r) 0 P ops Q l2 a w) (s.re j hn s.hs.ext.size) fun env' h' ρ' S' a' w' k s' => ⟨rfl,?_⟩));obtain ⟨h1,h2⟩ := s.un hJ j hn s.hs.ext.size s';exact k c ρ' S' a' w' Q h1 ⟨W,N,h2⟩ hq hQ
theorem RZ (k : Nat) {rest : List Oper} (hJ : NX J) (hv : VC P n ops (rest.take k) env h (fun v h => VY P J A n ops (rest.drop k) g v h K)) (hnd : kM (rest.take k) = true := by rfl) : VY P J A n ops rest g env h K := by
  have := JG hJ hnd hv
  rwa [bX] at this
theorem UW {rest : List Oper} (hJ : NX J) (hv : VC P n ops rest env h (fun v h => K g v h)) (hnd : kM rest = true := by rfl) : VY P J A n ops rest g env h K := by
  have := JG (l1 := rest) (l2 := []) (A := A) (g := g) (K := K) hJ hnd (hv.mono fun e h k => (fun c ρ S a w Q s j hq hQ => hQ g e h ρ S a w k s j))
  rwa [List.append_nil] at this
theorem JF {d : Option Nat} {x : Operand} {l k N : Nat} {us : List AV} {args : List Operand} {ats : Array TypeId} {ty : TypeId} {pos : String} {af : Array Edge} {items : Nat → List AV} {rest : List Oper} (hJ : NX J) (hy : K1 P l J A items N) (hx : evu env x = some (.clo (.yield l) [] [])) (ha : V1 env args = some us) (hi : AV.idfL us = true) (hk : k < N) (hit : items k = us) (hd : yZ d n = true)
    (hb : ∀ b : Bool,VY P J A n ops rest (k + 1,!b) (fC d (.b b) env) h K) : VY P J A n ops (⟨d,.call { callee := .value x,args := args.toArray,argTypes := ats },ty,pos,af,none⟩ :: rest) (k,false) env h K := by
  intro c ρ S a w Q s ⟨W,Nn,j⟩ hq hQ;refine wpListIn_plain rfl fun K' hK' => ?_
  have p := s.pre;have hxv := p.evu hx;simp only [R,RL] at hxv;obtain ⟨ys,zs,e1,h1,h2⟩ := hxv;have e2 : ys = #[] := by cases ys;simp_all
  have e3 : zs = #[] := by cases zs;simp_all
  subst e2 e3;have hargs := lG p ha;have hS1 : ∀ b,(S b ∧ zJ w b) → A b ∧ ¬ W b ∧ zJ w b := fun b hb => ⟨j.accS b hb.1,j.st b hb.1,hb.2⟩
  have hargs1 : RL (fun b => S b ∧ zJ w b) w (items k) (fun _ => none) (args.map a.eval) := by
    rw [hit];exact qN ρ _ _ _ hi (iH (fun b cc e q1 q2 => ⟨q1,cc,e,q2⟩) (fun _ _ _ h => h) _ _ _ hargs)
  obtain ⟨fn,tmps,assign,body,hrun,hround⟩ := hy k hk W Nn w _ _ j.j hS1 hargs1;refine ⟨fun _ _ => trivial,?_⟩
  rw [G4 rfl];have hr2 : (execOp a.eval ⟨d,.call { callee := .value x,args := args.toArray,argTypes := ats },ty,pos,af,none⟩).run P w = .ok (.round l fn tmps assign body) w := by
    have e4 : (#[] ++ (args.toArray.map a.eval)) = (args.map a.eval).toArray := by
      apply Array.ext';simp
    simp only [execOp,resolve,e1,Deferred.ofValue,Sem.run_bind,Sem.run_pure,Result.andThen_ok,invoke];rw [e4];exact hrun
  rw [hr2];refine ⟨fun h => (by cases h),?_⟩
  have hround : RoundIn (rd c.r) (0 - 1) P l fn tmps assign body w _ := hround;refine hround.mono ?_;rintro e w' ⟨b,W',N',rfl,j1,hx,hW',hN'⟩;have hWlt : ∀ b,W b → b < w.heap.size := fun b hb => hJ.lt j.j b (hJ.sub j.j b hb);obtain ⟨hs',l'⟩ := s.hs.world hx j.st (fun k y p a1 a2 a3 hw => j.live k y p a1 a2 a3 (hJ.sub j.j _ hw)) (fun b _ hb => j.wm b hb);refine hK' _ _ (hb b c ρ S (a.put d (.bool b)) w' Q ⟨by rw [gC];exact s.size,by rw [eN];exact s.defers.later l',kP s.size hd (fun t u hu => (s.env t u hu).later l') (lD _),hs',s.cm⟩ ⟨W',N',j1,fun k y p a1 a2 a3 hn => ?_,fun b hb hw => ?_,fun b hb h1 h2 => ?_,fun b hb => ?_,j.accS,j.accM,fun b hb => ?_⟩ hq hQ)
  · rcases hN' _ hn with hn | hn | hn
    · exact j.live k y p a1 a2 a3 hn
    · exact (s.hs.live k y p a1 a2 a3).2 hn.1
    · have := s.hs.rng k p a3;omega
  · rcases hW' _ hw with hw | hw
    · exact j.st b hb hw
    · have := s.hs.stab b hb;omega
  · have same := hx.same b (s.hs.stab b hb) (j.st b hb);rcases hN' _ h2 with h2 | h2 | h2
    · obtain ⟨cc,e,h4⟩ := j.cell b hb h1 h2;exact ⟨cc,e,by rw [same];exact h4⟩
    · obtain ⟨cc,e,h4⟩ := h2.2;exact ⟨cc,e,by rw [same];exact h4⟩
    · have := s.hs.stab b hb;omega
  · rcases hW' _ hb with hb | hb
    · exact j.wm b hb
    · exact c.new b (cC s.hs.ext.size hb)
  · rcases hN' _ hb with hb | hb | hb
    · exact j.nn b hb
    · exact .inr (s.hs.st1 b hb.1)
    · exact .inr (.inr (c.new b (cC s.hs.ext.size hb)))
end
def QI (w : World) (ρ : Pl) (S : Nat → Prop) (hit : Hp) (A : Nat → Prop) (hA : ∀ b, w.heap.size ≤ b → A b) : mE where
  w0 := w
  M := A
  new := hA
  S0 := S
  ρ0 := ρ
  m := hit.length
  lo := w.heap.size
  lole := aQ _
  r := none
def B8 (P : Program) (f : FuncId) (fs cs : List AV) (hit : Hp) (items : Nat → List AV) (N : Nat) : Prop :=
  (∃ fn, P.funcs[f]? = some fn ∧ (fn.name == "runtime.NumGoroutine") = false ∧ fn.body.isNone = false) ∧
  ∀ (J : JT) (A : Nat → Prop) (l : Nat),NX J → K1 P l J A items N → ∀ ρ S w vs W Nn (hA : ∀ b,w.heap.size ≤ b → A b),HS (QI w ρ S hit A hA) ρ S hit w → RL S w (fs ++ [.clo (.yield l) [] []] ++ cs) ρ vs → J (0,false) W Nn w →
    (∀ (k : Nat) x p,hit[k]? = some x → x ≠ .gone → ρ k = some p → ¬ Nn p.1) → (∀ b,S b → A b ∧ ¬ W b) → (∀ b,W b → A b) →
    Calls P f vs.toArray w fun e w' => ∃ y g W' N',e = .returned y ∧ J g W' N' w' ∧ (g.2 = false → g.1 = N)
theorem xH {P : Program} {fn : Func} {tmps : Array Value} {RR : Ending → World → Prop} {c : mE} {ρ : Pl} {h : Hp} (hlo : c.w0.heap.size ≤ c.lo) (h0 : ∀ b,c.S0 b → b < c.w0.heap.size) : ∀ (D : List Nat) (S : Nat → Prop) (w : World),HS c ρ S h w → D.Nodup → (∀ b,b ∈ D → S b ∧ w.heap[b]? = some (.deferred (some [])) ∧ c.lo ≤ b) →
    (∀ S' w',HS c ρ S' h w' → (∀ x y,R S w x ρ y → R S' w' x ρ y) → iZ (fun b => b ∈ D) w w' → ∃ v,(results fn tmps).run P w' = .ok v w' ∧ RR (.returned v) w') → LeavesInM Fence.wide 0 P fn tmps RR (D.map PQ) .returning w
  | [],S,w,s,_,_,hk => by
    have := hk S w s (fun _ _ h => h) (iZ.refl _ _);simpa only [List.map_nil,LeavesInM,LeavesIn] using this
  | m :: D,S,w,s,hnd,hD,hk => by
    rw [aL] at hnd;obtain ⟨h1,h2,h3⟩ := hD m (by simp)
    obtain ⟨g1,g2⟩ := s.shut1 h2 (by omega) h1 h0
    simp only [List.map_cons,LeavesInM];refine ⟨by simp,.inl ⟨m,_,rfl,run_takeDeferred h2,xH hlo h0 D _ _ g1 hnd.2 (fun b hb => ?_) fun S' w' s' hr hx => hk S' w' s' (fun x y hx => hr x y (g2 x y hx)) ?_⟩⟩
    · have hne : b ≠ m := fun e => hnd.1 (e ▸ hb);obtain ⟨q1,q2,q3⟩ := hD b (by simp [hb])
      exact ⟨⟨q1,hne⟩,by rw [mM hne];exact q2,q3⟩
    · exact ((V0 h2 (fun _ _ _ e => by cases e)).mono fun b _ hb => by simp [hb]).trans hx (fun b hb _ => by simp [hb])
theorem WH {P : Program} (T : lR P) {f : FuncId} {fn : Func} {code : Code} {n N : Nat} {fs cs : List AV} {hit : Hp} {items : Nat → List AV} (hf : P.funcs[f]? = some fn) (hb : fn.body = some code) (hnm : (fn.name == "runtime.NumGoroutine") = false) (hn : fn.ntmps = n) (ha : Nat.ble (fs.length + 1 + cs.length) n = true)
    (haw : ∀ J A l,NX J → K1 P l J A items N → AY P J A (n,hit.length) code (0,false) (oB 0 (fs ++ [.clo (.yield l) [] []] ++ cs)) hit (fun g e v h => (e = .ret ∨ e = .normal) ∧ (g.2 = false → g.1 = N) ∧ ∃ xs,pU T v h fn.results.toList = some xs)) : B8 P f fs cs hit items N := by
  refine ⟨⟨fn,hf,hnm,by rw [hb];rfl⟩,?_⟩
  intro J A l hJ hy ρ S w vs W Nn hA hs hargs j0 hd1 hd2 hd3;have hlen := dW hargs;have hle := aU ha;refine (callsIn_wide (n := 0)).1 (callsIn_of_wp_marks (F := Fence.wide) hf hb trivial ?_ rfl);refine haw J A l hJ hy (QI w ρ S hit A hA) ρ S _ w _ ⟨?_,oI.nil rfl _ _,fun t x hx => ?_,hs,rfl⟩ ⟨W,Nn,j0,hd1,fun b hb => (hd2 b hb).2,fun b hb hlo => ?_,hd3,fun b hb => (hd2 b hb).1,fun b hb => hb,fun _ _ => .inl trivial⟩ ?_
  · simp at hlen;simp [hn];omega
  · obtain ⟨_,h1⟩ := qE hx;simp only [YO] at h1;obtain ⟨y,h2,h3⟩ := kF hargs t x h1;have hlt : t < vs.length := (aA.1 h2).1;have : (vs.toArray ++ Array.replicate (fn.ntmps - vs.toArray.size) undef).getD t undef = y := by
      rw [cE,kA (by simpa using hlt)]
      simp [h2]
    rw [this];exact h3
  · have := hs.stab b hb;have hlo : w.heap.size ≤ b := hlo;omega
  · intro g e env' h' ρ' S' a' w' hq s ⟨W',N',j⟩;obtain ⟨he,hg,xs,h1⟩ := hq;obtain ⟨⟨D,hD1,hD2,hD3⟩,_⟩ := s.defers;have hl : LeavesInM Fence.wide 0 P fn a'.tmps (fun e w' => ∃ y g W' N',e = Ending.returned y ∧ J g W' N' w' ∧ (g.2 = false → g.1 = N)) a'.defers .returning w' := by
      rw [hD1];refine xH (c := QI w ρ S hit A hA) (aQ _) (fun b hb => hs.stab b hb) D S' w' s.hs hD2 hD3 fun S2 w2 s2 hr hx => ?_
      obtain ⟨ys,h7,h8⟩ := nS T s2.blk (fun t x hx => hr _ _ (s.env t x hx)) h1;have hm : (fn.results.mapM (pB a'.tmps)).run P w2 = .ok ys.toArray w2 := by
        rw [zU];simp only [Sem.run_map,h7,Result.andThen_ok]
      refine ⟨_,by rw [vQ];simp only [Sem.run_bind,hm,Result.andThen_ok,Sem.run_pure];rfl,_,g,W',N',rfl,hJ.st j.j (hx.mono fun b _ hb hn => ?_),hg⟩
      obtain ⟨q1,q2,q3⟩ := hD3 b hb;obtain ⟨cc,e,q4⟩ := j.cell b q1 q3 hn;rw [q2] at q4;cases q4;cases e
    rcases he with rfl | rfl
    · exact hl
    · exact hl
mutual
def AV.low (m : Nat) : AV → Bool
  | .v _ | .any | .row .. | .mrow .. | .pr .. => true
  | .ptr k _ | .ep k _ _ _ | .sl k _ _ _ | .mp k => Nat.blt k m
  | .agg cs | .tup cs => AV.lowL m cs
  | .clo _ cs ds => AV.lowL m cs && AV.lowL m ds
  | .cond _ x => AV.low m x
  | .ifc _ x => AV.low m x
def AV.lowL (m : Nat) : List AV → Bool
  | [] => true
  | x :: xs => AV.low m x && AV.lowL m xs
end
theorem V9 {k m : Nat} (h : Nat.blt k m = true) : k < m := aU h
mutual
theorem CI {S : Nat → Prop} {w : World} {ρ ρ' : Pl} {m : Nat} (hρ : ∀ k, k < m → ρ' k = ρ k) : ∀ (x : AV) (y : Value), x.low m = true → R S w x ρ y → R S w x ρ' y
  | .v x,y,_,h => by simpa only [R] using h
  | .any,_,_,_ => by simp [R]
  | .pr cs off,y,_,h => by simpa only [R] using h
  | .row cs len sz,y,_,h => by simpa only [R] using h
  | .mrow ks vs,y,_,h => by simpa only [R] using h
  | .ptr k off,y,hi,h => by
    simp only [R,AV.low] at *;rw [hρ k (V9 hi)];exact h
  | .ep k i off sz,y,hi,h => by
    simp only [R,AV.low] at *;rw [hρ k (V9 hi)];exact h
  | .sl k off len sz,y,hi,h => by
    simp only [R,AV.low] at *;rw [hρ k (V9 hi)];exact h
  | .mp k,y,hi,h => by
    simp only [R,AV.low] at *;rw [hρ k (V9 hi)];exact h
  | .agg cs,y,hi,h => by
    simp only [R,AV.low] at *;obtain ⟨ys,h1,h2⟩ := h;exact ⟨ys,h1,J5 hρ cs _ hi h2⟩
  | .tup cs,y,hi,h => by
    simp only [R,AV.low] at *;obtain ⟨ys,h1,h2⟩ := h;exact ⟨ys,h1,J5 hρ cs _ hi h2⟩
  | .clo f cs ds,y,hi,h => by
    simp only [R,AV.low,aM] at *;obtain ⟨ys,zs,h1,h2,h3⟩ := h;exact ⟨ys,zs,h1,J5 hρ cs _ hi.1 h2,J5 hρ ds _ hi.2 h3⟩
  | .cond b x,y,hi,h => by
    simp only [R,AV.low] at *;exact fun hb => CI hρ x y hi (h hb)
  | .ifc t x,y,hi,h => by
    simp only [R,AV.low] at *;obtain ⟨z,h1,h2⟩ := h;exact ⟨z,h1,CI hρ x z hi h2⟩
theorem J5 {S : Nat → Prop} {w : World} {ρ ρ' : Pl} {m : Nat} (hρ : ∀ k, k < m → ρ' k = ρ k) : ∀ (xs : List AV) (ys : List Value), AV.lowL m xs = true → RL S w xs ρ ys → RL S w xs ρ' ys
  | [],ys,_,h => by simpa only [RL] using h
  | x :: xs,ys,hi,h => by
    simp only [RL,AV.lowL,aM] at *;obtain ⟨y,zs,h1,h2,h3⟩ := h;exact ⟨y,zs,h1,CI hρ x y hi.1 h2,J5 hρ xs zs hi.2 h3⟩
end
def LK (m : Nat) : cJ → Bool
  | [] => true
  | (_,x) :: r => x.low m && LK m r
theorem zG {m : Nat} : ∀ {env : cJ}, LK m env = true → ∀ {t x}, look env t = some x → x.low m = true
  | [],_,_,_,h => by cases h
  | (k,u) :: r,hl,t,x,h => by
    simp only [LK,aM] at hl;rw [eY] at h;split at h
    · cases h;exact hl.1
    · exact zG hl.2 h
def nR : List Nat → List AV → cJ → cJ
  | t :: ts,x :: xs,E => nR ts xs ((t,x) :: E)
  | _,_,E => E
def G7 : Exit → Option Code
  | .ret => some .ret
  | .exit id => some (.exit id)
  | .goto t => some (.goto t)
  | _ => none
theorem BP {S : Nat → Prop} {w : World} {ρ : Pl} : ∀ (ts : List Nat) (xs : List AV) (vs : List Value) (E : cJ) (tm : Array Value),(∀ t,t ∈ ts → t < tm.size) → RL S w xs ρ vs → (∀ t x,look E t = some x → R S w x ρ (tm.getD t undef)) → ts.length = xs.length →
    ((ts.zip vs).foldl (fun tm (p : Nat × Value) => tm.setIfInBounds p.1 p.2) tm).size = tm.size ∧ ∀ t x,look (nR ts xs E) t = some x → R S w x ρ (((ts.zip vs).foldl (fun tm (p : Nat × Value) => tm.setIfInBounds p.1 p.2) tm).getD t undef)
  | [],_,_,E,tm,_,_,hE,_ => ⟨rfl,by intro t x hx;simpa [nR] using hE t x (by simpa [nR] using hx)⟩
  | t0 :: ts,[],_,E,tm,_,_,hE,hl => by simp at hl
  | t0 :: ts,x0 :: xs,vs,E,tm,hlt,hv,hE,hl => by
    simp only [RL] at hv;obtain ⟨y,zs,rfl,h1,h2⟩ := hv;have h0 := hlt t0 (by simp)
    obtain ⟨h3,h4⟩ := BP ts xs zs ((t0,x0) :: E) (tm.setIfInBounds t0 y) (fun t ht => by simpa using hlt t (by simp [ht])) h2 (fun t x hx => by
      rw [eY] at hx;split at hx
      · rename_i e;subst e;cases hx;simp [Array.getD,h0];exact h1
      · rename_i e;have := hE t x hx
        rwa [show (tm.setIfInBounds t0 y).getD t undef = tm.getD t undef by
          simp only [cE];rw [lN e]]) (by simpa using hl)
    exact ⟨by simpa using h3,fun t x hx => by simpa [nR] using h4 t x (by simpa [nR] using hx)⟩
theorem EL {P : Program} {c : mE} {S : Nat → Prop} {l0 : List Deferred} {w : World} (m : oI c S l0 w) (hS : ∀ b,S b → b < w.heap.size) (hlo : c.lo ≤ w.heap.size) (fn : FuncId) (tmps : Array Value) (ps : Array Tmp) (assign body : Code) :
    ∃ (l bd : Nat) (mk : List Deferred) (w1 : World) (T : Nat → Prop),(Instr.enterLoop fn tmps ps assign body c.r).run P w = .ok (l,mk) w1 ∧
      w1.heap[l]? = some (.loop { state := .ready,pending := none,fn := fn,tmps := tmps,params := ps,assign := assign,body := body,defers := bd }) ∧ w.heap.size ≤ l ∧ l < w1.heap.size ∧ iZ (fun _ => False) w w1 ∧
      (∀ b,T b → w.heap.size ≤ b ∧ b ≠ l ∧ b < w1.heap.size) ∧
      (∀ S' w',(∀ b,S b → S' b) → (∀ b,T b → S' b) → (∀ b,S b ∨ T b → w'.heap[b]? = w1.heap[b]?) → oI c S' (mk ++ l0) w') := by
  obtain ⟨⟨D,hD1,hD2,hD3⟩,hr⟩ := m;cases hc : c.r with
  | none =>
    have hx : iZ (fun _ => False) w ((w.alloc (.deferred (some []))).alloc (.loop { state := .ready,pending := none,fn := fn,tmps := tmps,params := ps,assign := assign,body := body,defers := w.heap.size })) := (lF w _ _).trans (lF _ _ (fun _ => False)) (fun _ h _ => h);refine ⟨w.heap.size + 1,w.heap.size,[PQ w.heap.size],_,fun b => b = w.heap.size,run_enterLoop_outer _ _ _ _ _,?_,by omega,by simp,hx,fun b hb => by subst hb;simp;omega,fun S' w' h1 h2 h3 => ⟨⟨w.heap.size :: D,by rw [hD1];rfl,?_,fun b hb => ?_⟩,fun q hq => by rw [hc] at hq;cases hq⟩⟩
    · have := World.alloc_heap_new (w.alloc (.deferred (some []))) (.loop { state := .ready,pending := none,fn := fn,tmps := tmps,params := ps,assign := assign,body := body,defers := w.heap.size })
      rwa [World.size_alloc] at this
    · rw [aL];exact ⟨fun hm => by have := hS _ (hD3 _ hm).1;omega,hD2⟩
    · rcases aR.1 hb with rfl | hb
      · refine ⟨h2 _ rfl,?_,hlo⟩;rw [h3 _ (.inr rfl)];exact (RowKit.Below.heap_alloc _ _ _ (by simp)).trans (World.alloc_heap_new w _)
      · obtain ⟨q1,q2,q3⟩ := hD3 b hb;exact ⟨h1 _ q1,by rw [h3 _ (.inl q1),hx.same b (hS b q1) (by simp)];exact q2,q3⟩
  | some q =>
    obtain ⟨hq1,r0,hq2⟩ := hr q hc;have hx : iZ (fun _ => False) w (w.alloc (.loop { state := .ready,pending := none,fn := fn,tmps := tmps,params := ps,assign := assign,body := body,defers := r0.defers })) := lF w _ _;have hrun : (Instr.enterLoop fn tmps ps assign body (some q)).run P w = .ok (w.heap.size,[]) (w.alloc (.loop { state := .ready,pending := none,fn := fn,tmps := tmps,params := ps,assign := assign,body := body,defers := r0.defers })) := by
      unfold Instr.enterLoop;simp only [Sem.run_bind,run_getLoop hq2,run_newObj_alloc,Result.andThen,Sem.run_pure]
    refine ⟨w.heap.size,r0.defers,[],_,fun _ => False,hrun,World.alloc_heap_new w _,aQ _,by simp,hx,fun b hb => hb.elim,fun S' w' h1 h2 h3 => ⟨⟨D,hD1,hD2,fun b hb => ?_⟩,fun q' hq' => ?_⟩⟩
    · obtain ⟨q1,q2,q3⟩ := hD3 b hb;exact ⟨h1 _ q1,by rw [h3 _ (.inl q1),hx.same b (hS b q1) (by simp)];exact q2,q3⟩
    · obtain ⟨g1,rec,g2⟩ := hr q' hq';exact ⟨h1 _ g1,rec,by rw [h3 _ (.inl g1),hx.same q' (hS q' g1) (by simp)];exact g2⟩
def JR (cA : mE) (l : Nat) (rec0 : Loop) (E : cJ) (HA : Nat → Hp) (Q : Exit → cJ → Hp → Prop) : JT := fun g W N w =>
  ∃ ρ S hh rec,HS cA ρ S hh w ∧ w.heap[l]? = some (.loop rec) ∧ ¬ S l ∧ (∀ (k : Nat) x p,hh[k]? = some x → x ≠ .gone → ρ k = some p → p.1 ≠ l) ∧ (∀ b,W b ↔ fQ hh ρ b ∨ b = l) ∧ (∀ b,N b ↔ fQ hh ρ b ∨ S b ∨ b = l ∨ ¬ cA.M b) ∧
    (g.2 = false → hh = HA g.1 ∧ rec = rec0) ∧ (g.2 = true → ∃ e cd,G7 e = some cd ∧ rec = { rec0 with state := .done,pending := some cd } ∧ Q e E hh)
section
variable {cA : mE} {l : Nat} {rec0 : Loop} {E : cJ} {HA : Nat → Hp} {Q : Exit → cJ → Hp → Prop}
theorem VT : NX (JR cA l rec0 E HA Q) := by
  refine ⟨fun {g W N w w'} j x => ?_,fun {g W N w} j b hb => ?_,fun {g W N w} j b hb => ?_⟩
  · obtain ⟨ρ,S,hh,rec,s,h1,h2,h3,h4,h5,h6⟩ := j;obtain ⟨s',_⟩ := s.world x (fun b hb h => h ((h5 b).2 (.inr (.inl hb)))) (fun k y p a1 a2 a3 h => h ((h5 _).2 (.inl ⟨k,y,p.2,a1,a2,a3⟩))) (fun b hb hn => Classical.byContradiction fun hM => hn ((h5 b).2 (.inr (.inr (.inr hM)))));exact ⟨ρ,S,hh,rec,s',by rw [x.same l (aK.1 h1).1 (fun h => h ((h5 l).2 (.inr (.inr (.inl rfl)))))];exact h1,h2,h3,h4,h5,h6⟩
  · obtain ⟨ρ,S,hh,rec,s,h1,h2,h3,h4,h5,h6⟩ := j;exact (h5 b).2 (((h4 b).1 hb).elim .inl fun h => .inr (.inr (.inl h)))
  · obtain ⟨ρ,S,hh,rec,s,h1,h2,h3,h4,h5,h6⟩ := j;rcases (h5 b).1 hb with ⟨k,x,o,_,_,hp⟩ | hb | rfl | hb
    · exact s.rng k _ hp
    · exact s.stab b hb
    · exact (aK.1 h1).1
    · apply Classical.byContradiction;intro hge;exact hb (cA.new b (by have := s.ext.size;omega))
def QR (m0 : Nat) (E : cJ) (HA : Nat → Hp) (Q : Exit → cJ → Hp → Prop) (k : Nat) : Exit → cJ → Hp → Prop
  | .normal,v,h => W9 m0 v h [] (HA (k + 1))
  | e,v,h => (∃ cd,G7 e = some cd) ∧ ∃ hx,W9 m0 v h [] hx ∧ Q e E hx
theorem AG {P : Program} {n1 m0 : Nat} {items : Nat → List AV} {N : Nat} {ps : List Nat} (hm : cA.m = m0) (hMl : cA.M l) (hS0l : ¬ cA.S0 l) (hS0 : ∀ b, cA.S0 b → b < cA.w0.heap.size ∧ ¬ cA.M b) (hst : rec0.state = .ready) (hpe : rec0.pending = none) (hps : rec0.params = ps.toArray)
    (hsz : rec0.tmps.size = n1) (hpl : ∀ t,t ∈ ps → t < n1) (hit : ∀ k,k < N → (items k).length = ps.length ∧ AV.idfL (items k) = true)
    (hE : ∀ t x,look E t = some x → R cA.S0 cA.w0 x cA.ρ0 (rec0.tmps.getD t undef)) (hlow : LK m0 E = true)
    (hround : ∀ k,k < N → AW P (n1,m0) rec0.assign (nR ps (items k) E) (HA k) (fun e v h => e = .normal ∧ AW P (n1,m0) rec0.body v h (QR m0 E HA Q k))) :
    K1 P l (JR cA l rec0 E HA Q) (fun b => cA.S0 b ∨ cA.M b) items N := by
  intro k hk W Nn w Sb vs j hSb hv;obtain ⟨ρ,S,hh,rec,s,hl,hSl,hll,hW,hN,hg,_⟩ := j;obtain ⟨rfl,rfl⟩ := hg rfl;dsimp only at s hll hW hN;have hlt : l < w.heap.size := (aK.1 hl).1;have hvl := dW hv;obtain ⟨hil,hiidf⟩ := hit k hk
  -- what no longer changes,in a round
  have hS2lt : ∀ b,(S b ∨ Sb b ∨ b = l) → b < w.heap.size := fun b hb => by
    rcases hb with hb | hb | rfl
    · exact s.stab b hb
    · obtain ⟨_,_,cc,e,h⟩ := hSb b hb;exact (aK.1 h).1
    · exact hlt
  have hlive : ∀ (q : Nat) y p,(HA k)[q]? = some y → y ≠ .gone → ρ q = some p → fQ (HA k) ρ p.1 := fun q y p a1 a2 a3 => ⟨q,y,p.2,a1,a2,a3⟩
  have hS2live : ∀ (q : Nat) y p,(HA k)[q]? = some y → y ≠ .gone → ρ q = some p → ¬ (S p.1 ∨ Sb p.1 ∨ p.1 = l) := fun q y p a1 a2 a3 hb => by
    rcases hb with hb | hb | hb
    · exact (s.live q y p a1 a2 a3).2 hb
    · exact (hSb _ hb).2.1 ((hW _).2 (.inl (hlive q y p a1 a2 a3)))
    · exact hll q y p a1 a2 a3 hb
  have s2 : HS cA ρ (fun b => S b ∨ Sb b ∨ b = l) (HA k) w := s.more (fun _ h => .inl h) hS2lt hS2live (fun b hb => by
    rcases hb with hb | hb | rfl
    · exact s.st1 b hb
    · exact (hSb b hb).1
    · exact .inr hMl)
  let cR : mE := { w0 := w,M := fun b => fQ (HA k) ρ b ∨ w.heap.size ≤ b,new := fun b hb => .inr hb,S0 := fun b => S b ∨ Sb b ∨ b = l,ρ0 := cA.ρ0,m := cA.m,lo := w.heap.size,lole := aQ _,r := some l }
  have sR : HS cR ρ (fun b => S b ∨ Sb b ∨ b = l) (HA k) w := s2.re cR (fun q y p a1 a2 a3 => .inl (hlive q y p a1 a2 a3)) (iZ.refl _ _) (fun _ h => h) (fun _ h => .inl h) s2.mle s2.keep;have hMnl : ¬ (fQ (HA k) ρ l ∨ w.heap.size ≤ l) := fun h => by
    rcases h with ⟨q,y,o,a1,a2,a3⟩ | h
    · exact hll q y _ a1 a2 a3 rfl
    · omega
  -- the frame
  have hE2 : ∀ t x,look E t = some x → R (fun b => S b ∨ Sb b ∨ b = l) w x ρ (rec.tmps.getD t undef) := fun t x hx => by
    have h1 := CI (ρ' := ρ) (m := m0) (fun q hq => s.keep q (by omega)) x _ (zG hlow hx) (hE t x hx)
    exact iU (fun b hb => .inl (s.st0 b hb)) (fun b hb => s.ext.same b (hS0 b hb).1 (hS0 b hb).2) x ρ ρ _ (fun _ _ h => h) (fun _ _ _ _ _ hr => s.ext.room hr) h1
  have hv2 : RL (fun b => S b ∨ Sb b ∨ b = l) w (items k) ρ vs := qN _ _ _ _ hiidf (iV (fun b hb => .inr (.inl hb)) (fun _ _ => rfl) _ _ _ _ (fun _ _ h => h) (fun _ _ _ _ _ h => h) hv);obtain ⟨hf1,hf2⟩ := BP ps (items k) vs E rec.tmps (fun t ht => by rw [hsz];exact hpl t ht) hv2 hE2 hil.symm
  have hfold : (rec.params.zip vs.toArray).foldl (fun tmps (x : Nat × Value) => tmps.setIfInBounds x.1 x.2) rec.tmps = (ps.zip vs).foldl (fun tm (p : Nat × Value) => tm.setIfInBounds p.1 p.2) rec.tmps := by
    rw [hps,← Array.foldl_toList];congr 1;simp
  refine ⟨rec.fn,_,rec.assign,rec.body,run_yield hl (by rw [hps];simp [hvl,hil]),?_⟩
  rw [show (rec.params.zip vs.toArray).foldl (fun tmps (x : Tmp × Value) => match x with | (t,a) => tmps.setIfInBounds t a) rec.tmps = (ps.zip vs).foldl (fun tm (p : Nat × Value) => tm.setIfInBounds p.1 p.2) rec.tmps from hfold]
  refine roundIn_of_wpIn (F := Fence.wide) trivial ?_;refine hround k hk cR ρ _ ⟨_,[]⟩ w _ ⟨by rw [hf1];exact hsz,⟨⟨[],rfl,bB,fun _ h => by cases h⟩,fun q hq => ?_⟩,hf2,sR,hm⟩ ?_
  · cases hq;exact ⟨.inr (.inr rfl),rec,hl⟩
  intro e env' h' ρ' S' a' w' hq s';obtain ⟨rfl,hbody⟩ := hq;have x1 : iZ cR.M w w' := s'.hs.ext;have hl1 : w'.heap[l]? = some (.loop rec) := by rw [x1.same l hlt hMnl];exact hl
  refine ⟨_,run_beginRound hl1 hst,?_⟩;generalize hb1 : ({ rec with state := .busy } : Loop) = recb
  -- the record is busy
  have hS'l : S' l := s'.hs.st0 l (.inr (.inr rfl))
  let cZ : mE := { w0 := w,M := fun b => (fQ (HA k) ρ b ∨ w.heap.size ≤ b) ∨ b = l,new := fun b hb => .inl (.inr hb),S0 := fun b => S b ∨ Sb b,ρ0 := cA.ρ0,m := cA.m,lo := w.heap.size,lole := aQ _,r := some l }
  have hZ0 : ¬ cZ.S0 l := fun h => by
    rcases h with h | h
    · exact hSl h
    · exact (hSb _ h).2.1 ((hW l).2 (.inr rfl))
  have hst1 : ∀ b,S' b → cZ.S0 b ∨ cZ.M b := fun b hb => by
    rcases s'.hs.st1 b hb with (h | h | h) | h
    · exact .inl (.inl h)
    · exact .inl (.inr h)
    · exact .inr (.inr h)
    · exact .inr (.inl h)
  have sZ : HS cZ ρ' S' h' w' := s'.hs.re cZ (fun q y p a1 a2 a3 => .inl (s'.hs.live q y p a1 a2 a3).1) (x1.mono fun b _ hb => .inl hb) (fun b hb => s'.hs.st0 b (by rcases hb with hb | hb;exact .inl hb;exact .inr (.inl hb))) hst1 s'.hs.mle s'.hs.keep
  obtain ⟨sP,hP⟩ := sZ.put hl1 (fun _ _ _ e => by cases e) rfl (.loop recb) (fun _ => .inr rfl) hZ0
  have hsz2 : w.heap.size ≤ (w'.putObj l (.loop recb)).heap.size := by rw [World.putObj_size];exact x1.size
  let cB : mE := { w0 := w'.putObj l (.loop recb),M := fun b => fQ (HA k) ρ b ∨ w.heap.size ≤ b,new := fun b hb => .inr (cC hsz2 hb),S0 := S',ρ0 := cA.ρ0,m := cA.m,lo := w.heap.size,lole := hsz2,r := some l }
  have sM : HS cZ ρ' S' h' (w'.putObj l (.loop recb)) := sP.more (fun b hb => hb.1) (fun b hb => by rw [World.putObj_size];exact s'.hs.stab b hb) (fun q y p a1 a2 a3 => (s'.hs.live q y p a1 a2 a3).2) hst1
  have sB : HS cB ρ' S' h' (w'.putObj l (.loop recb)) := sM.re cB (fun q y p a1 a2 a3 => (s'.hs.live q y p a1 a2 a3).1) (iZ.refl _ _) (fun _ h => h) (fun _ h => .inl h) s'.hs.mle s'.hs.keep;have hl2 : (w'.putObj l (.loop recb)).heap[l]? = some (.loop recb) := World.putObj_heap_same (aK.1 hl1).1;have hmarks : oI cB S' a'.defers (w'.putObj l (.loop recb)) := by
    obtain ⟨⟨D,d1,d2,d3⟩,_⟩ := s'.defers;refine ⟨⟨D,d1,d2,fun b hb => ?_⟩,fun q hq => ?_⟩
    · obtain ⟨q1,q2,q3⟩ := d3 b hb;exact ⟨q1,by rw [mM (fun e => by rw [e,hl1] at q2;cases q2)];exact q2,q3⟩
    · cases hq;exact ⟨hS'l,recb,hl2⟩
  refine hbody cB ρ' S' a' _ _ ⟨s'.size,hmarks,fun t x hx => XX (fun b hb => hb.1) (hP _ _ (s'.env t x hx)),sB,hm⟩ ?_;intro e env3 h3 ρ3 S3 a3 w3 hq3 s3;have x2 : iZ (fun b => b = l) w' (w'.putObj l (.loop recb)) := V0 hl1 (fun _ _ _ e => by cases e)
  have x3 : iZ cB.M (w'.putObj l (.loop recb)) w3 := s3.hs.ext;have hl3 : w3.heap[l]? = some (.loop recb) := by rw [x3.same l (aK.1 hl2).1 hMnl];exact hl2
  have x13 : iZ cZ.M w w3 := ((x1.mono fun b _ hb => .inl hb).trans (x2.mono fun b _ hb => .inr hb) (fun _ h _ => h)).trans (x3.mono fun b _ hb => .inl hb) (fun _ h _ => h)
  -- the round's end,whichever way
  have fin : ∀ (jump : Option Code) (hx : Hp),W9 m0 env3 h3 [] hx → ((jump = none ∧ hx = HA (k + 1)) ∨ ∃ e cd,G7 e = some cd ∧ jump = some cd ∧ Q e E hx) →
      ∃ v w4,(Instr.endRound l jump).run P w3 = .ok v w4 ∧ ∃ (b : Bool) (W' N' : Nat → Prop),Ending.returned v = .returned (.bool b) ∧ JR cA l rec E HA Q (k + 1,!b) W' N' w4 ∧ iZ W w w4 ∧ (∀ x,W' x → W x ∨ w.heap.size ≤ x) ∧ (∀ x,N' x → Nn x ∨ Sb x ∨ w.heap.size ≤ x) := by
    intro jump hx hsub hj;obtain ⟨L,q1,_,q3,q4,q5⟩ := hsub;have s4 : HS cB (fun k => ρ3 (th L h3.length k)) S3 hx w3 := s3.hs.sub q1 q3 q4 (fun i hi => q5 i (by have hi : i < cA.m := hi;omega))
    have st3 : ∀ b,S3 b → cZ.S0 b ∨ cZ.M b := fun b hb => by
      rcases s3.hs.st1 b hb with h | h
      · exact hst1 b h
      · exact .inr (.inl h)
    have s5 : HS cZ (fun k => ρ3 (th L h3.length k)) S3 hx w3 := s4.re cZ (fun q y p a1 a2 a3 => .inl (s4.live q y p a1 a2 a3).1) x13 (fun b hb => s3.hs.st0 b (s'.hs.st0 b (by rcases hb with hb | hb;exact .inl hb;exact .inr (.inl hb)))) st3 s4.mle s4.keep
    obtain ⟨s6,_⟩ := s5.put hl3 (fun _ _ _ e => by cases e) rfl (.loop { recb with state := if jump.isNone then .ready else .done,pending := jump }) (fun _ => .inr rfl) hZ0
    have hZA : ∀ b,cZ.M b → cA.M b := fun b hb => by
      rcases hb with (⟨q,y,o,a1,a2,a3⟩ | hb) | rfl
      · exact (s.live q y _ a1 a2 a3).1
      · exact cA.new b (cC s.ext.size hb)
      · exact hMl
    have s7 := s6.re cA (fun q y p a1 a2 a3 => hZA _ (s6.live q y p a1 a2 a3).1) (s.ext.trans s6.ext fun b hb _ => hZA b hb) (fun b hb => ⟨s3.hs.st0 b (s'.hs.st0 b (.inl (s.st0 b hb))),fun e => hS0l (e ▸ hb)⟩) (fun b hb => by
      rcases st3 b hb.1 with (h | h) | h
      · exact s.st1 b h
      · exact (hSb b h).1
      · exact .inr (hZA b h)) s6.mle s6.keep
    have hZW : ∀ b,cZ.M b → W b ∨ w.heap.size ≤ b := fun b hb => by
      rcases hb with (hb | hb) | rfl
      · exact .inl ((hW b).2 (.inl hb))
      · exact .inr hb
      · exact .inl ((hW _).2 (.inr rfl))
    have hWN : ∀ b,W b → Nn b := fun b hb => (hN b).2 (((hW b).1 hb).elim .inl fun h => .inr (.inr (.inl h)));have hS3l : S3 l := s3.hs.st0 l hS'l;refine ⟨_,_,run_endRound jump hl3,jump.isNone,fun b => fQ hx (fun k => ρ3 (th L h3.length k)) b ∨ b = l,fun b => fQ hx (fun k => ρ3 (th L h3.length k)) b ∨ (S3 b ∧ b ≠ l) ∨ b = l ∨ ¬ cA.M b,rfl,?_,?_,fun b hb => ?_,fun b hb => ?_⟩
    · refine ⟨_,_,hx,_,s7,World.putObj_heap_same (aK.1 hl3).1,fun h => h.2 rfl,fun q y p a1 a2 a3 e => (s4.live q y p a1 a2 a3).2 (e ▸ hS3l),fun b => Iff.rfl,fun b => Iff.rfl,fun h => ?_,fun h => ?_⟩
      · rcases hj with ⟨rfl,rfl⟩ | ⟨e,cd,_,rfl,_⟩
        · refine ⟨rfl,?_⟩;rw [← hb1];cases rec;simp only at hst hpe;subst hst hpe;rfl
        · cases h
      · rcases hj with ⟨rfl,rfl⟩ | ⟨e,cd,he,rfl,hq⟩
        · cases h
        · exact ⟨e,cd,he,by rw [← hb1];rfl,hq⟩
    · exact s6.ext.mono fun b hb hm => by
        rcases hZW b hm with h | h
        · exact h
        · have hb : b < w.heap.size := hb;omega
    · rcases hb with ⟨q,y,o,a1,a2,a3⟩ | rfl
      · exact hZW _ (s6.live q y _ a1 a2 a3).1
      · exact .inl ((hW _).2 (.inr rfl))
    · rcases hb with ⟨q,y,o,a1,a2,a3⟩ | hb | rfl | hb
      · exact (hZW _ (s6.live q y _ a1 a2 a3).1).elim (fun h => .inl (hWN _ h)) fun h => .inr (.inr h)
      · rcases st3 b hb.1 with (h | h) | h
        · exact .inl ((hN b).2 (.inr (.inl h)))
        · exact .inr (.inl h)
        · exact (hZW _ h).elim (fun h => .inl (hWN _ h)) fun h => .inr (.inr h)
      · exact .inl ((hN _).2 (.inr (.inr (.inl rfl))))
      · exact .inl ((hN b).2 (.inr (.inr (.inr hb))))
  cases e with
  | normal => exact fin none _ hq3 (.inl ⟨rfl,rfl⟩)
  | ret =>
    obtain ⟨_,hx,hs,hq⟩ := hq3;exact fin (some .ret) hx hs (.inr ⟨.ret,.ret,rfl,rfl,hq⟩)
  | exit id =>
    obtain ⟨_,hx,hs,hq⟩ := hq3;exact fin (some (.exit id)) hx hs (.inr ⟨.exit id,.exit id,rfl,rfl,hq⟩)
  | goto t =>
    obtain ⟨_,hx,hs,hq⟩ := hq3;exact fin (some (.goto t)) hx hs (.inr ⟨.goto t,.goto t,rfl,rfl,hq⟩)
  | panic ch =>
    obtain ⟨⟨cd,hcd⟩,_⟩ := hq3;cases hcd
  | outgrown =>
    obtain ⟨⟨cd,hcd⟩,_⟩ := hq3;cases hcd
end
theorem pN.live {θ : Nat → Nat} {h h' : Hp} {ρ : Pl} (hs : pN θ h 0 h') {k : Nat} {x : AB} {p : Nat × Nat} (hx : h'[k]? = some x) (hg : x ≠ .gone) (hp : ρ (θ k) = some p) : ∃ y,h[θ k]? = some y ∧ y ≠ .gone := by
  have := hs.get k x hx;rw [Nat.zero_add] at this;exact ⟨_,this.resolve_left hg,by cases x <;> simp [AB.map] at *⟩
theorem JM {L : List Nat} {N k : Nat} (hk : k < L.length) : th L N k ∈ L := by
  unfold th;rw [aB hk];exact aI hk
theorem PU {P : Program} {r : Option Nat} {Q : Exit → Act → World → Prop} {a : Act} {w : World} {e : Exit} {cd : Code} (h : G7 e = some cd) (hq : Q e a w) : cd.wpIn (rd r) 0 P Q a w := by
  cases e <;> simp [G7] at h <;> subst h
  · exact wpIn_exit hq
  · exact wpIn_goto hq
  · exact wpIn_ret hq
theorem CC {P : Program} {n : Nat × Nat} {env : cJ} {h : Hp} {Q : Exit → cJ → Hp → Prop} {g : Operand} {ps : List Nat} {assign body : Code} {f : FuncId} {fs cs fs' cs' : List AV} {hit : Hp} {items : Nat → List AV} {N : Nat}
    (LI LA : List Nat) (E : cJ) (HA : Nat → Hp) (m0 : Nat) (hx : evu env g = some (.clo (.func f) fs cs)) (hI : B8 P f fs' cs' hit items N)
    (hfs : AV.mapL (th LI h.length) fs' = fs) (hcs : AV.mapL (th LI h.length) cs' = cs) (hLI : LI.length = hit.length) (hHI : pN (th LI h.length) h 0 hit) (hIn : LI.Nodup)
    (hLA : LA.length = (HA 0).length) (hEA : EX (th LA h.length) env E) (hHA : pN (th LA h.length) h 0 (HA 0)) (hAn : LA.Nodup) (hAk : ∀ i,i < n.2 → LA[i]? = some i) (hdis : ∀ x,x ∈ LI → x ∉ LA) (hn2 : n.2 ≤ m0) (hm0 : m0 ≤ (HA 0).length)
    (hlow : LK m0 E = true) (hpl : ∀ t,t ∈ ps → t < n.1) (hit' : ∀ k,k < N → (items k).length = ps.length ∧ AV.idfL (items k) = true)
    (hround : ∀ k,k < N → AW P (n.1,m0) assign (nR ps (items k) E) (HA k) (fun e v h => e = .normal ∧ AW P (n.1,m0) body v h (QR m0 E HA Q k)))
    (hafter : Q .normal E (HA N)) : AW P n (.rangeFunc g ps.toArray assign body) env h Q := by
  intro c ρ S a w QQ s hQ;have p := s.pre;refine wpIn_rangeFunc fun fn _ => ?_
  have hlo : c.lo ≤ w.heap.size := cC c.lole s.hs.ext.size;obtain ⟨l,bd,mk,w1,T,henter,hl1,hlw,hll1,x01,hT,hmk⟩ := EL (P := P) s.defers s.hs.stab hlo fn a.tmps ps.toArray assign body
  -- the function's value
  have hxv := p.evu hx;simp only [R] at hxv;obtain ⟨ys,zs,e1,hy1,hz1⟩ := hxv
  let ρA : Pl := fun k => ρ (th LA h.length k)
  let ρI : Pl := fun k => ρ (th LI h.length k)
  have hMnew : ∀ b,w1.heap.size ≤ b → fQ h ρ b ∨ (w.heap.size ≤ b ∧ ¬ T b) := fun b hb => .inr ⟨cC x01.size hb,fun ht => by have := (hT b ht).2.2;omega⟩
  let cA : mE := { w0 := w1,M := fun b => fQ h ρ b ∨ (w.heap.size ≤ b ∧ ¬ T b),new := hMnew,S0 := fun b => S b ∨ T b,ρ0 := ρA,m := m0,lo := c.lo,lole := cC hlo x01.size,r := some l }
  have hlnT : ¬ T l := fun ht => (hT l ht).2.1 rfl;have hlnS : ∀ b,S b → b ≠ l := fun b hb e => by have := s.hs.stab b hb;omega
  -- the caller's objects,aZ the rounds keep them
  have hsA0 : HS c ρA S (HA 0) w := s.hs.sub hLA hHA hAn (fun i hi => hAk i (s.cm ▸ hi));obtain ⟨hsA1,later1⟩ := hsA0.world x01 (fun _ _ h => h) (fun _ _ _ _ _ _ h => h) (fun _ _ h => h.elim);have liveA : ∀ (k : Nat) x q,(HA 0)[k]? = some x → x ≠ .gone → ρA k = some q → fQ h ρ q.1 := fun k x q a1 a2 a3 => by
    obtain ⟨y,b1,b2⟩ := hHA.live (ρ := ρ) a1 a2 a3;exact ⟨_,y,q.2,b1,b2,a3⟩
  have liveI : ∀ (k : Nat) x q,hit[k]? = some x → x ≠ .gone → ρI k = some q → fQ h ρ q.1 := fun k x q a1 a2 a3 => by
    obtain ⟨y,b1,b2⟩ := hHI.live (ρ := ρ) a1 a2 a3;exact ⟨_,y,q.2,b1,b2,a3⟩
  have liveLt : ∀ b,fQ h ρ b → b < w.heap.size := fun b ⟨k,x,o,_,_,hp⟩ => s.hs.rng k _ hp
  have liveS : ∀ b,fQ h ρ b → ¬ S b := fun b ⟨k,x,o,a1,a2,a3⟩ => (s.hs.live k x _ a1 a2 a3).2
  have hsA2 : HS c ρA (fun b => S b ∨ T b) (HA 0) w1 := hsA1.more (fun _ h => .inl h) (fun b hb => by
    rcases hb with hb | hb
    · exact hsA1.stab b hb
    · exact (hT b hb).2.2) (fun k x q a1 a2 a3 hb => by
    have h1 := liveA k x q a1 a2 a3;rcases hb with hb | hb
    · exact liveS _ h1 hb
    · have := (hT _ hb).1;have := liveLt _ h1;omega) (fun b hb => by
    rcases hb with hb | hb
    · exact s.hs.st1 b hb
    · exact .inr (c.new b (cC s.hs.ext.size (hT b hb).1)))
  have hsA : HS cA ρA (fun b => S b ∨ T b) (HA 0) w1 := hsA2.re cA (fun k x q a1 a2 a3 => .inl (liveA k x q a1 a2 a3)) (iZ.refl _ _) (fun _ h => h) (fun _ h => .inl h) hm0 (fun _ _ => rfl)
  -- the record
  obtain ⟨rec0,hrec⟩ : ∃ rec0 : Loop,rec0 = { state := .ready,pending := none,fn := fn,tmps := a.tmps,params := ps.toArray,assign := assign,body := body,defers := bd } := ⟨_,rfl⟩;rw [← hrec] at hl1;have hSA : ∀ b,(S b ∨ T b) → b < w1.heap.size ∧ ¬ (fQ h ρ b ∨ (w.heap.size ≤ b ∧ ¬ T b)) := fun b hb => by
    rcases hb with hb | hb
    · refine ⟨bP (s.hs.stab b hb) x01.size,fun hm => ?_⟩
      rcases hm with hm | hm
      · exact liveS b hm hb
      · have := s.hs.stab b hb;omega
    · refine ⟨(hT b hb).2.2,fun hm => ?_⟩
      rcases hm with hm | hm
      · have := liveLt b hm;have := (hT b hb).1;omega
      · exact hm.2 hb
  have hMl : cA.M l := .inr ⟨hlw,hlnT⟩;have hS0l : ¬ cA.S0 l := fun h => by
    rcases h with h | h
    · exact hlnS l h rfl
    · exact hlnT h
  have henvE : ∀ t x,look E t = some x → R (fun b => S b ∨ T b) w1 x ρA (a.tmps.getD t undef) := fun t x hx => by
    have h1 := B4 _ ρ _ _ (s.env t _ (hEA.look t x hx));exact XX (fun _ h => .inl h) (h1.later later1)
  have hyield : K1 P l (JR cA l rec0 E HA Q) (fun b => cA.S0 b ∨ cA.M b) items N := by
    refine AG (cA := cA) (n1 := n.1) (m0 := m0) (ps := ps) rfl hMl hS0l hSA (by rw [hrec]) (by rw [hrec]) (by rw [hrec]) (by rw [hrec];exact s.size) hpl hit' (fun t x hx => by rw [hrec];exact henvE t x hx) hlow (fun k hk => by rw [hrec];exact hround k hk)
  have hJok : NX (JR cA l rec0 E HA Q) := VT
  let W0 : Nat → Prop := fun b => fQ (HA 0) ρA b ∨ b = l
  let N0 : Nat → Prop := fun b => fQ (HA 0) ρA b ∨ (S b ∨ T b) ∨ b = l ∨ ¬ cA.M b
  have hJ0 : JR cA l rec0 E HA Q (0,false) W0 N0 w1 := ⟨ρA,_,HA 0,rec0,hsA,hl1,hS0l,fun k x q a1 a2 a3 e => by have := liveLt _ (liveA k x q a1 a2 a3);omega,fun b => Iff.rfl,fun b => Iff.rfl,fun _ => ⟨rfl,rfl⟩,fun h => by cases h⟩
  -- the iterator's call
  have hAnew : ∀ b,w1.heap.size ≤ b → cA.S0 b ∨ cA.M b := fun b hb => .inr (hMnew b hb)
  let c0 : mE := { w0 := w,M := fun b => fQ h ρ b ∨ w.heap.size ≤ b,new := fun b hb => .inr hb,S0 := S,ρ0 := fun _ => none,m := 0,lo := w.heap.size,lole := aQ _,r := none }
  have hs0 : HS c0 ρ S h w := s.hs.re c0 (fun k x q a1 a2 a3 => .inl ⟨k,x,q.2,a1,a2,a3⟩) (iZ.refl _ _) (fun _ h => h) (fun _ h => .inl h) (bM _) (fun k hk => absurd hk (gI _));have hsI0 : HS c0 ρI S hit w := hs0.sub hLI hHI hIn (WQ);obtain ⟨hsI1,_⟩ := hsI0.world x01 (fun _ _ h => h) (fun _ _ _ _ _ _ h => h) (fun _ _ h => h.elim);have hsI : HS (QI w1 ρI S hit (fun b => cA.S0 b ∨ cA.M b) hAnew) ρI S hit w1 := hsI1.re _ (fun k x q a1 a2 a3 => .inr (.inl (liveI k x q a1 a2 a3))) (iZ.refl _ _) (fun _ h => h) (fun _ h => .inl h) (aQ _) (fun _ _ => rfl);have hargs : RL S w1 (fs' ++ [.clo (.yield l) [] []] ++ cs') ρI (ys.toList ++ [Value.func (.yield l) #[] #[]] ++ zs.toList) := by
    have lI : fN ρI ρI S S w w1 := ⟨fun _ _ h => h,fun _ h => h,fun b hb => x01.same b (s.hs.stab b hb) (fun h => h),fun _ _ _ _ _ hr => x01.room hr⟩
    rw [← hfs] at hy1;rw [← hcs] at hz1;exact eA (eA ((lQ _ ρ _ _ hy1).later lI) (by simp only [RL];exact ⟨_,_,rfl,by simp only [R,RL];exact ⟨#[],#[],rfl,rfl,rfl⟩,rfl⟩)) ((lQ _ ρ _ _ hz1).later lI)
  have hcall := hI.2 _ _ l hJok hyield ρI S w1 _ W0 N0 hAnew hsI hargs hJ0 (fun k x q a1 a2 a3 hn => by
    have hlv := liveI k x q a1 a2 a3;rcases hn with ⟨k',x',o',b1,b2,b3⟩ | hn | hn | hn
    · obtain ⟨y,d1,d2⟩ := hHI.live (ρ := ρ) a1 a2 a3;obtain ⟨y',d3,d4⟩ := hHA.live (ρ := ρ) b1 b2 b3;have he := s.hs.inj _ _ _ _ _ _ d1 d3 d2 d4 a3 b3 rfl;have hkI : k < LI.length := by rw [hLI];exact (aA.1 a1).1
      have hkA : k' < LA.length := by rw [hLA];exact (aA.1 b1).1
      exact hdis _ (JM (N := h.length) hkI) (he ▸ JM (N := h.length) hkA)
    · rcases hn with hn | hn
      · exact liveS _ hlv hn
      · have := (hT _ hn).1;have := liveLt _ hlv;omega
    · have := liveLt _ hlv;omega
    · exact hn (.inl hlv)) (fun b hb => ⟨.inl (.inl hb),fun hw => by
    rcases hw with ⟨k',x',o',b1,b2,b3⟩ | hw
    · exact liveS b (liveA k' x' (b,o') b1 b2 b3) hb
    · exact hlnS b hb hw⟩) (fun b hw => by
    rcases hw with ⟨k',x',o',b1,b2,b3⟩ | rfl
    · exact .inr (.inl (liveA k' x' (b,o') b1 b2 b3))
    · exact .inr hMl)
  have hrun := lT (P := P) (f := f) (args := (ys.toList ++ [Value.func (.yield l) #[] #[]] ++ zs.toList).toArray) (w := w1) hI.1;refine ⟨l,mk,w1,{ target := .fn (.func f) zs,args := ys ++ #[Value.func (.yield l) #[] #[]] },w1,f,(ys.toList ++ [Value.func (.yield l) #[] #[]] ++ zs.toList).toArray,w1,henter,?_,fun _ _ => trivial,?_,(fun h => (by cases h)),?_⟩
  · simp only [resolve];rw [e1];simp [Deferred.ofValue,Act.eval]
  · have e2 : (ys ++ #[Value.func (.yield l) #[] #[]] ++ zs : Array Value) = (ys.toList ++ [Value.func (.yield l) #[] #[]] ++ zs.toList).toArray := by
      apply Array.ext';simp
    simp only [invoke];rw [e2];exact hrun
  refine (AI (r := c.r) (n := 0 - 1) hcall).mono ?_;rintro e w5 ⟨y,g',W5,N5,rfl,⟨ρ5,S5,hh,rec5,s5,hl5,hSl5,hll5,hW5,hN5,hg1,hg2⟩,hgN⟩
  -- fX the loop
  have hbusy : rec5.state ≠ .busy := by
    cases hb : g'.2 with
    | false => rw [(hg1 hb).2,hrec];simp
    | true =>
      obtain ⟨e,cd,_,hr,_⟩ := hg2 hb;rw [hr];simp
  refine ⟨_,_,run_endLoop hl5 hbusy,?_⟩;obtain ⟨s6,hr6⟩ := s5.put hl5 (fun _ _ _ e => by cases e) rfl (.loop { rec5 with state := .exhausted }) (fun _ => hMl) hS0l
  have hAc : ∀ b,cA.M b → c.M b := fun b hb => by
    rcases hb with ⟨k,x,o,a1,a2,a3⟩ | hb
    · exact (s.hs.live k x _ a1 a2 a3).1
    · exact c.new b (cC s.hs.ext.size hb.1)
  have s7 : HS c ρ5 (fun b => S5 b ∧ b ≠ l) hh (w5.putObj l (.loop { rec5 with state := .exhausted })) := s6.re c (fun k x q a1 a2 a3 => hAc _ (s6.live k x q a1 a2 a3).1) (s.hs.ext.trans (((x01.mono (N := cA.M) fun _ _ h => h.elim)).trans s6.ext (fun _ h _ => h)) fun b hb _ => hAc b hb) (fun b hb => ⟨s5.st0 b (.inl (s.hs.st0 b hb)),hlnS b (s.hs.st0 b hb)⟩) (fun b hb => by
    rcases s5.st1 b hb.1 with (h | h) | h
    · exact s.hs.st1 b h
    · exact .inr (c.new b (cC s.hs.ext.size (hT b h).1))
    · exact .inr (hAc b h)) (cC (by rw [s.cm];exact hn2) s5.mle) (fun k hk => by
    have hk2 : k < n.2 := s.cm ▸ hk;have h1 := s5.keep k (bP hk2 hn2);rw [h1];show ρ (th LA h.length k) = _;have : th LA h.length k = k := by unfold th;rw [hAk k hk2]
    rw [this];exact s.hs.keep k hk)
  have hsame : ∀ b,(S b ∨ T b) → (w5.putObj l (.loop { rec5 with state := .exhausted })).heap[b]? = w1.heap[b]? := fun b hb => s6.ext.same b (hSA b hb).1 (hSA b hb).2;have s8 : lM n c ρ5 (fun b => S5 b ∧ b ≠ l) E hh { a with defers := mk ++ a.defers } (w5.putObj l (.loop { rec5 with state := .exhausted })) := by
    refine ⟨s.size,hmk _ _ (fun b hb => ⟨s5.st0 b (.inl hb),hlnS b hb⟩) (fun b hb => ⟨s5.st0 b (.inr hb),(hT b hb).2.1⟩) hsame,fun t x hx => ?_,s7,s.cm⟩
    have h1 := CI (ρ' := ρ5) (m := m0) (fun q hq => s5.keep q hq) x _ (zG hlow hx) (henvE t x hx);exact iU (fun b hb => ⟨s5.st0 b hb,fun e => hS0l (e ▸ hb)⟩) hsame x ρ5 ρ5 _ (fun _ _ h => h) (fun _ _ _ _ _ hr => s6.ext.room hr) h1
  generalize w5.putObj l (.loop { rec5 with state := .exhausted }) = w6 at s8 ⊢;cases hb : g'.2 with
  | false =>
    obtain ⟨rfl,hr5⟩ := hg1 hb;rw [hgN hb] at s8;have : rec5.pending = none := by rw [hr5,hrec]
    rw [this];exact hQ .normal E (HA N) ρ5 _ _ _ hafter s8
  | true =>
    obtain ⟨e,cd,he,hr,hq⟩ := hg2 hb;have : rec5.pending = some cd := by rw [hr]
    rw [this];exact PU he (hQ e E hh ρ5 _ _ _ hq s8)
end Go.Ab
namespace Go.Ab
open Go
set_option maxHeartbeats 1000000
section
variable {cA : mE} {l : Nat} {rec0 : Loop} {E : cJ} {HA : Nat → Hp} {GO : Nat → Nat × Bool} {J : JT} {A : Nat → Prop} {Q : Nat × Bool → Exit → cJ → Hp → Prop}
theorem UP.later {g : Nat × Bool} {c c' : mE} {ρ ρ' : Pl} {S S' W N N' : Nat → Prop} {h h' : Hp} {w w' : World} (hJ : NX J) (j : UP J A g c ρ S h w W N) (x : iZ (fun b => ¬ N' b) w w') (hN : ∀ b, N b → N' b)
    (hl : ∀ (k : Nat) x p,h'[k]? = some x → x ≠ .gone → ρ' k = some p → ¬ N p.1) (hst : ∀ b,S' b → ¬ W b) (hc : ∀ b,S' b → c'.lo ≤ b → N b → zJ w b) (hwm : ∀ b,W b → c'.M b) (haS : ∀ b,S' b → A b) (haM : ∀ b,c'.M b → A b) (hnn : ∀ b,N b → c'.nb b ∨ c'.S0 b ∨ c'.M b) : UP J A g c' ρ' S' h' w' W N := by
  refine ⟨hJ.st j.j (x.mono fun b _ hb h => hb (hN b h)),hl,hst,fun b hb h1 h2 => ?_,hwm,haS,haM,hnn⟩
  obtain ⟨cc,e,h4⟩ := hc b hb h1 h2;exact ⟨cc,e,by rw [x.same b (hJ.lt j.j b h2) (fun h => h (hN b h2))];exact h4⟩
end
def xQ (l : List Oper) (pres : List (List Nat)) (k : Nat) : Bool :=
  pE l.toArray pres && Nat.ble k l.length && (List.range l.length).all fun i => match Nat.blt i k with
    | true => match l[i]? with
      | some o => match o.guard with
        | some (j,_) => Nat.blt j k
        | none => true
      | none => true
    | false => (List.range i).all fun j => (pres.getD i []).any (Nat.beq j)
section
variable {P : Program} {r : Option Nat} {Q Q1 : Exit → Act → World → Prop} {l : List Oper} {pres : List (List Nat)} {k : Nat}
theorem vZ (h : xQ l pres k = true) : pE l.toArray pres = true ∧ k ≤ l.length ∧ (∀ i,i < k → ∀ o j b,l[i]? = some o → o.guard = some (j,b) → j < k) ∧ ∀ i,k ≤ i → i < l.length → ∀ j,j < i → j ∈ pres.getD i [] := by
  unfold xQ at h;simp only [aM] at h;obtain ⟨⟨h1,h2⟩,h3⟩ := h;have h2 := aU h2;rw [aT] at h3;refine ⟨h1,h2,fun i hi o j b ho hg => ?_,fun i hi hl j hj => ?_⟩
  · have := h3 i (jZ.2 (by omega))
    rw [show Nat.blt i k = true from Nat.ble_eq_true_of_le hi] at this
    simp only [ho,hg] at this;exact aU this
  · have := h3 i (jZ.2 hl);have hb : Nat.blt i k = false := by
      rw [← cV];intro hb;have := aU hb;omega
    rw [hb] at this;simp only [aT] at this;have := this j (jZ.2 hj);rw [jR] at this;obtain ⟨x,hx,hxe⟩ := this;rw [aP hxe];exact hx
theorem F9 (hok : pE l.toArray pres = true) {listed : Array Bool} (hcl : ∀ (i : Nat) o,l.toArray[i]? = some o → listed.getD i false = true → ∀ e,e ∈ o.after → Region.binds .any e = true → listed.getD e.on false = true) :
    ∀ (i : Nat) o,l.toArray[i]? = some o → (∀ e,e ∈ o.after → Region.binds .any e = true → listed.getD e.on false = true) → ∀ j,j ∈ pres.getD i [] → listed.getD j false = true := by
  intro i
  induction i using Nat.strongRecOn with
  | _ i ih =>
    intro o ho hall j hj;have hlt : i < l.toArray.size := (aK.1 ho).1;have h := aT.1 hok i (by simpa using hlt)
    rw [ho] at h;simp only [aM] at h;have h2 := h.2;cases hp : pres[i]? with
    | none => rw [aD,hp] at hj;simp at hj
    | some pre =>
      rw [aD,hp] at hj;rw [hp] at h2;simp only [aT,aM,decide_eq_true_eq] at h2;obtain ⟨h3,h4⟩ := h2 j hj;rw [jR] at h4;obtain ⟨e,he,h5⟩ := h4;rw [aM,nE] at h5;obtain ⟨hb,h6⟩ := h5;have he' : e ∈ o.after := by simpa using he
      have hel := hall e he' hb;rcases h6 with h6 | h6
      · rw [← aP h6];exact hel
      · rw [jR] at h6;obtain ⟨x,hx,hxe⟩ := h6;rw [aP hxe];have hei := iS hok ho e he' hb;exact ih e.on hei _ (bW (by omega)) (fun e2 he2 hb2 => hcl e.on _ (bW (by omega)) hel e2 he2 hb2) x hx
theorem OQ (hc : xQ l pres k = true) : ∀ (m k' fuel : Nat) (listed : Array Bool) (a : Act) (w : World),k' + m = l.length → k ≤ k' → m ≤ fuel → listed.size = l.length → (∀ j,j < l.length → listed.getD j false = decide (j < k')) →
    wpListIn (rd r) 0 P l.toArray Q (l.drop k') a w → wpAnyIn (rd r) 0 P .any l.toArray Q fuel listed a w := by
  obtain ⟨hok,hkl,_,hpre⟩ := vZ hc;intro m
  induction m with
  | zero =>
    intro k' fuel listed a w hk hkk hf hsz hl h;rw [dJ (by omega)] at h
    have hre : Region.ready .any l.toArray listed = [] := by
      rw [sX];intro i hi;obtain ⟨h1,o,ho,_⟩ := mem_ready.1 hi;have hil : i < l.length := by have := (aK.1 ho).1;simpa using this
      have e : listed.getD i true = listed.getD i false := by simp [Array.getD,hsz,hil]
      rw [e,hl i hil] at h1;have : ¬ i < k' := by simpa using h1
      omega
    cases fuel with
    | zero => exact ⟨hre,h⟩
    | succ f => exact ⟨fun _ => h,fun i hi => by rw [hre] at hi;cases hi⟩
  | succ m ih =>
    intro k' fuel listed a w hk hkk hf hsz hl h;obtain ⟨f,rfl⟩ : ∃ f,fuel = f + 1 := ⟨fuel - 1,by omega⟩
    have hlt : k' < l.length := by omega
    have ho : l.toArray[k']? = some l[k'] := by simp [aB hlt]
    have hin : k' ∈ Region.ready .any l.toArray listed := mem_ready.2 ⟨by
      have e : listed.getD k' true = listed.getD k' false := by simp [Array.getD,hsz,hlt]
      rw [e,hl k' hlt];simp,l[k'],ho,fun e he hb => by
      have := iS hok ho e he hb
      rw [hl e.on (by omega)];simpa using this⟩
    refine ⟨(fun hr => by rw [hr] at hin;cases hin),fun i hi => ?_⟩
    obtain ⟨h1,o,hoi,hall⟩ := mem_ready.1 hi;have hil : i < l.length := by have := (aK.1 hoi).1;simpa using this
    have hcl : ∀ (i : Nat) o,l.toArray[i]? = some o → listed.getD i false = true → ∀ e,e ∈ o.after → Region.binds .any e = true → listed.getD e.on false = true := fun i o ho hi e he hb => by
      have hil : i < l.length := by have := (aK.1 ho).1;simpa using this
      have := iS hok ho e he hb;rw [hl i hil] at hi;have : i < k' := by simpa using hi
      rw [hl e.on (by omega)];simp;omega
    have hik : i = k' := by
      have e : listed.getD i true = listed.getD i false := by simp [Array.getD,hsz,hil]
      rw [e,hl i hil] at h1;have h2 : ¬ i < k' := by simpa using h1
      rcases fJ k' i with h3 | h3
      · have := F9 hok hcl i o hoi hall k' (hpre i (by omega) hil k' h3)
        rw [hl k' hlt] at this;simp at this
      · omega
    subst hik;rw [aS hlt] at h;unfold wpListIn at h;unfold wpOpIn;rw [ho];have nx : ∀ a w,wpListIn (rd r) 0 P l.toArray Q (l.drop (i + 1)) a w → wpAnyIn (rd r) 0 P .any l.toArray Q f (listed.setIfInBounds i true) a w := fun a w h' =>
      ih (i + 1) f _ a w (by omega) (by omega) (by omega) (by simpa using hsz) (fun j hj => by
        by_cases hij : i = j
        · subst hij;simp [Array.getD,hsz,hlt]
        · rw [getD_set_ne false hij,hl j hj]
          simp;omega) h'
    simp only;split at h
    · rename_i hw;rw [if_pos hw];exact Oper.wpIn_mono nx h
    · rename_i hw;rw [if_neg hw];exact ⟨h.1,nx _ _ h.2⟩
theorem W4 (hc : xQ l pres k = true) (hnd : kM (l.take k) = true) (hq1 : ∀ e a w,Q1 e a w → e = .normal) (hrest : ∀ a w,Q1 .normal a w → wpListIn (rd r) 0 P l.toArray Q (l.drop k) a w) :
    ∀ (fuel' fuel : Nat) (listed listedf : Array Bool) (U : List Nat) (a : Act) (w : World),listed.size = l.length → listedf.size = k → (∀ j,j < k → listed.getD j false = listedf.getD j false) → (∀ j,k ≤ j → listed.getD j false = false) →
      (∀ (i : Nat) o,l.toArray[i]? = some o → listed.getD i false = true → ∀ e,e ∈ o.after → Region.binds .any e = true → listed.getD e.on false = true) →
      (∀ j,j < k → listed.getD j false = false → j ∈ U) → U.length ≤ fuel' → fuel' + (l.length - k) ≤ fuel →
      wpAny P .any (l.take k).toArray Q1 fuel' listedf a w → wpAnyIn (rd r) 0 P .any l.toArray Q fuel listed a w := by
  obtain ⟨hok,hkl,hgd,hpre⟩ := vZ hc;have hlk : (l.take k).toArray.size = k := by simp;omega
  have done : ∀ (fuel : Nat) (listed : Array Bool) (a : Act) (w : World),listed.size = l.length → (∀ j,k ≤ j → listed.getD j false = false) → (∀ j,j < k → listed.getD j false = true) → l.length - k ≤ fuel → Q1 .normal a w → wpAnyIn (rd r) 0 P .any l.toArray Q fuel listed a w := fun fuel listed a w hsz ht hf hfu hq =>
    OQ hc (l.length - k) k fuel listed a w (by omega) (aQ _) hfu hsz (fun j hj => by
      by_cases h : j < k
      · rw [hf j h];simp [h]
      · rw [ht j (by omega)];simp [h]) (hrest a w hq)
  intro fuel'
  induction fuel' with
  | zero =>
    intro fuel listed listedf U a w hsz hszf hlf ht hcl hU hUl hfu h;have hU0 : U = [] := bV (by omega)
    subst hU0
    exact done fuel listed a w hsz ht (fun j hj => by
      cases hb : listed.getD j false with
      | true => rfl
      | false => exact absurd (hU j hj hb) (by simp)) (by omega) h.2
  | succ fuel' ih =>
    intro fuel listed listedf U a w hsz hszf hlf ht hcl hU hUl hfu h;by_cases hfl : ∀ j,j < k → listed.getD j false = true
    · refine done fuel listed a w hsz ht hfl (by omega) (h.1 ?_)
      rw [sX];intro i hi;obtain ⟨h1,o,ho,_⟩ := mem_ready.1 hi;have hil : i < k := by have := (aK.1 ho).1;omega
      have e : listedf.getD i true = listedf.getD i false := by simp [Array.getD,hszf,hil]
      rw [e,← hlf i hil,hfl i hil] at h1;cases h1
    · obtain ⟨j0,hj0,hjf⟩ : ∃ j,j < k ∧ listed.getD j false = false := by
        apply Classical.byContradiction;intro hn;apply hfl;intro j hj;cases hb : listed.getD j false with
        | true => rfl
        | false => exact absurd ⟨j,hj,hb⟩ hn
      obtain ⟨f,rfl⟩ : ∃ f,fuel = f + 1 := ⟨fuel - 1,by omega⟩
      have hex : Region.ready .any l.toArray listed ≠ [] := by
        have least : ∃ j,j < k ∧ listed.getD j false = false ∧ ∀ i,i < j → listed.getD i false = true := by
          have : ∀ b j,j ≤ b → j < k → listed.getD j false = false → ∃ j,j < k ∧ listed.getD j false = false ∧ ∀ i,i < j → listed.getD i false = true := by
            intro b
            induction b with
            | zero => exact fun j hj h5 h6 => ⟨j,h5,h6,fun k hk => by omega⟩
            | succ b ihb =>
              intro j hj h5 h6;by_cases hk : ∃ k,k < j ∧ listed.getD k false = false
              · obtain ⟨k,hk1,hk2⟩ := hk;exact ihb k (by omega) (by omega) hk2
              · refine ⟨j,h5,h6,fun k hk' => ?_⟩
                cases hb : listed.getD k false with
                | true => rfl
                | false => exact absurd ⟨k,hk',hb⟩ hk
          exact this j0 j0 (aQ _) hj0 hjf
        obtain ⟨j,h5,h6,h7⟩ := least;intro he;have hlt : j < l.toArray.size := by simp;omega
        have : j ∈ Region.ready .any l.toArray listed := mem_ready.2 ⟨by
          have e : listed.getD j true = listed.getD j false := by simp only [Array.getD,hsz,show j < l.length by omega,dif_pos]
          rw [e,h6],_,bW hlt,fun e he hb => h7 _ (iS hok (bW hlt) e he hb)⟩
        rw [he] at this;cases this
      refine ⟨fun h5 => absurd h5 hex,fun i hi => ?_⟩
      obtain ⟨h1,o,hoi,hall⟩ := mem_ready.1 hi;have hil : i < l.length := by have := (aK.1 hoi).1;simpa using this
      have hik : i < k := by
        apply Classical.byContradiction;intro hge;have := F9 hok hcl i o hoi hall j0 (hpre i (by omega) hil j0 (by omega))
        rw [hjf] at this;cases this
      have ei : listed.getD i true = listed.getD i false := by simp [Array.getD,hsz,hil]
      have eif : listedf.getD i true = listedf.getD i false := by simp [Array.getD,hszf,hik]
      have hil0 : listed.getD i false = false := by rw [← ei];exact h1
      have hof : (l.take k).toArray[i]? = some o := by
        have : l[i]? = some o := by simpa using hoi
        simp [bH,hik,this]
      have hif : i ∈ Region.ready .any (l.take k).toArray listedf := mem_ready.2 ⟨by rw [eif,← hlf i hik];exact hil0,o,hof,fun e he hb => by
        have hlt := iS hok hoi e he hb
        rw [← hlf e.on (by omega)];exact hall e he hb⟩
      have hop := h.2 i hif;unfold wpOp at hop;unfold wpOpIn;rw [hof] at hop;rw [hoi];simp only at hop ⊢;have hoi' : l[i]? = some o := by simpa using hoi
      have hwant : Region.wanted o (yielded (l.take k).toArray a.tmps) = Region.wanted o (yielded l.toArray a.tmps) := by
        unfold Region.wanted;cases hg : o.guard with
        | none => rfl
        | some g =>
          obtain ⟨j,b⟩ := g;have hj := hgd i hik o j b hoi' hg;simp only;unfold yielded;have : (l.take k).toArray[j]? = l.toArray[j]? := by simp [bH,hj]
          rw [this]
      have nx : ∀ a w,wpAny P .any (l.take k).toArray Q1 fuel' (listedf.setIfInBounds i true) a w → wpAnyIn (rd r) 0 P .any l.toArray Q f (listed.setIfInBounds i true) a w := fun a' w' h' => by
        refine ih f _ _ (U.erase i) a' w' (by simpa using hsz) (by simpa using hszf) (fun j hj => ?_) (fun j hj => ?_) (fun i2 o2 ho2 hi2 e he hb => ?_) (fun j hj hjl => ?_) ?_ (by omega) h'
        · by_cases hij : i = j
          · subst hij;simp [Array.getD,hsz,hszf,hil,hik]
          · rw [getD_set_ne false hij,getD_set_ne false hij];exact hlf j hj
        · rw [getD_set_ne false (by omega)];exact ht j hj
        · by_cases hij : i = i2
          · subst hij;rw [hoi] at ho2;cases ho2;exact getD_set_true (hall e he hb)
          · rw [getD_set_ne false hij] at hi2;exact getD_set_true (hcl i2 o2 ho2 hi2 e he hb)
        · by_cases hij : i = j
          · subst hij;simp [Array.getD,hsz,hil] at hjl
          · rw [getD_set_ne false hij] at hjl;exact (uI (Ne.symm hij)).2 (hU j hj hjl)
        · have := pO (hU i hik hil0);have hpos : 0 < U.length := List.length_pos_of_mem (hU i hik hil0);omega
      have hnd1 : zD o = true := zC hnd (i := i) (by simp [bH,hik,hoi'])
      split at hop
      · rename_i hw;rw [if_pos (by rw [← hwant];exact hw)]
        rcases hop with hop | ⟨_,a',w',hop⟩
        · exact AN (Q := Q1) hq1 (Oper.wpIn_mono nx (KR hnd1 hop))
        · have := hq1 _ _ _ hop;cases this
      · rename_i hw;rw [if_neg (by rw [← hwant];exact hw)]
        exact ⟨fun _ _ => trivial,nx _ _ hop⟩
end
section
variable {P : Program} {env : cJ} {h : Hp} {d : Option Nat} {ty : TypeId} {pos : String} {af : Array Edge} {g : Option (Nat × Bool)}
end
end Go.Ab
