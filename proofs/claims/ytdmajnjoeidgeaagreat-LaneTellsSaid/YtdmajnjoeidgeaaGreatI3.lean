/-
  Texts of the logic and of the layer,in one module (part 3).
-/
import Derived.Test.YtdmajnjoeidgeaaGreatI2
import Derived.Maps.RangeRun
import Derived.Lib.AppendStr
import Derived.Laws.Concat
import Derived.Laws.Strings
import Derived.Laws.Strings2
import Derived.Laws.Strings3
import Derived.Lib.UnsafeStr
import Derived.RangeFuncGives
import Derived.Lib.SlKeysI
import Derived.Maps.Own
import Derived.Deep.Draws
import Derived.Lib.LaidTab
import Derived.Lib.ItoaNum
import Derived.Lib.Builder
import Derived.Laws.Pointers
import Derived.Maps.Views
import Derived.WideShapes
import Derived.Shelf.Lay
import Derived.Shelf.Sort.Plain
import Derived.Shelf.Slices.In.SortNone
import Derived.Ground.NamesProg
import Derived.WalkKit
set_option linter.unusedVariables false
set_option linter.unusedSimpArgs false

namespace Go.Ab
open Go
set_option maxHeartbeats 1000000
section
variable {cA : qT} {l : Nat} {rec0 : Loop} {E : eG} {HA : Nat → Hp} {GO : Nat → Nat × Bool} {J : JT} {A : Nat → Prop} {Q : Nat × Bool → Exit → eG → Hp → Prop}
theorem zJ5.later {g : Nat × Bool} {c c' : qT} {ρ ρ' : Pl} {S S' W N N' : Nat → Prop} {h h' : Hp} {w w' : World} (hJ : WB J) (j : zJ5 J A g c ρ S h w W N) (x : oG (fun b => ¬ N' b) w w') (hN : ∀ b, N b → N' b)
    (hl : ∀ (k : Nat) x p,h'[k]? = some x → x ≠ .gone → ρ' k = some p → ¬ N p.1) (hst : ∀ b,S' b → ¬ W b) (hc : ∀ b,S' b → c'.lo ≤ b → N b → O7 w b) (hwm : ∀ b,W b → c'.M b) (haS : ∀ b,S' b → A b) (haM : ∀ b,c'.M b → A b) (hnn : ∀ b,N b → c'.nb b ∨ c'.S0 b ∨ c'.M b) : zJ5 J A g c' ρ' S' h' w' W N := by
  refine ⟨hJ.st j.j (x.mono fun b _ hb h => hb (hN b h)),hl,hst,fun b hb h1 h2 => ?_,hwm,haS,haM,hnn⟩
  obtain ⟨cc,e,h4⟩ := hc b hb h1 h2;exact ⟨cc,e,by rw [x.same b (hJ.lt j.j b h2) (fun h => h (hN b h2))];exact h4⟩
end
def K7 (l : List Oper) (pres : List (List Nat)) (k : Nat) : Bool :=
  wL l.toArray pres && Nat.ble k l.length && (List.range l.length).all fun i => match Nat.blt i k with
    | true => match l[i]? with
      | some o => match o.guard with
        | some (j,_) => Nat.blt j k
        | none => true
      | none => true
    | false => (List.range i).all fun j => (pres.getD i []).any (Nat.beq j)
section
variable {P : Program} {r : Option Nat} {Q Q1 : Exit → Act → World → Prop} {l : List Oper} {pres : List (List Nat)} {k : Nat}
theorem F8 (h : K7 l pres k = true) : wL l.toArray pres = true ∧ k ≤ l.length ∧ (∀ i,i < k → ∀ o j b,l[i]? = some o → o.guard = some (j,b) → j < k) ∧ ∀ i,k ≤ i → i < l.length → ∀ j,j < i → j ∈ pres.getD i [] := by
  unfold K7 at h;simp only [aT] at h;obtain ⟨⟨h1,h2⟩,h3⟩ := h;have h2 := bE h2;rw [dR] at h3;refine ⟨h1,h2,fun i hi o j b ho hg => ?_,fun i hi hl j hj => ?_⟩
  · have := h3 i (fC.2 (by omega))
    rw [show Nat.blt i k = true from Nat.ble_eq_true_of_le hi] at this
    simp only [ho,hg] at this;exact bE this
  · have := h3 i (fC.2 hl);have hb : Nat.blt i k = false := by
      rw [← fE];intro hb;have := bE hb;omega
    rw [hb] at this;simp only [dR] at this;have := this j (fC.2 hj);rw [tJ] at this;obtain ⟨x,hx,hxe⟩ := this;rw [aP hxe];exact hx
theorem Y3 (hok : wL l.toArray pres = true) {listed : Array Bool} (hcl : ∀ (i : Nat) o,l.toArray[i]? = some o → listed.getD i false = true → ∀ e,e ∈ o.after → Region.binds .any e = true → listed.getD e.on false = true) :
    ∀ (i : Nat) o,l.toArray[i]? = some o → (∀ e,e ∈ o.after → Region.binds .any e = true → listed.getD e.on false = true) → ∀ j,j ∈ pres.getD i [] → listed.getD j false = true := by
  intro i
  induction i using Nat.strongRecOn with
  | _ i ih =>
    intro o ho hall j hj;have hlt : i < l.toArray.size := (bA.1 ho).1;have h := dR.1 hok i (by simpa using hlt)
    rw [ho] at h;simp only [aT] at h;have h2 := h.2;cases hp : pres[i]? with
    | none => rw [aH,hp] at hj;simp at hj
    | some pre =>
      rw [aH,hp] at hj;rw [hp] at h2;simp only [dR,aT,decide_eq_true_eq] at h2;obtain ⟨h3,h4⟩ := h2 j hj;rw [tJ] at h4;obtain ⟨e,he,h5⟩ := h4;rw [aT,D5] at h5;obtain ⟨hb,h6⟩ := h5;have he' : e ∈ o.after := by simpa using he
      have hel := hall e he' hb;rcases h6 with h6 | h6
      · rw [← aP h6];exact hel
      · rw [tJ] at h6;obtain ⟨x,hx,hxe⟩ := h6;rw [aP hxe];have hei := nS hok ho e he' hb;exact ih e.on hei _ (eQ (by omega)) (fun e2 he2 hb2 => hcl e.on _ (eQ (by omega)) hel e2 he2 hb2) x hx
theorem WR (hc : K7 l pres k = true) : ∀ (m k' fuel : Nat) (listed : Array Bool) (a : Act) (w : World),k' + m = l.length → k ≤ k' → m ≤ fuel → listed.size = l.length → (∀ j,j < l.length → listed.getD j false = decide (j < k')) →
    wpListIn (rd r) 0 P l.toArray Q (l.drop k') a w → wpAnyIn (rd r) 0 P .any l.toArray Q fuel listed a w := by
  obtain ⟨hok,hkl,_,hpre⟩ := F8 hc;intro m
  induction m with
  | zero =>
    intro k' fuel listed a w hk hkk hf hsz hl h;rw [fK (by omega)] at h
    have hre : Region.ready .any l.toArray listed = [] := by
      rw [zL];intro i hi;obtain ⟨h1,o,ho,_⟩ := mem_ready.1 hi;have hil : i < l.length := by have := (bA.1 ho).1;simpa using this
      have e : listed.getD i true = listed.getD i false := by simp [Array.getD,hsz,hil]
      rw [e,hl i hil] at h1;have : ¬ i < k' := by simpa using h1
      omega
    cases fuel with
    | zero => exact ⟨hre,h⟩
    | succ f => exact ⟨fun _ => h,fun i hi => by rw [hre] at hi;cases hi⟩
  | succ m ih =>
    intro k' fuel listed a w hk hkk hf hsz hl h;obtain ⟨f,rfl⟩ : ∃ f,fuel = f + 1 := ⟨fuel - 1,by omega⟩
    have hlt : k' < l.length := by omega
    have ho : l.toArray[k']? = some l[k'] := by simp [aB hlt]
    have hin : k' ∈ Region.ready .any l.toArray listed := mem_ready.2 ⟨by
      have e : listed.getD k' true = listed.getD k' false := by simp [Array.getD,hsz,hlt]
      rw [e,hl k' hlt];simp,l[k'],ho,fun e he hb => by
      have := nS hok ho e he hb
      rw [hl e.on (by omega)];simpa using this⟩
    refine ⟨(fun hr => by rw [hr] at hin;cases hin),fun i hi => ?_⟩
    obtain ⟨h1,o,hoi,hall⟩ := mem_ready.1 hi;have hil : i < l.length := by have := (bA.1 hoi).1;simpa using this
    have hcl : ∀ (i : Nat) o,l.toArray[i]? = some o → listed.getD i false = true → ∀ e,e ∈ o.after → Region.binds .any e = true → listed.getD e.on false = true := fun i o ho hi e he hb => by
      have hil : i < l.length := by have := (bA.1 ho).1;simpa using this
      have := nS hok ho e he hb;rw [hl i hil] at hi;have : i < k' := by simpa using hi
      rw [hl e.on (by omega)];simp;omega
    have hik : i = k' := by
      have e : listed.getD i true = listed.getD i false := by simp [Array.getD,hsz,hil]
      rw [e,hl i hil] at h1;have h2 : ¬ i < k' := by simpa using h1
      rcases qX k' i with h3 | h3
      · have := Y3 hok hcl i o hoi hall k' (hpre i (by omega) hil k' h3)
        rw [hl k' hlt] at this;simp at this
      · omega
    subst hik;rw [bK hlt] at h;unfold wpListIn at h;unfold wpOpIn;rw [ho];have nx : ∀ a w,wpListIn (rd r) 0 P l.toArray Q (l.drop (i + 1)) a w → wpAnyIn (rd r) 0 P .any l.toArray Q f (listed.setIfInBounds i true) a w := fun a w h' =>
      ih (i + 1) f _ a w (by omega) (by omega) (by omega) (by simpa using hsz) (fun j hj => by
        by_cases hij : i = j
        · subst hij;simp [Array.getD,hsz,hlt]
        · rw [getD_set_ne false hij,hl j hj]
          simp;omega) h'
    simp only;split at h
    · rename_i hw;rw [if_pos hw];exact Oper.wpIn_mono nx h
    · rename_i hw;rw [if_neg hw];exact ⟨h.1,nx _ _ h.2⟩
theorem FV (hc : K7 l pres k = true) (hnd : pP (l.take k) = true) (hq1 : ∀ e a w,Q1 e a w → e = .normal) (hrest : ∀ a w,Q1 .normal a w → wpListIn (rd r) 0 P l.toArray Q (l.drop k) a w) :
    ∀ (fuel' fuel : Nat) (listed listedf : Array Bool) (U : List Nat) (a : Act) (w : World),listed.size = l.length → listedf.size = k → (∀ j,j < k → listed.getD j false = listedf.getD j false) → (∀ j,k ≤ j → listed.getD j false = false) →
      (∀ (i : Nat) o,l.toArray[i]? = some o → listed.getD i false = true → ∀ e,e ∈ o.after → Region.binds .any e = true → listed.getD e.on false = true) →
      (∀ j,j < k → listed.getD j false = false → j ∈ U) → U.length ≤ fuel' → fuel' + (l.length - k) ≤ fuel →
      wpAny P .any (l.take k).toArray Q1 fuel' listedf a w → wpAnyIn (rd r) 0 P .any l.toArray Q fuel listed a w := by
  obtain ⟨hok,hkl,hgd,hpre⟩ := F8 hc;have hlk : (l.take k).toArray.size = k := by simp;omega
  have done : ∀ (fuel : Nat) (listed : Array Bool) (a : Act) (w : World),listed.size = l.length → (∀ j,k ≤ j → listed.getD j false = false) → (∀ j,j < k → listed.getD j false = true) → l.length - k ≤ fuel → Q1 .normal a w → wpAnyIn (rd r) 0 P .any l.toArray Q fuel listed a w := fun fuel listed a w hsz ht hf hfu hq =>
    WR hc (l.length - k) k fuel listed a w (by omega) (aY _) hfu hsz (fun j hj => by
      by_cases h : j < k
      · rw [hf j h];simp [h]
      · rw [ht j (by omega)];simp [h]) (hrest a w hq)
  intro fuel'
  induction fuel' with
  | zero =>
    intro fuel listed listedf U a w hsz hszf hlf ht hcl hU hUl hfu h;have hU0 : U = [] := bW (by omega)
    subst hU0
    exact done fuel listed a w hsz ht (fun j hj => by
      cases hb : listed.getD j false with
      | true => rfl
      | false => exact absurd (hU j hj hb) (by simp)) (by omega) h.2
  | succ fuel' ih =>
    intro fuel listed listedf U a w hsz hszf hlf ht hcl hU hUl hfu h;by_cases hfl : ∀ j,j < k → listed.getD j false = true
    · refine done fuel listed a w hsz ht hfl (by omega) (h.1 ?_)
      rw [zL];intro i hi;obtain ⟨h1,o,ho,_⟩ := mem_ready.1 hi;have hil : i < k := by have := (bA.1 ho).1;omega
      have e : listedf.getD i true = listedf.getD i false := by simp [Array.getD,hszf,hil]
      rw [e,← hlf i hil,hfl i hil] at h1;cases h1
    · obtain ⟨j0,hj0,hjf⟩ : ∃ j,j < k ∧ listed.getD j false = false := by
        apply Classical.byContradiction;intro hn;apply hfl;intro j hj;cases hb : listed.getD j false with
        | true => rfl
        | false => exact absurd ⟨j,hj,hb⟩ hn
      obtain ⟨f,rfl⟩ : ∃ f,fuel = f + 1 := ⟨fuel - 1,by omega⟩
      have hex : Region.ready .any l.toArray listed ≠ [] := by
        have least : ∃ j,j < k ∧ listed.getD j false = false ∧ ∀ i,i < j → listed.getD i false = true := by
          have : ∀ b j,j ≤ b → j < k → listed.getD j false = false → ∃ j,j < k ∧ listed.getD j false = false ∧ ∀ i,i < j → listed.getD i false = true := by
            intro b
            induction b with
            | zero => exact fun j hj h5 h6 => ⟨j,h5,h6,fun k hk => by omega⟩
            | succ b ihb =>
              intro j hj h5 h6;by_cases hk : ∃ k,k < j ∧ listed.getD k false = false
              · obtain ⟨k,hk1,hk2⟩ := hk;exact ihb k (by omega) (by omega) hk2
              · refine ⟨j,h5,h6,fun k hk' => ?_⟩
                cases hb : listed.getD k false with
                | true => rfl
                | false => exact absurd ⟨k,hk',hb⟩ hk
          exact this j0 j0 (aY _) hj0 hjf
        obtain ⟨j,h5,h6,h7⟩ := least;intro he;have hlt : j < l.toArray.size := by simp;omega
        have : j ∈ Region.ready .any l.toArray listed := mem_ready.2 ⟨by
          have e : listed.getD j true = listed.getD j false := by simp only [Array.getD,hsz,show j < l.length by omega,dif_pos]
          rw [e,h6],_,eQ hlt,fun e he hb => h7 _ (nS hok (eQ hlt) e he hb)⟩
        rw [he] at this;cases this
      refine ⟨fun h5 => absurd h5 hex,fun i hi => ?_⟩
      obtain ⟨h1,o,hoi,hall⟩ := mem_ready.1 hi;have hil : i < l.length := by have := (bA.1 hoi).1;simpa using this
      have hik : i < k := by
        apply Classical.byContradiction;intro hge;have := Y3 hok hcl i o hoi hall j0 (hpre i (by omega) hil j0 (by omega))
        rw [hjf] at this;cases this
      have ei : listed.getD i true = listed.getD i false := by simp [Array.getD,hsz,hil]
      have eif : listedf.getD i true = listedf.getD i false := by simp [Array.getD,hszf,hik]
      have hil0 : listed.getD i false = false := by rw [← ei];exact h1
      have hof : (l.take k).toArray[i]? = some o := by
        have : l[i]? = some o := by simpa using hoi
        simp [dA,hik,this]
      have hif : i ∈ Region.ready .any (l.take k).toArray listedf := mem_ready.2 ⟨by rw [eif,← hlf i hik];exact hil0,o,hof,fun e he hb => by
        have hlt := nS hok hoi e he hb
        rw [← hlf e.on (by omega)];exact hall e he hb⟩
      have hop := h.2 i hif;unfold wpOp at hop;unfold wpOpIn;rw [hof] at hop;rw [hoi];simp only at hop ⊢;have hoi' : l[i]? = some o := by simpa using hoi
      have hwant : Region.wanted o (yielded (l.take k).toArray a.tmps) = Region.wanted o (yielded l.toArray a.tmps) := by
        unfold Region.wanted;cases hg : o.guard with
        | none => rfl
        | some g =>
          obtain ⟨j,b⟩ := g;have hj := hgd i hik o j b hoi' hg;simp only;unfold yielded;have : (l.take k).toArray[j]? = l.toArray[j]? := by simp [dA,hj]
          rw [this]
      have nx : ∀ a w,wpAny P .any (l.take k).toArray Q1 fuel' (listedf.setIfInBounds i true) a w → wpAnyIn (rd r) 0 P .any l.toArray Q f (listed.setIfInBounds i true) a w := fun a' w' h' => by
        refine ih f _ _ (U.erase i) a' w' (by simpa using hsz) (by simpa using hszf) (fun j hj => ?_) (fun j hj => ?_) (fun i2 o2 ho2 hi2 e he hb => ?_) (fun j hj hjl => ?_) ?_ (by omega) h'
        · by_cases hij : i = j
          · subst hij;simp [Array.getD,hsz,hszf,hil,hik]
          · rw [getD_set_ne false hij,getD_set_ne false hij];exact hlf j hj
        · rw [getD_set_ne false (by omega)];exact ht j hj
        · by_cases hij : i = i2
          · subst hij;rw [hoi] at ho2;cases ho2;exact getD_set_true (hall e he hb)
          · rw [getD_set_ne false hij] at hi2;exact getD_set_true (hcl i2 o2 ho2 hi2 e he hb)
        · by_cases hij : i = j
          · subst hij;simp [Array.getD,hsz,hil] at hjl
          · rw [getD_set_ne false hij] at hjl;exact (A8 (Ne.symm hij)).2 (hU j hj hjl)
        · have := vD (hU i hik hil0);have hpos : 0 < U.length := List.length_pos_of_mem (hU i hik hil0);omega
      have hnd1 : O4 o = true := O1 hnd (i := i) (by simp [dA,hik,hoi'])
      split at hop
      · rename_i hw;rw [if_pos (by rw [← hwant];exact hw)]
        rcases hop with hop | ⟨_,a',w',hop⟩
        · exact HH (Q := Q1) hq1 (Oper.wpIn_mono nx (SO hnd1 hop))
        · have := hq1 _ _ _ hop;cases this
      · rename_i hw;rw [if_neg (by rw [← hwant];exact hw)]
        exact ⟨fun _ _ => trivial,nx _ _ hop⟩
end
section
variable {P : Program} {env : eG} {h : Hp} {d : Option Nat} {ty : TypeId} {pos : String} {af : Array Edge} {g : Option (Nat × Bool)}
end
end Go.Ab
namespace Go.Ab
open Go Go.MapKept
section
variable {P : Program} {env : eG} {h : Hp}
variable {d : Option Nat} {ty : TypeId} {pos : String} {af : Array Edge} {g : Option (Nat × Bool)}
variable {n : Nat × Nat} {ops : Array Oper} {rest : List Oper} {K : eG → Hp → Prop}
variable {t kt et : TypeId} {good : Value → Prop} {x y z : Operand} {k i : Nat} {kv : Value} {ks : List Value} {vs : List AV} {v : AV}
theorem qU.mapOpen {c : qT} {ρ : Pl} {S : Nat → Prop} {a : Act} {w : World} (k : Nat) (hk : h[k]? = some (.mapO ks vs)) (s : qU n c ρ S env h a w) : ∃ bs ck,bs.length = ks.length ∧ vs.length = ks.length ∧ bs.Nodup ∧ (∀ b,b ∈ bs → b < ck) ∧ qU n c ρ S env (h.set k (.mapB ks vs bs ck)) a w := by
  obtain ⟨b,o,l,ck,h1,h2,⟨h3,h4,h5⟩,h6⟩ := s.hs.blk k _ hk;have e6 := fQ h6;refine ⟨l.toList.map (·.born),ck,by rw [← h3];simp,by rw [← e6,← h3];simp,h4,fun b hb => ?_,s.size,s.defers,s.env,s.hs.alter hk (fun _ => ⟨b,o,l,h1,h2,⟨h3,⟨h4,h5⟩,rfl⟩,h6⟩) (by simp),s.cm⟩
  obtain ⟨e,he,rfl⟩ := aQ.1 hb;exact h5 e he
theorem JJ (k : Nat) (hk : h[k]? = some (.mapO ks vs)) (hv : ∀ bs ck,bs.length = ks.length → vs.length = ks.length → bs.Nodup → (∀ b,b ∈ bs → b < ck) → VC P n ops rest env (h.set k (.mapB ks vs bs ck)) K) : VC P n ops rest env h K := by
  intro c ρ S a w Q s hQ;obtain ⟨bs,ck,h1,h1',h2,h3,s'⟩ := s.mapOpen k hk;exact hv bs ck h1 h1' h2 h3 c ρ S a w Q s' hQ
theorem AS {code : Code} {Q : Exit → eG → Hp → Prop} (k : Nat) (hk : h[k]? = some (.mapO ks vs)) (hv : ∀ bs ck,bs.length = ks.length → vs.length = ks.length → bs.Nodup → (∀ b,b ∈ bs → b < ck) → AW P n code env (h.set k (.mapB ks vs bs ck)) Q) : AW P n code env h Q := by
  intro c ρ S a w QQ s hQ;obtain ⟨bs,ck,h1,h1',h2,h3,s'⟩ := s.mapOpen k hk;exact hv bs ck h1 h1' h2 h3 c ρ S a w QQ s' hQ
theorem qU.mapShut {c : qT} {ρ : Pl} {S : Nat → Prop} {a : Act} {w : World} {bs : List Nat} {ck : Nat} (k : Nat) (hk : h[k]? = some (.mapB ks vs bs ck)) (s : qU n c ρ S env h a w) : qU n c ρ S env (h.set k (.mapO ks vs)) a w :=
  ⟨s.size,s.defers,s.env,s.hs.alter hk (fun ⟨b,o,l,h1,h2,⟨h3,h4,_⟩,h5⟩ => ⟨b,o,l,ck,h1,h2,⟨h3,h4⟩,h5⟩) (by simp),s.cm⟩
theorem E5 {bs : List Nat} {ck : Nat} (k : Nat) (hk : h[k]? = some (.mapB ks vs bs ck)) (hv : VC P n ops rest env (h.set k (.mapO ks vs)) K) : VC P n ops rest env h K :=
  fun c ρ S a w Q s hQ => hv c ρ S a w Q (s.mapShut k hk) hQ
theorem AC {bs : List Nat} {ck : Nat} (ht : P.underlying t = some (.map kt et)) (hx : evu env x = some (.mp k)) (hk : h[k]? = some (.mapB ks vs bs ck)) :
    bR P ⟨d,.range t x,ty,pos,af,g⟩ env h 1 (fun p => .ptr p 0) (fun _ => [.iter k ck [] ck]) := by
  refine NC fun ρ S a w p => ?_
  have h1 := p.evu hx;simp only [R] at h1;obtain ⟨b,o,h2,h3⟩ := h1;obtain ⟨b',o',l,h5,h6,h7,h8⟩ := p.blk k _ hk;rw [h2] at h5;cases h5;refine ⟨.mapIter (some b) ck #[] ck,.pointer (some ⟨w.heap.size,0,none⟩),?_,fun pos hpos w' hw' => ⟨?_,?_⟩⟩
  · simp [execOp,h3,Instr.range,run_underlying ht,MapKept.run_getObj_map h6]
  · simp [R,Pl.with]
  · have hne : k ≠ pos := fun e => by rw [e,hpos] at h2;cases h2
    exact ⟨w.heap.size,rfl,(b,o),by simp [Pl.with,hne,h2],hw'⟩
theorem EH {km since c0 ck : Nat} {seen bs : List Nat} (hx : evu env x = some (.ptr k 0)) (hk : h[k]? = some (.iter km since seen c0)) (hm : h[km]? = some (.mapB ks vs bs ck)) (hs : ∀ b, b ∈ bs → b < since) (hc : since ≤ c0) (hd : BV d n = true)
    (hend : (∀ b,b ∈ bs → b ∈ seen) → VC P n ops rest (gJ d (.tup [.b false]) env) h K)
    (hstep : ∀ (i : Nat) kv v b,ks[i]? = some kv → vs[i]? = some v → bs[i]? = some b → b ∉ seen → VC P n ops rest (gJ d (.tup [.b true,.v kv,v]) env) (h.set k (.iter km since (seen ++ [b]) ck)) K) :
    VC P n ops (⟨d,.next x false,ty,pos,af,none⟩ :: rest) env h K := by
  intro c ρ S a w Q s hQ;refine wpList_plain rfl fun K' hK' => ?_
  have p := s.pre;have h1 := p.evu hx;simp only [R] at h1;obtain ⟨b,o,h2,h3⟩ := h1;obtain ⟨b1,h4,m,h5,h6⟩ := p.blk k _ hk;rw [h2] at h4;cases h4;obtain ⟨b2,o2,l,h7,h8,⟨h9,h10,h11⟩,h12⟩ := p.blk km _ hm;rw [h5] at h7;cases h7;have hold : ∀ e,e ∈ l.toList → e.born < since := fun e he => hs _ (by rw [← h11];exact aQ.2 ⟨e,he,rfl⟩)
  rcases run_next_at (P := P) w ty b b2 since c0 seen.toArray l ck h6 h8 hold hc with ⟨h13,h14⟩ | ⟨e,he,w1,hw1,h14⟩
  · unfold Oper.wp;have : (execOp a.eval ⟨d,.next x false,ty,pos,af,none⟩).run P w = .ok (.value (.tuple #[.bool false])) w := by
      simp only [execOp,h3,Nat.zero_add];simp [h14]
    rw [this];refine hK' _ _ (hend (fun q hq => ?_) c ρ S _ _ Q ⟨by rw [kH];exact s.size,by rw [iO];exact s.defers,sI s.size hd s.env (by simp only [R,RL];exact ⟨_,rfl,_,_,rfl,rfl,rfl⟩),s.hs,s.cm⟩ hQ)
    rw [← h11] at hq;obtain ⟨e,he,rfl⟩ := aQ.1 hq;refine Classical.byContradiction fun hn => ?_
    have : e ∈ leftOf l seen.toArray := by
      unfold leftOf;simp only [Array.mem_filter];exact ⟨by simpa using he,by simpa using hn⟩
    have := Array.size_pos_of_mem this;omega
  · have he1 : e ∈ l.toList ∧ e.born ∉ seen := by
      unfold leftOf at he;simp at he;exact ⟨by simpa using he.1,he.2⟩
    obtain ⟨i,hi⟩ := cU.1 he1.1;have hki : ks[i]? = some e.key := by rw [← h9,aU,hi];rfl
    have hbi : bs[i]? = some e.born := by rw [← h11,aU,hi];rfl
    obtain ⟨v,hvi⟩ : ∃ v,vs[i]? = some v := by
      have e6 := fQ h12;have := (aA.1 hi).1;rw [dY] at e6;exact ⟨vs[i]'(by omega),aB _⟩
    have hv : R S w v ρ e.val := by
      obtain ⟨u,u1,u2⟩ := mY h12 i v hvi;rw [aU,hi] at u1;cases u1;exact u2
    unfold Oper.wp;have : (execOp a.eval ⟨d,.next x false,ty,pos,af,none⟩).run P w = .ok (.value (.tuple #[.bool true,e.key,e.val])) (ChangeMaps.setBlock w1 b (.mapIter (some b2) since (seen.toArray.push e.born) ck)) := by
      simp only [execOp,h3,Nat.zero_add];simp [h14]
    rw [this];have hlt : b < w.heap.size := (bA.1 h6).1;have hw1h : w1.heap = w.heap := by rcases hw1 with rfl | rfl <;> rfl
    have hext : oG (fun q => q = b) w (ChangeMaps.setBlock w1 b (.mapIter (some b2) since (seen.toArray.push e.born) ck)) := by
      refine ⟨?_,?_,?_,?_,fun q hq hne => ?_,fun q cs ee fz hq => ⟨cs,fz,?_,rfl⟩⟩
      · rcases hw1 with rfl | rfl <;> rfl
      · rcases hw1 with rfl | rfl <;> rfl
      · rcases hw1 with rfl | rfl <;> rfl
      · simp [ChangeMaps.setBlock,hw1h]
      · simp only [ChangeMaps.setBlock,hw1h];rw [pE (Ne.symm hne)]
      · have hne : q ≠ b := fun e' => by rw [e',h6] at hq;cases hq
        simp only [ChangeMaps.setBlock,hw1h];rw [pE (Ne.symm hne)];exact hq
    obtain ⟨g1,g2⟩ := s.hs.upd (nb := .iter km since (seen ++ [e.born]) ck) hk (by simp) h2 hext (fun l' => by
      refine ⟨b,rfl,(b2,o2),h5,?_⟩;simp only [ChangeMaps.setBlock,hw1h];rw [Array.getElem?_setIfInBounds_self_of_lt hlt]
      simp)
    refine hK' _ _ (hstep i e.key v e.born hki hvi hbi he1.2 c ρ S _ _ Q ⟨by rw [kH];exact s.size,by rw [iO];exact s.defers.later g2,sI s.size hd (fun tt uu huu => (s.env tt uu huu).later g2) ?_,g1,s.cm⟩ hQ)
    simp only [R,RL];exact ⟨_,rfl,_,_,rfl,rfl,_,_,rfl,rfl,_,_,rfl,hv.later g2,rfl⟩
theorem J9 {km since c0 ck b i : Nat} {seen bs : List Nat} (hx : evu env x = some (.ptr k 0)) (hk : h[k]? = some (.iter km since (seen ++ [b]) c0)) (hm : h[km]? = some (.mapB ks vs bs ck)) (hc : c0 = ck) (hb : bs[i]? = some b) (hki : ks[i]? = some kv) (hvi : vs[i]? = some v) :
    bR P ⟨d,.entry x,ty,pos,af,g⟩ env h 0 (fun _ => .tup [.v kv,v]) (fun _ => []) := by
  refine gN fun ρ S a w p => ?_
  have h1 := p.evu hx;simp only [R] at h1;obtain ⟨b0,o,h2,h3⟩ := h1;obtain ⟨b1,h4,m,h5,h6⟩ := p.blk k _ hk;rw [h2] at h4;cases h4;obtain ⟨b2,o2,l,h7,h8,⟨h9,h10,h11⟩,h12⟩ := p.blk km _ hm;rw [h5] at h7;cases h7;rw [← h11,aU] at hb;obtain ⟨e,he,rfl⟩ := cQ.1 hb;have hk2 : e.key = kv := by rw [← h9,aU,he] at hki;simpa using hki
  obtain ⟨u,u1,u2⟩ := mY h12 i v hvi;rw [aU,he] at u1;cases u1;subst hc;have h13 : w.heap[b0]? = some (.mapIter (some b2) since (seen.toArray.push e.born) c0) := by rw [h6];simp
  have := run_entry_at (P := P) w b0 b2 since seen.toArray l c0 e h13 h8 (bD he) h10.1;refine ⟨.tuple #[e.key,e.val],?_,?_⟩
  · simp only [execOp,h3,Nat.zero_add];simp [this]
  · simp only [R,RL];exact ⟨_,rfl,_,_,rfl,hk2,_,_,rfl,u2,rfl⟩
theorem tE.erase {l : Array MapEntry} {ck i : Nat} (h : tE l ck) : tE (l.eraseIdxIfInBounds i) ck := by
  have e : (l.eraseIdxIfInBounds i).toList = l.toList.eraseIdx i := by
    unfold Array.eraseIdxIfInBounds;split
    · simp
    · rename_i hh;rw [List.eraseIdx_of_length_le (by simpa using hh)]
  refine ⟨?_,fun q hq => h.2 q (by rw [e] at hq;exact List.mem_of_mem_eraseIdx hq)⟩
  rw [e];have : (l.toList.eraseIdx i).map (·.born) = (l.toList.map (·.born)).eraseIdx i := by
    apply fU;intro j;simp only [aU,List.getElem?_eraseIdx];split <;> simp
  rw [this];exact h.1.eraseIdx i
theorem tU {α β : Type} (f : α → β) (l : List α) (i : Nat) : (l.eraseIdx i).map f = (l.map f).eraseIdx i := by
  apply fU;intro j;simp only [aU,List.getElem?_eraseIdx];split <;> simp
theorem G9 (l : Array MapEntry) (i : Nat) : (l.eraseIdxIfInBounds i).toList = l.toList.eraseIdx i := by
  unfold Array.eraseIdxIfInBounds;split
  · simp
  · rename_i hh;rw [List.eraseIdx_of_length_le (by simpa using hh)]
theorem VV {S : Nat → Prop} {w : World} {ρ : Pl} {xs : List AV} {ys : List Value} (h : RL S w xs ρ ys) (i : Nat) : RL S w (xs.eraseIdx i) ρ (ys.eraseIdx i) := by
  rw [List.eraseIdx_eq_take_drop_succ,List.eraseIdx_eq_take_drop_succ];exact iR (sN h i) (wF h (i + 1))
theorem OM (ht : P.underlying t = some (.map kt et)) (ko : mU P kt good) (hx : evu env x = some (.mp k)) {yv : AV} (hy : evu env y = some yv) (hyv : V7 yv kv) (hk : h[k]? = some (.mapO ks vs)) (hkeys : ∀ q, q ∈ ks → good q) (hkey : good kv) (hnd : ks.Nodup) (hi : ks[i]? = some kv)
    {t2 : TypeId} (hv : VC P n ops rest env (h.set k (.mapO (ks.eraseIdx i) (vs.eraseIdx i))) K) : VC P n ops (⟨none,.call { callee := .builtin .delete,args := #[x,y],argTypes := #[t,t2] },ty,pos,af,none⟩ :: rest) env h K := by
  intro c ρ S a w Q s hQ;refine wpList_plain rfl fun K' hK' => ?_
  have p := s.pre;have h1 := p.evu hx;simp only [R] at h1;obtain ⟨b,o,h2,h3⟩ := h1;have h4 := hyv _ _ _ _ (p.evu hy);obtain ⟨b',o',l,ck,h5,h6,h7,h8,h13⟩ := B9 (p.blk k _ hk);rw [h2] at h5;cases h5;obtain ⟨e,h9,h10,h11⟩ := uF ko w h7 hkeys hkey hnd hi;have hr : (execOp a.eval ⟨none,.call { callee := .builtin .delete,args := #[x,y],argTypes := #[t,t2] },ty,pos,af,none⟩).run P w = .ok (.value (.tuple #[])) { w with heap := w.heap.setIfInBounds b (.map (l.eraseIdxIfInBounds i) ck) } := by
    simp [execOp,resolve,invoke,builtin,h3,h4,Builtin.delete_,run_underlying ht,MapKept.run_getObj_map h6,ko.check w _ hkey,h9,MapKept.run_setObj_map _ h6]
  unfold Oper.wp;rw [hr]
  obtain ⟨g1,g2⟩ := s.hs.upd (nb := .mapO (ks.eraseIdx i) (vs.eraseIdx i)) hk (by simp) h2 (yE (o := .map (l.eraseIdxIfInBounds i) ck) h6) (fun l' => by
    simp only [RB];refine ⟨b,o,_,_,rfl,(MapKept.heap_set h6).1,⟨by rw [G9,tU,h7],h13.erase⟩,?_⟩
    rw [G9,tU]
    exact VV (h8.later l') i)
  exact hK' _ _ (hv c ρ S _ _ Q ⟨by rw [kH];exact s.size,by rw [iO];exact s.defers.later g2,fun tt uu huu => (s.env tt uu huu).later g2,g1,s.cm⟩ hQ)
end
end Go.Ab
namespace Go.Ab
open Go
abbrev AV.s (l : List UInt8) : AV := .v (.string ⟨l.toArray⟩)
def UX (l : List UInt8) : List (List AV) := l.map fun b => [.v (.int .u8 b.toNat)]
@[simp] theorem bytesA_length (l : List UInt8) : (UX l).length = l.length := by simp [UX]
def BC (P : Program) (t : TypeId) : Prop := P.underlying t = some .string
section
variable {P : Program} {env : eG} {h : Hp}
variable {d : Option Nat} {ty : TypeId} {pos : String} {af : Array Edge} {g : Option (Nat × Bool)}
variable {t t2 : TypeId} {x y : Operand} {a b : List UInt8}
theorem zT7 (op : BinOp) (t : TypeId) (x y : Operand) (s : ByteArray) (v : Value) : eqGuard op t x y (.string s) v = pure () := by cases op <;> rfl
theorem NF (hx : evu env x = some (.s a)) (hy : evu env y = some (.s b)) : bR P ⟨d,.binOp .eql t x y t2,ty,pos,af,g⟩ env h 0 (fun _ => .b (decide (a = b))) (fun _ => []) := by
  refine gN fun ρ S ac w p => ⟨.bool (decide (a = b)),?_,by simp [R]⟩
  have h1 := rU (p.evu hx);have h2 := rU (p.evu hy);simp [execOp,h1,h2,zT7,binOp_string_eql,binOp_string_neq];by_cases hab : a = b <;> simp [hab]
theorem V2 (hx : evu env x = some (.s a)) (hy : evu env y = some (.s b)) : bR P ⟨d,.binOp .neq t x y t2,ty,pos,af,g⟩ env h 0 (fun _ => .b (!decide (a = b))) (fun _ => []) := by
  refine gN fun ρ S ac w p => ⟨.bool (!decide (a = b)),?_,by simp [R]⟩
  have h1 := rU (p.evu hx);have h2 := rU (p.evu hy);simp [execOp,h1,h2,zT7,binOp_string_eql,binOp_string_neq];by_cases hab : a = b <;> simp [hab]
theorem vY (ht : BC P t) (hx : evu env x = some (.s a)) : bR P ⟨d,.call { callee := .builtin .len,args := #[x],argTypes := #[t] },ty,pos,af,g⟩ env h 0 (fun _ => .i a.length) (fun _ => []) := by
  refine gN fun ρ S ac w p => ⟨.int .i64 a.length,?_,by simp [R]⟩
  have h1 := rU (p.evu hx);have ht' : P.underlying t = some .string := ht;have e : (⟨a.toArray⟩ : ByteArray).size = a.length := by show a.toArray.size = _;simp
  rw [← e];simp [execOp,resolve,invoke,builtin,h1,Builtin.len_,run_underlying ht',goInt]
theorem O9 (ht : BC P t) {k : IntKind} {j : Int} (hx : evu env x = some (.s a)) (hy : evu env y = some (.v (.int k j))) (h0 : 0 ≤ j) {c : UInt8} (hc : a[j.toNat]? = some c) : bR P ⟨d,.index t x y,ty,pos,af,g⟩ env h 0 (fun _ => .v (.int .u8 c.toNat)) (fun _ => []) := by
  refine gN fun ρ S ac w p => ⟨.int .u8 c.toNat,?_,by simp [R]⟩
  have h1 := rU (p.evu hx);have h2 := rU (p.evu hy);have ht' : P.underlying t = some .string := ht;have hlt : j.toNat < a.length := (aA.1 hc).1;have hs : j.toNat < (⟨a.toArray⟩ : ByteArray).size := by show _ < a.toArray.size;simpa using hlt
  have e : (⟨a.toArray⟩ : ByteArray)[j.toNat]'hs = c := by
    have := (aA.1 hc).2;rw [← this];rfl
  have hr : (Instr.index t (.string ⟨a.toArray⟩) (.int k j)).run P w = .ok (.int .u8 c.toNat) w := by
    rw [run_index_string (P := P) w t ⟨a.toArray⟩ k j ht',dif_pos ⟨h0,by omega⟩,e]
  simp [execOp,h1,h2,hr]
end
section
variable {P : Program} {env : eG} {h : Hp}
variable {d : Option Nat} {ty : TypeId} {pos : String} {af : Array Edge} {g : Option (Nat × Bool)}
def zL2 (l : List UInt8) : List Value := l.map fun b => Value.int .u8 b.toNat
@[simp] theorem strV_length (l : List UInt8) : (zL2 l).length = l.length := by simp [zL2]
section
variable {n : Nat × Nat} {ops : Array Oper} {rest : List Oper} {K : eG → Hp → Prop}
end
end
section
variable {P : Program}
theorem HS.made {c : qT} {ρ : Pl} {S : Nat → Prop} {h : Hp} {w w' : World} {x : AV} {b : AB} {y : Value} {q : Option (Nat × Nat)} (s : HS c ρ S h w) (hext : oG (fun _ => False) w w')
    (hq : ∀ p,q = some p → w.heap.size ≤ p.1 ∧ p.1 < w'.heap.size)
    (hv : ∀ ρ' : Pl,ρ' h.length = q → (∀ k,k ≠ h.length → ρ' k = ρ k) → jZ ρ ρ' S S w w' → R S w' x ρ' y ∧ RB S w' ρ' q b) :
    ∃ ρ',HS c ρ' S (h ++ [b]) w' ∧ R S w' x ρ' y ∧ jZ ρ ρ' S S w w' := by
  let ρ' : Pl := fun k => if k = h.length then q else ρ k
  have hd := s.dom h.length (aY _);have e1 : ρ' h.length = q := if_pos rfl;have e2 : ∀ k,k ≠ h.length → ρ' k = ρ k := fun k hk => if_neg hk
  have l : jZ ρ ρ' S S w w' := ⟨fun k p hp => by rw [e2 k (fun e => by rw [e,hd] at hp;cases hp)];exact hp,fun _ h => h,fun b hb => hext.same b (s.stab b hb) (fun h => h),fun _ _ _ _ _ hr => hext.room hr⟩
  obtain ⟨v1,v2⟩ := hv ρ' e1 e2 l;refine ⟨ρ',s.post (m := 1) (new := [b]) (x := x) (y := y) ⟨hext,rfl,fun k hk => e2 k (by omega),fun _ h => h,fun _ h => .inl h,fun k p hk1 hk2 hp => ?_,fun k k' p p' a1 a2 a3 a4 _ _ _ => by omega,v1,fun j b' hb => ?_⟩,v1,l⟩
  · have : k = h.length := by omega
    subst this;rw [e1] at hp;obtain ⟨g1,g2⟩ := hq p hp;exact ⟨g1,g2,fun hS => by have := s.stab _ hS;omega⟩
  · cases j with
    | zero =>
      simp only [fD,Option.some.injEq] at hb;subst hb;rw [Nat.add_zero,e1];exact v2
    | succ j => simp at hb
theorem QB {w w' : World} (h : RowKit.Below w.heap.size w w') : oG (fun _ => False) w w' :=
  ⟨h.os,h.tape,h.output,h.size,fun b hb _ => h.block b hb,fun b c e fz hc => ⟨c,fz,by rw [h.block b (bA.1 hc).1];exact hc,rfl⟩⟩
theorem HS.kept {c : qT} {ρ : Pl} {S : Nat → Prop} {h : Hp} {w w' : World} (s : HS c ρ S h w) (hext : oG (fun _ => False) w w') : HS c ρ S h w' := by
  have := s.post (m := 0) (new := []) (x := .any) (y := .nilIface) (ρ' := ρ) (S' := S) (w' := w') ⟨hext,rfl,fun _ _ => rfl,fun _ h => h,fun _ h => .inl h,fun k p a1 a2 _ => by omega,fun k k' p p' a1 a2 => by omega,by simp [R],fun j b hb => by simp at hb⟩
  simpa using this
end
def zB7 (H : Hp) (pos : Nat) : List AB → Hp
  | [] => H
  | b :: _ => H.set pos b
theorem WY (A B : Hp) (b c : AB) : (A ++ (c :: B)).set A.length b = A ++ (b :: B) := by
  rw [nU _ _ (aY _),jI];rfl
def nK (P : Program) (o : Oper) (env : eG) (h : Hp) (pos k : Nat) (nb : AB) (x : AV) (new : List AB) : Prop :=
  ∀ c ρ S a w H,HS c ρ S H w → FY ρ S env h a w → (∀ (j : Nat) b,h[j]? = some b → b ≠ .gone → H[j]? = some b) → (new = [] ∨ (ρ pos = none ∧ H[pos]? = some .gone ∧ c.m ≤ pos)) → ∀ (K : Act → World → Prop) Q,
    (∀ y ρ' S' w',HS c ρ' S' (zB7 (H.set k nb) pos new) w' → jZ ρ ρ' S S' w w' → R S' w' x ρ' y → (∀ j,(new ≠ [] → j ≠ pos) → ρ' j = ρ j) → K (a.put o.dst y) w') → o.wp P a w K Q
theorem nK.more {P : Program} {o : Oper} {env env' : eG} {h : Hp} {pos k : Nat} {nb : AB} {x : AV} {new : List AB} (hs : nK P o env h pos k nb x new) (he : ∀ t u,look env t = some u → look env' t = some u) : nK P o env' h pos k nb x new :=
  fun c ρ S a w H g p => hs c ρ S a w H g ⟨fun t u hu => p.env t u (he t u hu),p.rng,p.blk,p.live,p.stab,p.glob⟩
theorem BD.a {P : Program} {op : Op} {ty : TypeId} {ps : String} {af : Array Edge} {env : eG} {h : Hp} {pos k : Nat} {nb : AB} (hs : BD P ⟨none,op,ty,ps,af,none⟩ env h k nb) : nK P ⟨none,op,ty,ps,af,none⟩ env h pos k nb (.v undef) [] :=
  fun c ρ S a w H g p hb _ K Q hK => hs c ρ S a w H g p hb K Q fun _ w' hh l => hK undef ρ S w' hh l (iI _) (fun _ _ => rfl)
theorem zG.astep {P : Program} {n : Nat × Nat} {c : qT} {env : eG} {h h' : Hp} {all : List oH} {L L' : Nat → Bool} {ρ ρ' : Pl} {S S' : Nat → Prop} {a : Act} {w w' : World} {i : Nat} {f : oH} {y : Value} (s : zG P n c env h all L ρ S a w)
    (hf : all[i]? = some f) (hL : ∀ j,L' j = (L j || Nat.beq j i)) (hd : BV f.d n = true) (hnd : (lL all).Nodup) (henv : ∀ t x,look env t = some x → t ∉ lL all)
    (hh : HS c ρ' S' (h' ++ lY L' 0 all) w') (hl : h'.length = h.length) (l : jZ ρ ρ' S S' w w') (hv : R S' w' f.x ρ' y) (hρ : ∀ j,(f.new ≠ [] → j ≠ h.length + pJ (all.take i)) → ρ' j = ρ j) (hn1 : f.new.length ≤ 1) :
    zG P n c env h' all L' ρ' S' (a.put f.d y) w' := by
  have hil : i < all.length := (aA.1 hf).1;have dst_ne : ∀ {j : Nat} {g : oH} {t : Nat},all[j]? = some g → j ≠ i → g.d = some t → f.d ≠ some t := fun {j g t} hg hne hgt hft => by
    have key : ∀ {l : List oH} {i j : Nat} {f g : oH},(lL l).Nodup → l[i]? = some f → l[j]? = some g → i < j → f.d = some t → g.d = some t → False := by
      intro l
      induction l with
      | nil => intro i j f g _ h1;simp at h1
      | cons e l ih =>
        intro i j f g hnd h1 h2 hij hf hg;have tail : (lL l).Nodup := by
          unfold lL at hnd ⊢;rw [kB] at hnd;split at hnd
          · exact hnd
          · exact (cP.1 hnd).2
        cases j with
        | zero => omega
        | succ j =>
          simp only [jK] at h2;cases i with
          | zero =>
            simp only [fD,Option.some.injEq] at h1;subst h1;unfold lL at hnd;rw [kB,hf] at hnd;exact (cP.1 hnd).1 (fX.2 ⟨g,bD h2,hg⟩)
          | succ i => exact ih tail (by simpa using h1) h2 (by omega) hf hg
    rcases L5 hne with h1 | h1
    · exact key hnd hg hf h1 hgt hft
    · exact key hnd hf hg h1 hft hgt
  have other : ∀ {t : Nat},f.d ≠ some t → (a.put f.d y).tmps.getD t undef = a.tmps.getD t undef := fun {t} ht => by
    cases hfd : f.d with
    | none => rfl
    | some d => exact uT (fun e => ht (by rw [hfd,e]))
  refine ⟨by rw [kH];exact s.size,by rw [iO];exact s.defers.later l,s.cm,fun t x hx => ?_,fun j g t hg hj ht => ?_,hh,fun j g hg hj k hk => ?_⟩
  · rw [other (fun e => henv t x hx (fX.2 ⟨f,bD hf,e⟩))];exact (s.env0 t x hx).later l
  · by_cases hji : j = i
    · subst hji;rw [hf] at hg;cases hg;rw [ht] at hd ⊢;have hlt : t < a.tmps.size := by rw [s.size];exact bE hd
      rw [wN hlt];exact hv
    · rw [other (dst_ne hg hji ht)];have hjL : L j = true := by
        rw [hL] at hj;rcases lK.1 hj with hj | hj
        · exact hj
        · exact absurd (aP hj) hji
      exact (s.done j g t hg hjL ht).later l
  · have hjL : L j = false := by rw [hL] at hj;exact (tA.1 hj).1
    have hji : j ≠ i := fun e => by rw [hL,e,iP,G4] at hj;cases hj
    have := s.undone j g hg hjL k hk;rw [hl];rw [hρ _ (fun hne e => ?_)];exact this;have lens_take : ∀ (l : List oH) (a b : Nat) (f : oH),a < b → l[a]? = some f → pJ (l.take a) + f.new.length ≤ pJ (l.take b) := by
      intro l
      induction l with
      | nil => intro a b f _ h;simp at h
      | cons e l ih =>
        intro a b f hab h;cases b with
        | zero => omega
        | succ b =>
          cases a with
          | zero => simp at h;subst h;simp [pJ]
          | succ a => simp only [uB,pJ];have := ih a b f (by omega) (by simpa using h);omega
    rcases L5 hji with h1 | h1
    · have := lens_take all j i g h1 hg;omega
    · have := lens_take all i j f h1 hf;have h2 : 0 < f.new.length := List.length_pos_iff.2 hne;omega
def zQ0 (P : Program) (n : Nat × Nat) (ops : Array Oper) (pres : List (List Nat)) (ss : List (Nat × Nat)) (ds : List Nat) (env : eG) (h : Hp) (effs : List oH) (don : List AB) (K : eG → Hp → Prop) : Prop :=
  ∃ more mb,(effs ++ more).length = pres.length ∧ (don ++ mb).length = ss.length ∧ lL (effs ++ more) = ds ∧
    (∀ i f pre,effs.length ≤ i → (effs ++ more)[i]? = some f → pres[i]? = some pre →
      ((∀ x,x ∈ ss → x.1 ≠ i) ∧ OG P ops i (D8 env ((effs ++ more).take i) pre) (seeH pres i pre ss (don ++ mb) h ++ lY (fun j => pre.any (Nat.beq j)) 0 ((effs ++ more).take i)) f) ∨
      (∃ (m k : Nat) (b : AB) (o : Oper),ss[m]? = some (i,k) ∧ (don ++ mb)[m]? = some b ∧ o.dst = f.d ∧ f.new.length ≤ 1 ∧ ops[i]? = some o ∧ (o.guard = none ∨ ∃ g want t,o.guard = some (g,want) ∧ (ops[g]?).bind (·.dst) = some t ∧ look (D8 env ((effs ++ more).take i) pre) t = some (.b want)) ∧ k < h.length ∧ nK P o (D8 env ((effs ++ more).take i) pre) (seeH pres i pre ss (don ++ mb) h ++ lY (fun j => pre.any (Nat.beq j)) 0 ((effs ++ more).take i)) (h.length + pJ ((effs ++ more).take i)) k b f.x f.new)) ∧
    VC P n ops (ops.toList.drop pres.length) (D8 env (effs ++ more) (List.range pres.length)) (gX (fun _ => true) ss (don ++ mb) h ++ lY (fun _ => true) 0 (effs ++ more)) K
theorem VD {P : Program} {n : Nat × Nat} {env : eG} {h : Hp} {Q : Exit → eG → Hp → Prop} {id : Nat} {l : List Oper} (pres : List (List Nat)) (ds : List Nat) (ss : List (Nat × Nat)) (hm : P.follows .mixedOrders = true) (hok : wL l.toArray pres = true) (hss : RC pres ss = true) (hssl : (ss.all fun x => Nat.blt x.1 pres.length) = true) (hnd : ds.Nodup) (hds : (ds.all fun d => Nat.blt d n.1) = true) (hsz : Nat.ble pres.length l.length = true)
    (hv : zQ0 P n l.toArray pres ss ds (fO ds env) h [] [] (fun v h => Q .normal v h)) (hndf : pP l = true := by rfl) : AW P n (.region id l.toArray true) env h Q := by
  intro c ρ S a w QX s hX;refine wI hm hndf ?_;have hQ : ∀ (env' : eG) (h' : Hp) ρ' S' a' w',Q .normal env' h' → qU n c ρ' S' env' h' a' w' → (fun e a w => e = Exit.normal ∧ QX Exit.normal a w) Exit.normal a' w' := fun env' h' ρ' S' a' w' k s' => ⟨rfl,hX .normal env' h' ρ' S' a' w' k s'⟩
  generalize (fun e a w => e = Exit.normal ∧ QX Exit.normal a w) = QQ at hQ ⊢;obtain ⟨all,bs,h1,hbl,h2,h3,h4⟩ := hv;simp only [List.nil_append,List.length_nil,cH,true_implies] at h1 hbl h2 h3 h4;have hAT : ∀ L : Nat → Bool,(∀ j,j < pres.length → L j = true) → gX L ss bs h = gX (fun _ => true) ss bs h := fun L hL => uA ss bs h fun x hx => hL x.1 (by have := dR.1 hssl x hx;exact bE this)
  have hple : pres.length ≤ l.toArray.size := by simpa using bE hsz
  have henv : ∀ t x,look (fO ds env) t = some x → look env t = some x ∧ t ∉ lL all := fun t x hx => by rw [h2];exact nL hx
  -- the first operations,in whatever order
  have key : ∀ (fuel : Nat) (listed : Array Bool) (U : List Nat) (ρ : Pl) (S : Nat → Prop) (a : Act) (w : World),listed.size = l.toArray.size → (∀ j,j < l.toArray.size → listed.getD j false = false → j ∈ U) → U.length ≤ fuel → (∀ j,pres.length ≤ j → listed.getD j false = false) →
      (∀ (i : Nat) o,l.toArray[i]? = some o → listed.getD i false = true → ∀ e,e ∈ o.after → Region.binds .any e = true → listed.getD e.on false = true) →
      zG P n c (fO ds env) (gX (fun j => listed.getD j false) ss bs h) all (fun j => listed.getD j false) ρ S a w → wpAny P .any l.toArray QQ fuel listed a w := by
    intro fuel
    induction fuel with
    | zero =>
      intro listed U ρ S a w hls hU hUl htail hcl st;have hU0 : U = [] := bW (by omega)
      subst hU0;have hall : ∀ j,j < l.toArray.size → listed.getD j false = true := fun j hj => by
        cases hb : listed.getD j false with
        | true => rfl
        | false => exact absurd (hU j hj hb) (by simp)
      have hpm : pres.length = l.toArray.size := by
        rcases qX pres.length l.toArray.size with h5 | h5
        · have := htail pres.length (aY _);rw [hall _ h5] at this;cases this
        · omega
      refine xL (k := pres.length) (r := 0) hok _ _ a w (by omega) (aY _) (aY _) hls (fun j hj => ?_) (h4 c ρ S a w QQ ?_ fun env' h' ρ' S' a' w' k s' => hQ env' h' ρ' S' a' w' k s')
      · rw [hall j hj];simp;omega
      · refine ⟨st.size,st.defers,fun t x hx => ?_,?_,st.cm⟩
        · rcases rD hx with hx | ⟨j,f,h5,h6,h7,rfl⟩
          · exact st.env0 t x hx
          · exact st.done j f t h6 (hall j (by have := (aA.1 h6).1;omega)) h7
        · have := st.hs
          rwa [oX (L := fun j => listed.getD j false) (L' := fun _ => true) all 0 (fun j _ hj => hall j (by omega)),hAT _ (fun j hj => hall j (by omega))] at this
    | succ fuel ih =>
      intro listed U ρ S a w hls hU hUl htail hcl st;by_cases hfl : ∀ j,j < pres.length → listed.getD j false = true
      · -- all of the first ones have come up
        refine xL (k := pres.length) (r := l.toArray.size - pres.length) hok _ _ a w (by omega) (aY _) ?_ hls (fun j hj => ?_) (h4 c ρ S a w QQ ?_ fun env' h' ρ' S' a' w' k s' => hQ env' h' ρ' S' a' w' k s')
        · have hsub : ∀ j,j ∈ List.range' pres.length (l.toArray.size - pres.length) → j ∈ U := fun j hj => by
            rw [List.mem_range'_1] at hj;exact hU j (by omega) (htail j hj.1)
          have := (List.nodup_range' (s := pres.length) (n := l.toArray.size - pres.length)).length_le_of_subset hsub;rw [List.length_range'] at this;omega
        · by_cases hj' : j < pres.length
          · rw [hfl j hj'];simp [hj']
          · rw [htail j (by omega)];simp;omega
        · refine ⟨st.size,st.defers,fun t x hx => ?_,?_,st.cm⟩
          · rcases rD hx with hx | ⟨j,f,h5,h6,h7,rfl⟩
            · exact st.env0 t x hx
            · exact st.done j f t h6 (hfl j (by have := (aA.1 h6).1;omega)) h7
          · have := st.hs
            rwa [oX (L := fun j => listed.getD j false) (L' := fun _ => true) all 0 (fun j _ hj => hfl j (by omega)),hAT _ hfl] at this
      · obtain ⟨j0,hj0,hjf⟩ : ∃ j,j < pres.length ∧ listed.getD j false = false := by
          apply Classical.byContradiction;intro hc;apply hfl;intro j hj;cases hb : listed.getD j false with
          | true => rfl
          | false => exact absurd ⟨j,hj,hb⟩ hc
        -- something is ready
        have hex : Region.ready .any l.toArray listed ≠ [] := by
          have least : ∃ j,j < pres.length ∧ listed.getD j false = false ∧ ∀ k,k < j → listed.getD k false = true := by
            have : ∀ b j,j ≤ b → j < pres.length → listed.getD j false = false → ∃ j,j < pres.length ∧ listed.getD j false = false ∧ ∀ k,k < j → listed.getD k false = true := by
              intro b
              induction b with
              | zero => exact fun j hj h5 h6 => ⟨j,h5,h6,fun k hk => by omega⟩
              | succ b ihb =>
                intro j hj h5 h6;by_cases hk : ∃ k,k < j ∧ listed.getD k false = false
                · obtain ⟨k,hk1,hk2⟩ := hk;exact ihb k (by omega) (by omega) hk2
                · refine ⟨j,h5,h6,fun k hk' => ?_⟩
                  cases hb : listed.getD k false with
                  | true => rfl
                  | false => exact absurd ⟨k,hk',hb⟩ hk
            exact this j0 j0 (aY _) hj0 hjf
          obtain ⟨j,h5,h6,h7⟩ := least;intro he;have hlt : j < l.toArray.size := by omega
          have : j ∈ Region.ready .any l.toArray listed := mem_ready.2 ⟨by
            have e : listed.getD j true = listed.getD j false := by simp only [Array.getD,hls,hlt,dif_pos]
            rw [e,h6],_,eQ hlt,fun e he hb => h7 _ (nS hok (eQ hlt) e he hb)⟩
          rw [he] at this;cases this
        refine ⟨fun h5 => absurd h5 hex,fun i hi => ?_⟩
        obtain ⟨g1,o,ho,hall⟩ := mem_ready.1 hi;have hil : i < l.toArray.size := (bA.1 ho).1;have g1' : listed.getD i false = false := by
          have e : listed.getD i true = listed.getD i false := by simp only [Array.getD,hls,hil,dif_pos]
          rw [← e];exact g1
        have him : i < pres.length := by
          rcases qX i pres.length with h5 | h5
          · exact h5
          · obtain ⟨e,he,hb,hon⟩ := zY hok ho h5 j0 (by omega)
            have := hall e he hb;rw [hon,hjf] at this;cases this
        have hfi : all[i]? = some all[i] := aB (by omega)
        obtain ⟨pre,hpre⟩ : ∃ pre,pres[i]? = some pre := ⟨_,aB him⟩
        -- its predecessors have come up
        have up : ∀ (b k : Nat) (p : List Nat),k ≤ b → pres[k]? = some p → (k = i ∨ listed.getD k false = true) → ∀ j,j ∈ p → listed.getD j false = true := by
          intro b
          induction b with
          | zero =>
            intro k p hk hp _ j hj;obtain ⟨ok,hok1⟩ : ∃ o,l.toArray[k]? = some o := ⟨_,eQ (by have := (aA.1 hp).1;omega)⟩
            have := (uP hok hok1 hp j hj).1;omega
          | succ b ihb =>
            intro k p hk hp hki j hj;obtain ⟨ok,hok1⟩ : ∃ o,l.toArray[k]? = some o := ⟨_,eQ (by have := (aA.1 hp).1;omega)⟩
            obtain ⟨_,e,he,hb,hor⟩ := uP hok hok1 hp j hj;have hle : listed.getD e.on false = true := by
              rcases hki with rfl | hki
              · rw [ho] at hok1;cases hok1;exact hall e he hb
              · exact hcl k ok hok1 hki e he hb
            rcases hor with hor | hor
            · rw [← hor];exact hle
            · have hon := nS hok hok1 e he hb;cases hpe : pres[e.on]? with
              | none => rw [aH,hpe] at hor;simp at hor
              | some p' =>
                rw [aH,hpe] at hor;exact ihb e.on p' (by omega) hpe (.inr hle) j hor
        have hprel : ∀ j,j ∈ pre → listed.getD j false = true := up i i pre (aY _) hpre (.inl rfl);have hH0 : (gX (fun j => listed.getD j false) ss bs h).length = h.length := vA _ _ _ _;have hhv : (seeH pres i pre ss bs h).length = h.length := zS _ _ _ _ _;have hbel : ∀ (k : Nat) b,(seeH pres i pre ss bs h)[k]? = some b → b ≠ .gone → (gX (fun j => listed.getD j false) ss bs h)[k]? = some b := by
          refine CN ss bs h h hbl rfl (fun _ _ hb _ => hb) (fun x _ hp => hprel _ (sK.1 hp)) (fun x hx _ hbf => ?_);cases hlx : listed.getD x.1 false with
          | false => rfl
          | true =>
            rcases lK.1 hbf with h5 | h5
            · rw [aP h5,g1'] at hlx;cases hlx
            · cases hpx : pres[x.1]? with
              | none => rw [aH,hpx] at h5;simp at h5
              | some px =>
                rw [aH,hpx] at h5;have := up x.1 x.1 px (aY _) hpx (.inr hlx) i (sK.1 h5);rw [g1'] at this;cases this
        have hbel2 : ∀ (k : Nat) b,(seeH pres i pre ss bs h ++ lY (fun j => pre.any (Nat.beq j)) 0 (all.take i))[k]? = some b → b ≠ .gone → (gX (fun j => listed.getD j false) ss bs h ++ lY (fun j => listed.getD j false) 0 all)[k]? = some b := fun k b hb hgb => by
          by_cases hk : k < h.length
          · rw [aG (by omega)] at hb ⊢;exact hbel k b hb hgb
          · rw [aK (by omega)] at hb ⊢
            rw [hhv] at hb;rw [hH0];have h5 := W7 (L' := fun j => listed.getD j false) _ _ _ _ (fun j hj => hprel j (sK.1 hj)) hb hgb;have h6 : lY (fun j => listed.getD j false) 0 all = lY (fun j => listed.getD j false) 0 (all.take i) ++ lY (fun j => listed.getD j false) (0 + (all.take i).length) (all.drop i) := by
              rw [← uL,hC]
            rw [h6,aG (aA.1 h5).1];exact h5
        have hpreP : FY ρ S (D8 (fO ds env) (all.take i) pre) (seeH pres i pre ss bs h ++ lY (fun j => pre.any (Nat.beq j)) 0 (all.take i)) a w := by
          refine ⟨fun t x hx => ?_,st.hs.rng,fun k b hb => ?_,fun k b p hb hgb hp => (st.hs.live k b p (hbel2 k b hb hgb) hgb hp).2,st.hs.stab,st.hs.glob⟩
          · rcases rD hx with hx | ⟨j,f,h5,h6,h7,rfl⟩
            · exact st.env0 t x hx
            · rw [dA] at h6;split at h6
              · exact st.done j f t h6 (hprel j h5) h7
              · cases h6
          · by_cases hgb : b = .gone
            · subst hgb;trivial
            · exact st.hs.blk k b (hbel2 k b hb hgb)
        have hposl : (seeH pres i pre ss bs h ++ lY (fun j => pre.any (Nat.beq j)) 0 (all.take i)).length = (gX (fun j => listed.getD j false) ss bs h).length + pJ (all.take i) := by rw [aF,qB,hhv,hH0]
        have hokd : BV all[i].d n = true := by
          cases hdi : all[i].d with
          | none => rfl
          | some d =>
            have : d ∈ ds := by rw [← h2];exact fX.2 ⟨all[i],dB _,hdi⟩
            exact dR.1 hds d this
        -- on,jQ it
        have hget : ∀ j,(listed.setIfInBounds i true).getD j false = (listed.getD j false || Nat.beq j i) := fun j => by
          by_cases hij : i = j
          · subst hij;rw [iP,G4];simp only [Array.getD,Array.size_setIfInBounds,hls,hil,dif_pos];simp
          · rw [getD_set_ne false hij,show Nat.beq j i = false from by rw [← fE];intro hb;have := aP hb;omega,nJ]
        have onS : ∀ ρ' S' a' w',zG P n c (fO ds env) (gX (fun j => (listed.setIfInBounds i true).getD j false) ss bs h) all (fun j => (listed.setIfInBounds i true).getD j false) ρ' S' a' w' → wpAny P .any l.toArray QQ fuel (listed.setIfInBounds i true) a' w' := fun ρ' S' a' w' st' => by
          have hiU : i ∈ U := hU i hil g1';refine ih (listed.setIfInBounds i true) (U.erase i) ρ' S' _ w' (by simpa using hls) (fun j hj hjl => ?_) (by rw [vD hiU];omega) (fun j hj => ?_) (fun k ok hok1 hkl e he hb => ?_) st'
          · rw [hget] at hjl;obtain ⟨h5,h6⟩ := tA.1 hjl;have hne : j ≠ i := fun e => by rw [e,iP] at h6;cases h6
            exact (A8 hne).2 (hU j hj h5)
          · rw [hget,htail j hj,show Nat.beq j i = false from by rw [← fE];intro hb;have := aP hb;omega];rfl
          · rw [hget] at hkl ⊢;rcases lK.1 hkl with h5 | h5
            · rw [hcl k ok hok1 h5 e he hb];rfl
            · have := aP h5;subst this;rw [ho] at hok1;cases hok1;rw [hall e he hb];rfl
        have yv : ∀ {g t : Nat} {b : Bool},(l.toArray[g]?).bind (·.dst) = some t → look (D8 (fO ds env) (all.take i) pre) t = some (.b b) → yielded l.toArray a.tmps g = some b := fun {g t b} h5 h6 => by
          have h7 := rU (hpreP.env t _ h6);unfold yielded;rw [h5];have : a.tmps[t]? = some (.bool b) := by
            rw [eH] at h7;cases h8 : a.tmps[t]? with
            | none => rw [h8] at h7;simp [undef] at h7
            | some v => rw [h8] at h7;simp at h7;rw [h7]
          simp [this]
        have yvu : ∀ {g t : Nat},(l.toArray[g]?).bind (·.dst) = some t → look (D8 (fO ds env) (all.take i) pre) t = some (.v undef) → yielded l.toArray a.tmps g = none := fun {g t} h5 h6 => by
          have h7 := rU (hpreP.env t _ h6);unfold yielded;rw [h5];rw [eH] at h7;cases h8 : a.tmps[t]? with
          | none => simp [h8]
          | some v => rw [h8] at h7;simp at h7;simp [h8,h7,undef]
        unfold wpOp;rw [ho];simp only;rcases h3 i all[i] pre hfi hpre with ⟨hns,o',ho',hd',hg⟩ | ⟨m,k,b,o',hm1,hm2,hdd,hn1,ho',hgu,hkl,hst⟩
        · rw [ho] at ho';cases ho';have hsame : gX (fun j => (listed.setIfInBounds i true).getD j false) ss bs h = gX (fun j => listed.getD j false) ss bs h := uA ss bs h fun x hx => by
            rw [hget,show Nat.beq x.1 i = false from by rw [← fE];intro hb;exact hns x hx (aP hb),nJ]
          have on : ∀ y ρ' S' w',BH ρ ρ' S S' w w' ((gX (fun j => listed.getD j false) ss bs h).length + pJ (all.take i)) all[i].new.length all[i].x all[i].new y → wpAny P .any l.toArray QQ fuel (listed.setIfInBounds i true) (a.put all[i].d y) w' := fun y ρ' S' w' p => by
            have := st.step (L' := fun j => (listed.setIfInBounds i true).getD j false) hfi g1' hget p hokd (by rw [h2];exact hnd) (fun t x hx => (henv t x hx).2) (by rw [hH0];exact s.hs.mle)
            rw [← hsame] at this;exact onS _ _ _ _ this
          rcases hg with ⟨x,new,hgu,hfs,hx,hn⟩ | ⟨g,want,t,hgu,h5,h6,hx,hn⟩
          · have hw : Region.wanted o (yielded l.toArray a.tmps) = true := by
              rcases hgu with hgu | ⟨g,want,t,hgu,h5,h6⟩
              · exact vM hgu
              · simp [Region.wanted,hgu,yv h5 h6]
            rw [if_pos hw];left;have := hfs ρ S a w hpreP (seeH pres i pre ss bs h ++ lY (fun j => pre.any (Nat.beq j)) 0 (all.take i)).length (fun j hj => by rw [hposl];exact st.undone i _ hfi g1' j hj)
            refine this (wpAny P .any l.toArray QQ fuel (listed.setIfInBounds i true)) QQ fun y ρ' S' w' p => ?_
            rw [hx,hn,hposl] at p;have := on y ρ' S' w' p;rw [← hd'] at this;exact this
          · have hw : Region.wanted o (yielded l.toArray a.tmps) = false := by
              rcases h6 with h6 | h6
              · simp [Region.wanted,hgu,yv h5 h6]
              · simp [Region.wanted,hgu,yvu h5 h6]
            rw [if_neg (by rw [hw];exact vJ)]
            have := on undef ρ S w ⟨oG.refl _ _,rfl,fun _ _ => rfl,fun _ h => h,fun _ h => .inl h,fun k p hk1 hk2 => by rw [hn,List.length_nil] at hk2;omega,fun k k' p p' hk1 hk2 => by rw [hn,List.length_nil] at hk2;omega,by rw [hx];exact iI _,fun j b hb => by rw [hn] at hb;simp at hb⟩
            rw [← hd'] at this;exact this
        · rw [ho] at ho';cases ho';have hw : Region.wanted o (yielded l.toArray a.tmps) = true := by
            rcases hgu with hgu | ⟨g,want,t,hgu,h5,h6⟩
            · exact vM hgu
            · simp [Region.wanted,hgu,yv h5 h6]
          rw [if_pos hw];left;have hap : (gX (fun j => listed.getD j false) ss bs h).set k b = gX (fun j => (listed.setIfInBounds i true).getD j false) ss bs h := by
            rw [AX (L := fun j => listed.getD j false) (L' := fun j => (listed.setIfInBounds i true).getD j false) ss bs h m hss hm1 hm2 g1' hget (fun x hx hlx j hj => ?_)];cases hpx : pres[x.1]? with
            | none => rw [aH,hpx] at hj;simp at hj
            | some px =>
              rw [aH,hpx] at hj;exact up x.1 x.1 px (aY _) hpx (.inr hlx) j hj
          have hil2 : i < all.length := (aA.1 hfi).1;have hsplit : all = all.take i ++ all[i] :: all.drop (i + 1) := by
            have := hC i all;rw [bK hil2] at this;exact this.symm
          have hti : (all.take i).length = i := by rw [dQ];omega
          have sL : ∀ M : Nat → Bool,lY M 0 all = lY M 0 (all.take i) ++ ((match M i with | true => all[i].new | false => List.replicate all[i].new.length .gone) ++ lY M (i + 1) (all.drop (i + 1))) := fun M => by
            conv => lhs;rw [hsplit]
            rw [uL,hti,Nat.zero_add];rfl
          have e1 : lY (fun j => (listed.setIfInBounds i true).getD j false) 0 (all.take i) = lY (fun j => listed.getD j false) 0 (all.take i) := oX _ _ fun j _ hj => by
            rw [hti] at hj;show (listed.setIfInBounds i true).getD j false = _;rw [hget,show Nat.beq j i = false from by rw [← fE];intro hb;have := aP hb;omega,nJ]
          have e2 : lY (fun j => (listed.setIfInBounds i true).getD j false) (i + 1) (all.drop (i + 1)) = lY (fun j => listed.getD j false) (i + 1) (all.drop (i + 1)) := oX _ _ fun j hj _ => by
            show (listed.setIfInBounds i true).getD j false = _;rw [hget,show Nat.beq j i = false from by rw [← fE];intro hb;have := aP hb;omega,nJ]
          have hLi : (listed.setIfInBounds i true).getD i false = true := by rw [hget,iP,G4]
          have hlen := qB (fun j => listed.getD j false) 0 (all.take i);have hA : gX (fun j => listed.getD j false) ss bs h ++ lY (fun j => listed.getD j false) 0 all = (gX (fun j => listed.getD j false) ss bs h ++ lY (fun j => listed.getD j false) 0 (all.take i)) ++ (List.replicate all[i].new.length .gone ++ lY (fun j => listed.getD j false) (i + 1) (all.drop (i + 1))) := by rw [sL (fun j => listed.getD j false)];simp only [g1',fL]
          have hB : gX (fun j => (listed.setIfInBounds i true).getD j false) ss bs h ++ lY (fun j => (listed.setIfInBounds i true).getD j false) 0 all = (gX (fun j => (listed.setIfInBounds i true).getD j false) ss bs h ++ lY (fun j => listed.getD j false) 0 (all.take i)) ++ (all[i].new ++ lY (fun j => listed.getD j false) (i + 1) (all.drop (i + 1))) := by rw [sL (fun j => (listed.setIfInBounds i true).getD j false)];simp only [hLi,e1,e2,fL]
          have hsetk : (gX (fun j => listed.getD j false) ss bs h ++ lY (fun j => listed.getD j false) 0 all).set k b = (gX (fun j => (listed.setIfInBounds i true).getD j false) ss bs h ++ lY (fun j => listed.getD j false) 0 (all.take i)) ++ (List.replicate all[i].new.length .gone ++ lY (fun j => listed.getD j false) (i + 1) (all.drop (i + 1))) := by
            rw [hA,fL,List.set_append_left _ _ (by rw [hH0];exact hkl),hap,fL]
          have hfill : zB7 ((gX (fun j => listed.getD j false) ss bs h ++ lY (fun j => listed.getD j false) 0 all).set k b) (h.length + pJ (all.take i)) all[i].new = gX (fun j => (listed.setIfInBounds i true).getD j false) ss bs h ++ lY (fun j => (listed.setIfInBounds i true).getD j false) 0 all := by
            rw [hsetk,hB];have hpl : (gX (fun j => (listed.setIfInBounds i true).getD j false) ss bs h ++ lY (fun j => listed.getD j false) 0 (all.take i)).length = h.length + pJ (all.take i) := by rw [aF,vA,hlen]
            match hnw : all[i].new,hn1 with
            | [],_ => rfl
            | [q],_ =>
              show List.set _ _ _ = _;rw [← hpl];exact WY _ _ _ _
            | _ :: _ :: _,h9 => exact absurd h9 (by simp)
          refine hst c ρ S a w _ st.hs hpreP hbel2 ?_ (wpAny P .any l.toArray QQ fuel (listed.setIfInBounds i true)) QQ fun y ρ' S' w' hh l' hv hρ => ?_
          · by_cases hnw : all[i].new = []
            · exact .inl hnw
            · have hpos : 0 < all[i].new.length := List.length_pos_iff.2 hnw;refine .inr ⟨by have := st.undone i _ hfi g1' 0 hpos;rwa [Nat.add_zero,hH0] at this,?_,by have := s.hs.mle;omega⟩
              rw [hA,aK (by rw [aF,hlen,hH0];omega),aF,hlen,hH0,jI,aG (by simpa using hpos)]
              simp [kY,hpos]
          · rw [hfill] at hh;have := st.astep (h' := gX (fun j => (listed.setIfInBounds i true).getD j false) ss bs h) (L' := fun j => (listed.setIfInBounds i true).getD j false) hfi hget hokd (by rw [h2];exact hnd) (fun t x hx => (henv t x hx).2) hh (by rw [vA,vA]) l' hv (fun j hj => ?_) hn1
            · rw [hdd];exact onS _ _ _ _ this
            · exact hρ j (by rw [hH0] at hj;exact hj)
  have hsize : l.toArray.size = l.length := by simp
  have hrep : ∀ j,(Array.replicate l.toArray.size false).getD j false = false := fun j => by
    simp only [Array.getD];split <;> simp
  refine key l.toArray.size _ (List.range l.toArray.size) ρ S a _ (by simp) (fun j hj _ => by simpa using hj) (by simp) (fun j _ => hrep j) (fun i o _ hi => by rw [hrep] at hi;cases hi) ?_
  have hseg : ∀ (r : List oH) (i : Nat),lY (fun _ => false) i r = List.replicate (pJ r) .gone := by
    intro r
    induction r with
    | nil => intro i;rfl
    | cons f r ih => intro i;simp only [lY,ih,pJ,List.replicate_append_replicate]
  have hL : (fun j => (Array.replicate l.toArray.size false).getD j false) = fun _ => false := funext hrep
  rw [hL,show gX (fun _ => false) ss bs h = h from ?_]
  rotate_left
  · have : ∀ (ss : List (Nat × Nat)) (bs : List AB) (h : Hp),gX (fun _ => false) ss bs h = h := by
      intro ss
      induction ss with
      | nil => intros;rfl
      | cons x r ihr =>
        intro bs h;cases bs with
        | nil => rfl
        | cons b bs => simp only [gX];exact ihr bs h
    exact this ss bs h
  have l0 : jZ ρ ρ S S w { w with drawn := w.drawn + 1 } := ⟨fun _ _ h => h,fun _ h => h,fun _ _ => rfl,fun _ _ _ _ _ h => h⟩
  refine ⟨s.size,s.defers.later l0,s.cm,fun t x hx => (s.env t x (nL hx).1).later l0,fun i f t _ hi => (by cases hi),?_,fun i f _ _ j _ => s.hs.dom _ (by omega)⟩
  rw [hseg];have ext : oG c.M c.w0 { w with drawn := w.drawn + 1 } := s.hs.ext.drew;have at_ : ∀ {k : Nat} {b : AB},(h ++ List.replicate (pJ all) .gone)[k]? = some b → b ≠ .gone → h[k]? = some b := fun {k b} hb hg => by
    by_cases hk : k < h.length
    · rwa [aG hk] at hb
    · rw [aK (by omega),kY] at hb
      split at hb
      · cases hb;exact absurd rfl hg
      · cases hb
  refine ⟨fun k hk => s.hs.dom k (by simp at hk;omega),s.hs.rng,fun k b hb => ?_,fun k b p hb hg hp => s.hs.live k b p (at_ hb hg) hg hp,fun k k' b b' p p' hb hb' hg hg' hp hp' e => s.hs.inj k k' b b' p p' (at_ hb hg) (at_ hb' hg') hg hg' hp hp' e,s.hs.stab,ext,s.hs.st0,s.hs.st1,by simp;exact bU s.hs.mle (kW _ _),s.hs.keep,s.hs.glob.later l0⟩
  by_cases hg : b = .gone
  · subst hg;trivial
  · exact RB.later l0 (fun _ _ _ => rfl) (s.hs.blk k b (at_ hb hg))
def RA (P : Program) (n : Nat × Nat) (ops : List Oper) (pres : List (List Nat)) (ds : List Nat) (bads : List (List Nat)) (ss : List (Nat × Nat)) (env : eG) (h : Hp) (i : Nat) (cur : eG) (objs : List (Nat × Hp)) (don : List AB) (K : eG → Hp → Prop) : Prop :=
  mP ops pres ds bads ss n.1 = true → (∀ t,t ∈ ds → look env t = none) → ∀ effs,BO ops ss env i cur objs don effs → zQ0 P n ops.toArray pres ss ds env h effs don K
section
variable {P : Program} {n : Nat × Nat} {ops : List Oper} {pres : List (List Nat)} {ds : List Nat} {bads : List (List Nat)} {ss : List (Nat × Nat)} {env : eG} {h : Hp} {K : eG → Hp → Prop} {pre bad : List Nat}
theorem VE {Q : Exit → eG → Hp → Prop} {id : Nat} {l : List Oper} (pres : List (List Nat)) (ds : List Nat) (bads : List (List Nat)) (ss : List (Nat × Nat)) (hm : P.follows .mixedOrders = true) (hok : mP l pres ds bads ss n.1 = true)
    (hv : RA P n l pres ds bads ss (fO ds env) h 0 (fO ds env) [] [] (fun v h => Q .normal v h)) (hndf : pP l = true := by rfl) : AW P n (.region id l.toArray true) env h Q := by
  have hok' := hok;simp only [mP,nM,aT,decide_eq_true_eq] at hok';obtain ⟨⟨⟨⟨⟨⟨⟨h1,h2⟩,h3⟩,h4⟩,h5⟩,h6⟩,h7⟩,h8⟩ := hok';refine VD pres ds ss hm h1 h7 h8 h2 h3 h4 (hv hok (fun t ht => ?_) [] ⟨⟨rfl,rfl,rfl,fun j f hf => by simp at hf⟩,fun x _ => cH _⟩) hndf
  cases hl : look (fO ds env) t with
  | none => rfl
  | some x => exact absurd ht (nL hl).2
variable {op : Op} {ty : TypeId} {pos : String} {af : Array Edge} {d : Option Nat} {i : Nat} {cur : eG} {objs : List (Nat × Hp)} {don : List AB}
theorem IH {effs : List oH} {f : oH} (hok : mP ops pres ds bads ss n.1 = true) (g : BO ops ss env i cur objs don effs) (hp : pres[i]? = some pre) (hi : i < ops.length) (hns : (ss.all fun x => !Nat.beq x.1 i) = true)
    (hg : OG P ops.toArray i (D8 env effs pre) (seeH pres i pre ss don h ++ nF pre objs) f) (hk : zQ0 P n ops.toArray pres ss ds env h (effs ++ [f]) don K) : zQ0 P n ops.toArray pres ss ds env h effs don K := by
  obtain ⟨more,mb,h1,h0,h2,h3,h4⟩ := hk;have e : effs ++ [f] ++ more = effs ++ (f :: more) := by simp
  rw [e] at h1 h2 h3 h4;have hie : effs.length = i := g.g.len;refine ⟨f :: more,mb,h1,h0,h2,fun j q p hj hgj hpj => ?_,h4⟩
  by_cases hji : j = i
  · subst hji;rw [hp] at hpj;cases hpj;rw [aK (by omega),hie,jI] at hgj
    simp at hgj;subst hgj;left;refine ⟨fun x hx hxe => ?_,?_⟩
    · have := dR.1 hns x hx;rw [hxe,iP] at this;cases this
    · rw [pS,bC (by omega),hie,jI,g.seeH hok hi hp mb]
      simp only [L6,List.append_nil];rw [oM,← g.g.objs];exact hg
  · exact h3 j q p (by simp;omega) hgj hpj
theorem gA {dd : Nat} {u : AV} (ho : ops[i]? = some ⟨some dd, op, ty, pos, af, none⟩) (hp : pres[i]? = some pre) (hb : bads[i]? = some bad) (hns : (ss.all fun x => !Nat.beq x.1 i) = true) (hs : bR P ⟨some dd, op, ty, pos, af, none⟩ (fO bad cur) (seeH pres i pre ss don h ++ nF pre objs) 0 (fun _ => u) (fun _ => []))
    (hk : RA P n ops pres ds bads ss env h (i + 1) ((dd,u) :: cur) objs don K) : RA P n ops pres ds bads ss env h i cur objs don K := by
  intro hok hen effs g;refine IH (f := ⟨some dd,u,[]⟩) hok g hp (aA.1 ho).1 hns ⟨_,by simpa using ho,rfl,.inl ⟨fun _ => u,fun _ => [],.inl rfl,hs.more (g.g.see (QJ hok) hp hb),rfl,rfl⟩⟩ (hk hok hen _ (g.next (g.g.snoc (f := ⟨some dd,u,[]⟩) ho rfl rfl) hns))
theorem AL {dd : Nat} {u : Nat → AV} {b : Nat → List AB} {m : Nat} (ho : ops[i]? = some ⟨some dd, op, ty, pos, af, none⟩) (hp : pres[i]? = some pre) (hb : bads[i]? = some bad) (hns : (ss.all fun x => !Nat.beq x.1 i) = true) (hs : bR P ⟨some dd, op, ty, pos, af, none⟩ (fO bad cur) (seeH pres i pre ss don h ++ nF pre objs) (m + 1) u b) (hm : (b (seeH pres i pre ss don h ++ nF pre objs).length).length = m + 1)
    (hk : RA P n ops pres ds bads ss env h (i + 1) ((dd,u (seeH pres i pre ss don h ++ nF pre objs).length) :: cur) (objs ++ [(i,b (seeH pres i pre ss don h ++ nF pre objs).length)]) don K) : RA P n ops pres ds bads ss env h i cur objs don K := by
  intro hok hen effs g;refine IH (f := ⟨some dd,u (seeH pres i pre ss don h ++ nF pre objs).length,b (seeH pres i pre ss don h ++ nF pre objs).length⟩) hok g hp (aA.1 ho).1 hns ⟨_,by simpa using ho,rfl,.inl ⟨u,b,.inl rfl,by simp only [hm];exact hs.more (g.g.see (QJ hok) hp hb),rfl,rfl⟩⟩ ?_
  refine hk hok hen _ (g.next (g.g.snoc' (f := ⟨some dd,u (seeH pres i pre ss don h ++ nF pre objs).length,b (seeH pres i pre ss don h ++ nF pre objs).length⟩) ho rfl ?_) hns)
  intro e2;rw [show b (seeH pres i pre ss don h ++ nF pre objs).length = [] from e2] at hm
  cases hm
theorem FL {k : Nat} {nb : AB} {t : TypeId} {x y : Operand} {j : TI} {u v : AV} {xs : List AV} (ho : ops[i]? = some ⟨none, .store t x y, ty, pos, af, none⟩) (hp : pres[i]? = some pre) (hb : bads[i]? = some bad) (hm : ss[don.length]? = some (i, k)) (hkl : k < h.length)
    (T : oY P) (hx : evu (fO bad cur) x = some u) (hy : evu (fO bad cur) y = some v) (ht : T.ti t = some j) (hv : v.cellsOf = some xs) (hl : xs.length = j.size) (h1 : xs.all AV.one = true) (h0 : 0 < j.size) (hu : RH (seeH pres i pre ss don h ++ nF pre objs) u xs = some (k,nb))
    (hk : RA P n ops pres ds bads ss env h (i + 1) cur objs (don ++ [nb]) K) : RA P n ops pres ds bads ss env h i cur objs don K := by
  intro hok hen effs g;have hs := RK (P := P) (pos := pos) (ty := ty) (af := af) T hx hy ht hv hl h1 h0 hu;have hi := (aA.1 ho).1;have hgs : M2 ops env (i + 1) cur objs (effs ++ [⟨none,.v undef,[]⟩]) := g.g.snoc (f := ⟨none,.v undef,[]⟩) ho rfl rfl;have hkk := hk hok hen (effs ++ [⟨none,.v undef,[]⟩]) ⟨hgs,fun x hx => ?_⟩
  · obtain ⟨more,mb,g1,g0,g2,g3,g4⟩ := hkk;have e : effs ++ [⟨none,.v undef,[]⟩] ++ more = effs ++ ((⟨none,.v undef,[]⟩ : oH) :: more) := by simp
    have e' : don ++ [nb] ++ mb = don ++ (nb :: mb) := by simp
    rw [e] at g1 g2;rw [e'] at g0;simp only [e,e'] at g3 g4;have hie : effs.length = i := g.g.len;refine ⟨_,_,g1,g0,g2,fun j' q p hj hgj hpj => ?_,g4⟩
    by_cases hji : j' = i
    · subst hji;rw [hp] at hpj;cases hpj;rw [aK (by omega),hie,jI] at hgj
      simp at hgj;subst hgj;right;refine ⟨don.length,k,nb,_,hm,?_,rfl,cH _,by simpa using ho,.inl rfl,hkl,?_⟩
      · rw [aK (aY _),jI];rfl
      · rw [pS,bC (by omega),hie,jI,g.seeH hok hi hp _]
        simp only [L6,List.append_nil];rw [oM,← g.g.objs];exact (BD.more hs (g.g.see (QJ hok) hp hb)).a
    · exact g3 j' q p (by simp;omega) hgj hpj
  · have hok' := hok;simp only [mP,aT] at hok';have hls : don.length < ss.length := (aA.1 hm).1;have e1 : ss.drop don.length = (i,k) :: ss.drop (don.length + 1) := by
      rw [bK hls];have := aB hls;rw [hm] at this;rw [Option.some.inj this]
    have hx' : x ∈ ss.drop (don.length + 1) := by simpa using hx
    have h5 := g.later x (by rw [e1];exact dI _ hx')
    have key : ∀ (ss : List (Nat × Nat)) (m : Nat),RC pres ss = true → ss[m]? = some (i,k) → ∀ x,x ∈ ss.drop (m + 1) → x.1 ≠ i := by
      intro ss
      induction ss with
      | nil => intro m _ h;simp at h
      | cons y r ih =>
        intro m hok h x hx;obtain ⟨s,k'⟩ := y;simp only [RC,aT,dR] at hok;cases m with
        | zero =>
          simp only [fD,Option.some.injEq,Prod.mk.injEq] at h;intro e;have := (hok.1 x (by simpa using hx)).1
          rw [e,h.1,iP] at this;cases this
        | succ m => exact ih m hok.2 (by simpa using h) x (by simpa using hx)
    have := key ss don.length hok'.1.2 hm x hx';omega
theorem zS1 {k dd : Nat} {nb : AB} {u : AV} (ho : ops[i]? = some ⟨some dd, op, ty, pos, af, none⟩) (hp : pres[i]? = some pre) (hb : bads[i]? = some bad) (hm : ss[don.length]? = some (i, k)) (hkl : k < h.length)
    (hs : nK P ⟨some dd,op,ty,pos,af,none⟩ (fO bad cur) (seeH pres i pre ss don h ++ nF pre objs) (seeH pres i pre ss don h ++ nF pre objs).length k nb u [])
    (hk : RA P n ops pres ds bads ss env h (i + 1) ((dd,u) :: cur) objs (don ++ [nb]) K) : RA P n ops pres ds bads ss env h i cur objs don K := by
  intro hok hen effs g;have hi := (aA.1 ho).1;have hgs : M2 ops env (i + 1) ((dd,u) :: cur) objs (effs ++ [⟨some dd,u,[]⟩]) := g.g.snoc (f := ⟨some dd,u,[]⟩) ho rfl rfl;have hkk := hk hok hen (effs ++ [⟨some dd,u,[]⟩]) ⟨hgs,fun x hx => ?_⟩
  · obtain ⟨more,mb,g1,g0,g2,g3,g4⟩ := hkk;have e : effs ++ [⟨some dd,u,[]⟩] ++ more = effs ++ ((⟨some dd,u,[]⟩ : oH) :: more) := by simp
    have e' : don ++ [nb] ++ mb = don ++ (nb :: mb) := by simp
    rw [e] at g1 g2;rw [e'] at g0;simp only [e,e'] at g3 g4;have hie : effs.length = i := g.g.len;refine ⟨_,_,g1,g0,g2,fun j' q p hj hgj hpj => ?_,g4⟩
    by_cases hji : j' = i
    · subst hji;rw [hp] at hpj;cases hpj;rw [aK (by omega),hie,jI] at hgj
      simp at hgj;subst hgj;right;refine ⟨don.length,k,nb,_,hm,?_,rfl,cH _,by simpa using ho,.inl rfl,hkl,?_⟩
      · rw [aK (aY _),jI];rfl
      · rw [pS,bC (by omega),hie,jI,g.seeH hok hi hp _]
        simp only [L6,List.append_nil];rw [oM,← g.g.objs];have hpl : (seeH pres j' pre ss don h ++ nF pre objs).length = h.length + pJ effs := by rw [g.g.objs,← oM,aF,qB];congr 1;exact zS _ _ _ _ _
        rw [hpl] at hs;exact nK.more hs (g.g.see (QJ hok) hp hb)
    · exact g3 j' q p (by simp;omega) hgj hpj
  · have hok' := hok;simp only [mP,aT] at hok';have hls : don.length < ss.length := (aA.1 hm).1;have e1 : ss.drop don.length = (i,k) :: ss.drop (don.length + 1) := by
      rw [bK hls];have := aB hls;rw [hm] at this;rw [Option.some.inj this]
    have hx' : x ∈ ss.drop (don.length + 1) := by simpa using hx
    have h5 := g.later x (by rw [e1];exact dI _ hx')
    have key : ∀ (ss : List (Nat × Nat)) (m : Nat),RC pres ss = true → ss[m]? = some (i,k) → ∀ x,x ∈ ss.drop (m + 1) → x.1 ≠ i := by
      intro ss
      induction ss with
      | nil => intro m _ h;simp at h
      | cons y r ih =>
        intro m hok h x hx;obtain ⟨s,k'⟩ := y;simp only [RC,aT,dR] at hok;cases m with
        | zero =>
          simp only [fD,Option.some.injEq,Prod.mk.injEq] at h;intro e;have := (hok.1 x (by simpa using hx)).1
          rw [e,h.1,iP] at this;cases this
        | succ m => exact ih m hok.2 (by simpa using h) x (by simpa using hx)
    have := key ss don.length hok'.1.2 hm x hx';omega
theorem F6 {k dd : Nat} {nb : AB} {u : AV} {b1 : AB} (ho : ops[i]? = some ⟨some dd, op, ty, pos, af, none⟩) (hp : pres[i]? = some pre) (hb : bads[i]? = some bad) (hm : ss[don.length]? = some (i, k)) (hkl : k < h.length)
    (hs : nK P ⟨some dd,op,ty,pos,af,none⟩ (fO bad cur) (seeH pres i pre ss don h ++ nF pre objs) (seeH pres i pre ss don h ++ nF pre objs).length k nb u [b1])
    (hk : RA P n ops pres ds bads ss env h (i + 1) ((dd,u) :: cur) (objs ++ [(i,[b1])]) (don ++ [nb]) K) : RA P n ops pres ds bads ss env h i cur objs don K := by
  intro hok hen effs g;have hi := (aA.1 ho).1;have hgs : M2 ops env (i + 1) ((dd,u) :: cur) (objs ++ [(i,[b1])]) (effs ++ [⟨some dd,u,[b1]⟩]) := g.g.snoc' (f := ⟨some dd,u,[b1]⟩) ho rfl (by simp)
  have hkk := hk hok hen (effs ++ [⟨some dd,u,[b1]⟩]) ⟨hgs,fun x hx => ?_⟩
  · obtain ⟨more,mb,g1,g0,g2,g3,g4⟩ := hkk;have e : effs ++ [⟨some dd,u,[b1]⟩] ++ more = effs ++ ((⟨some dd,u,[b1]⟩ : oH) :: more) := by simp
    have e' : don ++ [nb] ++ mb = don ++ (nb :: mb) := by simp
    rw [e] at g1 g2;rw [e'] at g0;simp only [e,e'] at g3 g4;have hie : effs.length = i := g.g.len;refine ⟨_,_,g1,g0,g2,fun j' q p hj hgj hpj => ?_,g4⟩
    by_cases hji : j' = i
    · subst hji;rw [hp] at hpj;cases hpj;rw [aK (by omega),hie,jI] at hgj
      simp at hgj;subst hgj;right;refine ⟨don.length,k,nb,_,hm,?_,rfl,aY _,by simpa using ho,.inl rfl,hkl,?_⟩
      · rw [aK (aY _),jI];rfl
      · rw [pS,bC (by omega),hie,jI,g.seeH hok hi hp _]
        simp only [L6,List.append_nil];rw [oM,← g.g.objs];have hpl : (seeH pres j' pre ss don h ++ nF pre objs).length = h.length + pJ effs := by rw [g.g.objs,← oM,aF,qB];congr 1;exact zS _ _ _ _ _
        rw [hpl] at hs;exact nK.more hs (g.g.see (QJ hok) hp hb)
    · exact g3 j' q p (by simp;omega) hgj hpj
  · have hok' := hok;simp only [mP,aT] at hok';have hls : don.length < ss.length := (aA.1 hm).1;have e1 : ss.drop don.length = (i,k) :: ss.drop (don.length + 1) := by
      rw [bK hls];have := aB hls;rw [hm] at this;rw [Option.some.inj this]
    have hx' : x ∈ ss.drop (don.length + 1) := by simpa using hx
    have h5 := g.later x (by rw [e1];exact dI _ hx')
    have key : ∀ (ss : List (Nat × Nat)) (m : Nat),RC pres ss = true → ss[m]? = some (i,k) → ∀ x,x ∈ ss.drop (m + 1) → x.1 ≠ i := by
      intro ss
      induction ss with
      | nil => intro m _ h;simp at h
      | cons y r ih =>
        intro m hok h x hx;obtain ⟨s,k'⟩ := y;simp only [RC,aT,dR] at hok;cases m with
        | zero =>
          simp only [fD,Option.some.injEq,Prod.mk.injEq] at h;intro e;have := (hok.1 x (by simpa using hx)).1
          rw [e,h.1,iP] at this;cases this
        | succ m => exact ih m hok.2 (by simpa using h) x (by simpa using hx)
    have := key ss don.length hok'.1.2 hm x hx';omega
theorem yI (hi : pres.length = i) (hdl : don.length = ss.length) {rest : List Oper} {h' : Hp} (hr : ops.drop i = rest) (hh : gX (fun _ => true) ss don h ++ gO objs = h')
    (hk : VC P n ops.toArray rest cur h' K) : RA P n ops pres ds bads ss env h i cur objs don K := by
  intro hok hen effs gs;have g := gs.g;have hok' := QJ hok;simp only [nM,aT,decide_eq_true_eq] at hok';obtain ⟨⟨⟨⟨⟨h1,h2⟩,h3⟩,h4⟩,h5⟩,h6⟩ := hok';have hds : lL effs = ds := by
    rw [← h5];have hle : i ≤ ops.length := by rw [← hi];exact bE h4
    unfold lL;have : effs.map (·.d) = (ops.take pres.length).map (·.dst) := by
      apply fU;intro j;simp only [aU,dA,hi];by_cases hj : j < i
      · rw [if_pos hj];have hje : j < effs.length := by rw [g.len];exact hj
        obtain ⟨o,ho,hod⟩ := g.dst j effs[j] (aB hje);rw [aB hje,ho];simp [hod]
      · rw [if_neg hj,dX (by rw [g.len];omega)];rfl
    have e1 : effs.filterMap (·.d) = (effs.map (·.d)).filterMap id := by rw [L8];rfl
    have e2 : (ops.take pres.length).filterMap (·.dst) = ((ops.take pres.length).map (·.dst)).filterMap id := by rw [L8];rfl
    rw [e1,e2,this]
  refine ⟨[],[],by rw [List.append_nil,g.len,hi],by rw [List.append_nil];exact hdl,by rw [List.append_nil];exact hds,fun j f pre hj hf _ => ?_,?_⟩
  · have := (aA.1 hf).1;simp at this;omega
  rw [List.append_nil,List.append_nil];have el : effs.length = pres.length := by rw [g.len,hi]
  rw [← el,mS,N1 0 effs.length (by omega),fJ,← AK,W6,← FC,el,hi]
  rw [N9 effs 0,← g.objs,← G0,hh];rw [show ops.toArray.toList.drop i = rest from by simpa using hr]
  refine hk.moreE fun t x hx => ?_
  rw [g.cur] at hx;exact DH (by have : lL effs = effs.filterMap (·.d) := rfl;rw [← this,hds];exact h2) hx
end
theorem HS.moved {c : qT} {ρ : Pl} {S : Nat → Prop} {H : Hp} {w w' : World} {k pp : Nat} {q : Option (Nat × Nat)} {nb : AB} (g : HS c ρ S H w) (hpk : pp ≠ k) (hH : H[pp]? = some .gone) (hρ : ρ pp = Option.none) (hm : c.m ≤ pp) (hext : oG c.M w w')
    (hoth : ∀ j b,H[j]? = some b → j ≠ k → b ≠ .gone → ∀ b1 o1,ρ j = some (b1,o1) → w'.heap[b1]? = w.heap[b1]?) (hst : ∀ b1,S b1 → w'.heap[b1]? = w.heap[b1]?)
    (hq : ∀ b1 o1,q = some (b1,o1) → c.M b1 ∧ ¬ S b1 ∧ b1 < w'.heap.size ∧ ∀ j b,H[j]? = some b → j ≠ k → b ≠ .gone → ∀ b2 o2,ρ j = some (b2,o2) → b2 ≠ b1)
    (hv : jZ ρ (fun j => if j = pp then q else ρ j) S S w w' → RB S w' (fun j => if j = pp then q else ρ j) q nb) :
    HS c (fun j => if j = pp then q else ρ j) S ((H.set k .gone).set pp nb) w' ∧ jZ ρ (fun j => if j = pp then q else ρ j) S S w w' := by
  have hplt : pp < H.length := (aA.1 hH).1
  have l : jZ ρ (fun j => if j = pp then q else ρ j) S S w w' := ⟨fun j u hu => by
    show (if j = pp then q else ρ j) = _
    rw [if_neg (fun e => by rw [e,hρ] at hu;cases hu)];exact hu,fun _ h => h,hst,fun _ _ _ _ _ hr => hext.room hr⟩
  have v2 := hv l;have hget : ∀ {j : Nat} {b : AB},((H.set k .gone).set pp nb)[j]? = some b → b ≠ .gone → (j ≠ pp ∧ j ≠ k ∧ H[j]? = some b) ∨ (j = pp ∧ b = nb) := fun {j b} hj hg => by
    by_cases hjp : j = pp
    · subst hjp;rw [xH (by simpa using hplt)] at hj
      cases hj;exact .inr ⟨rfl,rfl⟩
    · rw [fM (Ne.symm hjp)] at hj;by_cases hjk : j = k
      · subst hjk;rw [eZ] at hj;simp only [if_true] at hj;split at hj
        · cases hj;exact absurd rfl hg
        · cases hj
      · rw [fM (Ne.symm hjk)] at hj;exact .inl ⟨hjp,hjk,hj⟩
  refine ⟨⟨fun j hj => ?_,fun j u hu => ?_,fun j b hj => ?_,fun j b u hj hg hu => ?_,fun j j' b b' u u' hj hj' hg hg' hu hu' e => ?_,fun b1 hb1 => eA (g.stab b1 hb1) hext.size,g.ext.trans hext (fun _ h _ => h),g.st0,g.st1,by simpa using g.mle,fun j hj => by
      show (if j = pp then q else ρ j) = _
      rw [if_neg (by omega)];exact g.keep j hj,g.glob.later l⟩,l⟩
  · simp at hj;show (if j = pp then q else ρ j) = _
    rw [if_neg (by omega)];exact g.dom j (by omega)
  · by_cases hj : j = pp
    · simp only [hj,if_true] at hu;exact (hq u.1 u.2 hu).2.2.1
    · simp only [hj,if_false] at hu;exact eA (g.rng j u hu) hext.size
  · by_cases hbg : b = .gone
    · subst hbg;trivial
    · rcases hget hj hbg with ⟨h2,h3,h4⟩ | ⟨h2,h3⟩
      · show RB S w' _ (if j = pp then q else ρ j) _
        rw [if_neg h2];exact RB.later l (fun b1 o1 hp1 => hoth j _ h4 h3 hbg b1 o1 hp1) (g.blk j _ h4)
      · subst h2;show RB S w' _ (if j = j then q else ρ j) _
        rw [if_pos rfl,h3];exact v2
  · rcases hget hj hg with ⟨h2,h3,h4⟩ | ⟨h2,h3⟩
    · rw [if_neg h2] at hu;exact g.live j b u h4 hg hu
    · rw [if_pos h2] at hu;exact ⟨(hq u.1 u.2 hu).1,(hq u.1 u.2 hu).2.1⟩
  · rcases hget hj hg with ⟨h2,h3,h4⟩ | ⟨h2,h3⟩ <;> rcases hget hj' hg' with ⟨h2',h3',h4'⟩ | ⟨h2',h3'⟩
    · rw [if_neg h2] at hu;rw [if_neg h2'] at hu';exact g.inj j j' b b' u u' h4 h4' hg hg' hu hu' e
    · rw [if_neg h2] at hu;rw [if_pos h2'] at hu';exact absurd e ((hq u'.1 u'.2 hu').2.2.2 j b h4 h3 hg u.1 u.2 hu)
    · rw [if_neg h2'] at hu';rw [if_pos h2] at hu;exact absurd e.symm ((hq u.1 u.2 hu).2.2.2 j' b' h4' h3' hg' u'.1 u'.2 hu')
    · omega
section
variable {P : Program} {env : eG} {h : Hp}
variable {ty : TypeId} {pos : String} {af : Array Edge}
theorem sG (T : oY P) {t e k off len sz pp dd : Nat} {i : TI} {x y : Operand} {v : AV} {es news : List (List AV)} (hx : evu env x = some (.sl k off len sz)) (hy : evu env y = some v) (ht : T.elem t = some e) (he : T.ti e = some i) (hs : i.size = sz)
    (hkk : h[k]? = some (.arr es sz)) (hle : off + len ≤ es.length) (hn : iU h v news sz) (h1 : news.flatten.all AV.one = true) (hb : (len + news.length) * i.bytes ≤ 140737488355328) (h63 : len + news.length ≤ 9223372036854775807) :
    nK P ⟨some dd,.call { callee := .builtin .append,args := #[x,y],argTypes := #[t,t] },ty,pos,af,none⟩ env h pp k .gone (.sl pp 0 (len + news.length) sz) [.arr ((es.drop off).take len ++ news) sz] := by
  intro c ρ S a w H g p hbel hpp K' Q hK';have hKK := hbel k _ hkk (by simp)
  obtain ⟨hr0,hH0,hm0⟩ : ρ pp = none ∧ H[pp]? = some .gone ∧ c.m ≤ pp := by
    rcases hpp with h0 | h0
    · cases h0
    · exact h0
  have hpk : pp ≠ k := fun e => by rw [e,hKK] at hH0;cases hH0
  have hxv := p.evu hx;obtain ⟨a2,c2,zs,y1,y2,y3,y4,y5,y6,y7⟩ := xE p.blk (p.evu hy) hn;obtain ⟨inf,z,t1,t2,t3,t4,t5,t6,t7⟩ := T.tiOk e i he;have hone := U8 y6 h1;have hxe : iU h (.sl k off len sz) ((es.drop off).take len) sz := .sl hkk hle;obtain ⟨a1,c1,ys,x1,x2,x3,x4,x5,x6,x7⟩ := xE p.blk hxv hxe;have hlen : ((es.drop off).take len).length = len := by rw [dQ,iE];omega
  rw [hlen] at x1 x2 x5 x7;have hB := p.blk k _ hkk;simp only [RB] at hB;obtain ⟨hes,hs0,hB⟩ := hB;have hnl : ∀ q,q ∈ news → q.length = sz := by
    cases hn with
    | sl hk2 _ =>
      have := p.blk _ _ hk2;simp only [RB] at this;exact fun q hq => this.1 q (iG (mT hq))
    | row h => exact h
    | nil => exact fun q hq => by cases hq
  have hall : ∀ q,q ∈ (es.drop off).take len ++ news → q.length = sz := fun q hq => by
    rcases bI.1 hq with hq | hq
    · exact hes q (iG (mT hq))
    · exact hnl q hq
  have ev1 : ∀ r w',(Builtin.append_ #[t,t] ty #[a.eval x,a.eval y]).run P w = .ok r w' → (execOp a.eval ⟨some dd,.call { callee := .builtin .append,args := #[x,y],argTypes := #[t,t] },ty,pos,af,none⟩).run P w = .ok (.value r) w' := fun r w' hr => by
    simp [execOp,resolve,invoke,builtin,hr]
  have fin : ∀ {r : Value} {w' : World} {q : Option (Nat × Nat)},(Builtin.append_ #[t,t] ty #[a.eval x,a.eval y]).run P w = .ok r w' → oG c.M w w' → (∀ j b,H[j]? = some b → j ≠ k → b ≠ .gone → ∀ b1 o1,ρ j = some (b1,o1) → w'.heap[b1]? = w.heap[b1]?) → (∀ b1,S b1 → w'.heap[b1]? = w.heap[b1]?) →
      (∀ b1 o1,q = some (b1,o1) → c.M b1 ∧ ¬ S b1 ∧ b1 < w'.heap.size ∧ ∀ j b,H[j]? = some b → j ≠ k → b ≠ .gone → ∀ b2 o2,ρ j = some (b2,o2) → b2 ≠ b1) →
      (jZ ρ (fun j => if j = pp then q else ρ j) S S w w' → R S w' (.sl pp 0 (len + news.length) sz) (fun j => if j = pp then q else ρ j) r ∧ RB S w' (fun j => if j = pp then q else ρ j) q (.arr ((es.drop off).take len ++ news) sz)) →
      Oper.wp P ⟨some dd,.call { callee := .builtin .append,args := #[x,y],argTypes := #[t,t] },ty,pos,af,none⟩ a w K' Q := fun {r w' q} hr hext hoth hst hq hval => by
    unfold Oper.wp;rw [ev1 r w' hr];obtain ⟨g1,g2⟩ := g.moved hpk hH0 hr0 hm0 hext hoth hst hq (fun l => (hval l).2);exact hK' _ _ _ _ g1 g2 (hval g2).1 (fun j hj => if_neg (hj (by simp)))
  have hoth0 : ∀ (w' : World) (b0 : Nat),(∀ x,x ≠ b0 → w'.heap[x]? = w.heap[x]?) → (∃ o,ρ k = some (b0,o)) → (∀ j b,H[j]? = some b → j ≠ k → b ≠ .gone → ∀ b1 o1,ρ j = some (b1,o1) → w'.heap[b1]? = w.heap[b1]?) ∧ (∀ b1,S b1 → w'.heap[b1]? = w.heap[b1]?) := fun w' b0 hw ⟨o,ho⟩ =>
    ⟨fun j b hj hjk hg b1 o1 h1 => hw b1 (fun e => hjk (g.inj j k b _ _ _ hj hKK hg (by simp) h1 ho e)),fun b1 hb1 => hw b1 (fun e => (g.live k _ _ hKK (by simp) ho).2 (e ▸ hb1))⟩
  have hxy : a.eval x = .slice a1 len c1 ∧ a.eval y = .slice a2 news.length c2 := ⟨x1,y1⟩;by_cases hroom : len + news.length ≤ c1
  · by_cases hm : news.length = 0
    · -- nothing is appended
      have hnews : news = [] := bW hm;subst hnews;have hr := yY (P := P) (w := w) (t := t) (ty := ty) (a2 := a2) (c2 := c2) (T.elemOk _ _ ht) t1 (a := a1) x2;simp only [R] at hxv;obtain ⟨a1',c1',e1,e2,e3⟩ := hxv;rw [x1] at e1;cases e1;refine fin (q := (ρ k).map fun q => (q.1,q.2 + off * sz)) (by rw [hxy.1,hxy.2];exact hr) (oG.refl _ _) (fun _ _ _ _ _ _ _ _ => rfl) (fun _ _ => rfl) (fun b1 o1 hq => ?_) (fun l => ⟨?_,?_⟩)
      · obtain ⟨⟨b2,o2⟩,h2,h3⟩ := cQ.1 hq;cases h3;obtain ⟨m1,m2⟩ := g.live k _ _ hKK (by simp) h2
        exact ⟨m1,m2,g.rng k _ h2,fun j b hj hjk hg b3 o3 h3 e => hjk (g.inj j k b _ _ _ hj hKK hg (by simp) h3 h2 e)⟩
      · simp only [R];refine ⟨a1,c1,rfl,e2,?_⟩;rcases e3 with e3 | ⟨b,o,f1,f2,f3,f4⟩
        · exact .inl e3
        · exact .inr ⟨b,o + off * sz,by simp [f1],by simpa using f2,f3,by
            have : o + off * sz + (0 + c1) * sz = o + (off + c1) * sz := by rw [Nat.zero_add,fF,fB]
            rw [this];exact f4⟩
      · simp only [RB,List.append_nil];refine ⟨fun q hq => hall q (by simpa using hq),hs0,?_⟩
        rcases hB with hB | ⟨b,o,ws,f1,⟨cc,ee,f2,f3⟩,f4⟩
        · left;obtain ⟨hB,hu⟩ := hB;subst hB;exact ⟨by simp,fun b o e => by obtain ⟨q,g1,g2⟩ := cQ.1 e;cases g2;exact hu _ _ g1⟩
        · right;refine ⟨b,o + off * sz,(ws.drop (off * sz)).take (len * sz),by simp [f1],⟨cc,ee,f2,fun j u hj => ?_⟩,?_⟩
          · rw [dA] at hj;split at hj
            · rw [fY] at hj;rw [fB];exact f3 _ _ hj
            · cases hj
          · have := sN (wF (f4.later l) (off * sz)) (len * sz)
            rwa [rO _ hes,yB8 _ (fun e he => hes e (iG he))] at this
    · -- there is room
      simp only [R] at hxv;obtain ⟨a1',c1',e1,e2,e3⟩ := hxv;rw [x1] at e1;cases e1;rcases e3 with ⟨e3,e4⟩ | ⟨b,o,f1,f2,f3,⟨cc,ee,fz,f4,f5⟩⟩
      · omega
      obtain rfl : fz = (0,0) := by
        rcases hB with ⟨_,hu⟩ | ⟨b3,o3,ws3,g1,⟨cc3,ee3,g2,_⟩,_⟩
        · obtain ⟨cc3,ee3,g2⟩ := hu _ _ f1;rw [f4] at g2;cases g2;rfl
        · rw [f1] at g1;cases g1;rw [f4] at g2;cases g2;rfl
      have hmul : (off + len) * sz + news.length * sz ≤ (off + c1) * sz := by rw [← fF];exact jO _ (by omega)
      have hfit : o + off * sz + len * inf.size + zs.length ≤ cc.size := by
        rw [t2,hs,y5];have : (off + len) * sz = off * sz + len * sz := fF _ _ _;omega
      have hr := D9 (P := P) (w := w) (t := t) (ty := ty) (a2 := a2) (c2 := c2) (T.elemOk _ _ ht) t1 (b := b) (o := o + off * sz) (len := len) (cap := c1) (m := news.length) (by rw [t2,hs];exact y5) y7 hone f4 hroom hfit
      rw [t2,hs] at hr hfit;have hyl : ys.length = len * sz := x5;have hx8 : len = 0 ∨ ∃ b o,a1 = some ⟨b,o,none⟩ ∧ lies w b o ys := x7;have hcs : ((cc.toList.take (o + off * sz + len * sz) ++ zs ++ cc.toList.drop (o + off * sz + len * sz + zs.length)).toArray).size = cc.size := by
        simp only [S7,aF,dQ,iE,iQ];omega
      have hnew := setRow_heap w b cc (cc.toList.take (o + off * sz + len * sz) ++ zs ++ cc.toList.drop (o + off * sz + len * sz + zs.length)).toArray ee (0,0) f4;obtain ⟨m1,m2⟩ := g.live k _ _ hKK (by simp) f1
      obtain ⟨o1,o2⟩ := hoth0 _ b (fun x hx => setRow_other w b x (cc.toList.take (o + off * sz + len * sz) ++ zs ++ cc.toList.drop (o + off * sz + len * sz + zs.length)).toArray hx) ⟨o,f1⟩;refine fin (q := some (b,o + off * sz)) (by rw [hxy.1,hxy.2,f2];exact hr) ((uV f4 hcs).mono fun x _ hx => by rw [hx];exact m1) o1 o2 (fun b1 o1 hq => ?_) (fun l => ⟨?_,?_⟩)
      · cases hq;exact ⟨m1,m2,(bA.1 hnew).1,fun j b hj hjk hg b3 o3 h3 e => hjk (g.inj j k b _ _ _ hj hKK hg (by simp) h3 f1 e)⟩
      · simp only [R];refine ⟨_,c1,rfl,e2,.inr ⟨b,o + off * sz,by simp,by simp,hroom,_,ee,_,hnew,?_⟩⟩
        rw [hcs,Nat.zero_add];have : (off + c1) * sz = off * sz + c1 * sz := fF _ _ _;omega
      · simp only [RB];refine ⟨hall,hs0,.inr ⟨b,o + off * sz,ys ++ zs,rfl,⟨_,ee,hnew,fun j u hj => ?_⟩,?_⟩⟩
        · rw [nW];by_cases hj1 : j < ys.length
          · rw [aG hj1] at hj;rcases hx8 with h0 | ⟨b',o',g1,⟨c',e',fz,g2,g3⟩⟩
            · subst h0;simp at hyl;omega
            rw [f2] at g1;cases g1;rw [f4] at g2;cases g2;rw [fL,aG (by simp;omega),dA,if_pos (by omega)]
            simpa using g3 j u hj
          · rw [aK (by omega)] at hj
            have hj2 := (aA.1 hj).1;rw [aG (by simp;omega),aK (by simp;omega),← hj]
            congr 1;simp only [dQ,iQ];omega
        · rw [nH];exact iR (x6.later l) (y6.later l)
  · -- a new row
    have hr := zV (P := P) (w := w) (t := t) (ty := ty) (c2 := c2) (a := a1) (len := len) (cap := c1) (m := news.length) (T.elemOk _ _ ht) t1 t4 (by rw [t2,hs];exact x5) x7 (by rw [t2,hs];exact y5) y7 (by omega) (by rw [t3];exact hb) h63
    have hgc := grownCap_ge w (len + news.length) c1 e;have hgm := grownCap_le_maxLen w (len + news.length) c1 e (by simp only [maxLen];omega)
    have hzs : z.cells.size = sz := by rw [← hs,← t6,← t5];simp
    obtain ⟨g1,g2⟩ := R6 hzs x5 y5 hgc;have hnew : (w.drew.alloc (.cells (ys.toArray ++ zs.toArray ++ Builtin.zeroCells z.cells (grownCap w (len + news.length) c1 e - (len + news.length))) e)).heap[w.heap.size]? = some (.cells _ e (0,0)) := heap_alloc_new w.drew _;have hold : ∀ b1,b1 < w.heap.size → (w.drew.alloc (.cells (ys.toArray ++ zs.toArray ++ Builtin.zeroCells z.cells (grownCap w (len + news.length) c1 e - (len + news.length))) e)).heap[b1]? = w.heap[b1]? := fun b1 hb1 => RowKit.Below.heap_alloc w.drew _ b1 hb1
    refine fin (q := some (w.heap.size,0)) (by rw [hxy.1,hxy.2];exact hr) ((oG.drew1 w).trans (qP w.drew _ c.M) (fun _ h _ => h)) (fun j b hj hjk hg b1 o1 h2 => hold b1 (g.rng j _ h2)) (fun b1 hb1 => hold b1 (g.stab b1 hb1)) (fun b1 o1 hq => ?_) (fun l => ⟨?_,?_⟩)
    · cases hq;refine ⟨c.new _ g.ext.size,fun hS => ?_,by simp,fun j b hj hjk hg b2 o2 h2 e => ?_⟩
      · have := g.stab _ hS;omega
      · have := g.rng j _ h2;simp at this;omega
    · simp only [R];exact ⟨_,_,rfl,hgm,.inr ⟨w.heap.size,0,by simp,by simp,hgc,_,e,_,hnew,by rw [Nat.zero_add,Nat.zero_add];exact g1⟩⟩
    · simp only [RB];refine ⟨hall,hs0,.inr ⟨w.heap.size,0,ys ++ zs,rfl,⟨_,e,hnew,fun j u hj => by rw [Nat.zero_add];exact g2 j u hj⟩,?_⟩⟩
      rw [nH];exact iR (x6.later l) (y6.later l)
theorem sF {n : Nat × Nat} {Q : Exit → eG → Hp → Prop} {id : Nat} {l : List Oper} (k : Nat) (pres : List (List Nat)) (ds : List Nat) (bads : List (List Nat)) (ss : List (Nat × Nat)) (hm : P.follows .mixedOrders = true) (hn : n.1 = k) (hok : mP l pres ds bads ss k = true)
    (hv : RA P n l pres ds bads ss (fO ds env) h 0 (fO ds env) [] [] (fun v h => Q .normal v h)) (hndf : pP l = true := by rfl) : AW P n (.region id l.toArray true) env h Q := VE pres ds bads ss hm (by rw [hn];exact hok) hv hndf
end
end Go.Ab
namespace Go.Ab
open Go Go.MapKept
def fT (P : Program) (f : FuncId) (args : List AV) (hin : Hp) (Φ : AV → Hp → Prop) : Prop :=
  (∃ fn, P.funcs[f]? = some fn ∧ (fn.name == "runtime.NumGoroutine") = false ∧ fn.body.isNone = false) ∧
  ∀ ρ S w vs,HS (nR w ρ S hin) ρ S hin w → RL S w args ρ vs →
    Calls P f vs.toArray w fun e w' => ∃ res hout,Φ res hout ∧ ∃ y ρ' S',e = .returned y ∧ HS (nR w ρ S hin) ρ' S' hout w' ∧ R S' w' res ρ' y
theorem fT.mono {P : Program} {f : FuncId} {args : List AV} {hin : Hp} {Φ Ψ : AV → Hp → Prop} (h : fT P f args hin Φ) (hi : ∀ r o,Φ r o → Ψ r o) : fT P f args hin Ψ :=
  ⟨h.1,fun ρ S w vs hs ha => (h.2 ρ S w vs hs ha).mono fun _ _ ⟨r,o,h1,h2⟩ => ⟨r,o,hi r o h1,h2⟩⟩
theorem fT.toA {P : Program} {f : FuncId} {args : List AV} {hin hout : Hp} {res : AV} {Φ : AV → Hp → Prop} (h : fT P f args hin Φ) (hi : ∀ r o,Φ r o → r = res ∧ o = hout) : bQ P f args hin res hout :=
  ⟨h.1,fun ρ S w vs hs ha => (h.2 ρ S w vs hs ha).mono fun _ _ ⟨r,o,h1,h2⟩ => by obtain ⟨rfl,rfl⟩ := hi r o h1;exact h2⟩
def zQ3 {P : Program} (T : oY P) (rs : List ResultVar) (m : Nat) (Φ : AV → Hp → Prop) (e : Exit) (v : eG) (h : Hp) : Prop := ∃ res hout,Φ res hout ∧ XF T rs m res hout e v h
theorem mM {P : Program} (T : oY P) {f : FuncId} {fn : Func} {code : Code} {n : Nat} {args : List AV} {hin : Hp} {Φ : AV → Hp → Prop} (hf : P.funcs[f]? = some fn) (hb : fn.body = some code) (hnm : (fn.name == "runtime.NumGoroutine") = false) (hn : fn.ntmps = n) (ha : Nat.ble args.length n = true)
    (haw : AW P (n,hin.length) code (iS 0 args) hin (zQ3 T fn.results.toList hin.length Φ)) : fT P f args hin Φ := by
  refine ⟨⟨fn,hf,hnm,by rw [hb];rfl⟩,?_⟩
  intro ρ S w vs hs hargs;have hlen := fQ hargs;have hle := bE ha;refine (callsIn_wide (n := 0)).1 (callsIn_of_wp_marks (F := Fence.wide) hf hb trivial ?_ rfl);refine haw (nR w ρ S hin) ρ S _ w _ ⟨?_,tK.nil rfl _ _,fun t x hx => ?_,hs,rfl⟩ ?_
  · simp [hn];omega
  · obtain ⟨_,h1⟩ := wD hx;simp only [zU2] at h1;obtain ⟨y,h2,h3⟩ := mY hargs t x h1;have hlt : t < vs.length := (aA.1 h2).1;have : (vs.toArray ++ Array.replicate (fn.ntmps - vs.toArray.size) undef).getD t undef = y := by
      rw [eH,tC (by simpa using hlt)]
      simp [h2]
    rw [this];exact h3
  · intro e env' h' ρ' S' a' w' hq s;obtain ⟨res,hout,hΦ,he,L,xs,h1,h2,h3,h4,h5,h6⟩ := hq;have fin : ∀ S2 w2,HS (nR w ρ S hin) ρ' S2 h' w2 → (∀ x y,R S' w' x ρ' y → R S2 w2 x ρ' y) → ∃ v,(results fn a'.tmps).run P w2 = .ok v w2 ∧ (fun e w' => ∃ res hout,Φ res hout ∧ ∃ y ρ' S',e = Ending.returned y ∧ HS (nR w ρ S hin) ρ' S' hout w' ∧ R S' w' res ρ' y) (.returned v) w2 := fun S2 w2 s2 hr => by
      have hs' := s2.sub h3 h4 h5 (fun i hi => h6 i hi);obtain ⟨ys,h7,h8⟩ := sS T s2.blk (fun t x hx => hr _ _ (s.env t x hx)) h1;have hres : ∃ y,(results fn a'.tmps).run P w2 = .ok y w2 ∧ R S2 w2 (zX xs) ρ' y := by
        have hm : (fn.results.mapM (uO a'.tmps)).run P w2 = .ok ys.toArray w2 := by
          rw [Q7];simp only [Sem.run_map,h7,Result.andThen_ok]
        have hl := fQ h8;rw [E7];simp only [Sem.run_bind,hm,Result.andThen_ok,Sem.run_pure];refine ⟨_,rfl,?_⟩
        match xs,ys,h8,hl with
        | [x],[y],h8,_ =>
          simp only [RL] at h8;obtain ⟨y',zs,e1,h9,_⟩ := h8;cases e1;simpa [zX] using h9
        | [],[],h8,_ =>
          simp only [zX,R];exact ⟨#[],by simp,by simp [RL]⟩
        | x :: x2 :: xs,y :: y2 :: ys,h8,_ =>
          simp only [zX,R];refine ⟨(y :: y2 :: ys).toArray,?_,by simpa using h8⟩
          rw [dif_neg (by simp)]
      obtain ⟨y,h9,h10⟩ := hres;rw [h2] at h10;exact ⟨y,h9,res,hout,hΦ,y,_,S2,rfl,hs',L3 _ ρ' _ _ h10⟩
    obtain ⟨⟨D,hD1,hD2,hD3⟩,_⟩ := s.defers;have hl : LeavesInM Fence.wide 0 P fn a'.tmps (fun e w' => ∃ res hout,Φ res hout ∧ ∃ y ρ' S',e = Ending.returned y ∧ HS (nR w ρ S hin) ρ' S' hout w' ∧ R S' w' res ρ' y) a'.defers .returning w' := by
      rw [hD1];exact A4 (c := nR w ρ S hin) (aY _) (fun b hb => hs.stab b hb) D S' w' s.hs hD2 hD3 fin
    rcases he with rfl | rfl
    · exact hl
    · exact hl
section
variable {P : Program} {n : Nat × Nat} {ops : Array Oper} {rest : List Oper} {env : eG} {h : Hp} {K : eG → Hp → Prop}
variable {d : Option Nat} {ty : TypeId} {pos : String} {af : Array Edge}
theorem gI {x : Operand} {f : FuncId} {fs cs us xs : List AV} {args : List Operand} {ats : Array TypeId} {Ψ : AV → Prop} (hx : evu env x = some (.clo (.func f) fs cs)) (ha : NN env args = some us)
    (hc : fT P f xs [] (fun r o => o = [] ∧ Ψ r)) (hv : mQ h (fs ++ us ++ cs) xs) (hrf : ∀ r,Ψ r → r.rf = true) (hd : BV d n = true)
    (hk : ∀ r,Ψ r → VC P n ops rest (gJ d r env) h K) : VC P n ops (⟨d,.call { callee := .value x,args := args.toArray,argTypes := ats },ty,pos,af,none⟩ :: rest) env h K := by
  intro c ρ S a w Q s hQ;refine wpList_plain rfl fun K' hK' => ?_
  have p := s.pre;have hxv := p.evu hx;simp only [R] at hxv;obtain ⟨ys,zs,e1,h1,h2⟩ := hxv;have hall : RL S w (fs ++ us ++ cs) ρ (ys.toList ++ args.map a.eval ++ zs.toList) := iR (iR h1 (vZ p ha)) h2;obtain ⟨hf,hc⟩ := hc;have hS1w : ∀ b,(S b ∨ mZ h ρ b) → b < w.heap.size := fun b hb => by
    rcases hb with hb | ⟨k,x,o,_,_,hb⟩
    · exact p.stab b hb
    · exact p.rng k _ hb
  have hargs : RL (fun b => S b ∨ mZ h ρ b) w xs (fun _ => none) (ys.toList ++ args.map a.eval ++ zs.toList) := nD p.blk hv hall;have hs0 : HS (nR w (fun _ => none) (fun b => S b ∨ mZ h ρ b) []) (fun _ => none) (fun b => S b ∨ mZ h ρ b) [] w := ⟨fun _ _ => rfl,(fun _ _ h => by cases h),(fun k b hb => by simp at hb),(fun k b p hb => by simp at hb),(fun k _ b _ _ _ hb => by simp at hb),hS1w,oG.refl _ _,fun _ h => h,fun _ h => .inl h,aY _,(fun _ h => by simp [nR] at h),p.glob.st fun b hb => .inl hb⟩
  have hcall := hc (fun _ => none) _ w _ hs0 hargs;unfold Oper.wp;have hrun : (execOp a.eval ⟨d,.call { callee := .value x,args := args.toArray,argTypes := ats },ty,pos,af,none⟩).run P w = .ok (.enter f (ys.toList ++ args.map a.eval ++ zs.toList).toArray) w := by
    have e2 : (ys ++ (args.toArray.map a.eval) ++ zs) = (ys.toList ++ args.map a.eval ++ zs.toList).toArray := by
      apply Array.ext';simp
    simp only [execOp,resolve,e1,Deferred.ofValue,Sem.run_bind,Sem.run_pure,Result.andThen_ok,invoke];rw [e2];exact zU hf
  rw [hrun];simp only [Oper.upon];refine hcall.mono ?_;rintro e w' ⟨res,hout,⟨rfl,hΨ⟩,y,ρ',S',rfl,hs,hy⟩;simp only;have hM : ∀ b,(nR w (fun _ => none) (fun b => S b ∨ mZ h ρ b) []).M b → w.heap.size ≤ b := fun b hb => by
    rcases hb with hb | ⟨k,x,o,hb,_⟩
    · exact hb
    · simp at hb
  have hext : oG (fun _ => False) w w' := hs.ext.mono fun b hb hm => by have := hM b hm;simp [nR] at hb;omega
  have hρ : ρ' = fun _ => none := funext fun k => hs.dom k (cH _);subst hρ;have hpost : BH ρ ρ S S w w' h.length 0 res [] y := by
    refine ⟨hext,rfl,fun _ _ => rfl,fun _ hb => hb,fun _ hb => .inl hb,fun k p h1 h2 _ => by omega,fun k k' p p' h1 h2 _ _ _ => by omega,?_,fun j b hb => by simp at hb⟩
    exact oF (fun _ h => h) (fun _ _ => rfl) res (fun _ => none) ρ y (fun _ _ h => nomatch h) (fun _ _ _ _ h => nomatch h) (VU _ _ _ (hrf _ hΨ) hy)
  have hsim := s.post (d := d) hd hpost;rw [List.append_nil] at hsim;exact hK' _ _ (hk _ hΨ c ρ S _ w' Q hsim hQ)
theorem mG (L : List Nat) {x : Operand} {f : FuncId} {fs cs us xs : List AV} {args : List Operand} {ats : Array TypeId} {Φ : AV → Hp → Prop} {hin : Hp} (hx : evu env x = some (.clo (.func f) fs cs)) (ha : NN env args = some us)
    (hc : fT P f xs hin Φ) (hxs : fs ++ us ++ cs = AV.mapL (th L h.length) xs) (hL : L.length = hin.length) (hnd : L.Nodup) (hh : D3 (th L h.length) h 0 hin) (hng : ∀ b,b ∈ hin → b ≠ .gone) (hd : BV d n = true)
    (hk : ∀ res hout,Φ res hout → VC P n ops rest (gJ d (res.map (lD L h.length hin.length)) env) (C9 h L ((hout.take hin.length).map (AB.map (lD L h.length hin.length))) ++ (hout.drop hin.length).map (AB.map (lD L h.length hin.length))) K) :
    VC P n ops (⟨d,.call { callee := .value x,args := args.toArray,argTypes := ats },ty,pos,af,none⟩ :: rest) env h K := by
  intro c ρ S a w Q s hQ;refine wpList_plain rfl fun K' hK' => ?_
  have p := s.pre;have hxv := p.evu hx;simp only [R] at hxv;obtain ⟨ys,zs,e1,h1,h2⟩ := hxv;have hall : RL S w (fs ++ us ++ cs) ρ (ys.toList ++ args.map a.eval ++ zs.toList) := iR (iR h1 (vZ p ha)) h2;rw [hxs] at hall;have hargs := qE (th L h.length) ρ _ _ hall;obtain ⟨hf,hc⟩ := hc;have hs0 := s.hs.hand hL hnd hh;have hcall := hc _ S w _ hs0 hargs;unfold Oper.wp;have hrun : (execOp a.eval ⟨d,.call { callee := .value x,args := args.toArray,argTypes := ats },ty,pos,af,none⟩).run P w = .ok (.enter f (ys.toList ++ args.map a.eval ++ zs.toList).toArray) w := by
    have e2 : (ys ++ (args.toArray.map a.eval) ++ zs) = (ys.toList ++ args.map a.eval ++ zs.toList).toArray := by
      apply Array.ext';simp
    simp only [execOp,resolve,e1,Deferred.ofValue,Sem.run_bind,Sem.run_pure,Result.andThen_ok,invoke];rw [e2];exact zU hf
  rw [hrun];simp only [Oper.upon];refine hcall.mono ?_;rintro e w' ⟨res,hout,hΦ,y,ρ',S',rfl,hs,hy⟩;simp only;refine hK' _ _ (hk res hout hΦ c (fun k => if k < h.length then ρ k else ρ' (hin.length + (k - h.length))) S' _ w' Q ?_ hQ)
  -- the objects handed over
  have hin_at : ∀ {i : Nat} {b : AB},hin[i]? = some b → ∃ j,L[i]? = some j ∧ j < h.length ∧ h[j]? = some (b.map (th L h.length)) ∧ b.map (th L h.length) ≠ .gone := fun {i b} hb => by
    have hne := hng b (bD hb);have hlt : i < L.length := by rw [hL];exact (aA.1 hb).1
    have hj := aB hlt;have hth : th L h.length i = L[i] := by simp [th,hj]
    rcases hh.get i b hb with hg | hg
    · exact absurd hg hne
    · rw [Nat.zero_add,hth] at hg;exact ⟨L[i],hj,(aA.1 hg).1,hg,by cases b <;> simp [AB.map] at * ⟩
  have hmle := hs.mle;have hmle' : hin.length ≤ hout.length := hmle;have thL : ∀ {i j : Nat},L[i]? = some j → th L h.length i = j := fun hi => by simp [th,hi]
  have keep : ∀ {i j : Nat},i < hin.length → L[i]? = some j → ρ' i = ρ j := fun {i j} hi hj => by
    have := hs.keep i hi;simp only [nR] at this;rw [this,thL hj]
  -- where the callee may write
  have hM : ∀ b,(nR w (fun k => ρ (th L h.length k)) S hin).M b → w.heap.size ≤ b ∨ ∃ (i j : Nat) (o : Nat) (x : AB),hin[i]? = some x ∧ L[i]? = some j ∧ ρ j = some (b,o) := fun b hb => by
    rcases hb with hb | ⟨k,x,o,hb,_,hp⟩
    · exact .inl hb
    · obtain ⟨j,h3,_⟩ := hin_at hb;exact .inr ⟨k,j,o,x,hb,h3,by rw [← thL h3];exact hp⟩
  have hcM : ∀ b,(nR w (fun k => ρ (th L h.length k)) S hin).M b → c.M b := fun b hb => by
    rcases hM b hb with hb | ⟨i,j,o,x,h3,h4,h5⟩
    · exact c.new b (bU s.hs.ext.size hb)
    · obtain ⟨j',h6,_,h7,h8⟩ := hin_at h3;rw [h4] at h6;cases h6;exact (s.hs.live j _ _ h7 h8 h5).1
  have hlow : ∀ b,b < w.heap.size → (nR w (fun k => ρ (th L h.length k)) S hin).M b → ∃ (i j : Nat) (o : Nat) (x : AB),hin[i]? = some x ∧ L[i]? = some j ∧ ρ j = some (b,o) := fun b hlt hb => by
    rcases hM b hb with hb | hb
    · omega
    · exact hb
  -- a live object that was not handed over: its block is left alone
  have other : ∀ {k : Nat} {b : AB} {q : Nat × Nat},h[k]? = some b → b ≠ .gone → k ∉ L → ρ k = some q → ¬ (nR w (fun k => ρ (th L h.length k)) S hin).M q.1 := fun {k b q} hb hg hkL hq hm => by
    obtain ⟨i,j,o,x,h3,h4,h5⟩ := hlow q.1 (s.hs.rng k q hq) hm;obtain ⟨j',h6,_,h7,h8⟩ := hin_at h3;rw [h4] at h6;cases h6;have := s.hs.inj k j _ _ q _ hb h7 hg h8 hq h5 rfl;subst this;exact hkL (bD h4)
  have stM : ∀ b,S b → ¬ (nR w (fun k => ρ (th L h.length k)) S hin).M b := fun b hb hm => by
    obtain ⟨i,j,o,x,h3,h4,h5⟩ := hlow b (s.hs.stab b hb) hm;obtain ⟨j',h6,_,h7,h8⟩ := hin_at h3;rw [h4] at h6;cases h6;exact (s.hs.live j _ _ h7 h8 h5).2 hb
  have same : ∀ b,b < w.heap.size → ¬ (nR w (fun k => ρ (th L h.length k)) S hin).M b → w'.heap[b]? = w.heap[b]? := fun b hb hm => hs.ext.same b hb hm
  have l : jZ ρ (fun k => if k < h.length then ρ k else ρ' (hin.length + (k - h.length))) S S' w w' := by
    refine ⟨fun k q hq => ?_,hs.st0,fun b hb => same b (s.hs.stab b hb) (stM b hb),fun _ _ _ _ _ hr => hs.ext.room hr⟩
    have hlt : k < h.length := by
      rcases qX k h.length with h3 | h3
      · exact h3
      · rw [s.hs.dom k h3] at hq;cases hq
    simp only [if_pos hlt];exact hq
  -- the callee's places,seen by the caller
  have pl : ∀ k q,ρ' k = some q → (fun k => if k < h.length then ρ k else ρ' (hin.length + (k - h.length))) (lD L h.length hin.length k) = some q := fun k q hq => by
    by_cases hk : k < hin.length
    · have hj := aB (l := L) (i := k) (by omega)
      have hb := aB hk;obtain ⟨j,h3,h4,_⟩ := hin_at hb;have hbk : lD L h.length hin.length k = j := by simp [lD,h3]
      rw [hbk];simp only [if_pos h4];rw [← keep hk h3];exact hq
    · have hbk : lD L h.length hin.length k = h.length + (k - hin.length) := by
        unfold lD;rw [dX (by omega)]
      rw [hbk];simp only;rw [if_neg (by omega),show hin.length + (h.length + (k - hin.length) - h.length) = k by omega]
      exact hq
  have shift : ∀ {x : AV} {y : Value},R S' w' x ρ' y → R S' w' (x.map (lD L h.length hin.length)) (fun k => if k < h.length then ρ k else ρ' (hin.length + (k - h.length))) y := fun {x y} hx => Q4 _ _ x y (oF (fun _ h => h) (fun _ _ => rfl) x ρ' _ y pl (fun _ _ _ _ _ h => h) hx)
  have shiftB : ∀ {b : AB} {pp},RB S' w' ρ' pp b → RB S' w' (fun k => if k < h.length then ρ k else ρ' (hin.length + (k - h.length))) pp (b.map (lD L h.length hin.length)) := fun {b pp} hb => FX _ _ (RB.later (ρ := ρ') (S := S') ⟨pl,fun _ h => h,fun _ _ => rfl,fun _ _ _ _ _ h => h⟩ (fun _ _ _ => rfl) hb)
  -- what stands at a place jQ the call
  have get : ∀ {k : Nat} {b : AB},(C9 h L ((hout.take hin.length).map (AB.map (lD L h.length hin.length))) ++ (hout.drop hin.length).map (AB.map (lD L h.length hin.length)))[k]? = some b →
      (k < h.length ∧ k ∉ L ∧ h[k]? = some b) ∨ (∃ (i : Nat) (b' : AB),hout[i]? = some b' ∧ b = b'.map (lD L h.length hin.length) ∧ lD L h.length hin.length i = k ∧ (if k < h.length then ρ k else ρ' (hin.length + (k - h.length))) = ρ' i ∧ ((i < hin.length ∧ L[i]? = some k) ∨ (hin.length ≤ i ∧ k = h.length + (i - hin.length)))) := fun {k b} hb => by
    by_cases hk : k < h.length
    · rw [aG (by rw [kV];exact hk)] at hb
      by_cases hkL : k ∈ L
      · obtain ⟨i,hi⟩ := cU.1 hkL;have hiL : i < hin.length := by rw [← hL];exact (aA.1 hi).1
        have hb' := aB (l := hout) (i := i) (by omega)
        rw [EQ (b := (hout[i]'(by omega)).map (lD L h.length hin.length)) hnd hi (by simp [hiL,hb']) hk] at hb
        simp only [Option.some.injEq] at hb;exact .inr ⟨i,_,hb',hb.symm,by simp [lD,hi],by rw [if_pos hk];exact (keep hiL hi).symm,.inl ⟨hiL,hi⟩⟩
      · rw [xP _ _ _ hkL] at hb;exact .inl ⟨hk,hkL,hb⟩
    · rw [aK (by rw [kV];omega),kV,aU,fY] at hb
      obtain ⟨b',h3,h4⟩ := cQ.1 hb;refine .inr ⟨hin.length + (k - h.length),b',h3,h4.symm,?_,by rw [if_neg hk],.inr ⟨by omega,by omega⟩⟩
      unfold lD;rw [dX (by omega)]
      simp only;omega
  have mapg : ∀ {θ : Nat → Nat} {b : AB},b.map θ ≠ .gone → b ≠ .gone := fun hb e => hb (by rw [e];rfl)
  refine ⟨by rw [kH];exact s.size,by rw [iO];exact s.defers.later l,sI s.size hd (fun t u hu => (s.env t u hu).later l) (shift hy),?_,s.cm⟩
  refine ⟨fun k hk => ?_,fun k q hq => ?_,fun k b hb => ?_,fun k b q hb hg hq => ?_,fun k k' b b' q q' hb hb' hg hg' hq hq' e => ?_,hs.stab,s.hs.ext.trans hs.ext (fun b hb hlt => hcM b hb),fun b hb => hs.st0 b (s.hs.st0 b hb),fun b hb => ?_,?_,fun k hk => ?_,hs.glob⟩
  · simp only [aF,kV,dY,iE] at hk;rw [if_neg (by omega)]
    exact hs.dom _ (by omega)
  · split at hq
    · exact eA (s.hs.rng k q hq) hs.ext.size
    · exact hs.rng _ q hq
  · rcases get hb with ⟨h3,h4,h5⟩ | ⟨i,b',h3,rfl,h4,h5,h6⟩
    · simp only [if_pos h3];by_cases hg : b = .gone
      · subst hg;trivial
      · exact RB.later l (fun b1 o1 hp => same b1 (s.hs.rng k _ hp) (other h5 hg h4 hp)) (s.hs.blk k b h5)
    · rw [h5];exact shiftB (hs.blk i b' h3)
  · rcases get hb with ⟨h3,h4,h5⟩ | ⟨i,b',h3,rfl,h4,h5,h6⟩
    · simp only [if_pos h3] at hq;obtain ⟨h7,h8⟩ := s.hs.live k b q h5 hg hq;refine ⟨h7,fun hs' => ?_⟩
      rcases hs.st1 _ hs' with h9 | h9
      · exact h8 h9
      · exact other h5 hg h4 hq h9
    · rw [h5] at hq;obtain ⟨h7,h8⟩ := hs.live i b' q h3 (mapg hg) hq;exact ⟨hcM _ h7,h8⟩
  · rcases get hb with ⟨h3,h4,h5⟩ | ⟨i,b1,h3,rfl,h4,h5,h6⟩ <;> rcases get hb' with ⟨h3',h4',h5'⟩ | ⟨i',b1',h3',rfl,h4',h5',h6'⟩
    · simp only [if_pos h3] at hq;simp only [if_pos h3'] at hq';exact s.hs.inj k k' b b' q q' h5 h5' hg hg' hq hq' e
    · simp only [if_pos h3] at hq;rw [h5'] at hq';have hl := (hs.live i' b1' q' h3' (mapg hg') hq').1;rw [← e] at hl;exact absurd hl (other h5 hg h4 hq)
    · simp only [if_pos h3'] at hq';rw [h5] at hq;have hl := (hs.live i b1 q h3 (mapg hg) hq).1;rw [e] at hl;exact absurd hl (other h5' hg' h4' hq')
    · rw [h5] at hq;rw [h5'] at hq';have := hs.inj i i' b1 b1' q q' h3 h3' (mapg hg) (mapg hg') hq hq' e;subst this;rw [← h4,← h4']
  · rcases hs.st1 b hb with hb' | hb'
    · exact s.hs.st1 b hb'
    · exact .inr (hcM b hb')
  · simp only [aF,kV];exact bU s.hs.mle (kW _ _)
  · have hlt := eA hk s.hs.mle;simp only [if_pos hlt];exact s.hs.keep k hk
end
theorem WJ {P : Program} {o : Oper} {a : Act} {w : World} {K : Act → World → Prop} {Q1 Q : Exit → Act → World → Prop} (hq : ∀ e a w,Q1 e a w → e = .normal) (h : o.wp P a w K Q1) : o.wp P a w K Q := by
  unfold Oper.wp at *;generalize (execOp a.eval o).run P w = r at *;cases r with
  | ok n w' =>
    cases n with
    | enter f args =>
      simp only [Oper.upon] at *;refine h.mono fun e w'' => ?_
      cases e with
      | returned v => exact id
      | panicked c => exact fun hh => by have := hq _ _ _ hh;cases this
      | outgrown => exact fun ⟨_,_,hh⟩ => by have := hq _ _ _ hh;cases this
    | _ => first | exact h | exact h.elim
  | halt x w' => cases x <;> simp only [Oper.upon] at * <;> first | exact h | (have := hq _ _ _ h;cases this)
section
variable {P : Program} {n : Nat × Nat} {ops : Array Oper} {env : eG} {h : Hp} {K : eG → Hp → Prop} {listed : Array Bool} {r : Nat}
theorem VN (hr : Region.ready .any ops listed = []) (hk : K env h) : M4 P n ops listed r env h K :=
  fun _ _ _ _ _ _ s _ hQ => wpAny_done hr (hQ _ _ _ _ _ _ hk s) r
theorem VK {rd : List Nat} (hr : Region.ready .any ops listed = rd) (hne : rd ≠ []) (hk : ∀ i,i ∈ rd → ∃ o,ops[i]? = some o ∧ VC P n ops [o] env h (fun v h' => M4 P n ops (listed.setIfInBounds i true) r v h' K)) : M4 P n ops listed (r + 1) env h K := by
  intro c ρ S a w QQ s hq hQ;refine wpAny_all hr hne fun i hi => ?_
  obtain ⟨o,ho,hv⟩ := hk i hi;have h1 := hv c ρ S a w (fun e a' w' => e = .normal ∧ wpAny P .any ops QQ r (listed.setIfInBounds i true) a' w') s (fun env' h' ρ' S' a' w' hK hs => ⟨rfl,hK c ρ' S' a' w' QQ hs hq hQ⟩);unfold wpOp;rw [ho];unfold wpList at h1;dsimp only at h1 ⊢;split at h1
  · rename_i hw;rw [if_pos hw];rcases h1 with h1 | ⟨_,a',w',h1⟩
    · exact .inl (WJ (fun e a w h => h.1) (Oper.wp_mono (fun a w h => h.2) h1))
    · exact nomatch h1.1
  · rename_i hw;rw [if_neg hw];exact h1.2
def yJ : Nat → List Oper → List (Nat × List Nat)
  | _,[] => []
  | i,o :: l => (i,(o.after.toList.filter fun e => Region.binds .any e).map (·.on)) :: yJ (i + 1) l
def zA7 (b0 : List Bool) : List Nat → Bool
  | [] => true
  | d :: ds => match b0.getD d false with
    | true => zA7 b0 ds
    | false => false
def HD (b0 : List Bool) : List (Nat × List Nat) → List Bool → List Nat
  | (i, d) :: ds, b :: bs => match b with
    | true => HD b0 ds bs
    | false => match zA7 b0 d with
      | true => i :: HD b0 ds bs
      | false => HD b0 ds bs
  | _,_ => []
theorem MM (b0 : List Bool) : ∀ ds : List Nat, zA7 b0 ds = ds.all fun d => b0.getD d false
  | [] => rfl
  | d :: ds => by
    unfold zA7;rw [T8,MM b0 ds];cases b0.getD d false <;> rfl
theorem SG (b0 : List Bool) (i : Nat) (d : List Nat) (ds : List (Nat × List Nat)) (b : Bool) (bs : List Bool) : HD b0 ((i,d) :: ds) (b :: bs) = if b = true then HD b0 ds bs else if zA7 b0 d = true then i :: HD b0 ds bs else HD b0 ds bs := by
  cases b <;> cases h : zA7 b0 d <;> simp [HD,h]
theorem SF (l0 : List Oper) (b0 : List Bool) : ∀ (l : List Oper) (bs : List Bool) (i : Nat),l.length = bs.length → (∀ j,l[j]? = l0[i + j]?) → (∀ j,j < bs.length → bs[j]? = b0[i + j]?) →
    HD b0 (yJ i l) bs = (List.range' i l.length).filter fun i => !b0.toArray.getD i true && ((l0.toArray[i]?).map (·.after.all fun e => !Region.binds .any e || b0.toArray.getD e.on false)).getD false
  | [],[],i,_,_,_ => rfl
  | o :: l,b :: bs,i,hl,h1,h2 => by
    have ih := SF l0 b0 l bs (i + 1) (by simpa using hl) (fun j => by rw [fB,qY 1 j];simpa using h1 (j + 1)) (fun j hj => by rw [fB,qY 1 j];simpa using h2 (j + 1) (by simpa using hj))
    have e1 : b0.toArray.getD i true = b := by
      have := h2 0 (by simp)
      simp only [fD,Nat.add_zero] at this;rw [eH,nW,← this];rfl
    have e2 : ((l0.toArray[i]?).map (·.after.all fun e => !Region.binds .any e || b0.toArray.getD e.on false)).getD false = zA7 b0 ((o.after.toList.filter fun e => Region.binds .any e).map (·.on)) := by
      have := h1 0;simp only [fD,Nat.add_zero] at this;rw [nW,← this,MM,List.all_map];simp only [vG,Option.getD_some];rw [← Array.all_toList]
      induction o.after.toList with
      | nil => rfl
      | cons e r ih =>
        rw [T8,kZ,ih];cases Region.binds .any e
        · simp
        · simp [eH,aH]
    rw [List.length_cons,tI,kZ,e1,e2,← ih];generalize hok : zA7 b0 ((o.after.toList.filter fun e => Region.binds .any e).map (·.on)) = q;have e3 := SG b0 i ((o.after.toList.filter fun e => Region.binds .any e).map (·.on)) (yJ (i + 1) l) b bs;rw [show yJ i (o :: l) = (i,(o.after.toList.filter fun e => Region.binds .any e).map (·.on)) :: yJ (i + 1) l from rfl,e3,hok]
    generalize HD b0 (yJ (i + 1) l) bs = u;cases b <;> cases q <;> rfl
  | [],_ :: _,_,hl,_,_ => by simp at hl
  | _ :: _,[],_,hl,_,_ => by simp at hl
theorem CR {l : List Oper} {b : List Bool} (hl : l.length = b.length) : Region.ready .any l.toArray b.toArray = HD b (yJ 0 l) b := by
  rw [SF l b l b 0 hl (fun j => by rw [Nat.zero_add]) (fun j _ => by rw [Nat.zero_add])]
  unfold Region.ready;rw [mS];rfl
def zM (P : Program) (n : Nat × Nat) (l : List Oper) (ds : List (Nat × List Nat)) (b : List Bool) (r : Nat) (env : eG) (h : Hp) (K : eG → Hp → Prop) : Prop := yJ 0 l = ds → l.length = b.length → M4 P n l.toArray b.toArray r env h K
section
variable {l : List Oper} {ds : List (Nat × List Nat)} {b : List Bool}
theorem QV (hr : HD b ds b = []) (hk : K env h) : zM P n l ds b r env h K := fun hd hl => by
  subst hd;exact VN ((CR hl).trans hr) hk
theorem C7 {rd : List Nat} (hr : HD b ds b = rd) (hne : rd ≠ []) (hk : ∀ i,i ∈ rd → ∃ o,l[i]? = some o ∧ VC P n l.toArray [o] env h (fun v h' => zM P n l ds (b.set i true) r v h' K)) : zM P n l ds b (r + 1) env h K := fun hd hl =>
  VK ((CR hl).trans (by rw [hd];exact hr)) hne fun i hi => by
    obtain ⟨o,ho,hv⟩ := hk i hi;refine ⟨o,by simpa using ho,hv.mono fun v g hg => ?_⟩
    have := hg hd (by rw [D4];exact hl)
    rwa [← List.setIfInBounds_toArray] at this
theorem zI9 {i : Nat} {o : Oper} (hr : HD b ds b = [i]) (ho : l[i]? = some o) (hk : VC P n l.toArray [o] env h (fun v h' => zM P n l ds (b.set i true) r v h' K)) : zM P n l ds b (r + 1) env h K :=
  C7 hr (by simp) fun k hk2 => by simp only [bL,or_false,kX] at hk2;subst hk2;exact ⟨o,ho,hk⟩
theorem zI8 {i j : Nat} {o o2 : Oper} (hr : HD b ds b = [i,j]) (ho : l[i]? = some o) (ho2 : l[j]? = some o2) (hk : VC P n l.toArray [o] env h (fun v h' => zM P n l ds (b.set i true) r v h' K)) (hk2 : VC P n l.toArray [o2] env h (fun v h' => zM P n l ds (b.set j true) r v h' K)) : zM P n l ds b (r + 1) env h K :=
  C7 hr (by simp) fun k hm => by
    simp only [bL,kX,or_false] at hm;rcases hm with rfl | rfl
    · exact ⟨o,ho,hk⟩
    · exact ⟨o2,ho2,hk2⟩
theorem zI7 {i j k3 : Nat} {o o2 o3 : Oper} (hr : HD b ds b = [i,j,k3]) (ho : l[i]? = some o) (ho2 : l[j]? = some o2) (ho3 : l[k3]? = some o3) (hk : VC P n l.toArray [o] env h (fun v h' => zM P n l ds (b.set i true) r v h' K)) (hk2 : VC P n l.toArray [o2] env h (fun v h' => zM P n l ds (b.set j true) r v h' K)) (hk3 : VC P n l.toArray [o3] env h (fun v h' => zM P n l ds (b.set k3 true) r v h' K)) : zM P n l ds b (r + 1) env h K :=
  C7 hr (by simp) fun k hm => by
    simp only [bL,kX,or_false] at hm;rcases hm with rfl | rfl | rfl
    · exact ⟨o,ho,hk⟩
    · exact ⟨o2,ho2,hk2⟩
    · exact ⟨o3,ho3,hk3⟩
theorem zI6 {i j k3 k4 : Nat} {o o2 o3 o4 : Oper} (hr : HD b ds b = [i,j,k3,k4]) (ho : l[i]? = some o) (ho2 : l[j]? = some o2) (ho3 : l[k3]? = some o3) (ho4 : l[k4]? = some o4) (hk : VC P n l.toArray [o] env h (fun v h' => zM P n l ds (b.set i true) r v h' K)) (hk2 : VC P n l.toArray [o2] env h (fun v h' => zM P n l ds (b.set j true) r v h' K)) (hk3 : VC P n l.toArray [o3] env h (fun v h' => zM P n l ds (b.set k3 true) r v h' K)) (hk4 : VC P n l.toArray [o4] env h (fun v h' => zM P n l ds (b.set k4 true) r v h' K)) : zM P n l ds b (r + 1) env h K :=
  C7 hr (by simp) fun k hm => by
    simp only [bL,kX,or_false] at hm;rcases hm with rfl | rfl | rfl | rfl
    · exact ⟨o,ho,hk⟩
    · exact ⟨o2,ho2,hk2⟩
    · exact ⟨o3,ho3,hk3⟩
    · exact ⟨o4,ho4,hk4⟩
theorem ZT (ds : List (Nat × List Nat)) (hd : yJ 0 l = ds) (b : List Bool) {listed : Array Bool} (hb : listed = b.toArray) (hl : l.length = b.length) (hk : zM P n l ds b r env h K) : M4 P n l.toArray listed r env h K := by
  subst hb;exact hk hd hl
end
theorem xQ (T : oY P) {d : Option Nat} {ty : TypeId} {pos : String} {af : Array Edge} {g : Option (Nat × Bool)} {t f m : Nat} {x : Operand} {u z : AV} (hx : evu env x = some u) (hf : T.field t f = some m) (hz : u.plus m = some z) :
    zC2 P ⟨d,.fieldAddr t x f,ty,pos,af,g⟩ env h z := by
  intro ρ S a w p;obtain ⟨b,o,h1,h2⟩ := H9 (p.evu hx) hz;obtain ⟨fs,fd,inf,h3,h4,h5,h6,h7⟩ := T.fieldOk t f m hf;exact ⟨_,fun w' => by simp [execOp,h1,Instr.fieldAt,run_underlying h3,h4,Instr.sureAddr,fieldPlace,Go.sizeOf,typeInfo,h6,h7,Addr.add_lit,h5],h2⟩
theorem zI4 {code : Code} {Q : Exit → eG → Hp → Prop} (E : eG) (H : Hp) (hc : AW P n code env h (fun e v g => e = .normal ∧ EA n.2 v g E H)) (hk : ∀ v g,EA n.2 v g E H → Q .normal v g) : AW P n code env h Q :=
  hc.mono fun e v g ⟨he,hs⟩ => by subst he;exact hk v g hs
end
theorem HS.view {c : qT} {ρ : Pl} {S : Nat → Prop} {h : Hp} {w : World} (s : HS c ρ S h w) (hm : c.m = 0) : HS c (fun _ => Option.none) (fun b => S b ∨ mZ h ρ b) [] w := by
  refine ⟨fun _ _ => rfl,(fun _ _ h => nomatch h),(fun k b hb => by simp at hb),(fun k b p hb => by simp at hb),(fun k _ b _ _ _ hb => by simp at hb),fun b hb => ?_,s.ext,fun b hb => .inl (s.st0 b hb),fun b hb => ?_,by rw [hm];exact cH _,(fun k hk => by rw [hm] at hk;exact absurd hk (dJ _)),s.glob.st fun b hb => .inl hb⟩
  · rcases hb with hb | ⟨k,x,o,_,_,hb⟩
    · exact s.stab b hb
    · exact s.rng k _ hb
  · rcases hb with hb | ⟨k,x,o,h1,h2,h3⟩
    · exact s.st1 b hb
    · exact .inr (s.live k x _ h1 h2 h3).1
theorem LB {P : Program} {f : FuncId} {args : List AV} {res res' : AV} {hout : Hp} (h : bQ P f args [] res hout) (hv : qD hout res res') : bQ P f args [] res' [] := by
  refine ⟨h.1,fun ρ S w vs hs ha => (h.2 ρ S w vs hs ha).mono ?_⟩;rintro e w' ⟨y,ρ',S',rfl,h2,h3⟩;exact ⟨y,_,_,rfl,h2.view rfl,G7 h2.blk hv h3⟩
theorem EG {P : Program} {n : Nat × Nat} {ops : Array Oper} {rest : List Oper} {env : eG} {h : Hp} {K : eG → Hp → Prop} (t : Nat) {x : AV} (x' : AV) (hl : look env t = some x) (hw : ∀ (S : Nat → Prop) w ρ y,R S w x ρ y → R S w x' ρ y) (hk : VC P n ops rest ((t,x') :: env) h K) : VC P n ops rest env h K := by
  intro c ρ S a w Q s hQ;refine hk c ρ S a w Q ⟨s.size,s.defers,fun u y hu => ?_,s.hs,s.cm⟩ hQ
  rw [iJ] at hu;split at hu
  · rename_i e;subst e;cases hu;exact hw _ _ _ _ (s.env _ _ hl)
  · exact s.env u y hu
section
variable {P : Program} {env : eG} {h : Hp}
variable {d : Option Nat} {ty : TypeId} {pos : String} {af : Array Edge} {g : Option (Nat × Bool)}
variable {t kt et : TypeId} {good : Value → Prop} {x y : Operand} {i : Nat} {kv : Value} {ks : List Value} {vs : List AV} {v : AV}
theorem oP (ht : P.underlying t = some (.map kt et)) (ko : mU P kt good) (hx : evu env x = some (.mrow ks vs)) {yv : AV} (hy : evu env y = some yv) (hyv : V7 yv kv) (hkeys : ∀ q,q ∈ ks → good q) (hkey : good kv) (hnd : ks.Nodup) (hi : ks[i]? = some kv) (hv : vs[i]? = some v) (hidf : v.idf = true) :
    bR P ⟨d,.lookup t x y true,ty,pos,af,g⟩ env h 0 (fun _ => .tup [v,.b true]) (fun _ => []) := by
  refine gN fun ρ S a w p => ?_
  have h1 := p.evu hx;simp only [R] at h1;obtain ⟨b,l,ck,h3,_,h6,h7,h8⟩ := h1;have h4 := hyv _ _ _ _ (p.evu hy);obtain ⟨e,h9,h10,_⟩ := uF ko w h7 hkeys hkey hnd hi;refine ⟨.tuple #[e.val,.bool true],?_,?_⟩
  · simp [execOp,h3,h4,Instr.lookup,run_underlying ht,MapKept.run_getObj_map h6,ko.check w _ hkey,h9]
  · obtain ⟨u,h11,h12⟩ := mY h8 i v hv;rw [aU,h10] at h11;cases h11;simp only [R,RL];exact ⟨_,rfl,_,_,rfl,BE _ _ _ _ hidf h12,_,_,rfl,rfl,rfl⟩
theorem oO (ht : P.underlying t = some (.map kt et)) (ko : mU P kt good) {z : Value} {zA : AV} (hz : ∀ w,(zeroValue et).run P w = .ok z w) (hzA : ∀ (S : Nat → Prop) (w : World) (ρ : Pl),R S w zA ρ z) (hx : evu env x = some (.mrow ks vs)) {yv : AV} (hy : evu env y = some yv) (hyv : V7 yv kv) (hkeys : ∀ q,q ∈ ks → good q) (hkey : good kv) (hni : kv ∉ ks) :
    bR P ⟨d,.lookup t x y true,ty,pos,af,g⟩ env h 0 (fun _ => .tup [zA,.b false]) (fun _ => []) := by
  refine gN fun ρ S a w p => ?_
  have h1 := p.evu hx;simp only [R] at h1;obtain ⟨b,l,ck,h3,_,h6,h7,h8⟩ := h1;have h4 := hyv _ _ _ _ (p.evu hy);have h9 := uG ko w h7 hkeys hkey hni;refine ⟨.tuple #[z,.bool false],?_,?_⟩
  · simp [execOp,h3,h4,Instr.lookup,run_underlying ht,MapKept.run_getObj_map h6,ko.check w _ hkey,h9,hz]
  · simp only [R,RL];exact ⟨_,rfl,_,_,rfl,hzA S w ρ,_,_,rfl,rfl,rfl⟩
end
section
variable {P : Program} {env : eG} {h : Hp}
variable {d : Option Nat} {ty : TypeId} {pos : String} {af : Array Edge} {g : Option (Nat × Bool)}
variable {t kt et : TypeId} {good : Value → Prop} {x y : Operand} {k : Nat} {kv : Value} {ks : List Value} {vs : List AV}
theorem nI (ht : P.underlying t = some (.map kt et)) (ko : mU P kt good) {z : Value} {zA : AV} (hz : ∀ w,(zeroValue et).run P w = .ok z w) (hzA : ∀ (S : Nat → Prop) (w : World) (ρ : Pl),R S w zA ρ z) (hx : evu env x = some (.mp k)) {yv : AV} (hy : evu env y = some yv) (hyv : V7 yv kv) (hk : h[k]? = some (.mapO ks vs)) (hkeys : ∀ q,q ∈ ks → good q) (hkey : good kv) (hni : kv ∉ ks) :
    bR P ⟨d,.lookup t x y false,ty,pos,af,g⟩ env h 0 (fun _ => zA) (fun _ => []) := by
  refine gN fun ρ S a w p => ?_
  have h1 := p.evu hx;simp only [R] at h1;obtain ⟨b,o,h2,h3⟩ := h1;have h4 := hyv _ _ _ _ (p.evu hy);obtain ⟨b',o',l,ck,h5,h6,h7,h8⟩ := I7 (p.blk k _ hk);rw [h2] at h5;cases h5;have h9 := uG ko w h7 hkeys hkey hni;refine ⟨z,?_,hzA S w ρ⟩;simp [execOp,h3,h4,Instr.lookup,run_underlying ht,MapKept.run_getObj_map h6,ko.check w _ hkey,h9,hz]
end
section
variable {P : Program} {env : eG} {h : Hp}
theorem uZ {n : Nat × Nat} {Q : Exit → eG → Hp → Prop} {id : Nat} {l : List Oper} (k nt : Nat) (presl pres : List (List Nat)) (ds : List Nat) (bads : List (List Nat)) (hm : P.follows .mixedOrders = true) (hn : n.1 = nt) (hc : K7 l presl k = true) (hok : nM (l.take k) pres ds bads nt = true)
    (hv : DW P n (l.take k) pres ds bads (fO ds env) h 0 (fO ds env) [] (fun v h => VC P n l.toArray (l.drop k) v h (fun v h => Q .normal v h))) (hnd : pP (l.take k) = true := by rfl) (hnd2 : pP (l.drop k) = true := by rfl) : AW P n (.region id l.toArray true) env h Q := by
  intro c ρ S a w QQ s hQ;have hkl := (F8 hc).2.1;have hany := DZ pres ds bads (by rw [hn];exact hok) hv c ρ S a w (fun e a w => e = .normal ∧ wpListIn (rd c.r) 0 P l.toArray (fun e a w => e = .normal ∧ QQ .normal a w) (l.drop k) a w) s fun env' h' ρ' S' a' w' kv s' =>
    ⟨rfl,wX (fun e a w h => h.1) hnd2 (kv c ρ' S' a' w' _ s' fun env2 h2 ρ2 S2 a2 w2 k2 s2 => ⟨rfl,hQ .normal env2 h2 ρ2 S2 a2 w2 k2 s2⟩)⟩
  have hrep : ∀ m j,(Array.replicate m false).getD j false = false := fun m j => by
    simp only [Array.getD];split <;> simp
  refine wpIn_mono (wpIn_region_any (Q := fun e a w => e = .normal ∧ QQ .normal a w) hm (FV hc hnd (fun e a w h => h.1) (fun a w h => h.2) (l.take k).toArray.size l.toArray.size _ (Array.replicate (l.take k).toArray.size false) (List.range k) a _ (by simp) (by simp;omega) (fun j hj => by rw [hrep,hrep]) (fun j hj => hrep _ _) (fun i o ho hi => by rw [hrep] at hi;cases hi) (fun j hj _ => fC.2 hj) (by simp;omega) (by simp;omega) hany)) fun e a w he => by obtain ⟨rfl,h3⟩ := he;exact h3
end
end Go.Ab
namespace Go.Ab
open Go Go.WideElems
section
variable {P : Program} {n : Nat × Nat} {ops : Array Oper} {env : eG} {h : Hp} {K : eG → Hp → Prop} {rest : List Oper} {Q : Exit → eG → Hp → Prop} {code : Code}
end
end Go.Ab
namespace Go.Ab
open Go Go.MapKept
def EC (n : Nat × Nat) (env : eG) (h : Hp) (env' : eG) (h' : Hp) : Prop :=
  ∀ c ρ S a w,qU n c ρ S env h a w → ∃ ρ' S',qU n c ρ' S' env' h' a w
def JF (env : eG) : eG → Prop
  | [] => True
  | (t,x) :: r => look env t = some x ∧ JF env r
theorem JF.look {env : eG} : ∀ {env' : eG}, JF env env' → ∀ t x, look env' t = some x → look env t = some x
  | [],_,t,x,h => by cases h
  | (k,u) :: r,h,t,x,hx => by
    rw [iJ] at hx;split at hx
    · rename_i he;subst he;cases hx;exact h.1
    · exact JF.look h.2 t x hx
section
variable {P : Program} {n : Nat × Nat} {env env' : eG} {h h' : Hp} {Q : Exit → eG → Hp → Prop} {code : Code}
theorem EC.of (he : h = h') (hv : JF env env') : EC n env h env' h' := fun _ ρ S _ _ s => by
  subst he;exact ⟨ρ,S,s.fewer hv.look⟩
theorem EC.sub (hs : EA n.2 env h env' h') : EC n env h env' h' := fun _ _ S _ _ s =>
  let ⟨ρ',s'⟩ := s.sub hs;⟨ρ',S,s'⟩
theorem EC.trans {env2 : eG} {h2 : Hp} (a : EC n env h env' h') (b : EC n env' h' env2 h2) : EC n env h env2 h2 := fun c ρ S a' w s => by
  obtain ⟨ρ',S',s'⟩ := a c ρ S a' w s;exact b c ρ' S' a' w s'
theorem AT (env' : eG) (h' : Hp) (he : EC n env h env' h') (hv : AW P n code env' h' Q) : AW P n code env h Q := fun c ρ S a w QQ s hQ => by
  obtain ⟨ρ',S',s'⟩ := he c ρ S a w s;exact hv c ρ' S' a w QQ s' hQ
theorem VB {body : Code} {X : Type} (E : X → eG) (H : X → Hp) (μ : X → Nat) (x0 : X) (h0 : EC n env h (E x0) (H x0))
    (round : ∀ x,AW P n body (E x) (H x) (CX (fun v h => ∃ x',μ x' < μ x ∧ EC n v h (E x') (H x')) Q)) : AW P n (.loop body) env h Q := by
  intro c ρ S a w QQ s hQ;obtain ⟨ρ0,S0,s0⟩ := h0 c ρ S a w s;intro b k cs hro hb hr;have key : ∀ m x,μ x = m → ∀ ρ S a w,qU n c ρ S (E x) (H x) a w → ∃ e a' w',QQ e a' w' ∧ ArrivesIn (Machine.fenced P (rd c.r)) P (lone (b.atR a (.code body :: .inLoop body :: k)) cs w) b k cs e a' w' := by
    intro m
    induction m using Nat.strongRecOn with
    | _ m ih =>
      intro x hx ρ S a w s;obtain ⟨e,a₁,w₁,hq,harr⟩ := round x c ρ S a w (fun e a' w' => ∃ env' h' ρ' S',CX (fun v h => ∃ x',μ x' < μ x ∧ EC n v h (E x') (H x')) Q e env' h' ∧ qU n c ρ' S' env' h' a' w') s (fun e env' h' ρ' S' a' w' hq s' => ⟨env',h',ρ',S',hq,s'⟩) b (.inLoop body :: k) cs hro hb hr;obtain ⟨env',h',ρ',S',hq,s'⟩ := hq;cases e with
      | normal =>
        obtain ⟨x',hlt,hsub⟩ := hq;obtain ⟨ρ2,S2,s2⟩ := hsub _ _ _ _ _ s';obtain ⟨e₂,a₂,w₂,hq₂,harr₂⟩ := ih (μ x') (hx ▸ hlt) x' rfl ρ2 S2 a₁ w₁ s2;exact ⟨e₂,a₂,w₂,hq₂,.of_steps (StepsIn.trans harr (.one (fenced_calm hb hr rfl) stepR_inLoop)) harr₂⟩
      | exit id => exact ⟨_,a₁,w₁,hQ _ env' h' ρ' S' a₁ w₁ hq s',.pass (x := .inLoop body) rfl (fun _ _ => .inl (by simp)) harr⟩
      | goto l => exact ⟨_,a₁,w₁,hQ _ env' h' ρ' S' a₁ w₁ hq s',.pass (x := .inLoop body) rfl (fun _ _ => .inl (by simp)) harr⟩
      | ret => exact ⟨_,a₁,w₁,hQ _ env' h' ρ' S' a₁ w₁ hq s',.pass (x := .inLoop body) rfl (fun _ _ => .inl (by simp)) harr⟩
      | panic ch => exact ⟨_,a₁,w₁,hQ _ env' h' ρ' S' a₁ w₁ hq s',.pass (x := .inLoop body) rfl (fun _ _ => .inl (by simp)) harr⟩
      | outgrown => exact ⟨_,a₁,w₁,hQ _ env' h' ρ' S' a₁ w₁ hq s',.pass (x := .inLoop body) rfl (fun _ _ => .inl (by simp)) harr⟩
  obtain ⟨e,a',w',hq,harr⟩ := key _ x0 rfl ρ0 S0 a w s0;exact ⟨e,a',w',hq,.of_steps (.one (fenced_calm hb hr rfl) stepR_loop) harr⟩
theorem QC (sz : Nat) (hs : 0 < sz) : EC n env h env (h ++ [.arr [] sz]) := fun c ρ S a w s => by
  refine ⟨ρ,S,s.size,s.defers,s.env,?_,s.cm⟩;have hd := s.hs.dom h.length (aY _);have get : ∀ {j : Nat} {b : AB},(h ++ [.arr [] sz])[j]? = some b → h[j]? = some b ∨ (j = h.length ∧ b = .arr [] sz) := fun {j b} hj => by
    by_cases hlt : j < h.length
    · rw [aG hlt] at hj;exact .inl hj
    · have := (aA.1 hj).1;simp at this;have e : j = h.length := by omega
      subst e;simp at hj;exact .inr ⟨rfl,hj.symm⟩
  refine ⟨fun k hk => s.hs.dom k (by simp at hk;omega),s.hs.rng,fun k b hb => ?_,fun k b p hb hg hp => ?_,fun k k' b b' p p' hb hb' hg hg' hp hp' e => ?_,s.hs.stab,s.hs.ext,s.hs.st0,s.hs.st1,by simp;exact VX s.hs.mle,s.hs.keep,s.hs.glob⟩
  · rcases get hb with hb | ⟨rfl,rfl⟩
    · exact s.hs.blk k b hb
    · simp only [RB];exact ⟨(fun e he => by cases he),hs,.inl ⟨trivial,fun b o e => by rw [hd] at e;cases e⟩⟩
  · rcases get hb with hb | ⟨rfl,rfl⟩
    · exact s.hs.live k b p hb hg hp
    · rw [hd] at hp;cases hp
  · rcases get hb with hb | ⟨rfl,rfl⟩
    · rcases get hb' with hb' | ⟨rfl,rfl⟩
      · exact s.hs.inj k k' b b' p p' hb hb' hg hg' hp hp' e
      · rw [hd] at hp';cases hp'
    · rw [hd] at hp;cases hp
theorem ZV {S : Nat → Prop} {w : World} {ρ : Pl} (k sz : Nat) : R S w (.sl k 0 0 sz) ρ (.slice none 0 0) := by
  simp only [R];exact ⟨none,0,rfl,cH _,.inl ⟨trivial,rfl⟩⟩
theorem UM {k q len sz j : Nat} {ks : List Value} {vs : List AV} {es : List (List AV)} (hk : h[k]? = some (.mapO ks vs)) (hj : vs[j]? = some (.sl q 0 len sz)) (hq : h[q]? = some (.arr es sz)) (hn : len = es.length) (hi : AV.idfL es.flatten = true) :
    EC n env h env ((h.set q .gone).set k (.mapO ks (vs.set j (.rowE es sz)))) := fun c ρ S a w s => by
  have hkq : q ≠ k := fun e => by rw [e,hk] at hq;cases hq
  refine ⟨ρ,fun b => S b ∨ ∃ o,ρ q = some (b,o),s.size,s.defers.st (fun _ h => .inl h),fun t x hx => zO1 (fun _ h => .inl h) (s.env t x hx),?_,s.cm⟩;have g := s.hs.freeze hq;have hk' : (h.set q .gone)[k]? = some (.mapO ks vs) := by rw [fM hkq];exact hk
  have hB := g.blk k _ hk';have hB2 := hB;simp only [RB] at hB2;obtain ⟨b,o,l,ck,h1,h2,h3,h4⟩ := hB2;refine (g.upd hk' (by simp) h1 (oG.refl _ w) (fun _ => ?_)).1
  simp only [RB];refine ⟨b,o,l,ck,rfl,h2,h3,?_⟩;have h0 := s.hs.blk k _ hk;simp only [RB] at h0;obtain ⟨b',o',l',ck',h1',h2',h3',h4'⟩ := h0;rw [h1] at h1';cases h1';rw [h2] at h2';cases h2';obtain ⟨y,hy,hR⟩ := mY h4' j _ hj;have hv := FH hi (s.hs.blk q _ hq) (hn ▸ hR);have := LM h4 j hv
  rwa [show (List.map (fun x => x.val) l.toList).set j y = List.map (fun x => x.val) l.toList from by
    apply fU;intro i;rw [eZ];split
    · rename_i e;subst e;split
      · exact hy.symm
      · rename_i e2;have := (aA.1 hy).1;exact absurd this e2
    · rfl] at this
theorem DP {k sz : Nat} {ks : List Value} : ∀ (L : List (Nat × List (List AV))) (don : List AV) {h : Hp},h[k]? = some (.mapO ks (don ++ L.map fun e => .sl e.1 0 e.2.length sz)) → (∀ e,e ∈ L → h[e.1]? = some (.arr e.2 sz)) → (L.map (·.1)).Nodup → (∀ e,e ∈ L → AV.idfL e.2.flatten = true) →
    ∃ h',h'.length = h.length ∧ (∀ j,j ≠ k → j ∉ L.map (·.1) → h'[j]? = h[j]?) ∧ h'[k]? = some (.mapO ks (don ++ L.map fun e => AV.rowE e.2 sz)) ∧ ∀ (n : Nat × Nat) (env : eG),EC n env h env h'
  | [],don,h,hk,_,_,_ => ⟨h,rfl,fun _ _ _ => rfl,hk,fun _ _ c ρ S a w s => ⟨ρ,S,s⟩⟩
  | e :: L,don,h,hk,ho,hnd,hi => by
    have hq := ho e (by simp)
    have hkq : e.1 ≠ k := fun e' => by rw [e',hk] at hq;cases hq
    have hj : (don ++ (e :: L).map fun e => AV.sl e.1 0 e.2.length sz)[don.length]? = some (.sl e.1 0 e.2.length sz) := by simp
    have hset : (don ++ (e :: L).map fun e => AV.sl e.1 0 e.2.length sz).set don.length (AV.rowE e.2 sz) = (don ++ [AV.rowE e.2 sz]) ++ L.map fun e => AV.sl e.1 0 e.2.length sz := by
      rw [nU _ _ (aY _)];simp
    simp only [List.map_cons,cP] at hnd;have hkl : k < h.length := (aA.1 hk).1
    obtain ⟨h',h1,h2,h3,h4⟩ := DP L (don ++ [AV.rowE e.2 sz]) (h := (h.set e.1 .gone).set k (.mapO ks ((don ++ (e :: L).map fun e => AV.sl e.1 0 e.2.length sz).set don.length (AV.rowE e.2 sz)))) (by rw [xH (by simpa using hkl),hset]) (fun e' he' => by
      have h5 := ho e' (by simp [he'])
      have h6 : e'.1 ≠ k := fun e2 => by rw [e2,hk] at h5;cases h5
      rw [fM (Ne.symm h6),fM (fun e2 => hnd.1 (by rw [e2];exact aQ.2 ⟨e',he',rfl⟩))]
      exact h5) hnd.2 (fun e' he' => hi e' (by simp [he']))
    refine ⟨h',by rw [h1];simp,fun j hjk hjL => ?_,by rw [h3];simp,fun n env => (UM hk hj hq rfl (hi e (by simp))).trans (h4 n env)⟩
    simp only [List.map_cons,bL,not_or] at hjL;rw [h2 j hjk hjL.2,fM (Ne.symm hjk),fM (Ne.symm hjL.1)]
end
theorem IM {l : List Oper} {pres : List (List Nat)} {ds : List Nat} {bads : List (List Nat)} {n s k : Nat} (h : nM l pres ds bads n = true) (hs : Nat.blt s pres.length = true) : mP l pres ds bads [(s,k)] n = true := by
  simp [mP,RC,h,hs]
end Go.Ab
namespace Go.Proofs.YtdmajnjoeidgeaaGreat
open Go Go.Ab
section
variable {P : Program} {env : eG} {h : Hp} {d : Option Nat} {ty : TypeId} {pos : String} {af : Array Edge} {g : Option (Nat × Bool)}
theorem mO {t t2 : TypeId} {x y : Operand} {a b : Int} (hx : evu env x = some (.i a)) (hy : evu env y = some (.i b)) (e : b ≤ a) : bR P ⟨d,.binOp .geq t x y t2,ty,pos,af,g⟩ env h 0 (fun _ => .b true) (fun _ => []) := by
  have := gS (P := P) (d := d) (ty := ty) (pos := pos) (af := af) (g := g) (h := h) (t := t) (t2 := t2) hx hy;simpa [e] using this
theorem kG {t t2 : TypeId} {x y : Operand} {a b : Int} (hx : evu env x = some (.i a)) (hy : evu env y = some (.i b)) (e : a < b) : bR P ⟨d,.binOp .geq t x y t2,ty,pos,af,g⟩ env h 0 (fun _ => .b false) (fun _ => []) := by
  have := gS (P := P) (d := d) (ty := ty) (pos := pos) (af := af) (g := g) (h := h) (t := t) (t2 := t2) hx hy;simpa [show decide (a ≥ b) = false from decide_eq_false (by omega)] using this
theorem aL {t t2 : TypeId} {x y : Operand} {a b : Int} (hx : evu env x = some (.i a)) (hy : evu env y = some (.i b)) (e : a < b) : bR P ⟨d,.binOp .lss t x y t2,ty,pos,af,g⟩ env h 0 (fun _ => .b true) (fun _ => []) := by
  have := bX (P := P) (d := d) (ty := ty) (pos := pos) (af := af) (g := g) (h := h) (t := t) (t2 := t2) hx hy;simpa [e] using this
theorem bG {t t2 : TypeId} {x y : Operand} {a b : Int} (hx : evu env x = some (.i a)) (hy : evu env y = some (.i b)) (e : b ≤ a) : bR P ⟨d,.binOp .lss t x y t2,ty,pos,af,g⟩ env h 0 (fun _ => .b false) (fun _ => []) := by
  have := bX (P := P) (d := d) (ty := ty) (pos := pos) (af := af) (g := g) (h := h) (t := t) (t2 := t2) hx hy;simpa [show decide (a < b) = false from decide_eq_false (by omega)] using this
end
attribute [local irreducible] VC AW bR bQ
set_option maxHeartbeats 4000000
theorem zD (L : List Nat) : ∀ i : Nat,i < 0 → L[i]? = some i := gL
abbrev BQ := Int × Int × Int × Int × Int × Bool
abbrev H7 (r : BQ) : List AV := [.i r.1,.i r.2.1,.i r.2.2.1,.i r.2.2.2.1,.i r.2.2.2.2.1,.b r.2.2.2.2.2]
abbrev nO (l : List BQ) : List (List AV) := l.map H7
abbrev kD (l : List (Int × Int)) : List (List AV) := l.map fun x => [AV.i x.1,AV.i x.2]
theorem jE (l : List BQ) : ∀ e,e ∈ nO l → e.length = 6 := by intro e he;obtain ⟨n,_,rfl⟩ := aQ.1 he;rfl
theorem rC (l : List (Int × Int)) : ∀ e,e ∈ kD l → e.length = 2 := by intro e he;obtain ⟨n,_,rfl⟩ := aQ.1 he;rfl
theorem uM {l : List BQ} {k : Nat} (h : k < l.length) : (nO l)[k]? = some (H7 l[k]) := by simp [h]
theorem iF {l : List Int} {k : Nat} (h : k < l.length) : (aI l)[k]? = some [AV.i l[k]] := by simp [h]
structure E4 where
  tick : Int
  sh : List Int
  rb : List BQ
  pp : List Int
  dd : List Int
  sk : List (Int × Int)
abbrev oW (s : E4) : List AV := [.i s.tick,.rowE (aI s.sh) 1,.rowE (nO s.rb) 6,.rowE (aI s.pp) 1,.rowE (aI s.dd) 1,.rowE (kD s.sk) 2]
def Sm (c : Int) : Prop := -1152921504606846976 ≤ c ∧ c ≤ 1152921504606846976
theorem zB1 {c : Int} (h : Sm c) : bQ Tryz.prog 111 [.i c] [] (.i (2 * c)) [] := by
  unfold Sm at h;refine dD T Tryz.func111 rfl rfl rfl rfl ?_
  (repeat' (first|refine wS ?_|refine wR ?_|(refine rg 0 (aV ?_))|(refine rg 1 (mW rfl (vV (rK rfl rfl (by omega) (by omega)) (aV ?_))))|refine nZ ?_));all_goals first | (exfalso;omega) | exact rQ
theorem KJ {c : Int} (h : Sm c) : bQ Tryz.prog 110 [.i c] [] (.i (2 * c + 1)) [] := by
  unfold Sm at h;refine dD T Tryz.func110 rfl rfl rfl rfl ?_
  (repeat' (first|refine wS ?_|refine wR ?_|(refine rg 0 (aV ?_))|(refine rg 1 (mW rfl (vV (rK rfl rfl (by omega) (by omega)) (vV (bP rfl rfl (by omega) (by omega)) (aV ?_)))))|refine nZ ?_));all_goals first | (exfalso;omega) | exact rQ
def RD (load c : Int) : List Int := if 0 ≤ load then [2 * c,2 * c + 1] else [2 * c]
theorem zS5 (r : BQ) {c : Int} (h : Sm c) : bQ Tryz.prog 109 [.agg (H7 r),.i c] [] (.sl 0 0 (RD r.2.1 c).length 1) [.arr (aI (RD r.2.1 c)) 1] := by
  have c1 := zB1 h;have c2 := KJ h;obtain ⟨x,ld,ch,re,mu,de⟩ := r;dsimp only;unfold RD;refine dD T Tryz.func109 rfl rfl rfl rfl ?_;by_cases h0 : 0 ≤ ld
  · rw [if_pos h0]
    (repeat' (first|refine wS ?_|refine wR ?_|refine wT ?_|(refine rg 0 (bH (bN rfl rfl) rfl (aV ?_)))|(refine rg 1 (eK T rfl (vV (mO rfl rfl h0) ?_)))|(refine rg 2 (mW rfl (vV (kC (c1)) (mW rfl (vV (kC (c2)) (bH (by exact aS T rfl rfl (by decide) (by decide) rfl rfl rfl) rfl ?_)))));refine aV ?_)|refine nZ ?_));all_goals first | (exfalso;omega) | exact ⟨.inl rfl,[1],_,rfl,rfl,rfl,⟨.inr rfl,trivial⟩,by decide,zD _⟩
  · rw [if_neg h0]
    (repeat' (first|refine wS ?_|refine wK ?_|refine wR ?_|(refine wC rfl ?_ ?_<;>(intro hb;(try simp only [nm] at hb);try (exfalso;omega)))|(refine rg 0 (bH (bN rfl rfl) rfl (aV ?_)))|(refine rg 1 (eK T rfl (vV (gS rfl rfl) ?_)))|(refine rg 3 (mW rfl (vV (kC (c1)) (bH (by exact aS T rfl rfl (by decide) (by decide) rfl rfl rfl) rfl ?_)));refine aV ?_)|refine nZ ?_));all_goals first | (exfalso;omega) | exact ⟨.inl rfl,[1],_,rfl,rfl,rfl,⟨.inr rfl,trivial⟩,by decide,zD _⟩
end Go.Proofs.YtdmajnjoeidgeaaGreat
namespace Go.Proofs.YtdmajnjoeidgeaaGreat
open Go Go.Ab
attribute [local irreducible] VC AW bR bQ
set_option maxHeartbeats 4000000
theorem XB (s : E4) {i : Nat} (h : i < s.rb.length) (hc : Sm (s.rb[i]).1) : bQ Tryz.prog 71 [.agg (oW s),.i i] [] (.sl 0 0 (RD (s.rb[i]).2.1 (s.rb[i]).1).length 1) [.arr (aI (RD (s.rb[i]).2.1 (s.rb[i]).1)) 1] := by
  have q1 : (nO s.rb)[(i : Int).toNat]? = some (H7 s.rb[i]) := uM h;have cA := zS5 (s.rb[i]) hc;have hrl : (nO s.rb).length = s.rb.length := by simp
  generalize s.rb[i] = r at *;obtain ⟨tick,sh,rb,pp,dd,sk⟩ := s;obtain ⟨x,ld,ch,re,mu,de⟩ := r;dsimp only at *;generalize RD ld x = q at *;refine dD T Tryz.func71 rfl rfl rfl rfl ?_
  (repeat' (first|refine wS ?_|refine wK ?_|refine wR ?_|(refine wC rfl ?_ ?_<;>(intro hb;(try simp only [nm] at hb);try (exfalso;omega)))|(refine rg 0 (bH (bN rfl rfl) rfl (aV ?_)))|(refine rg 1 (mW rfl (vV (bG rfl rfl (by omega)) (mW rfl (yN rfl (yP T rfl (yO T rfl (gT (qW T rfl (yV (gS rfl rfl) ?_)))))))));refine pV ?_)|(refine aN (id := 3) 26 [[],[0],[],[0,1,2],rN 4,[],[5],[],[5,6,7],rM 5 4,rM 5 5,rN 11] (rM 14 12) [[],[],[14,15],[],[],rM 14 5,rM 14 5,rM 14 7,rM 14 5,rM 14 5,rM 14 5,[]] bM rfl (by decide +kernel) (dP T rfl (dO T rfl (dN rfl (dV rfl (ix T rfl (by omega) (jE _) q1) (dO T rfl (dP T rfl (dO T rfl (dN rfl (dV rfl (ix T rfl (by omega) (jE _) q1) ?_)))))))));refine dP T rfl (dO T rfl (FM rfl rfl rfl (by exact lX rfl rfl cA (.inr ⟨rfl,rfl,by simp⟩)) rfl ?_));refine dE ?_;refine aV ?_)|refine nZ ?_));all_goals first | (exfalso;omega) | exact ⟨.inl rfl,[1],_,rfl,rfl,rfl,⟨.inr (congrArg (fun x => some (AB.arr x 1)) ((nE _ q).trans (nE _ q).symm)),trivial⟩,by decide,zD _⟩
theorem SL (s : E4) {i : Nat} (h : i < s.pp.length) (hc : Sm s.pp[i]) : bQ Tryz.prog 73 [.agg (oW s),.i i] [] (.sl 0 0 2 1) [.arr (aI [2 * s.pp[i],2 * s.pp[i] + 1]) 1] := by
  have q1 : (aI s.pp)[(i : Int).toNat]? = some [AV.i s.pp[i]] := iF h;have c1 := zB1 hc;have c2 := KJ hc;have hrl : (aI s.pp).length = s.pp.length := by simp
  generalize s.pp[i] = x at *;obtain ⟨tick,sh,rb,pp,dd,sk⟩ := s;dsimp only at *;refine dD T Tryz.func73 rfl rfl rfl rfl ?_
  (repeat' (first|refine wS ?_|refine wK ?_|refine wR ?_|(refine wC rfl ?_ ?_<;>(intro hb;(try simp only [nm] at hb);try (exfalso;omega)))|(refine rg 0 (bH (bN rfl rfl) rfl (aV ?_)))|(refine rg 1 (mW rfl (vV (bG rfl rfl (by omega)) (mW rfl (yN rfl (yP T rfl (yO T rfl (gT (qW T rfl (yV (gS rfl rfl) ?_)))))))));refine pV ?_)|(refine aN (id := 3) 27 [[],[0],[],[0,1,2],rN 4,rN 5,[],[6],[],[6,7,8],rM 6 4,rN 11,rN 12] (rM 14 13) [[],[],[14,15],[],[],[],rM 14 6,rM 14 6,rM 14 8,rM 14 6,rM 14 6,[],[]] bM rfl (by decide +kernel) (dP T rfl (dO T rfl (dN rfl (dV rfl (ix T rfl (by omega) (aE _) q1) (dO T rfl (dV rfl (kC (c1)) (dP T rfl (dO T rfl (dM ?_)))))))));refine dV rfl (ix T rfl (by omega) (aE _) q1) (dO T rfl (dV rfl (kC (c2)) (FM rfl rfl rfl (by exact aS T rfl rfl (by decide) (by decide) rfl rfl rfl) rfl ?_)));refine dE ?_;refine aV ?_)|refine nZ ?_));all_goals first | (exfalso;omega) | exact ⟨.inl rfl,[1],_,rfl,rfl,rfl,⟨.inr rfl,trivial⟩,by decide,zD _⟩
def K8 : List BQ → Int → Int → Int
  | [],_,_ => -1
  | r :: l,o,k => if r.2.1 = o then k else K8 l o (k + 1)
def D1 (l : List BQ) (o : Int) : Int := if o < 0 then -1 else K8 l o 0
theorem QM {l : List BQ} {o : Int} {k : Nat} (h : k < l.length) : K8 (l.drop k) o k = if (l[k]).2.1 = o then (k : Int) else K8 (l.drop (k + 1)) o ((k + 1 : Nat) : Int) := by
  rw [bK h];simp [K8]
theorem NQ : ∀ (l : List BQ) (o k : Int), 0 ≤ k → -1 ≤ K8 l o k ∧ K8 l o k < k + l.length ∧ (0 ≤ K8 l o k ↔ ∃ r, r ∈ l ∧ r.2.1 = o)
  | [],o,k,h => by simp [K8];omega
  | r :: l,o,k,h => by
    obtain ⟨h1,h2,h3⟩ := NQ l o (k + 1) (by omega)
    unfold K8;split
    · rename_i e;exact ⟨by omega,by simp;omega,⟨fun _ => ⟨r,dC,e⟩,fun _ => h⟩⟩
    · rename_i e;refine ⟨h1,by simp only [List.length_cons];omega,h3.trans ⟨fun ⟨r',hr,e'⟩ => ⟨r',dI _ hr,e'⟩,fun ⟨r',hr,e'⟩ => ?_⟩⟩
      rcases bL.1 hr with rfl | hr
      · exact absurd e' e
      · exact ⟨r',hr,e'⟩
theorem zH6 (r : BQ) (o : Int) : bQ Tryz.prog 67 [.agg (H7 r),.pr [.i o] 0] [] (.b (decide (r.2.1 = o))) [] := by
  obtain ⟨x,ld,ch,re,mu,de⟩ := r;refine dD T Tryz.func67 rfl rfl rfl rfl ?_
  (repeat' (first|refine wS ?_|refine wR ?_|(refine rg 0 (bH (bN rfl rfl) rfl (aV ?_)))|(refine rg 1 (fW T rfl (vV (cJ T rfl rfl rfl rfl) (vV (cJ T rfl rfl rfl rfl) (vV (gD rfl rfl) (aV ?_))))))|refine nZ ?_));all_goals first | (exfalso;omega) | exact rQ
theorem TS (l : List BQ) (o : Int) (hl : l.length ≤ 9223372036854775807) : bQ Tryz.prog 66 [.rowE (nO l) 6,.clo (.func 67) [] [.pr [.i o] 0]] [] (.i (K8 l o 0)) [] := by
  have hlen : (nO l).length = l.length := by simp
  refine dD T Tryz.func66 rfl rfl rfl rfl ?_
  (repeat' (first|refine wS ?_|refine wB ?_|(refine rg 0 (aV ?_))|(refine rg 1 (mW rfl (qW T rfl (mV ?_))))|refine nZ ?_));refine bV (X := {k : Nat // k ≤ l.length ∧ K8 l o 0 = K8 (l.drop k) o k}) (fun k => [(0,.rowE (nO l) 6),(1,.clo (.func 67) [] [.pr [.i o] 0]),(7,.i (nO l).length),(8,.i k.1)]) (fun _ => []) (fun k => l.length - k.1) ⟨0,by simp,rfl⟩ (eI []) ?_
  rintro ⟨k,hk,hf⟩;dsimp only;by_cases hlt : k < l.length
  · have hd := QM (o := o) hlt;have q1 : (nO l)[(k : Int).toNat]? = some (H7 l[k]) := uM hlt;have hc := zH6 l[k] o;generalize l[k] = r at *;by_cases hb : r.2.1 = o
    · rw [decide_eq_true hb] at hc;rw [hf,hd,if_pos hb]
      (repeat' (first|refine wS ?_|refine wB ?_|refine wK ?_|refine wR ?_|refine wT ?_|(refine rg 2 (vV (aL rfl rfl (by omega)) ?_))|(refine rg 3 (mW rfl (aV ?_)))|(refine rg 4 (eX rfl (mW rfl (vV (ix T rfl (by omega) (jE l) q1) (lW T rfl (vV (kC (hc)) ?_))))))|(refine rg 5 (mW rfl (aV ?_)))|refine nZ ?_));all_goals first | (exfalso;omega) | exact rQ
    · rw [decide_eq_false hb] at hc;rw [if_neg hb] at hd
      (repeat' (first|refine wS ?_|refine wB ?_|refine wK ?_|refine wT ?_|refine wU ?_|(refine rg 2 (vV (aL rfl rfl (by omega)) ?_))|(refine rg 3 (mW rfl (aV ?_)))|(refine rg 4 (eX rfl (mW rfl (vV (ix T rfl (by omega) (jE l) q1) (lW T rfl (vV (kC (hc)) ?_))))))|(refine rg 6 (vV (bP rfl rfl (by omega) (by omega)) (mV ?_)))|refine nZ ?_));all_goals first | (exfalso;omega) | exact ⟨⟨k + 1,by omega,by rw [hf,hd]⟩,by dsimp only;omega,eI []⟩
  · rw [hf,fK (by omega)]
    (repeat' (first|refine wS ?_|refine wR ?_|refine wE ?_|refine wU ?_|(refine rg 2 (vV (bG rfl rfl (by omega)) ?_))|(refine rg 7 (aV ?_))|refine nZ ?_));all_goals first | (exfalso;omega) | exact rQ
theorem P8 (s : E4) (o : Int) (hl : s.rb.length ≤ 9223372036854775807) : bQ Tryz.prog 28 [.agg (oW s),.i o] [] (.i (D1 s.rb o)) [] := by
  have hc := TS s.rb o hl;obtain ⟨tick,sh,rb,pp,dd,sk⟩ := s;dsimp only at *;unfold D1;refine dD T Tryz.func28 rfl rfl rfl rfl ?_;by_cases h0 : o < 0
  · rw [if_pos h0]
    (repeat' (first|refine wS ?_|refine wR ?_|refine wT ?_|(refine rg 0 (bH (bN rfl rfl) rfl (bH (bN rfl rfl) rfl (aV ?_))))|(refine rg 1 (lW T rfl (vV (aL rfl rfl h0) ?_)))|(refine rg 2 (aV ?_))|refine nZ ?_));all_goals first | (exfalso;omega) | exact rQ
  · rw [if_neg h0]
    (repeat' (first|refine wS ?_|refine wK ?_|refine wR ?_|refine wU ?_|(refine rg 0 (bH (bN rfl rfl) rfl (bH (bN rfl rfl) rfl (aV ?_))))|(refine rg 1 (lW T rfl (vV (bG rfl rfl (by omega)) ?_)))|(refine rg 3 (eK T rfl (vV (by exact qN rfl rfl) ?_));refine vV (by exact gB rfl rfl hc (.cons (.row _ _ _) (.cons (.clo .nil (.cons (.ptr rfl (.cons (.v _) .nil)) .nil)) .nil)) rfl rfl) ?_;refine aV ?_)|refine nZ ?_));all_goals first | (exfalso;omega) | exact rQ
theorem RW (s : E4) (i : Nat) (hl : s.rb.length ≤ 9223372036854775807) (h0 : 0 ≤ D1 s.rb i) : bQ Tryz.prog 72 [.agg (oW s),.i i] [] .nils [] := by
  have hc := P8 s i hl;have hrl : (aI s.sh).length = s.sh.length := by simp
  generalize D1 s.rb i = o at *;obtain ⟨tick,sh,rb,pp,dd,sk⟩ := s;dsimp only at *;refine dD T Tryz.func72 rfl rfl rfl rfl ?_;by_cases hlt : i < sh.length
  · (repeat' (first|refine wS ?_|refine wR ?_|refine iY rfl ?_|(refine rg 0 (bH (bN rfl rfl) rfl (aV ?_)))|(refine rg 1 (mW rfl (vV (bG rfl rfl (by omega)) (mW rfl (yN rfl (yP T rfl (yO T rfl (gT (qW T rfl (yV (gS rfl rfl) ?_)))))))));refine pW rfl (mV ?_);refine aO rfl rfl (fun hb => ?_) (fun hb => ?_) <;> ((rw [hb];(try simp only [nm] at hb);try ((exfalso;omega);done)));(all_goals (refine yO T rfl (yN rfl (yV (kC (hc)) (yV (mO rfl rfl h0) (pV ?_)))))))|(refine rg 2 (aV ?_))|(refine nZ ?_)));all_goals first | (exfalso;omega) | exact rQ
  · (repeat' (first|refine wS ?_|refine wR ?_|refine iY rfl ?_|(refine rg 0 (bH (bN rfl rfl) rfl (aV ?_)))|(refine rg 1 (mW rfl (vV (bG rfl rfl (by omega)) (mW rfl (yN rfl (yP T rfl (yO T rfl (gT (qW T rfl (yV (gS rfl rfl) ?_)))))))));refine pW rfl (mV ?_);refine aO rfl rfl (fun hb => ?_) (fun hb => ?_) <;> ((rw [hb];(try simp only [nm] at hb);try ((exfalso;omega);done)));(all_goals ((iterate 4 refine gF ?_);refine pV ?_)))|(refine rg 2 (aV ?_))|(refine nZ ?_)));all_goals first | (exfalso;omega) | exact rQ
theorem RV (s : E4) {i : Nat} (h : i < s.sh.length) (hs : Sm s.sh[i]) (hl : s.rb.length ≤ 9223372036854775807) (h0 : D1 s.rb i < 0) : bQ Tryz.prog 72 [.agg (oW s),.i i] [] (.sl 0 0 1 1) [.arr (aI [2 * s.sh[i] + 1]) 1] := by
  have hc := P8 s i hl;have hrl : (aI s.sh).length = s.sh.length := by simp
  have q1 : (aI s.sh)[(i : Int).toNat]? = some [AV.i s.sh[i]] := iF h;have c2 := KJ hs;generalize D1 s.rb i = o at *;generalize s.sh[i] = x at *;obtain ⟨tick,sh,rb,pp,dd,sk⟩ := s;dsimp only at *;refine dD T Tryz.func72 rfl rfl rfl rfl ?_
  (repeat' (first|refine wS ?_|refine wK ?_|refine wR ?_|refine wU ?_|(refine rg 0 (bH (bN rfl rfl) rfl (aV ?_)))|(refine rg 1 (mW rfl (vV (bG rfl rfl (by omega)) (mW rfl (yN rfl (yP T rfl (yO T rfl (gT (qW T rfl (yV (gS rfl rfl) ?_)))))))));refine pW rfl (mV ?_);refine aO rfl rfl ?_ ?_<;>(intro hb;rw [hb];(try simp only [nm] at hb);try (exfalso;omega));(all_goals (refine yO T rfl (yN rfl (yV (kC (hc)) (yV (kG rfl rfl (by omega)) (pV ?_)))))))|(refine rg 3 (eK T rfl (mW rfl (vV (ix T rfl (by omega) (aE _) q1) (lW T rfl (vV (kC (c2)) (bH (by exact aS T rfl rfl (by decide) (by decide) rfl rfl rfl) rfl ?_))))));refine aV ?_)|refine nZ ?_));all_goals first | (exfalso;omega) | exact ⟨.inl rfl,[1],_,rfl,rfl,rfl,⟨.inr rfl,trivial⟩,by decide,zD _⟩
def N7 (s : E4) (k : Nat) : List Int := ((s.rb.take k).map fun r => RD r.2.1 r.1).flatten
def GR (s : E4) (i : Nat) : List Int := if 0 ≤ D1 s.rb i then [] else [2 * s.sh.getD i 0 + 1]
def BS (s : E4) (k : Nat) : List Int := ((List.range k).map (GR s)).flatten
def ES (s : E4) (k : Nat) : List Int := ((s.pp.take k).map fun c => [2 * c,2 * c + 1]).flatten
def AZ (s : E4) : List Int := N7 s s.rb.length ++ BS s s.sh.length ++ ES s s.pp.length
theorem CP {s : E4} {k : Nat} (h : k < s.rb.length) : N7 s (k + 1) = N7 s k ++ RD (s.rb[k]).2.1 (s.rb[k]).1 := by
  unfold N7;rw [aJ h,cV,nH,List.map_cons,List.map_nil,fA,List.flatten_nil,List.append_nil]
theorem GQ (s : E4) (k : Nat) : BS s (k + 1) = BS s k ++ GR s k := by
  unfold BS;rw [lO];simp
theorem HG {s : E4} {k : Nat} (h : k < s.pp.length) : ES s (k + 1) = ES s k ++ [2 * s.pp[k],2 * s.pp[k] + 1] := by
  unfold ES;rw [aJ h,cV,nH,List.map_cons,List.map_nil,fA,List.flatten_nil,List.append_nil]
theorem NZ (a c : Int) : (RD a c).length ≤ 2 ∧ 1 ≤ (RD a c).length := by unfold RD;split <;> simp
theorem X6 (s : E4) : ∀ k, k ≤ s.rb.length → (N7 s k).length ≤ 2 * k
  | 0,_ => by simp [N7]
  | k + 1,h => by
    have := X6 s k (by omega)
    have := NZ (s.rb[k]).2.1 (s.rb[k]).1;rw [CP (by omega),aF]
    omega
theorem EN (s : E4) : ∀ k, (BS s k).length ≤ k
  | 0 => by simp [BS]
  | k + 1 => by
    have := EN s k;have h1 : (GR s k).length ≤ 1 := by unfold GR;split <;> simp
    rw [GQ,aF];omega
theorem ER (s : E4) : ∀ k, k ≤ s.pp.length → (ES s k).length = 2 * k
  | 0,_ => by simp [ES]
  | k + 1,h => by
    have := ER s k (by omega)
    rw [HG (by omega),aF,this]
    simp;omega
structure ZU (s : E4) : Prop where
  rl : s.rb.length ≤ 1000
  sl : s.sh.length ≤ 1000
  pl : s.pp.length ≤ 1000
  rb : ∀ r,r ∈ s.rb → Sm r.1
  sh : ∀ c,c ∈ s.sh → Sm c
  pp : ∀ c,c ∈ s.pp → Sm c
theorem V6 {L q : List Int} {n : Nat} (hn : n = L.length) : ((aI L).drop 0).take n ++ aI q = aI (L ++ q) := by
  rw [fJ,bC (by rw [aR];omega),← cV]
theorem zO0 (s : E4) (h : ZU s) : bQ Tryz.prog 31 [.agg (oW s)] [] (.sl 0 0 (AZ s).length 1) [.arr (aI (AZ s)) 1] := by
  have hrl : (nO s.rb).length = s.rb.length := by simp
  have hsl : (aI s.sh).length = s.sh.length := by simp
  have hpl : (aI s.pp).length = s.pp.length := by simp
  have b1 := h.rl;have b2 := h.sl;have b3 := h.pl;have l1 := X6 s;have l2 := EN s;have l3 := ER s;refine dD T Tryz.func31 rfl rfl rfl rfl ?_
  (repeat' (first|refine wS ?_|(refine rg 0 (bH (bN rfl rfl) rfl (aV ?_)))|(refine rg 1 (aV ?_))|refine nZ ?_));refine rR 3 1 rfl (by decide) ?_
  (repeat' (first|refine wB ?_|(refine rg 2 (eK T rfl (qW T rfl (mV ?_))))|refine nZ ?_));refine bV (X := {k : Nat // k ≤ s.rb.length}) (fun k => [(1,.ptr 0 0),(3,.sl 1 0 (N7 s k.1).length 1),(9,.i s.rb.length),(10,.i k.1)]) (fun k => [AB.cells (oW s),AB.arr (aI (N7 s k.1)) 1]) (fun k => s.rb.length - k.1) ⟨0,by omega⟩ ⟨[0,1],rfl,⟨rfl,rfl,congrArg (fun n : Nat => some (AV.i n)) hrl,rfl,trivial⟩,⟨.inr rfl,.inr rfl,trivial⟩,by decide,zD _⟩ ?_
  rintro ⟨k,hk⟩;dsimp only;by_cases hlt : k < s.rb.length
  · have cR := XB s hlt (h.rb _ (dB hlt));have hnx := CP hlt;have hln := l1 k hk;have hal := NZ (s.rb[k]).2.1 (s.rb[k]).1;generalize RD (s.rb[k]).2.1 (s.rb[k]).1 = q at *;have hql : (aI q).length = q.length := aR q;have hnl : (N7 s (k + 1)).length = (N7 s k).length + (aI q).length := by rw [hnx,aF,hql]
    have hLl : (aI (N7 s k)).length = (N7 s k).length := aR _
    (repeat' (first|refine wS ?_|refine wB ?_|refine wK ?_|refine wT ?_|(refine rg 3 (vV (aL rfl rfl (by omega)) ?_))|(refine rg 4 (mW rfl (aV ?_)))|(refine rg 5 (mW rfl (lW T rfl (mW rfl (bH (by exact lX rfl rfl cR (.inr ⟨rfl,rfl,by simp⟩)) rfl ?_))));refine pF (es := aI q) 16 rfl (congrArg (fun x=>some (AB.arr x 1)) (nE _ _)) hql.symm (rZ _) ?_;refine eL T rfl rfl rfl rfl rfl rfl (by omega) (.row (aE q)) (pQ q) (by simp;omega) (by simp;omega) rfl ?_;refine aV ?_)|(refine rg 6 (vV (bP rfl rfl (by omega) (by omega)) (mV ?_)))|refine nZ ?_));all_goals first | (exfalso;omega) | exact ⟨⟨k + 1,hlt⟩,by dsimp only;omega,[0,3],rfl,⟨rfl,by dsimp only;rw [hnl];rfl,rfl,rfl,trivial⟩,⟨.inr rfl,.inr (aC rfl ((V6 rfl).trans (congrArg _ hnx.symm)) (aM _)),trivial⟩,by decide,zD _⟩
  · obtain rfl : k = s.rb.length := by omega
    have hA := l1 _ hk;generalize hLA : N7 s s.rb.length = A at *;clear hk hlt
    (repeat' (first|refine wS ?_|refine wB ?_|refine wE ?_|refine wU ?_|(refine rg 3 (vV (bG rfl rfl (by omega)) ?_))|(refine rg 7 (eK T rfl (qW T rfl (mV ?_))))|refine nZ ?_));all_goals try (exfalso;omega)
    refine bV (X := {k : Nat // k ≤ s.sh.length}) (fun k => [(1,.ptr 0 0),(3,.sl 1 0 (A ++ BS s k.1).length 1),(21,.i s.sh.length),(22,.i k.1)]) (fun k => [AB.cells (oW s),AB.arr (aI (A ++ BS s k.1)) 1]) (fun k => s.sh.length - k.1) ⟨0,by omega⟩ ⟨[0,1],rfl,⟨rfl,by simp [BS,AV.map,th];rfl,congrArg (fun n : Nat => some (AV.i n)) hsl,rfl,trivial⟩,⟨.inr rfl,.inr (aC rfl (by simp [BS]) (aM _)),trivial⟩,by decide,zD _⟩ ?_
    rintro ⟨k,hk⟩;dsimp only;have hln := l2 k;have hBl : (A ++ BS s k).length = A.length + (BS s k).length := aF;have hLl : (aI (A ++ BS s k)).length = (A ++ BS s k).length := aR _;by_cases hlt : k < s.sh.length
    · have hnx := GQ s k;have hnx2 : A ++ BS s (k + 1) = (A ++ BS s k) ++ GR s k := by rw [hnx,fL]
      by_cases hcar : 0 ≤ D1 s.rb k
      · have cN := RW s k (by omega) hcar
        have hq : GR s k = [] := if_pos hcar;rw [hq,List.append_nil] at hnx2;have hnl : (A ++ BS s (k + 1)).length = (A ++ BS s k).length + 0 := by rw [hnx2];rfl
        (repeat' (first|refine wS ?_|refine wB ?_|refine wK ?_|refine wT ?_|(refine rg 8 (vV (aL rfl rfl (by omega)) ?_))|(refine rg 9 (mW rfl (aV ?_)))|(refine rg 10 (mW rfl (lW T rfl (mW rfl (vV (kC (cN)) (eL T rfl rfl rfl rfl rfl rfl (by omega) .nil rfl (by simp;omega) (by simp;omega) rfl ?_)))));refine aV ?_)|(refine rg 11 (vV (bP rfl rfl (by omega) (by omega)) (mV ?_)))|refine nZ ?_));all_goals first | (exfalso;omega) | exact ⟨⟨k + 1,hlt⟩,by dsimp only;omega,[0,2],rfl,⟨rfl,by dsimp only;rw [hnl];rfl,rfl,rfl,trivial⟩,⟨.inr rfl,.inr (aC rfl (by rw [hnx2,List.append_nil,fJ,bC (by rw [hLl];exact aY _)]) (aM _)),trivial⟩,by decide,zD _⟩
      · have cS := RV s hlt (h.sh _ (dB hlt)) (by omega) (by omega)
        have hq : GR s k = [2 * s.sh[k] + 1] := by
          unfold GR;rw [if_neg hcar,aH,aB hlt];rfl
        rw [hq] at hnx2;have hql : (aI [2 * s.sh[k] + 1]).length = 1 := rfl;generalize hqq : [2 * s.sh[k] + 1] = q at *;have hqn : q.length = 1 := by rw [← aR q];exact hql
        have hnl : (A ++ BS s (k + 1)).length = (A ++ BS s k).length + (aI q).length := by rw [hnx2,aF,aR q]
        (repeat' (first|refine wS ?_|refine wB ?_|refine wK ?_|refine wT ?_|(refine rg 8 (vV (aL rfl rfl (by omega)) ?_))|(refine rg 9 (mW rfl (aV ?_)))|(refine rg 10 (mW rfl (lW T rfl (mW rfl (bH (by exact lX rfl rfl cS (.inr ⟨rfl,rfl,by simp⟩)) rfl ?_))));refine pF (es := aI q) 28 rfl (congrArg (fun x=>some (AB.arr x 1)) (nE _ _)) hql.symm (rZ _) ?_;refine eL T rfl rfl rfl rfl rfl rfl (by omega) (.row (aE q)) (pQ q) (by simp;omega) (by simp;omega) rfl ?_;refine aV ?_)|(refine rg 11 (vV (bP rfl rfl (by omega) (by omega)) (mV ?_)))|refine nZ ?_));all_goals first | (exfalso;omega) | exact ⟨⟨k + 1,hlt⟩,by dsimp only;omega,[0,3],rfl,⟨rfl,by dsimp only;rw [hnl];rfl,rfl,rfl,trivial⟩,⟨.inr rfl,.inr (aC rfl ((V6 rfl).trans (congrArg _ hnx2.symm)) (aM _)),trivial⟩,by decide,zD _⟩
    · obtain rfl : k = s.sh.length := by omega
      generalize hLB : A ++ BS s s.sh.length = B at *;clear hk hlt
      (repeat' (first|refine wS ?_|refine wB ?_|refine wE ?_|refine wU ?_|(refine rg 8 (vV (bG rfl rfl (by omega)) ?_))|(refine rg 12 (eK T rfl (qW T rfl (mV ?_))))|refine nZ ?_));all_goals try (exfalso;omega)
      refine bV (X := {k : Nat // k ≤ s.pp.length}) (fun k => [(1,.ptr 0 0),(3,.sl 1 0 (B ++ ES s k.1).length 1),(33,.i s.pp.length),(34,.i k.1)]) (fun k => [AB.cells (oW s),AB.arr (aI (B ++ ES s k.1)) 1]) (fun k => s.pp.length - k.1) ⟨0,by omega⟩ ⟨[0,1],rfl,⟨rfl,by simp [ES,AV.map,th];rfl,congrArg (fun n : Nat => some (AV.i n)) hpl,rfl,trivial⟩,⟨.inr rfl,.inr (aC rfl (by simp [ES]) (aM _)),trivial⟩,by decide,zD _⟩ ?_
      rintro ⟨k,hk⟩;dsimp only;have hln3 := l3 k hk;have hCl : (B ++ ES s k).length = B.length + (ES s k).length := aF;have hLl : (aI (B ++ ES s k)).length = (B ++ ES s k).length := aR _;by_cases hlt : k < s.pp.length
      · have hnx2 : B ++ ES s (k + 1) = (B ++ ES s k) ++ [2 * s.pp[k],2 * s.pp[k] + 1] := by rw [HG hlt,fL]
        have cS := SL s hlt (h.pp _ (dB hlt));have hql : (aI [2 * s.pp[k],2 * s.pp[k] + 1]).length = 2 := rfl;generalize hqq : [2 * s.pp[k],2 * s.pp[k] + 1] = q at *;have hqn : q.length = 2 := by rw [← aR q];exact hql
        have hnl : (B ++ ES s (k + 1)).length = (B ++ ES s k).length + (aI q).length := by rw [hnx2,aF,aR q]
        (repeat' (first|refine wS ?_|refine wB ?_|refine wK ?_|refine wT ?_|(refine rg 13 (vV (aL rfl rfl (by omega)) ?_))|(refine rg 14 (mW rfl (aV ?_)))|(refine rg 15 (mW rfl (lW T rfl (mW rfl (bH (by exact lX rfl rfl cS (.inr ⟨rfl,rfl,by simp⟩)) rfl ?_))));refine pF (es := aI q) 40 rfl (congrArg (fun x=>some (AB.arr x 1)) (nE _ _)) hql.symm (rZ _) ?_;refine eL T rfl rfl rfl rfl rfl rfl (by omega) (.row (aE q)) (pQ q) (by simp;omega) (by simp;omega) rfl ?_;refine aV ?_)|(refine rg 16 (vV (bP rfl rfl (by omega) (by omega)) (mV ?_)))|refine nZ ?_));all_goals first | (exfalso;omega) | exact ⟨⟨k + 1,hlt⟩,by dsimp only;omega,[0,3],rfl,⟨rfl,by dsimp only;rw [hnl];rfl,rfl,rfl,trivial⟩,⟨.inr rfl,.inr (aC rfl ((V6 rfl).trans (congrArg _ hnx2.symm)) (aM _)),trivial⟩,by decide,zD _⟩
      · obtain rfl : k = s.pp.length := by omega
        have hall : AZ s = B ++ ES s s.pp.length := by unfold AZ;rw [hLA,hLB]
        rw [hall]
        (repeat' (first|refine wS ?_|refine wR ?_|refine wE ?_|refine wU ?_|(refine rg 13 (vV (bG rfl rfl (by omega)) ?_))|(refine rg 17 (mW rfl (aV ?_)))|refine nZ ?_));all_goals first | (exfalso;omega) | exact ⟨.inl rfl,[1],_,rfl,rfl,rfl,⟨.inr (aC rfl rfl (aM _)),trivial⟩,by decide,zD _⟩
end Go.Proofs.YtdmajnjoeidgeaaGreat
namespace Go.Proofs.YtdmajnjoeidgeaaGreat
open Go Go.Ab Go.Shelf Go.Proofs
shelf_lay Lays.n189 Nm 189 at Tryz as laysSort
theorem JQ (l : List Int) (hl : l.length ≤ 17592186043904) : bQ Tryz.prog 78 [.sl 0 0 l.length 1] [.arr (aI l) 1] (.tup []) [.arr (aI (jY l)) 1] :=
  LC ⟨_,Tryz.func78,by kernel_rfl,by kernel_rfl⟩ (fun blk off cap zs w h1 h2 h3 => Any.slices_Sort_int laysSort blk off cap zs w h1 h2 h3) (fun p cap w => Any.slices_Sort_int_none laysSort p cap w) l hl
end Go.Proofs.YtdmajnjoeidgeaaGreat
namespace Go.Proofs.YtdmajnjoeidgeaaGreat
open Go Go.Ab
attribute [local irreducible] VC AW bR bQ AY VY T3
set_option maxHeartbeats 4000000
abbrev WP (l : List Int) : AV := .clo (.func 108) [] [.pr [.rowE (aI l) 1] 0]
theorem RG (l : List Int) : bQ Tryz.prog 70 [.rowE (aI l) 1] [] (WP l) [] := by
  refine LF rfl ?_;refine dD T Tryz.func70 rfl rfl rfl rfl ?_
  (repeat' (first|refine wS ?_|refine wR ?_|(refine rg 0 (bH (bN rfl rfl) rfl (aV ?_)))|(refine rg 1 (vV (by exact qN rfl rfl) ?_);refine aV ?_)|refine nZ ?_));exact ⟨.inl rfl,[0],_,rfl,rfl,rfl,⟨.inr rfl,trivial⟩,by decide,gL⟩
def zC9 (l : List Int) (k : Nat) : List AV := match l[k]? with
  | some x => [.i x]
  | none => []
theorem EI {l : List Int} {k : Nat} (h : k < l.length) : zC9 l k = [.i l[k]] := by unfold zC9;rw [aB h]
theorem ON (l : List Int) (hl : l.length ≤ 17592186043904) : T3 Tryz.prog 108 [] [.pr [.rowE (aI l) 1] 0] [] (zC9 l) l.length := by
  have hll : (aI l).length = l.length := by simp
  refine zC0 T Tryz.func108 rfl rfl rfl rfl ?_;intro J A y hJ hy
  (repeat' (first|(first|(refine yQ ?_)|(refine sX ?_))|(((refine jJ hJ (fP (id := 0) ?_)));(all_goals (refine lV T ?_;(refine qV T ?_);refine mV ?_)))|refine nZ ?_));refine NU (X := {k : Nat // k ≤ l.length}) (fun k => [(0,.clo (.yield y) [] []),(5,.rowE (aI l) 1),(6,.i (aI l).length),(7,.i (k.1 : Int))]) (fun _ => []) (fun k => (k.1,false)) (fun k => l.length - k.1) ⟨0,cH _⟩ rfl (eI []) ?_
  rintro ⟨k,hkl⟩;dsimp only;by_cases hk : k < l.length
  · have hit := EI hk;have q1 : (aI l)[(k : Int).toNat]? = some [AV.i l[k]] := by rw [aX,aU,aB hk];rfl
    generalize l[k] = x at *
    (repeat' (first|(first|(refine yQ ?_)|(refine sX ?_)|(refine C6 ?_)|(refine P9 ?_))|((refine sJ rfl (fun hb=>?_) (fun hb=>?_)<;>(((try simp only [nm] at hb);try ((exfalso;omega);done)))))|(((refine jJ hJ (fP (id := 1) ?_)));(all_goals (refine vV (bX rfl rfl) ?_)))|(((refine jJ hJ (fP (id := 2) ?_)));(all_goals (refine vV (ix T rfl (by omega) (aE _) q1) ?_;refine lV T ?_;refine aV ?_)))|(((refine uI (id := 3) ?_));((refine M7 2 hJ ?_));(dsimp only [List.take,List.drop]);(all_goals (refine HL ?_;refine mD ?_;refine xA hJ hy rfl rfl rfl hk hit rfl ?_));(all_goals (intro yes));(all_goals (refine CG hJ ?_;refine vV (bB rfl) ?_;refine vO (by ((dsimp only [List.nil_append,List.cons_append,List.append_nil,List.length_cons,List.length_nil,List.set_cons_zero,List.set_cons_succ,List.map_cons,List.map_nil,gQ,gJ,gO,iS,rB,jV,mL,mJ,mI,mK,jU,jX,jT,jW,Nat.zero_add,Nat.add_zero,Nat.reduceAdd,Bool.not_true,Bool.not_false];done))) ?_)))|(((refine jJ hJ (fP (id := 4) ?_)));(all_goals (refine vV (bP rfl rfl (by omega) (by omega)) ?_;refine mV ?_)))|refine nZ ?_));all_goals first | (exfalso;omega) | skip
    · exact ⟨.inl rfl,fun h => (by first | (subst hb;cases h) | (cases h;done)),[],rfl⟩
    · obtain rfl := hb;exact ⟨⟨k + 1,hk⟩,by dsimp only;omega,rfl,eI []⟩
  · (repeat' (first|(first|(refine yQ ?_)|(refine NV ?_))|((refine sJ rfl (fun hb => ?_) (fun hb => ?_) <;> (((try simp only [nm] at hb);try ((exfalso;omega);done)))))|(((refine jJ hJ (fP (id := 1) ?_)));(all_goals (refine vV (bX rfl rfl) ?_)))|(refine vO (by ((dsimp only [List.nil_append,List.cons_append,List.append_nil,List.length_cons,List.length_nil,List.set_cons_zero,List.set_cons_succ,List.map_cons,List.map_nil,gQ,gJ,gO,iS,rB,jV,mL,mJ,mI,mK,jU,jX,jT,jW,Nat.zero_add,Nat.add_zero,Nat.reduceAdd,Bool.not_true,Bool.not_false];done))) ?_)));all_goals first | (exfalso;omega) | skip
    exact ⟨.inr rfl,fun _ => by show k = _;omega,[],rfl⟩
abbrev zT5 (l : List Int) : Hp := [.cells [.sl 1 0 l.length 1],.arr (aI l) 1]
theorem zR9 : ∀ i : Nat,i < 1 → ([0,3] : List Nat)[i]? = some i := by decide
theorem IV (l : List Int) (hl : l.length ≤ 17592186043904) : bQ Tryz.prog 129 [.nils,WP l] [] (.sl 0 0 l.length 1) [.arr (aI l) 1] := by
  have hit := ON l hl;refine dD T Tryz.func129 rfl rfl rfl rfl ?_
  (repeat' (first|refine wS ?_|refine wB ?_|(refine rg 0 (bH (bN rfl rfl) rfl (aV ?_)))|(refine rg 1 (mV ?_))|refine nZ ?_));refine tZ 0 0 1 rfl rfl (by decide) ?_
  refine AR [] [0,1] [(2,.ptr 0 0)] (fun k => zT5 (l.take k)) 1 rfl hit rfl rfl rfl trivial dK rfl ⟨rfl,trivial⟩ ⟨.inr rfl,.inr rfl,trivial⟩ (by decide) (gL) (by simp) (cH _) (bE rfl) rfl (by decide) (fun k hk => by rw [EI hk];exact ⟨rfl,rfl⟩) ?_ ?_
  · intro k hk;rw [EI hk];have hks := aJ hk;have hkl : (l.take k).length ≤ l.length := List.length_take_le' _ _;generalize l.take k = K at hks hkl ⊢;generalize l[k] = x at *;refine fP (id := 2) ?_;refine vV (by exact eM rfl) ?_
    refine mD ?_;refine ⟨rfl,?_⟩
    repeat' (first|refine wB ?_|(refine rg 3 (lW T rfl (mW rfl (bH (by exact aS T rfl rfl (by decide) (by decide) rfl rfl rfl) rfl ?_)));refine eL T rfl rfl rfl rfl rfl rfl (by simp) (iU.whole rfl rfl) rfl (by simp;omega) (by simp;omega) rfl ?_;refine bJ T rfl rfl rfl rfl rfl rfl (by decide) rfl ?_)|refine nZ ?_)
    show EA _ _ _ _ (zT5 (l.take (k + 1)));rw [hks];exact ⟨[0,3],rfl,trivial,⟨.inr (by simp;rfl),.inr (aC rfl (by simp;exact bC (by simp)) (aM _)),trivial⟩,by decide,zR9⟩
  · have e : l.take l.length = l := dU;rw [e]
    (repeat' (first|refine wS ?_|refine wR ?_|(refine rg 4 (lW T rfl (aV ?_)))|refine nZ ?_));exact ⟨.inl rfl,[1],_,rfl,rfl,rfl,⟨.inr (aC rfl rfl (aM _)),trivial⟩,by decide,gL⟩
theorem QI (l : List Int) (hl : l.length ≤ 17592186043904) : bQ Tryz.prog 107 [WP l] [] (.sl 0 0 l.length 1) [.arr (aI l) 1] := by
  have h1 := IV l hl;have hrf := FB l;refine dD T Tryz.func107 rfl rfl rfl rfl ?_
  (repeat' (first|refine wS ?_|refine wR ?_|(refine rg 0 (aV ?_))|(refine rg 1 (mW rfl (bH (by exact lX rfl rfl h1 (.inr ⟨rfl,rfl,by simp⟩)) rfl ?_));refine aV ?_)|refine nZ ?_));exact ⟨.inl rfl,[0],_,rfl,rfl,rfl,⟨.inr (aC rfl (nE _ _) (aM _)),trivial⟩,by decide,gL⟩
theorem RO (l : List Int) (hl : l.length ≤ 17592186043904) : bQ Tryz.prog 69 [WP l] [] (.rowE (aI (jY l)) 1) [] := by
  refine qR (by simp [qA] : l.length = (aI (jY l)).length) (rZ _) ?_
  have h1 := QI l hl;have h2 := JQ l hl;have hrf := FB l;generalize jY l = B at *;refine dD T Tryz.func69 rfl rfl rfl rfl ?_
  (repeat' (first|refine wS ?_|refine wR ?_|(refine rg 0 (aV ?_))|(refine rg 1 (mW rfl (bH (by exact lX rfl rfl h1 (.inr ⟨rfl,rfl,by simp⟩)) rfl ?_));refine aV ?_)|(refine rg 2 (mW rfl (xB [0] rfl rfl h2 rfl rfl (by decide) ⟨.inr (aC rfl (nE _ _) (aM _)),trivial⟩ (by simp) rfl ?_)))|(refine rg 3 (mW rfl (aV ?_)))|refine nZ ?_));exact ⟨.inl rfl,[0],_,rfl,rfl,rfl,⟨.inr (aC rfl (nE _ _) (aM _)),trivial⟩,by decide,gL⟩
end Go.Proofs.YtdmajnjoeidgeaaGreat
namespace Go.Proofs.YtdmajnjoeidgeaaGreat
open Go Go.Ab
attribute [local irreducible] VC AW bR bQ
set_option maxHeartbeats 4000000
def KU : List Int → Int × Bool
  | x :: y :: l => if y = x then (y,true) else KU (y :: l)
  | _ => (0,false)
def DT (l : List Int) : Int × Bool := KU (jY l)
theorem ZD {l : List Int} {k : Nat} (h : k + 1 < l.length) : KU (l.drop k) = if l.getD (k + 1) 0 = l.getD k 0 then (l.getD (k + 1) 0,true) else KU (l.drop (k + 1)) := by
  have e1 : l.getD k 0 = l[k]'(by omega) := by rw [aH,aB (by omega)];rfl
  have e2 : l.getD (k + 1) 0 = l[k + 1] := by rw [aH,aB h];rfl
  rw [e1,e2,bK (show k < l.length by omega),bK h]
  rfl
theorem UT {l : List Int} {k : Nat} (h : l.length ≤ k + 1) : KU (l.drop k) = (0,false) := by
  have : (l.drop k).length ≤ 1 := by rw [iE];omega
  match hd : l.drop k,this with
  | [],_ => rfl
  | [x],_ => rfl
  | x :: y :: r,h2 => simp at h2
theorem ZI (l : List Int) (hl : l.length ≤ 1000000) : bQ Tryz.prog 30 [.rowE (aI l) 1] [] (.tup [.i (DT l).1,.b (DT l).2]) [] := by
  have c1 := RG l;have c2 := RO l (by omega)
  unfold DT;have hll : (jY l).length ≤ 1000000 := by unfold jY;rw [List.length_mergeSort];exact hl
  generalize jY l = q at *;have hql : (aI q).length = q.length := aR q;refine dD T Tryz.func30 rfl rfl rfl rfl ?_
  (repeat' (first|refine wS ?_|refine wB ?_|(refine rg 0 (iZ ?_))|(refine rg 1 (mW rfl (vV (kC (c1)) (vV (kC (c2)) (aV ?_)))))|(refine rg 2 (aV ?_))|refine nZ ?_));refine bV (X := {k : Nat // KU q = KU (q.drop k)}) (fun k => [(4,.rowE (aI q) 1),(5,.i (k.1 + 1 : Nat))]) (fun _ => []) (fun k => q.length - k.1) ⟨0,rfl⟩ (eI []) ?_
  rintro ⟨k,hk⟩;dsimp only;rw [hk];by_cases hlt : k + 1 < q.length
  · have hd := ZD hlt;have p1 := eY (l := q) (j := ((k + 1 : Nat) : Int)) 0 hlt rfl;have p2 : (aI q)[(((k + 1 : Nat) : Int) - 1).toNat]? = some [AV.i (q.getD k 0)] := eY 0 (show k < q.length by omega) (by omega)
    rw [hd] at hk ⊢;generalize q.getD (k + 1) 0 = y at *;generalize q.getD k 0 = x at *;by_cases e : y = x
    · rw [if_pos e]
      (repeat' (first|refine wS ?_|refine wB ?_|refine wK ?_|refine wR ?_|refine wT ?_|(refine rg 3 (eX rfl (qW T rfl (vV (aL rfl rfl (by omega)) ?_))))|(refine aN (id := 5) 29 zU4 (rM 15 10) zU5 bM rfl (by decide +kernel) (dN rfl (dN rfl (dV rfl (ix T rfl (by omega) (aE q) p1) (dO T rfl (dN rfl (dN rfl (dV rfl (fN rfl rfl (by omega) (by omega)) (dV rfl (ix T rfl (by omega) (aE q) p2) (dL T ?_)))))))));refine dV rfl (gH rfl rfl e) (dE ?_))|(refine rg 6 (eX rfl (vV (ix T rfl (by omega) (aE q) p1) (lW T rfl (iZ ?_)))))|refine nZ ?_));all_goals first | (exfalso;omega) | exact rQ
    · rw [if_neg e] at hk ⊢
      (repeat' (first|refine wS ?_|refine wB ?_|refine wK ?_|refine wT ?_|refine wU ?_|(refine rg 3 (eX rfl (qW T rfl (vV (aL rfl rfl (by omega)) ?_))))|(refine aN (id := 5) 29 zU4 (rM 15 10) zU5 bM rfl (by decide +kernel) (dN rfl (dN rfl (dV rfl (ix T rfl (by omega) (aE q) p1) (dO T rfl (dN rfl (dN rfl (dV rfl (fN rfl rfl (by omega) (by omega)) (dV rfl (ix T rfl (by omega) (aE q) p2) (dL T ?_)))))))));refine dV rfl (eN rfl rfl e) (dE ?_))|(refine iA 4 rfl rfl rfl (by omega) (by omega) ?_)|refine nZ ?_));all_goals first | (exfalso;omega) | exact ⟨⟨k + 1,by first | exact hk | rfl⟩,by dsimp only;omega,eI []⟩
  · rw [UT (by omega)]
    (repeat' (first|refine wS ?_|refine wR ?_|refine wE ?_|refine wU ?_|(refine rg 3 (eX rfl (qW T rfl (vV (bG rfl rfl (by omega)) ?_))))|(refine rg 7 (iZ ?_))|refine nZ ?_));all_goals first | (exfalso;omega) | exact rQ
theorem VO {s : E4} (h : ZU s) : (AZ s).length ≤ 5000 := by
  have l1 := X6 s s.rb.length (aY _);have l2 := EN s s.sh.length;have l3 := ER s s.pp.length (aY _);have b1 := h.rl;have b2 := h.sl;have b3 := h.pl;unfold AZ;simp only [aF];omega
def jS (n f t : Int) : Bool := decide (f ≤ n) && decide (n ≤ t)
theorem wY (n f t : Int) : bQ Tryz.prog 25 [.i n,.i f,.i t] [] (.b (jS n f t)) [] := by
  refine dD T Tryz.func25 rfl rfl rfl rfl ?_;unfold jS;by_cases h : f ≤ n
  · rw [decide_eq_true h,vE]
    (repeat' (first|refine wS ?_|refine wR ?_|(refine rg 0 (aV ?_))|(refine rg 1 (eX rfl (vV (mO rfl rfl h) (mW rfl (yN rfl (yN rfl (yV (lF rfl rfl) (pW rfl (aV ?_)))))))))|refine nZ ?_));all_goals first | (exfalso;omega) | exact rQ
  · rw [decide_eq_false h,tB]
    (repeat' (first|refine wS ?_|refine wR ?_|(refine rg 0 (aV ?_))|(refine rg 1 (eX rfl (vV (kG rfl rfl (by omega)) (mV ?_)));(iterate 3 refine gF ?_);refine pW rfl (aV ?_))|refine nZ ?_));all_goals first | (exfalso;omega) | exact rQ
end Go.Proofs.YtdmajnjoeidgeaaGreat
namespace Go.Fl
structure jD where
  w : Int
  h : Int
  d : Int
  k : List Int
  o : List Int
def jD.size (f : jD) : Int := f.w * f.h * f.d
structure iL (f : jD) : Prop where
  w1 : 1 ≤ f.w
  h1 : 1 ≤ f.h
  d1 : 1 ≤ f.d
  kl : (f.k.length : Int) = f.w * f.h * f.d
  ol : f.o.length = f.k.length
  le : f.k.length ≤ 300
  k : ∀ (i : Nat) (h : i < f.k.length),0 ≤ f.k[i] ∧ f.k[i] ≤ 6
  o : ∀ (i : Nat) (h : i < f.o.length),0 ≤ f.o[i] ∧ f.o[i] ≤ 63
theorem rY {a b : Int} (ha : 0 ≤ a) (hb : 1 ≤ b) : a ≤ a * b := by
  have := A9 hb ha
  rwa [Int.mul_one] at this
theorem iL.bounds {f : jD} (g : iL f) : 1 ≤ f.w * f.h ∧ f.w ≤ f.w * f.h ∧ f.h ≤ f.w * f.h ∧ f.w * f.h ≤ f.w * f.h * f.d ∧ f.d ≤ f.w * f.h * f.d ∧ f.w * f.h * f.d ≤ 300 := by
  have h1 := rY (a := f.w) (b := f.h) (by have := g.w1;omega) g.h1
  have h2 := rY (a := f.h) (b := f.w) (by have := g.h1;omega) g.w1
  rw [WC f.h f.w] at h2;have hw := g.w1;have h3 := rY (a := f.w * f.h) (b := f.d) (by omega) g.d1
  have h4 := rY (a := f.d) (b := f.w * f.h) (by have := g.d1;omega) (by omega)
  rw [WC f.d] at h4;have := g.kl;have := g.le;refine ⟨by omega,h1,h2,h3,h4,by omega⟩
def rP (f : jD) (x y z : Int) : Int := if x < 0 ∨ y < 0 ∨ z < 0 ∨ f.w ≤ x ∨ f.h ≤ y ∨ f.d ≤ z then -1 else (z * f.h + y) * f.w + x
def US (d : Int) : Int := if d = 0 then 1 else if d = 2 then -1 else 0
def UR (d : Int) : Int := if d = 1 then 1 else if d = 3 then -1 else 0
def UQ (d : Int) : Int := if d = 4 then 1 else if d = 5 then -1 else 0
def dS (f : jD) (c d : Int) : Int := if c < 0 ∨ f.size ≤ c ∨ d < 0 ∨ 6 ≤ d then -1 else rP f (c % f.w + US d) (c / f.w % f.h + UR d) (c / (f.w * f.h) + UQ d)
def oJ (d : Int) : Int := if d = 0 then 2 else if d = 1 then 3 else if d = 2 then 0 else if d = 3 then 1 else if d = 4 then 5 else if d = 5 then 4 else -1
def FQ (f : jD) (c d : Int) : Int := (f.o.getD c.toNat 0 / 2 ^ d.toNat) % 2
def mC (f : jD) (c : Int) : Int := f.k.getD c.toNat 0
def CT (f : jD) (c n d : Int) : Prop := mC f c ≠ 0 ∧ mC f n ≠ 0 ∧ FQ f c d ≠ 0 ∧ (d = 4 ∨ d = 5 → mC f c = 6 ∧ mC f n = 6)
instance (f : jD) (c n d : Int) : Decidable (CT f c n d) := by unfold CT;infer_instance
def kK (f : jD) (c d : Int) : Option Int := if 0 ≤ dS f c d ∧ CT f c (dS f c d) d then some (dS f c d) else none
def qQ (f : jD) (c d : Int) : Option Int := if 0 ≤ dS f c (oJ d) ∧ (kK f (dS f c (oJ d)) d).isSome = true then some (dS f c (oJ d)) else none
section
variable {f : jD}
theorem L1 (g : iL f) {c : Int} (h0 : 0 ≤ c) (h1 : c < f.size) : (0 ≤ c % f.w ∧ c % f.w < f.w) ∧ (0 ≤ c / f.w % f.h ∧ c / f.w % f.h < f.h) ∧ (0 ≤ c / (f.w * f.h) ∧ c / (f.w * f.h) < f.d) := by
  have hw := g.w1;have hh := g.h1;obtain ⟨b1,_⟩ := g.bounds;refine ⟨⟨Int.emod_nonneg _ (by omega),Int.emod_lt_of_pos _ (by omega)⟩,⟨Int.emod_nonneg _ (by omega),Int.emod_lt_of_pos _ (by omega)⟩,vH h0 (by omega),?_⟩
  refine Int.ediv_lt_of_lt_mul (by omega) ?_
  rw [WC];exact h1
theorem ZP (g : iL f) {c : Int} (h0 : 0 ≤ c) (h1 : c < f.size) : (c / (f.w * f.h) * f.h + c / f.w % f.h) * f.w + c % f.w = c := by
  have hw := g.w1;have e1 : c / (f.w * f.h) = c / f.w / f.h := (BN (by omega)).symm
  rw [e1];have e2 : c / f.w / f.h * f.h + c / f.w % f.h = c / f.w := Int.ediv_mul_add_emod _ _;rw [e2];exact Int.ediv_mul_add_emod _ _
theorem P7 (g : iL f) {x y z : Int} (hx : 0 ≤ x ∧ x < f.w) (hy : 0 ≤ y ∧ y < f.h) (hz : 0 ≤ z ∧ z < f.d) :
    (0 ≤ (z * f.h + y) * f.w + x ∧ (z * f.h + y) * f.w + x < f.size) ∧ ((z * f.h + y) * f.w + x) % f.w = x ∧ ((z * f.h + y) * f.w + x) / f.w % f.h = y ∧ ((z * f.h + y) * f.w + x) / (f.w * f.h) = z := by
  have hw := g.w1;have hh := g.h1;have e1 : ((z * f.h + y) * f.w + x) / f.w = z * f.h + y := by
    rw [WD,Int.add_mul_ediv_right _ _ (by omega),Int.ediv_eq_zero_of_lt hx.1 hx.2,Int.zero_add]
  have e2 : (z * f.h + y) / f.h = z := by
    rw [WD,Int.add_mul_ediv_right _ _ (by omega),Int.ediv_eq_zero_of_lt hy.1 hy.2,Int.zero_add]
  have n1 : 0 ≤ z * f.h := xI hz.1 (by omega)
  have n2 : 0 ≤ (z * f.h + y) * f.w := xI (by omega) (by omega)
  refine ⟨⟨by omega,?_⟩,?_,?_,?_⟩
  · have k1 : z * f.h ≤ (f.d - 1) * f.h := pU (by omega) (by omega)
    rw [Int.sub_mul,Int.one_mul] at k1;have k2 : (z * f.h + y) * f.w ≤ (f.d * f.h - 1) * f.w := pU (by omega) (by omega)
    rw [Int.sub_mul,Int.one_mul] at k2;have k3 : f.d * f.h * f.w = f.size := by unfold jD.size;rw [WC,← Int.mul_assoc,Int.mul_right_comm]
    omega
  · rw [WD,Int.add_mul_emod_self_right,Int.emod_eq_of_lt hx.1 hx.2]
  · rw [e1,WD,Int.add_mul_emod_self_right,Int.emod_eq_of_lt hy.1 hy.2]
  · rw [← BN (by omega),e1,e2]
theorem C5 (g : iL f) {c d : Int} (h : 0 ≤ dS f c d) : (0 ≤ c ∧ c < f.size) ∧ (0 ≤ d ∧ d < 6) ∧ dS f c d < f.size ∧ dS f c d % f.w = c % f.w + US d ∧ dS f c d / f.w % f.h = c / f.w % f.h + UR d ∧ dS f c d / (f.w * f.h) = c / (f.w * f.h) + UQ d := by
  unfold dS at h ⊢;split at h
  · omega
  · rename_i h0;rw [if_neg h0];unfold rP at h ⊢;split at h
    · omega
    · rename_i h1;rw [if_neg h1];obtain ⟨a0,a1,a2,a3⟩ := P7 g (x := c % f.w + US d) (y := c / f.w % f.h + UR d) (z := c / (f.w * f.h) + UQ d) (by omega) (by omega) (by omega)
      exact ⟨by omega,by omega,a0.2,a1,a2,a3⟩
theorem IQ (g : iL f) {c d n : Int} (hc : 0 ≤ c ∧ c < f.size) (hd : 0 ≤ d ∧ d < 6) (hn : 0 ≤ n ∧ n < f.size) (h1 : n % f.w = c % f.w + US d) (h2 : n / f.w % f.h = c / f.w % f.h + UR d) (h3 : n / (f.w * f.h) = c / (f.w * f.h) + UQ d) : dS f c d = n := by
  unfold dS;rw [if_neg (by omega),← h1,← h2,← h3]
  unfold rP;have := L1 g hn.1 hn.2;rw [if_neg (by omega)]
  exact ZP g hn.1 hn.2
theorem SN {d : Int} (hd : 0 ≤ d ∧ d < 6) : (0 ≤ oJ d ∧ oJ d < 6) ∧ oJ (oJ d) = d ∧ oJ d ≠ d ∧ US (oJ d) = - US d ∧ UR (oJ d) = - UR d ∧ UQ (oJ d) = - UQ d := by
  have h : d = 0 ∨ d = 1 ∨ d = 2 ∨ d = 3 ∨ d = 4 ∨ d = 5 := by omega
  rcases h with rfl | rfl | rfl | rfl | rfl | rfl <;> decide
theorem MJ {d : Int} (hd : d < 0 ∨ 6 ≤ d) : oJ d = -1 := by
  unfold oJ
  repeat rw [if_neg (by omega)]
theorem zN6 {d : Int} (hd : 0 ≤ d ∧ d < 6) : (US d).natAbs + (UR d).natAbs + (UQ d).natAbs = 1 := by
  have h : d = 0 ∨ d = 1 ∨ d = 2 ∨ d = 3 ∨ d = 4 ∨ d = 5 := by omega
  rcases h with rfl | rfl | rfl | rfl | rfl | rfl <;> decide
theorem yK (g : iL f) {c d : Int} (h : 0 ≤ dS f c d) : dS f (dS f c d) (oJ d) = c ∧ dS f c d ≠ c := by
  obtain ⟨h1,h2,h3,h4,h5,h6⟩ := C5 g h;obtain ⟨o1,_,_,o4,o5,o6⟩ := SN h2;refine ⟨IQ g ⟨h,h3⟩ o1 h1 (by omega) (by omega) (by omega),fun e => ?_⟩
  rw [e] at h4 h5 h6;have := zN6 h2;omega
theorem KW (g : iL f) {c d n : Int} (hd : 0 ≤ d ∧ d < 6) (hn : 0 ≤ n) (hc : 0 ≤ c) : dS f c d = n ↔ dS f n (oJ d) = c := by
  obtain ⟨o1,o2,_⟩ := SN hd;constructor
  · intro h;have := (yK g (c := c) (d := d) (by omega)).1
    rw [h] at this;exact this
  · intro h;have := (yK g (c := n) (d := oJ d) (by omega)).1
    rw [h,o2] at this;exact this
theorem lB (g : iL f) {c d n : Int} (h : kK f c d = some n) : (0 ≤ c ∧ c < f.size) ∧ (0 ≤ d ∧ d < 6) ∧ (0 ≤ n ∧ n < f.size) ∧ dS f c d = n ∧ CT f c n d := by
  unfold kK at h;split at h
  · rename_i h1;cases h;obtain ⟨a1,a2,a3,_⟩ := C5 g h1.1;exact ⟨a1,a2,⟨h1.1,a3⟩,rfl,h1.2⟩
  · cases h
theorem uH (g : iL f) {c d p : Int} : qQ f c d = some p ↔ kK f p d = some c := by
  constructor
  · intro h;unfold qQ at h;split at h
    · rename_i h1;cases h;obtain ⟨n,hn⟩ := Option.isSome_iff_exists.1 h1.2;obtain ⟨a1,a2,a3,a4,a5⟩ := lB g hn;have := (yK g h1.1).1;obtain ⟨o1,o2,_⟩ := SN a2;rw [o2,a4] at this;rw [hn,this]
    · cases h
  · intro h;obtain ⟨a1,a2,a3,a4,a5⟩ := lB g h;have hb : dS f c (oJ d) = p := (KW g a2 a3.1 a1.1).1 a4;unfold qQ;rw [hb,if_pos ⟨a1.1,by rw [h];rfl⟩]
end
end Go.Fl
namespace Go.Proofs.YtdmajnjoeidgeaaGreat
open Go Go.Ab Go.Fl
attribute [local irreducible] VC AW bR bQ
set_option maxHeartbeats 4000000
def BZ : List Int → Int → Int → Int
  | [],_,_ => -1
  | x :: r,v,k => if v = x then k else BZ r v (k + 1)
theorem HV : ∀ (l : List Int) (v k : Int), 0 ≤ k → (0 ≤ BZ l v k ↔ v ∈ l)
  | [],v,k,_ => by simp [BZ]
  | x :: r,v,k,hk => by
    simp only [BZ];split
    · rename_i e;subst e;simp [hk]
    · rename_i e;rw [HV r v (k + 1) (by omega)]
      simp [e]
theorem PT {l : List Int} {v : Int} {k : Nat} (h : k < l.length) : BZ (l.drop k) v k = if v = l[k] then (k : Int) else BZ (l.drop (k + 1)) v ((k + 1 : Nat) : Int) := by
  rw [bK h];simp [BZ]
theorem xF {a b : Bool} (h : a = b) : AV.b a = AV.b b := by rw [h]
theorem YO (l : List Int) (v : Int) (hl : l.length ≤ 9223372036854775807) : bQ Tryz.prog 106 [.rowE (aI l) 1,.i v] [] (.i (BZ l v 0)) [] := by
  have hlen : (aI l).length = l.length := by simp
  refine dD T Tryz.func106 rfl rfl rfl rfl ?_
  (repeat' (first|refine wS ?_|refine wB ?_|(refine rg 0 (aV ?_))|(refine rg 1 (mW rfl (qW T rfl (mV ?_))))|refine nZ ?_));refine bV (X := {k : Nat // k ≤ l.length ∧ BZ l v 0 = BZ (l.drop k) v k}) (fun k => [(0,.rowE (aI l) 1),(1,.i v),(7,.i (aI l).length),(8,.i k.1)]) (fun _ => []) (fun k => l.length - k.1) ⟨0,by simp,rfl⟩ (eI []) ?_
  rintro ⟨k,hk,hf⟩;dsimp only;by_cases hlt : k < l.length
  · have hd := PT (v := v) hlt
    repeat' (first|refine wS ?_|refine wB ?_|refine wK ?_|refine wR ?_|(refine wC rfl ?_ ?_<;>(intro hb;(try simp only [nm] at hb);try (exfalso;omega)))|(refine rg 2 (vV (bX rfl rfl) ?_))|(refine rg 3 (mW rfl (aV ?_)))|(refine rg 4 (eX rfl (mW rfl (vV (ix T rfl (by omega) (aE l) (iF (k := k) (by omega))) (lW T rfl (vV (gD rfl rfl) ?_))))))|(refine rg 5 (mW rfl (aV ?_)))|(refine rg 6 (vV (bP rfl rfl (by omega) (by omega)) (mV ?_)))|refine nZ ?_)
    · refine gV (.inl rfl) rfl ?_;rw [hf,hd,if_pos hb];rfl
    · refine ⟨⟨k + 1,by omega,?_⟩,by dsimp only;omega,eI []⟩
      rw [hf,hd,if_neg hb]
  · (repeat' (first|refine wS ?_|refine wR ?_|refine wE ?_|(refine wC rfl (fun hb => ?_) (fun hb => ?_) <;> (((try simp only [nm] at hb);try (exfalso;omega))))|(refine rg 2 (vV (bX rfl rfl) ?_))|(refine rg 7 (aV ?_))|(refine nZ ?_)));refine gV (.inl rfl) rfl ?_
    rw [hf,fK (by omega)];rfl
theorem F7 (l : List Int) (v : Int) (hl : l.length ≤ 9223372036854775807) : bQ Tryz.prog 68 [.rowE (aI l) 1,.i v] [] (.b (decide (v ∈ l))) [] := by
  refine dD T Tryz.func68 rfl rfl rfl rfl ?_
  (repeat' (first|refine wS ?_|refine wR ?_|(refine rg 0 (aV ?_))|(refine rg 1 (eX rfl (vV (kC (YO l v hl)) (vV (gS rfl rfl) (aV ?_)))))|refine nZ ?_));refine gV (.inl rfl) rfl (xF ?_)
  rw [EF];simp only [decide_eq_true_eq];exact HV l v 0 (by omega)
abbrev jM (f : jD) : List AV := [.i f.w,.i f.h,.i f.d,.rowE (aI f.k) 1,.rowE (aI f.o) 1]
def EU (f : jD) (c : Int) (ks : List Int) : Bool := decide (0 ≤ c ∧ c < f.k.length) && decide (f.k.getD c.toNat 0 ∈ ks)
theorem zF3 (f : jD) (c : Int) (ks : List Int) (hl : ks.length ≤ 1000) : bQ Tryz.prog 29 [.agg (jM f),.i c,.rowE (aI ks) 1] [] (.b (EU f c ks)) [] := by
  have hkl : (aI f.k).length = f.k.length := aR _;unfold EU;by_cases h0 : 0 ≤ c
  · by_cases h1 : c < f.k.length
    · rw [decide_eq_true (⟨h0,h1⟩ : 0 ≤ c ∧ c < (f.k.length : Int)),vE];have q1 := eY (l := f.k) (j := c) (i := c.toNat) 0 (by omega) (by omega)
      have hc := F7 ks (f.k.getD c.toNat 0) (by omega)
      generalize f.k.getD c.toNat 0 = x at *;obtain ⟨w,hh,d,k,o⟩ := f;dsimp only at *;refine dD T Tryz.func29 rfl rfl rfl rfl ?_
      (repeat' (first|refine wS ?_|refine wR ?_|(refine rg 0 (bH (bN rfl rfl) rfl (aV ?_)))|(refine rg 1 (mW rfl (vV (mO rfl rfl h0) (mW rfl (yN rfl (yP T rfl (yO T rfl (gT (qW T rfl (yV (bX rfl rfl) ?_)))))))));refine pW rfl (mV ?_);refine aO rfl rfl ?_ ?_<;>(intro hb;rw [hb];(try simp only [nm] at hb);try (exfalso;omega));(all_goals (refine yN rfl (yP T rfl (yO T rfl (yN rfl (yV (ix T rfl (by omega) (aE _) q1) (yO T rfl (yV (kC (hc)) (pW rfl (aV ?_)))))))))))|refine nZ ?_));all_goals first | (exfalso;omega) | exact rQ
    · rw [decide_eq_false (fun h : 0 ≤ c ∧ c < (f.k.length : Int) => h1 h.2),tB];obtain ⟨w,hh,d,k,o⟩ := f;dsimp only at *;refine dD T Tryz.func29 rfl rfl rfl rfl ?_
      (repeat' (first|refine wS ?_|refine wR ?_|(refine rg 0 (bH (bN rfl rfl) rfl (aV ?_)))|(refine rg 1 (mW rfl (vV (mO rfl rfl h0) (mW rfl (yN rfl (yP T rfl (yO T rfl (gT (qW T rfl (yV (bX rfl rfl) ?_)))))))));refine pW rfl (mV ?_);refine aO rfl rfl ?_ ?_<;>(intro hb;rw [hb];(try simp only [nm] at hb);try (exfalso;omega));(all_goals ((iterate 7 refine gF ?_);refine pW rfl (aV ?_))))|refine nZ ?_));all_goals first | (exfalso;omega) | exact rQ
  · rw [decide_eq_false (fun h : 0 ≤ c ∧ c < (f.k.length : Int) => h0 h.1),tB];refine dD T Tryz.func29 rfl rfl rfl rfl ?_
    (repeat' (first|refine wS ?_|refine wR ?_|(refine rg 0 (bH (bN rfl rfl) rfl (aV ?_)))|(refine rg 1 (mW rfl (vV (kG rfl rfl (by omega)) (mV ?_)));(iterate 5 refine gF ?_);refine pW rfl (mV ?_);(iterate 7 refine gF ?_);refine pW rfl (aV ?_))|refine nZ ?_));all_goals first | (exfalso;omega) | exact rQ
end Go.Proofs.YtdmajnjoeidgeaaGreat
