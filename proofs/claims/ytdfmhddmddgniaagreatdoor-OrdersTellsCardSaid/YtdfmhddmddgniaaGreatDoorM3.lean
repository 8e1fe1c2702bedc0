/-
  Texts of the logic and of the layer,in one module (part 3).
-/
import Derived.Test.YtdfmhddmddgniaaGreatDoorM2
import Derived.Sort.Grow
import Derived.Lib.SliceRun
import Derived.SizedLaws
import Derived.Maps.RangeRun
import Derived.Lib.AppendStr
import Derived.Laws.Concat
import Derived.Laws.Strings
import Derived.Laws.Strings2
import Derived.Laws.Strings3
import Derived.Lib.UnsafeStr
import Derived.RangeFuncGives
import Derived.Lib.SlKeysI
import Derived.Maps.Own
import Derived.Deep.Draws
import Derived.Lib.LaidTab
import Derived.Lib.ItoaNum
import Derived.Lib.Builder
import Derived.Laws.Pointers
import Derived.Maps.Views
import Derived.WideShapes
set_option linter.unusedVariables false
set_option linter.unusedSimpArgs false
set_option linter.unnecessarySimpa false

namespace Go.Ab
open Go
set_option maxHeartbeats 1000000
section
variable {cA : oU} {l : Nat} {rec0 : Loop} {E : dD} {HA : Nat → Hp} {GO : Nat → Nat × Bool} {J : JT} {A : Nat → Prop} {Q : Nat × Bool → Exit → dD → Hp → Prop}
theorem zG8.later {g : Nat × Bool} {c c' : oU} {ρ ρ' : Pl} {S S' W N N' : Nat → Prop} {h h' : Hp} {w w' : World} (hJ : VR J) (j : zG8 J A g c ρ S h w W N) (x : lM (fun b => ¬ N' b) w w') (hN : ∀ b, N b → N' b)
    (hl : ∀ (k : Nat) x p,h'[k]? = some x → x ≠ .gone → ρ' k = some p → ¬ N p.1) (hst : ∀ b,S' b → ¬ W b) (hc : ∀ b,S' b → c'.lo ≤ b → N b → K2 w b) (hwm : ∀ b,W b → c'.M b) (haS : ∀ b,S' b → A b) (haM : ∀ b,c'.M b → A b) (hnn : ∀ b,N b → c'.nb b ∨ c'.S0 b ∨ c'.M b) : zG8 J A g c' ρ' S' h' w' W N := by
  refine ⟨hJ.st j.j (x.mono fun b _ hb h => hb (hN b h)),hl,hst,fun b hb h1 h2 => ?_,hwm,haS,haM,hnn⟩
  obtain ⟨cc,e,h4⟩ := hc b hb h1 h2;exact ⟨cc,e,by rw [x.same b (hJ.lt j.j b h2) (fun h => h (hN b h2))];exact h4⟩
end
def G4 (l : List Oper) (pres : List (List Nat)) (k : Nat) : Bool :=
  sU l.toArray pres && Nat.ble k l.length && (List.range l.length).all fun i => match Nat.blt i k with
    | true => match l[i]? with
      | some o => match o.guard with
        | some (j,_) => Nat.blt j k
        | none => true
      | none => true
    | false => (List.range i).all fun j => (pres.getD i []).any (Nat.beq j)
section
variable {P : Program} {r : Option Nat} {Q Q1 : Exit → Act → World → Prop} {l : List Oper} {pres : List (List Nat)} {k : Nat}
theorem B5 (h : G4 l pres k = true) : sU l.toArray pres = true ∧ k ≤ l.length ∧ (∀ i,i < k → ∀ o j b,l[i]? = some o → o.guard = some (j,b) → j < k) ∧ ∀ i,k ≤ i → i < l.length → ∀ j,j < i → j ∈ pres.getD i [] := by
  unfold G4 at h;simp only [aN] at h;obtain ⟨⟨h1,h2⟩,h3⟩ := h;have h2 := bC h2;rw [bD] at h3;refine ⟨h1,h2,fun i hi o j b ho hg => ?_,fun i hi hl j hj => ?_⟩
  · have := h3 i (mO.2 (by omega))
    rw [show Nat.blt i k = true from Nat.ble_eq_true_of_le hi] at this
    simp only [ho,hg] at this;exact bC this
  · have := h3 i (mO.2 hl);have hb : Nat.blt i k = false := by
      rw [← eE];intro hb;have := bC hb;omega
    rw [hb] at this;simp only [bD] at this;have := this j (mO.2 hj);rw [jE] at this;obtain ⟨x,hx,hxe⟩ := this;rw [aM hxe];exact hx
theorem T4 (hok : sU l.toArray pres = true) {listed : Array Bool} (hcl : ∀ (i : Nat) o,l.toArray[i]? = some o → listed.getD i false = true → ∀ e,e ∈ o.after → Region.binds .any e = true → listed.getD e.on false = true) :
    ∀ (i : Nat) o,l.toArray[i]? = some o → (∀ e,e ∈ o.after → Region.binds .any e = true → listed.getD e.on false = true) → ∀ j,j ∈ pres.getD i [] → listed.getD j false = true := by
  intro i
  induction i using Nat.strongRecOn with
  | _ i ih =>
    intro o ho hall j hj;have hlt : i < l.toArray.size := (aR.1 ho).1;have h := bD.1 hok i (by simpa using hlt)
    rw [ho] at h;simp only [aN] at h;have h2 := h.2;cases hp : pres[i]? with
    | none => rw [aD,hp] at hj;simp at hj
    | some pre =>
      rw [aD,hp] at hj;rw [hp] at h2;simp only [bD,aN,decide_eq_true_eq] at h2;obtain ⟨h3,h4⟩ := h2 j hj;rw [jE] at h4;obtain ⟨e,he,h5⟩ := h4;rw [aN,qC] at h5;obtain ⟨hb,h6⟩ := h5;have he' : e ∈ o.after := by simpa using he
      have hel := hall e he' hb;rcases h6 with h6 | h6
      · rw [← aM h6];exact hel
      · rw [jE] at h6;obtain ⟨x,hx,hxe⟩ := h6;rw [aM hxe];have hei := lF hok ho e he' hb;exact ih e.on hei _ (cT (by omega)) (fun e2 he2 hb2 => hcl e.on _ (cT (by omega)) hel e2 he2 hb2) x hx
theorem WJ (hc : G4 l pres k = true) : ∀ (m k' fuel : Nat) (listed : Array Bool) (a : Act) (w : World),k' + m = l.length → k ≤ k' → m ≤ fuel → listed.size = l.length → (∀ j,j < l.length → listed.getD j false = decide (j < k')) →
    wpListIn (rd r) 0 P l.toArray Q (l.drop k') a w → wpAnyIn (rd r) 0 P .any l.toArray Q fuel listed a w := by
  obtain ⟨hok,hkl,_,hpre⟩ := B5 hc;intro m
  induction m with
  | zero =>
    intro k' fuel listed a w hk hkk hf hsz hl h;rw [dH (by omega)] at h
    have hre : Region.ready .any l.toArray listed = [] := by
      rw [xJ];intro i hi;obtain ⟨h1,o,ho,_⟩ := mem_ready.1 hi;have hil : i < l.length := by have := (aR.1 ho).1;simpa using this
      have e : listed.getD i true = listed.getD i false := by simp [Array.getD,hsz,hil]
      rw [e,hl i hil] at h1;have : ¬ i < k' := by simpa using h1
      omega
    cases fuel with
    | zero => exact ⟨hre,h⟩
    | succ f => exact ⟨fun _ => h,fun i hi => by rw [hre] at hi;cases hi⟩
  | succ m ih =>
    intro k' fuel listed a w hk hkk hf hsz hl h;obtain ⟨f,rfl⟩ : ∃ f,fuel = f + 1 := ⟨fuel - 1,by omega⟩
    have hlt : k' < l.length := by omega
    have ho : l.toArray[k']? = some l[k'] := by simp [aC hlt]
    have hin : k' ∈ Region.ready .any l.toArray listed := mem_ready.2 ⟨by
      have e : listed.getD k' true = listed.getD k' false := by simp [Array.getD,hsz,hlt]
      rw [e,hl k' hlt];simp,l[k'],ho,fun e he hb => by
      have := lF hok ho e he hb
      rw [hl e.on (by omega)];simpa using this⟩
    refine ⟨(fun hr => by rw [hr] at hin;cases hin),fun i hi => ?_⟩
    obtain ⟨h1,o,hoi,hall⟩ := mem_ready.1 hi;have hil : i < l.length := by have := (aR.1 hoi).1;simpa using this
    have hcl : ∀ (i : Nat) o,l.toArray[i]? = some o → listed.getD i false = true → ∀ e,e ∈ o.after → Region.binds .any e = true → listed.getD e.on false = true := fun i o ho hi e he hb => by
      have hil : i < l.length := by have := (aR.1 ho).1;simpa using this
      have := lF hok ho e he hb;rw [hl i hil] at hi;have : i < k' := by simpa using hi
      rw [hl e.on (by omega)];simp;omega
    have hik : i = k' := by
      have e : listed.getD i true = listed.getD i false := by simp [Array.getD,hsz,hil]
      rw [e,hl i hil] at h1;have h2 : ¬ i < k' := by simpa using h1
      rcases gP k' i with h3 | h3
      · have := T4 hok hcl i o hoi hall k' (hpre i (by omega) hil k' h3)
        rw [hl k' hlt] at this;simp at this
      · omega
    subst hik;rw [aO hlt] at h;unfold wpListIn at h;unfold wpOpIn;rw [ho];have nx : ∀ a w,wpListIn (rd r) 0 P l.toArray Q (l.drop (i + 1)) a w → wpAnyIn (rd r) 0 P .any l.toArray Q f (listed.setIfInBounds i true) a w := fun a w h' =>
      ih (i + 1) f _ a w (by omega) (by omega) (by omega) (by simpa using hsz) (fun j hj => by
        by_cases hij : i = j
        · subst hij;simp [Array.getD,hsz,hlt]
        · rw [getD_set_ne false hij,hl j hj]
          simp;omega) h'
    simp only;split at h
    · rename_i hw;rw [if_pos hw];exact Oper.wpIn_mono nx h
    · rename_i hw;rw [if_neg hw];exact ⟨h.1,nx _ _ h.2⟩
theorem EM (hc : G4 l pres k = true) (hnd : mZ (l.take k) = true) (hq1 : ∀ e a w,Q1 e a w → e = .normal) (hrest : ∀ a w,Q1 .normal a w → wpListIn (rd r) 0 P l.toArray Q (l.drop k) a w) :
    ∀ (fuel' fuel : Nat) (listed listedf : Array Bool) (U : List Nat) (a : Act) (w : World),listed.size = l.length → listedf.size = k → (∀ j,j < k → listed.getD j false = listedf.getD j false) → (∀ j,k ≤ j → listed.getD j false = false) →
      (∀ (i : Nat) o,l.toArray[i]? = some o → listed.getD i false = true → ∀ e,e ∈ o.after → Region.binds .any e = true → listed.getD e.on false = true) →
      (∀ j,j < k → listed.getD j false = false → j ∈ U) → U.length ≤ fuel' → fuel' + (l.length - k) ≤ fuel →
      wpAny P .any (l.take k).toArray Q1 fuel' listedf a w → wpAnyIn (rd r) 0 P .any l.toArray Q fuel listed a w := by
  obtain ⟨hok,hkl,hgd,hpre⟩ := B5 hc;have hlk : (l.take k).toArray.size = k := by simp;omega
  have done : ∀ (fuel : Nat) (listed : Array Bool) (a : Act) (w : World),listed.size = l.length → (∀ j,k ≤ j → listed.getD j false = false) → (∀ j,j < k → listed.getD j false = true) → l.length - k ≤ fuel → Q1 .normal a w → wpAnyIn (rd r) 0 P .any l.toArray Q fuel listed a w := fun fuel listed a w hsz ht hf hfu hq =>
    WJ hc (l.length - k) k fuel listed a w (by omega) (aU _) hfu hsz (fun j hj => by
      by_cases h : j < k
      · rw [hf j h];simp [h]
      · rw [ht j (by omega)];simp [h]) (hrest a w hq)
  intro fuel'
  induction fuel' with
  | zero =>
    intro fuel listed listedf U a w hsz hszf hlf ht hcl hU hUl hfu h;have hU0 : U = [] := cF (by omega)
    subst hU0
    exact done fuel listed a w hsz ht (fun j hj => by
      cases hb : listed.getD j false with
      | true => rfl
      | false => exact absurd (hU j hj hb) (by simp)) (by omega) h.2
  | succ fuel' ih =>
    intro fuel listed listedf U a w hsz hszf hlf ht hcl hU hUl hfu h;by_cases hfl : ∀ j,j < k → listed.getD j false = true
    · refine done fuel listed a w hsz ht hfl (by omega) (h.1 ?_)
      rw [xJ];intro i hi;obtain ⟨h1,o,ho,_⟩ := mem_ready.1 hi;have hil : i < k := by have := (aR.1 ho).1;omega
      have e : listedf.getD i true = listedf.getD i false := by simp [Array.getD,hszf,hil]
      rw [e,← hlf i hil,hfl i hil] at h1;cases h1
    · obtain ⟨j0,hj0,hjf⟩ : ∃ j,j < k ∧ listed.getD j false = false := by
        apply Classical.byContradiction;intro hn;apply hfl;intro j hj;cases hb : listed.getD j false with
        | true => rfl
        | false => exact absurd ⟨j,hj,hb⟩ hn
      obtain ⟨f,rfl⟩ : ∃ f,fuel = f + 1 := ⟨fuel - 1,by omega⟩
      have hex : Region.ready .any l.toArray listed ≠ [] := by
        have least : ∃ j,j < k ∧ listed.getD j false = false ∧ ∀ i,i < j → listed.getD i false = true := by
          have : ∀ b j,j ≤ b → j < k → listed.getD j false = false → ∃ j,j < k ∧ listed.getD j false = false ∧ ∀ i,i < j → listed.getD i false = true := by
            intro b
            induction b with
            | zero => exact fun j hj h5 h6 => ⟨j,h5,h6,fun k hk => by omega⟩
            | succ b ihb =>
              intro j hj h5 h6;by_cases hk : ∃ k,k < j ∧ listed.getD k false = false
              · obtain ⟨k,hk1,hk2⟩ := hk;exact ihb k (by omega) (by omega) hk2
              · refine ⟨j,h5,h6,fun k hk' => ?_⟩
                cases hb : listed.getD k false with
                | true => rfl
                | false => exact absurd ⟨k,hk',hb⟩ hk
          exact this j0 j0 (aU _) hj0 hjf
        obtain ⟨j,h5,h6,h7⟩ := least;intro he;have hlt : j < l.toArray.size := by simp;omega
        have : j ∈ Region.ready .any l.toArray listed := mem_ready.2 ⟨by
          have e : listed.getD j true = listed.getD j false := by simp only [Array.getD,hsz,show j < l.length by omega,dif_pos]
          rw [e,h6],_,cT hlt,fun e he hb => h7 _ (lF hok (cT hlt) e he hb)⟩
        rw [he] at this;cases this
      refine ⟨fun h5 => absurd h5 hex,fun i hi => ?_⟩
      obtain ⟨h1,o,hoi,hall⟩ := mem_ready.1 hi;have hil : i < l.length := by have := (aR.1 hoi).1;simpa using this
      have hik : i < k := by
        apply Classical.byContradiction;intro hge;have := T4 hok hcl i o hoi hall j0 (hpre i (by omega) hil j0 (by omega))
        rw [hjf] at this;cases this
      have ei : listed.getD i true = listed.getD i false := by simp [Array.getD,hsz,hil]
      have eif : listedf.getD i true = listedf.getD i false := by simp [Array.getD,hszf,hik]
      have hil0 : listed.getD i false = false := by rw [← ei];exact h1
      have hof : (l.take k).toArray[i]? = some o := by
        have : l[i]? = some o := by simpa using hoi
        simp [bS,hik,this]
      have hif : i ∈ Region.ready .any (l.take k).toArray listedf := mem_ready.2 ⟨by rw [eif,← hlf i hik];exact hil0,o,hof,fun e he hb => by
        have hlt := lF hok hoi e he hb
        rw [← hlf e.on (by omega)];exact hall e he hb⟩
      have hop := h.2 i hif;unfold wpOp at hop;unfold wpOpIn;rw [hof] at hop;rw [hoi];simp only at hop ⊢;have hoi' : l[i]? = some o := by simpa using hoi
      have hwant : Region.wanted o (yielded (l.take k).toArray a.tmps) = Region.wanted o (yielded l.toArray a.tmps) := by
        unfold Region.wanted;cases hg : o.guard with
        | none => rfl
        | some g =>
          obtain ⟨j,b⟩ := g;have hj := hgd i hik o j b hoi' hg;simp only;unfold yielded;have : (l.take k).toArray[j]? = l.toArray[j]? := by simp [bS,hj]
          rw [this]
      have nx : ∀ a w,wpAny P .any (l.take k).toArray Q1 fuel' (listedf.setIfInBounds i true) a w → wpAnyIn (rd r) 0 P .any l.toArray Q f (listed.setIfInBounds i true) a w := fun a' w' h' => by
        refine ih f _ _ (U.erase i) a' w' (by simpa using hsz) (by simpa using hszf) (fun j hj => ?_) (fun j hj => ?_) (fun i2 o2 ho2 hi2 e he hb => ?_) (fun j hj hjl => ?_) ?_ (by omega) h'
        · by_cases hij : i = j
          · subst hij;simp [Array.getD,hsz,hszf,hil,hik]
          · rw [getD_set_ne false hij,getD_set_ne false hij];exact hlf j hj
        · rw [getD_set_ne false (by omega)];exact ht j hj
        · by_cases hij : i = i2
          · subst hij;rw [hoi] at ho2;cases ho2;exact getD_set_true (hall e he hb)
          · rw [getD_set_ne false hij] at hi2;exact getD_set_true (hcl i2 o2 ho2 hi2 e he hb)
        · by_cases hij : i = j
          · subst hij;simp [Array.getD,hsz,hil] at hjl
          · rw [getD_set_ne false hij] at hjl;exact (yW (Ne.symm hij)).2 (hU j hj hjl)
        · have := tK (hU i hik hil0);have hpos : 0 < U.length := List.length_pos_of_mem (hU i hik hil0);omega
      have hnd1 : J7 o = true := J6 hnd (i := i) (by simp [bS,hik,hoi'])
      split at hop
      · rename_i hw;rw [if_pos (by rw [← hwant];exact hw)]
        rcases hop with hop | ⟨_,a',w',hop⟩
        · exact GP (Q := Q1) hq1 (Oper.wpIn_mono nx (SH hnd1 hop))
        · have := hq1 _ _ _ hop;cases this
      · rename_i hw;rw [if_neg (by rw [← hwant];exact hw)]
        exact ⟨fun _ _ => trivial,nx _ _ hop⟩
end
section
variable {P : Program} {env : dD} {h : Hp} {d : Option Nat} {ty : TypeId} {pos : String} {af : Array Edge} {g : Option (Nat × Bool)}
theorem HW (T : oA P) {t e len : Nat} {i : TI} {l : List (Nat × Operand)} {aZ : List (Nat × List AV)} {es : List (List AV)} (ht : T.elem t = some e) (he : T.ti e = some i) (hs : 0 < i.size) (hn : len * i.size ≤ 16777216) (hl : wN env l = some aZ) (hz : CO (List.replicate len (i.zero.map .v)) aZ = some es) (hes : es.length = len) :
    bJ P ⟨d,.buildSlice t len l.toArray,ty,pos,af,g⟩ env h 1 (fun p => .sl p 0 len i.size) (fun _ => [.lit es i.size]) := by
  obtain ⟨inf,z,a1,a2,a3,a4,a5,a6,a7⟩ := T.tiOk e i he;have hrep : ∀ e,e ∈ List.replicate len (i.zero.map AV.v) → e.length = i.size := fun e he => by rw [jP he];simp [a6]
  obtain ⟨f1,f2,f3⟩ := B4 hrep hz;refine DX fun ρ S a w p => ?_
  have hcells : RL S w (List.replicate len (i.zero.map AV.v)).flatten ρ (madeCells z.cells (len * i.size)).toList := by
    have h1 : (List.replicate len (i.zero.map AV.v)).flatten = ((List.replicate len i.zero).flatten).map AV.v := by
      rw [ZA,QD]
    have h2 : (madeCells z.cells (len * i.size)).toList = (List.replicate len i.zero).flatten := by
      apply dX;intro j;by_cases hj : j < len * i.size
      · have hlen : (List.replicate len i.zero).flatten.length = len * i.size := by
          rw [eB (sz := i.size) (fun e he => by rw [jP he];exact a6)];simp
        obtain ⟨y,hy⟩ : ∃ y,(List.replicate len i.zero).flatten[j]? = some y := ⟨_,aC (by rw [hlen];exact hj)⟩
        rw [hy];obtain ⟨_,c2⟩ := lB i.zero len j y hy
        have := uS (z := z.cells) (n := len * i.size) (j := j) (y := y) hj (by
          have hzs : z.cells.size = i.zero.length := by rw [← a5];simp
          rw [hzs,a5];exact c2)
        simpa using this
      · rw [bU (by simp [size_madeCells];omega),bU]
        rw [eB (sz := i.size) (fun e he => by rw [jP he];exact a6)]
        simp;omega
    rw [h1,h2];exact Y6 _
  obtain ⟨us,u1,u2⟩ := V6 (zC p hl) hcells f1;have ul := eV u2;have hus : us.size = es.length * i.size := by
    rw [eB f2] at ul;simpa using ul
  have hlm : len ≤ maxLen := by
    have : len * 1 ≤ len * i.size := Nat.mul_le_mul_left _ hs;have hm : (16777216 : Nat) ≤ maxLen := by decide
    omega
  refine ⟨us,e,.slice (some ⟨w.heap.size,0,none⟩) len len,false,?_,fun pos hpos w' hw' lt => ⟨?_,?_⟩⟩
  · have hn' : ¬ (len * i.size > 2 ^ 24) := by omega
    have hparts : (l.toArray.map fun (i,x) => (i,a.eval x)).toList = l.map fun (i,x) => (i,a.eval x) := by simp
    have hmade : ∀ zz : Array Value,(len * i.size = 0 ∨ zz = z.cells) → ((Array.range (len * i.size)).map fun x => zz[x % zz.size]!) = madeCells z.cells (len * i.size) := fun zz hzz => by
      rcases hzz with h0 | h0
      · simp [h0,madeCells]
      · rw [h0];rfl
    by_cases h0 : len * i.size = 0
    · have hm := hmade #[] (.inl h0);simp only [execOp,Instr.buildSlice,Sem.run_bind,run_underlying (T.elemOk _ _ ht),Result.andThen_ok,Go.sizeOf,typeInfo,run_program,a1,Sem.run_pure,a2,hn',if_false];rw [if_pos h0];simp only [Sem.run_bind,Sem.run_pure,Result.andThen_ok];rw [hm,hparts,u1];simp [newRow]
    · have hm := hmade z.cells (.inr rfl);simp only [execOp,Instr.buildSlice,Sem.run_bind,run_underlying (T.elemOk _ _ ht),Result.andThen_ok,Go.sizeOf,typeInfo,run_program,a1,Sem.run_pure,a2,hn',if_false];rw [if_neg h0];simp only [Sem.run_bind,zeroValue,typeInfo,run_program,a1,a4,Sem.run_pure,Result.andThen_ok];rw [hm,hparts,u1];simp [newRow]
  · simp only [R];refine ⟨_,len,rfl,hlm,.inr ⟨w.heap.size,0,by simp [Pl.with],by simp,aU _,us,e,_,hw',?_⟩⟩
    rw [hus,hes];simp
  · simp only [RB];exact ⟨f2,hs,_,us.toList,rfl,⟨us,e,hw',hus,fun j y hy => by rw [Nat.zero_add];simpa using hy⟩,u2.later lt⟩
end
end Go.Ab
namespace Go.Ab
open Go
def L7 (P : Program) (t : TypeId) (k : IntKind) : Prop := P.underlying t = some (.int k)
section
variable {P : Program} {env : dD} {h : Hp} {d : Option Nat} {ty : TypeId} {pos : String} {af : Array Edge} {g : Option (Nat × Bool)}
theorem V2 {s t : TypeId} {x : Operand} {ks k kk : IntKind} {n : Int} (hs : L7 P s ks) (ht : L7 P t k) (hx : evu env x = some (.v (.int kk n))) (hn : k.wrap n = n) :
    bJ P ⟨d,.convert s t x,ty,pos,af,g⟩ env h 0 (fun _ => .v (.int k n)) (fun _ => []) := PH hs ht hx hn
end
end Go.Ab
namespace Go.Ab
open Go Go.MapKept
section
variable {P : Program} {env : dD} {h : Hp} {d : Option Nat} {ty : TypeId} {pos : String} {af : Array Edge} {g : Option (Nat × Bool)}
variable {t kt et : TypeId} {good : Value → Prop} {x y : Operand} {k i : Nat} {kv : Value} {ks : List Value} {vs : List AV} {v : AV}
theorem LB (ht : P.underlying t = some (.map kt et)) (ko : rR P kt good) (hx : evu env x = some (.mp k)) {yv : AV} (hy : evu env y = some yv) (hyv : QF yv kv) (hk : h[k]? = some (.mapO ks vs)) (hkeys : ∀ q,q ∈ ks → good q) (hkey : good kv) (hnd : ks.Nodup) (hi : ks[i]? = some kv) (hv : vs[i]? = some v) :
    bJ P ⟨d,.lookup t x y false,ty,pos,af,g⟩ env h 0 (fun _ => v) (fun _ => []) := by
  refine fL fun ρ S a w p => ?_
  have h1 := p.evu hx;simp only [R] at h1;obtain ⟨b,o,h2,h3⟩ := h1;have h4 := hyv _ _ _ _ (p.evu hy);obtain ⟨b',o',l,ck,h5,h6,h7,h8⟩ := GU (p.blk k _ hk);rw [h2] at h5;cases h5;obtain ⟨e,h9,h10,_⟩ := sI ko w h7 hkeys hkey hnd hi;refine ⟨e.val,?_,?_⟩
  · simp [execOp,h3,h4,Instr.lookup,run_underlying ht,MapKept.run_getObj_map h6,ko.check w _ hkey,h9]
  · obtain ⟨u,h11,h12⟩ := mT h8 i v hv;rw [aS,h10] at h11;cases h11;exact h12
end
abbrev kI (n : Int) : Value := .int .i64 n
theorem GX (n : Int) : QF (.i n) (kI n) := QF.v _
theorem rR.int {P : Program} {kt : TypeId} (hd : P.underlying kt = some (.int .i64)) : rR P kt (IsKey (.int .i64)) := rR.plain hd
theorem K4 (n : Int) : IsKey (.int .i64) (kI n) := rfl
end Go.Ab
namespace Go.Ab
open Go
set_option maxHeartbeats 1000000
def zN1 (l : List Int) : List Int := l.mergeSort fun x y => decide (x ≤ y)
theorem sH {es : List (List AV)} {sz : Nat} (h : ∀ e,e ∈ es → e.length = sz) (m : Nat) : (es.take m).flatten = es.flatten.take (m * sz) := by
  induction es generalizing m with
  | nil => simp
  | cons a l ih =>
    have ha := h a aL;cases m with
    | zero => simp
    | succ m =>
      rw [sA,cH,cH,ih (fun e he => h e (aF _ he)),jX];rw [aQ (l := a) (by rw [ha,eL];omega),ha,eL,IV,QC]
theorem YZ {S : Nat → Prop} {w : World} {ρ : Pl} {p : Option (Nat × Nat)} {es : List (List AV)} {sz : Nat} (m : Nat) (h : RB S w ρ p (.arr es sz)) : RB S w ρ p (.arr (es.take m) sz) := by
  obtain ⟨h1,h2,h3⟩ := h;refine ⟨fun e he => h1 e (gB he),h2,?_⟩;rcases h3 with h3 | ⟨b,o,ys,h4,⟨c,e,h5,h6⟩,h7⟩
  · exact .inl ⟨by rw [h3.1];simp,h3.2⟩
  · refine .inr ⟨b,o,ys.take (m * sz),h4,⟨c,e,h5,fun j y hj => h6 j y ?_⟩,by rw [sH h1];exact wY h7 _⟩
    rw [bS] at hj;split at hj
    · exact hj
    · cases hj
section
variable {P : Program} {env : dD} {h : Hp} {n : Nat × Nat} {ops : Array Oper} {rest : List Oper} {K : dD → Hp → Prop} {ty : TypeId} {pos : String} {af : Array Edge}
end
end Go.Ab
namespace Go.Ab
open Go
section
variable {P : Program} {env : dD} {h : Hp} {n : Nat × Nat} {ops : Array Oper} {rest : List Oper} {K : dD → Hp → Prop} {ty : TypeId} {pos : String} {af : Array Edge}
theorem C4 {t t2 e len sz dd : Nat} {cs : List AV} {x y : Operand} (T : oA P) (hx : evu env x = some (.row cs len sz)) (hy : evu env y = some .nils) (ht : T.elem t = some e) (hd : J5 (some dd) n = true)
    (hk : ∀ b : Bool,(0 < len → b = false) → VC P n ops rest ((dd,.b b) :: env) h K) : VC P n ops (⟨some dd,.binOp .eql t x y t2,ty,pos,af,none⟩ :: rest) env h K := by
  intro c ρ S a w Q s hQ;refine wpList_plain rfl fun K' hK' => ?_
  have p := s.pre;have h3 := p.evu hx;simp only [R] at h3;obtain ⟨ad,cap,h4,hlc,hn,_⟩ := h3;have h5 := pZ (p.evu hy);have run : (execOp a.eval ⟨some dd,.binOp .eql t x y t2,ty,pos,af,none⟩).run P w = .ok (.value (.bool ad.isNone)) w := by
    have he := Lib.run_eql_slice_nil w t e ad len cap 0 0 (T.elemOk _ _ ht);have hg : (eqGuard .eql t x y (.slice ad len cap) (.slice none 0 0)).run P w = .ok () w := by cases ad <;> rfl
    simp [execOp,h4,h5,hg,he]
  have hv := hk ad.isNone (fun h0 => by
    cases ad with
    | none => have := hn rfl;omega
    | some _ => rfl)
  unfold Oper.wp;rw [run];have hs := s.post (d := some dd) (m := 0) (x := .b ad.isNone) (new := []) (y := .bool ad.isNone) hd ⟨lM.refl _ _,rfl,fun _ _ => rfl,fun _ h => h,fun _ h => .inl h,fun k p h1 h2 => by omega,fun k k' p p' h1 h2 => by omega,kY _,fun j b hb => by simp at hb⟩
  rw [List.append_nil] at hs;exact hK' _ _ (hv c ρ S _ w Q hs hQ)
end
theorem HS.freezeC {c : oU} {ρ : Pl} {S : Nat → Prop} {h : Hp} {w : World} {k : Nat} {x : AB} (s : HS c ρ S h w) (hk : h[k]? = some x) (hx : x ≠ .gone) : HS c ρ (fun b => S b ∨ ∃ o,ρ k = some (b,o)) (h.set k .gone) w := by
  have get : ∀ {j : Nat} {b : AB},(h.set k .gone)[j]? = some b → b ≠ .gone → j ≠ k ∧ h[j]? = some b := fun {j b} hj hg => by
    rw [cK] at hj;split at hj
    · split at hj
      · cases hj;exact absurd rfl hg
      · cases hj
    · rename_i e;exact ⟨fun e' => e e'.symm,hj⟩
  have l : hY ρ ρ S (fun b => S b ∨ ∃ o,ρ k = some (b,o)) w w := ⟨fun _ _ h => h,fun _ h => .inl h,fun _ _ => rfl,fun _ _ _ _ _ h => h⟩
  refine ⟨fun j hj => s.dom j (by simpa using hj),s.rng,fun j b hb => ?_,fun j b p hb hg hp => ?_,fun j j' b b' p p' hb hb' hg hg' hp hp' e => s.inj j j' b b' p p' (get hb hg).2 (get hb' hg').2 hg hg' hp hp' e,fun b hb => ?_,s.ext,fun b hb => .inl (s.st0 b hb),fun b hb => ?_,by simpa using s.mle,s.keep,s.glob.st (fun b hb => .inl hb)⟩
  · by_cases hg : b = .gone
    · subst hg;trivial
    · exact RB.later l (fun _ _ _ => rfl) (s.blk j b (get hb hg).2)
  · obtain ⟨h1,h2⟩ := s.live j b p (get hb hg).2 hg hp;refine ⟨h1,fun hs => ?_⟩
    rcases hs with hs | ⟨o,ho⟩
    · exact h2 hs
    · exact (get hb hg).1 (s.inj j k b _ p _ (get hb hg).2 hk hg hx hp ho rfl)
  · rcases hb with hb | ⟨o,ho⟩
    · exact s.stab b hb
    · exact s.rng k _ ho
  · rcases hb with hb | ⟨o,ho⟩
    · exact s.st1 b hb
    · exact .inr (s.live k _ _ hk hx ho).1
theorem HX {S : Nat → Prop} {w : World} {ρ : Pl} {k off : Nat} {cs : List AV} (hi : AV.idfL cs = true) (hb : RB S w ρ (ρ k) (.cells cs)) {y : Value} (hy : R S w (.ptr k off) ρ y) : R (fun c => S c ∨ ∃ o,ρ k = some (c,o)) w (.pr cs off) ρ y := by
  simp only [RB] at hb;obtain ⟨b,o,ys,h1,h2,h3⟩ := hb;simp only [R] at hy ⊢;obtain ⟨b',o',h4,rfl⟩ := hy;rw [h1] at h4;cases h4;exact ⟨b,o,ys,rfl,.inr ⟨o,h1⟩,h2.lies,VI (fun _ h => .inl h) (tJ ρ _ _ _ hi h3)⟩
theorem LO {P : Program} {f : FuncId} {args cs : List AV} {fn : Fn} (hi : AV.idfL cs = true) (h : bI P f args [] (.clo fn [] [.ptr 0 0]) [.cells cs]) : bI P f args [] (.clo fn [] [.pr cs 0]) [] := by
  refine ⟨h.1,fun ρ S w vs hs ha => (h.2 ρ S w vs hs ha).mono ?_⟩;rintro e w' ⟨y,ρ',S',rfl,h2,h3⟩;simp only [R,RL] at h3;obtain ⟨ys,zs,rfl,h4,y2,z2,e2,h5,e3⟩ := h3;refine ⟨_,_,_,rfl,(h2.freezeC (k := 0) rfl (by simp)).none rfl,?_⟩
  unfold R;refine ⟨ys,zs,rfl,?_,?_⟩
  · simp only [RL];exact h4
  · rw [e2,e3];simp only [RL];refine ⟨y2,[],rfl,H0 ρ' _ _ _ rfl (HX hi (h2.blk 0 _ rfl) ?_),rfl⟩;simp only [R];exact h5
theorem oO : ∀ i : Nat,i < 1 → ([0] : List Nat)[i]? = some i := by decide
end Go.Ab
namespace Go.Ab
open Go
set_option maxHeartbeats 1000000
end Go.Ab
namespace Go.Ab
open Go
end Go.Ab
namespace Go.Ab
open Go Go.MapKept
def eO (P : Program) (f : FuncId) (args : List AV) (hin : Hp) (Φ : AV → Hp → Prop) : Prop :=
  (∃ fn, P.funcs[f]? = some fn ∧ (fn.name == "runtime.NumGoroutine") = false ∧ fn.body.isNone = false) ∧
  ∀ ρ S w vs,HS (iY w ρ S hin) ρ S hin w → RL S w args ρ vs →
    Calls P f vs.toArray w fun e w' => ∃ res hout,Φ res hout ∧ ∃ y ρ' S',e = .returned y ∧ HS (iY w ρ S hin) ρ' S' hout w' ∧ R S' w' res ρ' y
theorem eO.mono {P : Program} {f : FuncId} {args : List AV} {hin : Hp} {Φ Ψ : AV → Hp → Prop} (h : eO P f args hin Φ) (hi : ∀ r o,Φ r o → Ψ r o) : eO P f args hin Ψ :=
  ⟨h.1,fun ρ S w vs hs ha => (h.2 ρ S w vs hs ha).mono fun _ _ ⟨r,o,h1,h2⟩ => ⟨r,o,hi r o h1,h2⟩⟩
section
variable {P : Program} {n : Nat × Nat} {ops : Array Oper} {rest : List Oper} {env : dD} {h : Hp} {K : dD → Hp → Prop}
variable {d : Option Nat} {ty : TypeId} {pos : String} {af : Array Edge}
theorem zH0 {x : Operand} {f : FuncId} {fs cs us xs : List AV} {args : List Operand} {ats : Array TypeId} {Ψ : AV → Prop} (hx : evu env x = some (.clo (.func f) fs cs)) (ha : EB env args = some us)
    (hc : eO P f xs [] (fun r o => o = [] ∧ Ψ r)) (hv : iH h (fs ++ us ++ cs) xs) (hrf : ∀ r,Ψ r → r.rf = true) (hd : J5 d n = true)
    (hk : ∀ r,Ψ r → VC P n ops rest (fR d r env) h K) : VC P n ops (⟨d,.call { callee := .value x,args := args.toArray,argTypes := ats },ty,pos,af,none⟩ :: rest) env h K := by
  intro c ρ S a w Q s hQ;refine wpList_plain rfl fun K' hK' => ?_
  have p := s.pre;have hxv := p.evu hx;simp only [R] at hxv;obtain ⟨ys,zs,e1,h1,h2⟩ := hxv;have hall : RL S w (fs ++ us ++ cs) ρ (ys.toList ++ args.map a.eval ++ zs.toList) := fC (fC h1 (nU p ha)) h2;obtain ⟨hf,hc⟩ := hc;have hS1w : ∀ b,(S b ∨ iN h ρ b) → b < w.heap.size := fun b hb => by
    rcases hb with hb | ⟨k,x,o,_,_,hb⟩
    · exact p.stab b hb
    · exact p.rng k _ hb
  have hargs : RL (fun b => S b ∨ iN h ρ b) w xs (fun _ => none) (ys.toList ++ args.map a.eval ++ zs.toList) := jY p.blk hv hall;have hs0 : HS (iY w (fun _ => none) (fun b => S b ∨ iN h ρ b) []) (fun _ => none) (fun b => S b ∨ iN h ρ b) [] w := ⟨fun _ _ => rfl,(fun _ _ h => by cases h),(fun k b hb => by simp at hb),(fun k b p hb => by simp at hb),(fun k _ b _ _ _ hb => by simp at hb),hS1w,lM.refl _ _,fun _ h => h,fun _ h => .inl h,aU _,(fun _ h => by simp [iY] at h),p.glob.st fun b hb => .inl hb⟩
  have hcall := hc (fun _ => none) _ w _ hs0 hargs;unfold Oper.wp;have hrun : (execOp a.eval ⟨d,.call { callee := .value x,args := args.toArray,argTypes := ats },ty,pos,af,none⟩).run P w = .ok (.enter f (ys.toList ++ args.map a.eval ++ zs.toList).toArray) w := by
    have e2 : (ys ++ (args.toArray.map a.eval) ++ zs) = (ys.toList ++ args.map a.eval ++ zs.toList).toArray := by
      apply Array.ext';simp
    simp only [execOp,resolve,e1,Deferred.ofValue,Sem.run_bind,Sem.run_pure,Result.andThen_ok,invoke];rw [e2];exact oL hf
  rw [hrun];simp only [Oper.upon];refine hcall.mono ?_;rintro e w' ⟨res,hout,⟨rfl,hΨ⟩,y,ρ',S',rfl,hs,hy⟩;simp only;have hM : ∀ b,(iY w (fun _ => none) (fun b => S b ∨ iN h ρ b) []).M b → w.heap.size ≤ b := fun b hb => by
    rcases hb with hb | ⟨k,x,o,hb,_⟩
    · exact hb
    · simp at hb
  have hext : lM (fun _ => False) w w' := hs.ext.mono fun b hb hm => by have := hM b hm;simp [iY] at hb;omega
  have hρ : ρ' = fun _ => none := funext fun k => hs.dom k (bG _);subst hρ;have hpost : L5 ρ ρ S S w w' h.length 0 res [] y := by
    refine ⟨hext,rfl,fun _ _ => rfl,fun _ hb => hb,fun _ hb => .inl hb,fun k p h1 h2 _ => by omega,fun k k' p p' h1 h2 _ _ _ => by omega,?_,fun j b hb => by simp at hb⟩
    exact lD (fun _ h => h) (fun _ _ => rfl) res (fun _ => none) ρ y (fun _ _ h => nomatch h) (fun _ _ _ _ h => nomatch h) (IQ _ _ _ (hrf _ hΨ) hy)
  have hsim := s.post (d := d) hd hpost;rw [List.append_nil] at hsim;exact hK' _ _ (hk _ hΨ c ρ S _ w' Q hsim hQ)
theorem pF (L : List Nat) {x : Operand} {f : FuncId} {fs cs us xs : List AV} {args : List Operand} {ats : Array TypeId} {Φ : AV → Hp → Prop} {hin : Hp} (hx : evu env x = some (.clo (.func f) fs cs)) (ha : EB env args = some us)
    (hc : eO P f xs hin Φ) (hxs : fs ++ us ++ cs = AV.mapL (th L h.length) xs) (hL : L.length = hin.length) (hnd : L.Nodup) (hh : tH (th L h.length) h 0 hin) (hng : ∀ b,b ∈ hin → b ≠ .gone) (hd : J5 d n = true)
    (hk : ∀ res hout,Φ res hout → VC P n ops rest (fR d (res.map (iG L h.length hin.length)) env) (wI h L ((hout.take hin.length).map (AB.map (iG L h.length hin.length))) ++ (hout.drop hin.length).map (AB.map (iG L h.length hin.length))) K) :
    VC P n ops (⟨d,.call { callee := .value x,args := args.toArray,argTypes := ats },ty,pos,af,none⟩ :: rest) env h K := by
  intro c ρ S a w Q s hQ;refine wpList_plain rfl fun K' hK' => ?_
  have p := s.pre;have hxv := p.evu hx;simp only [R] at hxv;obtain ⟨ys,zs,e1,h1,h2⟩ := hxv;have hall : RL S w (fs ++ us ++ cs) ρ (ys.toList ++ args.map a.eval ++ zs.toList) := fC (fC h1 (nU p ha)) h2;rw [hxs] at hall;have hargs := oJ (th L h.length) ρ _ _ hall;obtain ⟨hf,hc⟩ := hc;have hs0 := s.hs.hand hL hnd hh;have hcall := hc _ S w _ hs0 hargs;unfold Oper.wp;have hrun : (execOp a.eval ⟨d,.call { callee := .value x,args := args.toArray,argTypes := ats },ty,pos,af,none⟩).run P w = .ok (.enter f (ys.toList ++ args.map a.eval ++ zs.toList).toArray) w := by
    have e2 : (ys ++ (args.toArray.map a.eval) ++ zs) = (ys.toList ++ args.map a.eval ++ zs.toList).toArray := by
      apply Array.ext';simp
    simp only [execOp,resolve,e1,Deferred.ofValue,Sem.run_bind,Sem.run_pure,Result.andThen_ok,invoke];rw [e2];exact oL hf
  rw [hrun];simp only [Oper.upon];refine hcall.mono ?_;rintro e w' ⟨res,hout,hΦ,y,ρ',S',rfl,hs,hy⟩;simp only;refine hK' _ _ (hk res hout hΦ c (fun k => if k < h.length then ρ k else ρ' (hin.length + (k - h.length))) S' _ w' Q ?_ hQ)
  -- the objects handed over
  have hin_at : ∀ {i : Nat} {b : AB},hin[i]? = some b → ∃ j,L[i]? = some j ∧ j < h.length ∧ h[j]? = some (b.map (th L h.length)) ∧ b.map (th L h.length) ≠ .gone := fun {i b} hb => by
    have hne := hng b (aJ hb);have hlt : i < L.length := by rw [hL];exact (aA.1 hb).1
    have hj := aC hlt;have hth : th L h.length i = L[i] := by simp [th,hj]
    rcases hh.get i b hb with hg | hg
    · exact absurd hg hne
    · rw [Nat.zero_add,hth] at hg;exact ⟨L[i],hj,(aA.1 hg).1,hg,by cases b <;> simp [AB.map] at * ⟩
  have hmle := hs.mle;have hmle' : hin.length ≤ hout.length := hmle;have thL : ∀ {i j : Nat},L[i]? = some j → th L h.length i = j := fun hi => by simp [th,hi]
  have keep : ∀ {i j : Nat},i < hin.length → L[i]? = some j → ρ' i = ρ j := fun {i j} hi hj => by
    have := hs.keep i hi;simp only [iY] at this;rw [this,thL hj]
  -- where the callee may write
  have hM : ∀ b,(iY w (fun k => ρ (th L h.length k)) S hin).M b → w.heap.size ≤ b ∨ ∃ (i j : Nat) (o : Nat) (x : AB),hin[i]? = some x ∧ L[i]? = some j ∧ ρ j = some (b,o) := fun b hb => by
    rcases hb with hb | ⟨k,x,o,hb,_,hp⟩
    · exact .inl hb
    · obtain ⟨j,h3,_⟩ := hin_at hb;exact .inr ⟨k,j,o,x,hb,h3,by rw [← thL h3];exact hp⟩
  have hcM : ∀ b,(iY w (fun k => ρ (th L h.length k)) S hin).M b → c.M b := fun b hb => by
    rcases hM b hb with hb | ⟨i,j,o,x,h3,h4,h5⟩
    · exact c.new b (cQ s.hs.ext.size hb)
    · obtain ⟨j',h6,_,h7,h8⟩ := hin_at h3;rw [h4] at h6;cases h6;exact (s.hs.live j _ _ h7 h8 h5).1
  have hlow : ∀ b,b < w.heap.size → (iY w (fun k => ρ (th L h.length k)) S hin).M b → ∃ (i j : Nat) (o : Nat) (x : AB),hin[i]? = some x ∧ L[i]? = some j ∧ ρ j = some (b,o) := fun b hlt hb => by
    rcases hM b hb with hb | hb
    · omega
    · exact hb
  -- a live object that was not handed over: its block is left alone
  have other : ∀ {k : Nat} {b : AB} {q : Nat × Nat},h[k]? = some b → b ≠ .gone → k ∉ L → ρ k = some q → ¬ (iY w (fun k => ρ (th L h.length k)) S hin).M q.1 := fun {k b q} hb hg hkL hq hm => by
    obtain ⟨i,j,o,x,h3,h4,h5⟩ := hlow q.1 (s.hs.rng k q hq) hm;obtain ⟨j',h6,_,h7,h8⟩ := hin_at h3;rw [h4] at h6;cases h6;have := s.hs.inj k j _ _ q _ hb h7 hg h8 hq h5 rfl;subst this;exact hkL (aJ h4)
  have stM : ∀ b,S b → ¬ (iY w (fun k => ρ (th L h.length k)) S hin).M b := fun b hb hm => by
    obtain ⟨i,j,o,x,h3,h4,h5⟩ := hlow b (s.hs.stab b hb) hm;obtain ⟨j',h6,_,h7,h8⟩ := hin_at h3;rw [h4] at h6;cases h6;exact (s.hs.live j _ _ h7 h8 h5).2 hb
  have same : ∀ b,b < w.heap.size → ¬ (iY w (fun k => ρ (th L h.length k)) S hin).M b → w'.heap[b]? = w.heap[b]? := fun b hb hm => hs.ext.same b hb hm
  have l : hY ρ (fun k => if k < h.length then ρ k else ρ' (hin.length + (k - h.length))) S S' w w' := by
    refine ⟨fun k q hq => ?_,hs.st0,fun b hb => same b (s.hs.stab b hb) (stM b hb),fun _ _ _ _ _ hr => hs.ext.room hr⟩
    have hlt : k < h.length := by
      rcases gP k h.length with h3 | h3
      · exact h3
      · rw [s.hs.dom k h3] at hq;cases hq
    simp only [if_pos hlt];exact hq
  -- the callee's places,seen by the caller
  have pl : ∀ k q,ρ' k = some q → (fun k => if k < h.length then ρ k else ρ' (hin.length + (k - h.length))) (iG L h.length hin.length k) = some q := fun k q hq => by
    by_cases hk : k < hin.length
    · have hj := aC (l := L) (i := k) (by omega)
      have hb := aC hk;obtain ⟨j,h3,h4,_⟩ := hin_at hb;have hbk : iG L h.length hin.length k = j := by simp [iG,h3]
      rw [hbk];simp only [if_pos h4];rw [← keep hk h3];exact hq
    · have hbk : iG L h.length hin.length k = h.length + (k - hin.length) := by
        unfold iG;rw [bU (by omega)]
      rw [hbk];simp only;rw [if_neg (by omega),show hin.length + (h.length + (k - hin.length) - h.length) = k by omega]
      exact hq
  have shift : ∀ {x : AV} {y : Value},R S' w' x ρ' y → R S' w' (x.map (iG L h.length hin.length)) (fun k => if k < h.length then ρ k else ρ' (hin.length + (k - h.length))) y := fun {x y} hx => yK _ _ x y (lD (fun _ h => h) (fun _ _ => rfl) x ρ' _ y pl (fun _ _ _ _ _ h => h) hx)
  have shiftB : ∀ {b : AB} {pp},RB S' w' ρ' pp b → RB S' w' (fun k => if k < h.length then ρ k else ρ' (hin.length + (k - h.length))) pp (b.map (iG L h.length hin.length)) := fun {b pp} hb => H5 _ _ (RB.later (ρ := ρ') (S := S') ⟨pl,fun _ h => h,fun _ _ => rfl,fun _ _ _ _ _ h => h⟩ (fun _ _ _ => rfl) hb)
  -- what stands at a place iQ the call
  have get : ∀ {k : Nat} {b : AB},(wI h L ((hout.take hin.length).map (AB.map (iG L h.length hin.length))) ++ (hout.drop hin.length).map (AB.map (iG L h.length hin.length)))[k]? = some b →
      (k < h.length ∧ k ∉ L ∧ h[k]? = some b) ∨ (∃ (i : Nat) (b' : AB),hout[i]? = some b' ∧ b = b'.map (iG L h.length hin.length) ∧ iG L h.length hin.length i = k ∧ (if k < h.length then ρ k else ρ' (hin.length + (k - h.length))) = ρ' i ∧ ((i < hin.length ∧ L[i]? = some k) ∨ (hin.length ≤ i ∧ k = h.length + (i - hin.length)))) := fun {k b} hb => by
    by_cases hk : k < h.length
    · rw [aG (by rw [gM];exact hk)] at hb
      by_cases hkL : k ∈ L
      · obtain ⟨i,hi⟩ := cN.1 hkL;have hiL : i < hin.length := by rw [← hL];exact (aA.1 hi).1
        have hb' := aC (l := hout) (i := i) (by omega)
        rw [P5 (b := (hout[i]'(by omega)).map (iG L h.length hin.length)) hnd hi (by simp [hiL,hb']) hk] at hb
        simp only [Option.some.injEq] at hb;exact .inr ⟨i,_,hb',hb.symm,by simp [iG,hi],by rw [if_pos hk];exact (keep hiL hi).symm,.inl ⟨hiL,hi⟩⟩
      · rw [sS _ _ _ hkL] at hb;exact .inl ⟨hk,hkL,hb⟩
    · rw [aE (by rw [gM];omega),gM,aS,eR] at hb
      obtain ⟨b',h3,h4⟩ := bX.1 hb;refine .inr ⟨hin.length + (k - h.length),b',h3,h4.symm,?_,by rw [if_neg hk],.inr ⟨by omega,by omega⟩⟩
      unfold iG;rw [bU (by omega)]
      simp only;omega
  have mapg : ∀ {θ : Nat → Nat} {b : AB},b.map θ ≠ .gone → b ≠ .gone := fun hb e => hb (by rw [e];rfl)
  refine ⟨by rw [iS];exact s.size,by rw [fT];exact s.defers.later l,nA s.size hd (fun t u hu => (s.env t u hu).later l) (shift hy),?_,s.cm⟩
  refine ⟨fun k hk => ?_,fun k q hq => ?_,fun k b hb => ?_,fun k b q hb hg hq => ?_,fun k k' b b' q q' hb hb' hg hg' hq hq' e => ?_,hs.stab,s.hs.ext.trans hs.ext (fun b hb hlt => hcM b hb),fun b hb => hs.st0 b (s.hs.st0 b hb),fun b hb => ?_,?_,fun k hk => ?_,hs.glob⟩
  · simp only [aB,gM,bF,iM] at hk;rw [if_neg (by omega)]
    exact hs.dom _ (by omega)
  · split at hq
    · exact cC (s.hs.rng k q hq) hs.ext.size
    · exact hs.rng _ q hq
  · rcases get hb with ⟨h3,h4,h5⟩ | ⟨i,b',h3,rfl,h4,h5,h6⟩
    · simp only [if_pos h3];by_cases hg : b = .gone
      · subst hg;trivial
      · exact RB.later l (fun b1 o1 hp => same b1 (s.hs.rng k _ hp) (other h5 hg h4 hp)) (s.hs.blk k b h5)
    · rw [h5];exact shiftB (hs.blk i b' h3)
  · rcases get hb with ⟨h3,h4,h5⟩ | ⟨i,b',h3,rfl,h4,h5,h6⟩
    · simp only [if_pos h3] at hq;obtain ⟨h7,h8⟩ := s.hs.live k b q h5 hg hq;refine ⟨h7,fun hs' => ?_⟩
      rcases hs.st1 _ hs' with h9 | h9
      · exact h8 h9
      · exact other h5 hg h4 hq h9
    · rw [h5] at hq;obtain ⟨h7,h8⟩ := hs.live i b' q h3 (mapg hg) hq;exact ⟨hcM _ h7,h8⟩
  · rcases get hb with ⟨h3,h4,h5⟩ | ⟨i,b1,h3,rfl,h4,h5,h6⟩ <;> rcases get hb' with ⟨h3',h4',h5'⟩ | ⟨i',b1',h3',rfl,h4',h5',h6'⟩
    · simp only [if_pos h3] at hq;simp only [if_pos h3'] at hq';exact s.hs.inj k k' b b' q q' h5 h5' hg hg' hq hq' e
    · simp only [if_pos h3] at hq;rw [h5'] at hq';have hl := (hs.live i' b1' q' h3' (mapg hg') hq').1;rw [← e] at hl;exact absurd hl (other h5 hg h4 hq)
    · simp only [if_pos h3'] at hq';rw [h5] at hq;have hl := (hs.live i b1 q h3 (mapg hg) hq).1;rw [e] at hl;exact absurd hl (other h5' hg' h4' hq')
    · rw [h5] at hq;rw [h5'] at hq';have := hs.inj i i' b1 b1' q q' h3 h3' (mapg hg) (mapg hg') hq hq' e;subst this;rw [← h4,← h4']
  · rcases hs.st1 b hb with hb' | hb'
    · exact s.hs.st1 b hb'
    · exact .inr (hcM b hb')
  · simp only [aB,gM];exact cQ s.hs.mle (gA _ _)
  · have hlt := cC hk s.hs.mle;simp only [if_pos hlt];exact s.hs.keep k hk
end
theorem VX {P : Program} {o : Oper} {a : Act} {w : World} {K : Act → World → Prop} {Q1 Q : Exit → Act → World → Prop} (hq : ∀ e a w,Q1 e a w → e = .normal) (h : o.wp P a w K Q1) : o.wp P a w K Q := by
  unfold Oper.wp at *;generalize (execOp a.eval o).run P w = r at *;cases r with
  | ok n w' =>
    cases n with
    | enter f args =>
      simp only [Oper.upon] at *;refine h.mono fun e w'' => ?_
      cases e with
      | returned v => exact id
      | panicked c => exact fun hh => by have := hq _ _ _ hh;cases this
      | outgrown => exact fun ⟨_,_,hh⟩ => by have := hq _ _ _ hh;cases this
    | _ => first | exact h | exact h.elim
  | halt x w' => cases x <;> simp only [Oper.upon] at * <;> first | exact h | (have := hq _ _ _ h;cases this)
section
variable {P : Program} {n : Nat × Nat} {ops : Array Oper} {env : dD} {h : Hp} {K : dD → Hp → Prop} {listed : Array Bool} {r : Nat}
theorem UX (hr : Region.ready .any ops listed = []) (hk : K env h) : O2 P n ops listed r env h K :=
  fun _ _ _ _ _ _ s _ hQ => wpAny_done hr (hQ _ _ _ _ _ _ hk s) r
theorem UV {rd : List Nat} (hr : Region.ready .any ops listed = rd) (hne : rd ≠ []) (hk : ∀ i,i ∈ rd → ∃ o,ops[i]? = some o ∧ VC P n ops [o] env h (fun v h' => O2 P n ops (listed.setIfInBounds i true) r v h' K)) : O2 P n ops listed (r + 1) env h K := by
  intro c ρ S a w QQ s hq hQ;refine wpAny_all hr hne fun i hi => ?_
  obtain ⟨o,ho,hv⟩ := hk i hi;have h1 := hv c ρ S a w (fun e a' w' => e = .normal ∧ wpAny P .any ops QQ r (listed.setIfInBounds i true) a' w') s (fun env' h' ρ' S' a' w' hK hs => ⟨rfl,hK c ρ' S' a' w' QQ hs hq hQ⟩);unfold wpOp;rw [ho];unfold wpList at h1;dsimp only at h1 ⊢;split at h1
  · rename_i hw;rw [if_pos hw];rcases h1 with h1 | ⟨_,a',w',h1⟩
    · exact .inl (VX (fun e a w h => h.1) (Oper.wp_mono (fun a w h => h.2) h1))
    · exact nomatch h1.1
  · rename_i hw;rw [if_neg hw];exact h1.2
def wO : Nat → List Oper → List (Nat × List Nat)
  | _,[] => []
  | i,o :: l => (i,(o.after.toList.filter fun e => Region.binds .any e).map (·.on)) :: wO (i + 1) l
def ZI (b0 : List Bool) : List Nat → Bool
  | [] => true
  | d :: ds => match b0.getD d false with
    | true => ZI b0 ds
    | false => false
def KD (b0 : List Bool) : List (Nat × List Nat) → List Bool → List Nat
  | (i, d) :: ds, b :: bs => match b with
    | true => KD b0 ds bs
    | false => match ZI b0 d with
      | true => i :: KD b0 ds bs
      | false => KD b0 ds bs
  | _,_ => []
theorem MM (b0 : List Bool) : ∀ ds : List Nat, ZI b0 ds = ds.all fun d => b0.getD d false
  | [] => rfl
  | d :: ds => by
    unfold ZI;rw [P0,MM b0 ds];cases b0.getD d false <;> rfl
theorem RZ (b0 : List Bool) (i : Nat) (d : List Nat) (ds : List (Nat × List Nat)) (b : Bool) (bs : List Bool) : KD b0 ((i,d) :: ds) (b :: bs) = if b = true then KD b0 ds bs else if ZI b0 d = true then i :: KD b0 ds bs else KD b0 ds bs := by
  cases b <;> cases h : ZI b0 d <;> simp [KD,h]
theorem RY (l0 : List Oper) (b0 : List Bool) : ∀ (l : List Oper) (bs : List Bool) (i : Nat),l.length = bs.length → (∀ j,l[j]? = l0[i + j]?) → (∀ j,j < bs.length → bs[j]? = b0[i + j]?) →
    KD b0 (wO i l) bs = (List.range' i l.length).filter fun i => !b0.toArray.getD i true && ((l0.toArray[i]?).map (·.after.all fun e => !Region.binds .any e || b0.toArray.getD e.on false)).getD false
  | [],[],i,_,_,_ => rfl
  | o :: l,b :: bs,i,hl,h1,h2 => by
    have ih := RY l0 b0 l bs (i + 1) (by simpa using hl) (fun j => by rw [eG,vT 1 j];simpa using h1 (j + 1)) (fun j hj => by rw [eG,vT 1 j];simpa using h2 (j + 1) (by simpa using hj))
    have e1 : b0.toArray.getD i true = b := by
      have := h2 0 (by simp)
      simp only [dK,Nat.add_zero] at this;rw [cY,kZ,← this];rfl
    have e2 : ((l0.toArray[i]?).map (·.after.all fun e => !Region.binds .any e || b0.toArray.getD e.on false)).getD false = ZI b0 ((o.after.toList.filter fun e => Region.binds .any e).map (·.on)) := by
      have := h1 0;simp only [dK,Nat.add_zero] at this;rw [kZ,← this,MM,zR5];simp only [lP,rI];rw [← Array.all_toList]
      induction o.after.toList with
      | nil => rfl
      | cons e r ih =>
        rw [P0,jD,ih];cases Region.binds .any e
        · simp
        · simp [cY,aD]
    rw [List.length_cons,List.range'_succ,jD,e1,e2,← ih];generalize hok : ZI b0 ((o.after.toList.filter fun e => Region.binds .any e).map (·.on)) = q;have e3 := RZ b0 i ((o.after.toList.filter fun e => Region.binds .any e).map (·.on)) (wO (i + 1) l) b bs;rw [show wO i (o :: l) = (i,(o.after.toList.filter fun e => Region.binds .any e).map (·.on)) :: wO (i + 1) l from rfl,e3,hok]
    generalize KD b0 (wO (i + 1) l) bs = u;cases b <;> cases q <;> rfl
  | [],_ :: _,_,hl,_,_ => by simp at hl
  | _ :: _,[],_,hl,_,_ => by simp at hl
theorem BH {l : List Oper} {b : List Bool} (hl : l.length = b.length) : Region.ready .any l.toArray b.toArray = KD b (wO 0 l) b := by
  rw [RY l b l b 0 hl (fun j => by rw [Nat.zero_add]) (fun j _ => by rw [Nat.zero_add])]
  unfold Region.ready;rw [yU];rfl
def EW (P : Program) (n : Nat × Nat) (l : List Oper) (ds : List (Nat × List Nat)) (b : List Bool) (r : Nat) (env : dD) (h : Hp) (K : dD → Hp → Prop) : Prop := wO 0 l = ds → l.length = b.length → O2 P n l.toArray b.toArray r env h K
section
variable {l : List Oper} {ds : List (Nat × List Nat)} {b : List Bool}
theorem CS (hr : KD b ds b = []) (hk : K env h) : EW P n l ds b r env h K := fun hd hl => by
  subst hd;exact UX ((BH hl).trans hr) hk
theorem CR {rd : List Nat} (hr : KD b ds b = rd) (hne : rd ≠ []) (hk : ∀ i,i ∈ rd → ∃ o,l[i]? = some o ∧ VC P n l.toArray [o] env h (fun v h' => EW P n l ds (b.set i true) r v h' K)) : EW P n l ds b (r + 1) env h K := fun hd hl =>
  UV ((BH hl).trans (by rw [hd];exact hr)) hne fun i hi => by
    obtain ⟨o,ho,hv⟩ := hk i hi;refine ⟨o,by simpa using ho,hv.mono fun v g hg => ?_⟩
    have := hg hd (by rw [eC];exact hl)
    rwa [← List.setIfInBounds_toArray] at this
theorem VA {i : Nat} {o : Oper} (hr : KD b ds b = [i]) (ho : l[i]? = some o) (hk : VC P n l.toArray [o] env h (fun v h' => EW P n l ds (b.set i true) r v h' K)) : EW P n l ds b (r + 1) env h K :=
  CR hr (by simp) fun k hk2 => by simp only [aT,or_false,cG] at hk2;subst hk2;exact ⟨o,ho,hk⟩
theorem UZ {i j : Nat} {o o2 : Oper} (hr : KD b ds b = [i,j]) (ho : l[i]? = some o) (ho2 : l[j]? = some o2) (hk : VC P n l.toArray [o] env h (fun v h' => EW P n l ds (b.set i true) r v h' K)) (hk2 : VC P n l.toArray [o2] env h (fun v h' => EW P n l ds (b.set j true) r v h' K)) : EW P n l ds b (r + 1) env h K :=
  CR hr (by simp) fun k hm => by
    simp only [aT,cG,or_false] at hm;rcases hm with rfl | rfl
    · exact ⟨o,ho,hk⟩
    · exact ⟨o2,ho2,hk2⟩
theorem NM (ds : List (Nat × List Nat)) (hd : wO 0 l = ds) (b : List Bool) {listed : Array Bool} (hb : listed = b.toArray) (hl : l.length = b.length) (hk : EW P n l ds b r env h K) : O2 P n l.toArray listed r env h K := by
  subst hb;exact hk hd hl
end
theorem pP (T : oA P) {d : Option Nat} {ty : TypeId} {pos : String} {af : Array Edge} {g : Option (Nat × Bool)} {t f m : Nat} {x : Operand} {u z : AV} (hx : evu env x = some u) (hf : T.field t f = some m) (hz : u.plus m = some z) :
    NQ P ⟨d,.fieldAddr t x f,ty,pos,af,g⟩ env h z := by
  intro ρ S a w p;obtain ⟨b,o,h1,h2⟩ := vG (p.evu hx) hz;obtain ⟨fs,fd,inf,h3,h4,h5,h6,h7⟩ := T.fieldOk t f m hf;exact ⟨_,fun w' => by simp [execOp,h1,Instr.fieldAt,run_underlying h3,h4,Instr.sureAddr,fieldPlace,Go.sizeOf,typeInfo,h6,h7,Addr.add_lit,h5],h2⟩
end
theorem HS.view {c : oU} {ρ : Pl} {S : Nat → Prop} {h : Hp} {w : World} (s : HS c ρ S h w) (hm : c.m = 0) : HS c (fun _ => Option.none) (fun b => S b ∨ iN h ρ b) [] w := by
  refine ⟨fun _ _ => rfl,(fun _ _ h => nomatch h),(fun k b hb => by simp at hb),(fun k b p hb => by simp at hb),(fun k _ b _ _ _ hb => by simp at hb),fun b hb => ?_,s.ext,fun b hb => .inl (s.st0 b hb),fun b hb => ?_,by rw [hm];exact bG _,(fun k hk => by rw [hm] at hk;exact absurd hk (eM _)),s.glob.st fun b hb => .inl hb⟩
  · rcases hb with hb | ⟨k,x,o,_,_,hb⟩
    · exact s.stab b hb
    · exact s.rng k _ hb
  · rcases hb with hb | ⟨k,x,o,h1,h2,h3⟩
    · exact s.st1 b hb
    · exact .inr (s.live k x _ h1 h2 h3).1
section
variable {P : Program} {env : dD} {h : Hp}
variable {d : Option Nat} {ty : TypeId} {pos : String} {af : Array Edge} {g : Option (Nat × Bool)}
variable {t kt et : TypeId} {good : Value → Prop} {x y : Operand} {i : Nat} {kv : Value} {ks : List Value} {vs : List AV} {v : AV}
end
section
variable {P : Program} {env : dD} {h : Hp}
variable {d : Option Nat} {ty : TypeId} {pos : String} {af : Array Edge} {g : Option (Nat × Bool)}
variable {t kt et : TypeId} {good : Value → Prop} {x y : Operand} {k : Nat} {kv : Value} {ks : List Value} {vs : List AV}
theorem N6 (ht : P.underlying t = some (.map kt et)) (ko : rR P kt good) {z : Value} {zA : AV} (hz : ∀ w,(zeroValue et).run P w = .ok z w) (hzA : ∀ (S : Nat → Prop) (w : World) (ρ : Pl),R S w zA ρ z) (hx : evu env x = some (.mp k)) {yv : AV} (hy : evu env y = some yv) (hyv : QF yv kv) (hk : h[k]? = some (.mapO ks vs)) (hkeys : ∀ q,q ∈ ks → good q) (hkey : good kv) (hni : kv ∉ ks) :
    bJ P ⟨d,.lookup t x y false,ty,pos,af,g⟩ env h 0 (fun _ => zA) (fun _ => []) := by
  refine fL fun ρ S a w p => ?_
  have h1 := p.evu hx;simp only [R] at h1;obtain ⟨b,o,h2,h3⟩ := h1;have h4 := hyv _ _ _ _ (p.evu hy);obtain ⟨b',o',l,ck,h5,h6,h7,h8⟩ := GU (p.blk k _ hk);rw [h2] at h5;cases h5;have h9 := sJ ko w h7 hkeys hkey hni;refine ⟨z,?_,hzA S w ρ⟩;simp [execOp,h3,h4,Instr.lookup,run_underlying ht,MapKept.run_getObj_map h6,ko.check w _ hkey,h9,hz]
end
section
variable {P : Program} {env : dD} {h : Hp}
theorem G5 {n : Nat × Nat} {Q : Exit → dD → Hp → Prop} {id : Nat} {l : List Oper} (k nt : Nat) (presl pres : List (List Nat)) (ds : List Nat) (bads : List (List Nat)) (hm : P.follows .mixedOrders = true) (hn : n.1 = nt) (hc : G4 l presl k = true) (hok : lC (l.take k) pres ds bads nt = true)
    (hv : DW P n (l.take k) pres ds bads (eF ds env) h 0 (eF ds env) [] (fun v h => VC P n l.toArray (l.drop k) v h (fun v h => Q .normal v h))) (hnd : mZ (l.take k) = true := by rfl) (hnd2 : mZ (l.drop k) = true := by rfl) : AW P n (.region id l.toArray true) env h Q := by
  intro c ρ S a w QQ s hQ;have hkl := (B5 hc).2.1;have hany := CQ pres ds bads (by rw [hn];exact hok) hv c ρ S a w (fun e a w => e = .normal ∧ wpListIn (rd c.r) 0 P l.toArray (fun e a w => e = .normal ∧ QQ .normal a w) (l.drop k) a w) s fun env' h' ρ' S' a' w' kv s' =>
    ⟨rfl,uX (fun e a w h => h.1) hnd2 (kv c ρ' S' a' w' _ s' fun env2 h2 ρ2 S2 a2 w2 k2 s2 => ⟨rfl,hQ .normal env2 h2 ρ2 S2 a2 w2 k2 s2⟩)⟩
  have hrep : ∀ m j,(Array.replicate m false).getD j false = false := fun m j => by
    simp only [Array.getD];split <;> simp
  refine wpIn_mono (wpIn_region_any (Q := fun e a w => e = .normal ∧ QQ .normal a w) hm (EM hc hnd (fun e a w h => h.1) (fun a w h => h.2) (l.take k).toArray.size l.toArray.size _ (Array.replicate (l.take k).toArray.size false) (List.range k) a _ (by simp) (by simp;omega) (fun j hj => by rw [hrep,hrep]) (fun j hj => hrep _ _) (fun i o ho hi => by rw [hrep] at hi;cases hi) (fun j hj _ => mO.2 hj) (by simp;omega) (by simp;omega) hany)) fun e a w he => by obtain ⟨rfl,h3⟩ := he;exact h3
end
section
variable {P : Program} {env : dD} {h : Hp}
variable {d : Option Nat} {ty : TypeId} {pos : String} {af : Array Edge} {g : Option (Nat × Bool)}
variable {n : Nat × Nat} {ops : Array Oper} {rest : List Oper} {K : dD → Hp → Prop}
variable {t kt et : TypeId} {good : Value → Prop} {x y z : Operand} {k i : Nat} {kv : Value} {ks : List Value} {vs : List AV} {v : AV}
theorem oD.mapOpen {c : oU} {ρ : Pl} {S : Nat → Prop} {a : Act} {w : World} (k : Nat) (hk : h[k]? = some (.mapO ks vs)) (s : oD n c ρ S env h a w) : ∃ bs ck,bs.length = ks.length ∧ vs.length = ks.length ∧ bs.Nodup ∧ (∀ b,b ∈ bs → b < ck) ∧ oD n c ρ S env (h.set k (.mapB ks vs bs ck)) a w := by
  obtain ⟨b,o,l,ck,h1,h2,⟨h3,h4,h5⟩,h6⟩ := s.hs.blk k _ hk;have e6 := eV h6;refine ⟨l.toList.map (·.born),ck,by rw [← h3];simp,by rw [← e6,← h3];simp,h4,fun b hb => ?_,s.size,s.defers,s.env,s.hs.alter hk (fun _ => ⟨b,o,l,h1,h2,⟨h3,⟨h4,h5⟩,rfl⟩,h6⟩) (by simp),s.cm⟩
  obtain ⟨e,he,rfl⟩ := aK.1 hb;exact h5 e he
theorem JH (k : Nat) (hk : h[k]? = some (.mapO ks vs)) (hv : ∀ bs ck,bs.length = ks.length → vs.length = ks.length → bs.Nodup → (∀ b,b ∈ bs → b < ck) → VC P n ops rest env (h.set k (.mapB ks vs bs ck)) K) : VC P n ops rest env h K := by
  intro c ρ S a w Q s hQ;obtain ⟨bs,ck,h1,h1',h2,h3,s'⟩ := s.mapOpen k hk;exact hv bs ck h1 h1' h2 h3 c ρ S a w Q s' hQ
theorem oD.mapShut {c : oU} {ρ : Pl} {S : Nat → Prop} {a : Act} {w : World} {bs : List Nat} {ck : Nat} (k : Nat) (hk : h[k]? = some (.mapB ks vs bs ck)) (s : oD n c ρ S env h a w) : oD n c ρ S env (h.set k (.mapO ks vs)) a w :=
  ⟨s.size,s.defers,s.env,s.hs.alter hk (fun ⟨b,o,l,h1,h2,⟨h3,h4,_⟩,h5⟩ => ⟨b,o,l,ck,h1,h2,⟨h3,h4⟩,h5⟩) (by simp),s.cm⟩
theorem JG {bs : List Nat} {ck : Nat} (k : Nat) (hk : h[k]? = some (.mapB ks vs bs ck)) (hv : VC P n ops rest env (h.set k (.mapO ks vs)) K) : VC P n ops rest env h K :=
  fun c ρ S a w Q s hQ => hv c ρ S a w Q (s.mapShut k hk) hQ
theorem TP {bs : List Nat} {ck : Nat} (ht : P.underlying t = some (.map kt et)) (hx : evu env x = some (.mp k)) (hk : h[k]? = some (.mapB ks vs bs ck)) :
    bJ P ⟨d,.range t x,ty,pos,af,g⟩ env h 1 (fun p => .ptr p 0) (fun _ => [.iter k ck [] ck]) := by
  refine DU fun ρ S a w p => ?_
  have h1 := p.evu hx;simp only [R] at h1;obtain ⟨b,o,h2,h3⟩ := h1;obtain ⟨b',o',l,h5,h6,h7,h8⟩ := p.blk k _ hk;rw [h2] at h5;cases h5;refine ⟨.mapIter (some b) ck #[] ck,.pointer (some ⟨w.heap.size,0,none⟩),?_,fun pos hpos w' hw' => ⟨?_,?_⟩⟩
  · simp [execOp,h3,Instr.range,run_underlying ht,MapKept.run_getObj_map h6]
  · simp [R,Pl.with]
  · have hne : k ≠ pos := fun e => by rw [e,hpos] at h2;cases h2
    exact ⟨w.heap.size,rfl,(b,o),by simp [Pl.with,hne,h2],hw'⟩
theorem VZ {km since c0 ck : Nat} {seen bs : List Nat} (hx : evu env x = some (.ptr k 0)) (hk : h[k]? = some (.iter km since seen c0)) (hm : h[km]? = some (.mapB ks vs bs ck)) (hs : ∀ b, b ∈ bs → b < since) (hc : since ≤ c0) (hd : J5 d n = true)
    (hend : (∀ b,b ∈ bs → b ∈ seen) → VC P n ops rest (fR d (.tup [.b false]) env) h K)
    (hstep : ∀ (i : Nat) kv v b,ks[i]? = some kv → vs[i]? = some v → bs[i]? = some b → b ∉ seen → VC P n ops rest (fR d (.tup [.b true,.v kv,v]) env) (h.set k (.iter km since (seen ++ [b]) ck)) K) :
    VC P n ops (⟨d,.next x false,ty,pos,af,none⟩ :: rest) env h K := by
  intro c ρ S a w Q s hQ;refine wpList_plain rfl fun K' hK' => ?_
  have p := s.pre;have h1 := p.evu hx;simp only [R] at h1;obtain ⟨b,o,h2,h3⟩ := h1;obtain ⟨b1,h4,m,h5,h6⟩ := p.blk k _ hk;rw [h2] at h4;cases h4;obtain ⟨b2,o2,l,h7,h8,⟨h9,h10,h11⟩,h12⟩ := p.blk km _ hm;rw [h5] at h7;cases h7;have hold : ∀ e,e ∈ l.toList → e.born < since := fun e he => hs _ (by rw [← h11];exact aK.2 ⟨e,he,rfl⟩)
  rcases run_next_at (P := P) w ty b b2 since c0 seen.toArray l ck h6 h8 hold hc with ⟨h13,h14⟩ | ⟨e,he,w1,hw1,h14⟩
  · unfold Oper.wp;have : (execOp a.eval ⟨d,.next x false,ty,pos,af,none⟩).run P w = .ok (.value (.tuple #[.bool false])) w := by
      simp only [execOp,h3,Nat.zero_add];simp [h14]
    rw [this];refine hK' _ _ (hend (fun q hq => ?_) c ρ S _ _ Q ⟨by rw [iS];exact s.size,by rw [fT];exact s.defers,nA s.size hd s.env (by simp only [R,RL];exact ⟨_,rfl,_,_,rfl,rfl,rfl⟩),s.hs,s.cm⟩ hQ)
    rw [← h11] at hq;obtain ⟨e,he,rfl⟩ := aK.1 hq;refine Classical.byContradiction fun hn => ?_
    have : e ∈ leftOf l seen.toArray := by
      unfold leftOf;simp only [Array.mem_filter];exact ⟨by simpa using he,by simpa using hn⟩
    have := Array.size_pos_of_mem this;omega
  · have he1 : e ∈ l.toList ∧ e.born ∉ seen := by
      unfold leftOf at he;simp at he;exact ⟨by simpa using he.1,he.2⟩
    obtain ⟨i,hi⟩ := cN.1 he1.1;have hki : ks[i]? = some e.key := by rw [← h9,aS,hi];rfl
    have hbi : bs[i]? = some e.born := by rw [← h11,aS,hi];rfl
    obtain ⟨v,hvi⟩ : ∃ v,vs[i]? = some v := by
      have e6 := eV h12;have := (aA.1 hi).1;rw [bF] at e6;exact ⟨vs[i]'(by omega),aC _⟩
    have hv : R S w v ρ e.val := by
      obtain ⟨u,u1,u2⟩ := mT h12 i v hvi;rw [aS,hi] at u1;cases u1;exact u2
    unfold Oper.wp;have : (execOp a.eval ⟨d,.next x false,ty,pos,af,none⟩).run P w = .ok (.value (.tuple #[.bool true,e.key,e.val])) (ChangeMaps.setBlock w1 b (.mapIter (some b2) since (seen.toArray.push e.born) ck)) := by
      simp only [execOp,h3,Nat.zero_add];simp [h14]
    rw [this];have hlt : b < w.heap.size := (aR.1 h6).1;have hw1h : w1.heap = w.heap := by rcases hw1 with rfl | rfl <;> rfl
    have hext : lM (fun q => q = b) w (ChangeMaps.setBlock w1 b (.mapIter (some b2) since (seen.toArray.push e.born) ck)) := by
      refine ⟨?_,?_,?_,?_,fun q hq hne => ?_,fun q cs ee fz hq => ⟨cs,fz,?_,rfl⟩⟩
      · rcases hw1 with rfl | rfl <;> rfl
      · rcases hw1 with rfl | rfl <;> rfl
      · rcases hw1 with rfl | rfl <;> rfl
      · simp [ChangeMaps.setBlock,hw1h]
      · simp only [ChangeMaps.setBlock,hw1h];rw [oE (Ne.symm hne)]
      · have hne : q ≠ b := fun e' => by rw [e',h6] at hq;cases hq
        simp only [ChangeMaps.setBlock,hw1h];rw [oE (Ne.symm hne)];exact hq
    obtain ⟨g1,g2⟩ := s.hs.upd (nb := .iter km since (seen ++ [e.born]) ck) hk (by simp) h2 hext (fun l' => by
      refine ⟨b,rfl,(b2,o2),h5,?_⟩;simp only [ChangeMaps.setBlock,hw1h];rw [Array.getElem?_setIfInBounds_self_of_lt hlt]
      simp)
    refine hK' _ _ (hstep i e.key v e.born hki hvi hbi he1.2 c ρ S _ _ Q ⟨by rw [iS];exact s.size,by rw [fT];exact s.defers.later g2,nA s.size hd (fun tt uu huu => (s.env tt uu huu).later g2) ?_,g1,s.cm⟩ hQ)
    simp only [R,RL];exact ⟨_,rfl,_,_,rfl,rfl,_,_,rfl,rfl,_,_,rfl,hv.later g2,rfl⟩
theorem HT {km since c0 ck b i : Nat} {seen bs : List Nat} (hx : evu env x = some (.ptr k 0)) (hk : h[k]? = some (.iter km since (seen ++ [b]) c0)) (hm : h[km]? = some (.mapB ks vs bs ck)) (hc : c0 = ck) (hb : bs[i]? = some b) (hki : ks[i]? = some kv) (hvi : vs[i]? = some v) :
    bJ P ⟨d,.entry x,ty,pos,af,g⟩ env h 0 (fun _ => .tup [.v kv,v]) (fun _ => []) := by
  refine fL fun ρ S a w p => ?_
  have h1 := p.evu hx;simp only [R] at h1;obtain ⟨b0,o,h2,h3⟩ := h1;obtain ⟨b1,h4,m,h5,h6⟩ := p.blk k _ hk;rw [h2] at h4;cases h4;obtain ⟨b2,o2,l,h7,h8,⟨h9,h10,h11⟩,h12⟩ := p.blk km _ hm;rw [h5] at h7;cases h7;rw [← h11,aS] at hb;obtain ⟨e,he,rfl⟩ := bX.1 hb;have hk2 : e.key = kv := by rw [← h9,aS,he] at hki;simpa using hki
  obtain ⟨u,u1,u2⟩ := mT h12 i v hvi;rw [aS,he] at u1;cases u1;subst hc;have h13 : w.heap[b0]? = some (.mapIter (some b2) since (seen.toArray.push e.born) c0) := by rw [h6];simp
  have := run_entry_at (P := P) w b0 b2 since seen.toArray l c0 e h13 h8 (aJ he) h10.1;refine ⟨.tuple #[e.key,e.val],?_,?_⟩
  · simp only [execOp,h3,Nat.zero_add];simp [this]
  · simp only [R,RL];exact ⟨_,rfl,_,_,rfl,hk2,_,_,rfl,u2,rfl⟩
end
end Go.Ab
namespace Go.Ab
open Go
abbrev AV.s (l : List UInt8) : AV := .v (.string ⟨l.toArray⟩)
def W3 (l : List UInt8) : List (List AV) := l.map fun b => [.v (.int .u8 b.toNat)]
@[simp] theorem bytesA_length (l : List UInt8) : (W3 l).length = l.length := by simp [W3]
def Y5 (P : Program) (t : TypeId) : Prop := P.underlying t = some .string
section
variable {P : Program} {env : dD} {h : Hp}
variable {d : Option Nat} {ty : TypeId} {pos : String} {af : Array Edge} {g : Option (Nat × Bool)}
variable {t t2 : TypeId} {x y : Operand} {a b : List UInt8}
theorem zO0 (op : BinOp) (t : TypeId) (x y : Operand) (s : ByteArray) (v : Value) : eqGuard op t x y (.string s) v = pure () := by cases op <;> rfl
theorem jL (hx : evu env x = some (.s a)) (hy : evu env y = some (.s b)) (hl : a.length + b.length ≤ 9223372036854775807) : bJ P ⟨d,.binOp .add t x y t2,ty,pos,af,g⟩ env h 0 (fun _ => .s (a ++ b)) (fun _ => []) := by
  refine fL fun ρ S ac w p => ⟨.string ⟨(a ++ b).toArray⟩,?_,by simp [R]⟩
  have h1 := pZ (p.evu hx);have h2 := pZ (p.evu hy);have e : (⟨a.toArray⟩ : ByteArray) ++ ⟨b.toArray⟩ = ⟨(a ++ b).toArray⟩ := by apply ByteArray.ext;simp
  have := Go.run_string_add_sum (P := P) w ⟨a.toArray⟩ ⟨b.toArray⟩ (by show a.toArray.size + b.toArray.size ≤ _;simpa using hl)
  simp [execOp,h1,h2,zO0,binOp_string_add,this,e]
theorem F7 (hx : evu env x = some (.s a)) (hy : evu env y = some (.s b)) : bJ P ⟨d,.binOp .eql t x y t2,ty,pos,af,g⟩ env h 0 (fun _ => .b (decide (a = b))) (fun _ => []) := by
  refine fL fun ρ S ac w p => ⟨.bool (decide (a = b)),?_,by simp [R]⟩
  have h1 := pZ (p.evu hx);have h2 := pZ (p.evu hy);simp [execOp,h1,h2,zO0,binOp_string_eql,binOp_string_neq];by_cases hab : a = b <;> simp [hab]
theorem MY (hx : evu env x = some (.s a)) (hy : evu env y = some (.s b)) : bJ P ⟨d,.binOp .neq t x y t2,ty,pos,af,g⟩ env h 0 (fun _ => .b (!decide (a = b))) (fun _ => []) := by
  refine fL fun ρ S ac w p => ⟨.bool (!decide (a = b)),?_,by simp [R]⟩
  have h1 := pZ (p.evu hx);have h2 := pZ (p.evu hy);simp [execOp,h1,h2,zO0,binOp_string_eql,binOp_string_neq];by_cases hab : a = b <;> simp [hab]
theorem fF (ht : Y5 P t) (hx : evu env x = some (.s a)) : bJ P ⟨d,.call { callee := .builtin .len,args := #[x],argTypes := #[t] },ty,pos,af,g⟩ env h 0 (fun _ => .i a.length) (fun _ => []) := by
  refine fL fun ρ S ac w p => ⟨.int .i64 a.length,?_,by simp [R]⟩
  have h1 := pZ (p.evu hx);have ht' : P.underlying t = some .string := ht;have e : (⟨a.toArray⟩ : ByteArray).size = a.length := by show a.toArray.size = _;simp
  rw [← e];simp [execOp,resolve,invoke,builtin,h1,Builtin.len_,run_underlying ht',goInt]
theorem iD (ht : Y5 P t) {k : IntKind} {j : Int} (hx : evu env x = some (.s a)) (hy : evu env y = some (.v (.int k j))) (h0 : 0 ≤ j) {c : UInt8} (hc : a[j.toNat]? = some c) : bJ P ⟨d,.index t x y,ty,pos,af,g⟩ env h 0 (fun _ => .v (.int .u8 c.toNat)) (fun _ => []) := by
  refine fL fun ρ S ac w p => ⟨.int .u8 c.toNat,?_,by simp [R]⟩
  have h1 := pZ (p.evu hx);have h2 := pZ (p.evu hy);have ht' : P.underlying t = some .string := ht;have hlt : j.toNat < a.length := (aA.1 hc).1;have hs : j.toNat < (⟨a.toArray⟩ : ByteArray).size := by show _ < a.toArray.size;simpa using hlt
  have e : (⟨a.toArray⟩ : ByteArray)[j.toNat]'hs = c := by
    have := (aA.1 hc).2;rw [← this];rfl
  have hr : (Instr.index t (.string ⟨a.toArray⟩) (.int k j)).run P w = .ok (.int .u8 c.toNat) w := by
    rw [run_index_string (P := P) w t ⟨a.toArray⟩ k j ht',dif_pos ⟨h0,by omega⟩,e]
  simp [execOp,h1,h2,hr]
theorem FZ {ρ : Pl} {S : Nat → Prop} {a : Act} {w : World} (p : Y9 ρ S env h a w) {lo hi : Option Operand} {l r : Int} {len : Nat} (hlo : EZ env lo 0 = some l) (hhi : EZ env hi len = some r) (h0 : 0 ≤ l) (h1 : l ≤ r) (h2 : r ≤ len) :
    ∀ w,(Instr.sliceBounds false len len (lo.map a.eval) (hi.map a.eval) none).run P w = .ok (l.toNat,r.toNat,len) w := by
  intro w;have hr : ∀ k code,(Instr.sliceBound (.int k r) len code).run P w = .ok r.toNat w := fun k code => by
    simp only [Instr.sliceBound,asIntOf,Sem.run_bind,Sem.run_pure,Result.andThen_ok];rw [if_pos ⟨by omega,by omega⟩];rfl
  have hl : ∀ k code,(Instr.sliceBound (.int k l) r.toNat code).run P w = .ok l.toNat w := fun k code => by
    simp only [Instr.sliceBound,asIntOf,Sem.run_bind,Sem.run_pure,Result.andThen_ok];rw [if_pos ⟨by omega,by omega⟩];rfl
  cases lo with
  | none =>
    simp only [EZ,Option.some.injEq] at hlo;subst hlo;cases hi with
    | none =>
      simp only [EZ,Option.some.injEq] at hhi;subst hhi;simp [Instr.sliceBounds]
    | some x =>
      obtain ⟨k,hk⟩ := zI p hhi;simp [Instr.sliceBounds,hk,hr]
  | some y =>
    obtain ⟨k',hk'⟩ := zI p hlo;cases hi with
    | none =>
      simp only [EZ,Option.some.injEq] at hhi;subst hhi;have := hl k';simp only [bN] at this;simp [Instr.sliceBounds,hk',this]
    | some x =>
      obtain ⟨k,hk⟩ := zI p hhi;simp [Instr.sliceBounds,hk,hk',hr,hl]
theorem PF (ht : Y5 P t) {lo hi : Option Operand} {l r : Int} (hx : evu env x = some (.s a)) (hlo : EZ env lo 0 = some l) (hhi : EZ env hi a.length = some r) (h0 : 0 ≤ l) (h1 : l ≤ r) (h2 : r ≤ a.length) : bJ P ⟨d,.slice t x lo hi none,ty,pos,af,g⟩ env h 0 (fun _ => .s ((a.take r.toNat).drop l.toNat)) (fun _ => []) := by
  refine fL fun ρ S ac w p => ⟨.string ⟨((a.take r.toNat).drop l.toNat).toArray⟩,?_,by simp [R]⟩
  have hv := pZ (p.evu hx);have ht' : P.underlying t = some .string := ht;have e : (⟨a.toArray⟩ : ByteArray).size = a.length := by show a.toArray.size = _;simp
  have he : (⟨a.toArray⟩ : ByteArray).extract l.toNat r.toNat = ⟨((a.take r.toNat).drop l.toNat).toArray⟩ := by
    apply ByteArray.ext;simp [ByteArray.data_extract,List.extract_eq_take_drop,List.drop_take]
  have hb := FZ (P := P) p hlo hhi h0 h1 h2;have hS : (Instr.slice t (.string ⟨a.toArray⟩) (lo.map ac.eval) (hi.map ac.eval) none).run P w = .ok (.string ⟨((a.take r.toNat).drop l.toNat).toArray⟩) w := by
    rw [← he];have hb' : (Instr.sliceBounds false (⟨a.toArray⟩ : ByteArray).size (⟨a.toArray⟩ : ByteArray).size (lo.map ac.eval) (hi.map ac.eval) none).run P w = .ok (l.toNat,r.toNat,a.length) w := by rw [e];exact hb w
    simp [Instr.slice,run_underlying ht',hb']
  simp [execOp,hv,Instr.sliceAt,run_underlying ht',hS]
theorem zZ (w : World) (size : Nat) (l : List UInt8) : (Builtin.firstCells size l.length (.string ⟨l.toArray⟩)).run P w = .ok (l.map fun b => Value.int .u8 b.toNat).toArray w := by
  have := Go.Lib.run_firstCells_string (P := P) w size ⟨l.toArray⟩;have e : (⟨l.toArray⟩ : ByteArray).size = l.length := by show l.toArray.size = _;simp
  rw [e] at this;rw [this];simp [Go.Lib.strCells]
theorem DR (w : World) (l : List UInt8) : (Builtin.lenOf (.string ⟨l.toArray⟩)).run P w = .ok l.length w := by
  have e : (⟨l.toArray⟩ : ByteArray).size = l.length := by show l.toArray.size = _;simp
  simp [Builtin.lenOf,e]
theorem R4 {w : World} {t tS ty e : TypeId} {i : TypeInfo} (ht : P.underlying t = some (.slice e)) (hS : P.underlying tS = some .string) (hi : P.info? e = some i) {b o len cap : Nat} {l : List UInt8} {zs : List Value} (hl : zs = l.map fun b => Value.int .u8 b.toNat) (h1 : ∀ u ∈ zs, u.oneCell' = true)
    {cc : Array Value} {ee : TypeId} (hc : w.heap[b]? = some (.cells cc ee (0,0))) (hroom : len + l.length ≤ cap) (hfit : o + len * i.size + zs.length ≤ cc.size) :
    (Builtin.append_ #[t,tS] ty #[.slice (some ⟨b,o,none⟩) len cap,.string ⟨l.toArray⟩]).run P w = .ok (.slice (some ⟨b,o,none⟩) (len + l.length) cap) (w.setRow b (cc.toList.take (o + len * i.size) ++ zs ++ cc.toList.drop (o + len * i.size + zs.length)).toArray) := by
  have hf := zZ (P := P) w i.size l;rw [← hl] at hf;have hst := run_storeCells_at P b (o + len * i.size) ee zs 0 cc w hc (by simpa using hfit) h1
  simp only [Nat.add_zero] at hst;simp [Builtin.append_,run_underlying ht,run_underlying hS,sizeOf,typeInfo,hi,DR,hroom,hf,Addr.add_lit,hst]
theorem J1 {w : World} {t tS ty e : TypeId} {i : TypeInfo} (ht : P.underlying t = some (.slice e)) (hS : P.underlying tS = some .string) (hi : P.info? e = some i) {a : Option Addr} {len cap : Nat} (hlc : len ≤ cap) :
    (Builtin.append_ #[t,tS] ty #[.slice a len cap,.string ⟨([] : List UInt8).toArray⟩]).run P w = .ok (.slice a len cap) w := by
  have hf := zZ (P := P) w i.size [];simp only [List.length_nil,List.map_nil] at hf;have h0 := DR (P := P) w [];simp only [List.length_nil] at h0;cases a with
  | none => simp [Builtin.append_,run_underlying ht,run_underlying hS,sizeOf,typeInfo,hi,h0,hlc,hf]
  | some a => simp [Builtin.append_,run_underlying ht,run_underlying hS,sizeOf,typeInfo,hi,h0,hlc,hf,storeCells]
theorem O5 {w : World} {t tS ty e : TypeId} {i : TypeInfo} {z : Value} (ht : P.underlying t = some (.slice e)) (hS : P.underlying tS = some .string) (hi : P.info? e = some i) (hz0 : i.zero = some z) {a : Option Addr} {len cap : Nat} {l : List UInt8} {ys zs : List Value} (hly : ys.length = len * i.size) (hy : len = 0 ∨ ∃ b o, a = some ⟨b, o, none⟩ ∧ lies w b o ys)
    (hl : zs = l.map fun b => Value.int .u8 b.toNat) (hg : cap < len + l.length) (hb : (len + l.length) * i.bytes ≤ 140737488355328) (h63 : len + l.length ≤ 9223372036854775807) :
    (Builtin.append_ #[t,tS] ty #[.slice a len cap,.string ⟨l.toArray⟩]).run P w = .ok (.slice (some ⟨w.heap.size,0,none⟩) (len + l.length) (grownCap w (len + l.length) cap e)) (w.drew.alloc (.cells (ys.toArray ++ zs.toArray ++ Builtin.zeroCells z.cells (grownCap w (len + l.length) cap e - (len + l.length))) e)) := by
  have hn : ¬ (len + l.length ≤ cap) := by omega
  have h63' : ¬ (9223372036854775807 < ((len : Int) + (l.length : Int))) := by omega
  have h48' : ¬ (281474976710656 < Builtin.nextslicecap (len + l.length) cap * i.bytes) := by have := growslice_fits (old := cap) (need := len + l.length) (by omega) hb;omega
  have hd : ∀ {b o : Nat} {l : List Value},lies w b o l → lies w.drew b o l := fun h => h
  have hf := zZ (P := P) w.drew i.size l;rw [← hl] at hf;have hfo := sD (P := P) (w := w.drew) (size := i.size) (cap := cap) hly (hy.imp id fun ⟨b,o,h1,h2⟩ => ⟨b,o,h1,hd h2⟩);simp [Builtin.append_,run_underlying ht,run_underlying hS,sizeOf,typeInfo,zeroValue,hi,hz0,DR,hn,h63',h48',Question.forced,hf,hfo,newRow,grownCap,-List.append_toArray]
end
section
variable {P : Program} {env : dD} {h : Hp}
variable {d : Option Nat} {ty : TypeId} {pos : String} {af : Array Edge} {g : Option (Nat × Bool)}
def rC (l : List UInt8) : List Value := l.map fun b => Value.int .u8 b.toNat
@[simp] theorem strV_length (l : List UInt8) : (rC l).length = l.length := by simp [rC]
theorem RA {l : List UInt8} {j : Nat} {y : Value} (h : (rC l)[j]? = some y) : ∃ x,l[j]? = some x ∧ y = .int .u8 x.toNat := by
  simp only [rC,aS,bX] at h;obtain ⟨x,h1,h2⟩ := h;exact ⟨x,h1,h2.symm⟩
theorem MA {l : List UInt8} {j : Nat} {x : UInt8} (h : l[j]? = some x) : (rC l)[j]? = some (.int .u8 x.toNat) := by
  simp [rC,h]
theorem PI (T : oA P) {t : TypeId} {i : TI} (hz : T.ti t = some i) (hag : i.agg = true) : bJ P ⟨d,.alloc t,ty,pos,af,g⟩ env h 1 (fun p => .ptr p 0) (fun _ => [.var t (i.zero.map .v)]) := by
  refine DU fun ρ S a w p => ?_
  obtain ⟨z,h1,h2⟩ := T.zeroV hz w;refine ⟨.cells z.cells t (0,0),.pointer (some ⟨w.heap.size,0,none⟩),?_,fun pos hpos w' hw' => ⟨?_,?_⟩⟩
  · simp [execOp,Instr.alloc,h1];rfl
  · simp [R,Pl.with]
  · exact ⟨w.heap.size,z.cells,rfl,hw',by rw [h2];exact Y6 _⟩
section
variable {n : Nat × Nat} {ops : Array Oper} {rest : List Oper} {K : dD → Hp → Prop}
theorem Q7 (T : oA P) {t e k len dd : Nat} {i : TI} {x y : Operand} {lb l0 : List UInt8} {tS : TypeId} (htS : P.underlying tS = some .string) (hx : evu env x = some (.sl k 0 len 1)) (hy : evu env y = some (.s l0)) (ht : T.elem t = some e) (he : T.ti e = some i) (hs : i.size = 1) (hby : i.bytes = 1)
    (hkk : h[k]? = some (.buf e lb)) (hlen : len = lb.length) (hb : lb.length + l0.length ≤ 140737488355328) (hd : J5 (some dd) n = true)
    (hk : VC P n ops rest ((dd,.sl h.length 0 (lb.length + l0.length) 1) :: env) (h.set k .gone ++ [.buf e (lb ++ l0)]) K) :
    VC P n ops (⟨some dd,.call { callee := .builtin .append,args := #[x,y],argTypes := #[t,tS] },ty,pos,af,none⟩ :: rest) env h K := by
  subst hlen;intro c ρ S a w Q s hQ;refine wpList_plain rfl fun K' hK' => ?_
  have p := s.pre;have hxv := p.evu hx;have y1 : a.eval y = .string ⟨l0.toArray⟩ := pZ (p.evu hy);obtain ⟨inf,z,t1,t2,t3,t4,t5,t6,t7⟩ := T.tiOk e i he;simp only [R] at hxv;obtain ⟨a1,c1,x1,x3,hxv⟩ := hxv;have x2 : lb.length ≤ c1 := by
    rcases hxv with ⟨h0,h1⟩ | ⟨b,o,_,_,h3,_⟩
    · omega
    · exact h3
  have hB : RB S w ρ (ρ k) (.buf e lb) := p.blk k _ hkk;simp only [RB] at hB;have hklt : k < h.length := (aA.1 hkk).1;have ev1 : ∀ r w',(Builtin.append_ #[t,tS] ty #[a.eval x,a.eval y]).run P w = .ok r w' → (execOp a.eval ⟨some dd,.call { callee := .builtin .append,args := #[x,y],argTypes := #[t,tS] },ty,pos,af,none⟩).run P w = .ok (.value r) w' := fun r w' hr => by
    simp [execOp,resolve,invoke,builtin,hr]
  -- whatever it does: the new object's place,and the world
  have fin : ∀ {r : Value} {w' : World} {q : Option (Nat × Nat)},(Builtin.append_ #[t,tS] ty #[a.eval x,a.eval y]).run P w = .ok r w' → lM c.M w w' → (∀ j b,h[j]? = some b → j ≠ k → b ≠ .gone → ∀ b1 o1,ρ j = some (b1,o1) → w'.heap[b1]? = w.heap[b1]?) → (∀ b1,S b1 → w'.heap[b1]? = w.heap[b1]?) →
      (∀ b1 o1,q = some (b1,o1) → c.M b1 ∧ ¬ S b1 ∧ b1 < w'.heap.size ∧ ∀ j b,h[j]? = some b → j ≠ k → b ≠ .gone → ∀ b2 o2,ρ j = some (b2,o2) → b2 ≠ b1) →
      (hY ρ (fun j => if j = h.length then q else ρ j) S S w w' → R S w' (.sl h.length 0 (lb.length + l0.length) 1) (fun j => if j = h.length then q else ρ j) r ∧ RB S w' (fun j => if j = h.length then q else ρ j) q (.buf e (lb ++ l0))) →
      Oper.wp P ⟨some dd,.call { callee := .builtin .append,args := #[x,y],argTypes := #[t,tS] },ty,pos,af,none⟩ a w K' Q := fun {r w' q} hr hext hoth hst hq hval => by
    unfold Oper.wp;rw [ev1 r w' hr];have hdom := s.hs.dom h.length (aU _)
    have l : hY ρ (fun j => if j = h.length then q else ρ j) S S w w' := ⟨fun j u hu => by
      show (if j = h.length then q else ρ j) = _
      rw [if_neg (fun e => by rw [e,hdom] at hu;cases hu)];exact hu,fun _ h => h,hst,fun _ _ _ _ _ hr => hext.room hr⟩
    obtain ⟨v1,v2⟩ := hval l;have hget : ∀ {j : Nat} {b : AB},(h.set k .gone ++ [.buf e (lb ++ l0)])[j]? = some b → b ≠ .gone → (j < h.length ∧ j ≠ k ∧ h[j]? = some b) ∨ (j = h.length ∧ b = .buf e (lb ++ l0)) := fun {j b} hj hg => by
      by_cases hjl : j < h.length
      · rw [aG (by simpa using hjl)] at hj
        by_cases hjk : j = k
        · subst hjk;rw [dY hklt] at hj;cases hj;exact absurd rfl hg
        · rw [iV (Ne.symm hjk)] at hj;exact .inl ⟨hjl,hjk,hj⟩
      · rw [aE (by simp;omega)] at hj
        simp only [eC] at hj;by_cases hj0 : j - h.length = 0
        · rw [hj0] at hj;simp at hj;exact .inr ⟨by omega,hj.symm⟩
        · rw [bU (by simp;omega)] at hj;cases hj
    refine hK' _ _ (hk c (fun j => if j = h.length then q else ρ j) S _ w' Q ⟨by rw [iS];exact s.size,by rw [fT];exact s.defers.later l,nA s.size hd (fun tt uu huu => (s.env tt uu huu).later l) v1,⟨fun j hj => ?_,fun j u hu => ?_,fun j b hj => ?_,fun j b u hj hg hu => ?_,fun j j' b b' u u' hj hj' hg hg' hu hu' e => ?_,fun b1 hb1 => cC (s.hs.stab b1 hb1) hext.size,s.hs.ext.trans hext (fun _ h _ => h),s.hs.st0,s.hs.st1,by simp;exact cQ s.hs.mle (gA _ _),fun j hj => by
      have := s.hs.mle;show (if j = h.length then q else ρ j) = _
      rw [if_neg (by omega)];exact s.hs.keep j hj,s.hs.glob.later l⟩,s.cm⟩ hQ)
    · simp at hj;show (if j = h.length then q else ρ j) = _
      rw [if_neg (by omega)];exact s.hs.dom j (by omega)
    · by_cases hj : j = h.length
      · simp only [hj,if_true] at hu;exact (hq u.1 u.2 hu).2.2.1
      · simp only [hj,if_false] at hu;exact cC (s.hs.rng j u hu) hext.size
    · cases b with
      | gone => trivial
      | _ =>
        rcases hget hj (by simp) with ⟨h2,h3,h4⟩ | ⟨h2,h3⟩
        · show RB S w' _ (if j = h.length then q else ρ j) _
          rw [if_neg (by omega)]
          exact RB.later l (fun b1 o1 hp1 => hoth j _ h4 h3 (by simp) b1 o1 hp1) (s.hs.blk j _ h4)
        · subst h2;show RB S w' _ (if h.length = h.length then q else ρ h.length) _
          rw [if_pos rfl,h3];exact v2
    · rcases hget hj hg with ⟨h2,h3,h4⟩ | ⟨h2,h3⟩
      · rw [if_neg (by omega)] at hu
        exact s.hs.live j b u h4 hg hu
      · rw [if_pos h2] at hu;exact ⟨(hq u.1 u.2 hu).1,(hq u.1 u.2 hu).2.1⟩
    · rcases hget hj hg with ⟨h2,h3,h4⟩ | ⟨h2,h3⟩ <;> rcases hget hj' hg' with ⟨h2',h3',h4'⟩ | ⟨h2',h3'⟩
      · rw [if_neg (by omega)] at hu hu'
        exact s.hs.inj j j' b b' u u' h4 h4' hg hg' hu hu' e
      · rw [if_neg (by omega)] at hu
        rw [if_pos h2'] at hu';exact absurd e ((hq u'.1 u'.2 hu').2.2.2 j b h4 h3 hg u.1 u.2 hu)
      · rw [if_neg (by omega)] at hu'
        rw [if_pos h2] at hu;exact absurd e.symm ((hq u.1 u.2 hu).2.2.2 j' b' h4' h3' hg' u'.1 u'.2 hu')
      · omega
  have hoth0 : ∀ (w' : World) (b0 : Nat),(∀ x,x ≠ b0 → w'.heap[x]? = w.heap[x]?) → (∃ o,ρ k = some (b0,o)) → (∀ j b,h[j]? = some b → j ≠ k → b ≠ .gone → ∀ b1 o1,ρ j = some (b1,o1) → w'.heap[b1]? = w.heap[b1]?) ∧ (∀ b1,S b1 → w'.heap[b1]? = w.heap[b1]?) := fun w' b0 hw ⟨o,ho⟩ =>
    ⟨fun j b hj hjk hg b1 o1 h1 => hw b1 (fun e => hjk (s.hs.inj j k b _ _ _ hj hkk hg (by simp) h1 ho e)),fun b1 hb1 => hw b1 (fun e => (s.hs.live k _ _ hkk (by simp) ho).2 (e ▸ hb1))⟩
  have hoth0 : ∀ (w' : World) (b0 : Nat),(∀ x,x ≠ b0 → w'.heap[x]? = w.heap[x]?) → (∃ o,ρ k = some (b0,o)) → (∀ j b,h[j]? = some b → j ≠ k → b ≠ .gone → ∀ b1 o1,ρ j = some (b1,o1) → w'.heap[b1]? = w.heap[b1]?) ∧ (∀ b1,S b1 → w'.heap[b1]? = w.heap[b1]?) := fun w' b0 hw ⟨o,ho⟩ =>
    ⟨fun j b hj hjk hg b1 o1 h1 => hw b1 (fun e => hjk (s.hs.inj j k b _ _ _ hj hkk hg (by simp) h1 ho e)),fun b1 hb1 => hw b1 (fun e => (s.hs.live k _ _ hkk (by simp) ho).2 (e ▸ hb1))⟩
  by_cases hroom : lb.length + l0.length ≤ c1
  · by_cases hm : l0 = []
    · -- nothing is appended
      subst hm;have hr := J1 (P := P) (w := w) (t := t) (ty := ty) (T.elemOk _ _ ht) htS t1 (a := a1) x2;refine fin (q := ρ k) (by rw [x1,y1];exact hr) (lM.refl _ _) (fun _ _ _ _ _ _ _ _ => rfl) (fun _ _ => rfl) (fun b1 o1 hq => ?_) (fun l' => ⟨?_,?_⟩)
      · obtain ⟨m1,m2⟩ := s.hs.live k _ _ hkk (by simp) hq
        exact ⟨m1,m2,s.hs.rng k _ hq,fun j b hj hjk hg b3 o3 h3 e => hjk (s.hs.inj j k b _ _ _ hj hkk hg (by simp) h3 hq e)⟩
      · simp only [R,List.length_nil,Nat.add_zero];refine ⟨a1,c1,rfl,x3,?_⟩;rcases hxv with e3 | ⟨b,o,f1,f2,f3,f4⟩
        · exact .inl e3
        · exact .inr ⟨b,o,by simp [f1],f2,f3,f4⟩
      · simp only [RB,List.append_nil];exact hB
    · -- there is room
      have hpos : 0 < l0.length := jK.2 hm;rcases hxv with ⟨e3,e4⟩ | ⟨b,o,f1,f2,f3,⟨c3,e3,fz3,r1,r2⟩⟩
      · omega
      rcases hB with ⟨_,hB⟩ | ⟨b',cc,g1,f4,g3⟩
      · rw [f1] at hB;cases hB
      rw [f1] at g1;obtain ⟨rfl,rfl⟩ : b = b' ∧ o = 0 := by simpa using g1
      obtain rfl : cc = c3 := by rw [f4] at r1;cases r1;rfl
      have hone : ∀ u ∈ rC l0,u.oneCell' = true := fun u hu => by obtain ⟨q,_,rfl⟩ := aK.1 hu;rfl
      have hfit : 0 + lb.length * inf.size + (rC l0).length ≤ cc.size := by rw [t2,hs,strV_length];omega
      have hr := R4 (P := P) (w := w) (t := t) (ty := ty) (T.elemOk _ _ ht) htS t1 (b := b) (o := 0) (len := lb.length) (cap := c1) (l := l0) (zs := rC l0) rfl hone f4 hroom hfit;rw [t2,hs,Nat.mul_one,Nat.zero_add] at hr hfit;have hcs : ((cc.toList.take lb.length ++ rC l0 ++ cc.toList.drop (lb.length + (rC l0).length)).toArray).size = cc.size := by
        simp only [vW,aB,bT,iM,fJ];omega
      have hnew := setRow_heap w b cc (cc.toList.take lb.length ++ rC l0 ++ cc.toList.drop (lb.length + (rC l0).length)).toArray e (0,0) f4;obtain ⟨m1,m2⟩ := s.hs.live k _ _ hkk (by simp) f1
      obtain ⟨o1,o2⟩ := hoth0 _ b (fun x hx => setRow_other w b x (cc.toList.take lb.length ++ rC l0 ++ cc.toList.drop (lb.length + (rC l0).length)).toArray hx) ⟨0,f1⟩;refine fin (q := some (b,0)) (by rw [x1,y1,f2];simpa using hr) ((pB f4 hcs).mono fun x _ hx => by rw [hx];exact m1) o1 o2 (fun b1 o1 hq => ?_) (fun l' => ⟨?_,?_⟩)
      · cases hq;exact ⟨m1,m2,(aR.1 hnew).1,fun j b hj hjk hg b3 o3 h3 e => hjk (s.hs.inj j k b _ _ _ hj hkk hg (by simp) h3 f1 e)⟩
      · simp only [R];refine ⟨_,c1,rfl,x3,.inr ⟨b,0,by simp,by simp,hroom,_,e,_,hnew,?_⟩⟩
        rw [hcs];omega
      · simp only [RB];refine .inr ⟨b,_,rfl,hnew,fun j u hj => ?_⟩
        rw [kZ];by_cases hj1 : j < lb.length
        · rw [aG hj1] at hj;rw [aY,aG (by simp;omega),bS,if_pos hj1]
          simpa using g3 j u hj
        · rw [aE (by omega)] at hj
          have hj2 := (aA.1 hj).1;rw [aG (by simp;omega),aE (by simp;omega)]
          have e9 : (List.take lb.length cc.toList).length = lb.length := by simp only [bT,fJ];omega
          rw [e9];exact MA hj
  · -- a new row
    have hy0 : lb.length = 0 ∨ ∃ b o,a1 = some ⟨b,o,none⟩ ∧ lies w b o (rC lb) := by
      rcases hxv with ⟨e3,_⟩ | ⟨b,o,f1,f2,f3,_⟩
      · exact .inl e3
      rcases hB with ⟨_,hB⟩ | ⟨b',cc,g1,f4,g3⟩
      · rw [f1] at hB;cases hB
      rw [f1] at g1;obtain ⟨rfl,rfl⟩ : b = b' ∧ o = 0 := by simpa using g1
      refine .inr ⟨b,0,by simpa using f2,cc,e,_,f4,fun j y hj => ?_⟩
      obtain ⟨q,q1,rfl⟩ := RA hj;rw [Nat.zero_add];exact g3 j q q1
    have hr := O5 (P := P) (w := w) (t := t) (ty := ty) (a := a1) (len := lb.length) (cap := c1) (l := l0) (ys := rC lb) (zs := rC l0) (T.elemOk _ _ ht) htS t1 t4 (by rw [t2,hs];simp) hy0 rfl (by omega) (by rw [t3,hby];omega) (by omega)
    have hgc := grownCap_ge w (lb.length + l0.length) c1 e;have hgm := grownCap_le_maxLen w (lb.length + l0.length) c1 e (by simp only [maxLen];omega)
    have hzs : z.cells.size = 1 := by rw [← hs,← t6,← t5];simp
    obtain ⟨g1,g2⟩ := uD (ys := rC lb) (zs := rC l0) (len := lb.length) (m := l0.length) hzs (by simp) (by simp) hgc
    have hnew : (w.drew.alloc (.cells ((rC lb).toArray ++ (rC l0).toArray ++ Builtin.zeroCells z.cells (grownCap w (lb.length + l0.length) c1 e - (lb.length + l0.length))) e)).heap[w.heap.size]? = some (.cells _ e (0,0)) := heap_alloc_new w.drew _;have hold : ∀ b1,b1 < w.heap.size → (w.drew.alloc (.cells ((rC lb).toArray ++ (rC l0).toArray ++ Builtin.zeroCells z.cells (grownCap w (lb.length + l0.length) c1 e - (lb.length + l0.length))) e)).heap[b1]? = w.heap[b1]? := fun b1 hb1 => RowKit.Below.heap_alloc w.drew _ b1 hb1
    refine fin (q := some (w.heap.size,0)) (by rw [x1,y1];exact hr) ((lM.drew1 w).trans (lY w.drew _ c.M) (fun _ h _ => h)) (fun j b hj hjk hg b1 o1 h2 => hold b1 (s.hs.rng j _ h2)) (fun b1 hb1 => hold b1 (s.hs.stab b1 hb1)) (fun b1 o1 hq => ?_) (fun l' => ⟨?_,?_⟩)
    · cases hq;refine ⟨c.new _ s.hs.ext.size,fun hS => ?_,by simp,fun j b hj hjk hg b2 o2 h2 e => ?_⟩
      · have := s.hs.stab _ hS;omega
      · have := s.hs.rng j _ h2;simp at this;omega
    · simp only [R];exact ⟨_,_,rfl,hgm,.inr ⟨w.heap.size,0,by simp,by simp,hgc,_,e,_,hnew,by rw [Nat.zero_add,Nat.zero_add];exact g1⟩⟩
    · simp only [RB];refine .inr ⟨w.heap.size,_,rfl,hnew,fun j u hj => g2 j _ ?_⟩
      have := MA hj;simpa [rC] using this
end
end
def ZN (H : Hp) (pos : Nat) : List AB → Hp
  | [] => H
  | b :: _ => H.set pos b
theorem WN (A B : Hp) (b c : AB) : (A ++ (c :: B)).set A.length b = A ++ (b :: B) := by
  rw [xF _ _ (aU _),fP];rfl
def jT (P : Program) (o : Oper) (env : dD) (h : Hp) (pos k : Nat) (nb : AB) (x : AV) (new : List AB) : Prop :=
  ∀ c ρ S a w H,HS c ρ S H w → Y9 ρ S env h a w → (∀ (j : Nat) b,h[j]? = some b → b ≠ .gone → H[j]? = some b) → (new = [] ∨ (ρ pos = none ∧ H[pos]? = some .gone ∧ c.m ≤ pos)) → ∀ (K : Act → World → Prop) Q,
    (∀ y ρ' S' w',HS c ρ' S' (ZN (H.set k nb) pos new) w' → hY ρ ρ' S S' w w' → R S' w' x ρ' y → (∀ j,(new ≠ [] → j ≠ pos) → ρ' j = ρ j) → K (a.put o.dst y) w') → o.wp P a w K Q
theorem jT.more {P : Program} {o : Oper} {env env' : dD} {h : Hp} {pos k : Nat} {nb : AB} {x : AV} {new : List AB} (hs : jT P o env h pos k nb x new) (he : ∀ t u,look env t = some u → look env' t = some u) : jT P o env' h pos k nb x new :=
  fun c ρ S a w H g p => hs c ρ S a w H g ⟨fun t u hu => p.env t u (he t u hu),p.rng,p.blk,p.live,p.stab,p.glob⟩
theorem N8.a {P : Program} {op : Op} {ty : TypeId} {ps : String} {af : Array Edge} {env : dD} {h : Hp} {pos k : Nat} {nb : AB} (hs : N8 P ⟨none,op,ty,ps,af,none⟩ env h k nb) : jT P ⟨none,op,ty,ps,af,none⟩ env h pos k nb (.v undef) [] :=
  fun c ρ S a w H g p hb _ K Q hK => hs c ρ S a w H g p hb K Q fun _ w' hh l => hK undef ρ S w' hh l (kY _) (fun _ _ => rfl)
theorem uK.astep {P : Program} {n : Nat × Nat} {c : oU} {env : dD} {h h' : Hp} {all : List mI} {L L' : Nat → Bool} {ρ ρ' : Pl} {S S' : Nat → Prop} {a : Act} {w w' : World} {i : Nat} {f : mI} {y : Value} (s : uK P n c env h all L ρ S a w)
    (hf : all[i]? = some f) (hL : ∀ j,L' j = (L j || Nat.beq j i)) (hd : J5 f.d n = true) (hnd : (jF all).Nodup) (henv : ∀ t x,look env t = some x → t ∉ jF all)
    (hh : HS c ρ' S' (h' ++ kF L' 0 all) w') (hl : h'.length = h.length) (l : hY ρ ρ' S S' w w') (hv : R S' w' f.x ρ' y) (hρ : ∀ j,(f.new ≠ [] → j ≠ h.length + mK (all.take i)) → ρ' j = ρ j) (hn1 : f.new.length ≤ 1) :
    uK P n c env h' all L' ρ' S' (a.put f.d y) w' := by
  have hil : i < all.length := (aA.1 hf).1;have dst_ne : ∀ {j : Nat} {g : mI} {t : Nat},all[j]? = some g → j ≠ i → g.d = some t → f.d ≠ some t := fun {j g t} hg hne hgt hft => by
    have key : ∀ {l : List mI} {i j : Nat} {f g : mI},(jF l).Nodup → l[i]? = some f → l[j]? = some g → i < j → f.d = some t → g.d = some t → False := by
      intro l
      induction l with
      | nil => intro i j f g _ h1;simp at h1
      | cons e l ih =>
        intro i j f g hnd h1 h2 hij hf hg;have tail : (jF l).Nodup := by
          unfold jF at hnd ⊢;rw [zX] at hnd;split at hnd
          · exact hnd
          · exact (aP.1 hnd).2
        cases j with
        | zero => omega
        | succ j =>
          simp only [gV] at h2;cases i with
          | zero =>
            simp only [dK,Option.some.injEq] at h1;subst h1;unfold jF at hnd;rw [zX,hf] at hnd;exact (aP.1 hnd).1 (jV.2 ⟨g,aJ h2,hg⟩)
          | succ i => exact ih tail (by simpa using h1) h2 (by omega) hf hg
    rcases H6 hne with h1 | h1
    · exact key hnd hg hf h1 hgt hft
    · exact key hnd hf hg h1 hft hgt
  have other : ∀ {t : Nat},f.d ≠ some t → (a.put f.d y).tmps.getD t undef = a.tmps.getD t undef := fun {t} ht => by
    cases hfd : f.d with
    | none => rfl
    | some d => exact sW (fun e => ht (by rw [hfd,e]))
  refine ⟨by rw [iS];exact s.size,by rw [fT];exact s.defers.later l,s.cm,fun t x hx => ?_,fun j g t hg hj ht => ?_,hh,fun j g hg hj k hk => ?_⟩
  · rw [other (fun e => henv t x hx (jV.2 ⟨f,aJ hf,e⟩))];exact (s.env0 t x hx).later l
  · by_cases hji : j = i
    · subst hji;rw [hf] at hg;cases hg;rw [ht] at hd ⊢;have hlt : t < a.tmps.size := by rw [s.size];exact bC hd
      rw [uT hlt];exact hv
    · rw [other (dst_ne hg hji ht)];have hjL : L j = true := by
        rw [hL] at hj;rcases iO.1 hj with hj | hj
        · exact hj
        · exact absurd (aM hj) hji
      exact (s.done j g t hg hjL ht).later l
  · have hjL : L j = false := by rw [hL] at hj;exact (iB.1 hj).1
    have hji : j ≠ i := fun e => by rw [hL,e,eQ,rK] at hj;cases hj
    have := s.undone j g hg hjL k hk;rw [hl];rw [hρ _ (fun hne e => ?_)];exact this;have lens_take : ∀ (l : List mI) (a b : Nat) (f : mI),a < b → l[a]? = some f → mK (l.take a) + f.new.length ≤ mK (l.take b) := by
      intro l
      induction l with
      | nil => intro a b f _ h;simp at h
      | cons e l ih =>
        intro a b f hab h;cases b with
        | zero => omega
        | succ b =>
          cases a with
          | zero => simp at h;subst h;simp [mK]
          | succ a => simp only [sA,mK];have := ih a b f (by omega) (by simpa using h);omega
    rcases H6 hji with h1 | h1
    · have := lens_take all j i g h1 hg;omega
    · have := lens_take all i j f h1 hf;have h2 : 0 < f.new.length := jK.2 hne;omega
def zM6 (P : Program) (n : Nat × Nat) (ops : Array Oper) (pres : List (List Nat)) (ss : List (Nat × Nat)) (ds : List Nat) (env : dD) (h : Hp) (effs : List mI) (don : List AB) (K : dD → Hp → Prop) : Prop :=
  ∃ more mb,(effs ++ more).length = pres.length ∧ (don ++ mb).length = ss.length ∧ jF (effs ++ more) = ds ∧
    (∀ i f pre,effs.length ≤ i → (effs ++ more)[i]? = some f → pres[i]? = some pre →
      ((∀ x,x ∈ ss → x.1 ≠ i) ∧ CV P ops i (xH env ((effs ++ more).take i) pre) (seeH pres i pre ss (don ++ mb) h ++ kF (fun j => pre.any (Nat.beq j)) 0 ((effs ++ more).take i)) f) ∨
      (∃ (m k : Nat) (b : AB) (o : Oper),ss[m]? = some (i,k) ∧ (don ++ mb)[m]? = some b ∧ o.dst = f.d ∧ f.new.length ≤ 1 ∧ ops[i]? = some o ∧ (o.guard = none ∨ ∃ g want t,o.guard = some (g,want) ∧ (ops[g]?).bind (·.dst) = some t ∧ look (xH env ((effs ++ more).take i) pre) t = some (.b want)) ∧ k < h.length ∧ jT P o (xH env ((effs ++ more).take i) pre) (seeH pres i pre ss (don ++ mb) h ++ kF (fun j => pre.any (Nat.beq j)) 0 ((effs ++ more).take i)) (h.length + mK ((effs ++ more).take i)) k b f.x f.new)) ∧
    VC P n ops (ops.toList.drop pres.length) (xH env (effs ++ more) (List.range pres.length)) (eH (fun _ => true) ss (don ++ mb) h ++ kF (fun _ => true) 0 (effs ++ more)) K
theorem UP {P : Program} {n : Nat × Nat} {env : dD} {h : Hp} {Q : Exit → dD → Hp → Prop} {id : Nat} {l : List Oper} (pres : List (List Nat)) (ds : List Nat) (ss : List (Nat × Nat)) (hm : P.follows .mixedOrders = true) (hok : sU l.toArray pres = true) (hss : JC pres ss = true) (hssl : (ss.all fun x => Nat.blt x.1 pres.length) = true) (hnd : ds.Nodup) (hds : (ds.all fun d => Nat.blt d n.1) = true) (hsz : Nat.ble pres.length l.length = true)
    (hv : zM6 P n l.toArray pres ss ds (eF ds env) h [] [] (fun v h => Q .normal v h)) (hndf : mZ l = true := by rfl) : AW P n (.region id l.toArray true) env h Q := by
  intro c ρ S a w QX s hX;refine qP hm hndf ?_;have hQ : ∀ (env' : dD) (h' : Hp) ρ' S' a' w',Q .normal env' h' → oD n c ρ' S' env' h' a' w' → (fun e a w => e = Exit.normal ∧ QX Exit.normal a w) Exit.normal a' w' := fun env' h' ρ' S' a' w' k s' => ⟨rfl,hX .normal env' h' ρ' S' a' w' k s'⟩
  generalize (fun e a w => e = Exit.normal ∧ QX Exit.normal a w) = QQ at hQ ⊢;obtain ⟨all,bs,h1,hbl,h2,h3,h4⟩ := hv;simp only [List.nil_append,List.length_nil,bG,true_implies] at h1 hbl h2 h3 h4;have hAT : ∀ L : Nat → Bool,(∀ j,j < pres.length → L j = true) → eH L ss bs h = eH (fun _ => true) ss bs h := fun L hL => nW ss bs h fun x hx => hL x.1 (by have := bD.1 hssl x hx;exact bC this)
  have hple : pres.length ≤ l.toArray.size := by simpa using bC hsz
  have henv : ∀ t x,look (eF ds env) t = some x → look env t = some x ∧ t ∉ jF all := fun t x hx => by rw [h2];exact kG hx
  -- the first operations,in whatever order
  have key : ∀ (fuel : Nat) (listed : Array Bool) (U : List Nat) (ρ : Pl) (S : Nat → Prop) (a : Act) (w : World),listed.size = l.toArray.size → (∀ j,j < l.toArray.size → listed.getD j false = false → j ∈ U) → U.length ≤ fuel → (∀ j,pres.length ≤ j → listed.getD j false = false) →
      (∀ (i : Nat) o,l.toArray[i]? = some o → listed.getD i false = true → ∀ e,e ∈ o.after → Region.binds .any e = true → listed.getD e.on false = true) →
      uK P n c (eF ds env) (eH (fun j => listed.getD j false) ss bs h) all (fun j => listed.getD j false) ρ S a w → wpAny P .any l.toArray QQ fuel listed a w := by
    intro fuel
    induction fuel with
    | zero =>
      intro listed U ρ S a w hls hU hUl htail hcl st;have hU0 : U = [] := cF (by omega)
      subst hU0;have hall : ∀ j,j < l.toArray.size → listed.getD j false = true := fun j hj => by
        cases hb : listed.getD j false with
        | true => rfl
        | false => exact absurd (hU j hj hb) (by simp)
      have hpm : pres.length = l.toArray.size := by
        rcases gP pres.length l.toArray.size with h5 | h5
        · have := htail pres.length (aU _);rw [hall _ h5] at this;cases this
        · omega
      refine qI (k := pres.length) (r := 0) hok _ _ a w (by omega) (aU _) (aU _) hls (fun j hj => ?_) (h4 c ρ S a w QQ ?_ fun env' h' ρ' S' a' w' k s' => hQ env' h' ρ' S' a' w' k s')
      · rw [hall j hj];simp;omega
      · refine ⟨st.size,st.defers,fun t x hx => ?_,?_,st.cm⟩
        · rcases mJ hx with hx | ⟨j,f,h5,h6,h7,rfl⟩
          · exact st.env0 t x hx
          · exact st.done j f t h6 (hall j (by have := (aA.1 h6).1;omega)) h7
        · have := st.hs
          rwa [lU (L := fun j => listed.getD j false) (L' := fun _ => true) all 0 (fun j _ hj => hall j (by omega)),hAT _ (fun j hj => hall j (by omega))] at this
    | succ fuel ih =>
      intro listed U ρ S a w hls hU hUl htail hcl st;by_cases hfl : ∀ j,j < pres.length → listed.getD j false = true
      · -- all of the first ones have come up
        refine qI (k := pres.length) (r := l.toArray.size - pres.length) hok _ _ a w (by omega) (aU _) ?_ hls (fun j hj => ?_) (h4 c ρ S a w QQ ?_ fun env' h' ρ' S' a' w' k s' => hQ env' h' ρ' S' a' w' k s')
        · have hsub : ∀ j,j ∈ List.range' pres.length (l.toArray.size - pres.length) → j ∈ U := fun j hj => by
            rw [VP] at hj;exact hU j (by omega) (htail j hj.1)
          have := (VO (s := pres.length) (n := l.toArray.size - pres.length)).length_le_of_subset hsub;rw [QE] at this;omega
        · by_cases hj' : j < pres.length
          · rw [hfl j hj'];simp [hj']
          · rw [htail j (by omega)];simp;omega
        · refine ⟨st.size,st.defers,fun t x hx => ?_,?_,st.cm⟩
          · rcases mJ hx with hx | ⟨j,f,h5,h6,h7,rfl⟩
            · exact st.env0 t x hx
            · exact st.done j f t h6 (hfl j (by have := (aA.1 h6).1;omega)) h7
          · have := st.hs
            rwa [lU (L := fun j => listed.getD j false) (L' := fun _ => true) all 0 (fun j _ hj => hfl j (by omega)),hAT _ hfl] at this
      · obtain ⟨j0,hj0,hjf⟩ : ∃ j,j < pres.length ∧ listed.getD j false = false := by
          apply Classical.byContradiction;intro hc;apply hfl;intro j hj;cases hb : listed.getD j false with
          | true => rfl
          | false => exact absurd ⟨j,hj,hb⟩ hc
        -- something is ready
        have hex : Region.ready .any l.toArray listed ≠ [] := by
          have least : ∃ j,j < pres.length ∧ listed.getD j false = false ∧ ∀ k,k < j → listed.getD k false = true := by
            have : ∀ b j,j ≤ b → j < pres.length → listed.getD j false = false → ∃ j,j < pres.length ∧ listed.getD j false = false ∧ ∀ k,k < j → listed.getD k false = true := by
              intro b
              induction b with
              | zero => exact fun j hj h5 h6 => ⟨j,h5,h6,fun k hk => by omega⟩
              | succ b ihb =>
                intro j hj h5 h6;by_cases hk : ∃ k,k < j ∧ listed.getD k false = false
                · obtain ⟨k,hk1,hk2⟩ := hk;exact ihb k (by omega) (by omega) hk2
                · refine ⟨j,h5,h6,fun k hk' => ?_⟩
                  cases hb : listed.getD k false with
                  | true => rfl
                  | false => exact absurd ⟨k,hk',hb⟩ hk
            exact this j0 j0 (aU _) hj0 hjf
          obtain ⟨j,h5,h6,h7⟩ := least;intro he;have hlt : j < l.toArray.size := by omega
          have : j ∈ Region.ready .any l.toArray listed := mem_ready.2 ⟨by
            have e : listed.getD j true = listed.getD j false := by simp only [Array.getD,hls,hlt,dif_pos]
            rw [e,h6],_,cT hlt,fun e he hb => h7 _ (lF hok (cT hlt) e he hb)⟩
          rw [he] at this;cases this
        refine ⟨fun h5 => absurd h5 hex,fun i hi => ?_⟩
        obtain ⟨g1,o,ho,hall⟩ := mem_ready.1 hi;have hil : i < l.toArray.size := (aR.1 ho).1;have g1' : listed.getD i false = false := by
          have e : listed.getD i true = listed.getD i false := by simp only [Array.getD,hls,hil,dif_pos]
          rw [← e];exact g1
        have him : i < pres.length := by
          rcases gP i pres.length with h5 | h5
          · exact h5
          · obtain ⟨e,he,hb,hon⟩ := uB hok ho h5 j0 (by omega)
            have := hall e he hb;rw [hon,hjf] at this;cases this
        have hfi : all[i]? = some all[i] := aC (by omega)
        obtain ⟨pre,hpre⟩ : ∃ pre,pres[i]? = some pre := ⟨_,aC him⟩
        -- its predecessors have come up
        have up : ∀ (b k : Nat) (p : List Nat),k ≤ b → pres[k]? = some p → (k = i ∨ listed.getD k false = true) → ∀ j,j ∈ p → listed.getD j false = true := by
          intro b
          induction b with
          | zero =>
            intro k p hk hp _ j hj;obtain ⟨ok,hok1⟩ : ∃ o,l.toArray[k]? = some o := ⟨_,cT (by have := (aA.1 hp).1;omega)⟩
            have := (oX hok hok1 hp j hj).1;omega
          | succ b ihb =>
            intro k p hk hp hki j hj;obtain ⟨ok,hok1⟩ : ∃ o,l.toArray[k]? = some o := ⟨_,cT (by have := (aA.1 hp).1;omega)⟩
            obtain ⟨_,e,he,hb,hor⟩ := oX hok hok1 hp j hj;have hle : listed.getD e.on false = true := by
              rcases hki with rfl | hki
              · rw [ho] at hok1;cases hok1;exact hall e he hb
              · exact hcl k ok hok1 hki e he hb
            rcases hor with hor | hor
            · rw [← hor];exact hle
            · have hon := lF hok hok1 e he hb;cases hpe : pres[e.on]? with
              | none => rw [aD,hpe] at hor;simp at hor
              | some p' =>
                rw [aD,hpe] at hor;exact ihb e.on p' (by omega) hpe (.inr hle) j hor
        have hprel : ∀ j,j ∈ pre → listed.getD j false = true := up i i pre (aU _) hpre (.inl rfl);have hH0 : (eH (fun j => listed.getD j false) ss bs h).length = h.length := nP _ _ _ _;have hhv : (seeH pres i pre ss bs h).length = h.length := vD _ _ _ _ _;have hbel : ∀ (k : Nat) b,(seeH pres i pre ss bs h)[k]? = some b → b ≠ .gone → (eH (fun j => listed.getD j false) ss bs h)[k]? = some b := by
          refine J0 ss bs h h hbl rfl (fun _ _ hb _ => hb) (fun x _ hp => hprel _ (nX.1 hp)) (fun x hx _ hbf => ?_);cases hlx : listed.getD x.1 false with
          | false => rfl
          | true =>
            rcases iO.1 hbf with h5 | h5
            · rw [aM h5,g1'] at hlx;cases hlx
            · cases hpx : pres[x.1]? with
              | none => rw [aD,hpx] at h5;simp at h5
              | some px =>
                rw [aD,hpx] at h5;have := up x.1 x.1 px (aU _) hpx (.inr hlx) i (nX.1 h5);rw [g1'] at this;cases this
        have hbel2 : ∀ (k : Nat) b,(seeH pres i pre ss bs h ++ kF (fun j => pre.any (Nat.beq j)) 0 (all.take i))[k]? = some b → b ≠ .gone → (eH (fun j => listed.getD j false) ss bs h ++ kF (fun j => listed.getD j false) 0 all)[k]? = some b := fun k b hb hgb => by
          by_cases hk : k < h.length
          · rw [aG (by omega)] at hb ⊢;exact hbel k b hb hgb
          · rw [aE (by omega)] at hb ⊢
            rw [hhv] at hb;rw [hH0];have h5 := D6 (L' := fun j => listed.getD j false) _ _ _ _ (fun j hj => hprel j (nX.1 hj)) hb hgb;have h6 : kF (fun j => listed.getD j false) 0 all = kF (fun j => listed.getD j false) 0 (all.take i) ++ kF (fun j => listed.getD j false) (0 + (all.take i).length) (all.drop i) := by
              rw [← qK,cI]
            rw [h6,aG (aA.1 h5).1];exact h5
        have hpreP : Y9 ρ S (xH (eF ds env) (all.take i) pre) (seeH pres i pre ss bs h ++ kF (fun j => pre.any (Nat.beq j)) 0 (all.take i)) a w := by
          refine ⟨fun t x hx => ?_,st.hs.rng,fun k b hb => ?_,fun k b p hb hgb hp => (st.hs.live k b p (hbel2 k b hb hgb) hgb hp).2,st.hs.stab,st.hs.glob⟩
          · rcases mJ hx with hx | ⟨j,f,h5,h6,h7,rfl⟩
            · exact st.env0 t x hx
            · rw [bS] at h6;split at h6
              · exact st.done j f t h6 (hprel j h5) h7
              · cases h6
          · by_cases hgb : b = .gone
            · subst hgb;trivial
            · exact st.hs.blk k b (hbel2 k b hb hgb)
        have hposl : (seeH pres i pre ss bs h ++ kF (fun j => pre.any (Nat.beq j)) 0 (all.take i)).length = (eH (fun j => listed.getD j false) ss bs h).length + mK (all.take i) := by rw [aB,nG,hhv,hH0]
        have hokd : J5 all[i].d n = true := by
          cases hdi : all[i].d with
          | none => rfl
          | some d =>
            have : d ∈ ds := by rw [← h2];exact jV.2 ⟨all[i],aH _,hdi⟩
            exact bD.1 hds d this
        -- on,iQ it
        have hget : ∀ j,(listed.setIfInBounds i true).getD j false = (listed.getD j false || Nat.beq j i) := fun j => by
          by_cases hij : i = j
          · subst hij;rw [eQ,rK];simp only [Array.getD,P1,hls,hil,dif_pos];simp
          · rw [getD_set_ne false hij,show Nat.beq j i = false from by rw [← eE];intro hb;have := aM hb;omega,kL]
        have onS : ∀ ρ' S' a' w',uK P n c (eF ds env) (eH (fun j => (listed.setIfInBounds i true).getD j false) ss bs h) all (fun j => (listed.setIfInBounds i true).getD j false) ρ' S' a' w' → wpAny P .any l.toArray QQ fuel (listed.setIfInBounds i true) a' w' := fun ρ' S' a' w' st' => by
          have hiU : i ∈ U := hU i hil g1';refine ih (listed.setIfInBounds i true) (U.erase i) ρ' S' _ w' (by simpa using hls) (fun j hj hjl => ?_) (by rw [tK hiU];omega) (fun j hj => ?_) (fun k ok hok1 hkl e he hb => ?_) st'
          · rw [hget] at hjl;obtain ⟨h5,h6⟩ := iB.1 hjl;have hne : j ≠ i := fun e => by rw [e,eQ] at h6;cases h6
            exact (yW hne).2 (hU j hj h5)
          · rw [hget,htail j hj,show Nat.beq j i = false from by rw [← eE];intro hb;have := aM hb;omega];rfl
          · rw [hget] at hkl ⊢;rcases iO.1 hkl with h5 | h5
            · rw [hcl k ok hok1 h5 e he hb];rfl
            · have := aM h5;subst this;rw [ho] at hok1;cases hok1;rw [hall e he hb];rfl
        have yv : ∀ {g t : Nat} {b : Bool},(l.toArray[g]?).bind (·.dst) = some t → look (xH (eF ds env) (all.take i) pre) t = some (.b b) → yielded l.toArray a.tmps g = some b := fun {g t b} h5 h6 => by
          have h7 := pZ (hpreP.env t _ h6);unfold yielded;rw [h5];have : a.tmps[t]? = some (.bool b) := by
            rw [cY] at h7;cases h8 : a.tmps[t]? with
            | none => rw [h8] at h7;simp [undef] at h7
            | some v => rw [h8] at h7;simp at h7;rw [h7]
          simp [this]
        have yvu : ∀ {g t : Nat},(l.toArray[g]?).bind (·.dst) = some t → look (xH (eF ds env) (all.take i) pre) t = some (.v undef) → yielded l.toArray a.tmps g = none := fun {g t} h5 h6 => by
          have h7 := pZ (hpreP.env t _ h6);unfold yielded;rw [h5];rw [cY] at h7;cases h8 : a.tmps[t]? with
          | none => simp [h8]
          | some v => rw [h8] at h7;simp at h7;simp [h8,h7,undef]
        unfold wpOp;rw [ho];simp only;rcases h3 i all[i] pre hfi hpre with ⟨hns,o',ho',hd',hg⟩ | ⟨m,k,b,o',hm1,hm2,hdd,hn1,ho',hgu,hkl,hst⟩
        · rw [ho] at ho';cases ho';have hsame : eH (fun j => (listed.setIfInBounds i true).getD j false) ss bs h = eH (fun j => listed.getD j false) ss bs h := nW ss bs h fun x hx => by
            rw [hget,show Nat.beq x.1 i = false from by rw [← eE];intro hb;exact hns x hx (aM hb),kL]
          have on : ∀ y ρ' S' w',L5 ρ ρ' S S' w w' ((eH (fun j => listed.getD j false) ss bs h).length + mK (all.take i)) all[i].new.length all[i].x all[i].new y → wpAny P .any l.toArray QQ fuel (listed.setIfInBounds i true) (a.put all[i].d y) w' := fun y ρ' S' w' p => by
            have := st.step (L' := fun j => (listed.setIfInBounds i true).getD j false) hfi g1' hget p hokd (by rw [h2];exact hnd) (fun t x hx => (henv t x hx).2) (by rw [hH0];exact s.hs.mle)
            rw [← hsame] at this;exact onS _ _ _ _ this
          rcases hg with ⟨x,new,hgu,hfs,hx,hn⟩ | ⟨g,want,t,hgu,h5,h6,hx,hn⟩
          · have hw : Region.wanted o (yielded l.toArray a.tmps) = true := by
              rcases hgu with hgu | ⟨g,want,t,hgu,h5,h6⟩
              · exact pD hgu
              · simp [Region.wanted,hgu,yv h5 h6]
            rw [if_pos hw];left;have := hfs ρ S a w hpreP (seeH pres i pre ss bs h ++ kF (fun j => pre.any (Nat.beq j)) 0 (all.take i)).length (fun j hj => by rw [hposl];exact st.undone i _ hfi g1' j hj)
            refine this (wpAny P .any l.toArray QQ fuel (listed.setIfInBounds i true)) QQ fun y ρ' S' w' p => ?_
            rw [hx,hn,hposl] at p;have := on y ρ' S' w' p;rw [← hd'] at this;exact this
          · have hw : Region.wanted o (yielded l.toArray a.tmps) = false := by
              rcases h6 with h6 | h6
              · simp [Region.wanted,hgu,yv h5 h6]
              · simp [Region.wanted,hgu,yvu h5 h6]
            rw [if_neg (by rw [hw];exact tU)]
            have := on undef ρ S w ⟨lM.refl _ _,rfl,fun _ _ => rfl,fun _ h => h,fun _ h => .inl h,fun k p hk1 hk2 => by rw [hn,List.length_nil] at hk2;omega,fun k k' p p' hk1 hk2 => by rw [hn,List.length_nil] at hk2;omega,by rw [hx];exact kY _,fun j b hb => by rw [hn] at hb;simp at hb⟩
            rw [← hd'] at this;exact this
        · rw [ho] at ho';cases ho';have hw : Region.wanted o (yielded l.toArray a.tmps) = true := by
            rcases hgu with hgu | ⟨g,want,t,hgu,h5,h6⟩
            · exact pD hgu
            · simp [Region.wanted,hgu,yv h5 h6]
          rw [if_pos hw];left;have hap : (eH (fun j => listed.getD j false) ss bs h).set k b = eH (fun j => (listed.setIfInBounds i true).getD j false) ss bs h := by
            rw [B7 (L := fun j => listed.getD j false) (L' := fun j => (listed.setIfInBounds i true).getD j false) ss bs h m hss hm1 hm2 g1' hget (fun x hx hlx j hj => ?_)];cases hpx : pres[x.1]? with
            | none => rw [aD,hpx] at hj;simp at hj
            | some px =>
              rw [aD,hpx] at hj;exact up x.1 x.1 px (aU _) hpx (.inr hlx) j hj
          have hil2 : i < all.length := (aA.1 hfi).1;have hsplit : all = all.take i ++ all[i] :: all.drop (i + 1) := by
            have := cI i all;rw [aO hil2] at this;exact this.symm
          have hti : (all.take i).length = i := by rw [bT];omega
          have sL : ∀ M : Nat → Bool,kF M 0 all = kF M 0 (all.take i) ++ ((match M i with | true => all[i].new | false => List.replicate all[i].new.length .gone) ++ kF M (i + 1) (all.drop (i + 1))) := fun M => by
            conv => lhs;rw [hsplit]
            rw [qK,hti,Nat.zero_add];rfl
          have e1 : kF (fun j => (listed.setIfInBounds i true).getD j false) 0 (all.take i) = kF (fun j => listed.getD j false) 0 (all.take i) := lU _ _ fun j _ hj => by
            rw [hti] at hj;show (listed.setIfInBounds i true).getD j false = _;rw [hget,show Nat.beq j i = false from by rw [← eE];intro hb;have := aM hb;omega,kL]
          have e2 : kF (fun j => (listed.setIfInBounds i true).getD j false) (i + 1) (all.drop (i + 1)) = kF (fun j => listed.getD j false) (i + 1) (all.drop (i + 1)) := lU _ _ fun j hj _ => by
            show (listed.setIfInBounds i true).getD j false = _;rw [hget,show Nat.beq j i = false from by rw [← eE];intro hb;have := aM hb;omega,kL]
          have hLi : (listed.setIfInBounds i true).getD i false = true := by rw [hget,eQ,rK]
          have hlen := nG (fun j => listed.getD j false) 0 (all.take i);have hA : eH (fun j => listed.getD j false) ss bs h ++ kF (fun j => listed.getD j false) 0 all = (eH (fun j => listed.getD j false) ss bs h ++ kF (fun j => listed.getD j false) 0 (all.take i)) ++ (List.replicate all[i].new.length .gone ++ kF (fun j => listed.getD j false) (i + 1) (all.drop (i + 1))) := by rw [sL (fun j => listed.getD j false)];simp only [g1',aY]
          have hB : eH (fun j => (listed.setIfInBounds i true).getD j false) ss bs h ++ kF (fun j => (listed.setIfInBounds i true).getD j false) 0 all = (eH (fun j => (listed.setIfInBounds i true).getD j false) ss bs h ++ kF (fun j => listed.getD j false) 0 (all.take i)) ++ (all[i].new ++ kF (fun j => listed.getD j false) (i + 1) (all.drop (i + 1))) := by rw [sL (fun j => (listed.setIfInBounds i true).getD j false)];simp only [hLi,e1,e2,aY]
          have hsetk : (eH (fun j => listed.getD j false) ss bs h ++ kF (fun j => listed.getD j false) 0 all).set k b = (eH (fun j => (listed.setIfInBounds i true).getD j false) ss bs h ++ kF (fun j => listed.getD j false) 0 (all.take i)) ++ (List.replicate all[i].new.length .gone ++ kF (fun j => listed.getD j false) (i + 1) (all.drop (i + 1))) := by
            rw [hA,aY,yT _ _ (by rw [hH0];exact hkl),hap,aY]
          have hfill : ZN ((eH (fun j => listed.getD j false) ss bs h ++ kF (fun j => listed.getD j false) 0 all).set k b) (h.length + mK (all.take i)) all[i].new = eH (fun j => (listed.setIfInBounds i true).getD j false) ss bs h ++ kF (fun j => (listed.setIfInBounds i true).getD j false) 0 all := by
            rw [hsetk,hB];have hpl : (eH (fun j => (listed.setIfInBounds i true).getD j false) ss bs h ++ kF (fun j => listed.getD j false) 0 (all.take i)).length = h.length + mK (all.take i) := by rw [aB,nP,hlen]
            match hnw : all[i].new,hn1 with
            | [],_ => rfl
            | [q],_ =>
              show List.set _ _ _ = _;rw [← hpl];exact WN _ _ _ _
            | _ :: _ :: _,h9 => exact absurd h9 (by simp)
          refine hst c ρ S a w _ st.hs hpreP hbel2 ?_ (wpAny P .any l.toArray QQ fuel (listed.setIfInBounds i true)) QQ fun y ρ' S' w' hh l' hv hρ => ?_
          · by_cases hnw : all[i].new = []
            · exact .inl hnw
            · have hpos : 0 < all[i].new.length := jK.2 hnw;refine .inr ⟨by have := st.undone i _ hfi g1' 0 hpos;rwa [Nat.add_zero,hH0] at this,?_,by have := s.hs.mle;omega⟩
              rw [hA,aE (by rw [aB,hlen,hH0];omega),aB,hlen,hH0,fP,aG (by simpa using hpos)]
              simp [oR,hpos]
          · rw [hfill] at hh;have := st.astep (h' := eH (fun j => (listed.setIfInBounds i true).getD j false) ss bs h) (L' := fun j => (listed.setIfInBounds i true).getD j false) hfi hget hokd (by rw [h2];exact hnd) (fun t x hx => (henv t x hx).2) hh (by rw [nP,nP]) l' hv (fun j hj => ?_) hn1
            · rw [hdd];exact onS _ _ _ _ this
            · exact hρ j (by rw [hH0] at hj;exact hj)
  have hsize : l.toArray.size = l.length := by simp
  have hrep : ∀ j,(Array.replicate l.toArray.size false).getD j false = false := fun j => by
    simp only [Array.getD];split <;> simp
  refine key l.toArray.size _ (List.range l.toArray.size) ρ S a _ (by simp) (fun j hj _ => by simpa using hj) (by simp) (fun j _ => hrep j) (fun i o _ hi => by rw [hrep] at hi;cases hi) ?_
  have hseg : ∀ (r : List mI) (i : Nat),kF (fun _ => false) i r = List.replicate (mK r) .gone := by
    intro r
    induction r with
    | nil => intro i;rfl
    | cons f r ih => intro i;simp only [kF,ih,mK,wZ]
  have hL : (fun j => (Array.replicate l.toArray.size false).getD j false) = fun _ => false := funext hrep
  rw [hL,show eH (fun _ => false) ss bs h = h from ?_]
  rotate_left
  · have : ∀ (ss : List (Nat × Nat)) (bs : List AB) (h : Hp),eH (fun _ => false) ss bs h = h := by
      intro ss
      induction ss with
      | nil => intros;rfl
      | cons x r ihr =>
        intro bs h;cases bs with
        | nil => rfl
        | cons b bs => simp only [eH];exact ihr bs h
    exact this ss bs h
  have l0 : hY ρ ρ S S w { w with drawn := w.drawn + 1 } := ⟨fun _ _ h => h,fun _ h => h,fun _ _ => rfl,fun _ _ _ _ _ h => h⟩
  refine ⟨s.size,s.defers.later l0,s.cm,fun t x hx => (s.env t x (kG hx).1).later l0,fun i f t _ hi => (by cases hi),?_,fun i f _ _ j _ => s.hs.dom _ (by omega)⟩
  rw [hseg];have ext : lM c.M c.w0 { w with drawn := w.drawn + 1 } := s.hs.ext.drew;have at_ : ∀ {k : Nat} {b : AB},(h ++ List.replicate (mK all) .gone)[k]? = some b → b ≠ .gone → h[k]? = some b := fun {k b} hb hg => by
    by_cases hk : k < h.length
    · rwa [aG hk] at hb
    · rw [aE (by omega),oR] at hb
      split at hb
      · cases hb;exact absurd rfl hg
      · cases hb
  refine ⟨fun k hk => s.hs.dom k (by simp at hk;omega),s.hs.rng,fun k b hb => ?_,fun k b p hb hg hp => s.hs.live k b p (at_ hb hg) hg hp,fun k k' b b' p p' hb hb' hg hg' hp hp' e => s.hs.inj k k' b b' p p' (at_ hb hg) (at_ hb' hg') hg hg' hp hp' e,s.hs.stab,ext,s.hs.st0,s.hs.st1,by simp;exact cQ s.hs.mle (gA _ _),s.hs.keep,s.hs.glob.later l0⟩
  by_cases hg : b = .gone
  · subst hg;trivial
  · exact RB.later l0 (fun _ _ _ => rfl) (s.hs.blk k b (at_ hb hg))
def QG (P : Program) (n : Nat × Nat) (ops : List Oper) (pres : List (List Nat)) (ds : List Nat) (bads : List (List Nat)) (ss : List (Nat × Nat)) (env : dD) (h : Hp) (i : Nat) (cur : dD) (objs : List (Nat × Hp)) (don : List AB) (K : dD → Hp → Prop) : Prop :=
  iF ops pres ds bads ss n.1 = true → (∀ t,t ∈ ds → look env t = none) → ∀ effs,H9 ops ss env i cur objs don effs → zM6 P n ops.toArray pres ss ds env h effs don K
section
variable {P : Program} {n : Nat × Nat} {ops : List Oper} {pres : List (List Nat)} {ds : List Nat} {bads : List (List Nat)} {ss : List (Nat × Nat)} {env : dD} {h : Hp} {K : dD → Hp → Prop} {pre bad : List Nat}
theorem UQ {Q : Exit → dD → Hp → Prop} {id : Nat} {l : List Oper} (pres : List (List Nat)) (ds : List Nat) (bads : List (List Nat)) (ss : List (Nat × Nat)) (hm : P.follows .mixedOrders = true) (hok : iF l pres ds bads ss n.1 = true)
    (hv : QG P n l pres ds bads ss (eF ds env) h 0 (eF ds env) [] [] (fun v h => Q .normal v h)) (hndf : mZ l = true := by rfl) : AW P n (.region id l.toArray true) env h Q := by
  have hok' := hok;simp only [iF,lC,aN,decide_eq_true_eq] at hok';obtain ⟨⟨⟨⟨⟨⟨⟨h1,h2⟩,h3⟩,h4⟩,h5⟩,h6⟩,h7⟩,h8⟩ := hok';refine UP pres ds ss hm h1 h7 h8 h2 h3 h4 (hv hok (fun t ht => ?_) [] ⟨⟨rfl,rfl,rfl,fun j f hf => by simp at hf⟩,fun x _ => bG _⟩) hndf
  cases hl : look (eF ds env) t with
  | none => rfl
  | some x => exact absurd ht (kG hl).2
variable {op : Op} {ty : TypeId} {pos : String} {af : Array Edge} {d : Option Nat} {i : Nat} {cur : dD} {objs : List (Nat × Hp)} {don : List AB}
theorem IC {effs : List mI} {f : mI} (hok : iF ops pres ds bads ss n.1 = true) (g : H9 ops ss env i cur objs don effs) (hp : pres[i]? = some pre) (hi : i < ops.length) (hns : (ss.all fun x => !Nat.beq x.1 i) = true)
    (hg : CV P ops.toArray i (xH env effs pre) (seeH pres i pre ss don h ++ oP pre objs) f) (hk : zM6 P n ops.toArray pres ss ds env h (effs ++ [f]) don K) : zM6 P n ops.toArray pres ss ds env h effs don K := by
  obtain ⟨more,mb,h1,h0,h2,h3,h4⟩ := hk;have e : effs ++ [f] ++ more = effs ++ (f :: more) := by simp
  rw [e] at h1 h2 h3 h4;have hie : effs.length = i := g.g.len;refine ⟨f :: more,mb,h1,h0,h2,fun j q p hj hgj hpj => ?_,h4⟩
  by_cases hji : j = i
  · subst hji;rw [hp] at hpj;cases hpj;rw [aE (by omega),hie,fP] at hgj
    simp at hgj;subst hgj;left;refine ⟨fun x hx hxe => ?_,?_⟩
    · have := bD.1 hns x hx;rw [hxe,eQ] at this;cases this
    · rw [jX,aQ (by omega),hie,fP,g.seeH hok hi hp mb]
      simp only [vU,List.append_nil];rw [mL,← g.g.objs];exact hg
  · exact h3 j q p (by simp;omega) hgj hpj
theorem eI {dd : Nat} {u : AV} (ho : ops[i]? = some ⟨some dd, op, ty, pos, af, none⟩) (hp : pres[i]? = some pre) (hb : bads[i]? = some bad) (hns : (ss.all fun x => !Nat.beq x.1 i) = true) (hs : bJ P ⟨some dd, op, ty, pos, af, none⟩ (eF bad cur) (seeH pres i pre ss don h ++ oP pre objs) 0 (fun _ => u) (fun _ => []))
    (hk : QG P n ops pres ds bads ss env h (i + 1) ((dd,u) :: cur) objs don K) : QG P n ops pres ds bads ss env h i cur objs don K := by
  intro hok hen effs g;refine IC (f := ⟨some dd,u,[]⟩) hok g hp (aA.1 ho).1 hns ⟨_,by simpa using ho,rfl,.inl ⟨fun _ => u,fun _ => [],.inl rfl,hs.more (g.g.see (EG hok) hp hb),rfl,rfl⟩⟩ (hk hok hen _ (g.next (g.g.snoc (f := ⟨some dd,u,[]⟩) ho rfl rfl) hns))
theorem V9 {dd : Nat} {u : Nat → AV} {b : Nat → List AB} {m : Nat} (ho : ops[i]? = some ⟨some dd, op, ty, pos, af, none⟩) (hp : pres[i]? = some pre) (hb : bads[i]? = some bad) (hns : (ss.all fun x => !Nat.beq x.1 i) = true) (hs : bJ P ⟨some dd, op, ty, pos, af, none⟩ (eF bad cur) (seeH pres i pre ss don h ++ oP pre objs) (m + 1) u b) (hm : (b (seeH pres i pre ss don h ++ oP pre objs).length).length = m + 1)
    (hk : QG P n ops pres ds bads ss env h (i + 1) ((dd,u (seeH pres i pre ss don h ++ oP pre objs).length) :: cur) (objs ++ [(i,b (seeH pres i pre ss don h ++ oP pre objs).length)]) don K) : QG P n ops pres ds bads ss env h i cur objs don K := by
  intro hok hen effs g;refine IC (f := ⟨some dd,u (seeH pres i pre ss don h ++ oP pre objs).length,b (seeH pres i pre ss don h ++ oP pre objs).length⟩) hok g hp (aA.1 ho).1 hns ⟨_,by simpa using ho,rfl,.inl ⟨u,b,.inl rfl,by simp only [hm];exact hs.more (g.g.see (EG hok) hp hb),rfl,rfl⟩⟩ ?_
  refine hk hok hen _ (g.next (g.g.snoc' (f := ⟨some dd,u (seeH pres i pre ss don h ++ oP pre objs).length,b (seeH pres i pre ss don h ++ oP pre objs).length⟩) ho rfl ?_) hns)
  intro e2;rw [show b (seeH pres i pre ss don h ++ oP pre objs).length = [] from e2] at hm
  cases hm
theorem L1 {k : Nat} {nb : AB} {t : TypeId} {x y : Operand} {j : TI} {u v : AV} {xs : List AV} (ho : ops[i]? = some ⟨none, .store t x y, ty, pos, af, none⟩) (hp : pres[i]? = some pre) (hb : bads[i]? = some bad) (hm : ss[don.length]? = some (i, k)) (hkl : k < h.length)
    (T : oA P) (hx : evu (eF bad cur) x = some u) (hy : evu (eF bad cur) y = some v) (ht : T.ti t = some j) (hv : v.cellsOf = some xs) (hl : xs.length = j.size) (h1 : xs.all AV.one = true) (h0 : 0 < j.size) (hu : Z7 (seeH pres i pre ss don h ++ oP pre objs) u xs = some (k,nb))
    (hk : QG P n ops pres ds bads ss env h (i + 1) cur objs (don ++ [nb]) K) : QG P n ops pres ds bads ss env h i cur objs don K := by
  intro hok hen effs g;have hs := FO (P := P) (pos := pos) (ty := ty) (af := af) T hx hy ht hv hl h1 h0 hu;have hi := (aA.1 ho).1;have hgs : B9 ops env (i + 1) cur objs (effs ++ [⟨none,.v undef,[]⟩]) := g.g.snoc (f := ⟨none,.v undef,[]⟩) ho rfl rfl;have hkk := hk hok hen (effs ++ [⟨none,.v undef,[]⟩]) ⟨hgs,fun x hx => ?_⟩
  · obtain ⟨more,mb,g1,g0,g2,g3,g4⟩ := hkk;have e : effs ++ [⟨none,.v undef,[]⟩] ++ more = effs ++ ((⟨none,.v undef,[]⟩ : mI) :: more) := by simp
    have e' : don ++ [nb] ++ mb = don ++ (nb :: mb) := by simp
    rw [e] at g1 g2;rw [e'] at g0;simp only [e,e'] at g3 g4;have hie : effs.length = i := g.g.len;refine ⟨_,_,g1,g0,g2,fun j' q p hj hgj hpj => ?_,g4⟩
    by_cases hji : j' = i
    · subst hji;rw [hp] at hpj;cases hpj;rw [aE (by omega),hie,fP] at hgj
      simp at hgj;subst hgj;right;refine ⟨don.length,k,nb,_,hm,?_,rfl,bG _,by simpa using ho,.inl rfl,hkl,?_⟩
      · rw [aE (aU _),fP];rfl
      · rw [jX,aQ (by omega),hie,fP,g.seeH hok hi hp _]
        simp only [vU,List.append_nil];rw [mL,← g.g.objs];exact (N8.more hs (g.g.see (EG hok) hp hb)).a
    · exact g3 j' q p (by simp;omega) hgj hpj
  · have hok' := hok;simp only [iF,aN] at hok';have hls : don.length < ss.length := (aA.1 hm).1;have e1 : ss.drop don.length = (i,k) :: ss.drop (don.length + 1) := by
      rw [aO hls];have := aC hls;rw [hm] at this;rw [Option.some.inj this]
    have hx' : x ∈ ss.drop (don.length + 1) := by simpa using hx
    have h5 := g.later x (by rw [e1];exact aF _ hx')
    have key : ∀ (ss : List (Nat × Nat)) (m : Nat),JC pres ss = true → ss[m]? = some (i,k) → ∀ x,x ∈ ss.drop (m + 1) → x.1 ≠ i := by
      intro ss
      induction ss with
      | nil => intro m _ h;simp at h
      | cons y r ih =>
        intro m hok h x hx;obtain ⟨s,k'⟩ := y;simp only [JC,aN,bD] at hok;cases m with
        | zero =>
          simp only [dK,Option.some.injEq,Prod.mk.injEq] at h;intro e;have := (hok.1 x (by simpa using hx)).1
          rw [e,h.1,eQ] at this;cases this
        | succ m => exact ih m hok.2 (by simpa using h) x (by simpa using hx)
    have := key ss don.length hok'.1.2 hm x hx';omega
theorem zD9 {k dd : Nat} {nb : AB} {u : AV} (ho : ops[i]? = some ⟨some dd, op, ty, pos, af, none⟩) (hp : pres[i]? = some pre) (hb : bads[i]? = some bad) (hm : ss[don.length]? = some (i, k)) (hkl : k < h.length)
    (hs : jT P ⟨some dd,op,ty,pos,af,none⟩ (eF bad cur) (seeH pres i pre ss don h ++ oP pre objs) (seeH pres i pre ss don h ++ oP pre objs).length k nb u [])
    (hk : QG P n ops pres ds bads ss env h (i + 1) ((dd,u) :: cur) objs (don ++ [nb]) K) : QG P n ops pres ds bads ss env h i cur objs don K := by
  intro hok hen effs g;have hi := (aA.1 ho).1;have hgs : B9 ops env (i + 1) ((dd,u) :: cur) objs (effs ++ [⟨some dd,u,[]⟩]) := g.g.snoc (f := ⟨some dd,u,[]⟩) ho rfl rfl;have hkk := hk hok hen (effs ++ [⟨some dd,u,[]⟩]) ⟨hgs,fun x hx => ?_⟩
  · obtain ⟨more,mb,g1,g0,g2,g3,g4⟩ := hkk;have e : effs ++ [⟨some dd,u,[]⟩] ++ more = effs ++ ((⟨some dd,u,[]⟩ : mI) :: more) := by simp
    have e' : don ++ [nb] ++ mb = don ++ (nb :: mb) := by simp
    rw [e] at g1 g2;rw [e'] at g0;simp only [e,e'] at g3 g4;have hie : effs.length = i := g.g.len;refine ⟨_,_,g1,g0,g2,fun j' q p hj hgj hpj => ?_,g4⟩
    by_cases hji : j' = i
    · subst hji;rw [hp] at hpj;cases hpj;rw [aE (by omega),hie,fP] at hgj
      simp at hgj;subst hgj;right;refine ⟨don.length,k,nb,_,hm,?_,rfl,bG _,by simpa using ho,.inl rfl,hkl,?_⟩
      · rw [aE (aU _),fP];rfl
      · rw [jX,aQ (by omega),hie,fP,g.seeH hok hi hp _]
        simp only [vU,List.append_nil];rw [mL,← g.g.objs];have hpl : (seeH pres j' pre ss don h ++ oP pre objs).length = h.length + mK effs := by rw [g.g.objs,← mL,aB,nG];congr 1;exact vD _ _ _ _ _
        rw [hpl] at hs;exact jT.more hs (g.g.see (EG hok) hp hb)
    · exact g3 j' q p (by simp;omega) hgj hpj
  · have hok' := hok;simp only [iF,aN] at hok';have hls : don.length < ss.length := (aA.1 hm).1;have e1 : ss.drop don.length = (i,k) :: ss.drop (don.length + 1) := by
      rw [aO hls];have := aC hls;rw [hm] at this;rw [Option.some.inj this]
    have hx' : x ∈ ss.drop (don.length + 1) := by simpa using hx
    have h5 := g.later x (by rw [e1];exact aF _ hx')
    have key : ∀ (ss : List (Nat × Nat)) (m : Nat),JC pres ss = true → ss[m]? = some (i,k) → ∀ x,x ∈ ss.drop (m + 1) → x.1 ≠ i := by
      intro ss
      induction ss with
      | nil => intro m _ h;simp at h
      | cons y r ih =>
        intro m hok h x hx;obtain ⟨s,k'⟩ := y;simp only [JC,aN,bD] at hok;cases m with
        | zero =>
          simp only [dK,Option.some.injEq,Prod.mk.injEq] at h;intro e;have := (hok.1 x (by simpa using hx)).1
          rw [e,h.1,eQ] at this;cases this
        | succ m => exact ih m hok.2 (by simpa using h) x (by simpa using hx)
    have := key ss don.length hok'.1.2 hm x hx';omega
theorem uU {k dd : Nat} {nb : AB} {u : AV} {b1 : AB} (ho : ops[i]? = some ⟨some dd, op, ty, pos, af, none⟩) (hp : pres[i]? = some pre) (hb : bads[i]? = some bad) (hm : ss[don.length]? = some (i, k)) (hkl : k < h.length)
    (hs : jT P ⟨some dd,op,ty,pos,af,none⟩ (eF bad cur) (seeH pres i pre ss don h ++ oP pre objs) (seeH pres i pre ss don h ++ oP pre objs).length k nb u [b1])
    (hk : QG P n ops pres ds bads ss env h (i + 1) ((dd,u) :: cur) (objs ++ [(i,[b1])]) (don ++ [nb]) K) : QG P n ops pres ds bads ss env h i cur objs don K := by
  intro hok hen effs g;have hi := (aA.1 ho).1;have hgs : B9 ops env (i + 1) ((dd,u) :: cur) (objs ++ [(i,[b1])]) (effs ++ [⟨some dd,u,[b1]⟩]) := g.g.snoc' (f := ⟨some dd,u,[b1]⟩) ho rfl (by simp)
  have hkk := hk hok hen (effs ++ [⟨some dd,u,[b1]⟩]) ⟨hgs,fun x hx => ?_⟩
  · obtain ⟨more,mb,g1,g0,g2,g3,g4⟩ := hkk;have e : effs ++ [⟨some dd,u,[b1]⟩] ++ more = effs ++ ((⟨some dd,u,[b1]⟩ : mI) :: more) := by simp
    have e' : don ++ [nb] ++ mb = don ++ (nb :: mb) := by simp
    rw [e] at g1 g2;rw [e'] at g0;simp only [e,e'] at g3 g4;have hie : effs.length = i := g.g.len;refine ⟨_,_,g1,g0,g2,fun j' q p hj hgj hpj => ?_,g4⟩
    by_cases hji : j' = i
    · subst hji;rw [hp] at hpj;cases hpj;rw [aE (by omega),hie,fP] at hgj
      simp at hgj;subst hgj;right;refine ⟨don.length,k,nb,_,hm,?_,rfl,aU _,by simpa using ho,.inl rfl,hkl,?_⟩
      · rw [aE (aU _),fP];rfl
      · rw [jX,aQ (by omega),hie,fP,g.seeH hok hi hp _]
        simp only [vU,List.append_nil];rw [mL,← g.g.objs];have hpl : (seeH pres j' pre ss don h ++ oP pre objs).length = h.length + mK effs := by rw [g.g.objs,← mL,aB,nG];congr 1;exact vD _ _ _ _ _
        rw [hpl] at hs;exact jT.more hs (g.g.see (EG hok) hp hb)
    · exact g3 j' q p (by simp;omega) hgj hpj
  · have hok' := hok;simp only [iF,aN] at hok';have hls : don.length < ss.length := (aA.1 hm).1;have e1 : ss.drop don.length = (i,k) :: ss.drop (don.length + 1) := by
      rw [aO hls];have := aC hls;rw [hm] at this;rw [Option.some.inj this]
    have hx' : x ∈ ss.drop (don.length + 1) := by simpa using hx
    have h5 := g.later x (by rw [e1];exact aF _ hx')
    have key : ∀ (ss : List (Nat × Nat)) (m : Nat),JC pres ss = true → ss[m]? = some (i,k) → ∀ x,x ∈ ss.drop (m + 1) → x.1 ≠ i := by
      intro ss
      induction ss with
      | nil => intro m _ h;simp at h
      | cons y r ih =>
        intro m hok h x hx;obtain ⟨s,k'⟩ := y;simp only [JC,aN,bD] at hok;cases m with
        | zero =>
          simp only [dK,Option.some.injEq,Prod.mk.injEq] at h;intro e;have := (hok.1 x (by simpa using hx)).1
          rw [e,h.1,eQ] at this;cases this
        | succ m => exact ih m hok.2 (by simpa using h) x (by simpa using hx)
    have := key ss don.length hok'.1.2 hm x hx';omega
theorem uG (hi : pres.length = i) (hdl : don.length = ss.length) {rest : List Oper} {h' : Hp} (hr : ops.drop i = rest) (hh : eH (fun _ => true) ss don h ++ nY objs = h')
    (hk : VC P n ops.toArray rest cur h' K) : QG P n ops pres ds bads ss env h i cur objs don K := by
  intro hok hen effs gs;have g := gs.g;have hok' := EG hok;simp only [lC,aN,decide_eq_true_eq] at hok';obtain ⟨⟨⟨⟨⟨h1,h2⟩,h3⟩,h4⟩,h5⟩,h6⟩ := hok';have hds : jF effs = ds := by
    rw [← h5];have hle : i ≤ ops.length := by rw [← hi];exact bC h4
    unfold jF;have : effs.map (·.d) = (ops.take pres.length).map (·.dst) := by
      apply dX;intro j;simp only [aS,bS,hi];by_cases hj : j < i
      · rw [if_pos hj];have hje : j < effs.length := by rw [g.len];exact hj
        obtain ⟨o,ho,hod⟩ := g.dst j effs[j] (aC hje);rw [aC hje,ho];simp [hod]
      · rw [if_neg hj,bU (by rw [g.len];omega)];rfl
    have e1 : effs.filterMap (·.d) = (effs.map (·.d)).filterMap id := by rw [pN];rfl
    have e2 : (ops.take pres.length).filterMap (·.dst) = ((ops.take pres.length).map (·.dst)).filterMap id := by rw [pN];rfl
    rw [e1,e2,this]
  refine ⟨[],[],by rw [List.append_nil,g.len,hi],by rw [List.append_nil];exact hdl,by rw [List.append_nil];exact hds,fun j f pre hj hf _ => ?_,?_⟩
  · have := (aA.1 hf).1;simp at this;omega
  rw [List.append_nil,List.append_nil];have el : effs.length = pres.length := by rw [g.len,hi]
  rw [← el,yU,yY 0 effs.length (by omega),cP,← G2,D5,← P6,el,hi]
  rw [zE effs 0,← g.objs,← wV,hh];rw [show ops.toArray.toList.drop i = rest from by simpa using hr]
  refine hk.moreE fun t x hx => ?_
  rw [g.cur] at hx;exact K3 (by have : jF effs = effs.filterMap (·.d) := rfl;rw [← this,hds];exact h2) hx
end
section
variable {P : Program}
theorem HS.made {c : oU} {ρ : Pl} {S : Nat → Prop} {h : Hp} {w w' : World} {x : AV} {b : AB} {y : Value} {q : Option (Nat × Nat)} (s : HS c ρ S h w) (hext : lM (fun _ => False) w w')
    (hq : ∀ p,q = some p → w.heap.size ≤ p.1 ∧ p.1 < w'.heap.size)
    (hv : ∀ ρ' : Pl,ρ' h.length = q → (∀ k,k ≠ h.length → ρ' k = ρ k) → hY ρ ρ' S S w w' → R S w' x ρ' y ∧ RB S w' ρ' q b) :
    ∃ ρ',HS c ρ' S (h ++ [b]) w' ∧ R S w' x ρ' y ∧ hY ρ ρ' S S w w' := by
  let ρ' : Pl := fun k => if k = h.length then q else ρ k
  have hd := s.dom h.length (aU _);have e1 : ρ' h.length = q := if_pos rfl;have e2 : ∀ k,k ≠ h.length → ρ' k = ρ k := fun k hk => if_neg hk
  have l : hY ρ ρ' S S w w' := ⟨fun k p hp => by rw [e2 k (fun e => by rw [e,hd] at hp;cases hp)];exact hp,fun _ h => h,fun b hb => hext.same b (s.stab b hb) (fun h => h),fun _ _ _ _ _ hr => hext.room hr⟩
  obtain ⟨v1,v2⟩ := hv ρ' e1 e2 l;refine ⟨ρ',s.post (m := 1) (new := [b]) (x := x) (y := y) ⟨hext,rfl,fun k hk => e2 k (by omega),fun _ h => h,fun _ h => .inl h,fun k p hk1 hk2 hp => ?_,fun k k' p p' a1 a2 a3 a4 _ _ _ => by omega,v1,fun j b' hb => ?_⟩,v1,l⟩
  · have : k = h.length := by omega
    subst this;rw [e1] at hp;obtain ⟨g1,g2⟩ := hq p hp;exact ⟨g1,g2,fun hS => by have := s.stab _ hS;omega⟩
  · cases j with
    | zero =>
      simp only [dK,Option.some.injEq] at hb;subst hb;rw [Nat.add_zero,e1];exact v2
    | succ j => simp at hb
theorem PO {w w' : World} (h : RowKit.Below w.heap.size w w') : lM (fun _ => False) w w' :=
  ⟨h.os,h.tape,h.output,h.size,fun b hb _ => h.block b hb,fun b c e fz hc => ⟨c,fz,by rw [h.block b (aR.1 hc).1];exact hc,rfl⟩⟩
theorem UA {w : World} {k : Nat} {os : Array Obj} : lM (fun _ => False) w (Sort.grow (w.drewN k) os) := by
  have hh : ∀ b,b < w.heap.size → (Sort.grow (w.drewN k) os).heap[b]? = w.heap[b]? := fun b hb => by
    show (w.heap ++ os)[b]? = _;rw [mQ hb]
  exact ⟨rfl,rfl,rfl,by show w.heap.size ≤ (w.heap ++ os).size;rw [Array.size_append];exact gA _ _,fun b hb _ => hh b hb,fun b c e fz hc => ⟨c,fz,by rw [hh b (aR.1 hc).1];exact hc,rfl⟩⟩
theorem HS.kept {c : oU} {ρ : Pl} {S : Nat → Prop} {h : Hp} {w w' : World} (s : HS c ρ S h w) (hext : lM (fun _ => False) w w') : HS c ρ S h w' := by
  have := s.post (m := 0) (new := []) (x := .any) (y := .nilIface) (ρ' := ρ) (S' := S) (w' := w') ⟨hext,rfl,fun _ _ => rfl,fun _ h => h,fun _ h => .inl h,fun k p a1 a2 _ => by omega,fun k k' p p' a1 a2 => by omega,by simp [R],fun j b hb => by simp at hb⟩
  simpa using this
theorem BW {w : World} {b : Nat} {f : Obj → Obj} {o : Obj} (h : w.heap[b]? = some o) : (w.heap.modify b f)[b]? = some (f o) := by
  simp [EV,h]
theorem E6 {w : World} {b x : Nat} {f : Obj → Obj} (h : x ≠ b) : (w.heap.modify b f)[x]? = w.heap[x]? := by
  simp only [EV];rw [if_neg (Ne.symm h)]
theorem AH {f : FuncId} {T : TypeId} {x : AV} (hfn : ∃ fn, P.funcs[f]? = some fn ∧ (fn.name == "runtime.NumGoroutine") = false ∧ fn.body.isNone = false)
    (hs : ∀ (b : Nat) (w : World),w.cell? ⟨b,0,none⟩ = some (.pointer none) → w.shape? b = some (T,2) → w.frozen? ⟨b,0,none⟩ = false → Calls P f #[.pointer (some ⟨b,0,none⟩)] w fun e w' => e = .returned (.tuple #[]) ∧ w' = w.setCell ⟨b,0,none⟩ (.pointer (some ⟨b,0,none⟩))) :
    bI P f [.ptr 0 0] [.var T [.v (.pointer none),x]] (.tup []) [.cells [.ptr 0 0,x]] := by
  refine ⟨hfn,fun ρ S w vs s ha => ?_⟩
  simp only [RL,R] at ha;obtain ⟨y,ys,rfl,⟨b,o,hp,rfl⟩,rfl⟩ := ha;obtain ⟨b',c,h1,h2,h3⟩ := s.blk 0 _ rfl;rw [hp] at h1;obtain ⟨rfl,rfl⟩ : b = b' ∧ o = 0 := by simpa using h1
  simp only [RL,R] at h3;obtain ⟨v0,l1,hc,rfl,v1,l2,rfl,hx,rfl⟩ := h3;have hcc : c = #[.pointer none,v1] := Array.toList_inj.1 hc;subst hcc;refine (hs b w (by simp [World.cell?,h2]) (by simp [World.shape?,h2]) (by simp [World.frozen?,h2])).mono fun e w' ⟨he,hw⟩ => ?_
  have hb : w'.heap[b]? = some (.cells #[.pointer (some ⟨b,0,none⟩),v1] T (0,0)) := by
    rw [hw];show (w.heap.modify b _)[b]? = _;rw [BW h2];rfl
  have ho : ∀ x,x ≠ b → w'.heap[x]? = w.heap[x]? := fun x hx => by rw [hw];exact E6 hx
  have hext : lM (fun x => x = b) w w' := by
    refine ⟨by rw [hw];rfl,by rw [hw];rfl,by rw [hw];rfl,by rw [hw];simp [World.setCell],fun x _ hx => ho x hx,fun x cc ee fz hcc => ?_⟩
    by_cases hx : x = b
    · subst hx;rw [h2] at hcc;cases hcc;exact ⟨_,_,hb,rfl⟩
    · exact ⟨cc,fz,by rw [ho x hx];exact hcc,rfl⟩
  obtain ⟨g1,g2⟩ := s.upd (nb := .cells [.ptr 0 0,x]) rfl (by simp) hp hext (fun l => ⟨b,0,[.pointer (some ⟨b,0,none⟩),v1],rfl,⟨_,T,hb,fun j y hj => by rw [Nat.zero_add];simpa using hj⟩,by
    simp only [RL,R]
    exact ⟨_,_,rfl,⟨b,0,hp,rfl⟩,_,_,rfl,R.later l hx,rfl⟩⟩)
  exact ⟨.tuple #[],ρ,S,he,g1,by simp [R,RL]⟩
theorem V0 {env : dD} {h : Hp} {d : Option Nat} {ty : TypeId} {pos : String} {af : Array Edge} {g : Option (Nat × Bool)} {t t2 te : TypeId} {x y : Operand} {u z : AV} (ht : P.underlying t = some (.pointer te)) (hx : evu env x = some u) (hz : u.plus 0 = some z) (hy : evu env y = some (.v (.pointer none))) :
    bJ P ⟨d,.binOp .eql t x y t2,ty,pos,af,g⟩ env h 0 (fun _ => .b false) (fun _ => []) := by
  refine fL fun ρ S a w p => ⟨.bool false,?_,by simp [R]⟩
  obtain ⟨b,o,h1,_⟩ := vG (p.evu hx) hz;have h2 := pZ (p.evu hy);have ht' : P.underlying t = some (.pointer (P.pointee t)) := by simp [Program.pointee,ht]
  have hq : eqGuard .eql t x y (.pointer (some ⟨b,o,none⟩)) (.pointer none) = pure () := by rfl
  have hr : (binOp .eql t (.pointer (some ⟨b,o,none⟩)) (.pointer none)).run P w = .ok (.bool false) w := by rw [run_eql_pointer_nil (P := P) w t (some ⟨b,o,none⟩) ht'];rfl
  simp [execOp,h1,h2,hq,hr]
theorem KZ {env : dD} {h : Hp} {d : Option Nat} {ty : TypeId} {pos : String} {af : Array Edge} {g : Option (Nat × Bool)} {t t2 te : TypeId} {x y : Operand} (ht : P.underlying t = some (.pointer te)) (hx : evu env x = some (.v (.pointer none))) (hy : evu env y = some (.v (.pointer none))) :
    bJ P ⟨d,.binOp .eql t x y t2,ty,pos,af,g⟩ env h 0 (fun _ => .b true) (fun _ => []) := by
  refine fL fun ρ S a w p => ⟨.bool true,?_,by simp [R]⟩
  have h1 := pZ (p.evu hx);have h2 := pZ (p.evu hy);have ht' : P.underlying t = some (.pointer (P.pointee t)) := by simp [Program.pointee,ht]
  have hq : eqGuard .eql t x y (.pointer none) (.pointer none) = pure () := by rfl
  have hr : (binOp .eql t (.pointer none) (.pointer none)).run P w = .ok (.bool true) w := by rw [run_eql_pointer_nil (P := P) w t none ht'];rfl
  simp [execOp,h1,h2,hq,hr]
theorem AE {env : dD} {h : Hp} {d : Option Nat} {ty : TypeId} {pos : String} {af : Array Edge} {g : Option (Nat × Bool)} {t t2 te : TypeId} {x y : Operand} {u z : AV} (ht : P.underlying t = some (.pointer te)) (hx : evu env x = some u) (hz : u.plus 0 = some z) (hy : evu env y = some (.v (.pointer none))) :
    bJ P ⟨d,.binOp .neq t x y t2,ty,pos,af,g⟩ env h 0 (fun _ => .b true) (fun _ => []) := by
  refine fL fun ρ S a w p => ⟨.bool true,?_,by simp [R]⟩
  obtain ⟨b,o,h1,_⟩ := vG (p.evu hx) hz;have h2 := pZ (p.evu hy);have ht' : P.underlying t = some (.pointer (P.pointee t)) := by simp [Program.pointee,ht]
  have hq : eqGuard .neq t x y (.pointer (some ⟨b,o,none⟩)) (.pointer none) = pure () := by rfl
  have hr : (binOp .neq t (.pointer (some ⟨b,o,none⟩)) (.pointer none)).run P w = .ok (.bool true) w := by rw [run_neq_pointer_nil (P := P) w t (some ⟨b,o,none⟩) ht'];rfl
  simp [execOp,h1,h2,hq,hr]
theorem KY {env : dD} {h : Hp} {d : Option Nat} {ty : TypeId} {pos : String} {af : Array Edge} {g : Option (Nat × Bool)} {t t2 te : TypeId} {x y : Operand} {k off : Nat} {i : TypeInfo} (ht : P.underlying t = some (.pointer te)) (hi : P.info? te = some i) (hx : evu env x = some (.ptr k off)) (hy : evu env y = some (.ptr k off)) :
    bJ P ⟨d,.binOp .neq t x y t2,ty,pos,af,g⟩ env h 0 (fun _ => .b false) (fun _ => []) := by
  refine fL fun ρ S a w p => ⟨.bool false,?_,by simp [R]⟩
  have h1 := p.evu hx;have h2 := p.evu hy;simp only [R] at h1 h2;obtain ⟨b,o,h3,h4⟩ := h1;obtain ⟨b',o',h5,h6⟩ := h2;rw [h3] at h5;cases h5;have hq : eqGuard .neq t x y (.pointer (some ⟨b,o + off,none⟩)) (.pointer (some ⟨b,o + off,none⟩)) = pure () := by rfl
  have := Go.Lib.run_neq_ptr_same (P := P) w (⟨b,o + off,none⟩ : Addr) ht hi;simp [execOp,h4,h6,hq,this]
theorem DT {env : dD} {h : Hp} {d : Option Nat} {ty : TypeId} {pos : String} {af : Array Edge} {g : Option (Nat × Bool)} {ts : Array TypeId} {x : Operand} {k len : Nat} (hx : evu env x = some (.sl k 0 len 1)) (hl : 0 < len) :
    bJ P ⟨d,.call { callee := .builtin .unsafeSliceData,args := #[x],argTypes := ts },ty,pos,af,g⟩ env h 0 (fun _ => .ep k 0 0 1) (fun _ => []) := by
  refine fL fun ρ S a w p => ?_
  have h1 := p.evu hx;simp only [R] at h1;obtain ⟨ad,cap,h2,_,h3⟩ := h1;rcases h3 with ⟨h0,_⟩ | ⟨b,o,h4,h5,h6,_⟩
  · omega
  refine ⟨.pointer ad,?_,by simp only [R];exact ⟨b,o,h4,by rw [h5]⟩⟩
  have := Go.Lib.run_unsafeSliceData_row (P := P) w ts ty ⟨b,o,none⟩ len cap (by omega)
  have h5' : ad = some ⟨b,o,none⟩ := by rw [h5];simp
  rw [h5'] at h2 ⊢;simp [execOp,resolve,invoke,builtin,h2,this]
theorem EP {f : FuncId} {name : String} {gi : Nat} {tab : List Int} (hfn : ∃ fn, P.funcs[f]? = some fn ∧ (fn.name == "runtime.NumGoroutine") = false ∧ fn.body.isNone = false)
    (hs : ∀ (n : Int) (w : World),-9223372036854775808 ≤ n → n ≤ 9223372036854775807 → Go.Lib.TabIs P w name .u64 tab → Calls P f #[.int .i64 n,.int .i64 10] w fun e w' => e = .returned (.string ⟨(Go.Lib.itoa n).toArray⟩) ∧ ∃ k os,w' = Sort.grow (w.drewN k) os)
    (hg : P.globalNamed name = some gi) (hgt : (gi,tab.map fun z => AV.v (.int .u64 z)) ∈ uE) (n : Int) (h0 : -9223372036854775808 ≤ n) (h1 : n ≤ 9223372036854775807) : bI P f [.i n,.i 10] [] (.s (Go.Lib.itoa n)) [] := by
  refine ⟨hfn,fun ρ S w vs s ha => ?_⟩
  simp only [RL,R] at ha;obtain ⟨y,ys,rfl,rfl,z,zs,rfl,rfl,rfl⟩ := ha;obtain ⟨_,ys,t,fz,g1,g2⟩ := s.glob gi _ hgt;have hT : Go.Lib.TabIs P w name .u64 tab := by
    have e : ys.toList = tab.map fun z => Value.int .u64 z := by
      have := Q2 (vs := tab.map fun z => Value.int .u64 z) (ys := ys.toList) (ρ := fun _ => none) (S := S) (w := w) (by simpa [nR,Function.comp_def] using g2)
      exact this
    unfold Go.Lib.TabIs World.var?;rw [hg];simp only [Option.bind_some,g1];rw [← e]
  refine (hs n w h0 h1 hT).mono fun e w' ⟨he,k,os,hw⟩ => ?_
  subst hw;exact ⟨_,ρ,S,he,s.kept UA,by simp [R]⟩
end
theorem HS.moved {c : oU} {ρ : Pl} {S : Nat → Prop} {H : Hp} {w w' : World} {k pp : Nat} {q : Option (Nat × Nat)} {nb : AB} (g : HS c ρ S H w) (hpk : pp ≠ k) (hH : H[pp]? = some .gone) (hρ : ρ pp = Option.none) (hm : c.m ≤ pp) (hext : lM c.M w w')
    (hoth : ∀ j b,H[j]? = some b → j ≠ k → b ≠ .gone → ∀ b1 o1,ρ j = some (b1,o1) → w'.heap[b1]? = w.heap[b1]?) (hst : ∀ b1,S b1 → w'.heap[b1]? = w.heap[b1]?)
    (hq : ∀ b1 o1,q = some (b1,o1) → c.M b1 ∧ ¬ S b1 ∧ b1 < w'.heap.size ∧ ∀ j b,H[j]? = some b → j ≠ k → b ≠ .gone → ∀ b2 o2,ρ j = some (b2,o2) → b2 ≠ b1)
    (hv : hY ρ (fun j => if j = pp then q else ρ j) S S w w' → RB S w' (fun j => if j = pp then q else ρ j) q nb) :
    HS c (fun j => if j = pp then q else ρ j) S ((H.set k .gone).set pp nb) w' ∧ hY ρ (fun j => if j = pp then q else ρ j) S S w w' := by
  have hplt : pp < H.length := (aA.1 hH).1
  have l : hY ρ (fun j => if j = pp then q else ρ j) S S w w' := ⟨fun j u hu => by
    show (if j = pp then q else ρ j) = _
    rw [if_neg (fun e => by rw [e,hρ] at hu;cases hu)];exact hu,fun _ h => h,hst,fun _ _ _ _ _ hr => hext.room hr⟩
  have v2 := hv l;have hget : ∀ {j : Nat} {b : AB},((H.set k .gone).set pp nb)[j]? = some b → b ≠ .gone → (j ≠ pp ∧ j ≠ k ∧ H[j]? = some b) ∨ (j = pp ∧ b = nb) := fun {j b} hj hg => by
    by_cases hjp : j = pp
    · subst hjp;rw [dY (by simpa using hplt)] at hj
      cases hj;exact .inr ⟨rfl,rfl⟩
    · rw [iV (Ne.symm hjp)] at hj;by_cases hjk : j = k
      · subst hjk;rw [cK] at hj;simp only [if_true] at hj;split at hj
        · cases hj;exact absurd rfl hg
        · cases hj
      · rw [iV (Ne.symm hjk)] at hj;exact .inl ⟨hjp,hjk,hj⟩
  refine ⟨⟨fun j hj => ?_,fun j u hu => ?_,fun j b hj => ?_,fun j b u hj hg hu => ?_,fun j j' b b' u u' hj hj' hg hg' hu hu' e => ?_,fun b1 hb1 => cC (g.stab b1 hb1) hext.size,g.ext.trans hext (fun _ h _ => h),g.st0,g.st1,by simpa using g.mle,fun j hj => by
      show (if j = pp then q else ρ j) = _
      rw [if_neg (by omega)];exact g.keep j hj,g.glob.later l⟩,l⟩
  · simp at hj;show (if j = pp then q else ρ j) = _
    rw [if_neg (by omega)];exact g.dom j (by omega)
  · by_cases hj : j = pp
    · simp only [hj,if_true] at hu;exact (hq u.1 u.2 hu).2.2.1
    · simp only [hj,if_false] at hu;exact cC (g.rng j u hu) hext.size
  · by_cases hbg : b = .gone
    · subst hbg;trivial
    · rcases hget hj hbg with ⟨h2,h3,h4⟩ | ⟨h2,h3⟩
      · show RB S w' _ (if j = pp then q else ρ j) _
        rw [if_neg h2];exact RB.later l (fun b1 o1 hp1 => hoth j _ h4 h3 hbg b1 o1 hp1) (g.blk j _ h4)
      · subst h2;show RB S w' _ (if j = j then q else ρ j) _
        rw [if_pos rfl,h3];exact v2
  · rcases hget hj hg with ⟨h2,h3,h4⟩ | ⟨h2,h3⟩
    · rw [if_neg h2] at hu;exact g.live j b u h4 hg hu
    · rw [if_pos h2] at hu;exact ⟨(hq u.1 u.2 hu).1,(hq u.1 u.2 hu).2.1⟩
  · rcases hget hj hg with ⟨h2,h3,h4⟩ | ⟨h2,h3⟩ <;> rcases hget hj' hg' with ⟨h2',h3',h4'⟩ | ⟨h2',h3'⟩
    · rw [if_neg h2] at hu;rw [if_neg h2'] at hu';exact g.inj j j' b b' u u' h4 h4' hg hg' hu hu' e
    · rw [if_neg h2] at hu;rw [if_pos h2'] at hu';exact absurd e ((hq u'.1 u'.2 hu').2.2.2 j b h4 h3 hg u.1 u.2 hu)
    · rw [if_neg h2'] at hu';rw [if_pos h2] at hu;exact absurd e.symm ((hq u.1 u.2 hu).2.2.2 j' b' h4' h3' hg' u'.1 u'.2 hu')
    · omega
section
variable {P : Program} {env : dD} {h : Hp}
variable {ty : TypeId} {pos : String} {af : Array Edge}
theorem sK (T : oA P) {t e k off len sz pp dd : Nat} {i : TI} {x y : Operand} {v : AV} {es news : List (List AV)} (hx : evu env x = some (.sl k off len sz)) (hy : evu env y = some v) (ht : T.elem t = some e) (he : T.ti e = some i) (hs : i.size = sz)
    (hkk : h[k]? = some (.arr es sz)) (hle : off + len ≤ es.length) (hn : jA h v news sz) (h1 : news.flatten.all AV.one = true) (hb : (len + news.length) * i.bytes ≤ 140737488355328) (h63 : len + news.length ≤ 9223372036854775807) :
    jT P ⟨some dd,.call { callee := .builtin .append,args := #[x,y],argTypes := #[t,t] },ty,pos,af,none⟩ env h pp k .gone (.sl pp 0 (len + news.length) sz) [.arr ((es.drop off).take len ++ news) sz] := by
  intro c ρ S a w H g p hbel hpp K' Q hK';have hKK := hbel k _ hkk (by simp)
  obtain ⟨hr0,hH0,hm0⟩ : ρ pp = none ∧ H[pp]? = some .gone ∧ c.m ≤ pp := by
    rcases hpp with h0 | h0
    · cases h0
    · exact h0
  have hpk : pp ≠ k := fun e => by rw [e,hKK] at hH0;cases hH0
  have hxv := p.evu hx;obtain ⟨a2,c2,zs,y1,y2,y3,y4,y5,y6,y7⟩ := qN p.blk (p.evu hy) hn;obtain ⟨inf,z,t1,t2,t3,t4,t5,t6,t7⟩ := T.tiOk e i he;have hone := E3 y6 h1;have hxe : jA h (.sl k off len sz) ((es.drop off).take len) sz := .sl hkk hle;obtain ⟨a1,c1,ys,x1,x2,x3,x4,x5,x6,x7⟩ := qN p.blk hxv hxe;have hlen : ((es.drop off).take len).length = len := by rw [bT,iM];omega
  rw [hlen] at x1 x2 x5 x7;have hB := p.blk k _ hkk;simp only [RB] at hB;obtain ⟨hes,hs0,hB⟩ := hB;have hnl : ∀ q,q ∈ news → q.length = sz := by
    cases hn with
    | sl hk2 _ =>
      have := p.blk _ _ hk2;simp only [RB] at this;exact fun q hq => this.1 q (hC (gB hq))
    | row h => exact h
    | nil => exact fun q hq => by cases hq
  have hall : ∀ q,q ∈ (es.drop off).take len ++ news → q.length = sz := fun q hq => by
    rcases bH.1 hq with hq | hq
    · exact hes q (hC (gB hq))
    · exact hnl q hq
  have ev1 : ∀ r w',(Builtin.append_ #[t,t] ty #[a.eval x,a.eval y]).run P w = .ok r w' → (execOp a.eval ⟨some dd,.call { callee := .builtin .append,args := #[x,y],argTypes := #[t,t] },ty,pos,af,none⟩).run P w = .ok (.value r) w' := fun r w' hr => by
    simp [execOp,resolve,invoke,builtin,hr]
  have fin : ∀ {r : Value} {w' : World} {q : Option (Nat × Nat)},(Builtin.append_ #[t,t] ty #[a.eval x,a.eval y]).run P w = .ok r w' → lM c.M w w' → (∀ j b,H[j]? = some b → j ≠ k → b ≠ .gone → ∀ b1 o1,ρ j = some (b1,o1) → w'.heap[b1]? = w.heap[b1]?) → (∀ b1,S b1 → w'.heap[b1]? = w.heap[b1]?) →
      (∀ b1 o1,q = some (b1,o1) → c.M b1 ∧ ¬ S b1 ∧ b1 < w'.heap.size ∧ ∀ j b,H[j]? = some b → j ≠ k → b ≠ .gone → ∀ b2 o2,ρ j = some (b2,o2) → b2 ≠ b1) →
      (hY ρ (fun j => if j = pp then q else ρ j) S S w w' → R S w' (.sl pp 0 (len + news.length) sz) (fun j => if j = pp then q else ρ j) r ∧ RB S w' (fun j => if j = pp then q else ρ j) q (.arr ((es.drop off).take len ++ news) sz)) →
      Oper.wp P ⟨some dd,.call { callee := .builtin .append,args := #[x,y],argTypes := #[t,t] },ty,pos,af,none⟩ a w K' Q := fun {r w' q} hr hext hoth hst hq hval => by
    unfold Oper.wp;rw [ev1 r w' hr];obtain ⟨g1,g2⟩ := g.moved hpk hH0 hr0 hm0 hext hoth hst hq (fun l => (hval l).2);exact hK' _ _ _ _ g1 g2 (hval g2).1 (fun j hj => if_neg (hj (by simp)))
  have hoth0 : ∀ (w' : World) (b0 : Nat),(∀ x,x ≠ b0 → w'.heap[x]? = w.heap[x]?) → (∃ o,ρ k = some (b0,o)) → (∀ j b,H[j]? = some b → j ≠ k → b ≠ .gone → ∀ b1 o1,ρ j = some (b1,o1) → w'.heap[b1]? = w.heap[b1]?) ∧ (∀ b1,S b1 → w'.heap[b1]? = w.heap[b1]?) := fun w' b0 hw ⟨o,ho⟩ =>
    ⟨fun j b hj hjk hg b1 o1 h1 => hw b1 (fun e => hjk (g.inj j k b _ _ _ hj hKK hg (by simp) h1 ho e)),fun b1 hb1 => hw b1 (fun e => (g.live k _ _ hKK (by simp) ho).2 (e ▸ hb1))⟩
  have hxy : a.eval x = .slice a1 len c1 ∧ a.eval y = .slice a2 news.length c2 := ⟨x1,y1⟩;by_cases hroom : len + news.length ≤ c1
  · by_cases hm : news.length = 0
    · -- nothing is appended
      have hnews : news = [] := cF hm;subst hnews;have hr := xA (P := P) (w := w) (t := t) (ty := ty) (a2 := a2) (c2 := c2) (T.elemOk _ _ ht) t1 (a := a1) x2;simp only [R] at hxv;obtain ⟨a1',c1',e1,e2,e3⟩ := hxv;rw [x1] at e1;cases e1;refine fin (q := (ρ k).map fun q => (q.1,q.2 + off * sz)) (by rw [hxy.1,hxy.2];exact hr) (lM.refl _ _) (fun _ _ _ _ _ _ _ _ => rfl) (fun _ _ => rfl) (fun b1 o1 hq => ?_) (fun l => ⟨?_,?_⟩)
      · obtain ⟨⟨b2,o2⟩,h2,h3⟩ := bX.1 hq;cases h3;obtain ⟨m1,m2⟩ := g.live k _ _ hKK (by simp) h2
        exact ⟨m1,m2,g.rng k _ h2,fun j b hj hjk hg b3 o3 h3 e => hjk (g.inj j k b _ _ _ hj hKK hg (by simp) h3 h2 e)⟩
      · simp only [R];refine ⟨a1,c1,rfl,e2,?_⟩;rcases e3 with e3 | ⟨b,o,f1,f2,f3,f4⟩
        · exact .inl e3
        · exact .inr ⟨b,o + off * sz,by simp [f1],by simpa using f2,f3,by
            have : o + off * sz + (0 + c1) * sz = o + (off + c1) * sz := by rw [Nat.zero_add,eL,eG]
            rw [this];exact f4⟩
      · simp only [RB,List.append_nil];refine ⟨fun q hq => hall q (by simpa using hq),hs0,?_⟩
        rcases hB with hB | ⟨b,o,ws,f1,⟨cc,ee,f2,f3⟩,f4⟩
        · left;obtain ⟨hB,hu⟩ := hB;subst hB;exact ⟨by simp,fun b o e => by obtain ⟨q,g1,g2⟩ := bX.1 e;cases g2;exact hu _ _ g1⟩
        · right;refine ⟨b,o + off * sz,(ws.drop (off * sz)).take (len * sz),by simp [f1],⟨cc,ee,f2,fun j u hj => ?_⟩,?_⟩
          · rw [bS] at hj;split at hj
            · rw [eR] at hj;rw [eG];exact f3 _ _ hj
            · cases hj
          · have := wY (H4 (f4.later l) (off * sz)) (len * sz)
            rwa [rU _ hes,rT _ (fun e he => hes e (hC he))] at this
    · -- there is room
      simp only [R] at hxv;obtain ⟨a1',c1',e1,e2,e3⟩ := hxv;rw [x1] at e1;cases e1;rcases e3 with ⟨e3,e4⟩ | ⟨b,o,f1,f2,f3,⟨cc,ee,fz,f4,f5⟩⟩
      · omega
      obtain rfl : fz = (0,0) := by
        rcases hB with ⟨_,hu⟩ | ⟨b3,o3,ws3,g1,⟨cc3,ee3,g2,_⟩,_⟩
        · obtain ⟨cc3,ee3,g2⟩ := hu _ _ f1;rw [f4] at g2;cases g2;rfl
        · rw [f1] at g1;cases g1;rw [f4] at g2;cases g2;rfl
      have hmul : (off + len) * sz + news.length * sz ≤ (off + c1) * sz := by rw [← eL];exact fN _ (by omega)
      have hfit : o + off * sz + len * inf.size + zs.length ≤ cc.size := by
        rw [t2,hs,y5];have : (off + len) * sz = off * sz + len * sz := eL _ _ _;omega
      have hr := zT (P := P) (w := w) (t := t) (ty := ty) (a2 := a2) (c2 := c2) (T.elemOk _ _ ht) t1 (b := b) (o := o + off * sz) (len := len) (cap := c1) (m := news.length) (by rw [t2,hs];exact y5) y7 hone f4 hroom hfit
      rw [t2,hs] at hr hfit;have hyl : ys.length = len * sz := x5;have hx8 : len = 0 ∨ ∃ b o,a1 = some ⟨b,o,none⟩ ∧ lies w b o ys := x7;have hcs : ((cc.toList.take (o + off * sz + len * sz) ++ zs ++ cc.toList.drop (o + off * sz + len * sz + zs.length)).toArray).size = cc.size := by
        simp only [vW,aB,bT,iM,fJ];omega
      have hnew := setRow_heap w b cc (cc.toList.take (o + off * sz + len * sz) ++ zs ++ cc.toList.drop (o + off * sz + len * sz + zs.length)).toArray ee (0,0) f4;obtain ⟨m1,m2⟩ := g.live k _ _ hKK (by simp) f1
      obtain ⟨o1,o2⟩ := hoth0 _ b (fun x hx => setRow_other w b x (cc.toList.take (o + off * sz + len * sz) ++ zs ++ cc.toList.drop (o + off * sz + len * sz + zs.length)).toArray hx) ⟨o,f1⟩;refine fin (q := some (b,o + off * sz)) (by rw [hxy.1,hxy.2,f2];exact hr) ((pB f4 hcs).mono fun x _ hx => by rw [hx];exact m1) o1 o2 (fun b1 o1 hq => ?_) (fun l => ⟨?_,?_⟩)
      · cases hq;exact ⟨m1,m2,(aR.1 hnew).1,fun j b hj hjk hg b3 o3 h3 e => hjk (g.inj j k b _ _ _ hj hKK hg (by simp) h3 f1 e)⟩
      · simp only [R];refine ⟨_,c1,rfl,e2,.inr ⟨b,o + off * sz,by simp,by simp,hroom,_,ee,_,hnew,?_⟩⟩
        rw [hcs,Nat.zero_add];have : (off + c1) * sz = off * sz + c1 * sz := eL _ _ _;omega
      · simp only [RB];refine ⟨hall,hs0,.inr ⟨b,o + off * sz,ys ++ zs,rfl,⟨_,ee,hnew,fun j u hj => ?_⟩,?_⟩⟩
        · rw [kZ];by_cases hj1 : j < ys.length
          · rw [aG hj1] at hj;rcases hx8 with h0 | ⟨b',o',g1,⟨c',e',fz,g2,g3⟩⟩
            · subst h0;simp at hyl;omega
            rw [f2] at g1;cases g1;rw [f4] at g2;cases g2;rw [aY,aG (by simp;omega),bS,if_pos (by omega)]
            simpa using g3 j u hj
          · rw [aE (by omega)] at hj
            have hj2 := (aA.1 hj).1;rw [aG (by simp;omega),aE (by simp;omega),← hj]
            congr 1;simp only [bT,fJ];omega
        · rw [gQ];exact fC (x6.later l) (y6.later l)
  · -- a new row
    have hr := sN (P := P) (w := w) (t := t) (ty := ty) (c2 := c2) (a := a1) (len := len) (cap := c1) (m := news.length) (T.elemOk _ _ ht) t1 t4 (by rw [t2,hs];exact x5) x7 (by rw [t2,hs];exact y5) y7 (by omega) (by rw [t3];exact hb) h63
    have hgc := grownCap_ge w (len + news.length) c1 e;have hgm := grownCap_le_maxLen w (len + news.length) c1 e (by simp only [maxLen];omega)
    have hzs : z.cells.size = sz := by rw [← hs,← t6,← t5];simp
    obtain ⟨g1,g2⟩ := uD hzs x5 y5 hgc;have hnew : (w.drew.alloc (.cells (ys.toArray ++ zs.toArray ++ Builtin.zeroCells z.cells (grownCap w (len + news.length) c1 e - (len + news.length))) e)).heap[w.heap.size]? = some (.cells _ e (0,0)) := heap_alloc_new w.drew _;have hold : ∀ b1,b1 < w.heap.size → (w.drew.alloc (.cells (ys.toArray ++ zs.toArray ++ Builtin.zeroCells z.cells (grownCap w (len + news.length) c1 e - (len + news.length))) e)).heap[b1]? = w.heap[b1]? := fun b1 hb1 => RowKit.Below.heap_alloc w.drew _ b1 hb1
    refine fin (q := some (w.heap.size,0)) (by rw [hxy.1,hxy.2];exact hr) ((lM.drew1 w).trans (lY w.drew _ c.M) (fun _ h _ => h)) (fun j b hj hjk hg b1 o1 h2 => hold b1 (g.rng j _ h2)) (fun b1 hb1 => hold b1 (g.stab b1 hb1)) (fun b1 o1 hq => ?_) (fun l => ⟨?_,?_⟩)
    · cases hq;refine ⟨c.new _ g.ext.size,fun hS => ?_,by simp,fun j b hj hjk hg b2 o2 h2 e => ?_⟩
      · have := g.stab _ hS;omega
      · have := g.rng j _ h2;simp at this;omega
    · simp only [R];exact ⟨_,_,rfl,hgm,.inr ⟨w.heap.size,0,by simp,by simp,hgc,_,e,_,hnew,by rw [Nat.zero_add,Nat.zero_add];exact g1⟩⟩
    · simp only [RB];refine ⟨hall,hs0,.inr ⟨w.heap.size,0,ys ++ zs,rfl,⟨_,e,hnew,fun j u hj => by rw [Nat.zero_add];exact g2 j u hj⟩,?_⟩⟩
      rw [gQ];exact fC (x6.later l) (y6.later l)
theorem O8 {pt it e k dd pp : Nat} {x y : Operand} {l : List UInt8} {m : Int} (hp : P.underlying pt = some (.pointer e)) (hc : P.cellsOf e = 1)
    (hx : evu env x = some (.ep k 0 0 1)) (hy : evu env y = some (.i m)) (hm : m = l.length) (hl : l ≠ []) (h63 : l.length ≤ 9223372036854775807) (hk : h[k]? = some (.buf e l)) :
    jT P ⟨some dd,.call { callee := .builtin .unsafeString,args := #[x,y],argTypes := #[pt,it] },ty,pos,af,none⟩ env h pp k .gone (.s l) [] := by
  subst hm;intro c ρ S a w H g p hbel _ K' Q hK';have h1 := p.evu hx;simp only [R] at h1;obtain ⟨b,o,h2,h3⟩ := h1;have h4 := pZ (p.evu hy);rcases p.blk k _ hk with ⟨h5,_⟩ | ⟨b',cc,g1,g2,g3⟩
  · exact absurd h5 hl
  rw [h2] at g1;obtain ⟨rfl,rfl⟩ : b = b' ∧ o = 0 := by simpa using g1
  have hlen : l.length ≤ cc.size := by
    have hpos := jK.2 hl;have := g3 (l.length - 1) (l[l.length - 1]'(by omega)) (aC _)
    have := (aR.1 this).1;omega
  have hr := Go.Lib.run_unsafeString_row (P := P) w pt it ty e hp hc b cc.size (by simp [World.shape?,g2]) l hl hlen h63 (fun j x hj => by
    have : ((⟨b,0,none⟩ : Addr).add j) = ⟨b,0 + j,none⟩ := Addr.add_lit ..;rw [this]
    simp [World.cell?,g2,g3 j x hj])
  unfold Oper.wp;have hev : (execOp a.eval ⟨some dd,.call { callee := .builtin .unsafeString,args := #[x,y],argTypes := #[pt,it] },ty,pos,af,none⟩).run P w = .ok (.value (.string ⟨l.toArray⟩)) (w.freeze ⟨b,0,none⟩ l.length) := by
    have h3' : a.eval x = .pointer (some ⟨b,0,none⟩) := by rw [h3]
    simp [execOp,resolve,invoke,builtin,h3',h4,hr]
  rw [hev];have hl0 : l.length ≠ 0 := by simpa using hl
  obtain ⟨ff,hfz,hff⟩ : ∃ ff : Obj → Obj,(w.freeze ⟨b,0,none⟩ l.length).heap = w.heap.modify b ff ∧ ∀ c e fz,∃ fz',ff (.cells c e fz) = .cells c e fz' := by
    unfold World.freeze;rw [if_neg hl0];exact ⟨fun | .cells c elem (lo,hi) => .cells c elem (if lo == hi then (0,0 + l.length) else (min lo 0,max hi (0 + l.length))) | o => o,rfl,fun c e fz => ⟨if fz.1 == fz.2 then (0,0 + l.length) else (min fz.1 0,max fz.2 (0 + l.length)),rfl⟩⟩
  have hext : lM (fun x => x = b) w (w.freeze ⟨b,0,none⟩ l.length) := by
    have ho : ∀ x,x ≠ b → (w.freeze ⟨b,0,none⟩ l.length).heap[x]? = w.heap[x]? := fun x hx => by rw [hfz];exact E6 hx
    have hf : ∀ {α : Type} (f : World → α),(∀ w h',f { w with heap := h' } = f w) → f (w.freeze ⟨b,0,none⟩ l.length) = f w := fun f hf => by
      unfold World.freeze;rw [if_neg hl0];exact hf _ _
    refine ⟨hf (·.os) (fun _ _ => rfl),hf (·.tape) (fun _ _ => rfl),hf (·.output) (fun _ _ => rfl),by rw [hfz,Array.size_modify];exact aU _,fun x _ hx => ho x hx,fun x c0 ee fz hcc => ?_⟩
    by_cases hx : x = b
    · subst hx;rw [g2] at hcc;cases hcc;obtain ⟨fz',hz'⟩ := hff cc e (0,0);exact ⟨cc,fz',by rw [hfz,BW g2,hz'],rfl⟩
    · exact ⟨c0,fz,by rw [ho x hx];exact hcc,rfl⟩
  obtain ⟨g4,g5⟩ := g.upd (nb := .gone) (hbel k _ hk (by simp)) (by simp) h2 hext (fun _ => trivial)
  exact hK' _ _ _ _ g4 g5 (by simp [R]) (fun _ _ => rfl)
theorem pM {n : Nat × Nat} {Q : Exit → dD → Hp → Prop} {id : Nat} {l : List Oper} (k : Nat) (pres : List (List Nat)) (ds : List Nat) (bads : List (List Nat)) (ss : List (Nat × Nat)) (hm : P.follows .mixedOrders = true) (hn : n.1 = k) (hok : iF l pres ds bads ss k = true)
    (hv : QG P n l pres ds bads ss (eF ds env) h 0 (eF ds env) [] [] (fun v h => Q .normal v h)) (hndf : mZ l = true := by rfl) : AW P n (.region id l.toArray true) env h Q := UQ pres ds bads ss hm (by rw [hn];exact hok) hv hndf
end
section
variable {P : Program} {n : Nat × Nat} {ops : Array Oper} {rest : List Oper} {env : dD} {h : Hp} {K : dD → Hp → Prop}
variable {d : Option Nat} {ty : TypeId} {pos : String} {af : Array Edge}
theorem eU {x : Operand} {f : FuncId} {fs cs us : List AV} {args : List Operand} {ats : Array TypeId} {Φ : AV → Hp → Prop} (hx : evu env x = some (.clo (.func f) fs cs)) (ha : EB env args = some us)
    (hc : eO P f (fs ++ us ++ cs) h Φ) (hd : J5 d n = true)
    (hk : ∀ res hout,Φ res hout → VC P n ops rest (fR d res env) hout K) :
    VC P n ops (⟨d,.call { callee := .value x,args := args.toArray,argTypes := ats },ty,pos,af,none⟩ :: rest) env h K := by
  intro c ρ S a w Q s hQ;refine wpList_plain rfl fun K' hK' => ?_
  have p := s.pre;have hxv := p.evu hx;simp only [R] at hxv;obtain ⟨ys,zs,e1,h1,h2⟩ := hxv;have hargs : RL S w (fs ++ us ++ cs) ρ (ys.toList ++ args.map a.eval ++ zs.toList) := fC (fC h1 (nU p ha)) h2;obtain ⟨hf,hc⟩ := hc;have hs0 : HS (iY w ρ S h) ρ S h w := ⟨s.hs.dom,s.hs.rng,s.hs.blk,fun k b q hb hg hq => ⟨.inr ⟨k,b,q.2,hb,hg,hq⟩,(s.hs.live k b q hb hg hq).2⟩,s.hs.inj,s.hs.stab,lM.refl _ _,fun _ h => h,fun _ h => .inl h,aU _,fun _ _ => rfl,s.hs.glob⟩
  have hcall := hc ρ S w _ hs0 hargs;unfold Oper.wp;have hrun : (execOp a.eval ⟨d,.call { callee := .value x,args := args.toArray,argTypes := ats },ty,pos,af,none⟩).run P w = .ok (.enter f (ys.toList ++ args.map a.eval ++ zs.toList).toArray) w := by
    have e2 : (ys ++ (args.toArray.map a.eval) ++ zs) = (ys.toList ++ args.map a.eval ++ zs.toList).toArray := by
      apply Array.ext';simp
    simp only [execOp,resolve,e1,Deferred.ofValue,Sem.run_bind,Sem.run_pure,Result.andThen_ok,invoke];rw [e2];exact oL hf
  rw [hrun];simp only [Oper.upon];refine hcall.mono ?_;rintro e w' ⟨res,hout,hΦ,y,ρ',S',rfl,hs,hy⟩;simp only;refine hK' _ _ (hk res hout hΦ c ρ' S' _ w' Q ?_ hQ);have hcM : ∀ b,(iY w ρ S h).M b → c.M b := fun b hb => by
    rcases hb with hb | ⟨k,x,o,hb,hg,hp⟩
    · exact c.new b (cQ s.hs.ext.size hb)
    · exact (s.hs.live k x _ hb hg hp).1
  have stM : ∀ b,S b → ¬ (iY w ρ S h).M b := fun b hb hm => by
    rcases hm with hm | ⟨k,x,o,h3,hg,hp⟩
    · have := s.hs.stab b hb;omega
    · exact (s.hs.live k x _ h3 hg hp).2 hb
  have keep : ∀ k,k < h.length → ρ' k = ρ k := fun k hk => hs.keep k hk
  have l : hY ρ ρ' S S' w w' := by
    refine ⟨fun k q hq => ?_,hs.st0,fun b hb => hs.ext.same b (s.hs.stab b hb) (stM b hb),fun _ _ _ _ _ hr => hs.ext.room hr⟩
    have hlt : k < h.length := by
      rcases gP k h.length with h3 | h3
      · exact h3
      · rw [s.hs.dom k h3] at hq;cases hq
    rw [keep k hlt];exact hq
  have hml : h.length ≤ hout.length := hs.mle;refine ⟨by rw [iS];exact s.size,by rw [fT];exact s.defers.later l,nA s.size hd (fun t u hu => (s.env t u hu).later l) hy,?_,s.cm⟩
  refine ⟨hs.dom,hs.rng,hs.blk,fun k b q hb hg hq => ⟨hcM _ (hs.live k b q hb hg hq).1,(hs.live k b q hb hg hq).2⟩,hs.inj,hs.stab,s.hs.ext.trans hs.ext (fun b hb hlt => hcM b hb),fun b hb => hs.st0 b (s.hs.st0 b hb),fun b hb => ?_,cQ s.hs.mle hml,fun k hk => ?_,hs.glob⟩
  · rcases hs.st1 b hb with h3 | h3
    · exact s.hs.st1 b h3
    · exact .inr (hcM b h3)
  · rw [keep k (cC hk s.hs.mle)];exact s.hs.keep k hk
end
section
variable {P : Program} {env : dD} {h : Hp} {d : Option Nat} {ty : TypeId} {pos : String} {af : Array Edge} {g : Option (Nat × Bool)}
def VW (o : Hp) : Prop := ∀ b,b ∈ o → b = .gone ∨ b.rf = true
def VH (z : AV) (r : AV) (o : Hp) : Prop := r.rf = true ∧ VW o ∧ View o r z
theorem sF {x : Operand} {f : FuncId} {fs cs us xs : List AV} {args : List Operand} {ats : Array TypeId} {z : AV} (hx : evu env x = some (.clo (.func f) fs cs)) (ha : EB env args = some us)
    (hc : eO P f xs [] (VH z)) (hv : iH h (fs ++ us ++ cs) xs) :
    bJ P ⟨d,.call { callee := .value x,args := args.toArray,argTypes := ats },ty,pos,af,g⟩ env h 0 (fun _ => z) (fun _ => []) := by
  intro ρ S a w p q hq K Q hk;have hxv := p.evu hx;simp only [R] at hxv;obtain ⟨ys,zs,e1,h1,h2⟩ := hxv;have hall : RL S w (fs ++ us ++ cs) ρ (ys.toList ++ args.map a.eval ++ zs.toList) := fC (fC h1 (nU p ha)) h2;obtain ⟨hf,hc⟩ := hc;have hargs := jY p.blk hv hall;have hS1w : ∀ b,(S b ∨ iN h ρ b) → b < w.heap.size := fun b hb => by
    rcases hb with hb | ⟨k,x,o,_,_,hb⟩
    · exact p.stab b hb
    · exact p.rng k _ hb
  have hs0 : HS (iY w (fun _ => none) (fun b => S b ∨ iN h ρ b) []) (fun _ => none) (fun b => S b ∨ iN h ρ b) [] w := ⟨fun _ _ => rfl,(fun _ _ h => by cases h),(fun k b hb => by simp at hb),(fun k b p hb => by simp at hb),(fun k _ b _ _ _ hb => by simp at hb),hS1w,lM.refl _ _,fun _ h => h,fun _ h => .inl h,aU _,(fun _ h => by simp [iY] at h),p.glob.st fun _ h => .inl h⟩
  have hcall := hc (fun _ => none) (fun b => S b ∨ iN h ρ b) w _ hs0 hargs;unfold Oper.wp;have hrun : (execOp a.eval ⟨d,.call { callee := .value x,args := args.toArray,argTypes := ats },ty,pos,af,g⟩).run P w = .ok (.enter f (ys.toList ++ args.map a.eval ++ zs.toList).toArray) w := by
    have e2 : (ys ++ (args.toArray.map a.eval) ++ zs) = (ys.toList ++ args.map a.eval ++ zs.toList).toArray := by
      apply Array.ext';simp
    simp only [execOp,resolve,e1,Deferred.ofValue,Sem.run_bind,Sem.run_pure,Result.andThen_ok,invoke];rw [e2];exact oL hf
  rw [hrun];simp only [Oper.upon];refine hcall.mono ?_;rintro e w' ⟨res,hout,⟨hrf,harf,hvw⟩,y,ρ',S',rfl,hs,hy⟩;simp only;have hM : ∀ b,(iY w (fun _ => none) (fun b => S b ∨ iN h ρ b) []).M b → w.heap.size ≤ b := fun b hb => by
    rcases hb with hb | ⟨k,x,o,hb,_⟩
    · exact hb
    · simp at hb
  have hext : lM (fun _ => False) w w' := hs.ext.mono fun b hb hm => by have := hM b hm;simp [iY] at hb;omega
  have hb0 : ∀ (k : Nat) b,hout[k]? = some b → RB S w' ρ' (ρ' k) b := fun k b hb => by
    rcases harf b (aJ hb) with hg | hg
    · subst hg;trivial
    · exact NP hg (hs.blk k b hb)
  have hy0 : R S w' res ρ' y := IQ ρ' _ _ hrf hy;have hz := Q4 hb0 hvw hy0;refine hk y ρ (fun b => S b ∨ iN hout ρ' b) w' ⟨hext,rfl,fun _ _ => rfl,fun _ h => .inl h,fun b hb => ?_,fun k r h1 h2 => by omega,fun k k' r r' h1 h2 => by omega,?_,fun j b hb => by simp at hb⟩
  · rcases hb with hb | ⟨k,b',o,h3,h4,h5⟩
    · exact .inl hb
    · exact .inr ⟨hM _ (hs.live k _ _ h3 h4 h5).1,hs.rng k _ h5⟩
  · exact lD (fun _ h => h) (fun _ _ => rfl) z (fun _ => none) ρ y (fun _ _ h => nomatch h) (fun _ _ _ _ h => nomatch h) hz
end
end Go.Ab
namespace Go.Or
abbrev Wt := Int × Int × Int
abbrev Tk := Int × Int
abbrev Lo := Int × Int × Bool
abbrev Bo := Int × Int × Int
structure Od where
  ws : List Wt
  due : Int
  st : Int
  tk : List (List Tk)
  deriving DecidableEq
abbrev Bk := List Od
def kU (w : Wt) : Bool := decide (w.1 < 0) || (decide (w.2.1 < 1) || (decide (20000 < w.2.1) || (decide (w.2.2 < 0) || decide (20000 < w.2.2))))
def iW (ws : List Wt) (due : Int) : Bool := !(decide (ws.length < 1) || (decide (20 < ws.length) || (decide (due < 0) || decide (20000 < due)))) && !(ws.any kU)
def eW : List Tk → Int → Int
  | [],_ => 0
  | t :: l,b => (if t.1 = b then t.2 else 0) + eW l b
theorem kV : ∀ (l m : List Tk) (b : Int), eW (l ++ m) b = eW l b + eW m b
  | [],m,b => by simp [eW]
  | t :: l,m,b => by simp only [List.cons_append,eW,kV l m b];omega
def jO (bk : Bk) : List Tk := bk.flatMap fun o => o.tk.flatten
def lO (bk : Bk) (b : Int) : Int := eW (jO bk) b
theorem wF : ∀ {l : List Tk} {b : Int}, (∀ t, t ∈ l → 1 ≤ t.2) → 0 ≤ eW l b
  | [],_,_ => uM _
  | t :: l,b,h => by
    have := wF (l := l) (b := b) fun u hu => h u (aF _ hu);have h1 := h t aL;simp only [eW];split <;> omega
theorem uZ : ∀ {l : List Tk} {b : Int}, (∀ t, t ∈ l → t.1 ≠ b) → eW l b = 0
  | [],_,_ => rfl
  | t :: l,b,h => by
    simp only [eW];rw [if_neg (h t aL),uZ fun u hu => h u (aF _ hu)];rfl
def gY (bk : Bk) (sure : List Bo) : List Bo := sure.mapIdx fun i b => (b.1,max 0 (b.2.1 - lO bk i),b.2.2)
theorem kE (bk : Bk) (sure : List Bo) : (gY bk sure).length = sure.length := by simp [gY]
def CN (l : Lo) (w : Wt) : Bool := decide (l.1 = w.1) && (!l.2.2 && decide (w.2.2 ≤ l.2.1))
def lJ (ls : List Lo) (b : Bo) (w : Wt) : Bool := decide (0 ≤ b.1) && CN (ls.getD b.1.toNat (0,0,false)) w
def cnt (bs : List Bo) (i : Int) : Int := (bs.getD i.toNat (0,0,0)).2.1
def rS (ls : List Lo) (bs : List Bo) (i : Int) : Int := (ls.getD (bs.getD i.toNat (0,0,0)).1.toNat (0,0,false)).2.1
def mS (k : Int → Int) (x : Int) : List Int → List Int
  | [] => [x]
  | y :: l => if k x < k y then x :: y :: l else y :: mS k x l
def jZ (k : Int → Int) (l : List Int) : List Int := l.foldl (fun a x => mS k x a) []
def zP (n : Nat) : List Int := (List.range n).map fun (i : Nat) => (i : Int)
def oK (ls : List Lo) (bs : List Bo) (w : Wt) (n : Nat) : List Int := (zP n).filter fun i => decide (0 < cnt bs i) && lJ ls (bs.getD i.toNat (0,0,0)) w
def oH (ls : List Lo) (bs : List Bo) (w : Wt) : List Int := jZ (rS ls bs) (oK ls bs w bs.length)
def qE (bs : List Bo) (i : Int) (n : Int) : List Bo := bs.set i.toNat ((bs.getD i.toNat (0,0,0)).1,cnt bs i - n,(bs.getD i.toNat (0,0,0)).2.2)
def mY : List Int → List Bo → Int → List Tk × List Bo × Int
  | [],left,need => ([],left,need)
  | i :: l,left,need => if min need (cnt left i) = 0 then ([],left,need) else
      ((i,min need (cnt left i)) :: (mY l (qE left i (min need (cnt left i))) (need - min need (cnt left i))).1,(mY l (qE left i (min need (cnt left i))) (need - min need (cnt left i))).2)
def qF (ls : List Lo) : List Bo → List Wt → Option (List (List Tk))
  | _,[] => some []
  | left,w :: ws => if 0 < (mY (oH ls left w) left w.2.1).2.2 then none else (qF ls (mY (oH ls left w) left w.2.1).2.1 ws).map ((mY (oH ls left w) left w.2.1).1 :: ·)
def oM (ls : List Lo) (bs : List Bo) (ws : List Wt) : Int × List (List Tk) :=
  if ws.any kU then (1, []) else match qF ls bs ws with
    | none => (22,[])
    | some t => (0,t)
def jC : Od := ⟨[],0,0,[]⟩
def kB (bk : Bk) (no : Int) (ss : List Int) : Int := if no < 0 ∨ (bk.length : Int) ≤ no then 4 else if (bk.getD no.toNat jC).st ∈ ss then 0 else 7
def wQ (bk : Bk) (ws : List Wt) (due : Int) : (Int × Int) × Bk :=
  if !iW ws due then ((0,1),bk) else if 1000 ≤ bk.length then ((0,6),bk) else ((bk.length,0),bk ++ [⟨ws,due,0,[]⟩])
def qU (ls : List Lo) (sure : List Bo) (bk : Bk) (no : Int) : Int × Bk :=
  if kB bk no [0] ≠ 0 then (kB bk no [0],bk) else
  if (oM ls (gY bk sure) (bk.getD no.toNat jC).ws).1 ≠ 0 then ((oM ls (gY bk sure) (bk.getD no.toNat jC).ws).1,bk) else
  (0,bk.set no.toNat { bk.getD no.toNat jC with st := 1,tk := (oM ls (gY bk sure) (bk.getD no.toNat jC).ws).2 })
def gO (b : Int) : Int → List Tk → Int × List Tk
  | n,[] => (n,[])
  | n, t :: l => if t.1 = b then ((gO b (n - min n t.2) l).1, if t.2 - min n t.2 = 0 then (gO b (n - min n t.2) l).2 else (t.1, t.2 - min n t.2) :: (gO b (n - min n t.2) l).2)
      else ((gO b n l).1,if t.2 = 0 then (gO b n l).2 else t :: (gO b n l).2)
def kW (b : Int) : Int → List (List Tk) → List (List Tk)
  | _,[] => []
  | n,l :: r => (gO b n l).2 :: kW b (gO b n l).1 r
def qJ (o : Od) (body n tick : Int) : Od :=
  if (kW body n o.tk).all (·.isEmpty) then { o with tk := [],st := if tick ≤ o.due then 2 else 3 } else { o with tk := kW body n o.tk }
def mC (bk : Bk) (no body n tick : Int) : Int × Bk :=
  if kB bk no [1] ≠ 0 then (kB bk no [1],bk) else
  if n < 1 then (1,bk) else
  if eW (bk.getD no.toNat jC).tk.flatten body < n then (22,bk) else
  (0,bk.set no.toNat (qJ (bk.getD no.toNat jC) body n tick))
def rG (bk : Bk) (no st : Int) (ss : List Int) : Int × Bk :=
  if kB bk no ss ≠ 0 then (kB bk no ss,bk) else (0,bk.set no.toNat { bk.getD no.toNat jC with st := st,tk := [] })
structure Op where
  d : Int
  no : Int
  b : Int
  n : Int
  t : Int
  ws : List Wt
def Z4 (ls : List Lo) (sure : List Bo) (bk : Bk) (o : Op) : (Int × Int) × Bk :=
  if o.d = 0 then wQ bk o.ws o.t else
  if o.d = 1 then ((0,(qU ls sure bk o.no).1),(qU ls sure bk o.no).2) else
  if o.d = 2 then ((0,(mC bk o.no o.b o.n o.t).1),(mC bk o.no o.b o.n o.t).2) else
  if o.d = 3 then ((0,(rG bk o.no 4 [0,1]).1),(rG bk o.no 4 [0,1]).2) else
  if o.d = 4 then ((0,(rG bk o.no 3 [1]).1),(rG bk o.no 3 [1]).2) else ((0,0),bk)
def EY (t : Tk) : Prop := 0 ≤ t.1 ∧ t.1 < 3000 ∧ 1 ≤ t.2 ∧ t.2 ≤ 20000
def jB (l : List Tk) : Int := (l.map (·.2)).sum
structure pC (o : Od) : Prop where
  ws : iW o.ws o.due = true
  st0 : 0 ≤ o.st
  st4 : o.st ≤ 4
  tk0 : o.st ≠ 1 → o.tk = []
  len : o.st = 1 → o.tk.length = o.ws.length
  ok : ∀ l,l ∈ o.tk → ∀ t,t ∈ l → EY t
  sum : ∀ (i : Nat) (w : Wt) (l : List Tk),o.ws[i]? = some w → o.tk[i]? = some l → jB l ≤ w.2.1
  ne : o.st = 1 → o.tk.flatten ≠ []
structure oS (bk : Bk) : Prop where
  le : bk.length ≤ 1000
  od : ∀ o,o ∈ bk → pC o
theorem oS.nil : oS [] := ⟨by decide,fun o h => by cases h⟩
theorem F4 {k : Int → Int} {x : Int} : ∀ {l : List Int} {y : Int}, y ∈ mS k x l ↔ y = x ∨ y ∈ l
  | [],y => by simp [mS]
  | z :: l,y => by
    unfold mS;split
    · simp
    · simp only [aT,F4 (l := l)];constructor
      · rintro (h | h | h)
        · exact .inr (.inl h)
        · exact .inl h
        · exact .inr (.inr h)
      · rintro (h | h | h)
        · exact .inr (.inl h)
        · exact .inl h
        · exact .inr (.inr h)
theorem CK {k : Int → Int} : ∀ {l a : List Int} {y : Int}, y ∈ l.foldl (fun a x => mS k x a) a ↔ y ∈ a ∨ y ∈ l
  | [],a,y => by simp
  | x :: l,a,y => by
    rw [lQ,CK,F4,aT];constructor
    · rintro ((h | h) | h)
      · exact .inr (.inl h)
      · exact .inl h
      · exact .inr (.inr h)
    · rintro (h | h | h)
      · exact .inl (.inr h)
      · exact .inl (.inl h)
      · exact .inr h
theorem sC {k : Int → Int} {l : List Int} {y : Int} : y ∈ jZ k l ↔ y ∈ l := by
  unfold jZ;rw [CK];simp
theorem HB {k : Int → Int} {x : Int} : ∀ {l : List Int}, (mS k x l).length = l.length + 1
  | [] => rfl
  | z :: l => by unfold mS;split <;> simp [HB (l := l)]
theorem CL {k : Int → Int} : ∀ {l a : List Int}, (l.foldl (fun a x => mS k x a) a).length = a.length + l.length
  | [],a => by simp
  | x :: l,a => by rw [lQ,CL,HB,List.length_cons];omega
theorem vA {k : Int → Int} {l : List Int} : (jZ k l).length = l.length := by
  unfold jZ;rw [CL];simp
theorem vI {n : Nat} {i : Int} : i ∈ zP n ↔ 0 ≤ i ∧ i < n := by
  unfold zP;rw [aK];constructor
  · rintro ⟨a,ha,rfl⟩;rw [mO] at ha;exact ⟨by omega,by omega⟩
  · rintro ⟨h1,h2⟩;exact ⟨i.toNat,by rw [mO];omega,by omega⟩
theorem sT {ls : List Lo} {bs : List Bo} {w : Wt} {i : Int} : i ∈ oH ls bs w ↔ (0 ≤ i ∧ i < bs.length) ∧ 0 < cnt bs i ∧ lJ ls (bs.getD i.toNat (0,0,0)) w = true := by
  unfold oH oK;rw [sC,tR,vI];simp
theorem R2 {ls : List Lo} {bs : List Bo} {w : Wt} {n : Nat} : (oK ls bs w n).length ≤ n := by
  unfold oK;refine cQ (xG _ _) ?_;simp [zP]
theorem GN {ls : List Lo} {bs : List Bo} {w : Wt} : (oH ls bs w).length ≤ bs.length := by
  unfold oH;rw [vA];exact R2
theorem vR {bs : List Bo} {i n : Int} : (qE bs i n).length = bs.length := by simp [qE]
theorem IE {bs : List Bo} {i n : Int} (hi : 0 ≤ i) (hl : i < bs.length) {j : Int} (hj : 0 ≤ j) : (qE bs i n).getD j.toNat (0,0,0) = if j = i then ((bs.getD i.toNat (0,0,0)).1,cnt bs i - n,(bs.getD i.toNat (0,0,0)).2.2) else bs.getD j.toNat (0,0,0) := by
  unfold qE;rw [aD,cK];by_cases h : j = i
  · subst h;rw [if_pos rfl,if_pos rfl,if_pos (by omega)]
    rfl
  · rw [if_neg (by omega),if_neg h,← aD]
theorem vS {bs : List Bo} {i n : Int} (hi : 0 ≤ i) (hl : i < bs.length) {j : Int} (hj : 0 ≤ j) : cnt (qE bs i n) j = if j = i then cnt bs i - n else cnt bs j := by
  unfold cnt;rw [IE hi hl hj];split <;> rfl
theorem vQ {bs : List Bo} {i n : Int} (hi : 0 ≤ i) (hl : i < bs.length) {j : Int} (hj : 0 ≤ j) : ((qE bs i n).getD j.toNat (0,0,0)).1 = (bs.getD j.toNat (0,0,0)).1 := by
  rw [IE hi hl hj];split
  · rename_i h;rw [h]
  · rfl
structure zG0 (l : List Int) (left : List Bo) (need : Int) (r : List Tk × List Bo × Int) : Prop where
  mem : ∀ t,t ∈ r.1 → t.1 ∈ l ∧ 1 ≤ t.2
  need : r.2.2 = need - jB r.1
  nn : 0 ≤ r.2.2
  len : r.2.1.length = left.length
  cnt : ∀ b : Int,0 ≤ b → cnt r.2.1 b = cnt left b - eW r.1 b
  cnn : ∀ b : Int,0 ≤ b → 0 ≤ Go.Or.cnt r.2.1 b
  lot : ∀ b : Int,0 ≤ b → (r.2.1.getD b.toNat (0,0,0)).1 = (left.getD b.toNat (0,0,0)).1
theorem FJ : ∀ (l : List Int) (left : List Bo) (need : Int), (∀ i, i ∈ l → 0 ≤ i ∧ i < left.length) → 0 ≤ need → (∀ b : Int, 0 ≤ b → 0 ≤ cnt left b) → zG0 l left need (mY l left need)
  | [],left,need,_,h,h2 => ⟨fun t ht => by simp [mY] at ht,by simp [mY,jB],h,rfl,fun b hb => by simp [mY,eW],h2,fun b hb => rfl⟩
  | i :: l,left,need,hi,h,h2 => by
    unfold mY;split
    · rename_i h0;exact ⟨fun t ht => by simp at ht,by simp [jB],h,rfl,fun b hb => by simp [eW],h2,fun b hb => rfl⟩
    · rename_i h0;obtain ⟨i0,i1⟩ := hi i aL;have hc := h2 i i0;have hm : 1 ≤ min need (cnt left i) := by omega
      have ih := FJ l (qE left i (min need (cnt left i))) (need - min need (cnt left i)) (fun j hj => by rw [vR];exact hi j (aF _ hj)) (by omega) (fun b hb => by
        rw [vS i0 i1 hb];have := h2 b hb
        split <;> omega)
      generalize min need (cnt left i) = n at *;generalize mY l (qE left i n) (need - n) = r at *;refine ⟨fun t ht => ?_,?_,ih.nn,by rw [← vR (bs := left) (i := i) (n := n)];exact ih.len,fun b hb => ?_,ih.cnn,fun b hb => ?_⟩
      · rcases aT.1 ht with rfl | ht
        · exact ⟨aL,hm⟩
        · exact ⟨aF _ (ih.mem t ht).1,(ih.mem t ht).2⟩
      · have := ih.need;simp only [jB,List.map_cons,lE] at this ⊢;omega
      · have := ih.cnt b hb;rw [vS i0 i1 hb] at this;simp only [eW];by_cases hbi : b = i
        · rw [if_pos hbi] at this;rw [if_pos hbi.symm];subst hbi;omega
        · rw [if_neg hbi] at this;rw [if_neg (fun e => hbi e.symm)];omega
      · rw [ih.lot b hb,vQ i0 i1 hb]
structure VK (ls : List Lo) (left : List Bo) (ws : List Wt) (tk : List (List Tk)) : Prop where
  len : tk.length = ws.length
  at_ : ∀ (i : Nat) (w : Wt) (l : List Tk),ws[i]? = some w → tk[i]? = some l → jB l = w.2.1 ∧ ∀ t,t ∈ l → (0 ≤ t.1 ∧ t.1 < left.length) ∧ 1 ≤ t.2 ∧ lJ ls (left.getD t.1.toNat (0,0,0)) w = true
  cnt : ∀ b : Int,0 ≤ b → eW tk.flatten b ≤ cnt left b
theorem vP {ls : List Lo} {a b : Bo} {w : Wt} (h : a.1 = b.1) : lJ ls a w = lJ ls b w := by unfold lJ;rw [h]
theorem GL (ls : List Lo) : ∀ (ws : List Wt) (left : List Bo) (tk : List (List Tk)), (∀ w, w ∈ ws → 1 ≤ w.2.1) → (∀ b : Int, 0 ≤ b → 0 ≤ cnt left b) → qF ls left ws = some tk → VK ls left ws tk
  | [],left,tk,_,h2,h => by
    simp only [qF,Option.some.injEq] at h;subst h;exact ⟨rfl,fun i w l hw => by simp at hw,fun b hb => by simpa [eW] using h2 b hb⟩
  | w :: ws,left,tk,h1,h2,h => by
    unfold qF at h;have hw := h1 w aL;have ht := FJ (oH ls left w) left w.2.1 (fun i hi => (sT.1 hi).1) (by omega) h2
    split at h
    · cases h
    rename_i hn;generalize mY (oH ls left w) left w.2.1 = r at *;cases hp : qF ls r.2.1 ws with
    | none => rw [hp] at h;cases h
    | some tk' =>
      rw [hp] at h;simp only [lP,Option.some.injEq] at h;subst h;have ih := GL ls ws r.2.1 tk' (fun w hw => h1 w (aF _ hw)) ht.cnn hp;refine ⟨by simp [ih.len],fun i w' l hw' hl => ?_,fun b hb => ?_⟩
      · cases i with
        | zero =>
          simp only [dK,Option.some.injEq] at hw' hl;subst hw' hl;refine ⟨?_,fun t htm => ?_⟩
          · have h3 := ht.need;have h4 := ht.nn;omega
          · obtain ⟨h3,h4⟩ := ht.mem t htm;have h5 := sT.1 h3;exact ⟨h5.1,h4,h5.2.2⟩
        | succ i =>
          simp only [gV] at hw' hl;obtain ⟨h3,h4⟩ := ih.at_ i w' l hw' hl;refine ⟨h3,fun t htm => ?_⟩
          obtain ⟨h5,h6,h7⟩ := h4 t htm;rw [ht.len] at h5;exact ⟨h5,h6,by rw [← vP (ht.lot t.1 h5.1)];exact h7⟩
      · rw [cH,kV];have h3 := ih.cnt b hb;have h4 := ht.cnt b hb;omega
theorem GM {ls : List Lo} {bs : List Bo} {ws : List Wt} (h2 : ∀ b : Int,0 ≤ b → 0 ≤ cnt bs b) (h : (oM ls bs ws).1 = 0) : VK ls bs ws (oM ls bs ws).2 := by
  unfold oM at h ⊢;split
  · rename_i hb;rw [if_pos hb] at h;simp at h
  · rename_i hb;rw [if_neg hb] at h;split
    · rename_i hp;rw [hp] at h;simp at h
    · rename_i tk hp;refine GL ls ws bs tk (fun w hw => ?_) h2 hp
      have hb2 : ¬ kU w = true := fun e => hb (jE.2 ⟨w,hw,e⟩);unfold kU at hb2;simp only [qC,decide_eq_true_eq,not_or] at hb2;omega
theorem I7 {bk : Bk} {sure : List Bo} {b : Int} (hb : 0 ≤ b) (hl : b < sure.length) : cnt (gY bk sure) b = max 0 (cnt sure b - lO bk b) := by
  unfold cnt gY;rw [aD,gC,aC (by omega),aD,aC (by omega)]
  simp only [lP,rI];rw [LV hb]
theorem EF {bs : List Bo} {b : Int} (hl : (bs.length : Int) ≤ b) : cnt bs b = 0 := by
  unfold cnt;rw [aD,bU (by omega)]
  rfl
theorem FP {bk : Bk} {sure : List Bo} {b : Int} (hb : 0 ≤ b) : 0 ≤ cnt (gY bk sure) b := by
  by_cases hl : b < sure.length
  · rw [I7 hb hl];omega
  · rw [EF (by rw [kE];omega)];omega
theorem AZ {bk : Bk} {sure : List Bo} {b : Int} (hb : 0 ≤ b) : ((gY bk sure).getD b.toNat (0,0,0)).1 = (sure.getD b.toNat (0,0,0)).1 := by
  unfold gY;rw [aD,gC,aD];cases sure[b.toNat]? <;> rfl
structure zR3 (b n : Int) (l : List Tk) (r : Int × List Tk) : Prop where
  n0 : 0 ≤ r.1
  eq : r.1 = max 0 (n - eW l b)
  own : eW r.2 b = eW l b - (n - r.1)
  oth : ∀ b',b' ≠ b → eW r.2 b' = eW l b'
  mem : ∀ t,t ∈ r.2 → 1 ≤ t.2 ∧ ∃ u,u ∈ l ∧ u.1 = t.1 ∧ t.2 ≤ u.2
  sum : jB r.2 ≤ jB l
theorem I9 (b : Int) : ∀ (l : List Tk) (n : Int), 0 ≤ n → (∀ t, t ∈ l → 1 ≤ t.2) → zR3 b n l (gO b n l)
  | [],n,h,_ => by
    refine ⟨h,?_,?_,fun _ _ => rfl,fun t ht => ?_,uM _⟩
    · simp only [gO,eW];omega
    · simp [gO,eW]
    · simp [gO] at ht
  | t :: l,n,h,hl => by
    have h1 := hl t aL;have hl' : ∀ u,u ∈ l → 1 ≤ u.2 := fun u hu => hl u (aF _ hu);unfold gO;by_cases hb : t.1 = b
    · rw [if_pos hb];have ih := I9 b l (n - min n t.2) (by omega) hl'
      have hs0 := wF (l := l) (b := b) hl';generalize gO b (n - min n t.2) l = r at *;have e := ih.eq;have o := ih.own;have s := ih.sum;refine ⟨ih.n0,?_,?_,fun b' hb' => ?_,fun u hu => ?_,?_⟩
      · simp only [eW,if_pos hb];omega
      · simp only [eW,if_pos hb];split
        · omega
        · simp only [eW,if_pos hb];omega
      · have o2 := ih.oth b' hb';simp only [eW];have hne : ¬ t.1 = b' := fun e => hb' (e.symm.trans hb);rw [if_neg hne];split
        · omega
        · simp only [eW];rw [if_neg hne];omega
      · dsimp only at hu;split at hu
        · obtain ⟨h3,v,h4,h5⟩ := ih.mem u hu;exact ⟨h3,v,aF _ h4,h5⟩
        · rcases aT.1 hu with rfl | hu
          · refine ⟨?_,t,aL,rfl,?_⟩
            · dsimp only;omega
            · dsimp only;omega
          · obtain ⟨h3,v,h4,h5⟩ := ih.mem u hu;exact ⟨h3,v,aF _ h4,h5⟩
      · dsimp only;split
        · simp only [jB,List.map_cons,lE] at s ⊢;omega
        · simp only [jB,List.map_cons,lE] at s ⊢;omega
    · rw [if_neg hb];have ih := I9 b l n h hl';generalize gO b n l = r at *;have e := ih.eq;have o := ih.own;have s := ih.sum;have hz : t.2 ≠ 0 := by omega
      rw [if_neg hz];refine ⟨ih.n0,?_,?_,fun b' hb' => ?_,fun u hu => ?_,?_⟩
      · simp only [eW,if_neg hb];omega
      · simp only [eW,if_neg hb];omega
      · have o2 := ih.oth b' hb';simp only [eW];omega
      · rcases aT.1 hu with rfl | hu
        · exact ⟨h1,u,aL,rfl,uM _⟩
        · obtain ⟨h3,v,h4,h5⟩ := ih.mem u hu;exact ⟨h3,v,aF _ h4,h5⟩
      · simp only [jB,List.map_cons,lE] at s ⊢;omega
theorem R0 (b : Int) : ∀ (tk : List (List Tk)) (n : Int), (kW b n tk).length = tk.length
  | [],_ => rfl
  | l :: r,n => by simp [kW,R0 b r]
theorem yZ (b : Int) : ∀ (tk : List (List Tk)) (n : Int),0 ≤ n → (∀ l,l ∈ tk → ∀ t,t ∈ l → 1 ≤ t.2) →
    eW (kW b n tk).flatten b = max 0 (eW tk.flatten b - n) ∧ (∀ b',b' ≠ b → eW (kW b n tk).flatten b' = eW tk.flatten b') ∧
    ∀ (i : Nat) (l' : List Tk),(kW b n tk)[i]? = some l' → ∃ l,tk[i]? = some l ∧ jB l' ≤ jB l ∧ ∀ t,t ∈ l' → 1 ≤ t.2 ∧ ∃ u,u ∈ l ∧ u.1 = t.1 ∧ t.2 ≤ u.2
  | [],n,h,_ => by
    refine ⟨?_,fun _ _ => rfl,fun i l' hi => by simp [kW] at hi⟩
    simp only [kW,Z0,eW];omega
  | l :: r,n,h,hl => by
    have h1 := I9 b l n h (hl l aL);obtain ⟨h2,h3,h4⟩ := yZ b r (gO b n l).1 h1.n0 fun l hl2 => hl l (aF _ hl2);unfold kW;generalize gO b n l = q at *;have e := h1.eq;have o := h1.own;have z1 := wF (l := l) (b := b) (hl l aL);have z2 := wF (l := r.flatten) (b := b) fun t ht => by
      obtain ⟨l2,h5,h6⟩ := rJ.1 ht;exact hl l2 (aF _ h5) t h6
    refine ⟨?_,fun b' hb' => ?_,fun i l' hi => ?_⟩
    · rw [cH,cH,kV,kV,h2,o];omega
    · rw [cH,cH,kV,kV,h3 b' hb',h1.oth b' hb']
    · cases i with
      | zero =>
        simp only [dK,Option.some.injEq] at hi;subst hi;exact ⟨l,rfl,h1.sum,h1.mem⟩
      | succ i =>
        simp only [gV] at hi;exact h4 i l' hi
theorem V4 {l : List (List Tk)} : l.all (·.isEmpty) = true ↔ l.flatten = [] := by
  rw [bD,Z1];simp
theorem WK {l : List Tk} {t : Tk} (h : ∀ t,t ∈ l → 1 ≤ t.2) (ht : t ∈ l) : t.2 ≤ jB l := by
  induction l with
  | nil => cases ht
  | cons u l ih =>
    have h0 : 0 ≤ jB l := by
      clear ih ht
      induction l with
      | nil => exact uM _
      | cons v l ih2 =>
        have h1 := h v (by simp)
        have := ih2 fun t ht => h t (by simp at ht ⊢;rcases ht with h | h <;> simp [h])
        simp only [jB,List.map_cons,lE] at this ⊢;omega
    have h1 := h u aL;simp only [jB,List.map_cons,lE] at h0 ⊢;rcases aT.1 ht with rfl | ht
    · omega
    · have := ih (fun t ht => h t (aF _ ht)) ht;simp only [jB] at this;omega
theorem pC.pos {o : Od} (h : pC o) : ∀ l,l ∈ o.tk → ∀ t,t ∈ l → 1 ≤ t.2 := fun l hl t ht => (h.ok l hl t ht).2.2.1
theorem pC.posF {o : Od} (h : pC o) : ∀ t,t ∈ o.tk.flatten → 1 ≤ t.2 := fun t ht => by
  obtain ⟨l,h1,h2⟩ := rJ.1 ht;exact h.pos l h1 t h2
theorem tX {ws : List Wt} {due : Int} (h : iW ws due = true) : 1 ≤ ws.length ∧ ws.length ≤ 20 ∧ 0 ≤ due ∧ due ≤ 20000 ∧ ∀ w,w ∈ ws → 0 ≤ w.1 ∧ 1 ≤ w.2.1 ∧ w.2.1 ≤ 20000 ∧ 0 ≤ w.2.2 ∧ w.2.2 ≤ 20000 := by
  unfold iW at h;simp only [aN,nS,iB,decide_eq_false_iff_not] at h;obtain ⟨⟨h1,h2,h3,h4⟩,h5⟩ := h;refine ⟨by omega,by omega,by omega,by omega,fun w hw => ?_⟩
  have hb := kP.1 h5 w hw;unfold kU at hb;simp only [qC,decide_eq_true_eq,not_or] at hb;omega
theorem OA {o : Od} {body n tick : Int} (h : pC o) (h1 : o.st = 1) (hn : 0 ≤ n) : pC (qJ o body n tick) := by
  obtain ⟨_,_,ha⟩ := yZ body o.tk n hn h.pos;have hl := R0 body o.tk n;unfold qJ;split
  · refine ⟨h.ws,?_,?_,fun _ => rfl,fun e => ?_,fun l hl => (by cases hl),fun i w l _ hl => (by simp at hl),fun e => ?_⟩
    · dsimp only;split <;> omega
    · dsimp only;split <;> omega
    · exfalso;dsimp only at e;split at e <;> omega
    · exfalso;dsimp only at e;split at e <;> omega
  · rename_i hne;refine ⟨h.ws,h.st0,h.st4,fun e => absurd h1 e,fun _ => by rw [hl];exact h.len h1,fun l' hl' t ht => ?_,fun i w l' hw hl' => ?_,fun _ e => hne (V4.2 e)⟩
    · obtain ⟨i,hi⟩ := cN.1 hl';obtain ⟨l,h3,_,h5⟩ := ha i l' hi;obtain ⟨h6,u,h7,h8,h9⟩ := h5 t ht;have hu := h.ok l (aJ h3) u h7;unfold EY at hu ⊢;rw [← h8];omega
    · obtain ⟨l,h3,h4,_⟩ := ha i l' hl';have := h.sum i w l hw h3;omega
theorem DC {bk : Bk} {i : Nat} {o : Od} (h : oS bk) (ho : pC o) : oS (bk.set i o) :=
  ⟨by rw [eC];exact h.le,fun p hp => by
    obtain ⟨j,hj⟩ := cN.1 hp;rw [cK] at hj;split at hj
    · split at hj
      · cases hj;exact ho
      · cases hj
    · exact h.od p (aJ hj)⟩
theorem rV {bk : Bk} {no : Int} {ss : List Int} (h : kB bk no ss = 0) : (0 ≤ no ∧ no < bk.length) ∧ (bk.getD no.toNat jC).st ∈ ss ∧ bk.getD no.toNat jC ∈ bk ∧ bk[no.toNat]? = some (bk.getD no.toNat jC) := by
  unfold kB at h;split at h
  · omega
  rename_i h1;split at h
  · rename_i h2;have hlt : no.toNat < bk.length := by omega
    refine ⟨⟨by omega,by omega⟩,h2,?_,?_⟩
    · rw [aD,aC hlt];exact aH hlt
    · rw [aD,aC hlt];rfl
  · omega
theorem Q0 {bk : Bk} {ws : List Wt} {due : Int} (h : oS bk) : oS (wQ bk ws due).2 := by
  unfold wQ;split
  · exact h
  rename_i hr;split
  · exact h
  rename_i hl;refine ⟨by rw [aB,bZ];omega,fun o ho => ?_⟩
  rcases bH.1 ho with ho | ho
  · exact h.od o ho
  · rw [bK.1 ho];exact ⟨by simpa using hr,uM 0,by dsimp only;omega,fun _ => rfl,fun e => by dsimp only at e;omega,fun l hl => (by cases hl),fun i w l _ hl => (by simp at hl),fun e => by dsimp only at e;omega⟩
theorem EC {bk : Bk} {no st : Int} {ss : List Int} (h : oS bk) (h1 : st = 3 ∨ st = 4) : oS (rG bk no st ss).2 := by
  unfold rG;split
  · exact h
  rename_i hf;obtain ⟨_,_,hm,_⟩ := rV (by simpa using hf)
  refine DC h ⟨(h.od _ hm).ws,by dsimp only;omega,by dsimp only;omega,fun _ => rfl,fun e => by dsimp only at e;omega,fun l hl => (by cases hl),fun i w l _ hl => (by simp at hl),fun e => by dsimp only at e;omega⟩
theorem BC {bk : Bk} {no body n tick : Int} (h : oS bk) : oS (mC bk no body n tick).2 := by
  unfold mC;split
  · exact h
  rename_i hf;split
  · exact h
  split
  · exact h
  obtain ⟨_,hs,hm,_⟩ := rV (by simpa using hf)
  exact DC h (OA (h.od _ hm) (by simpa using hs) (by omega))
theorem T3 {ls : List Lo} {sure : List Bo} {bk : Bk} {no : Int} (h : oS bk) (hs : sure.length ≤ 3000) : oS (qU ls sure bk no).2 := by
  unfold qU;split
  · exact h
  rename_i hf;split
  · exact h
  rename_i hp;obtain ⟨_,hst,hm,_⟩ := rV (by simpa using hf)
  have ho := h.od _ hm;have po := GM (ls := ls) (bs := gY bk sure) (ws := (bk.getD no.toNat jC).ws) (fun b hb => FP hb) (by simpa using hp)
  generalize (oM ls (gY bk sure) (bk.getD no.toNat jC).ws).2 = tk at *;generalize bk.getD no.toNat jC = o at *;obtain ⟨w1,w2,_,_,w5⟩ := tX ho.ws;have hget : ∀ (i : Nat) (l : List Tk),tk[i]? = some l → ∃ w,o.ws[i]? = some w ∧ w ∈ o.ws := fun i l hl => by
    have hi := (aA.1 hl).1;rw [po.len] at hi;exact ⟨_,aC hi,aH hi⟩
  refine DC h ⟨ho.ws,by dsimp only;omega,by dsimp only;omega,fun e => absurd rfl e,fun _ => po.len,fun l hl t ht => ?_,fun i w l hw hl => ?_,fun _ e => ?_⟩
  · obtain ⟨i,hi⟩ := cN.1 hl;obtain ⟨w,hw,hwm⟩ := hget i l hi;obtain ⟨h3,h4⟩ := po.at_ i w l hw hi;obtain ⟨h5,h6,_⟩ := h4 t ht;have := WK (fun t ht => (h4 t ht).2.1) ht;have := w5 w hwm;rw [kE] at h5;unfold EY;omega
  · exact Int.le_of_eq (po.at_ i w l hw hl).1
  · have h0 : 0 < tk.length := by rw [po.len];omega
    have hg := aC h0;obtain ⟨w,hw,hwm⟩ := hget 0 _ hg;have h3 := (po.at_ 0 w _ hw hg).1;have h4 : tk[0] = [] := Z1.1 e _ (aH h0);rw [h4] at h3;have := w5 w hwm;simp only [jB,List.map_nil,List.sum_nil] at h3;omega
theorem zE4 {ls : List Lo} {sure : List Bo} {bk : Bk} {o : Op} (h : oS bk) (hs : sure.length ≤ 3000) : oS (Z4 ls sure bk o).2 := by
  unfold Z4;split
  · exact Q0 h
  split
  · exact T3 h hs
  split
  · exact BC h
  split
  · exact EC h (.inr rfl)
  split
  · exact EC h (.inl rfl)
  · exact h
theorem RT (b : Int) : lO [] b = 0 := rfl
theorem pG (o : Od) (bk : Bk) (b : Int) : lO (o :: bk) b = eW o.tk.flatten b + lO bk b := by
  unfold lO jO;rw [gX,kV]
theorem BG (o : Od) : ∀ (bk : Bk) (b : Int), lO (bk ++ [o]) b = lO bk b + eW o.tk.flatten b
  | [],b => by rw [List.nil_append,pG,RT];omega
  | p :: bk,b => by rw [List.cons_append,pG,BG o bk,pG];omega
theorem D8 (o : Od) : ∀ (bk : Bk) (i : Nat) (b : Int), i < bk.length → lO (bk.set i o) b = lO bk b - eW (bk.getD i jC).tk.flatten b + eW o.tk.flatten b
  | [],i,b,h => by simp at h
  | p :: bk,0,b,h => by rw [List.set_cons_zero,pG,pG];simp only [List.getD_cons_zero];omega
  | p :: bk,i + 1,b,h => by
    rw [List.set_cons_succ,pG,pG,D8 o bk i b (by simpa using h),List.getD_cons_succ];omega
theorem MG {bk : Bk} (h : oS bk) (b : Int) : 0 ≤ lO bk b := by
  unfold lO;refine wF fun t ht => ?_
  obtain ⟨o,ho,hto⟩ := eS.1 ht;exact (h.od o ho).posF t hto
theorem MH : ∀ {bk : Bk} (h : oS bk) {o : Od} (ho : o ∈ bk) (b : Int), eW o.tk.flatten b ≤ lO bk b
  | [],_,_,ho,_ => by cases ho
  | p :: bk,h,o,ho,b => by
    have h' : oS bk := ⟨by have := h.le;simp at this;omega,fun q hq => h.od q (aF _ hq)⟩
    rw [pG];rcases aT.1 ho with rfl | ho
    · have := MG h' b;omega
    · have := MH h' ho b;have := wF (b := b) (h.od p aL).posF;omega
structure Z3 (ls : List Lo) (left : List Bo) (bk : Bk) : Prop where
  ok : oS bk
  cv : ∀ b : Int,0 ≤ b → lO bk b ≤ cnt left b
  ft : ∀ o,o ∈ bk → ∀ (i : Nat) (w : Wt) (l : List Tk),o.ws[i]? = some w → o.tk[i]? = some l → ∀ t,t ∈ l → t.1 < left.length ∧ lJ ls (left.getD t.1.toNat (0,0,0)) w = true
theorem Z3.nn {ls : List Lo} {left : List Bo} {bk : Bk} (h : Z3 ls left bk) {b : Int} (hb : 0 ≤ b) : 0 ≤ cnt left b := by
  have := h.cv b hb;have := MG h.ok b;omega
theorem tW {α : Type} {l : List α} {i : Nat} {x y : α} (h : y ∈ l.set i x) : y = x ∨ y ∈ l := by
  obtain ⟨j,hj⟩ := cN.1 h;rw [cK] at hj;split at hj
  · split at hj
    · cases hj;exact .inl rfl
    · cases hj
  · exact .inr (aJ hj)
theorem Z3.nil {ls : List Lo} {left : List Bo} (h : ∀ b : Int,0 ≤ b → 0 ≤ cnt left b) : Z3 ls left [] := ⟨oS.nil,fun b hb => h b hb,fun o ho => by cases ho⟩
theorem Z3.ask {ls : List Lo} {left : List Bo} {bk : Bk} (h : Z3 ls left bk) (ws : List Wt) (due : Int) : Z3 ls left (wQ bk ws due).2 := by
  have hok := Q0 (ws := ws) (due := due) h.ok;unfold wQ at hok ⊢;split
  · exact h
  rename_i h1;rw [if_neg h1] at hok;split
  · exact h
  rename_i h2;rw [if_neg h2] at hok;refine ⟨hok,fun b hb => ?_,fun o ho i w l hw hl => ?_⟩
  · rw [BG];have := h.cv b hb;simpa [eW] using this
  · rcases bH.1 ho with ho | ho
    · exact h.ft o ho i w l hw hl
    · rw [bK.1 ho] at hl;simp at hl
theorem Z3.end_ {ls : List Lo} {left : List Bo} {bk : Bk} (h : Z3 ls left bk) (no st : Int) (ss : List Int) (h1 : st = 3 ∨ st = 4) : Z3 ls left (rG bk no st ss).2 := by
  have hok := EC (no := no) (ss := ss) h.ok h1;unfold rG at hok ⊢;split
  · exact h
  rename_i hf;rw [if_neg hf] at hok;obtain ⟨hr,_,hm,_⟩ := rV (by simpa using hf)
  refine ⟨hok,fun b hb => ?_,fun o ho i w l hw hl => ?_⟩
  · dsimp only;rw [D8 _ _ _ _ (by omega)]
    have := h.cv b hb;have := wF (b := b) (h.ok.od _ hm).posF;simp only [Z0,eW];omega
  · rcases tW ho with rfl | ho
    · simp at hl
    · exact h.ft o ho i w l hw hl
theorem Z3.prom {ls : List Lo} {left : List Bo} {bk : Bk} (h : Z3 ls left bk) (no : Int) (hs : left.length ≤ 3000) : Z3 ls left (qU ls left bk no).2 := by
  have hok := T3 (ls := ls) (sure := left) (no := no) h.ok hs;unfold qU at hok ⊢;split
  · exact h
  rename_i hf;rw [if_neg hf] at hok;split
  · exact h
  rename_i hp;rw [if_neg hp] at hok;obtain ⟨hr,hst,hm,_⟩ := rV (by simpa using hf)
  have po := GM (ls := ls) (bs := gY bk left) (ws := (bk.getD no.toNat jC).ws) (fun b hb => FP hb) (by simpa using hp)
  refine ⟨hok,fun b hb => ?_,fun o ho i w l hw hl t ht => ?_⟩
  · dsimp only;rw [D8 _ _ _ _ (by omega)]
    have h0 := (h.ok.od _ hm).tk0 (by rw [bK.1 hst];decide)
    rw [h0];dsimp only;have h1 := h.cv b hb;have h2 := po.cnt b hb;simp only [Z0,eW];by_cases hl : b < left.length
    · rw [I7 hb hl] at h2;omega
    · rw [EF (by rw [kE];omega)] at h2
      omega
  · rcases tW ho with rfl | ho
    · obtain ⟨h1,h2⟩ := po.at_ i w l hw hl;obtain ⟨h3,h4,h5⟩ := h2 t ht;rw [kE] at h3;exact ⟨h3.2,by rw [← vP (AZ (bk := bk) h3.1)];exact h5⟩
    · exact h.ft o ho i w l hw hl t ht
theorem QY {l : List Tk} {b : Int} (h : eW l b ≠ 0) : ∃ t,t ∈ l ∧ t.1 = b := by
  apply Classical.byContradiction;intro hn;exact h (uZ fun t ht e => hn ⟨t,ht,e⟩)
theorem JO {o : Od} (h : pC o) {body n : Int} (hn : 0 ≤ n) (tick b : Int) : eW (qJ o body n tick).tk.flatten b = if b = body then max 0 (eW o.tk.flatten b - n) else eW o.tk.flatten b := by
  obtain ⟨h1,h2,_⟩ := yZ body o.tk n hn h.pos;have e : eW (qJ o body n tick).tk.flatten b = eW (kW body n o.tk).flatten b := by
    unfold qJ;split
    · rename_i he;rw [V4.1 he];rfl
    · rfl
  rw [e];split
  · rename_i hb;subst hb;exact h1
  · rename_i hb;exact h2 b hb
theorem JP {o : Od} (h : pC o) {body n : Int} (hn : 0 ≤ n) (tick : Int) (i : Nat) (l' : List Tk) (hl : (qJ o body n tick).tk[i]? = some l') : ∃ l,o.tk[i]? = some l ∧ ∀ t,t ∈ l' → ∃ u,u ∈ l ∧ u.1 = t.1 := by
  obtain ⟨_,_,h3⟩ := yZ body o.tk n hn h.pos;unfold qJ at hl;split at hl
  · simp at hl
  · obtain ⟨l,h4,_,h6⟩ := h3 i l' hl;exact ⟨l,h4,fun t ht => by obtain ⟨_,u,h7,h8,_⟩ := h6 t ht;exact ⟨u,h7,h8⟩⟩
theorem BB (o : Od) (body n tick : Int) : (qJ o body n tick).ws = o.ws ∧ (qJ o body n tick).due = o.due := by
  unfold qJ;split <;> exact ⟨rfl,rfl⟩
theorem Z3.in_ {ls : List Lo} {left : List Bo} {bk : Bk} (h : Z3 ls left bk) {o : Od} (ho : o ∈ bk) {t : Tk} (ht : t ∈ o.tk.flatten) : 0 ≤ t.1 ∧ t.1 < left.length := by
  have hoo := h.ok.od o ho;obtain ⟨l,hl,htl⟩ := rJ.1 ht;obtain ⟨i,hi⟩ := cN.1 hl;have h1 : o.st = 1 := Classical.byContradiction fun e => by rw [hoo.tk0 e] at hl;cases hl
  have hi2 := (aA.1 hi).1;rw [hoo.len h1] at hi2;exact ⟨(hoo.ok l hl t htl).1,(h.ft o ho i _ l (aC hi2) hi t htl).1⟩
theorem Z3.serve {ls : List Lo} {left : List Bo} {bk : Bk} (h : Z3 ls left bk) (no body n tick : Int) :
    ((mC bk no body n tick).1 = 0 → (0 ≤ body ∧ body < left.length) ∧ 1 ≤ n ∧ n ≤ cnt left body) ∧
    Z3 ls (if (mC bk no body n tick).1 = 0 then qE left body n else left) (mC bk no body n tick).2 := by
  have hok := BC (no := no) (body := body) (n := n) (tick := tick) h.ok;unfold mC at hok ⊢;split
  · rename_i hf;exact ⟨fun e => absurd e hf,by first | exact h | (rw [if_neg hf];exact h)⟩
  rename_i hf;rw [if_neg hf] at hok;split
  · exact ⟨fun e => by simp at e,h⟩
  rename_i hn;rw [if_neg hn] at hok;split
  · exact ⟨fun e => by simp at e,h⟩
  rename_i hsum;rw [if_neg hsum] at hok;obtain ⟨hr,hst,hm,_⟩ := rV (by simpa using hf)
  have ho := h.ok.od _ hm;obtain ⟨t,ht,he⟩ := QY (l := (bk.getD no.toNat jC).tk.flatten) (b := body) (by omega)
  obtain ⟨b0,b1⟩ := h.in_ hm ht;rw [he] at b0 b1;have hcv := h.cv body b0;have hge := MH h.ok hm body;refine ⟨fun _ => ⟨⟨b0,b1⟩,by omega,by omega⟩,?_⟩
  rw [if_pos rfl];refine ⟨hok,fun b hb => ?_,fun o' ho' i w l hw hl t ht => ?_⟩
  · dsimp only;rw [D8 _ _ _ _ (by omega),JO ho (by omega),vS b0 b1 hb]
    have := h.cv b hb;split
    · rename_i hbb;subst hbb;omega
    · omega
  · rw [vR];rcases tW ho' with rfl | ho'
    · obtain ⟨l2,h1,h2⟩ := JP ho (by omega) tick i l hl
      obtain ⟨u,hu,hue⟩ := h2 t ht;rw [(BB _ body n tick).1] at hw;have hq := h.ft _ hm i w l2 hw h1 u hu;have hu0 := (ho.ok l2 (aJ h1) u hu).1;rw [hue] at hq hu0;exact ⟨hq.1,by rw [vP (vQ b0 b1 hu0)];exact hq.2⟩
    · have hq := h.ft o' ho' i w l hw hl t ht;have hu0 := ((h.ok.od o' ho').ok l (aJ hl) t ht).1;exact ⟨hq.1,by rw [vP (vQ b0 b1 hu0)];exact hq.2⟩
def ZK (left : List Bo) (o : Op) (e : Int) : List Bo := if o.d = 2 ∧ e = 0 then qE left o.b o.n else left
theorem Z3.step {ls : List Lo} {left : List Bo} {bk : Bk} (h : Z3 ls left bk) (o : Op) (hs : left.length ≤ 3000) :
    (o.d = 2 → (Z4 ls left bk o).1.2 = 0 → (0 ≤ o.b ∧ o.b < left.length) ∧ 1 ≤ o.n ∧ o.n ≤ cnt left o.b) ∧ Z3 ls (ZK left o (Z4 ls left bk o).1.2) (Z4 ls left bk o).2 := by
  obtain ⟨h1,h2⟩ := h.serve o.no o.b o.n o.t;unfold ZK Z4;by_cases d0 : o.d = 0
  · rw [if_pos d0,if_neg (by omega)]
    exact ⟨fun e => by omega,h.ask _ _⟩
  rw [if_neg d0];by_cases d1 : o.d = 1
  · rw [if_pos d1,if_neg (by omega)]
    exact ⟨fun e => by omega,h.prom _ hs⟩
  rw [if_neg d1];by_cases d2 : o.d = 2
  · rw [if_pos d2];refine ⟨fun _ e => h1 e,?_⟩
    dsimp only;by_cases e : (mC bk o.no o.b o.n o.t).1 = 0
    · rw [if_pos ⟨d2,e⟩];rw [if_pos e] at h2;exact h2
    · rw [if_neg (fun x => e x.2)];rw [if_neg e] at h2;exact h2
  rw [if_neg d2];refine ⟨fun e => absurd e d2,?_⟩
  have e2 : ∀ x : Int,(if o.d = 2 ∧ x = 0 then qE left o.b o.n else left) = left := fun x => if_neg fun y => d2 y.1
  rw [e2];split
  · exact h.end_ _ _ _ (.inr rfl)
  split
  · exact h.end_ _ _ _ (.inl rfl)
  · exact h
def tT (ls : List Lo) (sure : List Bo) (bk : Bk) (t : Tk) (w : Wt) : Bool := decide (t.1 < sure.length) && (lJ ls (sure.getD t.1.toNat (0,0,0)) w && decide (lO bk t.1 ≤ cnt sure t.1))
def rW (ls : List Lo) (sure : List Bo) (bk : Bk) (o : Od) : Bool := (List.range o.tk.length).any fun i => (o.tk.getD i []).any fun t => !tT ls sure bk t (o.ws.getD i (0,0,0))
def pX (ls : List Lo) (sure : List Bo) (bk : Bk) : List Int := (zP bk.length).filter fun i => rW ls sure bk (bk.getD i.toNat jC)
theorem Z3.whole {ls : List Lo} {left : List Bo} {bk : Bk} (h : Z3 ls left bk) : pX ls left bk = [] := by
  unfold pX;rw [List.filter_eq_nil_iff];intro i hi;obtain ⟨i0,i1⟩ := vI.1 hi;have hlt : i.toNat < bk.length := by omega
  have hm : bk.getD i.toNat jC ∈ bk := by rw [aD,aC hlt];exact aH hlt
  generalize bk.getD i.toNat jC = o at *;have ho := h.ok.od o hm;unfold rW;rw [eE,kP];intro k hk;rw [mO] at hk;rw [eE,kP];intro t ht;have hg := aC hk;rw [aD,hg] at ht;simp only [rI] at ht;have h1 : o.st = 1 := Classical.byContradiction fun e => by rw [ho.tk0 e] at hk;simp at hk
  have hw : k < o.ws.length := by rw [← ho.len h1];exact hk
  have hwg := aC hw;have hq := h.ft o hm k _ _ hwg hg t ht;have h0 := (ho.ok _ (aH hk) t ht).1;have hc := h.cv t.1 h0;rw [aD (l := o.ws),hwg];unfold tT;simp only [rI,hq.1,hq.2,hc,decide_true,Bool.and_self,Bool.not_true];decide
end Go.Or
namespace Go.Ab
open Go
open Go
mutual
def AV.plO : AV → Bool
  | .v _ => true
  | .any => true
  | .row .. => true
  | .mrow .. => true
  | .pr .. => true
  | .agg cs => AV.plOL cs
  | _ => false
def AV.plOL : List AV → Bool
  | [] => true
  | x :: l => AV.plO x && AV.plOL l
end
mutual
theorem wA {h : Hp} : ∀ (x : AV), x.plO = true → View h x x
  | .v x,_ => .v x
  | .any,_ => .any
  | .row cs l s,_ => .row cs l s
  | .mrow ks vs,_ => .mrow ks vs
  | .pr cs o,_ => .pr cs o
  | .agg cs,e => .agg (pE cs (by simpa [AV.plO] using e))
  | .ptr ..,e | .ep ..,e | .sl ..,e | .mp ..,e | .tup ..,e | .clo ..,e | .cond ..,e | .ifc ..,e => by simp [AV.plO] at e
theorem pE {h : Hp} : ∀ (xs : List AV), AV.plOL xs = true → iH h xs xs
  | [],_ => .nil
  | x :: l,e => by
    simp only [AV.plOL,aN] at e;exact .cons (wA x e.1) (pE l e.2)
end
theorem M5 : ∀ (a b : List AV), AV.plOL (a ++ b) = (AV.plOL a && AV.plOL b)
  | [],b => by simp [AV.plOL]
  | x :: a,b => by simp [AV.plOL,M5 a b,Bool.and_assoc]
theorem T5 {α : Type} {g : α → List AV} (hg : ∀ a, AV.plOL (g a) = true) : ∀ l : List α, AV.plOL (l.map g).flatten = true
  | [] => rfl
  | a :: l => by rw [List.map_cons,cH,M5,hg a,T5 hg l];rfl
theorem wD {h : Hp} {k n sz : Nat} {es : List (List AV)} (hk : h[k]? = some (.arr es sz)) (hn : n = es.length) (hp : AV.plOL es.flatten = true) : View h (.sl k 0 n sz) (.rowE es sz) := by
  subst hn;refine View.sl hk (by omega) ?_
  rw [cP,dJ];exact pE _ hp
theorem iP {θ : Nat → Nat} {f : Fn} {caps : List AV} (hi : AV.idfL caps = true) : (AV.clo f [] caps).map θ = .clo f [] caps := by
  show AV.clo f (AV.mapL θ []) (AV.mapL θ caps) = _;rw [nK θ caps hi];rfl
end Go.Ab
namespace Go.Ab
open Go Go.WideElems
section
variable {P : Program} {n : Nat × Nat} {ops : Array Oper} {env : dD} {h : Hp} {K : dD → Hp → Prop} {rest : List Oper} {Q : Exit → dD → Hp → Prop} {code : Code}
theorem YT (k j e : Nat) {cs : List AV} (hk : h[k]? = some (.cells cs)) (hj : cs[j]? = some .nils) (hv : AW P n code env (h.set k (.cells (cs.set j (.sl h.length 0 0 1))) ++ [.buf e []]) Q) : AW P n code env h Q := by
  intro c ρ S a w QQ s hQ;refine hv c ρ S a w QQ ⟨s.size,s.defers,s.env,?_,s.cm⟩ hQ
  have h1 := s.hs.alter (b1 := .cells (cs.set j (.sl h.length 0 0 1))) hk (fun hb => by
    simp only [RB] at hb ⊢;obtain ⟨b,o,ys,h2,h3,h4⟩ := hb;refine ⟨b,o,ys,h2,h3,ES h4 fun y hy => ?_⟩
    obtain ⟨y',h5,h6⟩ := mT h4 _ _ hj;rw [hy] at h5;cases h5;rw [pZ h6];simp only [R]
    exact ⟨none,0,rfl,bG _,.inl ⟨trivial,rfl⟩⟩) (by simp)
  have hd := h1.dom h.length (by simp)
  generalize hh : h.set k (.cells (cs.set j (.sl h.length 0 0 1))) = h' at h1 ⊢;have hl : h.length = h'.length := by rw [← hh];simp
  rw [hl] at hd;have get : ∀ {j : Nat} {b : AB},(h' ++ [.buf e []])[j]? = some b → h'[j]? = some b ∨ (j = h'.length ∧ b = .buf e []) := fun {j b} hj => by
    by_cases hlt : j < h'.length
    · rw [aG hlt] at hj;exact .inl hj
    · have := (aA.1 hj).1;simp at this;have e : j = h'.length := by omega
      subst e;simp at hj;exact .inr ⟨rfl,hj.symm⟩
  refine ⟨fun k hk => h1.dom k (by simp at hk;omega),h1.rng,fun k b hb => ?_,fun k b p hb hg hp => ?_,fun k k' b b' p p' hb hb' hg hg' hp hp' e => ?_,h1.stab,h1.ext,h1.st0,h1.st1,by simp;exact O0 h1.mle,h1.keep,h1.glob⟩
  · rcases get hb with hb | ⟨rfl,rfl⟩
    · exact h1.blk k b hb
    · exact .inl ⟨rfl,hd⟩
  · rcases get hb with hb | ⟨rfl,rfl⟩
    · exact h1.live k b p hb hg hp
    · rw [hd] at hp;cases hp
  · rcases get hb with hb | ⟨rfl,rfl⟩
    · rcases get hb' with hb' | ⟨rfl,rfl⟩
      · exact h1.inj k k' b b' p p' hb hb' hg hg' hp hp' e
      · rw [hd] at hp';cases hp'
    · rw [hd] at hp;cases hp
end
end Go.Ab
namespace Go.Ab
open Go Go.MapKept
def mP (n : Nat × Nat) (env : dD) (h : Hp) (env' : dD) (h' : Hp) : Prop :=
  ∀ c ρ S a w,oD n c ρ S env h a w → ∃ ρ' S',oD n c ρ' S' env' h' a w
def IZ (env : dD) : dD → Prop
  | [] => True
  | (t,x) :: r => look env t = some x ∧ IZ env r
theorem IZ.look {env : dD} : ∀ {env' : dD}, IZ env env' → ∀ t x, look env' t = some x → look env t = some x
  | [],_,t,x,h => by cases h
  | (k,u) :: r,h,t,x,hx => by
    rw [gL] at hx;split at hx
    · rename_i he;subst he;cases hx;exact h.1
    · exact IZ.look h.2 t x hx
section
variable {P : Program} {n : Nat × Nat} {env env' : dD} {h h' : Hp} {Q : Exit → dD → Hp → Prop} {code : Code}
theorem mP.of (he : h = h') (hv : IZ env env') : mP n env h env' h' := fun _ ρ S _ _ s => by
  subst he;exact ⟨ρ,S,s.fewer hv.look⟩
theorem mP.sub (hs : EQ n.2 env h env' h') : mP n env h env' h' := fun _ _ S _ _ s =>
  let ⟨ρ',s'⟩ := s.sub hs;⟨ρ',S,s'⟩
theorem mP.trans {env2 : dD} {h2 : Hp} (a : mP n env h env' h') (b : mP n env' h' env2 h2) : mP n env h env2 h2 := fun c ρ S a' w s => by
  obtain ⟨ρ',S',s'⟩ := a c ρ S a' w s;exact b c ρ' S' a' w s'
theorem jH (env' : dD) (h' : Hp) (he : mP n env h env' h') (hv : AW P n code env' h' Q) : AW P n code env h Q := fun c ρ S a w QQ s hQ => by
  obtain ⟨ρ',S',s'⟩ := he c ρ S a w s;exact hv c ρ' S' a w QQ s' hQ
theorem lK {body : Code} {X : Type} (E : X → dD) (H : X → Hp) (μ : X → Nat) (x0 : X) (h0 : mP n env h (E x0) (H x0))
    (round : ∀ x,AW P n body (E x) (H x) (BV (fun v h => ∃ x',μ x' < μ x ∧ mP n v h (E x') (H x')) Q)) : AW P n (.loop body) env h Q := by
  intro c ρ S a w QQ s hQ;obtain ⟨ρ0,S0,s0⟩ := h0 c ρ S a w s;intro b k cs hro hb hr;have key : ∀ m x,μ x = m → ∀ ρ S a w,oD n c ρ S (E x) (H x) a w → ∃ e a' w',QQ e a' w' ∧ ArrivesIn (Machine.fenced P (rd c.r)) P (lone (b.atR a (.code body :: .inLoop body :: k)) cs w) b k cs e a' w' := by
    intro m
    induction m using Nat.strongRecOn with
    | _ m ih =>
      intro x hx ρ S a w s;obtain ⟨e,a₁,w₁,hq,harr⟩ := round x c ρ S a w (fun e a' w' => ∃ env' h' ρ' S',BV (fun v h => ∃ x',μ x' < μ x ∧ mP n v h (E x') (H x')) Q e env' h' ∧ oD n c ρ' S' env' h' a' w') s (fun e env' h' ρ' S' a' w' hq s' => ⟨env',h',ρ',S',hq,s'⟩) b (.inLoop body :: k) cs hro hb hr;obtain ⟨env',h',ρ',S',hq,s'⟩ := hq;cases e with
      | normal =>
        obtain ⟨x',hlt,hsub⟩ := hq;obtain ⟨ρ2,S2,s2⟩ := hsub _ _ _ _ _ s';obtain ⟨e₂,a₂,w₂,hq₂,harr₂⟩ := ih (μ x') (hx ▸ hlt) x' rfl ρ2 S2 a₁ w₁ s2;exact ⟨e₂,a₂,w₂,hq₂,.of_steps (StepsIn.trans harr (.one (fenced_calm hb hr rfl) stepR_inLoop)) harr₂⟩
      | exit id => exact ⟨_,a₁,w₁,hQ _ env' h' ρ' S' a₁ w₁ hq s',.pass (x := .inLoop body) rfl (fun _ _ => .inl (by simp)) harr⟩
      | goto l => exact ⟨_,a₁,w₁,hQ _ env' h' ρ' S' a₁ w₁ hq s',.pass (x := .inLoop body) rfl (fun _ _ => .inl (by simp)) harr⟩
      | ret => exact ⟨_,a₁,w₁,hQ _ env' h' ρ' S' a₁ w₁ hq s',.pass (x := .inLoop body) rfl (fun _ _ => .inl (by simp)) harr⟩
      | panic ch => exact ⟨_,a₁,w₁,hQ _ env' h' ρ' S' a₁ w₁ hq s',.pass (x := .inLoop body) rfl (fun _ _ => .inl (by simp)) harr⟩
      | outgrown => exact ⟨_,a₁,w₁,hQ _ env' h' ρ' S' a₁ w₁ hq s',.pass (x := .inLoop body) rfl (fun _ _ => .inl (by simp)) harr⟩
  obtain ⟨e,a',w',hq,harr⟩ := key _ x0 rfl ρ0 S0 a w s0;exact ⟨e,a',w',hq,.of_steps (.one (fenced_calm hb hr rfl) stepR_loop) harr⟩
end
theorem UE {l : List Oper} {pres : List (List Nat)} {ds : List Nat} {bads : List (List Nat)} {n s k : Nat} (h : lC l pres ds bads n = true) (hs : Nat.blt s pres.length = true) : iF l pres ds bads [(s,k)] n = true := by
  simp [iF,JC,h,hs]
end Go.Ab
namespace Go.Ab
open Go
set_option maxHeartbeats 1000000
theorem Q3 {z : Array Value} {zs : List Value} (hz : z.toList = zs) (hn : zs ≠ []) (m : Nat) : (∀ v,v ∈ (Builtin.zeroCells z m).toList → v ∈ zs) ∧ (Builtin.zeroCells z m).toList.length = m * zs.length := by
  subst hz;have h0 : 0 < z.size := by
    rcases Nat.eq_zero_or_pos z.size with h | h
    · exact absurd (by simpa using Array.size_eq_zero_iff.1 h) hn
    · exact h
  unfold Builtin.zeroCells;constructor
  · intro v hv;simp only [aK,Array.toList_ofFn,List.mem_ofFn,Array.toList_map,Array.toList_range] at hv;rcases hv with ⟨i,hi⟩
    first
      | (have hlt := Nat.mod_lt i.1 h0;rw [getElem!_pos z _ hlt] at hi;rw [← hi];exact Array.mem_toList_iff.2 (Array.getElem_mem _))
      | (have hlt := Nat.mod_lt i h0;rw [getElem!_pos z _ hlt] at hi;rw [← hi.2];exact Array.mem_toList_iff.2 (Array.getElem_mem _))
  · simp
section
variable {P : Program} {env : dD} {h : Hp} {n : Nat × Nat} {ops : Array Oper} {rest : List Oper} {K : dD → Hp → Prop} {ty : TypeId} {pos : String} {af : Array Edge}
theorem NU (T : oA P) {t e k off len sz : Nat} {i : TI} {x : Operand} {es : List (List AV)} (hx : evu env x = some (.sl k off len sz)) (ht : T.elem t = some e) (he : T.ti e = some i) (hz : i.zero.length = sz ∧ i.zero.all Value.oneCell' = true ∧ 0 < sz) (hkk : h[k]? = some (.arr es sz)) (hle : off + len ≤ es.length)
    (hk : VC P n ops rest env (h.set k (.arr (es.take off) sz)) K) : VC P n ops (⟨none,.call { callee := .builtin .clear,args := #[x],argTypes := #[t] },ty,pos,af,none⟩ :: rest) env h K := by
  intro c ρ S a w Q s hQ;refine wpList_plain rfl fun K' hK' => ?_
  have p := s.pre;have hxv := p.evu hx;simp only [R] at hxv;obtain ⟨ad,cap,hev,_,hxv⟩ := hxv;obtain ⟨inf,z,t1,t2,t3,t4,t5,t6,t7⟩ := T.tiOk e i he;have hund : P.underlying t = some (.slice e) := T.elemOk _ _ ht;have hzv : ∀ w,(zeroValue e).run P w = .ok z w := fun w => by simp [zeroValue,typeInfo,t1,t4]
  obtain ⟨hz1,hz2,hz3⟩ := hz;have hzc := Q3 (z := z.cells) t5 (fun h0 => by rw [h0] at hz1;simp at hz1;omega)
  have ev1 : ∀ r w',(Builtin.clear_ #[t] ty #[a.eval x]).run P w = .ok r w' → (execOp a.eval ⟨none,.call { callee := .builtin .clear,args := #[x],argTypes := #[t] },ty,pos,af,none⟩).run P w = .ok (.value r) w' := fun r w' hr => by
    simp [execOp,resolve,invoke,builtin,hr]
  have fin : ∀ {r : Value} {w' : World},(Builtin.clear_ #[t] ty #[a.eval x]).run P w = .ok r w' → HS c ρ S (h.set k (.arr (es.take off) sz)) w' ∧ hY ρ ρ S S w w' → Oper.wp P ⟨none,.call { callee := .builtin .clear,args := #[x],argTypes := #[t] },ty,pos,af,none⟩ a w K' Q := fun {r w'} hr ⟨g1,g2⟩ => by
    unfold Oper.wp;rw [ev1 r w' hr];exact hK' _ _ (hk c ρ S _ _ Q ⟨by rw [iS];exact s.size,by rw [fT];exact s.defers.later g2,fun tt uu huu => (s.env tt uu huu).later g2,g1,s.cm⟩ hQ)
  have stay : HS c ρ S (h.set k (.arr (es.take off) sz)) w ∧ hY ρ ρ S S w w := ⟨s.hs.alter hkk (YZ off) (by simp),⟨fun _ _ h => h,fun _ h => h,fun _ _ => rfl,fun _ _ _ _ _ h => h⟩⟩
  cases len with
  | zero =>
    refine fin (r := .tuple #[]) ?_ stay;rw [hev];cases ad <;> simp [Builtin.clear_,run_underlying hund]
  | succ m =>
    rcases hxv with ⟨h0,_⟩ | ⟨b,o,hp,ha,hlc,hroom⟩
    · cases h0
    · have hB := p.blk k _ hkk;obtain ⟨hes,hs0,hB⟩ := hB;rcases hB with hB | ⟨b',o',ys,h4,⟨cc,ct,h5,h6⟩,h7⟩
      · obtain ⟨hB,_⟩ := hB;subst hB;simp at hle
      rw [hp] at h4;cases h4;have hyl := eV h7;have hfl := eB hes;have hmul : (off + (m + 1)) * sz ≤ es.length * sz := fN _ hle;rw [eL] at hmul;have hpos : 0 < (m + 1) * sz := Nat.mul_pos (by omega) hz3
      have hlast := h6 (ys.length - 1) (ys[ys.length - 1]'(by omega)) (aC _)
      have hsz := (aR.1 hlast).1;obtain ⟨hzm,hzl⟩ := hzc (m + 1);rw [hz1] at hzl;generalize hZ : (Builtin.zeroCells z.cells (m + 1)).toList = Z at *;have hst := run_storeCells_at P b (o + off * sz) ct Z 0 cc w h5 (by rw [hzl];omega) (by intro v hv;exact (bD.1 hz2) v (hzm v hv))
      subst ha;refine fin (r := .tuple #[]) (w' := w.setRow b (cc.toList.take (o + off * sz + 0) ++ Z ++ cc.toList.drop (o + off * sz + 0 + Z.length)).toArray) ?_ (s.hs.upd hkk (by simp) hp (pB h5 ?_) fun l => ?_)
      · rw [hev];simp only [Builtin.clear_];simp [run_underlying hund,hzv,hZ,hst]
      · simp;omega
      · refine ⟨fun e he => hes e (gB he),hz3,.inr ⟨b,o,ys.take (off * sz),rfl,⟨_,ct,setRow_heap w b cc _ ct _ h5,fun j y hj => ?_⟩,?_⟩⟩
        · rw [bS] at hj;split at hj
          · rename_i hjo;have := h6 j y hj;have hjl := (aR.1 this).1;rw [kZ,aY,aG (by simp;omega),bS,if_pos (by omega)]
            simpa using this
          · cases hj
        · rw [sH hes];exact wY (h7.later l) _
end
end Go.Ab
namespace Go.Ab
open Go
def pL (L : List Nat) (pos k : Nat) : Nat := match L[k]? with
  | some j => j
  | none => pos
theorem HS.callP {c : oU} {ρ ρ' : Pl} {S S' : Nat → Prop} {H hin hout : Hp} {w w' : World} {L : List Nat} {pos : Nat} {b1 : AB} (s : HS c ρ S H w) (hL : L.length = hin.length) (hnd : L.Nodup) (hh : tH (th L H.length) H 0 hin) (hng : ∀ b, b ∈ hin → b ≠ .gone)
    (hlen : hout.length = hin.length) (hp0 : ρ pos = Option.none) (hp1 : H[pos]? = some .gone) (hpm : c.m ≤ pos)
    (hs : HS (iY w (fun k => ρ (th L H.length k)) S hin) ρ' S' (hout ++ [b1]) w') :
    ∃ ρ3 : Pl,HS c ρ3 S' ((wI H L (hout.map (AB.map (pL L pos)))).set pos (b1.map (pL L pos))) w' ∧ hY ρ ρ3 S S' w w' ∧ (∀ {x : AV} {y : Value},R S' w' x ρ' y → R S' w' (x.map (pL L pos)) ρ3 y) ∧ ∀ j,j ≠ pos → ρ3 j = ρ j := by
  have hin_at : ∀ {i : Nat} {b : AB},hin[i]? = some b → ∃ j,L[i]? = some j ∧ j < H.length ∧ H[j]? = some (b.map (th L H.length)) ∧ b.map (th L H.length) ≠ .gone := fun {i b} hb => by
    have hne := hng b (aJ hb);have hlt : i < L.length := by rw [hL];exact (aA.1 hb).1
    have hj := aC hlt;have hth : th L H.length i = L[i] := by simp [th,hj]
    rcases hh.get i b hb with hg | hg
    · exact absurd hg hne
    · rw [Nat.zero_add,hth] at hg;exact ⟨L[i],hj,(aA.1 hg).1,hg,by cases b <;> simp [AB.map] at * ⟩
  have thL : ∀ {i j : Nat},L[i]? = some j → th L H.length i = j := fun hi => by simp [th,hi]
  have keep : ∀ {i j : Nat},i < hin.length → L[i]? = some j → ρ' i = ρ j := fun {i j} hi hj => by
    have := hs.keep i hi;simp only [iY] at this;rw [this,thL hj]
  have hM : ∀ b,(iY w (fun k => ρ (th L H.length k)) S hin).M b → w.heap.size ≤ b ∨ ∃ (i j : Nat) (o : Nat) (x : AB),hin[i]? = some x ∧ L[i]? = some j ∧ ρ j = some (b,o) := fun b hb => by
    rcases hb with hb | ⟨k,x,o,hb,_,hp⟩
    · exact .inl hb
    · obtain ⟨j,h3,_⟩ := hin_at hb;exact .inr ⟨k,j,o,x,hb,h3,by rw [← thL h3];exact hp⟩
  have hcM : ∀ b,(iY w (fun k => ρ (th L H.length k)) S hin).M b → c.M b := fun b hb => by
    rcases hM b hb with hb | ⟨i,j,o,x,h3,h4,h5⟩
    · exact c.new b (cQ s.ext.size hb)
    · obtain ⟨j',h6,_,h7,h8⟩ := hin_at h3;rw [h4] at h6;cases h6;exact (s.live j _ _ h7 h8 h5).1
  have hlow : ∀ b,b < w.heap.size → (iY w (fun k => ρ (th L H.length k)) S hin).M b → ∃ (i j : Nat) (o : Nat) (x : AB),hin[i]? = some x ∧ L[i]? = some j ∧ ρ j = some (b,o) := fun b hlt hb => by
    rcases hM b hb with hb | hb
    · omega
    · exact hb
  have other : ∀ {k : Nat} {b : AB} {q : Nat × Nat},H[k]? = some b → b ≠ .gone → k ∉ L → ρ k = some q → ¬ (iY w (fun k => ρ (th L H.length k)) S hin).M q.1 := fun {k b q} hb hg hkL hq hm => by
    obtain ⟨i,j,o,x,h3,h4,h5⟩ := hlow q.1 (s.rng k q hq) hm;obtain ⟨j',h6,_,h7,h8⟩ := hin_at h3;rw [h4] at h6;cases h6;have := s.inj k j _ _ q _ hb h7 hg h8 hq h5 rfl;subst this;exact hkL (aJ h4)
  have stM : ∀ b,S b → ¬ (iY w (fun k => ρ (th L H.length k)) S hin).M b := fun b hb hm => by
    obtain ⟨i,j,o,x,h3,h4,h5⟩ := hlow b (s.stab b hb) hm;obtain ⟨j',h6,_,h7,h8⟩ := hin_at h3;rw [h4] at h6;cases h6;exact (s.live j _ _ h7 h8 h5).2 hb
  have same : ∀ b,b < w.heap.size → ¬ (iY w (fun k => ρ (th L H.length k)) S hin).M b → w'.heap[b]? = w.heap[b]? := fun b hb hm => hs.ext.same b hb hm
  have hposL : pos ∉ L := fun hm => by
    obtain ⟨i,hi⟩ := cN.1 hm;have hlt : i < hin.length := by rw [← hL];exact (aA.1 hi).1
    obtain ⟨j,h3,_,h4,h5⟩ := hin_at (aC hlt);rw [hi] at h3;cases h3;rw [hp1] at h4;exact h5 (Option.some.inj h4).symm
  have hposH : pos < H.length := (aA.1 hp1).1
  let ρ3 : Pl := fun j => if j = pos then ρ' hin.length else ρ j
  have r3p : ρ3 pos = ρ' hin.length := if_pos rfl;have r3o : ∀ j,j ≠ pos → ρ3 j = ρ j := fun j hj => if_neg hj
  have l : hY ρ ρ3 S S' w w' := by
    refine ⟨fun k q hq => ?_,hs.st0,fun b hb => same b (s.stab b hb) (stM b hb),fun _ _ _ _ _ hr => hs.ext.room hr⟩
    rw [r3o k (fun e => by rw [e,hp0] at hq;cases hq)];exact hq
  have pl : ∀ k q,ρ' k = some q → ρ3 (pL L pos k) = some q := fun k q hq => by
    by_cases hk : k < hin.length
    · obtain ⟨j,h3,_,_⟩ := hin_at (aC hk);have hbk : pL L pos k = j := by simp [pL,h3]
      have hjp : j ≠ pos := fun e => hposL (e ▸ aJ h3);rw [hbk,r3o j hjp,← keep hk h3];exact hq
    · by_cases hk2 : k = hin.length
      · have hbk : pL L pos k = pos := by unfold pL;rw [bU (by omega)]
        rw [hbk,r3p,← hk2];exact hq
      · have := hs.dom k (by rw [aB,hlen,bZ];omega)
        rw [this] at hq;cases hq
  have shift : ∀ {x : AV} {y : Value},R S' w' x ρ' y → R S' w' (x.map (pL L pos)) ρ3 y := fun {x y} hx => yK _ _ x y (lD (fun _ h => h) (fun _ _ => rfl) x ρ' _ y pl (fun _ _ _ _ _ h => h) hx);have shiftB : ∀ {b : AB} {pp},RB S' w' ρ' pp b → RB S' w' ρ3 pp (b.map (pL L pos)) := fun {b pp} hb => H5 _ _ (RB.later (ρ := ρ') (S := S') ⟨pl,fun _ h => h,fun _ _ => rfl,fun _ _ _ _ _ h => h⟩ (fun _ _ _ => rfl) hb);have get : ∀ {k : Nat} {b : AB},((wI H L (hout.map (AB.map (pL L pos)))).set pos (b1.map (pL L pos)))[k]? = some b →
      (k ≠ pos ∧ k ∉ L ∧ H[k]? = some b) ∨ (∃ (i : Nat) (b' : AB),(hout ++ [b1])[i]? = some b' ∧ b = b'.map (pL L pos) ∧ pL L pos i = k ∧ ρ3 k = ρ' i) := fun {k b} hb => by
    rw [cK] at hb;by_cases hk : pos = k
    · rw [if_pos hk,if_pos (by rw [gM];exact hposH)] at hb
      cases hb;refine .inr ⟨hin.length,b1,by rw [← hlen];simp,rfl,?_,by rw [← hk];exact r3p⟩
      unfold pL;rw [bU (by omega)]
      exact hk
    · rw [if_neg hk] at hb;by_cases hkL : k ∈ L
      · obtain ⟨i,hi⟩ := cN.1 hkL;have hiL : i < hin.length := by rw [← hL];exact (aA.1 hi).1
        have hb' := aC (l := hout) (i := i) (by omega)
        have hkl : k < H.length := by
          have := (aA.1 hb).1
          rwa [gM] at this
        rw [P5 (b := (hout[i]'(by omega)).map (pL L pos)) hnd hi (by simp [hb']) hkl] at hb
        simp only [Option.some.injEq] at hb;exact .inr ⟨i,_,by rw [aG (by omega)];exact hb',hb.symm,by simp [pL,hi],by rw [r3o k (fun e => hk e.symm)];exact (keep hiL hi).symm⟩
      · rw [sS _ _ _ hkL] at hb;exact .inl ⟨fun e => hk e.symm,hkL,hb⟩
  have mapg : ∀ {θ : Nat → Nat} {b : AB},b.map θ ≠ .gone → b ≠ .gone := fun hb e => hb (by rw [e];rfl)
  refine ⟨ρ3,⟨fun k hk => ?_,fun k q hq => ?_,fun k b hb => ?_,fun k b q hb hg hq => ?_,fun k k' b b' q q' hb hb' hg hg' hq hq' e => ?_,hs.stab,s.ext.trans hs.ext (fun b hb hlt => hcM b hb),fun b hb => hs.st0 b (s.st0 b hb),fun b hb => ?_,?_,fun k hk => ?_,hs.glob⟩,l,shift,r3o⟩
  · rw [eC,gM] at hk;rw [r3o k (by omega)]
    exact s.dom k hk
  · by_cases hk : k = pos
    · rw [hk,r3p] at hq;exact hs.rng _ q hq
    · rw [r3o k hk] at hq;exact cC (s.rng k q hq) hs.ext.size
  · rcases get hb with ⟨h3,h4,h5⟩ | ⟨i,b',h3,rfl,h4,h5⟩
    · rw [r3o k h3];by_cases hg : b = .gone
      · subst hg;trivial
      · exact RB.later l (fun b1 o1 hp => same b1 (s.rng k _ hp) (other h5 hg h4 hp)) (s.blk k b h5)
    · rw [h5];exact shiftB (hs.blk i b' h3)
  · rcases get hb with ⟨h3,h4,h5⟩ | ⟨i,b',h3,rfl,h4,h5⟩
    · rw [r3o k h3] at hq;obtain ⟨h7,h8⟩ := s.live k b q h5 hg hq;refine ⟨h7,fun hs' => ?_⟩
      rcases hs.st1 _ hs' with h9 | h9
      · exact h8 h9
      · exact other h5 hg h4 hq h9
    · rw [h5] at hq;obtain ⟨h7,h8⟩ := hs.live i b' q h3 (mapg hg) hq;exact ⟨hcM _ h7,h8⟩
  · rcases get hb with ⟨h3,h4,h5⟩ | ⟨i,b1,h3,rfl,h4,h5⟩ <;> rcases get hb' with ⟨h3',h4',h5'⟩ | ⟨i',b1',h3',rfl,h4',h5'⟩
    · rw [r3o k h3] at hq;rw [r3o k' h3'] at hq';exact s.inj k k' b b' q q' h5 h5' hg hg' hq hq' e
    · rw [r3o k h3] at hq;rw [h5'] at hq';have hl := (hs.live i' b1' q' h3' (mapg hg') hq').1;rw [← e] at hl;exact absurd hl (other h5 hg h4 hq)
    · rw [r3o k' h3'] at hq';rw [h5] at hq;have hl := (hs.live i b1 q h3 (mapg hg) hq).1;rw [e] at hl;exact absurd hl (other h5' hg' h4' hq')
    · rw [h5] at hq;rw [h5'] at hq';have := hs.inj i i' b1 b1' q q' h3 h3' (mapg hg) (mapg hg') hq hq' e;subst this;rw [← h4,← h4']
  · rcases hs.st1 b hb with hb' | hb'
    · exact s.st1 b hb'
    · exact .inr (hcM b hb')
  · rw [eC,gM];exact s.mle
  · rw [r3o k (by omega)]
    exact s.keep k hk
theorem tH.up {θ : Nat → Nat} {h H : Hp} (hb : ∀ (j : Nat) b, h[j]? = some b → b ≠ .gone → H[j]? = some b) : ∀ {hin : Hp} {i : Nat}, (∀ b, b ∈ hin → b ≠ .gone) → tH θ h i hin → tH θ H i hin
  | [],_,_,_ => trivial
  | b :: r,i,hng,hs => by
    refine ⟨?_,tH.up hb (fun x hx => hng x (aF _ hx)) hs.2⟩;rcases hs.1 with h1 | h1
    · exact .inl h1
    · refine .inr (hb _ _ h1 ?_);have := hng b aL;cases b <;> simp [AB.map] at *
section
variable {P : Program} {env : dD} {h : Hp} {d : Option Nat} {ty : TypeId} {pos : String} {af : Array Edge}
theorem G6 (L : List Nat) {pp k : Nat} {nb b1 u1 : AB} {uu : AV} {dd : Nat} {x : Operand} {f : FuncId} {fs cs us xs : List AV} {args : List Operand} {ats : Array TypeId} {res : AV} {hin hout : Hp} (hx : evu env x = some (.clo (.func f) fs cs)) (ha : EB env args = some us)
    (hc : bI P f xs hin res (hout ++ [b1])) (hxs : ∀ N,fs ++ us ++ cs = AV.mapL (th L N) xs) (hL : L.length = hin.length) (hnd : L.Nodup) (hh : ∀ N,tH (th L N) h 0 hin) (hng : ∀ b,b ∈ hin → b ≠ .gone) (hlen : hout.length = hin.length)
    (hput : ∀ H : Hp,(∀ (j : Nat) b,h[j]? = some b → b ≠ .gone → H[j]? = some b) → wI H L (hout.map (AB.map (pL L pp))) = H.set k nb) (hu : res.map (pL L pp) = uu) (hb1 : b1.map (pL L pp) = u1) :
    jT P ⟨some dd,.call { callee := .value x,args := args.toArray,argTypes := ats },ty,pos,af,none⟩ env h pp k nb uu [u1] := by
  intro c ρ S a w H g p hbel hpp K' Q hK';obtain ⟨hr0,hH0,hm0⟩ : ρ pp = none ∧ H[pp]? = some .gone ∧ c.m ≤ pp := by
    rcases hpp with h0 | h0
    · cases h0
    · exact h0
  have hxv := p.evu hx;simp only [R] at hxv;obtain ⟨ys,zs,e1,h1,h2⟩ := hxv;have hall : RL S w (fs ++ us ++ cs) ρ (ys.toList ++ args.map a.eval ++ zs.toList) := fC (fC h1 (nU p ha)) h2;rw [hxs H.length] at hall;have hargs := oJ (th L H.length) ρ _ _ hall;obtain ⟨hf,hc⟩ := hc;have hsub := tH.up hbel hng (hh H.length);have hs0 := g.hand hL hnd hsub;have hcall := hc _ S w _ hs0 hargs;unfold Oper.wp;have hrun : (execOp a.eval ⟨some dd,.call { callee := .value x,args := args.toArray,argTypes := ats },ty,pos,af,none⟩).run P w = .ok (.enter f (ys.toList ++ args.map a.eval ++ zs.toList).toArray) w := by
    have e2 : (ys ++ (args.toArray.map a.eval) ++ zs) = (ys.toList ++ args.map a.eval ++ zs.toList).toArray := by
      apply Array.ext';simp
    simp only [execOp,resolve,e1,Deferred.ofValue,Sem.run_bind,Sem.run_pure,Result.andThen_ok,invoke];rw [e2];exact oL hf
  rw [hrun];simp only [Oper.upon];refine hcall.mono ?_;rintro e w' ⟨y,ρ',S',rfl,hs,hy⟩;simp only;obtain ⟨ρ3,g1,g2,g3,g4⟩ := g.callP hL hnd hsub hng hlen hr0 hH0 hm0 hs;rw [hput H hbel,hb1] at g1;exact hK' _ ρ3 S' w' g1 g2 (hu ▸ g3 hy) (fun j hj => g4 j (hj (by simp)))
end
theorem oD.freezeP {n : Nat × Nat} {c : oU} {ρ : Pl} {S : Nat → Prop} {env : dD} {h : Hp} {a : Act} {w : World} {t k off : Nat} {cs : List AV} (s : oD n c ρ S env h a w) (ht : look env t = some (.ptr k off)) (hk : h[k]? = some (.cells cs)) (hi : AV.idfL cs = true) :
    oD n c ρ (fun b => S b ∨ ∃ o,ρ k = some (b,o)) ((t,.pr cs off) :: env) (h.set k .gone) a w := by
  refine ⟨s.size,s.defers.st (fun _ h => .inl h),fun t' x hx => ?_,s.hs.freezeC hk (by simp),s.cm⟩
  rw [gL] at hx;split at hx
  · rename_i e;subst e;cases hx;exact HX hi (s.hs.blk k _ hk) (s.env t _ ht)
  · exact YY (fun _ h => .inl h) (s.env t' x hx)
theorem NN {S S' : Nat → Prop} {w : World} {ρ : Pl} {x x' : AV} (hS : ∀ b, S b → S' b) (hx : ∀ y, R S w x ρ y → R S' w x' ρ y) : ∀ {cs : List AV} {f : Nat}, cs[f]? = some x → ∀ {ys : List Value}, RL S w cs ρ ys → RL S' w (cs.set f x') ρ ys
  | [],f,hf,ys,h => by simp at hf
  | c :: cs,0,hf,ys,h => by
    simp only [dK,Option.some.injEq] at hf;subst hf;simp only [RL,List.set_cons_zero] at h ⊢;obtain ⟨y,zs,e,h1,h2⟩ := h;exact ⟨y,zs,e,hx y h1,VI hS h2⟩
  | c :: cs,f + 1,hf,ys,h => by
    simp only [gV] at hf;simp only [RL,List.set_cons_succ] at h ⊢;obtain ⟨y,zs,e,h1,h2⟩ := h;exact ⟨y,zs,e,YY hS h1,NN hS hx hf h2⟩
theorem oD.freezeIn {n : Nat × Nat} {c : oU} {ρ : Pl} {S : Nat → Prop} {env : dD} {h : Hp} {a : Act} {w : World} {j f k len sz : Nat} {cs : List AV} {es : List (List AV)} (s : oD n c ρ S env h a w) (hj : h[j]? = some (.cells cs)) (hf : cs[f]? = some (.sl k 0 len sz)) (hk : h[k]? = some (.arr es sz)) (hn : len = es.length) (hi : AV.idfL es.flatten = true) :
    oD n c ρ (fun b => S b ∨ ∃ o,ρ k = some (b,o)) env ((h.set k .gone).set j (.cells (cs.set f (.rowE es sz)))) a w := by
  have hne : j ≠ k := by rintro rfl;rw [hj] at hk;cases hk
  have h1 := s.hs.freeze hk;have hj' : (h.set k .gone)[j]? = some (.cells cs) := by rw [iV (Ne.symm hne)];exact hj
  refine ⟨s.size,s.defers.st (fun _ h => .inl h),fun t' x hx => YY (fun _ h => .inl h) (s.env t' x hx),h1.alter hj' (fun _ => ?_) (by simp),s.cm⟩
  have hb := s.hs.blk j _ hj;simp only [RB] at hb ⊢;obtain ⟨b,o,ys,e1,e2,e3⟩ := hb;refine ⟨b,o,ys,e1,e2,NN (fun _ h => .inl h) (fun y hy => ?_) hf e3⟩;rw [hn] at hy;exact G0 hi (s.hs.blk k _ hk) hy
section
variable {P : Program} {n : Nat × Nat} {ops : Array Oper} {env : dD} {h : Hp} {K : dD → Hp → Prop} {rest : List Oper} {Q : Exit → dD → Hp → Prop} {code : Code}
theorem fK (t : Nat) {k off : Nat} {cs : List AV} (ht : look env t = some (.ptr k off)) (hk : h[k]? = some (.cells cs)) (hi : AV.idfL cs = true) (hv : AW P n code ((t,.pr cs off) :: env) (h.set k .gone) Q) : AW P n code env h Q :=
  fun c ρ S a w QQ s hQ => hv c ρ _ a w QQ (s.freezeP ht hk hi) hQ
theorem W9 (j f : Nat) {k len sz : Nat} {cs : List AV} {es : List (List AV)} (hj : h[j]? = some (.cells cs)) (hf : cs[f]? = some (.sl k 0 len sz)) (hk : h[k]? = some (.arr es sz)) (hn : len = es.length) (hi : AV.idfL es.flatten = true) (hv : AW P n code env ((h.set k .gone).set j (.cells (cs.set f (.rowE es sz)))) Q) : AW P n code env h Q :=
  fun c ρ S a w QQ s hQ => hv c ρ _ a w QQ (s.freezeIn hj hf hk hn hi) hQ
end
theorem HS.snocG {c : oU} {ρ : Pl} {S : Nat → Prop} {H : Hp} {w : World} (s : HS c ρ S H w) : HS c ρ S (H ++ [.gone]) w := by
  have get : ∀ {k : Nat} {b : AB},(H ++ [AB.gone])[k]? = some b → b ≠ .gone → H[k]? = some b := fun {k b} hb hg => by
    by_cases hk : k < H.length
    · rwa [aG hk] at hb
    · rw [aE (by omega)] at hb
      by_cases e : k - H.length = 0
      · rw [e] at hb;simp at hb;exact absurd hb.symm hg
      · rw [bU (by simp;omega)] at hb;cases hb
  refine ⟨fun k hk => s.dom k (by simp at hk;omega),s.rng,fun k b hb => ?_,fun k b q hb hg hq => s.live k b q (get hb hg) hg hq,fun k k' b b' q q' hb hb' hg hg' hq hq' e => s.inj k k' b b' q q' (get hb hg) (get hb' hg') hg hg' hq hq' e,s.stab,s.ext,s.st0,s.st1,by rw [aB];have := s.mle;omega,s.keep,s.glob⟩
  by_cases hg : b = .gone
  · subst hg;trivial
  · exact s.blk k b (get hb hg)
theorem Y4 {P : Program} {f : FuncId} {args : List AV} {res : AV} {hin hout : Hp} (h : bI P f args hin res hout) : bI P f args hin res (hout ++ [.gone]) := by
  refine ⟨h.1,fun ρ S w vs hs ha => (h.2 ρ S w vs hs ha).mono ?_⟩;rintro e w' ⟨y,ρ',S',rfl,h2,h3⟩;exact ⟨y,ρ',S',rfl,h2.snocG,h3⟩
section
variable {P : Program} {n : Nat × Nat} {ops : Array Oper} {env : dD} {h : Hp} {K : dD → Hp → Prop} {rest : List Oper} {Q : Exit → dD → Hp → Prop} {code : Code}
end
section
variable {P : Program} {n : Nat × Nat} {env : dD} {h : Hp} {Q : Exit → dD → Hp → Prop} {code : Code}
end
section
variable {P : Program} {env : dD} {h : Hp} {d : Option Nat} {ty : TypeId} {pos : String} {af : Array Edge} {g : Option (Nat × Bool)}
theorem kX {x : Operand} {f : FuncId} {fs cs us xs : List AV} {args : List Operand} {ats : Array TypeId} {es : List (List AV)} {len sz : Nat} (hx : evu env x = some (.clo (.func f) fs cs)) (ha : EB env args = some us)
    (hc : bI P f xs [] (.sl 0 0 len sz) [.arr es sz]) (hv : iH h (fs ++ us ++ cs) xs) (hn : len = es.length) (hr : AB.rf (.arr es sz) = true) (hi : AV.idfL es.flatten = true) :
    bJ P ⟨d,.call { callee := .value x,args := args.toArray,argTypes := ats },ty,pos,af,g⟩ env h 0 (fun _ => .rowE es sz) (fun _ => []) := by
  intro ρ S a w p q hq K Q hk;have hxv := p.evu hx;simp only [R] at hxv;obtain ⟨ys,zs,e1,h1,h2⟩ := hxv;have hall : RL S w (fs ++ us ++ cs) ρ (ys.toList ++ args.map a.eval ++ zs.toList) := fC (fC h1 (nU p ha)) h2;obtain ⟨hf,hc⟩ := hc;have hargs := jY p.blk hv hall;have hS1w : ∀ b,(S b ∨ iN h ρ b) → b < w.heap.size := fun b hb => by
    rcases hb with hb | ⟨k,x,o,_,_,hb⟩
    · exact p.stab b hb
    · exact p.rng k _ hb
  have hs0 : HS (iY w (fun _ => none) (fun b => S b ∨ iN h ρ b) []) (fun _ => none) (fun b => S b ∨ iN h ρ b) [] w := ⟨fun _ _ => rfl,(fun _ _ h => by cases h),(fun k b hb => by simp at hb),(fun k b p hb => by simp at hb),(fun k _ b _ _ _ hb => by simp at hb),hS1w,lM.refl _ _,fun _ h => h,fun _ h => .inl h,aU _,(fun _ h => by simp [iY] at h),p.glob.st fun _ h => .inl h⟩
  have hcall := hc (fun _ => none) (fun b => S b ∨ iN h ρ b) w _ hs0 hargs;unfold Oper.wp;have hrun : (execOp a.eval ⟨d,.call { callee := .value x,args := args.toArray,argTypes := ats },ty,pos,af,g⟩).run P w = .ok (.enter f (ys.toList ++ args.map a.eval ++ zs.toList).toArray) w := by
    have e2 : (ys ++ (args.toArray.map a.eval) ++ zs) = (ys.toList ++ args.map a.eval ++ zs.toList).toArray := by
      apply Array.ext';simp
    simp only [execOp,resolve,e1,Deferred.ofValue,Sem.run_bind,Sem.run_pure,Result.andThen_ok,invoke];rw [e2];exact oL hf
  rw [hrun];simp only [Oper.upon];refine hcall.mono ?_;rintro e w' ⟨y,ρ',S',rfl,hs,hy⟩;simp only;have hM : ∀ b,(iY w (fun _ => none) (fun b => S b ∨ iN h ρ b) []).M b → w.heap.size ≤ b := fun b hb => by
    rcases hb with hb | ⟨k,x,o,hb,_⟩
    · exact hb
    · simp at hb
  have hext : lM (fun _ => False) w w' := hs.ext.mono fun b hb hm => by have := hM b hm;simp [iY] at hb;omega
  have hb0 : RB S w' ρ' (ρ' 0) (.arr es sz) := NP hr (hs.blk 0 _ rfl);have hy0 : R S w' (.sl 0 0 es.length sz) ρ' y := by
    rw [← hn];exact IQ ρ' _ _ rfl hy
  have hz := H0 ρ' ρ _ _ rfl (G0 hi hb0 hy0);refine hk y ρ (fun b => S b ∨ ∃ o,ρ' 0 = some (b,o)) w' ⟨hext,rfl,fun _ _ => rfl,fun _ h => .inl h,fun b hb => ?_,fun k r h1 h2 => by omega,fun k k' r r' h1 h2 => by omega,?_,fun j b hb => by simp at hb⟩
  · rcases hb with hb | ⟨o,ho⟩
    · exact .inl hb
    · exact .inr ⟨hM _ (hs.live 0 _ _ rfl (by simp) ho).1,hs.rng 0 _ ho⟩
  · exact hz
end
end Go.Ab
