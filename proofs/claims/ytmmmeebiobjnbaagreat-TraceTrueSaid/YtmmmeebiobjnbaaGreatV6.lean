/-
  Texts of the logic and of the layer,in one module (part 6).
-/
import Derived.Test.YtmmmeebiobjnbaaGreatV5
import Derived.Shelf.RegionOpenPlain
import Derived.Deep.LoopGhost
import Derived.Deep.RegionLaw
import Derived.Lib.Walk
import Derived.Lib.SlicesDelete
import Derived.Sort.WalkB12
import Derived.Shelf.Slices.Delete
import Derived.Ground.Names2Prog
import Derived.Shelf.Spec.SlicesGrow
import Derived.Ground.Names8Prog
set_option linter.unusedVariables false
set_option linter.unusedSimpArgs false
set_option linter.unnecessarySimpa false
namespace Go.Ld
open Go.Ab Go.Proofs.YtmmmeebiobjnbaaGreat
def tC {α : Type} (p : α → Bool) : List α → Nat → Int
  | [],_ => -1
  | x :: l,k => if p x = true then k else tC p l (k + 1)
theorem FY {α : Type} {p : α → Bool} {l : List α} {k : Nat} (h : k < l.length) : tC p (l.drop k) k = if p l[k] = true then (k : Int) else tC p (l.drop (k + 1)) (k + 1) := by
  rw [aT h];rfl
theorem AK {α : Type} {p : α → Bool} {l : List α} {k : Nat} (h : l.length ≤ k) : tC p (l.drop k) k = -1 := by
  rw [cY h];rfl
theorem J0 {α : Type} (p : α → Bool) : ∀ (l : List α) (k : Nat), decide (tC p l k ≥ 0) = l.any p
  | [],k => by simp [tC]
  | x :: l,k => by
    unfold tC;split
    · rename_i h;simp [h]
    · rename_i h;rw [J0 p l (k + 1)];simp [h]
theorem EB {α : Type} (p : α → Bool) : ∀ (l : List α) (k : Nat), tC p l k = match l.findIdx? p with
    | some i => ((k + i : Nat) : Int)
    | none => -1
  | [],k => by simp [tC]
  | x :: l,k => by
    unfold tC;rw [List.findIdx?_cons];by_cases h : p x = true
    · rw [if_pos h,if_pos h];simp
    · rw [if_neg h,if_neg h,EB p l (k + 1)];cases l.findIdx? p with
      | none => rfl
      | some i => show ((k + 1 + i : Nat) : Int) = ((k + (i + 1) : Nat) : Int);omega
theorem rB (l : List G) : ∀ e,e ∈ kE l → e.length = 2 := by intro e he;obtain ⟨n,_,rfl⟩ := bC.1 he;rfl
theorem jK (l : List G) : (kE l).length = l.length := aY _
theorem YN (l : List G) : (kE l).flatten.all AV.one = true := by
  induction l with
  | nil => rfl
  | cons x l ih => exact ih
theorem eH (l : List G) : ∀ e,e ∈ kE l → AV.idfL e = true := by intro e he;obtain ⟨x,_,rfl⟩ := bC.1 he;rfl
end Go.Ld
namespace Go.Proofs.YtmmmeebiobjnbaaGreat
open Go Go.Ab Go.Ld
attribute [local irreducible] VC AW cF aS
set_option maxHeartbeats 4000000
abbrev UW (g : G) : AV := .agg (gA g)
theorem A5 {l : List W} {k : Nat} (h : k < l.length) : (gE l)[(k : Int).toNat]? = some (wA l[k]) := by simp [h]
theorem GB {l : List G} {k : Nat} (h : k < l.length) : (kE l)[(k : Int).toNat]? = some (gA l[k]) := by simp [h]
theorem QE {l : List Int} {k : Nat} (h : k < l.length) : (ints l)[(k : Int).toNat]? = some [AV.i l[k]] := by simp [h]
theorem XX {l : List W} {F : FuncId} {caps : List AV} {p : W → Bool} (hl : l.length ≤ 1000000) (hi : AV.idfL caps = true) (hF : ∀ x,x ∈ l → aS Tryz.prog F (.agg (wA x) :: caps) [] (.b (p x)) []) :
    aS Tryz.prog 135 [.rowE (gE l) 3,.clo (.func F) [] caps] [] (.i (tC p l 0)) [] := by
  have hlen : (gE l).length = l.length := aY _;refine bW T Tryz.func135 rfl rfl rfl rfl ?_
  (repeat' (first|refine wS ?_|refine wB ?_|(refine rg 0 (aV ?_))|(refine rg 1 (mW rfl (qW T rfl (mV ?_))))|refine nZ ?_));refine dQ (X := {k : Nat // k ≤ l.length ∧ tC p l 0 = tC p (l.drop k) k}) (fun k => [(0,.rowE (gE l) 3),(1,.clo (.func F) [] caps),(7,.i (gE l).length),(8,.i k.1)]) (fun _ => []) (fun k => l.length - k.1) ⟨0,by simp,rfl⟩ ⟨[],rfl,⟨rfl,by rw [lA hi];rfl,rfl,rfl,trivial⟩,trivial,eQ,fun _ h => absurd h (eI _)⟩ ?_
  rintro ⟨k,hk,he⟩;dsimp only;by_cases hlt : k < l.length
  · have hc := hF l[k] (aQ hlt);have hg := A5 (l := l) hlt;rw [FY hlt] at he;generalize l[k] = y at *;cases hp : p y with
    | true =>
      rw [hp] at hc;rw [hp,if_pos rfl] at he
      (repeat' (first|refine wS ?_|refine wB ?_|refine wK ?_|refine wR ?_|refine wT ?_|(refine wC rfl ?_ ?_<;>(intro hb;(try simp only [nm] at hb);try (exfalso;omega)))|(refine rg 2 (vV (aM rfl rfl) ?_))|(refine rg 3 (mW rfl (aV ?_)))|(refine rg 4 (dH rfl (mW rfl (vV (ix T rfl (by omega) (pD l) hg) (lW T rfl (vV (by exact fE rfl rfl hc rfl (by simp [AV.idfL,AV.idf,hi]) rfl) ?_))))))|(refine rg 5 (mW rfl (aV ?_)))|refine nZ ?_));all_goals first | (exfalso;omega) | exact dC (.inl rfl) rfl (by rw [he];rfl)
    | false =>
      rw [hp] at hc;rw [hp,if_neg (by simp)] at he
      (repeat' (first|refine wS ?_|refine wB ?_|refine wK ?_|refine wU ?_|(refine wC rfl ?_ ?_<;>(intro hb;(try simp only [nm] at hb);try (exfalso;omega)))|(refine rg 2 (vV (aM rfl rfl) ?_))|(refine rg 3 (mW rfl (aV ?_)))|(refine rg 4 (dH rfl (mW rfl (vV (ix T rfl (by omega) (pD l) hg) (lW T rfl (vV (by exact fE rfl rfl hc rfl (by simp [AV.idfL,AV.idf,hi]) rfl) ?_))))))|(refine rg 6 (vV (cC rfl rfl (by omega) (by omega)) (mV ?_)))|refine nZ ?_));all_goals first | (exfalso;omega) | exact ⟨⟨k + 1,hlt,he⟩,by dsimp only;omega,⟨[],rfl,⟨rfl,by rw [lA hi];rfl,rfl,rfl,trivial⟩,trivial,eQ,fun _ h => absurd h (eI _)⟩⟩
  · rw [AK (by omega)] at he
    (repeat' (first|refine wS ?_|refine wR ?_|refine wE ?_|(refine wC rfl ?_ ?_<;>(intro hb;(try simp only [nm] at hb);try (exfalso;omega)))|(refine rg 2 (vV (aM rfl rfl) ?_))|(refine rg 7 (aV ?_))|refine nZ ?_));all_goals first | (exfalso;omega) | exact dC (.inl rfl) rfl (by rw [he];rfl)
theorem zU3 {l : List W} {F : FuncId} {caps : List AV} {p : W → Bool} (hl : l.length ≤ 1000000) (hi : AV.idfL caps = true) (hF : ∀ x,x ∈ l → aS Tryz.prog F (.agg (wA x) :: caps) [] (.b (p x)) []) :
    aS Tryz.prog 136 [.rowE (gE l) 3,.clo (.func F) [] caps] [] (.b (l.any p)) [] := by
  have hc := XX hl hi hF;rw [← J0 p l 0];refine bW T Tryz.func136 rfl rfl rfl rfl ?_
  (repeat' (first|refine wS ?_|refine wR ?_|(refine rg 0 (aV ?_))|(refine rg 1 (dH rfl (vV (by exact fE rfl rfl hc rfl (by simp [AV.idfL,AV.idf,hi]) rfl) ?_));refine vV (gO rfl rfl) (aV ?_))|refine nZ ?_));all_goals first | (exfalso;omega) | exact rQ
theorem zP8 {l : List G} {F : FuncId} {caps : List AV} {p : G → Bool} (hl : l.length ≤ 1000000) (hi : AV.idfL caps = true) (hF : ∀ x,x ∈ l → aS Tryz.prog F (.agg (gA x) :: caps) [] (.b (p x)) []) :
    aS Tryz.prog 84 [.rowE (kE l) 2,.clo (.func F) [] caps] [] (.i (tC p l 0)) [] := by
  have hlen : (kE l).length = l.length := aY _;refine bW T Tryz.func84 rfl rfl rfl rfl ?_
  (repeat' (first|refine wS ?_|refine wB ?_|(refine rg 0 (aV ?_))|(refine rg 1 (mW rfl (qW T rfl (mV ?_))))|refine nZ ?_));refine dQ (X := {k : Nat // k ≤ l.length ∧ tC p l 0 = tC p (l.drop k) k}) (fun k => [(0,.rowE (kE l) 2),(1,.clo (.func F) [] caps),(7,.i (kE l).length),(8,.i k.1)]) (fun _ => []) (fun k => l.length - k.1) ⟨0,by simp,rfl⟩ ⟨[],rfl,⟨rfl,by rw [lA hi];rfl,rfl,rfl,trivial⟩,trivial,eQ,fun _ h => absurd h (eI _)⟩ ?_
  rintro ⟨k,hk,he⟩;dsimp only;by_cases hlt : k < l.length
  · have hc := hF l[k] (aQ hlt);have hg := GB (l := l) hlt;rw [FY hlt] at he;generalize l[k] = y at *;cases hp : p y with
    | true =>
      rw [hp] at hc;rw [hp,if_pos rfl] at he
      (repeat' (first|refine wS ?_|refine wB ?_|refine wK ?_|refine wR ?_|refine wT ?_|(refine wC rfl ?_ ?_<;>(intro hb;(try simp only [nm] at hb);try (exfalso;omega)))|(refine rg 2 (vV (aM rfl rfl) ?_))|(refine rg 3 (mW rfl (aV ?_)))|(refine rg 4 (dH rfl (mW rfl (vV (ix T rfl (by omega) (rB l) hg) (lW T rfl (vV (by exact fE rfl rfl hc rfl (by simp [AV.idfL,AV.idf,hi]) rfl) ?_))))))|(refine rg 5 (mW rfl (aV ?_)))|refine nZ ?_));all_goals first | (exfalso;omega) | exact dC (.inl rfl) rfl (by rw [he];rfl)
    | false =>
      rw [hp] at hc;rw [hp,if_neg (by simp)] at he
      (repeat' (first|refine wS ?_|refine wB ?_|refine wK ?_|refine wU ?_|(refine wC rfl ?_ ?_<;>(intro hb;(try simp only [nm] at hb);try (exfalso;omega)))|(refine rg 2 (vV (aM rfl rfl) ?_))|(refine rg 3 (mW rfl (aV ?_)))|(refine rg 4 (dH rfl (mW rfl (vV (ix T rfl (by omega) (rB l) hg) (lW T rfl (vV (by exact fE rfl rfl hc rfl (by simp [AV.idfL,AV.idf,hi]) rfl) ?_))))))|(refine rg 6 (vV (cC rfl rfl (by omega) (by omega)) (mV ?_)))|refine nZ ?_));all_goals first | (exfalso;omega) | exact ⟨⟨k + 1,hlt,he⟩,by dsimp only;omega,⟨[],rfl,⟨rfl,by rw [lA hi];rfl,rfl,rfl,trivial⟩,trivial,eQ,fun _ h => absurd h (eI _)⟩⟩
  · rw [AK (by omega)] at he
    (repeat' (first|refine wS ?_|refine wR ?_|refine wE ?_|(refine wC rfl ?_ ?_<;>(intro hb;(try simp only [nm] at hb);try (exfalso;omega)))|(refine rg 2 (vV (aM rfl rfl) ?_))|(refine rg 7 (aV ?_))|refine nZ ?_));all_goals first | (exfalso;omega) | exact dC (.inl rfl) rfl (by rw [he];rfl)
theorem zU7 {l : List G} {F : FuncId} {caps : List AV} {p : G → Bool} (hl : l.length ≤ 1000000) (hi : AV.idfL caps = true) (hF : ∀ x,x ∈ l → aS Tryz.prog F (.agg (gA x) :: caps) [] (.b (p x)) []) :
    aS Tryz.prog 66 [.rowE (kE l) 2,.clo (.func F) [] caps] [] (.b (l.any p)) [] := by
  have hc := zP8 hl hi hF;rw [← J0 p l 0];refine bW T Tryz.func66 rfl rfl rfl rfl ?_
  (repeat' (first|refine wS ?_|refine wR ?_|(refine rg 0 (aV ?_))|(refine rg 1 (dH rfl (vV (by exact fE rfl rfl hc rfl (by simp [AV.idfL,AV.idf,hi]) rfl) ?_));refine vV (gO rfl rfl) (aV ?_))|refine nZ ?_));all_goals first | (exfalso;omega) | exact rQ
theorem zP7 {l : List Int} {F : FuncId} {caps : List AV} {p : Int → Bool} (hl : l.length ≤ 1000000) (hi : AV.idfL caps = true) (hF : ∀ x,x ∈ l → aS Tryz.prog F (.i x :: caps) [] (.b (p x)) []) :
    aS Tryz.prog 54 [.rowE (ints l) 1,.clo (.func F) [] caps] [] (.i (tC p l 0)) [] := by
  have hlen : (ints l).length = l.length := aY _;refine bW T Tryz.func54 rfl rfl rfl rfl ?_
  (repeat' (first|refine wS ?_|refine wB ?_|(refine rg 0 (aV ?_))|(refine rg 1 (mW rfl (qW T rfl (mV ?_))))|refine nZ ?_));refine dQ (X := {k : Nat // k ≤ l.length ∧ tC p l 0 = tC p (l.drop k) k}) (fun k => [(0,.rowE (ints l) 1),(1,.clo (.func F) [] caps),(7,.i (ints l).length),(8,.i k.1)]) (fun _ => []) (fun k => l.length - k.1) ⟨0,by simp,rfl⟩ ⟨[],rfl,⟨rfl,by rw [lA hi];rfl,rfl,rfl,trivial⟩,trivial,eQ,fun _ h => absurd h (eI _)⟩ ?_
  rintro ⟨k,hk,he⟩;dsimp only;by_cases hlt : k < l.length
  · have hc := hF l[k] (aQ hlt);have hg := QE (l := l) hlt;rw [FY hlt] at he;generalize l[k] = y at *;cases hp : p y with
    | true =>
      rw [hp] at hc;rw [hp,if_pos rfl] at he
      (repeat' (first|refine wS ?_|refine wB ?_|refine wK ?_|refine wR ?_|refine wT ?_|(refine wC rfl ?_ ?_<;>(intro hb;(try simp only [nm] at hb);try (exfalso;omega)))|(refine rg 2 (vV (aM rfl rfl) ?_))|(refine rg 3 (mW rfl (aV ?_)))|(refine rg 4 (dH rfl (mW rfl (vV (ix T rfl (by omega) (dU l) hg) (lW T rfl (vV (by exact fE rfl rfl hc rfl (by simp [AV.idfL,AV.idf,hi]) rfl) ?_))))))|(refine rg 5 (mW rfl (aV ?_)))|refine nZ ?_));all_goals first | (exfalso;omega) | exact dC (.inl rfl) rfl (by rw [he];rfl)
    | false =>
      rw [hp] at hc;rw [hp,if_neg (by simp)] at he
      (repeat' (first|refine wS ?_|refine wB ?_|refine wK ?_|refine wU ?_|(refine wC rfl ?_ ?_<;>(intro hb;(try simp only [nm] at hb);try (exfalso;omega)))|(refine rg 2 (vV (aM rfl rfl) ?_))|(refine rg 3 (mW rfl (aV ?_)))|(refine rg 4 (dH rfl (mW rfl (vV (ix T rfl (by omega) (dU l) hg) (lW T rfl (vV (by exact fE rfl rfl hc rfl (by simp [AV.idfL,AV.idf,hi]) rfl) ?_))))))|(refine rg 6 (vV (cC rfl rfl (by omega) (by omega)) (mV ?_)))|refine nZ ?_));all_goals first | (exfalso;omega) | exact ⟨⟨k + 1,hlt,he⟩,by dsimp only;omega,⟨[],rfl,⟨rfl,by rw [lA hi];rfl,rfl,rfl,trivial⟩,trivial,eQ,fun _ h => absurd h (eI _)⟩⟩
  · rw [AK (by omega)] at he
    (repeat' (first|refine wS ?_|refine wR ?_|refine wE ?_|(refine wC rfl ?_ ?_<;>(intro hb;(try simp only [nm] at hb);try (exfalso;omega)))|(refine rg 2 (vV (aM rfl rfl) ?_))|(refine rg 7 (aV ?_))|refine nZ ?_));all_goals first | (exfalso;omega) | exact dC (.inl rfl) rfl (by rw [he];rfl)
theorem zU6 {l : List Int} {F : FuncId} {caps : List AV} {p : Int → Bool} (hl : l.length ≤ 1000000) (hi : AV.idfL caps = true) (hF : ∀ x,x ∈ l → aS Tryz.prog F (.i x :: caps) [] (.b (p x)) []) :
    aS Tryz.prog 68 [.rowE (ints l) 1,.clo (.func F) [] caps] [] (.b (l.any p)) [] := by
  have hc := zP7 hl hi hF;rw [← J0 p l 0];refine bW T Tryz.func68 rfl rfl rfl rfl ?_
  (repeat' (first|refine wS ?_|refine wR ?_|(refine rg 0 (aV ?_))|(refine rg 1 (dH rfl (vV (by exact fE rfl rfl hc rfl (by simp [AV.idfL,AV.idf,hi]) rfl) ?_));refine vV (gO rfl rfl) (aV ?_))|refine nZ ?_));all_goals first | (exfalso;omega) | exact rQ
end Go.Proofs.YtmmmeebiobjnbaaGreat
namespace Go.Proofs.YtmmmeebiobjnbaaGreat
open Go Go.Ab Go.Ld Go.Lib Go.Sort Go.RowKit Go.Shelf
theorem R0 (d : List Value) (i j : Nat) (Z : List Value) (hij : i ≤ j) (hj : j ≤ d.length) (hZ : Z.length = j - i) :
    lay (lay d.toArray i (d.drop j)) (i + (d.length - j)) Z = (d.take i ++ d.drop j ++ Z).toArray := by
  apply Array.ext_getElem?;intro t;have l1 : (d.take i).length = i := by simp;omega
  have l2 : (d.drop j).length = d.length - j := by simp
  rw [lay_get? _ _ _ _ (by rw [lay_size];simp;omega),lay_get? _ _ _ _ (by rw [l2];simp;omega),show (d.take i ++ d.drop j ++ Z).toArray[t]? = (d.take i ++ d.drop j ++ Z)[t]? from iQ]
  simp only [hZ,l2];by_cases c1 : t < i
  · rw [if_neg (by omega),if_neg (by omega),aH (by simp;omega),aH (by omega),bZ,if_pos c1,iQ]
  · by_cases c2 : t < i + (d.length - j)
    · rw [if_neg (by omega),if_pos (by omega),aH (by simp;omega),aE (by omega),l1]
    · rw [aE (by simp;omega)]
      simp only [aF,l1,l2];by_cases c3 : t < d.length
      · rw [if_pos (by omega)]
      · rw [if_neg (by omega),if_neg (by omega),Array.getElem?_eq_none (by simp;omega),cX (by omega)]
set_option maxHeartbeats 4000000 in
set_option maxRecDepth 1000000 in
theorem zM2 (blk off cap len i j : Nat) (cs : List Value) (w : World) (hcl0 : cs.length = len * 2) (hH : Holds id w blk off cs.toArray) (h1 : ∀ u,u ∈ cs → u.oneCell' = true) (hcap : len ≤ cap) (hm : cap ≤ 9223372036854775807) (hij : i ≤ j) (hj : j ≤ len) :
    Calls Tryz.prog 139 #[.slice (some ⟨blk,off,none⟩) len cap,.int .i64 i,.int .i64 j] w fun e w' => e = .returned (.slice (some ⟨blk,off,none⟩) (len - (j - i)) cap) ∧ ∃ (q : Nat) (Z : List Value),Z.length = (j - i) * 2 ∧ w' = putRow id (Sort.ahead w q) blk off (cs.take (i * 2) ++ cs.drop (j * 2) ++ Z).toArray := by
  by_cases heq : i = j
  · subst heq;have h0 : Calls Tryz.prog 139 #[.slice (some ⟨blk,off,none⟩) len cap,.int .i64 i,.int .i64 i] w fun e w' => e = .returned (.slice (some ⟨blk,off,none⟩) len cap) ∧ w' = w := by
      clear hH h1
      go_enter Tryz.func139,Tryz.ntmps139
      go_wp2
      all_goals (go_ret;exact ⟨rfl,rfl⟩)
    refine h0.mono ?_;rintro e w' ⟨rfl,rfl⟩;refine ⟨by rw [eB,zC1],0,[],by simp,?_⟩
    rw [List.append_nil,bP];exact (putRow_self id (Sort.ahead w' 0) blk off cs.toArray hH).symm
  · have hlt : i < j := by omega
    obtain ⟨inf,z,t1,t2,t3,t4,t5,t6,t7⟩ := T.tiOk 102 _ rfl;have t22 : Tryz.prog.underlying 103 = some (.slice 102) := T.elemOk _ _ rfl;have hzv : ∀ w,(zeroValue 102).run Tryz.prog w = .ok z w := fun w => by simp [zeroValue,typeInfo,t1,t4]
    have hz2 : z.cells.toList.length = 2 := by rw [t5];rfl
    have hz1 : ∀ u,u ∈ z.cells.toList → u.oneCell' = true := by rw [t5];exact bI.1 rfl
    obtain ⟨_,hZl⟩ := qB (z := z.cells) rfl (by intro h;rw [h] at hz2;cases hz2) (j - i)
    rw [hz2] at hZl;have hji : len - (i + (len - j)) = j - i := by omega
    obtain ⟨Z,hZe⟩ : ∃ Z,Z = (Builtin.zeroCells z.cells (j - i)).toList := ⟨_,rfl⟩;rw [← hZe] at hZl;obtain ⟨news,hnews⟩ : ∃ news,news = cs.drop (j * 2) := ⟨_,rfl⟩;have hlen : news.length = (len - j) * 2 := by rw [hnews,dD];omega
    have hget : ∀ t,t < (len - j) * 2 → news[t]? = some (cs.toArray[j * 2 + t]!) := by
      intro t ht;rw [hnews,dZ,getElem!_pos cs.toArray (j * 2 + t) (by simp;omega),zZ,aB]
    obtain ⟨A,hA,hsrc⟩ : ∃ A : Addr,(if cap = j then some (⟨blk,off,none⟩ : Addr) else some ⟨blk,off + j * 2,none⟩) = some A ∧ Hid (∀ t u,news[t]? = some u → w.drew.cell? (A.add t) = some u) := by
      by_cases h : cap = j
      · refine ⟨⟨blk,off,none⟩,by simp [h],fun t u hu => ?_⟩
        have h0 : news.length = 0 := by rw [hlen];omega
        rw [fP.1 h0] at hu;simp at hu
      · refine ⟨⟨blk,off + j * 2,none⟩,by simp [h],fun t u hu => ?_⟩
        have ht : t < (len - j) * 2 := by
          have := (aA.1 hu).1
          rwa [hlen] at this
        rw [hget t ht] at hu;rw [Addr.add_lit,show off + j * 2 + t = off + (j * 2 + t) by omega]
        exact (hH (j * 2 + t) (by simp;omega)).1.trans hu
    have s1 : Hid (news.length = (len - j) * 2) := hlen;have s2 : Hid (∀ u ∈ news,u.oneCell' = true) := by
      intro u hu;rw [hnews] at hu;exact h1 u (dY hu)
    have s3 : Hid (∀ t,t < news.length → (w.drew.cell? ⟨blk,off + i * 2 + t,none⟩).isSome = true ∧ w.drew.frozen? ⟨blk,off + i * 2 + t,none⟩ = false) := by
      intro t ht;rw [hlen] at ht;rw [dW];exact ⟨by show (w.cell? _).isSome = true;rw [(hH (i * 2 + t) (by simp;omega)).1];rfl,(hH (i * 2 + t) (by simp;omega)).2⟩
    obtain ⟨W1,hW1⟩ : ∃ W1,W1 = w.drew.setCells blk (off + i * 2) news := ⟨_,rfl⟩;have hW1' : W1 = putRow id (Sort.ahead w 1) blk off (lay cs.toArray (i * 2) (cs.drop (j * 2))) := by
      have h := putRow_setCells id (Sort.ahead w 1) blk off (cs.drop (j * 2)) cs.toArray (i * 2) (by simp;omega)
      rw [R9,putRow_self id (Sort.ahead w 1) blk off cs.toArray (holds_ahead id w 1 blk off cs.toArray hH)] at h;rw [hW1,hnews];exact h
    have hH1 : Holds id W1 blk off (lay cs.toArray (i * 2) (cs.drop (j * 2))) := by rw [hW1'];exact holds_putRow id _ blk off cs.toArray _ (holds_ahead id w 1 blk off cs.toArray hH) (lay_size _ _ _)
    have hcl : ∀ ty,(Builtin.clear_ #[103] ty #[.slice (some ⟨blk,off + (i + (len - j)) * 2,none⟩) (len - (i + (len - j))) (cap - (i + (len - j)))]).run Tryz.prog W1 = .ok (.tuple #[]) (W1.setCells blk (off + (i + (len - j)) * 2) Z) :=
      fun ty => by
       rw [hZe,← hji];exact Y4 W1 _ _ ty z t22 hzv (by intro h; rw [h] at hz2; cases hz2) hz1 blk _ _ _ (by omega)
        (fun t ht => by rw [hz2] at ht;rw [dW,(hH1 _ (by rw [lay_size];simp;omega)).1];rfl) (fun t ht => by rw [hz2] at ht;rw [dW];exact (hH1 _ (by rw [lay_size];simp;omega)).2)
    have X : Aside (W1 = putRow id (Sort.ahead w 1) blk off (lay cs.toArray (i * 2) (cs.drop (j * 2)))) := hW1';have hW : Hid (W1 = w.drew.setCells blk (off + i * 2) news) := hW1;have mixed := cO;have hic : i ≤ cap := by omega
    have hjc : j ≤ cap := by omega
    clear hW1 hW1' hH1 hH hget hnews hlen hji hZe
    go_enter Tryz.func139,Tryz.ntmps139
    go_wp2_with fail
    go_region_law_o (refine step_append_room rfl (.tmp 22) (.tmp 25) 103 rfl 102 inf 2 t22 t1 t2 blk off i cap (by simp [Act.eval,Act.put]) A (len - j) (cap - j) news (by simp [Act.eval,Act.put]) s1.out hsrc.out s2.out (by omega) s3.out ?_;rw [← hW.out])
    go_wp2
    go_ret
    refine ⟨by rw [show len - (j - i) = i + (len - j) by omega];rfl,1,Z,hZl,?_⟩
    rw [X.out,← R9 Z,show off + (i + (len - j)) * 2 = off + (i * 2 + (cs.length - j * 2)) by omega,putRow_setCells id _ blk off _ _ _ (by rw [lay_size,nS];omega),R9,
      R0 cs (i * 2) (j * 2) _ (by omega) (by omega) (by omega)]
theorem zW2 (l : List SP) (i j : Nat) (hij : i ≤ j) (hj : j ≤ l.length) (hne : l ≠ []) :
    aS Tryz.prog 139 [.sl 0 0 l.length 2,.i (i : Int),.i (j : Int)] [.arr (fJ l) 2] (.sl 0 0 (l.length - (j - i)) 2) [.arr (fJ (l.take i ++ l.drop j)) 2] := by
  have h := E6 (sz := 2) ⟨_,Tryz.func139,by kernel_rfl,by kernel_rfl⟩ zM2 (fJ l) (lG l) (CR l) i j hij (by rw [aY];exact hj) (fun h => hne (mI.1 h))
  rw [aY,← kK,← yG1,← bY] at h;exact h
set_option maxHeartbeats 4000000 in
set_option maxRecDepth 1000000 in
theorem zM3 (blk off cap len i j : Nat) (cs : List Value) (w : World) (hcl0 : cs.length = len * 2) (hH : Holds id w blk off cs.toArray) (h1 : ∀ u,u ∈ cs → u.oneCell' = true) (hcap : len ≤ cap) (hm : cap ≤ 9223372036854775807) (hij : i ≤ j) (hj : j ≤ len) :
    Calls Tryz.prog 83 #[.slice (some ⟨blk,off,none⟩) len cap,.int .i64 i,.int .i64 j] w fun e w' => e = .returned (.slice (some ⟨blk,off,none⟩) (len - (j - i)) cap) ∧ ∃ (q : Nat) (Z : List Value),Z.length = (j - i) * 2 ∧ w' = putRow id (Sort.ahead w q) blk off (cs.take (i * 2) ++ cs.drop (j * 2) ++ Z).toArray := by
  by_cases heq : i = j
  · subst heq;have h0 : Calls Tryz.prog 83 #[.slice (some ⟨blk,off,none⟩) len cap,.int .i64 i,.int .i64 i] w fun e w' => e = .returned (.slice (some ⟨blk,off,none⟩) len cap) ∧ w' = w := by
      clear hH h1
      go_enter Tryz.func83,Tryz.ntmps83
      go_wp2
      all_goals (go_ret;exact ⟨rfl,rfl⟩)
    refine h0.mono ?_;rintro e w' ⟨rfl,rfl⟩;refine ⟨by rw [eB,zC1],0,[],by simp,?_⟩
    rw [List.append_nil,bP];exact (putRow_self id (Sort.ahead w' 0) blk off cs.toArray hH).symm
  · have hlt : i < j := by omega
    obtain ⟨inf,z,t1,t2,t3,t4,t5,t6,t7⟩ := T.tiOk 108 _ rfl;have t22 : Tryz.prog.underlying 98 = some (.slice 108) := T.elemOk _ _ rfl;have hzv : ∀ w,(zeroValue 108).run Tryz.prog w = .ok z w := fun w => by simp [zeroValue,typeInfo,t1,t4]
    have hz2 : z.cells.toList.length = 2 := by rw [t5];rfl
    have hz1 : ∀ u,u ∈ z.cells.toList → u.oneCell' = true := by rw [t5];exact bI.1 rfl
    obtain ⟨_,hZl⟩ := qB (z := z.cells) rfl (by intro h;rw [h] at hz2;cases hz2) (j - i)
    rw [hz2] at hZl;have hji : len - (i + (len - j)) = j - i := by omega
    obtain ⟨Z,hZe⟩ : ∃ Z,Z = (Builtin.zeroCells z.cells (j - i)).toList := ⟨_,rfl⟩;rw [← hZe] at hZl;obtain ⟨news,hnews⟩ : ∃ news,news = cs.drop (j * 2) := ⟨_,rfl⟩;have hlen : news.length = (len - j) * 2 := by rw [hnews,dD];omega
    have hget : ∀ t,t < (len - j) * 2 → news[t]? = some (cs.toArray[j * 2 + t]!) := by
      intro t ht;rw [hnews,dZ,getElem!_pos cs.toArray (j * 2 + t) (by simp;omega),zZ,aB]
    obtain ⟨A,hA,hsrc⟩ : ∃ A : Addr,(if cap = j then some (⟨blk,off,none⟩ : Addr) else some ⟨blk,off + j * 2,none⟩) = some A ∧ Hid (∀ t u,news[t]? = some u → w.drew.cell? (A.add t) = some u) := by
      by_cases h : cap = j
      · refine ⟨⟨blk,off,none⟩,by simp [h],fun t u hu => ?_⟩
        have h0 : news.length = 0 := by rw [hlen];omega
        rw [fP.1 h0] at hu;simp at hu
      · refine ⟨⟨blk,off + j * 2,none⟩,by simp [h],fun t u hu => ?_⟩
        have ht : t < (len - j) * 2 := by
          have := (aA.1 hu).1
          rwa [hlen] at this
        rw [hget t ht] at hu;rw [Addr.add_lit,show off + j * 2 + t = off + (j * 2 + t) by omega]
        exact (hH (j * 2 + t) (by simp;omega)).1.trans hu
    have s1 : Hid (news.length = (len - j) * 2) := hlen;have s2 : Hid (∀ u ∈ news,u.oneCell' = true) := by
      intro u hu;rw [hnews] at hu;exact h1 u (dY hu)
    have s3 : Hid (∀ t,t < news.length → (w.drew.cell? ⟨blk,off + i * 2 + t,none⟩).isSome = true ∧ w.drew.frozen? ⟨blk,off + i * 2 + t,none⟩ = false) := by
      intro t ht;rw [hlen] at ht;rw [dW];exact ⟨by show (w.cell? _).isSome = true;rw [(hH (i * 2 + t) (by simp;omega)).1];rfl,(hH (i * 2 + t) (by simp;omega)).2⟩
    obtain ⟨W1,hW1⟩ : ∃ W1,W1 = w.drew.setCells blk (off + i * 2) news := ⟨_,rfl⟩;have hW1' : W1 = putRow id (Sort.ahead w 1) blk off (lay cs.toArray (i * 2) (cs.drop (j * 2))) := by
      have h := putRow_setCells id (Sort.ahead w 1) blk off (cs.drop (j * 2)) cs.toArray (i * 2) (by simp;omega)
      rw [R9,putRow_self id (Sort.ahead w 1) blk off cs.toArray (holds_ahead id w 1 blk off cs.toArray hH)] at h;rw [hW1,hnews];exact h
    have hH1 : Holds id W1 blk off (lay cs.toArray (i * 2) (cs.drop (j * 2))) := by rw [hW1'];exact holds_putRow id _ blk off cs.toArray _ (holds_ahead id w 1 blk off cs.toArray hH) (lay_size _ _ _)
    have hcl : ∀ ty,(Builtin.clear_ #[98] ty #[.slice (some ⟨blk,off + (i + (len - j)) * 2,none⟩) (len - (i + (len - j))) (cap - (i + (len - j)))]).run Tryz.prog W1 = .ok (.tuple #[]) (W1.setCells blk (off + (i + (len - j)) * 2) Z) :=
      fun ty => by
       rw [hZe,← hji];exact Y4 W1 _ _ ty z t22 hzv (by intro h; rw [h] at hz2; cases hz2) hz1 blk _ _ _ (by omega)
        (fun t ht => by rw [hz2] at ht;rw [dW,(hH1 _ (by rw [lay_size];simp;omega)).1];rfl) (fun t ht => by rw [hz2] at ht;rw [dW];exact (hH1 _ (by rw [lay_size];simp;omega)).2)
    have X : Aside (W1 = putRow id (Sort.ahead w 1) blk off (lay cs.toArray (i * 2) (cs.drop (j * 2)))) := hW1';have hW : Hid (W1 = w.drew.setCells blk (off + i * 2) news) := hW1;have mixed := cO;have hic : i ≤ cap := by omega
    have hjc : j ≤ cap := by omega
    clear hW1 hW1' hH1 hH hget hnews hlen hji hZe
    go_enter Tryz.func83,Tryz.ntmps83
    go_wp2_with fail
    go_region_law_o (refine step_append_room rfl (.tmp 22) (.tmp 25) 98 rfl 108 inf 2 t22 t1 t2 blk off i cap (by simp [Act.eval,Act.put]) A (len - j) (cap - j) news (by simp [Act.eval,Act.put]) s1.out hsrc.out s2.out (by omega) s3.out ?_;rw [← hW.out])
    go_wp2
    go_ret
    refine ⟨by rw [show len - (j - i) = i + (len - j) by omega];rfl,1,Z,hZl,?_⟩
    rw [X.out,← R9 Z,show off + (i + (len - j)) * 2 = off + (i * 2 + (cs.length - j * 2)) by omega,putRow_setCells id _ blk off _ _ _ (by rw [lay_size,nS];omega),R9,
      R0 cs (i * 2) (j * 2) _ (by omega) (by omega) (by omega)]
theorem zW3 (l : List G) (i j : Nat) (hij : i ≤ j) (hj : j ≤ l.length) (hne : l ≠ []) :
    aS Tryz.prog 83 [.sl 0 0 l.length 2,.i (i : Int),.i (j : Int)] [.arr (kE l) 2] (.sl 0 0 (l.length - (j - i)) 2) [.arr (kE (l.take i ++ l.drop j)) 2] := by
  have h := E6 (sz := 2) ⟨_,Tryz.func83,by kernel_rfl,by kernel_rfl⟩ zM3 (kE l) (rB l) (YN l) i j hij (by rw [aY];exact hj) (fun h => hne (mI.1 h))
  rw [aY,← kK,← yG1,← bY] at h;exact h
end Go.Proofs.YtmmmeebiobjnbaaGreat
namespace Go.Proofs.YtmmmeebiobjnbaaGreat
open Go Go.Ab Go.Shelf Go.Proofs
shelf_lay Lays2.n23 Nm2 23 at Tryz as laysDelete
theorem ZD (l : List Int) (i j : Nat) (hij : i ≤ j) (hj : j ≤ l.length) (hne : l ≠ []) :
    aS Tryz.prog 138 [.sl 0 0 l.length 1,.i (i : Int),.i (j : Int)] [.arr (ints l) 1] (.sl 0 0 (l.length - (j - i)) 1) [.arr (ints (l.take i ++ l.drop j)) 1] :=
  HF ⟨_,Tryz.func138,by kernel_rfl,by kernel_rfl⟩ (fun blk off cap i j zs w h1 h2 h3 h4 h5 => Any.slices_Delete_int laysDelete blk off cap i j zs w h1 h2 h3 h4 h5) l i j hij hj hne
end Go.Proofs.YtmmmeebiobjnbaaGreat
namespace Go.Ld
open Go.Ab Go.Proofs.YtmmmeebiobjnbaaGreat
abbrev gH (q : W → Bool) (l : List W) : List W := l.filter fun x => !q x
theorem xD {q : W → Bool} {l : List W} {k : Nat} (h : k < l.length) : gH q (l.take (k + 1)) = if q l[k] then gH q (l.take k) else gH q (l.take k) ++ [l[k]] := by
  unfold gH;rw [aU h,tW];cases e : q l[k] <;> simp [e]
theorem KH (q : W → Bool) (l : List W) (k : Nat) : (gH q (l.take k)).length ≤ k := bL (fQ _ _) (by simp;omega)
theorem B9 {α : Type} (p : α → Bool) : ∀ (l : List α) (k : Nat), (tC p l k = -1 ∧ ∀ x, x ∈ l → p x = false) ∨ ∃ (j : Nat) (hj : j < l.length), tC p l k = ((k + j : Nat) : Int) ∧ p l[j] = true ∧ ∀ x, x ∈ l.take j → p x = false
  | [],k => .inl ⟨rfl,fun x hx => by cases hx⟩
  | y :: l,k => by
    unfold tC;cases hp : p y with
    | true => exact .inr ⟨0,by simp,by rw [if_pos rfl];rfl,by simpa using hp,fun x hx => by simp at hx⟩
    | false =>
      rw [if_neg (by simp)]
      rcases B9 p l (k + 1) with ⟨h1,h2⟩ | ⟨j,hj,h1,h2,h3⟩
      · refine .inl ⟨h1,fun x hx => ?_⟩
        rcases bS.1 hx with rfl | hx
        · exact hp
        · exact h2 x hx
      · refine .inr ⟨j + 1,by simp;omega,by rw [h1];omega,by simpa using h2,fun x hx => ?_⟩
        rw [oK] at hx;rcases bS.1 hx with rfl | hx
        · exact hp
        · exact h3 x hx
def N8 (m x : W) : W := if x.2.1 < m.2.1 then x else m
theorem KA : ∀ (l : List W) (f : W), (l.foldl N8 f).2.1 = l.foldl (fun m x => if x.2.1 < m then x.2.1 else m) f.2.1
  | [],_ => rfl
  | x :: l,f => by
    rw [D5,D5,KA l];congr 1;unfold N8;split <;> rfl
theorem TZ {l : List W} {f : W} {k : Nat} (h : k < l.length) : (l.take (k + 1)).foldl N8 f = N8 ((l.take k).foldl N8 f) l[k] := by
  rw [aU h,zC8];rfl
end Go.Ld
namespace Go.Proofs.YtmmmeebiobjnbaaGreat
open Go Go.Ab Go.Ld
attribute [local irreducible] VC AW cF aS
set_option maxHeartbeats 4000000
theorem zY2 {F : FuncId} {caps : List AV} {q : W → Bool} (l : List W) (hl : l.length ≤ 1000000) (hi : AV.idfL caps = true) (hp : AV.plnL caps = true) (hF : ∀ x,x ∈ l → aS Tryz.prog F (.agg (wA x) :: caps) [] (.b (q x)) []) :
    aS Tryz.prog 100 [.sl 0 0 l.length 3,.clo (.func F) [] caps] [.arr (gE l) 3] (.sl 0 0 (gH q l).length 3) [.arr (gE (gH q l)) 3] := by
  have hll : (gE l).length = l.length := fF l;have hix := XX hl hi hF;have hvw : nP [.arr (gE l) 3] (.sl 0 0 l.length 3) (.rowE (gE l) 3) := nW rfl hll.symm (qD (fun _ => rfl) _);refine bW T Tryz.func100 rfl rfl rfl rfl ?_;rcases B9 q l 0 with ⟨h1,h2⟩ | ⟨j,hj,h1,h2,h3⟩
  · rw [h1] at hix;have hk : gH q l = l := oL.2 fun x hx => by rw [h2 x hx];rfl
    rw [hk]
    (repeat' (first|refine wS ?_|refine wR ?_|refine wT ?_|(refine rg 0 (aV ?_))|(refine rg 1 (dH rfl (vV (by exact fB rfl rfl hix (.cons hvw (.cons (.clo .nil (kV _ hp)) .nil)) rfl rfl) ?_));refine aV ?_)|(refine rg 2 (mW rfl (vV (dX rfl rfl) ?_)))|(refine rg 3 (mW rfl (aV ?_)))|refine nZ ?_));all_goals first | (exfalso;omega) | exact ⟨.inl rfl,[0],_,rfl,rfl,rfl,⟨.inr (aC rfl rfl (bU _)),trivial⟩,by decide,lJ⟩
  · rw [h1,Nat.zero_add] at hix;have hk0 : gH q (l.take (j + 1)) = l.take j := by
      rw [xD hj,if_pos h2];exact oL.2 fun x hx => by rw [h3 x hx];rfl
    have hkl : (gH q (l.take (j + 1))).length = j := by rw [hk0];simp;omega
    have hka : gH q (l.take (j + 1)) ++ l.drop (gH q (l.take (j + 1))).length = l := by rw [hkl,hk0,bP]
    have hkf : gH q l = gH q (l.take l.length) := by rw [dA]
    rw [hkf]
    (repeat' (first|refine wS ?_|refine wB ?_|refine wK ?_|refine wU ?_|(refine rg 0 (aV ?_))|(refine rg 1 (dH rfl (vV (by exact fB rfl rfl hix (.cons hvw (.cons (.clo .nil (kV _ hp)) .nil)) rfl rfl) ?_));refine aV ?_)|(refine rg 2 (mW rfl (vV (dX rfl rfl) ?_)))|(refine iA 4 rfl rfl rfl (by omega) (by omega) ?_)|refine nZ ?_));all_goals try (exfalso;omega)
    refine dQ (X := {m : Nat // m ≤ l.length}) (fun m => [(0,.sl 0 0 l.length 3),(1,.clo (.func F) [] caps),(5,.i (gH q (l.take m.1)).length),(6,.i m.1)]) (fun m => [.arr (gE (gH q (l.take m.1) ++ l.drop (gH q (l.take m.1)).length)) 3]) (fun m => l.length - m.1) ⟨j + 1,hj⟩ ⟨[0],rfl,⟨rfl,by rw [lA hi];rfl,by dsimp only;rw [hkl];rfl,rfl,trivial⟩,⟨.inr (aC rfl (by dsimp only;rw [hka]) (bU _)),trivial⟩,by decide,lJ⟩ ?_
    rintro ⟨m,hm⟩;dsimp only;have hle := KH q l m;by_cases hlt : m < l.length
    · have hs := xD (q := q) hlt;have hget := ON (G := gH q (l.take m)) (l := l) (m := m) (i := 0 + (m : Int).toNat) hle hlt (by omega)
      have hg2 := ON (G := gH q (l.take m)) (l := l) (m := (gH q (l.take m)).length) (i := 0 + (((gH q (l.take m)).length : Nat) : Int).toNat) (aX _) (by omega) (by omega)
      rw [oQ hlt] at hget;have hset := zS1 (G := gH q (l.take m)) (l := l) (x := l[m]) (j := (((gH q (l.take m)).length : Nat) : Int)) (by omega) rfl
      have hc := hF l[m] (aQ hlt);have hal := TG (G := gH q (l.take m)) (l := l) (by omega)
      generalize l[m] = x at *;generalize l.getD (gH q (l.take m)).length w0 = y at *;generalize hG : gH q (l.take m) = G at *;generalize hA : gE (G ++ l.drop G.length) = A at *;cases e : q x
      · rw [e] at hc hs;rw [if_neg (by simp)] at hs
        (repeat' (first|refine wS ?_|refine wB ?_|refine wK ?_|refine wT ?_|(refine wC rfl ?_ ?_<;>(intro hb;(try simp only [nm] at hb);try (exfalso;omega)))|(refine rg 5 (dH rfl (qW T rfl (vV (aM rfl rfl) ?_))))|(refine rg 7 (dH rfl (vV (by exact aK T rfl rfl rfl rfl rfl (by omega) (by omega)) ?_));refine vV (by exact aJ T rfl rfl (bM rfl hget) rfl) ?_;refine cD (cK T rfl) rfl (bA T rfl rfl rfl rfl rfl rfl (by decide) rfl ?_))|(refine rg 8 (mW rfl (vV (aJ T rfl rfl rfl rfl) (vV (by exact fE rfl rfl hc rfl (by simp [AV.idfL,AV.idf,hi]) rfl) ?_)));refine vV (dI rfl) ?_)|(refine rg 9 (dH rfl (vV (aJ T rfl rfl rfl rfl) (vV (by exact aK T rfl rfl rfl rfl rfl (by omega) (by omega)) ?_)));refine bA T rfl rfl rfl rfl rfl rfl (by decide) (lZ rfl hg2 rfl) ?_)|(refine iA 10 rfl rfl rfl (by omega) (by omega) ?_)|(refine iA 6 rfl rfl rfl (by omega) (by omega) ?_)|refine nZ ?_));all_goals try (exfalso;omega)
        all_goals exact ⟨⟨m + 1,hlt⟩,by dsimp only;omega,[0],rfl,⟨rfl,by rw [lA hi];rfl,by rw [hs];simp only [aF];rfl,rfl,trivial⟩,⟨.inr (aC rfl (by rw [hs];exact hset) (bU _)),trivial⟩,by decide,lJ⟩
      · rw [e] at hc hs;rw [if_pos rfl] at hs
        (repeat' (first|refine wS ?_|refine wB ?_|refine wK ?_|refine wU ?_|(refine wC rfl ?_ ?_<;>(intro hb;(try simp only [nm] at hb);try (exfalso;omega)))|(refine rg 5 (dH rfl (qW T rfl (vV (aM rfl rfl) ?_))))|(refine rg 7 (dH rfl (vV (by exact aK T rfl rfl rfl rfl rfl (by omega) (by omega)) ?_));refine vV (by exact aJ T rfl rfl (bM rfl hget) rfl) ?_;refine cD (cK T rfl) rfl (bA T rfl rfl rfl rfl rfl rfl (by decide) rfl ?_))|(refine rg 8 (mW rfl (vV (aJ T rfl rfl rfl rfl) (vV (by exact fE rfl rfl hc rfl (by simp [AV.idfL,AV.idf,hi]) rfl) ?_)));refine vV (dI rfl) ?_)|(refine iA 6 rfl rfl rfl (by omega) (by omega) ?_)|refine nZ ?_));all_goals try (exfalso;omega)
        all_goals exact ⟨⟨m + 1,hlt⟩,by dsimp only;omega,[0],rfl,⟨rfl,by rw [lA hi];rfl,by rw [hs];rfl,rfl,trivial⟩,⟨.inr (aC rfl (by rw [hs];exact hA.symm) (bU _)),trivial⟩,by decide,lJ⟩
    · obtain rfl : m = l.length := by omega
      have hal := TG (G := gH q (l.take l.length)) (l := l) (by omega)
      have htk := VN (G := gH q (l.take l.length)) (l := l);generalize gH q (l.take l.length) = G at *
      (repeat' (first|refine wS ?_|refine wR ?_|refine wE ?_|(refine wC rfl ?_ ?_<;>(intro hb;(try simp only [nm] at hb);try (exfalso;omega)))|(refine rg 5 (dH rfl (qW T rfl (vV (aM rfl rfl) ?_))))|(refine rg 11 (dH rfl (vV (by exact jM T rfl rfl rfl rfl rfl rfl (by omega) (by omega) (by omega)) ?_));refine M1 T rfl rfl rfl ⟨rfl,rfl,by decide⟩ rfl (by rw [hal];omega) ?_)|(refine rg 12 (dH rfl (vV (by exact jM T rfl rfl rfl rfl rfl rfl (by omega) (by omega) (by omega)) ?_));refine aV ?_)|refine nZ ?_));all_goals try (exfalso;omega)
      all_goals exact ⟨.inl rfl,[0],_,rfl,(by show AV.sl 0 0 ((G.length : Int) - 0).toNat 3 = AV.sl 0 0 G.length 3;rw [show ((G.length : Int) - 0).toNat = G.length by omega]),rfl,⟨.inr (aC rfl htk (bU _)),trivial⟩,by decide,lJ⟩
abbrev yA7 : AV := .clo (.func 134) [] []
theorem UY {f : W} {l : List W} {k : Nat} (h : k < l.length) : (gE (f :: l))[((k : Int) + 1).toNat]? = some (wA l[k]) := by
  rw [show ((k : Int) + 1).toNat = k + 1 by omega];simp [h]
theorem yA6 (f : W) (l : List W) (hl : l.length ≤ 1000000) : aS Tryz.prog 133 [.rowE (gE (f :: l)) 3,yA7] [] (MK (l.foldl N8 f)) [] := by
  have hll : (gE (f :: l)).length = l.length + 1 := by simp
  have hg0 : (gE (f :: l))[(0 : Int).toNat]? = some (wA f) := rfl;refine bW T Tryz.func133 rfl rfl rfl rfl ?_
  (repeat' (first|refine wS ?_|refine wB ?_|refine wK ?_|refine wU ?_|(refine rg 0 (cD (cK T rfl) rfl ?_))|(refine rg 1 (mW rfl (qW T rfl (vV (aM rfl rfl) ?_))))|(refine rg 3 (mW rfl (vV (ix T rfl (by omega) (pD _) hg0) (lW T rfl (cD (cK T rfl) rfl (bA T rfl rfl rfl rfl rfl rfl (by decide) rfl ?_))))))|(refine rg 4 (aV ?_))|refine nZ ?_));all_goals try (exfalso;omega)
  refine dQ (X := {k : Nat // k ≤ l.length}) (fun k => [(0,.rowE (gE (f :: l)) 3),(1,yA7),(4,.ptr 0 0),(5,.ptr 1 0),(6,.i ((k.1 : Int) + 1))]) (fun k => [.cells [.nils,.i 0,.nils],.cells (wA ((l.take k.1).foldl N8 f))]) (fun k => l.length - k.1) ⟨0,cM _⟩ ⟨[0,1],rfl,by (repeat (first | exact trivial | refine ⟨rfl,?_⟩)),⟨.inr rfl,.inr rfl,trivial⟩,by decide,kQ _⟩ ?_
  rintro ⟨k,hk⟩;dsimp only;by_cases hlt : k < l.length
  · have hs := TZ (f := f) hlt;have hg := UY (f := f) hlt;have hc := XS l[k] ((l.take k).foldl N8 f);generalize l[k] = x at *;generalize (l.take k).foldl N8 f = m at *;by_cases h0 : x.2.1 < m.2.1
    · have hv : cI x.2.1 m.2.1 = -1 := by unfold cI;rw [if_pos h0]
      rw [hv] at hc;rw [N8,if_pos h0] at hs
      (repeat' (first|refine wS ?_|refine wB ?_|refine wK ?_|refine wT ?_|(refine wC rfl ?_ ?_<;>(intro hb;(try simp only [nm] at hb);try (exfalso;omega)))|(refine rg 5 (dH rfl (qW T rfl (vV (aM rfl rfl) ?_))))|(refine cH (id := 7) 33 [[],[],[],[1,2],[1,2,3],[],rN 6,rN 7] (rM 20 8) [[],[20],[20,21],[20],[20],rM 20 5,[],[]] cO rfl (by decide +kernel) (dN rfl (dN rfl (dN rfl (dV rfl (ix T rfl (by omega) (pD _) hg) (dO T rfl (dO T rfl (dV rfl (kC (hc)) (dV rfl (aM rfl rfl) (dE ?_))))))))))|(refine rg 8 (dH rfl (vV (ix T rfl (by omega) (pD _) hg) (lW T rfl (bA T rfl rfl rfl rfl rfl rfl (by decide) rfl ?_)))))|(refine iA 6 rfl rfl rfl (by omega) (by omega) ?_)|refine nZ ?_));all_goals try (exfalso;omega)
      all_goals exact ⟨⟨k + 1,hlt⟩,by dsimp only;omega,[0,1],rfl,by (repeat (first | exact trivial | refine ⟨rfl,?_⟩)),⟨.inr rfl,.inr (by dsimp only;rw [hs];rfl),trivial⟩,by decide,kQ _⟩
    · have hv : 0 ≤ cI x.2.1 m.2.1 := by unfold cI;rw [if_neg h0];split <;> omega
      rw [N8,if_neg h0] at hs;generalize cI x.2.1 m.2.1 = v at *
      (repeat' (first|refine wS ?_|refine wB ?_|refine wK ?_|(refine wC rfl ?_ ?_<;>(intro hb;(try simp only [nm] at hb);try (exfalso;omega)))|(refine rg 5 (dH rfl (qW T rfl (vV (aM rfl rfl) ?_))))|(refine cH (id := 7) 33 [[],[],[],[1,2],[1,2,3],[],rN 6,rN 7] (rM 20 8) [[],[20],[20,21],[20],[20],rM 20 5,[],[]] cO rfl (by decide +kernel) (dN rfl (dN rfl (dN rfl (dV rfl (ix T rfl (by omega) (pD _) hg) (dO T rfl (dO T rfl (dV rfl (kC (hc)) (dV rfl (aM rfl rfl) (dE ?_))))))))))|(refine iA 6 rfl rfl rfl (by omega) (by omega) ?_)|refine nZ ?_));all_goals try (exfalso;omega)
      all_goals exact ⟨⟨k + 1,hlt⟩,by dsimp only;omega,[0,1],rfl,by (repeat (first | exact trivial | refine ⟨rfl,?_⟩)),⟨.inr rfl,.inr (by dsimp only;rw [hs];rfl),trivial⟩,by decide,kQ _⟩
  · obtain rfl : k = l.length := by omega
    rw [dA];generalize l.foldl N8 f = m at *
    (repeat' (first|refine wS ?_|refine wR ?_|refine wE ?_|(refine wC rfl ?_ ?_<;>(intro hb;(try simp only [nm] at hb);try (exfalso;omega)))|(refine rg 5 (dH rfl (qW T rfl (vV (aM rfl rfl) ?_))))|(refine rg 9 (lW T rfl (bA T rfl rfl rfl rfl rfl rfl (by decide) rfl ?_)))|refine nZ ?_));all_goals first | (exfalso;omega) | exact ⟨.inl rfl,[],_,rfl,rfl,rfl,trivial,by decide,kQ _⟩
theorem yI1 : NU Tryz.prog 105 1 = some (3,1) := by kernel_rfl
theorem QD (g : G) (hne : g.2 ≠ []) (hl : g.2.length ≤ 1000000) : aS Tryz.prog 99 [UW g] [] (.i (gJ g)) [] := by
  obtain ⟨b,ws⟩ := g;cases ws with
  | nil => exact absurd rfl hne
  | cons f l =>
    have hc := yA6 f l (by simp at hl;omega)
    show aS _ _ _ _ (.i (l.foldl (fun m x => if x.2.1 < m then x.2.1 else m) f.2.1)) []
    rw [← KA];generalize l.foldl N8 f = m at *;refine bW T Tryz.func99 rfl rfl rfl rfl ?_
    (repeat' (first|refine wS ?_|refine wR ?_|(refine rg 0 (cD (cQ rfl rfl) rfl (aV ?_)))|(refine rg 1 (iB T rfl (vV (kC (hc)) (vV (by exact TW T rfl yI1 rfl rfl) ?_)));refine aV ?_)|refine nZ ?_));all_goals first | (exfalso;omega) | exact rQ
end Go.Proofs.YtmmmeebiobjnbaaGreat
namespace Go.Ld
open Go.Ab Go.Proofs.YtmmmeebiobjnbaaGreat
def zS (g : G) : Int := match iI g with
  | some k => (k : Int)
  | none => -1
theorem LL {g : G} (h : g.1.length < 2 ∨ g.2 = []) : zS g = -1 := by unfold zS iI;rw [if_pos h]
theorem ZJ {g : G} {k : Nat} (h : ¬ (g.1.length < 2 ∨ g.2 = [])) (hk : k < g.1.length) (h1 : ∀ j,j < k → zA g j = false) (h2 : zA g k = true) : zS g = k := by
  unfold zS iI;rw [if_neg h,List.find?_range_eq_some.2 ⟨h2,by simpa using hk,fun j hj => by simp [h1 j hj]⟩]
theorem UI {g : G} (h : ¬ (g.1.length < 2 ∨ g.2 = [])) (h1 : ∀ j,j < g.1.length → zA g j = false) : zS g = -1 := by
  unfold zS iI;rw [if_neg h,List.find?_range_eq_none.2 (fun j hj => by simp [h1 j hj])]
def EH (f : W) (i : Nat) (w : W) : Bool := !decide (gP w i = gP f i ∧ gC w i = gC f i)
theorem NA {bs : List Int} {f : W} {l : List W} {i : Nat} : zA (bs,f :: l) i = !(f :: l).any (EH f i) := by
  show (f :: l).all (fun w => decide (gP w i = gP f i ∧ gC w i = gC f i)) = _;rw [List.not_any_eq_all_not];congr 1;funext w;simp [EH]
end Go.Ld
namespace Go.Proofs.YtmmmeebiobjnbaaGreat
open Go Go.Ab Go.Ld
attribute [local irreducible] VC AW cF aS wJ
set_option maxHeartbeats 4000000
theorem zZ6 : wJ Tryz.prog 102 2 := by unfold wJ;kernel_rfl
theorem OH (w f : W) {i : Nat} (h1 : i < w.1.length) (h2 : i < w.2.2.length) (h3 : i < f.1.length) (h4 : i < f.2.2.length) (hs : L9 w) (hf : L9 f) :
    aS Tryz.prog 137 [MK w,.pr [.i i] 0,.pr (wA f) 0] [] (.b (EH f i w)) [] := by
  obtain ⟨p,m,c⟩ := w;obtain ⟨p',m',c'⟩ := f;dsimp only at h1 h2 h3 h4;unfold L9 at hs hf;dsimp only at hs hf;have hlp : (ints p).length = p.length := cW _;have hlp' : (ints p').length = p'.length := cW _;have hlc : (fJ c).length = c.length := iH _;have hlc' : (fJ c').length = c'.length := iH _;have q1 := qG (l := p) (j := (i : Int)) (i := i) 0 h1 rfl;have q2 := qG (l := p') (j := (i : Int)) (i := i) 0 h3 rfl;have q3 := vE (l := c) (j := (i : Int)) (i := i) h2 rfl;have q4 := vE (l := c') (j := (i : Int)) (i := i) h4 rfl;have hd : EH (p',m',c') i (p,m,c) = !decide (p.getD i 0 = p'.getD i 0 ∧ c.getD i (0,0) = c'.getD i (0,0)) := rfl;rw [hd];generalize p.getD i 0 = x at *;generalize p'.getD i 0 = y at *;generalize hr : c.getD i (0,0) = r at *;generalize hr' : c'.getD i (0,0) = r' at *;obtain ⟨a,b⟩ := r;obtain ⟨a',b'⟩ := r';dsimp only at q3 q4;by_cases h : x = y
  · rw [show (!decide (x = y ∧ (a,b) = (a',b'))) = !decide (a = a' ∧ b = b') by simp [h]]
    refine bW T Tryz.func137 rfl rfl rfl rfl ?_
    (repeat' (first|refine wS ?_|refine wR ?_|(refine rg 0 (cD (cQ rfl rfl) rfl (aV ?_)))|(refine cH (id := 1) 29 yL8 (rM 5 24) yL9 cO rfl (by decide +kernel) (dP T rfl (dO T rfl (dO T rfl (dV rfl (ix T rfl (by omega) (dU p) q1) (dO T rfl (dP T rfl (dO T rfl (dO T rfl (dV rfl (ix T rfl (by omega) (dU p') q2) ?_)))))))));refine dO T rfl (dV rfl (C1 rfl rfl h) (dN rfl (tP T rfl (tO T rfl (tO T rfl (dT rfl (ix T rfl (by omega) (lG c) q3) (tO T rfl (tP T rfl (tL T ?_)))))))));refine tO T rfl (dT rfl (ix T rfl (by omega) (lG c') q4) (tO T rfl (dT rfl (zK0 zZ6 rfl rfl) (dV rfl (fD rfl rfl) (dE ?_)))));refine aV ?_)|refine nZ ?_));all_goals first | (exfalso;omega) | exact rQ
  · rw [show (!decide (x = y ∧ (a,b) = (a',b'))) = true by simp [h]]
    refine bW T Tryz.func137 rfl rfl rfl rfl ?_
    (repeat' (first|refine wS ?_|refine wR ?_|(refine rg 0 (cD (cQ rfl rfl) rfl (aV ?_)))|(refine cH (id := 1) 29 yL8 (rM 5 24) yL9 cO rfl (by decide +kernel) (dP T rfl (dO T rfl (dO T rfl (dV rfl (ix T rfl (by omega) (dU p) q1) (dO T rfl (dP T rfl (dO T rfl (dO T rfl (dV rfl (ix T rfl (by omega) (dU p') q2) ?_)))))))));refine dO T rfl (dV rfl (V0 rfl rfl h) (dN rfl (tG rfl (tG rfl (tG rfl (tG rfl (tG rfl (tG rfl (dG ?_)))))))));refine tG rfl (tG rfl (tG rfl (tG rfl (dV rfl (iT rfl rfl) (dE ?_)))));refine aV ?_)|refine nZ ?_));all_goals first | (exfalso;omega) | exact rQ
structure zX8 (g : G) : Prop where
  b : g.1.length ≤ 1000
  w : g.2.length ≤ 1000000
  p : ∀ w,w ∈ g.2 → w.1.length = g.1.length
  c : ∀ w,w ∈ g.2 → w.2.2.length = g.1.length
theorem zX8.sm {g : G} (h : zX8 g) {w : W} (hw : w ∈ g.2) : L9 w := ⟨by have := h.p w hw;have := h.b;omega,by have := h.c w hw;have := h.b;omega⟩
theorem UH (g : G) (hs : zX8 g) : aS Tryz.prog 102 [UW g] [] (.i (zS g)) [] := by
  have hsz := hs;obtain ⟨bs,ws⟩ := g;obtain ⟨hb,hw,hp,hc⟩ := hs;dsimp only at hb hw hp hc;have hlb : (ints bs).length = bs.length := cW _;have hlw : (gE ws).length = ws.length := fF _;by_cases h0 : bs.length < 2
  · rw [LL (.inl h0)];refine bW T Tryz.func102 rfl rfl rfl rfl ?_
    (repeat' (first|refine wS ?_|refine wR ?_|refine wT ?_|(refine rg 0 (cD (cQ rfl rfl) rfl (aV ?_)))|(refine rg 1 (iB T rfl (qW T rfl (vV (aM rfl rfl) (mV ?_))));refine bO rfl rfl ?_ ?_<;>(intro hb;rw [hb];(try simp only [nm] at hb);try (exfalso;omega));(all_goals ((iterate 4 refine gF ?_);refine pV ?_)))|(refine rg 2 (aV ?_))|refine nZ ?_));all_goals first | (exfalso;omega) | exact rQ
  · cases ws with
    | nil =>
      rw [LL (.inr rfl)];refine bW T Tryz.func102 rfl rfl rfl rfl ?_
      (repeat' (first|refine wS ?_|refine wR ?_|refine wT ?_|(refine rg 0 (cD (cQ rfl rfl) rfl (aV ?_)))|(refine rg 1 (iB T rfl (qW T rfl (vV (aM rfl rfl) (mV ?_))));refine bO rfl rfl ?_ ?_<;>(intro hb;rw [hb];(try simp only [nm] at hb);try (exfalso;omega));(all_goals (refine yP T rfl (yO T rfl (gT (qW T rfl (yV (dX rfl rfl) (pV ?_))))))))|(refine rg 2 (aV ?_))|refine nZ ?_));all_goals first | (exfalso;omega) | exact rQ
    | cons f l =>
      have hn : ¬ (bs.length < 2 ∨ f :: l = []) := by rintro (h | h);exact h0 h;cases h
      have hg0 : (gE (f :: l))[(0 : Int).toNat]? = some (wA f) := rfl;have hl1 : (gE (f :: l)).length = l.length + 1 := by simp
      refine bW T Tryz.func102 rfl rfl rfl rfl ?_
      (repeat' (first|refine wS ?_|refine wB ?_|refine wK ?_|refine wU ?_|(refine rg 0 (cD (cQ rfl rfl) rfl (aV ?_)))|(refine rg 1 (iB T rfl (qW T rfl (vV (aM rfl rfl) (mV ?_))));refine bO rfl rfl ?_ ?_<;>(intro hb;rw [hb];(try simp only [nm] at hb);try (exfalso;omega));(all_goals (refine yP T rfl (yO T rfl (gT (qW T rfl (yV (dX rfl rfl) (pV ?_))))))))|(refine rg 3 (iB T rfl (qW T rfl (mV ?_))))|refine nZ ?_));all_goals try (exfalso;omega)
      all_goals refine dQ (X := {k : Nat // k ≤ bs.length ∧ ∀ j,j < k → zA (bs,f :: l) j = false}) (fun k => [(1,.ptr 0 0),(17,.i (ints bs).length),(18,.i k.1)]) (fun _ => [.cells [.rowE (ints bs) 1,.rowE (gE (f :: l)) 3]]) (fun k => bs.length - k.1) ⟨0,cM _,fun j hj => absurd hj (eI _)⟩ (gM [0]) ?_
      all_goals rintro ⟨k,hk,hj⟩
      all_goals dsimp only
      all_goals by_cases hlt : k < bs.length
      · have hlf : k < f.1.length := by rw [hp f aR];exact hlt
        have hlf2 : k < f.2.2.length := by rw [hc f aR];exact hlt
        have hcc := zU3 (caps := [.pr [.i k] 0,.pr (wA f) 0]) (p := EH f k) (l := f :: l) hw rfl (fun x hx => OH x f (by rw [hp x hx];exact hlt) (by rw [hc x hx];exact hlt) hlf hlf2 (hsz.sm hx) (hsz.sm aR))
        have hsa := NA (bs := bs) (f := f) (l := l) (i := k);cases hany : (f :: l).any (EH f k) with
        | false =>
          rw [hany] at hcc hsa;have hci := ZJ hn hlt hj hsa;rw [hci]
          (repeat' (first|refine wS ?_|refine wB ?_|refine wK ?_|refine wR ?_|refine wT ?_|(refine wC rfl ?_ ?_<;>(intro hb;(try simp only [nm] at hb);try (exfalso;omega)))|(refine rg 4 (vV (aM rfl rfl) ?_))|(refine rg 5 (mW rfl (cD (cK T rfl) rfl (bA T rfl rfl rfl rfl rfl rfl (by decide) rfl ?_))))|(refine rg 6 (iB T rfl (vV (ix T rfl (by omega) (pD _) hg0) (lW T rfl (cD (cK T rfl) rfl (bA T rfl rfl rfl rfl rfl rfl (by decide) rfl ?_))))))|(refine rg 7 (iB T rfl (vV (by exact kU rfl rfl) ?_));refine vV (by exact fB rfl rfl hcc (.cons (.row _ _ _) (.cons (.clo .nil (.cons (.ptr rfl (.cons (.v _) .nil)) (.cons (.ptr rfl (.cons (.row _ _ _) (.cons (.v _) (.cons (.row _ _ _) .nil)))) .nil))) .nil)) rfl rfl) ?_;refine vV (dI rfl) ?_)|(refine rg 8 (lW T rfl (aV ?_)))|refine nZ ?_));all_goals first | (exfalso;omega) | exact rQ
        | true =>
          rw [hany] at hcc hsa
          (repeat' (first|refine wS ?_|refine wB ?_|refine wK ?_|refine wU ?_|(refine wC rfl ?_ ?_<;>(intro hb;(try simp only [nm] at hb);try (exfalso;omega)))|(refine rg 4 (vV (aM rfl rfl) ?_))|(refine rg 5 (mW rfl (cD (cK T rfl) rfl (bA T rfl rfl rfl rfl rfl rfl (by decide) rfl ?_))))|(refine rg 6 (iB T rfl (vV (ix T rfl (by omega) (pD _) hg0) (lW T rfl (cD (cK T rfl) rfl (bA T rfl rfl rfl rfl rfl rfl (by decide) rfl ?_))))))|(refine rg 7 (iB T rfl (vV (by exact kU rfl rfl) ?_));refine vV (by exact fB rfl rfl hcc (.cons (.row _ _ _) (.cons (.clo .nil (.cons (.ptr rfl (.cons (.v _) .nil)) (.cons (.ptr rfl (.cons (.row _ _ _) (.cons (.v _) (.cons (.row _ _ _) .nil)))) .nil))) .nil)) rfl rfl) ?_;refine vV (dI rfl) ?_)|(refine rg 9 (vV (cC rfl rfl (by omega) (by omega)) (mV ?_)))|refine nZ ?_));all_goals first | (exfalso;omega) | skip
          all_goals exact ⟨⟨k + 1,by omega,fun j hjk => (jC j k).elim (hj j) (fun h => by obtain rfl : j = k := (by omega);exact hsa)⟩,by dsimp only;omega,gM [0]⟩
      · rw [UI hn (fun j hjl => hj j (by dsimp only at hjl;omega))]
        (repeat' (first|refine wS ?_|refine wR ?_|refine wE ?_|(refine wC rfl ?_ ?_<;>(intro hb;(try simp only [nm] at hb);try (exfalso;omega)))|(refine rg 4 (vV (aM rfl rfl) ?_))|(refine rg 10 (aV ?_))|refine nZ ?_));all_goals first | (exfalso;omega) | exact rQ
end Go.Proofs.YtmmmeebiobjnbaaGreat
namespace Go.Ld
open Go.Ab Go.Proofs.YtmmmeebiobjnbaaGreat
theorem J9 {α : Type} (l : List α) (k : Nat) : l.take k ++ l.drop (k + 1) = l.eraseIdx k := (List.eraseIdx_eq_take_drop_succ l k).symm
end Go.Ld
namespace Go.Proofs.YtmmmeebiobjnbaaGreat
open Go Go.Ab Go.Ld
attribute [local irreducible] VC AW cF aS wJ iZ
set_option maxHeartbeats 4000000
theorem zE9 (g : G) {k : Nat} (hs : zX8 g) (hk : k < g.1.length) (h2 : 2 ≤ g.1.length) (hne : g.2 ≠ []) (hsm : g.2.length ≤ 100000) :
    aS Tryz.prog 103 [UW g,.i k] [] (.tup [UW (nD g k),UW (jP g k)]) [] := by
  have hsz := hs;obtain ⟨bs,ws⟩ := g;obtain ⟨hb,hw,hp,hc⟩ := hs;dsimp only at hb hw hp hc hk h2 hsm;cases ws with
  | nil => exact absurd rfl hne
  | cons f l =>
  have hlb : (ints bs).length = bs.length := cW _;have hf1 := hp f aR;have hf2 := hc f aR;have hlp : (ints f.1).length = f.1.length := cW _;have hlc : (fJ f.2.2).length = f.2.2.length := iH _;have hg0 : (gE (f :: l))[(0 : Int).toNat]? = some (wA f) := rfl;have hl1 : (gE (f :: l)).length = l.length + 1 := by simp
  have q1 := qG (l := bs) (j := (k : Int)) (i := k) 0 hk rfl;have q2 := qG (l := f.1) (j := (k : Int)) (i := k) 0 (by omega) rfl
  have q3 := vE (l := f.2.2) (j := (k : Int)) (i := k) (by omega) rfl
  have cl := GP bs (by omega)
  have dl := ZD bs k (k + 1) (by omega) (by omega) (by intro h;rw [h] at hk;simp at hk)
  rw [J9,show bs.length - (k + 1 - k) = bs.length - 1 by omega,show ((k + 1 : Nat) : Int) = (k : Int) + 1 by omega] at dl
  have hel : (bs.eraseIdx k).length = bs.length - 1 := by rw [gD,if_pos hk]
  obtain ⟨L,hL⟩ : ∃ L,f :: l = L := ⟨_,rfl⟩;have hp' : ∀ w,w ∈ L → w.1.length = bs.length := by rw [← hL];exact hp
  have hc' : ∀ w,w ∈ L → w.2.2.length = bs.length := by rw [← hL];exact hc
  have hsm' : L.length ≤ 100000 := by rw [← hL];exact hsm
  have hsz' : ∀ w,w ∈ L → L9 w := by rw [← hL];exact fun w h => hsz.sm h
  obtain ⟨R,hR⟩ : ∃ R,R = L.map (zL8 k) := ⟨_,rfl⟩;have hor : jP (bs,f :: l) k = (bs.eraseIdx k,gL R) := by rw [hR,← hL];rfl
  rw [hor]
  have ho := DM R (by rw [hR,aY];exact hsm') (fun w hw' => by
    rw [hR] at hw';obtain ⟨v,hv,rfl⟩ := bC.1 hw';have h1 := hp' v hv;have h2 := hc' v hv;unfold L9 zL8;dsimp only;rw [gD,gD]
    constructor <;> split <;> omega)
  refine G6 (res := .tup [.agg [.sl 0 0 1 1,.sl 3 0 1 3],.agg [.rowE (ints (bs.eraseIdx k)) 1,.rowE (gE (gL R)) 3]]) (hout := [.arr (ints [bs.getD k 0]) 1,.arr (ints [f.1.getD k 0]) 1,.arr (fJ [f.2.2.getD k (0,0)]) 2,.arr [[.sl 1 0 1 1,.i 0,.sl 2 0 1 2]] 3]) ?_ (.tup (.cons (.agg (.cons (vC rfl rfl) (.cons (.sl rfl (by decide) (.cons (vC rfl rfl) (.cons (.v _) (.cons (W4 rfl rfl) .nil)))) .nil))) (.cons (.agg (.cons (.row _ _ _) (.cons (.row _ _ _) .nil))) .nil)))
  generalize bs.getD k 0 = x1 at *;generalize f.1.getD k 0 = x2 at *;generalize hr : f.2.2.getD k (0,0) = r at *;obtain ⟨a1,a2⟩ := r;dsimp only at q3;refine bW T Tryz.func103 rfl rfl rfl rfl ?_
  (repeat' (first|refine wS ?_|(refine rg 0 (cD (cQ rfl rfl) rfl (cD (cK T rfl) rfl (cD (cK T rfl) rfl ?_))))|(refine rg 1 (iB T rfl (vV (ix T rfl (by omega) (pD _) hg0) (lW T rfl (cD (cK T rfl) rfl (bA T rfl rfl rfl rfl rfl rfl (by decide) rfl ?_))))))|(refine cH (id := 2) 78 [[],[0],[],[0,1,2],rN 4,rN 5,[],[6],[],[6,7,8],rM 6 4,rM 6 5,[],[12],[],[12,13,14],rM 12 4,rM 12 5,rM 6 12,rM 6 13,rN 20] (rM 13 21) [[],[],[13,14],[],[],[],rM 13 6,rM 13 6,rM 13 8,rM 13 6,rM 13 6,rM 13 6,rM 13 12,rM 13 12,rM 13 14,rM 13 12,rM 13 12,rM 13 12,rM 13 6,rM 13 6,[]] cO rfl (by decide +kernel) (dP T rfl (dO T rfl (dN rfl (dV rfl (ix T rfl (by omega) (dU bs) q1) (dO T rfl (F9 rfl rfl rfl (by exact bD T rfl rfl (by decide) (by decide) rfl rfl rfl) rfl ?_))))));refine dP T rfl (dO T rfl (dN rfl (dV rfl (ix T rfl (by omega) (dU f.1) q2) (dO T rfl (F9 rfl rfl rfl (by exact bD T rfl rfl (by decide) (by decide) rfl rfl rfl) rfl ?_)))));refine dP T rfl (dO T rfl (dN rfl (dV rfl (ix T rfl (by omega) (lG f.2.2) q3) (dO T rfl (F9 rfl rfl rfl (by exact bD T rfl rfl (by decide) (by decide) rfl rfl rfl) rfl ?_)))));refine dV rfl (by exact eS T rfl rfl rfl rfl) ?_;refine F9 rfl rfl rfl (by exact bD T rfl rfl (by decide) (by decide) rfl rfl rfl) rfl ?_;refine dV rfl (by exact eS T rfl rfl rfl rfl) ?_;refine dE ?_;refine bA T rfl rfl rfl rfl rfl rfl (by decide) rfl ?_)|(refine rg 3 (iB T rfl (cD (by exact fL rfl rfl cl (.inr ⟨rfl,rfl,by simp⟩)) rfl ?_));refine dH rfl (vV (cC rfl rfl (by omega) (by omega)) (eP [8] rfl rfl (dl) rfl rfl (by decide) ⟨.inr (aC rfl (bE _ (bB _)) (bB _)),trivial⟩ (by simp) rfl ?_));refine fW T rfl (bA T rfl rfl rfl rfl rfl rfl (by decide) rfl ?_))|refine nZ ?_));refine fC [(1, .i k), (2, .ptr 0 0), (4, .ptr 1 0), (5, .ptr 2 0)] [.cells [.rowE (ints bs) 1, .rowE (gE (f :: l)) 3], .cells [.sl 3 0 1 1, .sl 6 0 1 3], .cells [.sl 7 0 (bs.length - 1) 1, .nils], .arr (ints [x1]) 1, .arr (ints [x2]) 1, .arr (fJ [(a1, a2)]) 2, .arr [[.sl 4 0 1 1, .i 0, .sl 5 0 1 2]] 3, .arr (ints (bs.eraseIdx k)) 1]
    ⟨[0,1,2,4,5,6,7,8],rfl,(by repeat first|exact trivial|refine ⟨rfl,?_⟩),⟨.inr rfl,.inr rfl,.inr rfl,.inr rfl,.inr rfl,.inr rfl,.inr rfl,.inr (aC rfl (bE _ (bB _)) (bB _)),trivial⟩,by decide,kQ _⟩ ?_
  refine nK 2 0 rfl rfl rfl (by rw [cW,hel]) (fX (bB _)) ?_
  refine nY 2 1 3 rfl rfl (by decide) ?_
  rw [hL]
  (repeat' (first|refine wB ?_|(refine rg 4 (iB T rfl (qW T rfl (mV ?_))))|refine nZ ?_));refine dQ (X := {i : Nat // i ≤ L.length}) (fun i => [(1, .i k), (4, .ptr 0 0), (5, .ptr 1 0), (43, .rowE (gE L) 3), (44, .i (gE L).length), (45, .i i.1)]) (fun i => [.cells [.sl 2 0 1 1, .sl 5 0 1 3], .cells [.rowE (ints (bs.eraseIdx k)) 1, .sl 6 0 i.1 3], .arr (ints [x1]) 1, .arr (ints [x2]) 1, .arr (fJ [(a1, a2)]) 2, .arr [[.sl 3 0 1 1, .i 0, .sl 4 0 1 2]] 3, .arr (gE (R.take i.1)) 3]) (fun i => L.length - i.1) ⟨0, cM _⟩
    ⟨[1,2,3,4,5,6,8],rfl,(by repeat first|exact trivial|refine ⟨rfl,?_⟩),⟨.inr rfl,.inr rfl,.inr rfl,.inr rfl,.inr rfl,.inr rfl,.inr rfl,trivial⟩,by decide,kQ _⟩ ?_
  rintro ⟨i,hi⟩;dsimp only;have hLl : (gE L).length = L.length := fF _;have hRl : R.length = L.length := by rw [hR,aY]
  by_cases hlt : i < L.length
  · have hg := A5 hlt;have hv1 := hp' L[i] (aQ hlt);have hv2 := hc' L[i] (aQ hlt);have hRs : R.take (i + 1) = R.take i ++ [zL8 k L[i]] := by rw [aU (by omega)];simp [hR]
    have hwm := hsz' _ (aQ hlt);generalize L[i] = v at *;have hcw := GN v hwm;obtain ⟨p,m,c⟩ := v;dsimp only at hv1 hv2 hcw hRs;have e1 := rG (ZD p k (k + 1) (by omega) (by omega) (by intro h;rw [h] at hv1;simp at hv1;omega))
    have e2 := rG (zW2 c k (k + 1) (by omega) (by omega) (by intro h;rw [h] at hv2;simp at hv2;omega))
    rw [J9,show p.length - (k + 1 - k) = p.length - 1 by omega,show ((k + 1 : Nat) : Int) = (k : Int) + 1 by omega] at e1
    rw [J9,show c.length - (k + 1 - k) = c.length - 1 by omega,show ((k + 1 : Nat) : Int) = (k : Int) + 1 by omega] at e2
    (repeat' (first|refine wS ?_|refine wB ?_|refine wK ?_|(refine wC rfl ?_ ?_<;>(intro hb;(try simp only [nm] at hb);try (exfalso;omega)))|(refine rg 5 (vV (aM rfl rfl) ?_))|(refine rg 6 (vV (ix T rfl (by omega) (pD _) hg) (lW T rfl (cD (cK T rfl) rfl (bA T rfl rfl rfl rfl rfl rfl (by decide) rfl ?_)))))|(refine rg 7 (lW T rfl (cD (by exact fL rfl rfl hcw (.inr ⟨rfl,rfl,by simp⟩)) rfl ?_));refine bA T rfl rfl rfl rfl rfl rfl (by decide) rfl ?_)|refine nZ ?_));all_goals try (exfalso;omega)
    refine fC [(1, .i k), (4, .ptr 0 0), (5, .ptr 1 0), (8, .ptr 7 0), (43, .rowE (gE L) 3), (44, .i (gE L).length), (45, .i i)] [.cells [.sl 2 0 1 1, .sl 5 0 1 3], .cells [.rowE (ints (bs.eraseIdx k)) 1, .sl 6 0 i 3], .arr (ints [x1]) 1, .arr (ints [x2]) 1, .arr (fJ [(a1, a2)]) 2, .arr [[.sl 3 0 1 1, .i 0, .sl 4 0 1 2]] 3, .arr (gE (R.take i)) 3, .cells [.sl 8 0 p.length 1, .i m, .sl 9 0 c.length 2], .arr (ints p) 1, .arr (fJ c) 2]
      ⟨[0,1,2,3,4,5,6,7,8,9],rfl,(by repeat first|exact trivial|refine ⟨rfl,?_⟩),⟨.inr rfl,.inr rfl,.inr rfl,.inr rfl,.inr rfl,.inr rfl,.inr (aC rfl rfl (bU _)),.inr rfl,.inr (aC rfl (bE _ (bB _)) (bB _)),.inr (aC rfl (bE _ (eZ _)) (eZ _)),trivial⟩,by decide,kQ _⟩ ?_
    repeat' (first|(refine mH (id := 8) 78 [[],[0],[],[],[3],rN 5,[],[6],[],[],[9],rN 11,rN 8,rN 13] (rM 51 13) [[],[],[51,52],[51,52,53],[51,52,53],[],rM 51 6,rM 51 6,rM 51 8,rM 51 9,rM 51 9,[],rM 59 4,[]] [(5,8),(11,9),(13,7)] cO rfl (by decide +kernel) (cE rfl rfl rfl rfl (by exact bF T rfl rfl rfl) ?_);refine cE rfl rfl rfl rfl (by exact aJ T rfl rfl rfl rfl) ?_;refine cE rfl rfl rfl rfl (by exact bN rfl) ?_;refine cE rfl rfl rfl rfl (by exact bN rfl) ?_;refine cE rfl rfl rfl rfl (by exact cC rfl rfl (by omega) (by omega)) ?_;refine mQ rfl rfl rfl rfl (aG rfl) (by exact rW [8] rfl rfl (e1) (fun _=>rfl) rfl (by decide) (fun _=>⟨.inr (aC rfl rfl (bB _)),trivial⟩) (by simp) rfl (fun _ _=>rfl) rfl rfl) ?_;refine cE rfl rfl rfl rfl (by exact bF T rfl rfl rfl) ?_;refine cE rfl rfl rfl rfl (by exact aJ T rfl rfl rfl rfl) ?_;refine cE rfl rfl rfl rfl (by exact bN rfl) ?_;refine cE rfl rfl rfl rfl (by exact bN rfl) ?_;refine cE rfl rfl rfl rfl (by exact cC rfl rfl (by omega) (by omega)) ?_;refine mQ rfl rfl rfl rfl (aG rfl) (by exact rW [9] rfl rfl (e2) (fun _=>rfl) rfl (by decide) (fun _=>⟨.inr (aC rfl rfl (eZ _)),trivial⟩) (by simp) rfl (fun _ _=>rfl) rfl rfl) ?_;refine cE rfl rfl rfl rfl (by exact bF T rfl rfl rfl) ?_;refine uW rfl rfl rfl rfl (aG rfl) T rfl rfl rfl rfl rfl rfl (by decide) rfl ?_;refine qK rfl rfl rfl (by exact rfl) ?_;refine fW T rfl (bA T rfl rfl rfl rfl rfl rfl (by decide) rfl ?_))|refine nZ ?_)
    show AW _ _ _ _ _ _;have l1 : (p.eraseIdx k).length = p.length - 1 := by rw [gD,if_pos (by omega)]
    have l2 : (c.eraseIdx k).length = c.length - 1 := by rw [gD,if_pos (by omega)]
    refine fC [(1, .i k), (4, .ptr 0 0), (5, .ptr 1 0), (8, .ptr 7 0), (43, .rowE (gE L) 3), (44, .i (gE L).length), (45, .i i)] [.cells [.sl 2 0 1 1, .sl 5 0 1 3], .cells [.rowE (ints (bs.eraseIdx k)) 1, .sl 6 0 i 3], .arr (ints [x1]) 1, .arr (ints [x2]) 1, .arr (fJ [(a1, a2)]) 2, .arr [[.sl 3 0 1 1, .i 0, .sl 4 0 1 2]] 3, .arr (gE (R.take i)) 3, .cells [.sl 8 0 (p.length - 1) 1, .i m, .sl 9 0 (c.length - 1) 2], .arr (ints (p.eraseIdx k)) 1, .arr (fJ (c.eraseIdx k)) 2]
      ⟨[0,1,2,3,4,5,6,7,8,9],rfl,(by repeat first|exact trivial|refine ⟨rfl,?_⟩),⟨.inr rfl,.inr rfl,.inr rfl,.inr rfl,.inr rfl,.inr rfl,.inr (aC rfl rfl (bU _)),.inr rfl,.inr (aC rfl (bE _ (bB _)) (bB _)),.inr (aC rfl (bE _ (eZ _)) (eZ _)),trivial⟩,by decide,kQ _⟩ ?_
    refine nK 7 0 rfl rfl rfl (by rw [cW,l1]) (fX (bB _)) ?_
    refine nK 7 2 rfl rfl rfl (by rw [iH,l2]) (fX (eZ _)) ?_
    have hW : gE (R.take (i + 1)) = gE (R.take i) ++ [[.rowE (ints (p.eraseIdx k)) 1,.i m,.rowE (fJ (c.eraseIdx k)) 2]] := by rw [hRs,gE,bY];rfl
    have hTl : (gE (R.take i)).length = i := by rw [fF,bG];omega
    generalize gE (R.take i) = Q at *
    (repeat' (first|(refine rg 9 (iB T rfl (lW T rfl (cD (by exact bD T rfl rfl (by decide) (by decide) rfl rfl rfl) rfl ?_)));refine fY T rfl rfl rfl rfl rfl rfl (by omega) (jJ.whole rfl rfl) rfl (by simp;omega) (by simp;omega) rfl ?_;refine fW T rfl (bA T rfl rfl rfl rfl rfl rfl (by decide) rfl ?_))|(refine rg 10 (vV (cC rfl rfl (by omega) (by omega)) (mV ?_)))|refine nZ ?_));all_goals try (exfalso;omega)
    exact ⟨⟨i + 1,hlt⟩,by dsimp only;omega,⟨[0,1,2,3,4,5,11],rfl,(by repeat first|exact trivial|refine ⟨rfl,?_⟩),⟨.inr rfl,.inr rfl,.inr rfl,.inr rfl,.inr rfl,.inr rfl,.inr (aC rfl (by dsimp only;rw [hW];exact jN hTl.symm) (bU _)),trivial⟩,by decide,kQ _⟩⟩
  · obtain rfl : i = L.length := by omega
    rw [show R.take L.length = R by rw [← hRl,dA]]
    show AW _ _ _ _ _ _;refine nK 1 1 rfl rfl rfl (by rw [fF,hRl]) (fX (bU _)) ?_
    generalize gL R = R' at *
    (repeat' (first|refine wS ?_|refine wR ?_|refine wE ?_|(refine wC rfl ?_ ?_<;>(intro hb;(try simp only [nm] at hb);try (exfalso;omega)))|(refine rg 5 (vV (aM rfl rfl) ?_))|(refine rg 11 (iB T rfl (vV (kC (ho)) (fW T rfl (bA T rfl rfl rfl rfl rfl rfl (by decide) rfl ?_)))))|(refine nC (id := 12) 78 [[],[],[0]] [76,77] [[],[76],[77]] [(2,0)] cO rfl (by decide +kernel) (cN rfl rfl rfl rfl (by exact aJ T rfl rfl rfl rfl) ?_);refine cN rfl rfl rfl rfl (by exact aJ T rfl rfl rfl rfl) ?_;refine uV rfl rfl rfl rfl (aG rfl) T rfl rfl rfl rfl rfl rfl (by decide) rfl ?_;refine rJ rfl rfl rfl (by exact rfl) ?_;refine bA T rfl rfl rfl rfl rfl rfl (by decide) rfl ?_)|refine nZ ?_));all_goals first | (exfalso;omega) | exact ⟨.inl rfl,[2,3,4,5],_,rfl,rfl,rfl,⟨.inr rfl,.inr rfl,.inr rfl,.inr rfl,trivial⟩,by decide,kQ _⟩
end Go.Proofs.YtmmmeebiobjnbaaGreat
namespace Go.Ld
open Go.Ab Go.Proofs.YtmmmeebiobjnbaaGreat
theorem zK {L : List G} {j : Int} {i : Nat} {x : G} (h : L[i]? = some x) (e : j = i) : (kE L)[0 + j.toNat]? = some (gA x) := by
  subst e;simp [h]
theorem J1 {L : List G} {j : Int} {i : Nat} {x : G} (e : j = i) : (kE L).set (0 + j.toNat) (gA x) = kE (L.set i x) := by
  subst e;simp [kE,pZ]
abbrev LY (l : List G) : Prop := l.Pairwise (fun a b => cG a b ≤ 0)
def T4 (l : List G) : Prop := ∀ a b,a ∈ l → b ∈ l → cG a b = 0 → a = b
theorem zW5 {a : G} : cG a a = 0 := qM.rfl' _
theorem OI (a b : G) : cG a b = - cG b a := qM.neg _ _
theorem RF {a b d : G} (h1 : cG a b ≤ 0) (h2 : cG b d ≤ 0) : cG a d ≤ 0 := qM.le_tr (a := a.1.headD 0) (b := b.1.headD 0) (d := d.1.headD 0) h1 h2
theorem KL (w : G) : ∀ {l : List G}, LY l → LY (CA cG w l)
  | [],_ => mC _ _
  | x :: l,hl => by
    have hl' := eV.1 hl;unfold CA;split
    · rename_i hw;refine eV.2 ⟨fun y hy => ?_,hl⟩
      rcases bS.1 hy with rfl | hy
      · exact hw
      · exact RF hw (hl'.1 y hy)
    · rename_i hw;refine eV.2 ⟨fun y hy => ?_,KL w hl'.2⟩
      rcases bS.1 ((B7 cG w l).mem_iff.1 hy) with rfl | hy
      · have := OI x y;omega
      · exact hl'.1 y hy
theorem sI : ∀ l : List G, LY (eC cG l)
  | [] => .nil
  | x :: l => KL x (sI l)
theorem IN {l m : List G} (hd : T4 l) (hp : m.Perm l) (h : LY m) : eC cG l = m := by
  refine (List.Perm.eq_of_pairwise (le := fun a b => cG a b ≤ 0) (fun a b ha hb h1 h2 => hd a b (hp.mem_iff.1 ha) ((dK cG l).mem_iff.1 hb) (by have := OI a b;omega)) h (sI l) (hp.trans (dK cG l).symm)).symm
theorem T4.sub {l m : List G} (h : T4 l) (hs : ∀ x,x ∈ m → x ∈ l) : T4 m := fun a b ha hb e => h a b (hs a ha) (hs b hb) e
theorem T4.perm {l m : List G} (h : T4 l) (hp : m.Perm l) : T4 m := h.sub fun x hx => hp.mem_iff.1 hx
theorem OG {a b : G} (h : cG a b < 0) : cG a b ≤ 0 := by omega
theorem zD6 {S1 S2 : List G} {x : G} (h : LY (S1 ++ S2)) (h1 : ∀ y,y ∈ S1 → cG y x ≤ 0) (h2 : ∀ y,y ∈ S2 → cG x y ≤ 0) : LY (S1 ++ x :: S2) := by
  obtain ⟨a,b,c⟩ := eX.1 h;refine eX.2 ⟨a,eV.2 ⟨h2,b⟩,fun p hp q hq => ?_⟩
  rcases bS.1 hq with rfl | hq
  · exact h1 p hp
  · exact c p hp q hq
theorem VE {A : List G} {y : G} (h : LY (A ++ [y])) : ∀ z,z ∈ A ++ [y] → cG z y ≤ 0 := by
  intro z hz;obtain ⟨a,b,c⟩ := eX.1 h;rcases bH.1 hz with hz | hz
  · exact c z hz y (by simp)
  · rw [bK.1 hz,zW5];exact eM _
theorem yE0 {a b : G} (h : ¬ cG a b < 0) : cG b a ≤ 0 := by have := OI a b;omega
def S6 (l : List G) (a b : Nat) : List G := l.take a ++ (eC cG ((l.drop a).take (b - a)) ++ l.drop b)
theorem X8 {l : List G} : (eC cG l).length = l.length := (dK cG l).length_eq
theorem SC {l : List G} {a : Nat} (h : a ≤ l.length) : S6 l a a = l := by unfold S6;simp [eC]
theorem VZ {l : List G} {a : Nat} (h : a < l.length) : S6 l a (a + 1) = l := by
  unfold S6;rw [show a + 1 - a = 1 by omega,aT h]
  simp only [oK,iX,eC,CA];rw [List.singleton_append,← aT h,bP]
structure MI (l : List G) (a i : Nat) (x : G) (q : List G × List G) : Prop where
  eq : q.1 ++ q.2 = eC cG ((l.drop a).take (i - a))
  gt : ∀ y,y ∈ q.2 → cG x y < 0
def pP (l : List G) (a i : Nat) (x : G) (q : List G × List G) : List G := (l.take a ++ q.1) ++ x :: (q.2 ++ l.drop (i + 1))
theorem NQ {l : List G} {a i : Nat} {x : G} (h1 : a < i) (h2 : i < l.length) (hx : l[i]? = some x) : MI l a i x (eC cG ((l.drop a).take (i - a)),[]) ∧ S6 l a i = pP l a i x (eC cG ((l.drop a).take (i - a)),[]) := by
  refine ⟨⟨by simp,fun y hy => by cases hy⟩,?_⟩
  unfold S6 pP;have : l.drop i = x :: l.drop (i + 1) := by
    rw [aB h2] at hx;rw [aT h2];cases hx;rfl
  simp [this]
theorem KJ {l : List G} {a i : Nat} {x : G} {q : List G × List G} (h : MI l a i x q) (h1 : a < i) (h2 : i < l.length) : q.1.length + q.2.length = i - a := by
  have := congrArg List.length h.eq;simp only [aF,X8,bG,dD] at this;omega
theorem TO {l : List G} {a i : Nat} {x : G} {q : List G × List G} (h : MI l a i x q) (h1 : a < i) (h2 : i < l.length) : (pP l a i x q).length = l.length := by
  have := KJ h h1 h2;unfold pP;simp only [aF,List.length_cons,bG,dD];omega
theorem QH {l : List G} (hdl : T4 l) {a i : Nat} {x : G} {q : List G × List G} (h : MI l a i x q) (h1 : a < i) (h2 : i < l.length) (hx : l[i]? = some x) (hs : ∀ y,y ∈ q.1 → cG y x ≤ 0) : pP l a i x q = S6 l a (i + 1) := by
  unfold pP S6;have e : (l.drop a).take (i + 1 - a) = (l.drop a).take (i - a) ++ [x] := by
    rw [show i + 1 - a = (i - a) + 1 by omega,zC4]
    rw [dZ,show a + (i - a) = i by omega,hx];rfl
  rw [e];have hp : (q.1 ++ x :: q.2).Perm ((l.drop a).take (i - a) ++ [x]) := by
    refine List.perm_middle.trans ?_;rw [h.eq];exact ((dK cG _).cons x).trans (L5 _ _).symm
  have hu : LY (q.1 ++ x :: q.2) := zD6 (by rw [h.eq];exact sI _) hs (fun y hy => OG (h.gt y hy))
  rw [IN (hdl.sub fun y hy => by rw [← e] at hy;exact dY (eK hy)) hp hu]
  simp
theorem YA {l : List G} {a i : Nat} {x y : G} {S : List G} {q : List G × List G} (h : MI l a i x q) (e : q.1 = S ++ [y]) (hc : ¬ cG x y < 0) : ∀ z,z ∈ q.1 → cG z x ≤ 0 := by
  have hu : LY (q.1 ++ q.2) := by rw [h.eq];exact sI _
  have hu1 : LY q.1 := (eX.1 hu).1;rw [e] at hu1;intro z hz;rw [e] at hz;exact RF (VE hu1 z hz) (yE0 hc)
theorem TN {l : List G} {a i : Nat} {x y : G} {S : List G} {q : List G × List G} (h : MI l a i x q) (e : q.1 = S ++ [y]) (hc : cG x y < 0) : MI l a i x (S,y :: q.2) := by
  refine ⟨?_,fun z hz => ?_⟩
  · rw [← h.eq,e];simp
  · rcases bS.1 hz with rfl | hz
    · exact hc
    · exact h.gt z hz
end Go.Ld
namespace Go.Proofs.YtmmmeebiobjnbaaGreat
open Go Go.Ab Go.Ld
attribute [local irreducible] VC AW cF aS
set_option maxHeartbeats 4000000
abbrev OC : AV := .clo (.func 105) [] []
def zX9 (g : G) : Prop := 0 < g.1.length ∧ g.1.length ≤ 1000000
theorem zE4 (a b : G) (ha : zX9 a) (hb : zX9 b) : aS Tryz.prog 105 [UW a,UW b] [] (.i (cG a b)) [] := by
  obtain ⟨p,ws⟩ := a;obtain ⟨q,vs⟩ := b;cases p with
  | nil => exact absurd ha.1 (by simp)
  | cons x p =>
    cases q with
    | nil => exact absurd hb.1 (by simp)
    | cons y q =>
      have hc := EL x y;have h1 : (ints (x :: p)).length = p.length + 1 := by simp
      have h2 : (ints (y :: q)).length = q.length + 1 := by simp
      have g1 : (ints (x :: p))[(0 : Int).toNat]? = some [AV.i x] := rfl;have g2 : (ints (y :: q))[(0 : Int).toNat]? = some [AV.i y] := rfl;refine bW T Tryz.func105 rfl rfl rfl rfl ?_
      (repeat' (first|refine wS ?_|refine wR ?_|(refine rg 0 (cD (cQ rfl rfl) rfl (cD (cQ rfl rfl) rfl (aV ?_))))|(refine cH (id := 1) 14 [[],[0],[0,1],[0,1,2],[],[4],[4,5],[4,5,6],rN 8] (rM 5 9) [[],[],[],[],rM 5 4,rM 5 4,rM 5 4,rM 5 4,[]] cO rfl (by decide +kernel) (dP T rfl (dO T rfl (dV rfl (ix T rfl (by omega) (dU _) g1) (dO T rfl (dP T rfl (dO T rfl (dV rfl (ix T rfl (by omega) (dU _) g2) (dO T rfl (dV rfl (kC (hc)) ?_)))))))));refine dE ?_;refine aV ?_)|refine nZ ?_));all_goals first | (exfalso;omega) | exact rQ
theorem TL (l : List G) (a b : Nat) (hab : a ≤ b) (hb : b ≤ l.length) (hdl : T4 l) (hl : l.length ≤ 100000) (hw : ∀ w,w ∈ l → zX9 w) :
    aS Tryz.prog 149 [.sl 0 0 l.length 2,.i a,.i b,OC] [.arr (kE l) 2] (.tup []) [.arr (kE (S6 l a b)) 2] := by
  rcases jC a b with hlt | hge
  · refine bW T Tryz.func149 rfl rfl rfl rfl ?_
    (repeat' (first|refine wS ?_|refine wB ?_|(refine iA 0 rfl rfl rfl (by omega) (by omega) ?_)|refine nZ ?_));refine dQ (X := {i : Nat // a + 1 ≤ i ∧ i ≤ b}) (fun i => [(0,.sl 0 0 l.length 2),(1,.i a),(2,.i b),(3,OC),(8,.i i.1)]) (fun i => [.arr (kE (S6 l a i.1)) 2]) (fun i => b - i.1) ⟨a + 1,by omega,by omega⟩ ⟨[0],rfl,by (repeat (first | exact trivial | refine ⟨rfl,?_⟩)),⟨.inr (aC rfl (by dsimp only;rw [VZ (by omega)]) (eH _)),trivial⟩,by decide,lJ⟩ ?_
    rintro ⟨i,h1,h2⟩;dsimp only;by_cases hi : i < b
    · (repeat' (first|refine wS ?_|refine wB ?_|refine wK ?_|(refine wC rfl (fun hb => ?_) (fun hb => ?_) <;> (((try simp only [nm] at hb);try (exfalso;omega))))|(refine rg 1 (dH rfl (vV (aM rfl rfl) ?_)))|(refine rg 3 (mW rfl (aV ?_)))|(refine nZ ?_)));all_goals try (exfalso;omega)
      have hil : i < l.length := by omega
      obtain ⟨x,hx⟩ : ∃ x,l[i]? = some x := ⟨_,aB hil⟩;obtain ⟨s1,s2⟩ := NQ (a := a) (by omega) hil hx
      refine dQ (X := {q : List G × List G // MI l a i x q}) (fun q => [(0,.sl 0 0 l.length 2),(1,.i a),(2,.i b),(3,OC),(8,.i i),(9,.i ((a + q.1.1.length : Nat) : Int))]) (fun q => [.arr (kE (pP l a i x q.1)) 2]) (fun q => q.1.1.length) ⟨_,s1⟩ ⟨[0],rfl,⟨rfl,rfl,rfl,rfl,rfl,by dsimp only;rw [X8,bG,dD,show a + min (i - a) (l.length - a) = i by omega];rfl,trivial⟩,⟨.inr (aC rfl (by dsimp only;rw [s2]) (eH _)),trivial⟩,by decide,lJ⟩ ?_
      rintro ⟨⟨S1,S2⟩,hq⟩;dsimp only;have hln := KJ hq (by omega) hil
      dsimp only at hln;have hwx : zX9 x := hw x (aN hx);have hal : (l.take a).length = a := by rw [bG];omega
      rcases List.eq_nil_or_concat S1 with rfl | ⟨S,y,rfl⟩
      · have ee := QH hdl hq (by omega) hil hx (fun y hy => by cases hy)
        have hJ : ((a + ([] : List G).length : Nat) : Int) = a := by simp
        generalize ((a + ([] : List G).length : Nat) : Int) = J at *;generalize pP l a i x ([],S2) = L at *
        (repeat' (first|refine wS ?_|refine wE ?_|refine wU ?_|(refine cH (id := 4) 53 yK2 (rM 18 17) yK3 cO rfl (by decide +kernel) (dN rfl (dN rfl (dV rfl (V5 rfl rfl (by omega)) (dN rfl (tG rfl (tG rfl (tG rfl (tG rfl (dG ?_)))))))));refine tG rfl (tG rfl (tG rfl (tG rfl (tG rfl (tG rfl (tG rfl (dV rfl (fD rfl rfl) (dE ?_)))))))))|(refine iA 2 rfl rfl rfl (by omega) (by omega) ?_)|refine nZ ?_));all_goals first | (exfalso;omega) | exact ⟨⟨i + 1,by omega,by omega⟩,by dsimp only;omega,⟨[0],rfl,by (repeat (first | exact trivial | refine ⟨rfl,?_⟩)),⟨.inr (aC rfl (by dsimp only;rw [ee]) (eH _)),trivial⟩,by decide,lJ⟩⟩
      · rw [List.concat_eq_append] at *;have hy : y ∈ l := by
          have h3 : y ∈ eC cG ((l.drop a).take (i - a)) := by rw [← hq.eq];simp
          exact dY (eK ((dK _ _).mem_iff.1 h3))
        have hc := zE4 x y hwx (hw y hy);have hL : pP l a i x (S ++ [y],S2) = (l.take a ++ S) ++ y :: x :: (S2 ++ l.drop (i + 1)) := by unfold pP;simp
        have hJ : ((a + (S ++ [y]).length : Nat) : Int) = ((a + S.length + 1 : Nat) : Int) := by simp;omega
        have hAl : a + S.length = (l.take a ++ S).length := by rw [aF,hal]
        have hlen := TO hq (by omega) hil
        by_cases h0 : cG x y < 0
        · have ee := TN hq rfl h0;have q1 := zK (L := pP l a i x (S ++ [y],S2)) (j := ((a + (S ++ [y]).length : Nat) : Int)) (i := a + S.length + 1) (x := x) (by rw [hL,show (l.take a ++ S) ++ y :: x :: (S2 ++ l.drop (i + 1)) = ((l.take a ++ S) ++ [y]) ++ x :: (S2 ++ l.drop (i + 1)) by simp];exact nL _ _ _ (by simp;omega)) hJ
          have q2 := zK (L := pP l a i x (S ++ [y],S2)) (j := ((a + (S ++ [y]).length : Nat) : Int) - 1) (i := a + S.length) (x := y) (by rw [hL];exact nL _ _ _ hAl) (by omega)
          have t1 := J1 (L := pP l a i x (S ++ [y],S2)) (j := ((a + (S ++ [y]).length : Nat) : Int)) (i := a + S.length + 1) (x := y) hJ;have e1 : (pP l a i x (S ++ [y],S2)).set (a + S.length + 1) y = (l.take a ++ S) ++ y :: y :: (S2 ++ l.drop (i + 1)) := by
            rw [hL,show (l.take a ++ S) ++ y :: x :: (S2 ++ l.drop (i + 1)) = ((l.take a ++ S) ++ [y]) ++ x :: (S2 ++ l.drop (i + 1)) by simp,nX _ _ _ _ (by simp;omega)];simp
          rw [e1] at t1;have q3 := zK (L := (l.take a ++ S) ++ y :: y :: (S2 ++ l.drop (i + 1))) (j := ((a + (S ++ [y]).length : Nat) : Int) - 1) (i := a + S.length) (x := y) (nL _ _ _ hAl) (by omega)
          have t2 := J1 (L := (l.take a ++ S) ++ y :: y :: (S2 ++ l.drop (i + 1))) (j := ((a + (S ++ [y]).length : Nat) : Int) - 1) (i := a + S.length) (x := x) (by omega)
          rw [nX _ _ _ _ hAl,show (l.take a ++ S) ++ x :: y :: (S2 ++ l.drop (i + 1)) = pP l a i x (S,y :: S2) by unfold pP;simp,← t1] at t2
          rw [← t1] at q3;have hJ2 : ((a + (S ++ [y]).length : Nat) : Int) - 1 = ((a + S.length : Nat) : Int) := by omega
          have hJ3 : ((a + (S ++ [y]).length : Nat) : Int) < l.length := by omega
          have hJ4 : (a : Int) < ((a + (S ++ [y]).length : Nat) : Int) := by omega
          clear hJ hL;generalize ((a + (S ++ [y]).length : Nat) : Int) = J at *;generalize cG x y = z at *;generalize pP l a i x (S ++ [y],S2) = L at *
          (repeat' (first|refine wS ?_|refine wB ?_|refine wK ?_|(refine wC rfl ?_ ?_<;>(intro hb;(try simp only [nm] at hb);try (exfalso;omega)))|(refine cH (id := 4) 53 yK2 (rM 18 17) yK3 cO rfl (by decide +kernel) (dN rfl (dN rfl (dV rfl (eU rfl rfl) (dM ?_))));refine kX rfl rfl rfl rfl ?_ ?_<;>(intro hb;rw [hb];(try simp only [nm] at hb);try (exfalso;omega))<;>(refine tM ?_);(all_goals (refine tN rfl (tN rfl (dT rfl (by exact aK T rfl rfl rfl rfl rfl (by omega) (by omega)) ?_));refine dT rfl (by exact aJ T rfl rfl (bM rfl q1) rfl) ?_;refine tN rfl (tN rfl (dT rfl (cP rfl rfl (by omega) (by omega)) (dT rfl (by exact aK T rfl rfl rfl rfl rfl (by omega) (by omega)) ?_)));refine dT rfl (by exact aJ T rfl rfl (bM rfl q2) rfl) ?_;refine dT rfl (kC (hc)) (dT rfl (aM rfl rfl) (dV rfl (iT rfl rfl) (dE ?_))))))|(refine nC (id := 6) 53 yK4 (rM 37 15) yK5 [(15,0)] cO rfl (by decide +kernel) (cN rfl rfl rfl rfl (by exact bN rfl) ?_);refine cN rfl rfl rfl rfl (by exact bN rfl) ?_;refine cN rfl rfl rfl rfl (by exact bN rfl) ?_;refine cN rfl rfl rfl rfl (by exact bN rfl) ?_;refine cN rfl rfl rfl rfl (by exact cP rfl rfl (by omega) (by omega)) ?_;refine cN rfl rfl rfl rfl (by exact bN rfl) ?_;refine cN rfl rfl rfl rfl (by exact bN rfl) ?_;refine cN rfl rfl rfl rfl (by exact cP rfl rfl (by omega) (by omega)) ?_;refine cN rfl rfl rfl rfl (by exact aK T rfl rfl rfl rfl rfl (by omega) (by omega)) ?_;refine cN rfl rfl rfl rfl (by exact aJ T rfl rfl (bM rfl q2) rfl) ?_;refine cN rfl rfl rfl rfl (by exact bN rfl) ?_;refine cN rfl rfl rfl rfl (by exact bN rfl) ?_;refine cN rfl rfl rfl rfl (by exact aK T rfl rfl rfl rfl rfl (by omega) (by omega)) ?_;refine cN rfl rfl rfl rfl (by exact aJ T rfl rfl (bM rfl q1) rfl) ?_;refine cN rfl rfl rfl rfl (by exact aK T rfl rfl rfl rfl rfl (by omega) (by omega)) ?_;refine uV rfl rfl rfl rfl (aG rfl) T rfl rfl rfl rfl rfl rfl (by decide) (tY rfl q1 rfl) ?_;refine rJ rfl rfl rfl (by exact rfl) ?_;refine vV (by exact aK T rfl rfl rfl rfl rfl (by omega) (by omega)) ?_;refine bA T rfl rfl rfl rfl rfl rfl (by decide) (lZ rfl q3 rfl) ?_)|(refine rg 5 (mW rfl (vV (cP rfl rfl (by omega) (by omega)) (aV ?_))))|refine nZ ?_));all_goals first | (exfalso;omega) | exact ⟨⟨_,ee⟩,by dsimp only;simp,⟨[0],rfl,⟨rfl,rfl,rfl,rfl,rfl,by dsimp only;rw [← hJ2];try rfl,trivial⟩,⟨.inr (aC rfl (by dsimp only;rw [← t2];try rfl) (eH _)),trivial⟩,by decide,lJ⟩⟩
        · have ee := QH hdl hq (by omega) hil hx (YA hq rfl h0)
          have q1 := zK (L := pP l a i x (S ++ [y],S2)) (j := ((a + (S ++ [y]).length : Nat) : Int)) (i := a + S.length + 1) (x := x) (by rw [hL,show (l.take a ++ S) ++ y :: x :: (S2 ++ l.drop (i + 1)) = ((l.take a ++ S) ++ [y]) ++ x :: (S2 ++ l.drop (i + 1)) by simp];exact nL _ _ _ (by simp;omega)) hJ
          have q2 := zK (L := pP l a i x (S ++ [y],S2)) (j := ((a + (S ++ [y]).length : Nat) : Int) - 1) (i := a + S.length) (x := y) (by rw [hL];exact nL _ _ _ hAl) (by omega)
          have hJ3 : ((a + (S ++ [y]).length : Nat) : Int) < l.length := by omega
          have hJ4 : (a : Int) < ((a + (S ++ [y]).length : Nat) : Int) := by omega
          clear hJ hL;generalize ((a + (S ++ [y]).length : Nat) : Int) = J at *;generalize cG x y = z at *;generalize pP l a i x (S ++ [y],S2) = L at *
          (repeat' (first|refine wS ?_|refine wE ?_|(refine wC rfl ?_ ?_<;>(intro hb;(try simp only [nm] at hb);try (exfalso;omega)))|(refine cH (id := 4) 53 yK2 (rM 18 17) yK3 cO rfl (by decide +kernel) (dN rfl (dN rfl (dV rfl (eU rfl rfl) (dM ?_))));refine kX rfl rfl rfl rfl ?_ ?_<;>(intro hb;rw [hb];(try simp only [nm] at hb);try (exfalso;omega))<;>(refine tM ?_);(all_goals (refine tN rfl (tN rfl (dT rfl (by exact aK T rfl rfl rfl rfl rfl (by omega) (by omega)) ?_));refine dT rfl (by exact aJ T rfl rfl (bM rfl q1) rfl) ?_;refine tN rfl (tN rfl (dT rfl (cP rfl rfl (by omega) (by omega)) (dT rfl (by exact aK T rfl rfl rfl rfl rfl (by omega) (by omega)) ?_)));refine dT rfl (by exact aJ T rfl rfl (bM rfl q2) rfl) ?_;refine dT rfl (kC (hc)) (dT rfl (aM rfl rfl) (dV rfl (iT rfl rfl) (dE ?_))))))|(refine iA 2 rfl rfl rfl (by omega) (by omega) ?_)|refine nZ ?_));all_goals first | (exfalso;omega) | exact ⟨⟨i + 1,by omega,by omega⟩,by dsimp only;omega,⟨[0],rfl,by (repeat (first | exact trivial | refine ⟨rfl,?_⟩)),⟨.inr (aC rfl (by dsimp only;rw [ee]) (eH _)),trivial⟩,by decide,lJ⟩⟩
    · obtain rfl : i = b := by omega
      (repeat' (first|refine wS ?_|refine wE ?_|(refine wC rfl ?_ ?_<;>(intro hb;(try simp only [nm] at hb);try (exfalso;omega)))|(refine rg 1 (dH rfl (vV (aM rfl rfl) ?_)))|refine nZ ?_));all_goals first | (exfalso;omega) | exact ⟨.inl rfl,[0],_,rfl,rfl,rfl,⟨.inr (aC rfl rfl (eH _)),trivial⟩,by decide,lJ⟩ | exact ⟨.inr rfl,[0],_,rfl,rfl,rfl,⟨.inr (aC rfl rfl (eH _)),trivial⟩,by decide,lJ⟩
  · obtain rfl : a = b := by omega
    rw [SC hb];refine bW T Tryz.func149 rfl rfl rfl rfl ?_
    (repeat' (first|refine wS ?_|refine wB ?_|(refine iA 0 rfl rfl rfl (by omega) (by omega) ?_)|refine nZ ?_));refine dQ (X := Unit) (fun _ => [(0,.sl 0 0 l.length 2),(1,.i a),(2,.i a),(3,OC),(8,.i ((a : Int) + 1))]) (fun _ => [.arr (kE l) 2]) (fun _ => 0) () ⟨[0],rfl,by (repeat (first | exact trivial | refine ⟨rfl,?_⟩)),⟨.inr (aC rfl rfl (eH _)),trivial⟩,by decide,lJ⟩ ?_
    intro _;dsimp only
    (repeat' (first|refine wS ?_|refine wE ?_|(refine wC rfl ?_ ?_<;>(intro hb;(try simp only [nm] at hb);try (exfalso;omega)))|(refine rg 1 (dH rfl (vV (aM rfl rfl) ?_)))|refine nZ ?_));all_goals first | (exfalso;omega) | exact ⟨.inl rfl,[0],_,rfl,rfl,rfl,⟨.inr (aC rfl rfl (eH _)),trivial⟩,by decide,lJ⟩ | exact ⟨.inr rfl,[0],_,rfl,rfl,rfl,⟨.inr (aC rfl rfl (eH _)),trivial⟩,by decide,lJ⟩
end Go.Proofs.YtmmmeebiobjnbaaGreat
namespace Go.Ld
open Go.Ab Go.Proofs.YtmmmeebiobjnbaaGreat
def zI3 (n : Nat) : Int := [0,1,2,2,3,3,3,3,4,4,4,4,4].getD n 0
end Go.Ld
namespace Go.Proofs.YtmmmeebiobjnbaaGreat
open Go Go.Ab Go.Ld
attribute [local irreducible] VC AW cF aS P6 zO2
set_option maxHeartbeats 4000000
theorem yD3 : P6 Tryz.prog 180 .u64 := by unfold P6;kernel_rfl
theorem yG6 : P6 Tryz.prog 5 .u8 := by unfold P6;kernel_rfl
theorem yD4 : zO2 Tryz.prog 9 := by unfold zO2;kernel_rfl
theorem zI4 (n : Nat) (h : n ≤ 12) : aS Tryz.prog 121 [.v (.int .u64 n)] [] (.i (zI3 n)) [] := by
  rcases (by omega : n = 0 ∨ n = 1 ∨ n = 2 ∨ n = 3 ∨ n = 4 ∨ n = 5 ∨ n = 6 ∨ n = 7 ∨ n = 8 ∨ n = 9 ∨ n = 10 ∨ n = 11 ∨ n = 12) with rfl | rfl | rfl | rfl | rfl | rfl | rfl | rfl | rfl | rfl | rfl | rfl | rfl
  all_goals
    refine bW T Tryz.func121 rfl rfl rfl rfl ?_
    (repeat' (first|refine wS ?_|refine wK ?_|refine wR ?_|refine wU ?_|(refine rg 0 (aV ?_))|(refine rg 1 (mW rfl (vV (gO rfl rfl) ?_)))|(refine rg 4 (mW rfl (vV (gO rfl rfl) ?_)))|(refine rg 7 (mW rfl (vV (gO rfl rfl) ?_)))|(refine rg 10 (dH rfl (vV (jE yD3 yG6 rfl rfl) (vV (by exact TV yD4 rfl rfl (by decide) rfl) ?_)));refine vV (jE yG6 yU rfl rfl) (vV (YP rfl rfl) (aV ?_)))|refine nZ ?_));all_goals first | (exfalso;omega) | exact rQ
theorem zT9 (n : Nat) (h : n ≤ 12) : aS Tryz.prog 79 [.v (.int .u64 n)] [] (.i (zI3 n)) [] := by
  have hc := zI4 n h;refine bW T Tryz.func79 rfl rfl rfl rfl ?_
  (repeat' (first|refine wS ?_|refine wK ?_|refine wR ?_|refine wU ?_|(refine rg 0 (aV ?_))|(refine rg 2 (mW rfl (vV (kC (hc)) (aV ?_))))|refine nZ ?_));all_goals first | (exfalso;omega) | exact rQ
theorem zZ9 (l : List G) (hdl : T4 l) (hl : l.length ≤ 12) (hw : ∀ g,g ∈ l → zX9 g) (lim : Int) : aS Tryz.prog 140 [.sl 0 0 l.length 2,.i 0,.i l.length,.i lim,OC] [.arr (kE l) 2] (.tup []) [.arr (kE (eC cG l)) 2] := by
  have hc := TL l 0 l.length (cM _) (aX _) hdl (by omega) hw
  rw [show S6 l 0 l.length = eC cG l by unfold S6;simp] at hc
  refine bW T Tryz.func140 rfl rfl rfl rfl ?_
  (repeat' (first|refine wS ?_|refine wB ?_|(refine rg 0 (aV ?_))|(refine rg 1 (aV ?_))|refine nZ ?_));refine dQ (X := Unit) (fun _ => [(0,.sl 0 0 l.length 2),(1,.i 0),(2,.i l.length),(3,.i lim),(4,OC)]) (fun _ => [.arr (kE l) 2]) (fun _ => 0) () ⟨[0],rfl,by (repeat (first | exact trivial | refine ⟨rfl,?_⟩)),⟨.inr (aC rfl rfl (eH _)),trivial⟩,by decide,lJ⟩ ?_
  intro _;dsimp only
  (repeat' (first|refine wS ?_|refine wB ?_|refine wR ?_|(refine wC rfl ?_ ?_<;>(intro hb;(try simp only [nm] at hb);try (exfalso;omega)))|(refine rg 2 (dH rfl (vV (cP rfl rfl (by omega) (by omega)) (aV ?_))))|(refine rg 3 (mW rfl (vV (iF rfl rfl) ?_)))|(refine rg 4 (dH rfl (dH rfl (eP [0] rfl rfl (hc) rfl rfl (by decide) ⟨.inr (aC rfl rfl (eH _)),trivial⟩ (by simp) rfl ?_))))|refine nZ ?_));all_goals first | (exfalso;omega) | exact ⟨.inl rfl,[0],_,rfl,rfl,rfl,⟨.inr (aC rfl (bE _ (eH _)) (eH _)),trivial⟩,by decide,lJ⟩
theorem zF1 (l : List G) (hdl : T4 l) (hl : l.length ≤ 12) (hw : ∀ g,g ∈ l → zX9 g) : aS Tryz.prog 104 [.sl 0 0 l.length 2,OC] [.arr (kE l) 2] (.tup []) [.arr (kE (eC cG l)) 2] := by
  have h1 := zT9 l.length hl;have h2 := zZ9 l hdl hl hw (zI3 l.length);have hw1 : IntKind.u64.wrap (l.length : Int) = (l.length : Int) := HV (by omega) (by omega)
  generalize zI3 l.length = q at *;refine bW T Tryz.func104 rfl rfl rfl rfl ?_
  (repeat' (first|refine wS ?_|(refine rg 0 (mW rfl (qW T rfl (aV ?_))))|(refine rg 1 (dH rfl (mW rfl (vV (jE yU rL rfl hw1) (vV (by exact fE rfl rfl h1 rfl rfl rfl) ?_))));refine mW rfl (eP [0] rfl rfl (h2) rfl rfl (by decide) ⟨.inr (aC rfl rfl (eH _)),trivial⟩ (by simp) rfl ?_))|refine nZ ?_));all_goals first | (exfalso;omega) | exact ⟨.inl rfl,[0],_,rfl,rfl,rfl,⟨.inr (aC rfl (bE _ (eH _)) (eH _)),trivial⟩,by decide,lJ⟩ | exact ⟨.inr rfl,[0],_,rfl,rfl,rfl,⟨.inr (aC rfl (bE _ (eH _)) (eH _)),trivial⟩,by decide,lJ⟩
end Go.Proofs.YtmmmeebiobjnbaaGreat
namespace Go.Ld
open Go.Ab Go.Proofs.YtmmmeebiobjnbaaGreat
def vK (g : G) : List G := lN g.1.length g
theorem NE {g : G} {k : Nat} (h : iI g = some k) : vK g = nD g k :: vK (jP g k) := by
  obtain ⟨h1,_,h3,_⟩ := jW h;have e : (jP g k).1.length = g.1.length - 1 := by show (g.1.eraseIdx k).length = _;rw [gD,if_pos h3]
  unfold vK;rw [e];obtain ⟨m,hm⟩ : ∃ m,g.1.length = m + 1 := ⟨g.1.length - 1,by omega⟩
  rw [hm,UP,lN,h]
theorem Z7 {g : G} (h : iI g = none) : vK g = [g] := by
  unfold vK;cases hl : g.1.length with
  | zero => rfl
  | succ m => rw [lN,h]
theorem LK (g : G) (k : Nat) : iI (nD g k) = none := by unfold iI;rw [if_pos (.inl (by show 1 < 2;omega))]
theorem SQ (g : G) (k : Nat) : vK (nD g k) = [nD g k] := Z7 (LK g k)
structure nQ (n : Nat) (o : List G) : Prop where
  ok : ∀ g,g ∈ o → A4 n g
  nd : (o.flatMap (·.1)).Nodup
  ln : (o.flatMap (·.1)).length ≤ 12
  ws : ∀ g,g ∈ o → g.2.length ≤ 2000
theorem oR {o : List G} {g : G} {b : Int} (h : g ∈ o) (hb : b ∈ g.1) : b ∈ o.flatMap (·.1) := gG.2 ⟨g,h,hb⟩
theorem U6 : ∀ {o : List G}, (o.flatMap (·.1)).Nodup → ∀ {a b : G} {x : Int}, a ∈ o → b ∈ o → x ∈ a.1 → x ∈ b.1 → a = b
  | [],_,a,b,x,ha,_,_,_ => by cases ha
  | g :: o,h,a,b,x,ha,hb,hxa,hxb => by
    rw [bJ] at h;obtain ⟨h1,h2,h3⟩ := cT.1 h;rcases bS.1 ha with e1 | ha' <;> rcases bS.1 hb with e2 | hb'
    · rw [e1,e2]
    · exact absurd rfl (h3 x (e1 ▸ hxa) x (oR hb' hxb))
    · exact absurd rfl (h3 x (e2 ▸ hxb) x (oR ha' hxa))
    · exact U6 h2 ha' hb' hxa hxb
theorem nQ.dist {n : Nat} {o : List G} (h : nQ n o) : T4 o := by
  intro a b ha hb e;have e' : a.1.headD 0 = b.1.headD 0 := (qM.eq _ _).1 e;have hm : ∀ g : G,g.1 ≠ [] → g.1.headD 0 ∈ g.1 := fun g hg => by
    cases hq : g.1 with
    | nil => exact absurd hq hg
    | cons x l => simp
  exact U6 h.nd ha hb (hm a (h.ok a ha).ne) (e' ▸ hm b (h.ok b hb).ne)
theorem nQ.len {n : Nat} {o : List G} (h : nQ n o) : o.length ≤ (o.flatMap (·.1)).length := by
  have : ∀ o : List G,(∀ g,g ∈ o → g.1 ≠ []) → o.length ≤ (o.flatMap (·.1)).length := by
    intro o
    induction o with
    | nil => intro _;simp
    | cons g o ih =>
      intro hg;rw [bJ,aF,List.length_cons];have := ih fun g h => hg g (aI _ h);have : 0 < g.1.length := fH.2 (hg g aR);omega
  exact this o fun g hg => (h.ok g hg).ne
theorem nQ.hd {n : Nat} {o : List G} (h : nQ n o) : ∀ g,g ∈ o → zX9 g := fun g hg => ⟨fH.2 (h.ok g hg).ne,by have := (h.ok g hg).ln;omega⟩
theorem nQ.perm {n : Nat} {o p : List G} (h : nQ n o) (hp : p.Perm o) : nQ n p where
  ok g hg := h.ok g (hp.mem_iff.1 hg)
  nd := (hp.flatMap_right _).nodup_iff.2 h.nd
  ln := by rw [(hp.flatMap_right _).length_eq];exact h.ln
  ws g hg := h.ws g (hp.mem_iff.1 hg)
theorem A4.sz {n : Nat} {g : G} (h : A4 n g) (hw : g.2.length ≤ 2000) : zX8 g := ⟨by have := h.ln;omega,by omega,fun w hw => (h.ws w hw).pl,fun w hw => (h.ws w hw).cl⟩
theorem pL {α : Type} {o : List α} {i : Nat} {x y : α} (h : o[i]? = some x) : ∃ A B,o = A ++ x :: B ∧ o.set i y = A ++ y :: B := by
  obtain ⟨hi,e⟩ := aA.1 h;refine ⟨o.take i,o.drop (i + 1),?_,?_⟩
  · rw [← e,← aT hi,bP]
  · rw [List.set_eq_take_append_cons_drop,if_pos hi]
def DQ (o : List G) (i k : Nat) (g : G) : List G := eC cG (o.set i (jP g k) ++ [nD g k])
theorem JX {o : List G} {i k : Nat} {g : G} (h : o[i]? = some g) (hk : k < g.1.length) : ((o.set i (jP g k) ++ [nD g k]).flatMap (·.1)).Perm (o.flatMap (·.1)) := by
  obtain ⟨A,B,e1,e2⟩ := pL (y := jP g k) h;rw [e2,e1];simp only [fT,bJ,zO6,List.append_nil,bV];refine List.Perm.append_left _ ?_;have h1 : (g.1.getD k 0 :: g.1.eraseIdx k).Perm g.1 := jV g.1 k 0 hk;have h2 : ((jP g k).1 ++ (B.flatMap (·.1) ++ (nD g k).1)).Perm ((nD g k).1 ++ ((jP g k).1 ++ B.flatMap (·.1))) := by
    rw [← bV];exact yQ
  refine h2.trans ?_;rw [← bV];exact List.Perm.append_right _ h1
theorem PZ {n : Nat} {o : List G} {i k : Nat} {g : G} (ok : nQ n o) (h : o[i]? = some g) (hc : iI g = some k) : nQ n (o.set i (jP g k) ++ [nD g k]) := by
  have hg := aN h;have hk := (jW hc).2.2.1;have hb := JX h hk;have hm : ∀ x,x ∈ o.set i (jP g k) ++ [nD g k] → x ∈ o ∨ x = jP g k ∨ x = nD g k := fun x hx => by
    rcases bH.1 hx with hx | hx
    · rcases fS hx with hx | hx
      · exact .inl hx
      · exact .inr (.inl hx)
    · exact .inr (.inr (bK.1 hx))
  refine ⟨fun x hx => ?_,hb.nodup_iff.2 ok.nd,by rw [hb.length_eq];exact ok.ln,fun x hx => ?_⟩
  · rcases hm x hx with hx | rfl | rfl
    · exact ok.ok x hx
    · exact (ok.ok g hg).rest hc
    · exact (ok.ok g hg).one hc
  · rcases hm x hx with hx | rfl | rfl
    · exact ok.ws x hx
    · have := rP (g.2.map fun w => (w.1.eraseIdx k,w.2.1,w.2.2.eraseIdx k));rw [aY] at this;exact bL this (ok.ws g hg)
    · show 1 ≤ 2000;omega
theorem SZ {o : List G} {i k : Nat} {g : G} (h : o[i]? = some g) (hc : iI g = some k) : ((o.set i (jP g k) ++ [nD g k]).flatMap vK).Perm (o.flatMap vK) := by
  obtain ⟨A,B,e1,e2⟩ := pL (y := jP g k) h;rw [e2,e1];simp only [fT,bJ,zO6,List.append_nil,bV,NE hc,SQ];refine List.Perm.append_left _ ?_;rw [← bV];exact yQ
def zO7 (o : List G) : Nat := (o.map fun g => g.1.length - 1).sum
theorem UZ {o p : List G} (h : p.Perm o) : zO7 p = zO7 o := (h.map _).sum_nat
theorem XJ {o : List G} {i k : Nat} {g : G} (h : o[i]? = some g) (hc : iI g = some k) : zO7 (o.set i (jP g k) ++ [nD g k]) + 1 = zO7 o := by
  obtain ⟨A,B,e1,e2⟩ := pL (y := jP g k) h;obtain ⟨h1,_,h3,_⟩ := jW hc;have e : (jP g k).1.length = g.1.length - 1 := by show (g.1.eraseIdx k).length = _;rw [gD,if_pos h3]
  rw [e2,e1];unfold zO7;simp only [bY,List.map_cons,List.map_nil,List.sum_append,yG0,List.sum_nil,e];have : (nD g k).1.length = 1 := rfl;omega
structure pC (n : Nat) (L o : List G) (i : Nat) : Prop where
  ok : nQ n o
  up : LY o
  fl : (o.flatMap vK).Perm (L.flatMap vK)
  hi : i ≤ o.length
  no : ∀ (j : Nat) (g : G),j < i → o[j]? = some g → iI g = none
theorem pC.start {n : Nat} {L : List G} (ok : nQ n L) (up : LY L) : pC n L L 0 := ⟨ok,up,.refl _,cM _,fun j g h => absurd h (eI _)⟩
theorem pC.keep {n : Nat} {L o : List G} {i : Nat} {g : G} (p : pC n L o i) (h : o[i]? = some g) (hc : iI g = none) : pC n L o (i + 1) where
  ok := p.ok
  up := p.up
  fl := p.fl
  hi := (aA.1 h).1
  no j x hj hx := by
    rcases jC j i with h' | h'
    · exact p.no j x h' hx
    · obtain rfl : j = i := by omega
      rw [h] at hx;cases hx;exact hc
theorem pC.next {n : Nat} {L o : List G} {i k : Nat} {g : G} (p : pC n L o i) (h : o[i]? = some g) (hc : iI g = some k) : pC n L (DQ o i k g) 0 where
  ok := (PZ p.ok h hc).perm (dK _ _)
  up := sI _
  fl := ((dK cG _).flatMap_right _).trans ((SZ h hc).trans p.fl)
  hi := cM _
  no j g h := absurd h (eI _)
theorem pC.fin {n : Nat} {L o : List G} {i : Nat} (p : pC n L o i) (hi : o.length ≤ i) : qR L = o := by
  have e : o.flatMap vK = o := by
    have : ∀ g,g ∈ o → vK g = [g] := fun g hg => by
      obtain ⟨j,hj,e⟩ := nT.1 hg;exact Z7 (p.no j g (by omega) (by rw [aB hj,e]))
    clear p hi
    induction o with
    | nil => rfl
    | cons g o ih => rw [bJ,this g aR,ih fun g h => this g (aI _ h)];rfl
  have hp := p.fl;rw [e] at hp;show eC cG (L.flatMap vK) = o;exact IN (p.ok.dist.perm hp.symm) hp p.up
theorem VT {l : List G} {k : Nat} (h : k < l.length) : jS (l.take (k + 1)) = jS (l.take k) + gJ l[k] := by
  unfold jS;rw [aU h,bY,List.sum_append];simp
theorem FD : ∀ {l : List G}, (∀ g, g ∈ l → 0 ≤ gJ g ∧ gJ g ≤ 4000000) → 0 ≤ jS l ∧ jS l ≤ 4000000 * l.length
  | [],_ => by simp [jS]
  | g :: l,h => by
    have h1 := h g aR;have h2 := FD (l := l) fun g hg => h g (aI _ hg);have e : jS (g :: l) = gJ g + jS l := by simp [jS]
    rw [e,List.length_cons];omega
abbrev jT (c : Cx) (gs : List G) : List AV := [.i c.m,.i c.st,.i c.er,.i c.sl,.rowE (gN c.ks) 2,.rowE (iS c.ls) 3,.rowE (dR c.bs) 3,.rowE (kE gs) 2]
theorem TH (c : Cx) (r : Int) (l : List W) : gH (fun w => decide (w.2.1 + r > c.m)) l = l.filter fun w => decide (w.2.1 + r ≤ c.m) := by
  unfold gH;congr 1;funext w;show (!decide (w.2.1 + r > c.m)) = decide (w.2.1 + r ≤ c.m);by_cases h : w.2.1 + r ≤ c.m
  · rw [decide_eq_true h,decide_eq_false (by omega)];rfl
  · rw [decide_eq_false h,decide_eq_true (by omega)];rfl
theorem SS {c : Cx} {all : List G} {k : Nat} (h : k < all.length) : (paid c all).take (k + 1) = (paid c all).take k ++ [(all[k].1,gH (fun w => decide (w.2.1 + (jS all - gJ all[k]) > c.m)) all[k].2)] := by
  rw [TH];unfold paid;rw [← kK,← kK,aU h,bY];rfl
theorem XA (c : Cx) (all : List G) : (paid c all).length = all.length := by unfold paid;rw [aY]
theorem N2 (c : Cx) (all : List G) : (paid c all).flatMap (·.1) = all.flatMap (·.1) := by
  unfold paid;rw [BT]
theorem A4.sub {n : Nat} {g : G} (h : A4 n g) {ws : List W} (hs : ∀ w,w ∈ ws → w ∈ g.2) : A4 n (g.1,ws) := ⟨h.ne,h.up,h.rg,h.ln,fun w hw => h.ws w (hs w hw),fun w v hw hv => h.same w v (hs w hw) (hs v hv)⟩
theorem nQ.paid {n : Nat} {all : List G} (h : nQ n all) (c : Cx) : nQ n (paid c all) where
  ok g hg := by
    obtain ⟨x,hx,rfl⟩ := bC.1 hg;exact (h.ok x hx).sub fun w hw => (eJ.1 hw).1
  nd := by rw [N2];exact h.nd
  ln := by rw [N2];exact h.ln
  ws g hg := by
    obtain ⟨x,hx,rfl⟩ := bC.1 hg;exact bL (fQ _ _) (h.ws x hx)
theorem PC {c : Cx} {all : List G} (h : LY all) : LY (paid c all) := by
  unfold paid;refine zC5.2 (h.imp fun h => h)
theorem DY {n : Nat} {g : G} (h : A4 n g) (hne : g.2 ≠ []) : 0 ≤ gJ g ∧ gJ g ≤ 4000000 := by
  obtain ⟨w,hw,e⟩ := sK hne;have := h.ws w hw;rw [← e];exact ⟨this.m0,this.m1⟩
end Go.Ld
namespace Go.Proofs.YtmmmeebiobjnbaaGreat
open Go Go.Ab Go.Ld
attribute [local irreducible] VC AW cF aS
set_option maxHeartbeats 4000000
theorem zE5 (c : Cx) (gs : List G) (w : W) (r : Int) (h1 : 0 ≤ w.2.1 ∧ w.2.1 ≤ 4000000) (h2 : -100000000 ≤ r ∧ r ≤ 100000000) : aS Tryz.prog 101 [MK w,.pr [.i r] 0,.pr [.pr (jT c gs) 0] 0] [] (.b (decide (w.2.1 + r > c.m))) [] := by
  refine bW T Tryz.func101 rfl rfl rfl rfl ?_
  (repeat' (first|refine wS ?_|refine wR ?_|(refine rg 0 (cD (cQ rfl rfl) rfl (aV ?_)))|(refine cH (id := 1) 15 [[],[0],[],[0,1,2],[],[4],[4,5],[4,5,6],rM 4 4,rN 9] (rM 5 10) [[],[],[5,6],[],rM 5 4,rM 5 4,rM 5 4,rM 5 4,rM 5 4,[]] cO rfl (by decide +kernel) (dP T rfl (dO T rfl (dO T rfl (dV rfl (cC rfl rfl (by omega) (by omega)) (dO T rfl (dV rfl (by exact cJ rfl rfl) ?_))))));refine dP T rfl (dP T rfl (dO T rfl (dV rfl (eU rfl rfl) (dE ?_))));refine aV ?_)|refine nZ ?_));all_goals first | (exfalso;omega) | exact rQ
end Go.Proofs.YtmmmeebiobjnbaaGreat
namespace Go.Ab
open Go
theorem OS {P : Program} {f : FuncId} {n : Nat} (hfn : ∃ fn, P.funcs[f]? = some fn ∧ (fn.name == "runtime.NumGoroutine") = false ∧ fn.body.isNone = false)
    (hs : ∀ w : World,Calls P f #[.slice none 0 0,.int .i64 n] w fun e w' => ∃ (g : Nat) (cs : Array Value) (t : TypeId),e = .returned (.slice (some ⟨w.heap.size,0,none⟩) 0 g) ∧ g ≤ maxLen ∧ g ≤ cs.size ∧ w' = w.drew.alloc (.cells cs t)) :
    aS P f [.nils,.i n] [] (.sl 0 0 0 1) [.arr [] 1] := by
  refine ⟨hfn,fun ρ S w vs s ha => ?_⟩
  simp only [RL,R] at ha;obtain ⟨y,_,rfl,rfl,y2,_,rfl,rfl,rfl⟩ := ha;refine (hs w).mono fun e w' ⟨g,cs,t,he,hg,hgc,hw⟩ => ?_
  subst hw;have hnew : (w.drew.alloc (.cells cs t)).heap[w.heap.size]? = some (.cells cs t (0,0)) := (MapKept.heap_alloc w.drew _).1;obtain ⟨ρ', g1, g2, _⟩ := s.made (x := .sl 0 0 0 1) (b := .arr [] 1) (y := .slice (some ⟨w.heap.size, 0, none⟩) 0 g) (q := some (w.heap.size, 0)) ((nF.drew1 w).trans (pQ w.drew (.cells cs t) (fun _ => False)) (fun _ h => h.elim)) (fun p hp => by cases hp; exact ⟨aX _, by rw [World.size_alloc]; exact Nat.lt_succ_self _⟩)
    (fun ρ' e1 e2 l' => ⟨by simp only [R];exact ⟨_,_,rfl,hg,.inr ⟨_,_,e1,rfl,cM _,⟨cs,t,(0,0),hnew,by omega⟩⟩⟩,⟨(fun e he => nomatch he),MD,.inl ⟨rfl,fun b o hbo => by cases hbo;exact ⟨cs,t,hnew⟩⟩⟩⟩)
  exact ⟨_,ρ',S,he,g1,g2⟩
end Go.Ab
namespace Go.Proofs.YtmmmeebiobjnbaaGreat
open Go Go.Ab Go.Ld Go.Shelf Go.Proofs
attribute [local irreducible] VC AW cF aS
set_option maxHeartbeats 4000000
shelf_lay_g Lays8.n4 Nm8 4 at Tryz 122 as laysGrow
theorem zU9 (n : Nat) (h0 : 0 < n) (h1 : n ≤ 1000000) : aS Tryz.prog 122 [.nils,.i n] [] (.sl 0 0 0 1) [.arr [] 1] := by
  obtain ⟨inf,z,t1,t2,t3,t4,t5,t6,t7⟩ := T.tiOk 3 _ rfl;have hz : z.cells.size = 1 := by have := congrArg List.length t5;simpa using this
  refine OS ⟨_,Tryz.func122,by kernel_rfl,by kernel_rfl⟩ (fun w => ?_)
  refine (Any8.slices_Grow_grow laysGrow inf z t1 t4 (by rw [t2];decide) none 0 0 n [] w (aX _) (by omega) (by rw [t3];simp;omega) (by omega) (by simp) (fun _ => rfl) (fun a h => by cases h)).mono ?_
  rintro e w' ⟨rfl,rfl⟩;have hge := grownCap_ge w (0 + n) 0 3;refine ⟨_,_,_,rfl,grownCap_le_maxLen w _ _ _ (by unfold maxLen;omega),?_,rfl⟩
  simp only [Array.size_append,Builtin.zeroCells,Array.size_map,Array.size_range,hz,nS,List.length_nil];omega
theorem ZE (p q : List Int) (hp : 0 < p.length ∧ p.length ≤ 1000) (hq : 0 < q.length ∧ q.length ≤ 1000) : aS Tryz.prog 81 [.rowE [[.rowE (ints p) 1],[.rowE (ints q) 1]] 1] [] (.rowE (ints (p ++ q)) 1) [] := by
  have hgr := zU9 (p.length + q.length) (by omega) (by omega)
  rw [show ((p.length + q.length : Nat) : Int) = (p.length : Int) + q.length by omega] at hgr
  have hlp : (ints p).length = p.length := cW _;have hlq : (ints q).length = q.length := cW _;have hpq : ints (p ++ q) = ints p ++ ints q := bY;have hle : ∀ e,e ∈ [[AV.rowE (ints p) 1],[AV.rowE (ints q) 1]] → e.length = 1 := by intro e he;simp at he;rcases he with rfl | rfl <;> rfl
  have g0 : [[AV.rowE (ints p) 1],[AV.rowE (ints q) 1]][((0 : Nat) : Int).toNat]? = some [AV.rowE (ints p) 1] := rfl;have g1 : [[AV.rowE (ints p) 1],[AV.rowE (ints q) 1]][((1 : Nat) : Int).toNat]? = some [AV.rowE (ints q) 1] := rfl;refine kH (by rw [cW] : (p ++ q).length = (ints (p ++ q)).length) (fX (bB _)) ?_
  rw [hpq,aF];have o1 := zJ p;have o2 := zJ q;have n1 := dU p;have n2 := dU q;have i1 := bB p;have i2 := bB q;generalize ints p = P' at *;generalize ints q = Q' at *;obtain ⟨sz,s0,s1,s2⟩ : ∃ sz : Nat → Int,sz 0 = 0 ∧ sz 1 = P'.length ∧ sz 2 = P'.length + Q'.length := ⟨fun k => if k = 0 then 0 else if k = 1 then (P'.length : Int) else P'.length + Q'.length,by simp,by simp,by simp⟩
  obtain ⟨cc,c0,c1,c2⟩ : ∃ cc : Nat → List (List AV),cc 0 = [] ∧ cc 1 = P' ∧ cc 2 = P' ++ Q' := ⟨fun k => if k = 0 then [] else if k = 1 then P' else P' ++ Q',by simp,by simp,by simp⟩
  refine bW T Tryz.func81 rfl rfl rfl rfl ?_
  (repeat' (first|refine wS ?_|refine wB ?_|(refine rg 0 (aV ?_))|(refine rg 1 (aV ?_))|(refine rg 2 (mW rfl (qW T rfl (mV ?_))))|refine nZ ?_));refine dQ (X := {k : Nat // k ≤ 2}) (fun k => [(0,.rowE [[.rowE P' 1],[.rowE Q' 1]] 1),(3,.i (sz k.1)),(9,.rowE [[.rowE P' 1],[.rowE Q' 1]] 1),(10,.i 2),(11,.i k.1)]) (fun _ => []) (fun k => 2 - k.1) ⟨0,by omega⟩ ⟨[],rfl,⟨rfl,by rw [s0];rfl,rfl,rfl,rfl,trivial⟩,trivial,eQ,kQ _⟩ ?_
  rintro ⟨k,hk⟩;dsimp only;rcases (by omega : k = 0 ∨ k = 1 ∨ k = 2) with rfl | rfl | rfl
  · (repeat' (first|refine wS ?_|refine wB ?_|refine wK ?_|refine tK rfl ?_|(refine wC rfl (fun hb => ?_) (fun hb => ?_) <;> (((try simp only [nm] at hb);try (exfalso;omega))))|(refine rg 3 (vV (aM rfl rfl) ?_))|(refine rg 4 (vV (ix T rfl (by omega) hle g0) (lW T rfl (aV ?_))))|(refine rg 5 (dH rfl (qW T rfl (vV (cC rfl rfl (by omega) (by omega)) (aV ?_)))))|(refine rg 6 (mW rfl (vV (aM rfl rfl) ?_)))|(refine rg 8 (vV (cC rfl rfl (by omega) (by omega)) (mV ?_)))|(refine nZ ?_)));all_goals first | (exfalso;omega) | exact ⟨⟨1,by omega⟩,by dsimp only;omega,[],rfl,⟨rfl,by dsimp only;rw [show sz 1 = sz 0 + P'.length by omega];rfl,rfl,rfl,rfl,trivial⟩,trivial,eQ,kQ _⟩
  · (repeat' (first|refine wS ?_|refine wB ?_|refine wK ?_|refine tK rfl ?_|(refine wC rfl (fun hb => ?_) (fun hb => ?_) <;> (((try simp only [nm] at hb);try (exfalso;omega))))|(refine rg 3 (vV (aM rfl rfl) ?_))|(refine rg 4 (vV (ix T rfl (by omega) hle g1) (lW T rfl (aV ?_))))|(refine rg 5 (dH rfl (qW T rfl (vV (cC rfl rfl (by omega) (by omega)) (aV ?_)))))|(refine rg 6 (mW rfl (vV (aM rfl rfl) ?_)))|(refine rg 8 (vV (cC rfl rfl (by omega) (by omega)) (mV ?_)))|(refine nZ ?_)));all_goals first | (exfalso;omega) | exact ⟨⟨2,by omega⟩,by dsimp only;omega,[],rfl,⟨rfl,by dsimp only;rw [show sz 2 = sz 1 + Q'.length by omega];rfl,rfl,rfl,rfl,trivial⟩,trivial,eQ,kQ _⟩
  · rw [← hlp,← hlq,← s2] at hgr
    (repeat' (first|refine wS ?_|refine wB ?_|refine wE ?_|refine wU ?_|(refine rg 3 (vV (aM rfl rfl) ?_))|(refine rg 9 (mW rfl (cD (by exact fL rfl rfl hgr (.inr ⟨rfl,rfl,by simp⟩)) rfl ?_));refine aV ?_)|(refine rg 10 (mW rfl (qW T rfl (mV ?_))))|refine nZ ?_));all_goals try (exfalso;omega)
    refine dQ (X := {k : Nat // k ≤ 2}) (fun k => [(6,.sl 0 0 (cc k.1).length 1),(25,.rowE [[.rowE P' 1],[.rowE Q' 1]] 1),(26,.i 2),(27,.i k.1)]) (fun k => [.arr (cc k.1) 1]) (fun k => 2 - k.1) ⟨0,by omega⟩ ⟨[0],rfl,⟨by dsimp only;rw [c0];rfl,rfl,rfl,rfl,trivial⟩,⟨.inr (aC rfl (by dsimp only;rw [c0];rfl) (by rw [c0];intro e he;cases he)),trivial⟩,by decide,kQ _⟩ ?_
    clear hk;rintro ⟨k,hk⟩;dsimp only;rcases (by omega : k = 0 ∨ k = 1 ∨ k = 2) with rfl | rfl | rfl
    · rw [c0]
      (repeat' (first|refine wS ?_|refine wB ?_|refine wK ?_|refine wT ?_|(refine rg 11 (vV (aM rfl rfl) ?_))|(refine rg 12 (vV (ix T rfl (by omega) hle g0) (lW T rfl (aV ?_))))|(refine rg 13 (dH rfl (fY T rfl rfl rfl rfl rfl rfl (by simp) (.row n1) o1 (by simp;omega) (by simp;omega) rfl ?_));refine aV ?_)|(refine rg 14 (vV (cC rfl rfl (by omega) (by omega)) (mV ?_)))|refine nZ ?_));all_goals first | (exfalso;omega) | skip
      exact ⟨⟨1,by omega⟩,by dsimp only;omega,⟨[1],rfl,⟨by dsimp only;rw [c1];show some (AV.sl 1 0 (0 + P'.length) 1) = some (AV.sl 1 0 P'.length 1);rw [Nat.zero_add],rfl,rfl,rfl,trivial⟩,⟨.inr (aC rfl (by dsimp only;rw [c1];rfl) (by rw [c1];exact i1)),trivial⟩,by decide,kQ _⟩⟩
    · rw [c1]
      (repeat' (first|refine wS ?_|refine wB ?_|refine wK ?_|refine wT ?_|(refine rg 11 (vV (aM rfl rfl) ?_))|(refine rg 12 (vV (ix T rfl (by omega) hle g1) (lW T rfl (aV ?_))))|(refine rg 13 (dH rfl (fY T rfl rfl rfl rfl rfl rfl (by omega) (.row n2) o2 (by (simp;omega)) (by omega) rfl ?_));refine aV ?_)|(refine rg 14 (vV (cC rfl rfl (by omega) (by omega)) (mV ?_)))|refine nZ ?_));all_goals first | (exfalso;omega) | skip
      exact ⟨⟨2,by omega⟩,by dsimp only;omega,⟨[1],rfl,⟨by dsimp only;rw [c2,aF];rfl,rfl,rfl,rfl,trivial⟩,⟨.inr (aC rfl (by dsimp only;rw [c2,jR,dA]) (by rw [c2];intro e he;rcases bH.1 he with he | he;exact i1 e he;exact i2 e he)),trivial⟩,by decide,kQ _⟩⟩
    · rw [c2,aF]
      (repeat' (first|refine wS ?_|refine wR ?_|refine wE ?_|refine wU ?_|(refine rg 11 (vV (aM rfl rfl) ?_))|(refine rg 15 (mW rfl (aV ?_)))|refine nZ ?_));all_goals first | (exfalso;omega) | exact ⟨.inl rfl,[0],_,rfl,by rw [hlp,hlq];rfl,rfl,⟨.inr (aC rfl rfl (by intro e he;rcases bH.1 he with he | he;exact i1 e he;exact i2 e he)),trivial⟩,by decide,kQ _⟩
theorem K4 (l : List G) (hl : l.length ≤ 1000000) : aS Tryz.prog 58 [.rowE (kE l) 2] [] (.sl 0 0 l.length 2) [.arr (kE l) 2] := by
  have hll : (kE l).length = l.length := jK l;refine bW T Tryz.func58 rfl rfl rfl rfl ?_
  repeat' (first|refine wS ?_|refine wK ?_|refine wT ?_|refine wU ?_|(refine rg 0 (aV ?_))|(refine rg 1 (mV ?_);refine sO T rfl rfl rfl rfl fun b hb=>?_;cases b)|refine nZ ?_)
  · (repeat' (first|refine wR ?_|(refine rg 3 (cD (by exact bD T rfl rfl (by decide) (by decide) rfl rfl rfl) rfl ?_);refine mW rfl (fY T rfl rfl rfl rfl rfl rfl (by decide) (.row (rB l)) (YN l) (by simp;omega) (by simp;omega) rfl ?_);refine aV ?_)|(refine nZ ?_)));exact ⟨.inl rfl,[1],_,rfl,(by show AV.sl 1 0 (0 + (kE l).length) 2 = AV.sl 1 0 l.length 2;simp),rfl,⟨.inr (aC rfl rfl (eH _)),trivial⟩,by decide,N4⟩
  · have hl0 : l = [] := fP.1 (Classical.byContradiction fun h => by have := hb (by omega);cases this)
    subst hl0
    (repeat' (first|refine wR ?_|(refine rg 2 (vV (dJ rfl) (qC 2 2 rfl (by decide) ?_)))|refine nZ ?_));exact ⟨.inl rfl,[0],_,rfl,rfl,rfl,⟨.inr (aC rfl rfl (eH _)),trivial⟩,by decide,N4⟩
theorem zL5 (g : G) (b : Int) (h : g.1.length ≤ 1000000) : aS Tryz.prog 85 [UW g,.pr [.i b] 0] [] (.b (decide (b ∈ g.1))) [] := by
  have hc := xP g.1 b (by omega)
  refine bW T Tryz.func85 rfl rfl rfl rfl ?_
  (repeat' (first|refine wS ?_|refine wR ?_|(refine rg 0 (cD (cQ rfl rfl) rfl (aV ?_)))|(refine rg 1 (iB T rfl (lW T rfl (vV (kC (hc)) (aV ?_)))))|refine nZ ?_));all_goals first | (exfalso;omega) | exact rQ
theorem zN (l : List G) (b : Int) (hl : l.length ≤ 1000000) (hg : ∀ g,g ∈ l → g.1.length ≤ 1000000) : aS Tryz.prog 61 [.rowE (kE l) 2,.i b] [] (.i (oS l b)) [] := by
  have hc := zP8 (caps := [.pr [.i b] 0]) (p := fun g => decide (b ∈ g.1)) hl rfl (fun x hx => zL5 x b (hg x hx));have e : tC (fun g : G => decide (b ∈ g.1)) l 0 = oS l b := by
    rw [EB];unfold oS;cases l.findIdx? fun g => decide (b ∈ g.1) with
    | none => rfl
    | some i => simp
  rw [e] at hc;generalize oS l b = v at *;refine bW T Tryz.func61 rfl rfl rfl rfl ?_
  (repeat' (first|refine wS ?_|refine wR ?_|(refine rg 0 (cD (cQ rfl rfl) rfl (aV ?_)))|(refine rg 1 (mW rfl (vV (by exact kU rfl rfl) ?_));refine vV (by exact fB rfl rfl hc (.cons (.row _ _ _) (.cons (.clo .nil (.cons (.ptr rfl (.cons (.v _) .nil)) .nil)) .nil)) rfl rfl) ?_;refine aV ?_)|refine nZ ?_));all_goals first | (exfalso;omega) | exact rQ
end Go.Proofs.YtmmmeebiobjnbaaGreat
namespace Go.Ld
open Go.Ab Go.Proofs.YtmmmeebiobjnbaaGreat
theorem KT {α β : Type} {f : α → List β} {n : Nat} : ∀ (l : List α) (hf : ∀ x, x ∈ l → (f x).length = n) (i j : Nat) (hi : i < l.length) (hj : j < n), (l.flatMap f)[n * i + j]? = (f l[i])[j]?
  | [],hf,i,j,hi,hj => by simp at hi
  | x :: l,hf,0,j,hi,hj => by
    rw [bJ,Nat.mul_zero,Nat.zero_add,aH (by rw [hf x aR];exact hj)];rfl
  | x :: l,hf,i + 1,j,hi,hj => by
    have h1 := hf x aR;rw [bJ,aE (by rw [h1,zC2];omega),h1,show n * (i + 1) + j - n = n * i + j by rw [zC2];omega]
    exact KT l (fun x hx => hf x (aI _ hx)) i j (by simpa using hi) hj
theorem KS {α β : Type} {f : α → List β} {n : Nat} : ∀ (l : List α) (hf : ∀ x, x ∈ l → (f x).length = n), (l.flatMap f).length = n * l.length
  | [],hf => by simp
  | x :: l,hf => by
    rw [bJ,aF,hf x aR,KS l (fun x hx => hf x (aI _ hx)),List.length_cons,zC2];omega
theorem DJ (a b : G) (l : List Int) : (pF a b l).length = b.2.length * a.2.length := KS _ fun x _ => aY _
theorem SR {a b : G} {l : List Int} {i j : Nat} (hi : i < a.2.length) (hj : j < b.2.length) : (pF a b l)[b.2.length * i + j]? = some (E2 a b a.2[i] b.2[j] l) := by
  unfold pF;rw [KT _ (fun x _ => aY _) i j hi hj];simp [hj]
theorem B8 : ∀ (l : List Int) (v : Int) (k : Nat), v ∈ l → xG l v k = ((k + l.idxOf v : Nat) : Int)
  | [],v,k,h => by cases h
  | x :: l,v,k,h => by
    unfold xG;by_cases e : v = x
    · rw [if_pos e,e,List.idxOf_cons_self];rfl
    · have e' : (x :: l).idxOf v = l.idxOf v + 1 := by rw [List.idxOf_cons,beq_eq_false_iff_ne.2 (fun h => e h.symm)];rfl
      rw [if_neg e,show ((k : Int) + 1) = ((k + 1 : Nat) : Int) by omega,B8 l v (k + 1) (by rcases bS.1 h with h | h;exact absurd h e;exact h),e']
      omega
theorem QL : ∀ (l : List Int) (v k : Int), v ∉ l → xG l v k = -1
  | [],v,k,h => rfl
  | x :: l,v,k,h => by
    unfold xG;rw [if_neg (fun e : v = x => h (by rw [e];exact aR)),QL l v (k + 1) (fun q => h (aI _ q))]
def Z3 (a b : G) (l : List Int) (k : Nat) : List AV := match (pF a b l)[k]? with
  | some w => [.agg (wA w)]
  | none => []
theorem WS {a b : G} {l : List Int} {i j : Nat} (hi : i < a.2.length) (hj : j < b.2.length) : Z3 a b l (b.2.length * i + j) = [.agg (wA (E2 a b a.2[i] b.2[j] l))] := by
  unfold Z3;rw [SR hi hj]
theorem IF {α β : Type} {f : α → β} {l : List α} {m : Nat} (h : m < l.length) : (l.map f).take (m + 1) = (l.map f).take m ++ [f l[m]] := by
  rw [aU (by simpa using h)];simp
end Go.Ld
namespace Go.Proofs.YtmmmeebiobjnbaaGreat
open Go Go.Ab Go.Ld
attribute [local irreducible] VC AW cF aS AY VY BV iZ
set_option maxHeartbeats 4000000
abbrev zS7 (a b : G) (l : List Int) : AV := .clo (.func 123) [] [.pr (gA a) 0,.pr (gA b) 0,.pr [.rowE (ints l) 1] 0]
theorem zH0 (a b : G) (l : List Int) : aS Tryz.prog 82 [UW a,UW b,.rowE (ints l) 1] [] (zS7 a b l) [] := by
  refine G6 (res := .clo (.func 123) [] [.ptr 0 0,.ptr 1 0,.ptr 2 0]) (hout := [.cells (gA a),.cells (gA b),.cells [.rowE (ints l) 1]]) ?_ (.clo .nil (.cons (.ptr rfl (.cons (.row _ _ _) (.cons (.row _ _ _) .nil))) (.cons (.ptr rfl (.cons (.row _ _ _) (.cons (.row _ _ _) .nil))) (.cons (.ptr rfl (.cons (.row _ _ _) .nil)) .nil))));refine bW T Tryz.func82 rfl rfl rfl rfl ?_
  (repeat' (first|refine wS ?_|refine wR ?_|(refine rg 0 (cD (cQ rfl rfl) rfl (cD (cQ rfl rfl) rfl (cD (cQ rfl rfl) rfl (aV ?_)))))|(refine rg 1 (vV (by exact kU rfl rfl) ?_);refine aV ?_)|refine nZ ?_));all_goals exact ⟨.inl rfl,[0,1,2],_,rfl,rfl,rfl,⟨.inr rfl,.inr rfl,.inr rfl,trivial⟩,by decide,kQ _⟩
theorem WY (a b : G) (l : List Int) (sa : zX8 a) (sb : zX8 b) (hl : l.length ≤ 1000) (hm : ∀ k,k ∈ l → k ∈ a.1 ∨ k ∈ b.1) (h1 : ∀ w,w ∈ a.2 → 0 ≤ w.2.1 ∧ w.2.1 ≤ 4000000) (h2 : ∀ w,w ∈ b.2 → 0 ≤ w.2.1 ∧ w.2.1 ≤ 4000000) :
    BV Tryz.prog 123 [] [.pr (gA a) 0,.pr (gA b) 0,.pr [.rowE (ints l) 1] 0] [] (Z3 a b l) (pF a b l).length := by
  have hnn := DJ a b l;have hla : (gE a.2).length = a.2.length := fF _;have hlb : (gE b.2).length = b.2.length := fF _;have hll : (ints l).length = l.length := cW _;have hwa := sa.w;have hwb := sb.w;refine zQ4 T Tryz.func123 rfl rfl rfl rfl ?_;intro J A y hJ hy
  (repeat' (first|(first|(refine xR ?_)|(refine zT ?_))|(((refine qX hJ (eT (id := 0) ?_)));(all_goals (refine GG T ?_;(refine qV T ?_);refine mV ?_)))|refine nZ ?_));refine GW (X := {i : Nat // i ≤ a.2.length}) (fun i => [(0,.clo (.yield y) [] []),(1,.pr (gA a) 0),(2,.pr (gA b) 0),(3,.pr [.rowE (ints l) 1] 0),(15,.rowE (gE a.2) 3),(16,.i (gE a.2).length),(17,.i i.1)]) (fun _ => []) (fun i => (b.2.length * i.1,false)) (fun i => a.2.length - i.1) ⟨0,cM _⟩ rfl (gM []) ?_
  rintro ⟨i,hi⟩;dsimp only;by_cases hlt : i < a.2.length
  · have ga := A5 hlt;have hx := sa.p _ (aQ hlt);have hx2 := sa.c _ (aQ hlt);have hx3 := h1 _ (aQ hlt);have hpi := fun (j : Nat) (hj : j < b.2.length) => WS (a := a) (b := b) (l := l) hlt hj;generalize a.2[i] = x at *
    (repeat' (first|(first|(refine xR ?_)|(refine zT ?_)|(refine V8 ?_))|((refine xS rfl (fun hb=>?_) (fun hb=>?_)<;>(((try simp only [nm] at hb);try ((exfalso;omega);done)))))|(((refine qX hJ (eT (id := 1) ?_)));(all_goals (refine vV (aM rfl rfl) ?_)))|(((refine qX hJ (eT (id := 2) ?_)));(all_goals (refine vV (ix T rfl (by omega) (pD _) ga) ?_;refine lV T ?_;refine cD (cK T rfl) rfl ?_;refine bA T rfl rfl rfl rfl rfl rfl (by decide) rfl ?_)))|(((refine qX hJ (eT (id := 3) ?_)));(all_goals (refine GG T ?_;(refine qV T ?_);refine mV ?_)))|refine nZ ?_));all_goals try (exfalso;omega)
    refine GW (X := {j : Nat // j ≤ b.2.length}) (fun j => [(0,.clo (.yield y) [] []),(1,.pr (gA a) 0),(2,.pr (gA b) 0),(3,.pr [.rowE (ints l) 1] 0),(6,.ptr 0 0),(15,.rowE (gE a.2) 3),(16,.i (gE a.2).length),(17,.i i),(22,.rowE (gE b.2) 3),(23,.i (gE b.2).length),(24,.i j.1)]) (fun _ => [.cells (wA x)]) (fun j => (b.2.length * i + j.1,false)) (fun j => b.2.length - j.1) ⟨0,cM _⟩ rfl ⟨[0],rfl,(by repeat first|exact trivial|refine ⟨rfl,?_⟩),⟨.inr rfl,trivial⟩,by decide,kQ _⟩ ?_
    rintro ⟨j,hj⟩;dsimp only;by_cases hjl : j < b.2.length
    · have gb := A5 hjl;have hy1 := sb.p _ (aQ hjl);have hy2 := sb.c _ (aQ hjl);have hy3 := h2 _ (aQ hjl);have hit := hpi j hjl;have hk : b.2.length * i + j < (pF a b l).length := by
        rw [hnn];have := Nat.mul_le_mul_left b.2.length (show i + 1 ≤ a.2.length by omega)
        rw [zC2] at this;omega
      generalize b.2[j] = z at *
      (repeat' (first|(first|(refine xR ?_)|(refine zT ?_)|(refine V8 ?_))|((refine xS rfl (fun hb=>?_) (fun hb=>?_)<;>(((try simp only [nm] at hb);try ((exfalso;omega);done)))))|(((refine qX hJ (eT (id := 4) ?_)));(all_goals (refine vV (aM rfl rfl) ?_)))|(((refine qX hJ (eT (id := 5) ?_)));(all_goals (refine vV (ix T rfl (by omega) (pD _) gb) ?_;refine lV T ?_;refine cD (cK T rfl) rfl ?_;refine bA T rfl rfl rfl rfl rfl rfl (by decide) rfl ?_)))|(((refine qX hJ (eT (id := 6) ?_)));(all_goals (refine GG T ?_;refine GG T ?_;refine vV (cC rfl rfl (by omega) (by omega)) ?_;refine vV (by exact eS T rfl rfl rfl rfl) ?_;refine cD (cK T rfl) rfl ?_;refine bA T rfl rfl rfl rfl rfl rfl (by decide) rfl ?_)))|(((refine qX hJ (eT (id := 7) ?_)));(all_goals (refine lV T ?_;(refine qV T ?_);refine mV ?_)))|refine nZ ?_));all_goals try (exfalso;omega)
      refine qX hJ ?_;refine nY 2 0 1 rfl rfl (by decide) ?_
      refine nY 2 2 2 rfl rfl (by decide) ?_
      let fp : Int → Int := fun k => if k ∈ a.1 then gP x (a.1.idxOf k) else gP z (b.1.idxOf k)
      let fc : Int → SP := fun k => if k ∈ a.1 then gC x (a.1.idxOf k) else gC z (b.1.idxOf k)
      have hw : E2 a b x z l = (l.map fp,x.2.1 + z.2.1,l.map fc) := rfl;rw [hw] at hit;have hplen : (l.map fp).length = l.length := aY _;have hclen : (l.map fc).length = l.length := aY _;have hpt : ∀ m (h : m < l.length),(l.map fp).take (m + 1) = (l.map fp).take m ++ [fp l[m]] := fun m h => IF h
      have hct : ∀ m (h : m < l.length),(l.map fc).take (m + 1) = (l.map fc).take m ++ [fc l[m]] := fun m h => IF h
      have hfa : ∀ k,k ∈ a.1 → fp k = x.1.getD (a.1.idxOf k) 0 ∧ fc k = x.2.2.getD (a.1.idxOf k) (0,0) := fun k h => ⟨if_pos h,if_pos h⟩
      have hfb : ∀ k,k ∉ a.1 → fp k = z.1.getD (b.1.idxOf k) 0 ∧ fc k = z.2.2.getD (b.1.idxOf k) (0,0) := fun k h => ⟨if_neg h,if_neg h⟩
      clear_value fp fc
      clear hw;generalize l.map fp = PP at *;generalize l.map fc = CC at *;refine dQ (X := {m : Nat // m ≤ l.length}) (fun m => [(0, .clo (.yield y) [] []), (1, .pr (gA a) 0), (2, .pr (gA b) 0), (3, .pr [.rowE (ints l) 1] 0), (6, .ptr 0 0), (8, .ptr 1 0), (9, .ptr 2 0), (15, .rowE (gE a.2) 3), (16, .i (gE a.2).length), (17, .i i), (22, .rowE (gE b.2) 3), (23, .i (gE b.2).length), (24, .i j), (34, .rowE (ints l) 1), (35, .i (ints l).length), (36, .i m.1)])
        (fun m => [.cells (wA x),.cells (wA z),.cells [.sl 3 0 m.1 1,.i (x.2.1 + z.2.1),.sl 4 0 m.1 2],.arr (ints (PP.take m.1)) 1,.arr (fJ (CC.take m.1)) 2]) (fun m => l.length - m.1) ⟨0,cM _⟩ ⟨[0,1,2,3,4],rfl,(by repeat first|exact trivial|refine ⟨rfl,?_⟩),⟨.inr rfl,.inr rfl,.inr rfl,.inr rfl,.inr rfl,trivial⟩,by decide,kQ _⟩ ?_
      rintro ⟨m,hm'⟩;dsimp only;have hTp : (ints (PP.take m)).length = m := by rw [cW,bG];omega
      have hTc : (fJ (CC.take m)).length = m := by rw [iH,bG];omega
      by_cases hml : m < l.length
      · have hgl := QE hml;have hkm := hm l[m] (aQ hml);have hp1 := hpt m hml;have hc1 := hct m hml;generalize l[m] = k at *;by_cases hka : k ∈ a.1
        · obtain ⟨e1,e2⟩ := hfa k hka;have hix := xE a.1 k (by have := sa.b;omega)
          have hxi : xG a.1 k 0 = ((a.1.idxOf k : Nat) : Int) := by have := B8 a.1 k 0 hka;simpa using this
          rw [hxi] at hix;have hio := gW hka;generalize a.1.idxOf k = ia at *;have qp := qG (l := x.1) (j := (ia : Int)) (i := ia) 0 (by omega) rfl
          have qc := vE (l := x.2.2) (j := (ia : Int)) (i := ia) (by omega) rfl
          have hlp : (ints x.1).length = x.1.length := cW _;have hlc : (fJ x.2.2).length = x.2.2.length := iH _;rw [← e1] at qp;rw [← e2] at qc;have hPs : ints (PP.take (m + 1)) = ints (PP.take m) ++ [[AV.i (fp k)]] := by rw [hp1,O2]
          have hCs : fJ (CC.take (m + 1)) = fJ (CC.take m) ++ [[AV.i (fc k).1,AV.i (fc k).2]] := by rw [hc1,fJ,bY];rfl
          generalize ints (PP.take m) = P0 at *;generalize fJ (CC.take m) = C0 at *;generalize fp k = vp at *;generalize fc k = vc at *
          (repeat' (first|refine wS ?_|refine wB ?_|refine wK ?_|refine wU ?_|(refine wC rfl ?_ ?_<;>(intro hb;(try simp only [nm] at hb);try (exfalso;omega)))|(refine rg 8 (vV (aM rfl rfl) ?_))|(refine rg 9 (vV (ix T rfl (by omega) (dU _) hgl) (lW T rfl (aV ?_))))|(refine tJ (id := 10) 6 79 [[],[],[1],[],[1,2,3],[],rN 6,rN 7] [[],[],[1],[],[1,2,3],[]] [40,41,42,43,44,12] [[],[40],[40],[40,41,42],[40],rM 40 5] cO rfl (by decide +kernel) (by decide +kernel) ?_;(dsimp only [List.take,List.drop]);refine dO T rfl (dP T rfl (dO T rfl (dN rfl (dV rfl (kC (hix)) (F9 rfl rfl rfl (by exact cK T rfl) rfl ?_)))));refine AZ rfl rfl (by ((dsimp only [List.nil_append,List.cons_append,List.append_nil,List.length_cons,List.length_nil,List.set_cons_zero,List.set_cons_succ,List.map_cons,List.map_nil,kF,mN,mR,rX,MT,F0,X3,W9,W8,X0,E9,F2,E8,F1,Nat.zero_add,Nat.add_zero,Nat.reduceAdd,Bool.not_true,Bool.not_false];done))) ?_;refine iK ?_;refine bA T rfl rfl rfl rfl rfl rfl (by decide) rfl (aV ?_))|(refine rg 11 (mW rfl (vV (aM rfl rfl) ?_)))|(refine mH (id := 13) 79 yM0 (rM 52 19) yM1 [(8,3),(17,4),(19,2)] cO rfl (by decide +kernel) (cE rfl rfl rfl rfl (by exact bF T rfl rfl rfl) ?_);refine cE rfl rfl rfl rfl (by exact aJ T rfl rfl rfl rfl) ?_;refine cE rfl rfl rfl rfl (by exact bF T rfl rfl rfl) ?_;refine cE rfl rfl rfl rfl (by exact aJ T rfl rfl rfl rfl) ?_;refine cE rfl rfl rfl rfl (by exact bN rfl) ?_;refine cE rfl rfl rfl rfl (by exact ix T rfl (by omega) (dU _) qp) ?_;refine cE rfl rfl rfl rfl (by exact aJ T rfl rfl rfl rfl) ?_;refine uJ rfl rfl rfl rfl (by exact bD T rfl rfl (by decide) (by decide) rfl rfl rfl) rfl ?_;refine mQ rfl rfl rfl rfl (aG rfl) (by exact lL T rfl rfl rfl rfl rfl rfl (by omega) (jJ.whole rfl rfl) rfl (by simp;omega) (by simp;omega)) ?_;refine cE rfl rfl rfl rfl (by exact bF T rfl rfl rfl) ?_;refine cE rfl rfl rfl rfl (by exact aJ T rfl rfl rfl rfl) ?_;refine cE rfl rfl rfl rfl (by exact bF T rfl rfl rfl) ?_;refine cE rfl rfl rfl rfl (by exact aJ T rfl rfl rfl rfl) ?_;refine cE rfl rfl rfl rfl (by exact bN rfl) ?_;refine cE rfl rfl rfl rfl (by exact ix T rfl (by omega) (lG _) qc) ?_;refine cE rfl rfl rfl rfl (by exact aJ T rfl rfl rfl rfl) ?_;refine uJ rfl rfl rfl rfl (by exact bD T rfl rfl (by decide) (by decide) rfl rfl rfl) rfl ?_;refine mQ rfl rfl rfl rfl (aG rfl) (by exact lL T rfl rfl rfl rfl rfl rfl (by omega) (jJ.whole rfl rfl) rfl (by simp;omega) (by simp;omega)) ?_;refine cE rfl rfl rfl rfl (by exact bF T rfl rfl rfl) ?_;refine uW rfl rfl rfl rfl (aG rfl) T rfl rfl rfl rfl rfl rfl (by decide) rfl ?_;refine qK rfl rfl rfl (by exact rfl) ?_;refine fW T rfl (bA T rfl rfl rfl rfl rfl rfl (by decide) rfl ?_))|(refine rg 14 (vV (cC rfl rfl (by omega) (by omega)) (mV ?_)))|refine nZ ?_));all_goals try (exfalso;omega)
          exact ⟨⟨m + 1,hml⟩,by dsimp only;omega,⟨[0,1,2,7,9],rfl,(by repeat first|exact trivial|refine ⟨rfl,?_⟩),⟨.inr rfl,.inr rfl,.inr rfl,.inr (aC rfl (by dsimp only;rw [hPs];exact jN hTp.symm) (bB _)),.inr (aC rfl (by dsimp only;rw [hCs];exact jN hTc.symm) (eZ _)),trivial⟩,by decide,kQ _⟩⟩
        · obtain ⟨e1,e2⟩ := hfb k hka;have hkb : k ∈ b.1 := hkm.resolve_left hka;have hix := xE a.1 k (by have := sa.b;omega)
          have hiy := xE b.1 k (by have := sb.b;omega)
          have hyi : xG b.1 k 0 = ((b.1.idxOf k : Nat) : Int) := by have := B8 b.1 k 0 hkb;simpa using this
          rw [QL _ _ _ hka] at hix;rw [hyi] at hiy;have hio := gW hkb;generalize b.1.idxOf k = ia at *;have qp := qG (l := z.1) (j := (ia : Int)) (i := ia) 0 (by omega) rfl
          have qc := vE (l := z.2.2) (j := (ia : Int)) (i := ia) (by omega) rfl
          have hlp : (ints z.1).length = z.1.length := cW _;have hlc : (fJ z.2.2).length = z.2.2.length := iH _;rw [← e1] at qp;rw [← e2] at qc;have hPs : ints (PP.take (m + 1)) = ints (PP.take m) ++ [[AV.i (fp k)]] := by rw [hp1,O2]
          have hCs : fJ (CC.take (m + 1)) = fJ (CC.take m) ++ [[AV.i (fc k).1,AV.i (fc k).2]] := by rw [hc1,fJ,bY];rfl
          generalize ints (PP.take m) = P0 at *;generalize fJ (CC.take m) = C0 at *;generalize fp k = vp at *;generalize fc k = vc at *
          (repeat' (first|refine wS ?_|refine wB ?_|refine wK ?_|refine wT ?_|(refine wC rfl ?_ ?_<;>(intro hb;(try simp only [nm] at hb);try (exfalso;omega)))|(refine rg 8 (vV (aM rfl rfl) ?_))|(refine rg 9 (vV (ix T rfl (by omega) (dU _) hgl) (lW T rfl (aV ?_))))|(refine tJ (id := 10) 6 79 [[],[],[1],[],[1,2,3],[],rN 6,rN 7] [[],[],[1],[],[1,2,3],[]] [40,41,42,43,44,12] [[],[40],[40],[40,41,42],[40],rM 40 5] cO rfl (by decide +kernel) (by decide +kernel) ?_;(dsimp only [List.take,List.drop]);refine dO T rfl (dP T rfl (dO T rfl (dN rfl (dV rfl (kC (hix)) (F9 rfl rfl rfl (by exact cK T rfl) rfl ?_)))));refine AZ rfl rfl (by ((dsimp only [List.nil_append,List.cons_append,List.append_nil,List.length_cons,List.length_nil,List.set_cons_zero,List.set_cons_succ,List.map_cons,List.map_nil,kF,mN,mR,rX,MT,F0,X3,W9,W8,X0,E9,F2,E8,F1,Nat.zero_add,Nat.add_zero,Nat.reduceAdd,Bool.not_true,Bool.not_false];done))) ?_;refine iK ?_;refine bA T rfl rfl rfl rfl rfl rfl (by decide) rfl (aV ?_))|(refine rg 11 (mW rfl (vV (aM rfl rfl) ?_)))|(refine nC (id := 12) 79 [[],[],[1],[],[1,2,3],rN 5] (rM 47 5) [[],[47],[47],[47,48,49],[47],[]] [(5,5)] cO rfl (by decide +kernel) (cN rfl rfl rfl rfl (by exact aJ T rfl rfl rfl rfl) ?_);refine cN rfl rfl rfl rfl (by exact bF T rfl rfl rfl) ?_;refine cN rfl rfl rfl rfl (by exact aJ T rfl rfl rfl rfl) ?_;refine cN rfl rfl rfl rfl (by exact bN rfl) ?_;refine cN rfl rfl rfl rfl (by exact kC (hiy)) ?_;refine uV rfl rfl rfl rfl (aG rfl) T rfl rfl rfl rfl rfl rfl (by decide) rfl ?_;refine rJ rfl rfl rfl (by exact rfl) ?_;refine aV ?_)|(refine mH (id := 13) 79 yM0 (rM 52 19) yM1 [(8,3),(17,4),(19,2)] cO rfl (by decide +kernel) (cE rfl rfl rfl rfl (by exact bF T rfl rfl rfl) ?_);refine cE rfl rfl rfl rfl (by exact aJ T rfl rfl rfl rfl) ?_;refine cE rfl rfl rfl rfl (by exact bF T rfl rfl rfl) ?_;refine cE rfl rfl rfl rfl (by exact aJ T rfl rfl rfl rfl) ?_;refine cE rfl rfl rfl rfl (by exact bN rfl) ?_;refine cE rfl rfl rfl rfl (by exact ix T rfl (by omega) (dU _) qp) ?_;refine cE rfl rfl rfl rfl (by exact aJ T rfl rfl rfl rfl) ?_;refine uJ rfl rfl rfl rfl (by exact bD T rfl rfl (by decide) (by decide) rfl rfl rfl) rfl ?_;refine mQ rfl rfl rfl rfl (aG rfl) (by exact lL T rfl rfl rfl rfl rfl rfl (by omega) (jJ.whole rfl rfl) rfl (by simp;omega) (by simp;omega)) ?_;refine cE rfl rfl rfl rfl (by exact bF T rfl rfl rfl) ?_;refine cE rfl rfl rfl rfl (by exact aJ T rfl rfl rfl rfl) ?_;refine cE rfl rfl rfl rfl (by exact bF T rfl rfl rfl) ?_;refine cE rfl rfl rfl rfl (by exact aJ T rfl rfl rfl rfl) ?_;refine cE rfl rfl rfl rfl (by exact bN rfl) ?_;refine cE rfl rfl rfl rfl (by exact ix T rfl (by omega) (lG _) qc) ?_;refine cE rfl rfl rfl rfl (by exact aJ T rfl rfl rfl rfl) ?_;refine uJ rfl rfl rfl rfl (by exact bD T rfl rfl (by decide) (by decide) rfl rfl rfl) rfl ?_;refine mQ rfl rfl rfl rfl (aG rfl) (by exact lL T rfl rfl rfl rfl rfl rfl (by omega) (jJ.whole rfl rfl) rfl (by simp;omega) (by simp;omega)) ?_;refine cE rfl rfl rfl rfl (by exact bF T rfl rfl rfl) ?_;refine uW rfl rfl rfl rfl (aG rfl) T rfl rfl rfl rfl rfl rfl (by decide) rfl ?_;refine qK rfl rfl rfl (by exact rfl) ?_;refine fW T rfl (bA T rfl rfl rfl rfl rfl rfl (by decide) rfl ?_))|(refine rg 14 (vV (cC rfl rfl (by omega) (by omega)) (mV ?_)))|refine nZ ?_));all_goals try (exfalso;omega)
          exact ⟨⟨m + 1,hml⟩,by dsimp only;omega,⟨[0,1,2,7,9],rfl,(by repeat first|exact trivial|refine ⟨rfl,?_⟩),⟨.inr rfl,.inr rfl,.inr rfl,.inr (aC rfl (by dsimp only;rw [hPs];exact jN hTp.symm) (bB _)),.inr (aC rfl (by dsimp only;rw [hCs];exact jN hTc.symm) (eZ _)),trivial⟩,by decide,kQ _⟩⟩
      · obtain rfl : m = l.length := by omega
        rw [show PP.take l.length = PP by rw [← hplen,dA],show CC.take l.length = CC by rw [← hclen,dA]]
        refine nK 2 0 rfl rfl rfl (by rw [cW,hplen]) (fX (bB _)) ?_
        refine nK 2 2 rfl rfl rfl (by rw [iH,hclen]) (fX (eZ _)) ?_
        (repeat' (first|refine wS ?_|refine wE ?_|(refine wC rfl ?_ ?_<;>(intro hb;(try simp only [nm] at hb);try (exfalso;omega)))|(refine rg 8 (vV (aM rfl rfl) ?_))|refine nZ ?_));all_goals try (exfalso;omega)
        show AY _ _ _ _ _ _ _ _ _
        (repeat' (first|(first|(refine xR ?_)|(refine V8 ?_)|(refine ZP ?_))|((refine xS rfl (fun hb=>?_) (fun hb=>?_)<;>(((try simp only [nm] at hb);try ((exfalso;omega);done)))))|(((refine EP (id := 15) ?_));((refine VB 2 hJ ?_));(dsimp only [List.take,List.drop]);(all_goals (refine mV ?_;refine lV T ?_;refine iK ?_;refine HY hJ hy rfl rfl rfl hk hit rfl ?_));(all_goals (intro yes));(all_goals (refine zO9 hJ ?_;refine vV (dI rfl) ?_;refine T6 (by ((dsimp only [List.nil_append,List.cons_append,List.append_nil,List.length_cons,List.length_nil,List.set_cons_zero,List.set_cons_succ,List.map_cons,List.map_nil,kF,mN,mR,rX,MT,F0,X3,W9,W8,X0,E9,F2,E8,F1,Nat.zero_add,Nat.add_zero,Nat.reduceAdd,Bool.not_true,Bool.not_false];done))) ?_)))|(((refine qX hJ (eT (id := 16) ?_)));(all_goals (refine vV (cC rfl rfl (by omega) (by omega)) ?_;refine mV ?_)))|refine nZ ?_));all_goals first | (exfalso;omega) | skip
        · exact ⟨.inl rfl,fun h => (by first | (subst hb;cases h) | (cases h;done)),[],rfl⟩
        · obtain rfl := hb;exact ⟨⟨j + 1,hjl⟩,by dsimp only;omega,rfl,⟨[0],rfl,(by repeat first|exact trivial|refine ⟨rfl,?_⟩),⟨.inr rfl,trivial⟩,by decide,kQ _⟩⟩
    · obtain rfl : j = b.2.length := by omega
      (repeat' (first|(first|(refine xR ?_)|(refine GX ?_))|((refine xS rfl (fun hb=>?_) (fun hb=>?_)<;>(((try simp only [nm] at hb);try ((exfalso;omega);done)))))|(((refine qX hJ (eT (id := 4) ?_)));(all_goals (refine vV (aM rfl rfl) ?_)))|(((refine qX hJ (eT (id := 17) ?_)));(all_goals (refine vV (cC rfl rfl (by omega) (by omega)) ?_;refine mV ?_)))|refine nZ ?_));all_goals first | (exfalso;omega) | skip
      exact ⟨⟨i + 1,hlt⟩,by dsimp only;omega,rfl,gM []⟩
  · obtain rfl : i = a.2.length := by omega
    (repeat' (first|(first|(refine xR ?_)|(refine GX ?_))|((refine xS rfl (fun hb=>?_) (fun hb=>?_)<;>(((try simp only [nm] at hb);try ((exfalso;omega);done)))))|(((refine qX hJ (eT (id := 1) ?_)));(all_goals (refine vV (aM rfl rfl) ?_)))|refine nZ ?_));all_goals first | (exfalso;omega) | skip
    exact ⟨.inr rfl,fun _ => by rw [hnn],[],rfl⟩
end Go.Proofs.YtmmmeebiobjnbaaGreat
namespace Go.Ab
open Go
theorem sA {P : Program} {env : eA} {h : Hp} {d : Option Nat} {ty : TypeId} {pos : String} {af : Array Edge} {g : Option (Nat × Bool)} (T : oJ P) {t e sz : Nat} {es : List (List AV)} {c : List AV} {i : TI} {x y : Operand} {kk : IntKind} {j : Int} (hx : evu env x = some (.rowE es sz)) (hy : evu env y = some (.v (.int kk j))) (ha : T.elem t = some e) (he : T.ti e = some i) (hs : i.size = sz) (h0 : 0 ≤ j) (hl : ∀ e,e ∈ es → e.length = sz) (hc : es[j.toNat]? = some c) :
    zC0 P ⟨d,.indexAddr t x y,ty,pos,af,g⟩ env h (.pr c 0) := by
  intro ρ S a w p;have h1 : j < es.length := by have := (aA.1 hc).1;omega
  have h2 := p.evu hx;simp only [R] at h2;obtain ⟨ad,cap,h3,_,_,_,_,h4⟩ := h2;rcases h4 with h4 | ⟨b,o,ys,h5,h6,h7,h8⟩
  · omega
  have h9 := tT (p.evu hy);subst h5;refine ⟨.pointer (some ⟨b,o + j.toNat * sz,none⟩),fun w' => by simp [execOp,h3,h9,Instr.indexAt,asIntOf,run_underlying (T.elemOk _ _ ha),h0,h1,T.sizeOf he,Addr.add_lit,hs],PU hl hc ?_⟩
  simp only [R];exact ⟨b,o,ys,rfl,h6,h7,h8⟩
end Go.Ab
namespace Go.Ld
open Go.Ab Go.Proofs.YtmmmeebiobjnbaaGreat
theorem iR {l : List G} {b : Int} (h : ∃ g,g ∈ l ∧ b ∈ g.1) : ∃ (i : Nat) (g : G),oS l b = (i : Int) ∧ l[i]? = some g ∧ b ∈ g.1 := by
  obtain ⟨g,hg,hb⟩ := h;unfold oS;cases hf : l.findIdx? fun g => decide (b ∈ g.1) with
  | none => have := List.findIdx?_eq_none_iff.1 hf g hg;simp at this;exact absurd hb this
  | some i =>
    obtain ⟨h1,h2,_⟩ := List.findIdx?_eq_some_iff_getElem.1 hf;exact ⟨i,l[i],rfl,aB h1,by simpa using h2⟩
theorem sT (l : List Int) : iU l = eC cI l :=
  F3 qM (Go.Pm.sorted_perm l) ((Go.Pm.sorted_up l).imp fun {a b} h => by unfold cI;split <;> (try split) <;> omega)
theorem SN {a b : G} {l : List Int} {k : Nat} {w : W} (h : (pF a b l)[k]? = some w) : Z3 a b l k = [.agg (wA w)] := by unfold Z3;rw [h]
end Go.Ld
namespace Go.Proofs.YtmmmeebiobjnbaaGreat
open Go Go.Ab Go.Ld
attribute [local irreducible] VC AW cF aS AY VY BV iZ
set_option maxHeartbeats 4000000
theorem yE1 : ∀ i : Nat,i < 1 → ([0,4] : List Nat)[i]? = some i := by decide
theorem zI8 {n : Nat} (l : List G) (a b : Int) (ok : nQ n l) (ha : ∃ g,g ∈ l ∧ a ∈ g.1) (hb : ∃ g,g ∈ l ∧ b ∈ g.1) (hs : oS l a = oS l b) : aS Tryz.prog 60 [.sl 0 0 l.length 2,.i a,.i b] [.arr (kE l) 2] (.tup [.sl 0 0 l.length 2,.i 0]) [.arr (kE l) 2] := by
  have hl12 : l.length ≤ 12 := bL ok.len ok.ln;have hgl : ∀ g,g ∈ l → g.1.length ≤ 1000000 := fun g hg => by have := (ok.ok g hg).ln;omega
  have f1 := zN l a (by omega) hgl
  have f2 := zN l b (by omega) hgl
  obtain ⟨i,x,e1,hx,hax⟩ := iR ha;obtain ⟨k,y,e2,hy,hby⟩ := iR hb;rw [e1] at f1;rw [e2] at f2;have hil := (aA.1 hx).1;have hkl := (aA.1 hy).1;have hll : (kE l).length = l.length := jK _;have qx : (kE l)[(i : Int).toNat]? = some (gA x) := by rw [bQ,bT,hx];rfl
  have qy : (kE l)[(k : Int).toNat]? = some (gA y) := by rw [bQ,bT,hy];rfl
  have ax : lY l (i : Int).toNat = x := by unfold lY;rw [bQ,aD,hx];rfl
  have ay : lY l (k : Int).toNat = y := by unfold lY;rw [bQ,aD,hy];rfl
  have hik : i = k := by omega
  subst hik;have hvw : nP [.arr (kE l) 2] (.sl 0 0 l.length 2) (.rowE (kE l) 2) := nW rfl hll.symm (qD (fun _ => rfl) _);refine bW T Tryz.func60 rfl rfl rfl rfl ?_
  (repeat' (first|refine wS ?_|refine wR ?_|refine wT ?_|(refine rg 0 (rK ?_))|(refine rg 1 (dH rfl (vV (by exact fB rfl rfl f1 (.cons hvw (.cons (.v _) .nil)) rfl rfl) ?_));refine dH rfl (vV (by exact fB rfl rfl f2 (.cons hvw (.cons (.v _) .nil)) rfl rfl) ?_);refine rK ?_)|(refine rg 2 (dH rfl (vV (kZ rfl rfl rfl) ?_)))|(refine rg 3 (mW rfl (rK ?_)))|refine nZ ?_));all_goals first | (exfalso;omega) | exact ⟨.inl rfl,[0],_,rfl,rfl,rfl,⟨.inr (aC rfl rfl (eH _)),trivial⟩,by decide,FU⟩
theorem zJ0 {n : Nat} (l : List G) (a b : Int) (ok : nQ n l) (ha : ∃ g,g ∈ l ∧ a ∈ g.1) (hb : ∃ g,g ∈ l ∧ b ∈ g.1) (hj : join l a b = none) : aS Tryz.prog 60 [.rowE (kE l) 2,.i a,.i b] [] (.tup [.nils,.i 6]) [] := by
  have hl12 : l.length ≤ 12 := bL ok.len ok.ln;have hgl : ∀ g,g ∈ l → g.1.length ≤ 1000000 := fun g hg => by have := (ok.ok g hg).ln;omega
  have f1 := zN l a (by omega) hgl
  have f2 := zN l b (by omega) hgl
  obtain ⟨i,x,e1,hx,hax⟩ := iR ha;obtain ⟨k,y,e2,hy,hby⟩ := iR hb;rw [e1] at f1;rw [e2] at f2;have hil := (aA.1 hx).1;have hkl := (aA.1 hy).1;have hll : (kE l).length = l.length := jK _;have qx : (kE l)[(i : Int).toNat]? = some (gA x) := by rw [bQ,bT,hx];rfl
  have qy : (kE l)[(k : Int).toNat]? = some (gA y) := by rw [bQ,bT,hy];rfl
  have ax : lY l (i : Int).toNat = x := by unfold lY;rw [bQ,aD,hx];rfl
  have ay : lY l (k : Int).toNat = y := by unfold lY;rw [bQ,aD,hy];rfl
  unfold join at hj;dsimp only at hj;rw [e1,e2,ax,ay] at hj;clear ha hb;have hik : i ≠ k := fun q => by subst q;rw [if_pos rfl] at hj;cases hj
  rw [if_neg (by omega)] at hj
  have hf : 6 < x.1.length + y.1.length ∨ 1000 < x.2.length * y.2.length := by
    by_cases hf : 6 < x.1.length + y.1.length ∨ 1000 < x.2.length * y.2.length
    · exact hf
    · rw [if_neg hf] at hj;cases hj
  clear hj;have xo := ok.ok x (aN hx);have yo := ok.ok y (aN hy);have xw := ok.ws x (aN hx);have yw := ok.ws y (aN hy);have xl := xo.ln;have yl := yo.ln;have xp := fH.2 xo.ne;have yp := fH.2 yo.ne;have sx := xo.sz xw;have sy := yo.sz yw;have l1 : (ints x.1).length = x.1.length := cW _;have l2 : (ints y.1).length = y.1.length := cW _;have l3 : (gE x.2).length = x.2.length := fF _;have l4 : (gE y.2).length = y.2.length := fF _;have hmx : x.2.length * y.2.length ≤ 2000 * 2000 := ME xw yw;have hml : ((x.2.length : Int) * y.2.length) = ((x.2.length * y.2.length : Nat) : Int) := by push_cast;rfl
  obtain ⟨bx,wx⟩ := x;obtain ⟨by_,wy⟩ := y;have hmI : (((gE wx).length : Nat) : Int) * ((gE wy).length : Nat) = ((wx.length * wy.length : Nat) : Int) := by rw [fF,fF];push_cast;rfl
  dsimp only at *;refine bW T Tryz.func60 rfl rfl rfl rfl ?_
  (repeat' (first|refine wS ?_|refine wK ?_|refine wU ?_|(refine rg 0 (rK ?_))|(refine rg 1 (dH rfl (vV (kC (f1)) (dH rfl (vV (kC (f2)) (rK ?_))))))|(refine rg 2 (dH rfl (vV (gX rfl rfl (by omega)) ?_)))|refine nZ ?_));refine ZU [(0,.rowE (kE l) 2),(8,.i i),(9,.i k),(10,.ptr 0 0),(11,.ptr 1 0)] [.cells [.rowE (ints bx) 1,.rowE (gE wx) 3],.cells [.rowE (ints by_) 1,.rowE (gE wy) 3]] ?_ ?_
  · refine LR (id := 4) cO ?_;refine yI 0 rfl rfl (by decide +kernel) (by decide +kernel) (by decide +kernel) (by exact uB rfl) rfl ?_
    refine yI 1 rfl rfl (by decide +kernel) (by decide +kernel) (by decide +kernel) (by exact uB rfl) rfl ?_
    refine yI 2 rfl rfl (by decide +kernel) (by decide +kernel) (by decide +kernel) (by exact sA T rfl rfl rfl rfl rfl (by omega) (rB _) qx) rfl ?_
    refine yI 4 rfl rfl (by decide +kernel) (by decide +kernel) (by decide +kernel) (by exact uB rfl) rfl ?_
    refine yI 5 rfl rfl (by decide +kernel) (by decide +kernel) (by decide +kernel) (by exact uB rfl) rfl ?_
    refine yI 6 rfl rfl (by decide +kernel) (by decide +kernel) (by decide +kernel) (by exact sA T rfl rfl rfl rfl rfl (by omega) (rB _) qy) rfl ?_
    refine RK [(0,[]),(1,[]),(2,[0,1]),(3,[2]),(4,[]),(5,[]),(6,[4,5]),(7,[6]),(8,[]),(9,[]),(10,[8,3,0,1,2,3,8,9]),(11,[9,7,10,0,1,2,3,4,5,6,7,8,9,10])] (by decide +kernel) [true,true,true,false,true,true,true,false,false,false,false,false] rfl rfl ?_
    (repeat' (first|(refine zA6 rfl rfl ?_;(first|(refine lV T ?_)|(refine cD (cK T rfl) rfl ?_)|(refine bA T rfl rfl rfl rfl rfl rfl (by decide) rfl ?_));refine iK ?_;dsimp only [List.set_cons_zero,List.set_cons_succ])|(refine zA5 rfl rfl rfl ?_ ?_<;>((first|(refine lV T ?_)|(refine cD (cK T rfl) rfl ?_)|(refine bA T rfl rfl rfl rfl rfl rfl (by decide) rfl ?_));refine iK ?_;dsimp only [List.set_cons_zero,List.set_cons_succ]))|(refine zA4 rfl rfl rfl rfl ?_ ?_ ?_<;>((first|(refine lV T ?_)|(refine cD (cK T rfl) rfl ?_));refine iK ?_;dsimp only [List.set_cons_zero,List.set_cons_succ]))|(refine zA3 rfl rfl rfl rfl rfl ?_ ?_ ?_ ?_<;>((first|(refine lV T ?_)|(refine cD (cK T rfl) rfl ?_));refine iK ?_;dsimp only [List.set_cons_zero,List.set_cons_succ]))));all_goals first | exact C9 rfl ⟨rfl,[0,1],rfl,(by repeat first|exact trivial|refine ⟨rfl,?_⟩),⟨.inr rfl,.inr rfl,trivial⟩,by decide,kQ _⟩ | exact C9 rfl ⟨rfl,[1,0],rfl,(by repeat first|exact trivial|refine ⟨rfl,?_⟩),⟨.inr rfl,.inr rfl,trivial⟩,by decide,kQ _⟩
  intro v g hsub;refine OL hsub ?_
  (repeat' (first|refine wS ?_|refine wR ?_|refine wT ?_|(refine wC rfl ?_ ?_<;>(intro hb;(try simp only [nm] at hb);try (exfalso;omega)))|(refine rg 5 (iB T rfl (qW T rfl (iB T rfl (qW T rfl (vV (cC rfl rfl (by omega) (by omega)) (vV (eU rfl rfl) (mV ?_)))))));refine bO rfl rfl ?_ ?_<;>(intro hb;rw [hb];(try simp only [nm] at hb);try (exfalso;omega));(all_goals first|(refine gT (fW T rfl (gT (lW T rfl (gT (qW T rfl (gT (fW T rfl (gT (lV T ?_)))))))));refine gT (qW T rfl (gT (vV (xJ rfl rfl (by omega) (by omega)) (gT (vV (eU rfl rfl) ?_))))))|(iterate 8 refine gF ?_));(all_goals (refine pV ?_)))|(refine rg 6 (rK ?_))|refine nZ ?_));all_goals first | (exfalso;omega) | exact rQ
theorem zI9 {n : Nat} (l : List G) (a b : Int) (ok : nQ n l) (ha : ∃ g,g ∈ l ∧ a ∈ g.1) (hb : ∃ g,g ∈ l ∧ b ∈ g.1) {all : List G} (hj : join l a b = some all) (hne : oS l a ≠ oS l b) : aS Tryz.prog 60 [.rowE (kE l) 2,.i a,.i b] [] (.tup [.sl 0 0 all.length 2,.i 0]) [.arr (kE all) 2] := by
  have hl12 : l.length ≤ 12 := bL ok.len ok.ln;have hgl : ∀ g,g ∈ l → g.1.length ≤ 1000000 := fun g hg => by have := (ok.ok g hg).ln;omega
  have f1 := zN l a (by omega) hgl
  have f2 := zN l b (by omega) hgl
  obtain ⟨i,x,e1,hx,hax⟩ := iR ha;obtain ⟨k,y,e2,hy,hby⟩ := iR hb;rw [e1] at f1;rw [e2] at f2;have hil := (aA.1 hx).1;have hkl := (aA.1 hy).1;have hll : (kE l).length = l.length := jK _;have qx : (kE l)[(i : Int).toNat]? = some (gA x) := by rw [bQ,bT,hx];rfl
  have qy : (kE l)[(k : Int).toNat]? = some (gA y) := by rw [bQ,bT,hy];rfl
  have ax : lY l (i : Int).toNat = x := by unfold lY;rw [bQ,aD,hx];rfl
  have ay : lY l (k : Int).toNat = y := by unfold lY;rw [bQ,aD,hy];rfl
  unfold join at hj;dsimp only at hj;rw [e1,e2,ax,ay] at hj;clear ha hb;have hik : i ≠ k := fun q => by subst q;exact hne (e1.trans e2.symm)
  rw [if_neg (by omega)] at hj
  have hf : ¬ (6 < x.1.length + y.1.length ∨ 1000 < x.2.length * y.2.length) := fun hf => by rw [if_pos hf] at hj;cases hj
  rw [if_neg hf] at hj
  replace hj := (Option.some.inj hj).symm
  have xo := ok.ok x (aN hx);have yo := ok.ok y (aN hy);have xw := ok.ws x (aN hx);have yw := ok.ws y (aN hy);have xl := xo.ln;have yl := yo.ln;have xp := fH.2 xo.ne;have yp := fH.2 yo.ne;have sx := xo.sz xw;have sy := yo.sz yw;have l1 : (ints x.1).length = x.1.length := cW _;have l2 : (ints y.1).length = y.1.length := cW _;have l3 : (gE x.2).length = x.2.length := fF _;have l4 : (gE y.2).length = y.2.length := fF _;have hmx : x.2.length * y.2.length ≤ 2000 * 2000 := ME xw yw;have hml : ((x.2.length : Int) * y.2.length) = ((x.2.length * y.2.length : Nat) : Int) := by push_cast;rfl
  obtain ⟨bx,wx⟩ := x;obtain ⟨by_,wy⟩ := y;have hmI : (((gE wx).length : Nat) : Int) * ((gE wy).length : Nat) = ((wx.length * wy.length : Nat) : Int) := by rw [fF,fF];push_cast;rfl
  have hjG : mK (bx,wx) (by_,wy) = (eC cI (bx ++ by_),pF (bx,wx) (by_,wy) (eC cI (bx ++ by_))) := rfl;rw [hjG,← sT] at hj;have hbl : (iU (bx ++ by_)).length = bx.length + by_.length := by rw [wV,aF]
  have hmm : ∀ q,q ∈ iU (bx ++ by_) → q ∈ bx ∨ q ∈ by_ := fun q hq => bH.1 ((Go.Pm.sorted_perm _).mem_iff.1 hq);have h1 := ZE bx by_ ⟨by dsimp only at *;omega,by dsimp only at *;omega⟩ ⟨by dsimp only at *;omega,by dsimp only at *;omega⟩
  have h2 := W7 (bx ++ by_);have h3 := IL (bx ++ by_) (by rw [aF];dsimp only at *;omega)
  have hPl := DJ (bx,wx) (by_,wy) (iU (bx ++ by_));generalize iU (bx ++ by_) = bod at *;have h4 := zH0 (bx,wx) (by_,wy) bod;have hit := WY (bx,wx) (by_,wy) bod sx sy (by dsimp only at *;omega) hmm (fun w hw => ⟨(xo.ws w hw).m0,(xo.ws w hw).m1⟩) (fun w hw => ⟨(yo.ws w hw).m0,(yo.ws w hw).m1⟩)
  have hpg : ∀ (q : Nat) (w : W),(pF (bx,wx) (by_,wy) bod)[q]? = some w → Z3 (bx,wx) (by_,wy) bod q = [.agg (wA w)] := fun q w h => SN h
  generalize Z3 (bx,wx) (by_,wy) bod = IT at *;generalize pF (bx,wx) (by_,wy) bod = P at *;have hP : P.length ≤ 1000 := by rw [hPl,yI6];dsimp only at *;omega
  clear hPl hmm h2;have h2 := W7 (bx ++ by_);dsimp only at *;have hcl := K4 l (by omega)
  have hS : min (i : Int) (k : Int) = ((min i k : Nat) : Int) := by omega
  have hM : max (i : Int) (k : Int) = ((max i k : Nat) : Int) := by omega
  rw [hS,hM,bQ,bQ] at hj;have ts := J1 (L := l) (j := min (i : Int) (k : Int)) (i := min i k) (x := (bod,P)) hS;have qm := zK (L := l) (j := min (i : Int) (k : Int)) (i := min i k) (x := l[min i k]'(by omega)) (aB _) hS
  have hdl := zW3 (l.set (min i k) (bod,P)) (max i k) (max i k + 1) (by omega) (by rw [hC];omega) (by intro h;have := congrArg List.length h;rw [hC,List.length_nil] at this;omega)
  rw [J9,hC,show l.length - (max i k + 1 - max i k) = l.length - 1 by omega,show ((max i k + 1 : Nat) : Int) = max (i : Int) (k : Int) + 1 by omega,← hM] at hdl
  have hel : ((l.set (min i k) (bod,P)).eraseIdx (max i k)).length = l.length - 1 := by rw [gD,hC,if_pos (by omega)]
  generalize l[min i k]'(by omega) = gm at *
  subst hj;rw [hel];refine bW T Tryz.func60 rfl rfl rfl rfl ?_
  (repeat' (first|refine wS ?_|refine wK ?_|refine wU ?_|(refine rg 0 (rK ?_))|(refine rg 1 (dH rfl (vV (kC (f1)) (dH rfl (vV (kC (f2)) (rK ?_))))))|(refine rg 2 (dH rfl (vV (gX rfl rfl (by omega)) ?_)))|refine nZ ?_));refine ZU [(0,.rowE (kE l) 2),(8,.i i),(9,.i k),(10,.ptr 0 0),(11,.ptr 1 0)] [.cells [.rowE (ints bx) 1,.rowE (gE wx) 3],.cells [.rowE (ints by_) 1,.rowE (gE wy) 3]] ?_ ?_
  · refine LR (id := 4) cO ?_;refine yI 0 rfl rfl (by decide +kernel) (by decide +kernel) (by decide +kernel) (by exact uB rfl) rfl ?_
    refine yI 1 rfl rfl (by decide +kernel) (by decide +kernel) (by decide +kernel) (by exact uB rfl) rfl ?_
    refine yI 2 rfl rfl (by decide +kernel) (by decide +kernel) (by decide +kernel) (by exact sA T rfl rfl rfl rfl rfl (by omega) (rB _) qx) rfl ?_
    refine yI 4 rfl rfl (by decide +kernel) (by decide +kernel) (by decide +kernel) (by exact uB rfl) rfl ?_
    refine yI 5 rfl rfl (by decide +kernel) (by decide +kernel) (by decide +kernel) (by exact uB rfl) rfl ?_
    refine yI 6 rfl rfl (by decide +kernel) (by decide +kernel) (by decide +kernel) (by exact sA T rfl rfl rfl rfl rfl (by omega) (rB _) qy) rfl ?_
    refine RK [(0,[]),(1,[]),(2,[0,1]),(3,[2]),(4,[]),(5,[]),(6,[4,5]),(7,[6]),(8,[]),(9,[]),(10,[8,3,0,1,2,3,8,9]),(11,[9,7,10,0,1,2,3,4,5,6,7,8,9,10])] (by decide +kernel) [true,true,true,false,true,true,true,false,false,false,false,false] rfl rfl ?_
    (repeat' (first|(refine zA6 rfl rfl ?_;(first|(refine lV T ?_)|(refine cD (cK T rfl) rfl ?_)|(refine bA T rfl rfl rfl rfl rfl rfl (by decide) rfl ?_));refine iK ?_;dsimp only [List.set_cons_zero,List.set_cons_succ])|(refine zA5 rfl rfl rfl ?_ ?_<;>((first|(refine lV T ?_)|(refine cD (cK T rfl) rfl ?_)|(refine bA T rfl rfl rfl rfl rfl rfl (by decide) rfl ?_));refine iK ?_;dsimp only [List.set_cons_zero,List.set_cons_succ]))|(refine zA4 rfl rfl rfl rfl ?_ ?_ ?_<;>((first|(refine lV T ?_)|(refine cD (cK T rfl) rfl ?_));refine iK ?_;dsimp only [List.set_cons_zero,List.set_cons_succ]))|(refine zA3 rfl rfl rfl rfl rfl ?_ ?_ ?_ ?_<;>((first|(refine lV T ?_)|(refine cD (cK T rfl) rfl ?_));refine iK ?_;dsimp only [List.set_cons_zero,List.set_cons_succ]))));all_goals first | exact C9 rfl ⟨rfl,[0,1],rfl,(by repeat first|exact trivial|refine ⟨rfl,?_⟩),⟨.inr rfl,.inr rfl,trivial⟩,by decide,kQ _⟩ | exact C9 rfl ⟨rfl,[1,0],rfl,(by repeat first|exact trivial|refine ⟨rfl,?_⟩),⟨.inr rfl,.inr rfl,trivial⟩,by decide,kQ _⟩
  intro v g hsub;refine OL hsub ?_
  (repeat' (first|refine wS ?_|refine wB ?_|refine wK ?_|(refine wC rfl ?_ ?_<;>(intro hb;(try simp only [nm] at hb);try (exfalso;omega)))|(refine rg 5 (iB T rfl (qW T rfl (iB T rfl (qW T rfl (vV (cC rfl rfl (by omega) (by omega)) (vV (eU rfl rfl) (mV ?_)))))));refine bO rfl rfl ?_ ?_<;>(intro hb;rw [hb];(try simp only [nm] at hb);try (exfalso;omega));(all_goals (refine yP T rfl (yO T rfl (gT (qW T rfl (yP T rfl (yO T rfl (gT (qW T rfl (yV (xJ rfl rfl (by omega) (by omega)) (yV (eU rfl rfl) ?_)))))))));refine pV ?_)))|(refine rg 7 (iB T rfl (iB T rfl (cD (by exact bD T rfl rfl (by decide) (by decide) rfl rfl rfl) rfl ?_)));refine mL 55 rfl rfl rfl rfl ?_;refine vV (kC (h1)) (vV (kC (h2)) (vV (kC (h3)) (vV (by exact eS T rfl rfl rfl rfl) ?_)));refine cD (cK T rfl) rfl (bA T rfl rfl rfl rfl rfl rfl (by decide) rfl ?_))|(refine rg 8 (lW T rfl (lW T rfl (iB T rfl (vV (kC (h4)) ?_)))))|refine nZ ?_));all_goals try (exfalso;omega)
  refine nY 3 1 3 rfl rfl (by decide) ?_
  refine LO [] [3,4] [(0,.rowE (kE l) 2),(8,.i i),(9,.i k),(12,.ptr 0 0)] (fun m => [.cells [.rowE (ints bod) 1,.sl 1 0 m 3],.arr (gE (P.take m)) 3]) 1 rfl hit rfl rfl rfl trivial eQ rfl (by repeat first|exact trivial|refine ⟨rfl,?_⟩) ⟨.inr rfl,.inr rfl,trivial⟩ (by decide) (kQ _) (by simp) (cM _) (aG rfl) rfl (by decide) (fun m hm => by rw [hpg m P[m] (aB hm)];exact ⟨rfl,rfl⟩) ?_ ?_
  · intro m hm;rw [hpg m P[m] (aB hm)];have hks := aU hm;have hkl' : (gE (P.take m)).length = m := by rw [fF,bG];omega
    have hW : gE (P.take (m + 1)) = gE (P.take m) ++ [wA P[m]] := by rw [hks,gE,bY];rfl
    generalize P[m] = w at *;obtain ⟨wp,wm,wc⟩ := w;generalize gE (P.take m) = Q at *;refine eT (id := 9) ?_;refine cD (by exact cK T rfl) rfl ?_
    refine bA T rfl rfl rfl rfl rfl rfl (by decide) rfl ?_
    refine iK ?_;refine ⟨rfl,?_⟩
    repeat' (first|refine wB ?_|(refine rg 10 (iB T rfl (lW T rfl (cD (by exact bD T rfl rfl (by decide) (by decide) rfl rfl rfl) rfl ?_)));refine fY T rfl rfl rfl rfl rfl rfl (by omega) (jJ.whole rfl rfl) rfl (by simp;omega) (by simp;omega) rfl ?_;refine fW T rfl (bA T rfl rfl rfl rfl rfl rfl (by decide) rfl ?_))|refine nZ ?_)
    show HT _ _ _ _ [.cells [.rowE (ints bod) 1,.sl 1 0 (m + 1) 3],.arr (gE (P.take (m + 1))) 3];rw [hW];exact ⟨[0,4],rfl,trivial,⟨.inr (by simp;rfl),.inr (aC rfl (by first | exact jN hkl'.symm | simp) (by rw [← hW];exact bU _)),trivial⟩,by decide,yE1⟩
  · rw [dA];refine nK 0 1 rfl rfl rfl (fF _).symm (fX (bU _)) ?_;show AW _ _ _ _ _ _
    (repeat' (first|refine wS ?_|(refine rg 11 (mW rfl (cD (by exact fL rfl rfl hcl (.inr ⟨rfl,rfl,by simp⟩)) rfl ?_));refine aV ?_)|refine nZ ?_));refine fC [(8,.i i),(9,.i k),(12,.ptr 0 0),(14,.sl 1 0 l.length 2)] [.cells [.rowE (ints bod) 1,.rowE (gE P) 3],.arr (kE l) 2] ⟨[0,2],rfl,(by repeat first|exact trivial|refine ⟨rfl,?_⟩),⟨.inr rfl,.inr (aC rfl (bE _ (eH _)) (eH _)),trivial⟩,by decide,kQ _⟩ ?_
    (repeat' (first|refine wS ?_|(refine rg 12 (dH rfl (mW rfl (vV (GF rfl rfl) (lW T rfl (vV (by exact aK T rfl rfl rfl rfl rfl (by omega) (by omega)) ?_)))));refine bA T rfl rfl rfl rfl rfl rfl (by decide) (lZ rfl qm rfl) ?_)|refine nZ ?_));refine fC [(8,.i i),(9,.i k),(14,.sl 0 0 l.length 2)] [.arr (kE (l.set (min i k) (bod,P))) 2] ⟨[1],rfl,(by repeat first|exact trivial|refine ⟨rfl,?_⟩),⟨.inr (aC rfl ts (eH _)),trivial⟩,by decide,kQ _⟩ ?_
    (repeat' (first|refine wR ?_|(refine rg 13 (dH rfl (mW rfl (vV (zM rfl rfl) (dH rfl (vV (zM rfl rfl) (vV (cC rfl rfl (by omega) (by omega)) (eP [0] rfl rfl (hdl) rfl rfl (by decide) ⟨.inr (aC rfl rfl (eH _)),trivial⟩ (by simp) rfl ?_)))))));refine rK ?_)|refine nZ ?_));all_goals exact ⟨.inl rfl,[0],_,rfl,rfl,rfl,⟨.inr (aC rfl (bE _ (eH _)) (eH _)),trivial⟩,by decide,kQ _⟩
end Go.Proofs.YtmmmeebiobjnbaaGreat
namespace Go.Ld
open Go.Ab Go.Proofs.YtmmmeebiobjnbaaGreat
structure iY (c : Cx) : Prop where
  f : zD0 c.ks c.ls (nats (List.range c.bs.length)) c.bs
  s : lS c.m c.st c.er c.sl
theorem iY.unit {c : Cx} (h : iY c) (lot : Int) : 0 ≤ nI c.ks c.ls lot := by
  unfold nI;split
  · exact eM _
  · rw [aD];cases hq : c.ks[(c.ls.getD lot.toNat (0,0,false)).1.toNat]? with
    | none => exact eM _
    | some x =>
      obtain ⟨h1,h2⟩ := aA.1 hq;have := (h.f.k _ h1).1;rw [h2] at this;exact this
end Go.Ld
namespace Go.Proofs.YtmmmeebiobjnbaaGreat
open Go Go.Ab Go.Ld
attribute [local irreducible] VC AW cF aS iZ
set_option maxHeartbeats 4000000
theorem RS (t u w e : Int) (hu : 0 ≤ u) : aS Tryz.prog 87 [.i t,.i u,.i w,.i e] [] (.tup [mX (VA t u w e).1.1 (VA t u w e).1.2,.b (VA t u w e).2]) [] := by
  unfold VA;by_cases h : GI t u w e
  · rw [if_pos (show EG t u w e = true from decide_eq_true h)]
    by_cases h1 : w + e - t < 0 ∨ u = 0 ∧ 0 < w - e - t
    · rw [if_pos h1];exact HW t u w e h h1
    · rw [if_neg h1];by_cases h2 : u = 0
      · rw [if_pos h2];exact HX t u w e h (by omega) h2 (by omega)
      · rw [if_neg h2];exact MQ t u w e h (by omega) (by omega)
  · have h' : ¬ EG t u w e = true := fun q => h (by simpa [EG,GI] using q)
    rw [if_neg h'];exact MP t u w e h
theorem zJ2 (r q : SP) : aS Tryz.prog 88 [mX r.1 r.2,mX q.1 q.2] [] (.tup [mX (K3 (max r.1 q.1) (min r.2 q.2)).1.1 (K3 (max r.1 q.1) (min r.2 q.2)).1.2,.b (K3 (max r.1 q.1) (min r.2 q.2)).2]) [] := zJ3 r.1 r.2 q.1 q.2
theorem WT (r : SP) (n s : Int) (hf : 0 ≤ r.1 ∧ r.1 ≤ 20001 ∧ 0 ≤ r.2 ∧ r.2 ≤ 20001) : aS Tryz.prog 89 [mX r.1 r.2,.i n,.i s] [] (.tup [mX (zE r n s).1.1 (zE r n s).1.2,.b (zE r n s).2]) [] := by
  unfold zE;by_cases h : 0 ≤ n ∧ n ≤ 1099511627776 ∧ 0 ≤ s ∧ s ≤ 1099511627776
  · rw [if_pos h];exact SO r.1 r.2 n s hf h
  · rw [if_neg h];exact ND r.1 r.2 n s h
abbrev zV8 (s : Ev) : AV := oG s.k s.a s.b s.n s.ids
theorem ZO (c : Cx) (gs : List G) {n q : Nat} (w : W) {i : Nat} (s : Ev) (hc : iY c) (hw : EU n q w) (hn : n = c.bs.length) (hi : i < q) (hq : q ≤ 1000) (hids : s.ids.length ≤ 9223372036854775807) (hsn : 0 ≤ s.n ∧ s.n ≤ 1099511627776) :
    aS Tryz.prog 62 [.pr (jT c gs) 0,MK w,.i i,zV8 s] [] (.tup [.agg [.sl 0 0 w.1.length 1,.i (kA c w i s).1.2.1,.sl 1 0 w.2.2.length 2],.b (kA c w i s).2]) [.arr (ints w.1) 1,.arr (fJ (kA c w i s).1.2.2) 2] := by
  have hpl := hw.pl;have hcl := hw.cl;have hcw := GN w ⟨by omega,by omega⟩
  obtain ⟨g1,g2,g3,g4,g5⟩ := hw.at hi;have hm0 := hw.m0;have hm1 := hw.m1;have hids' : (ints s.ids).length = s.ids.length := cW _;obtain ⟨st1,st2,st3,st4,st5,st6,st7,st8⟩ := hc.s;have hbo : (kA c w i s).1.2.2 = (kA c w i s).1.2.2 := rfl;unfold kA gP gC at *;obtain ⟨p,m,cs⟩ := w;obtain ⟨sk,sa,sb,sn,ids⟩ := s;dsimp only at *;have hlp : (ints p).length = p.length := cW _;have hlc : (fJ cs).length = cs.length := iH _;have qp := U7 (l := p) (j := (i : Int)) (i := i) 0 (by omega) rfl
  have qc := I0 (l := cs) (j := (i : Int)) (i := i) (by omega) rfl
  have ct : ∀ r : SP,_ := fun r => X6 (l := cs) (j := (i : Int)) (i := i) (r := r) rfl;have ctn : ∀ x y : Int,(fJ cs).set (0 + (i : Int).toNat) [AV.i x,AV.i y] = fJ (cs.set i (x,y)) := fun x y => ct (x,y);clear ct hbo;generalize hx : p.getD i 0 = x at *;generalize hr : cs.getD i (0,0) = r at *;obtain ⟨r1,r2⟩ := r;dsimp only at *;have hbx : c.bs[x.toNat]? = some (c.bs.getD x.toNat (0,0,0)) := by
    rw [aD,aB (by omega)];rfl
  refine bW T Tryz.func62 rfl rfl rfl rfl ?_
  (repeat' (first|refine wS ?_|refine wB ?_|(refine rg 0 (cD (cQ rfl rfl) rfl (cD (cQ rfl rfl) rfl (cD (cK T rfl) rfl (aV ?_)))))|(refine rg 1 (lW T rfl (cD (by exact fL rfl rfl hcw (.inr ⟨rfl,rfl,by simp⟩)) rfl ?_));refine bA T rfl rfl rfl rfl rfl rfl (by decide) rfl ?_)|(refine rg 2 (aV ?_))|(refine rg 3 (GG T ?_))|refine nZ ?_));refine fC [(0, .pr (jT c gs) 0), (2, .i i), (5, .ptr 0 0), (7, .ptr 1 0), (8, .ptr 2 0), (10, .b true), (18, .i sk)] [.cells [.sl 3 0 p.length 1, .i m, .sl 4 0 cs.length 2], .cells [.i sk, .i sa, .i sb, .i sn, .rowE (ints ids) 1], .cells [.nils, .i 0, .nils], .arr (ints p) 1, .arr (fJ cs) 2]
    ⟨[0,1,2,3,4],rfl,(by repeat first|exact trivial|refine ⟨rfl,?_⟩),⟨.inr rfl,.inr rfl,.inr rfl,.inr (aC rfl (bE _ (bB _)) (bB _)),.inr (aC rfl (bE _ (eZ _)) (eZ _)),trivial⟩,by decide,kQ _⟩ ?_
  by_cases k0 : sk = 0
  · rw [if_pos k0];have hct := xP ids x hids;by_cases hin : x ∈ ids
    · rw [if_pos hin];rw [decide_eq_true hin] at hct;dsimp only
      (repeat' (first|refine wS ?_|refine wR ?_|refine wT ?_|(refine rg 4 (vV (kZ rfl rfl (by omega)) (aV ?_)))|(refine rg 5 (fW T rfl (vV (aJ T rfl rfl rfl rfl) (qW T rfl (aV ?_)))))|(refine tJ (id := 6) 7 153 [[],[0],[],[2],[],[2,3,4],rM 2 4,rN 7] [[],[0],[],[2],[],[2,3,4],rM 2 4] (rM 24 7) yM2 cO rfl (by decide +kernel) (by decide +kernel) ?_;(dsimp only [List.take,List.drop]);refine dP T rfl (dO T rfl (dP T rfl (dO T rfl (dN rfl (dV rfl (by exact aK T rfl rfl rfl rfl rfl (by omega) (by omega)) ?_)))));refine dV rfl (by exact aJ T rfl rfl (bM rfl qp) rfl) ?_;refine dE ?_;refine iK ?_;refine vV (kC (hct)) ?_)|(refine rg 7 (mW rfl (vV (cP rfl rfl (by omega) (by omega)) (aV ?_))))|(refine rg 9 (dH rfl (nV ?_));refine fW T rfl (fW T rfl (vV (aJ T rfl rfl rfl rfl) (vV (iF rfl rfl) (aV ?_)))))|(refine rg 23 (vV (aJ T rfl rfl rfl rfl) (mW rfl (bA T rfl rfl rfl rfl rfl rfl (by decide) rfl (aV ?_)))))|refine nZ ?_));all_goals first | (exfalso;omega) | exact ⟨.inl rfl,[3,4],_,rfl,by rw [← hids'];rfl,rfl,⟨.inr (aC rfl rfl (bB _)),.inr (aC rfl rfl (eZ _)),trivial⟩,by decide,kQ _⟩
    · rw [if_neg hin];rw [decide_eq_false hin] at hct;dsimp only
      (repeat' (first|refine wS ?_|refine wR ?_|refine wT ?_|refine wU ?_|(refine rg 4 (vV (kZ rfl rfl (by omega)) (aV ?_)))|(refine rg 5 (fW T rfl (vV (aJ T rfl rfl rfl rfl) (qW T rfl (aV ?_)))))|(refine tJ (id := 6) 7 153 [[],[0],[],[2],[],[2,3,4],rM 2 4,rN 7] [[],[0],[],[2],[],[2,3,4],rM 2 4] (rM 24 7) yM2 cO rfl (by decide +kernel) (by decide +kernel) ?_;(dsimp only [List.take,List.drop]);refine dP T rfl (dO T rfl (dP T rfl (dO T rfl (dN rfl (dV rfl (by exact aK T rfl rfl rfl rfl rfl (by omega) (by omega)) ?_)))));refine dV rfl (by exact aJ T rfl rfl (bM rfl qp) rfl) ?_;refine dE ?_;refine iK ?_;refine vV (kC (hct)) ?_)|(refine rg 8 (fW T rfl (vV (aJ T rfl rfl rfl rfl) (vV (cC rfl rfl (by omega) (by omega)) (fW T rfl (bA T rfl rfl rfl rfl rfl rfl (by decide) rfl ?_))))))|(refine rg 9 (dH rfl (nV ?_));refine fW T rfl (fW T rfl (vV (aJ T rfl rfl rfl rfl) (vV (iF rfl rfl) (aV ?_)))))|(refine rg 23 (vV (aJ T rfl rfl rfl rfl) (mW rfl (bA T rfl rfl rfl rfl rfl rfl (by decide) rfl (aV ?_)))))|refine nZ ?_));all_goals first | (exfalso;omega) | exact ⟨.inl rfl,[3,4],_,rfl,by rw [← hids'];rfl,rfl,⟨.inr (aC rfl rfl (bB _)),.inr (aC rfl rfl (eZ _)),trivial⟩,by decide,kQ _⟩
  by_cases k1 : sk = 1
  · rw [if_neg k0,if_pos k1];have hbl := hc.f.b x.toNat (by omega)
    have hgx : c.bs[x.toNat]'(by omega) = c.bs.getD x.toNat (0,0,0) := by rw [aD,aB (by omega)];rfl
    rw [hgx] at hbl;have hbxl : (dR c.bs).length = c.bs.length := aY _;have qb : (dR c.bs)[x.toNat]? = some [.i (c.bs.getD x.toNat (0,0,0)).1,.i (c.bs.getD x.toNat (0,0,0)).2.1,.i (c.bs.getD x.toNat (0,0,0)).2.2] := by rw [bT,hbx];rfl
    generalize c.bs.getD x.toNat (0,0,0) = bx at *;obtain ⟨lot,cnt,ta⟩ := bx;dsimp only at *;have hun := VF hc.f (lot := lot) (by omega)
    have hu0 := hc.unit lot;generalize nI c.ks c.ls lot = u at *;have hwg := RS ta u sn c.er hu0;unfold uP sC;dsimp only;generalize VA ta u sn c.er = z at *;obtain ⟨⟨z1,z2⟩,zb⟩ := z;dsimp only at *;cases zb with
    | true =>
      rw [if_pos rfl];have hin := zJ2 (r1,r2) (z1,z2);dsimp only at *;generalize K3 (max r1 z1) (min r2 z2) = y at *;obtain ⟨⟨y1,y2⟩,yb⟩ := y;dsimp only at *
      (repeat' (first|refine wS ?_|refine wR ?_|refine wT ?_|refine wU ?_|(refine rg 4 (vV (gX rfl rfl (by omega)) (aV ?_)))|(refine rg 10 (vV (kZ rfl rfl (by omega)) (aV ?_)))|(refine cH (id := 11) 153 yM3 [47,48,49,50,51,52,53,54,55,56,57,12] yM4 cO rfl (by decide +kernel) (dN rfl (dV rfl (by exact cJ rfl rfl) ?_));refine dP T rfl (dO T rfl (dP T rfl (dO T rfl (dN rfl (dV rfl (by exact aK T rfl rfl rfl rfl rfl (by omega) (by omega)) ?_)))));refine dV rfl (by exact aJ T rfl rfl (bM rfl qp) rfl) ?_;refine dV rfl (ix T rfl (by omega) (kG _) qb) (dO T rfl (F9 rfl rfl rfl (by exact cK T rfl) rfl ?_));refine dE ?_;refine bA T rfl rfl rfl rfl rfl rfl (by decide) rfl ?_)|(refine K7 (id := 12) 23 25 153 (by (dsimp only [G5];done)) (by decide +kernel) yM5 [59,60,61,62,63,64,65,66,67,68,69,70,71,72,73,74,75,76,77,78,79,58,80,81,13] yM6 cO rfl (by decide +kernel) (dP T rfl (dO T rfl (dN rfl (dV rfl (by exact cJ rfl rfl) ?_))));refine dP T rfl (dO T rfl (dN rfl (dV rfl (by exact cJ rfl rfl) ?_)));refine dP T rfl (dO T rfl (dP T rfl (dO T rfl (dV rfl (kC (hun)) (dP T rfl (dO T rfl (dN rfl (dV rfl (by exact cJ rfl rfl) ?_))))))));refine dP T rfl (dP T rfl (dO T rfl (dV rfl (kC (hwg)) (dN rfl (dV rfl (by exact jU rfl rfl) ?_)))));refine dV rfl (by exact jU rfl rfl) ?_;refine F9 rfl rfl rfl (by exact cK T rfl) rfl ?_;refine dE ?_;refine bA T rfl rfl rfl rfl rfl rfl (by decide) rfl (aV ?_))|(refine rg 13 (mV ?_))|(refine K7 (id := 14) 9 10 153 (by (dsimp only [G5];done)) (by decide +kernel) [[],[0],[],[0,1,2],rN 4,[],rN 6,rN 7,rN 8,rN 8] [84,85,86,87,88,89,90,83,91,92] [[],[],[84,85],[],[],rM 84 5,[],[],[],[91]] cO rfl (by decide +kernel) (dP T rfl (dO T rfl (dN rfl (dV rfl (by exact aK T rfl rfl rfl rfl rfl (by omega) (by omega)) ?_))));refine dV rfl (by exact aJ T rfl rfl (bM rfl qc) rfl) ?_;refine dO T rfl (dV rfl (kC (hin)) (dN rfl (dV rfl (by exact jU rfl rfl) ?_)));refine dV rfl (by exact jU rfl rfl) ?_;refine dE ?_;refine bA T rfl rfl rfl rfl rfl rfl (by decide) rfl (aV ?_))|(refine rg 15 (fW T rfl (vV (aJ T rfl rfl rfl rfl) (mW rfl (vV (aJ T rfl rfl rfl rfl) (mW rfl (vV (by exact aK T rfl rfl rfl rfl rfl (by omega) (by omega)) ?_))))));refine bA T rfl rfl rfl rfl rfl rfl (by decide) (lZ rfl qc rfl) (aV ?_))|(refine rg 23 (vV (aJ T rfl rfl rfl rfl) (mW rfl (bA T rfl rfl rfl rfl rfl rfl (by decide) rfl (aV ?_)))))|refine nZ ?_));all_goals first | (exfalso;omega) | exact ⟨.inl rfl,[3,4],_,rfl,rfl,rfl,⟨.inr (aC rfl rfl (bB _)),.inr (aC rfl (ctn y1 y2) (eZ _)),trivial⟩,by decide,kQ _⟩
    | false =>
      rw [if_neg (by simp)]
      (repeat' (first|refine wS ?_|refine wK ?_|refine wR ?_|refine wT ?_|refine wU ?_|(refine rg 4 (vV (gX rfl rfl (by omega)) (aV ?_)))|(refine rg 10 (vV (kZ rfl rfl (by omega)) (aV ?_)))|(refine cH (id := 11) 153 yM3 [47,48,49,50,51,52,53,54,55,56,57,12] yM4 cO rfl (by decide +kernel) (dN rfl (dV rfl (by exact cJ rfl rfl) ?_));refine dP T rfl (dO T rfl (dP T rfl (dO T rfl (dN rfl (dV rfl (by exact aK T rfl rfl rfl rfl rfl (by omega) (by omega)) ?_)))));refine dV rfl (by exact aJ T rfl rfl (bM rfl qp) rfl) ?_;refine dV rfl (ix T rfl (by omega) (kG _) qb) (dO T rfl (F9 rfl rfl rfl (by exact cK T rfl) rfl ?_));refine dE ?_;refine bA T rfl rfl rfl rfl rfl rfl (by decide) rfl ?_)|(refine K7 (id := 12) 23 25 153 (by (dsimp only [G5];done)) (by decide +kernel) yM5 [59,60,61,62,63,64,65,66,67,68,69,70,71,72,73,74,75,76,77,78,79,58,80,81,13] yM6 cO rfl (by decide +kernel) (dP T rfl (dO T rfl (dN rfl (dV rfl (by exact cJ rfl rfl) ?_))));refine dP T rfl (dO T rfl (dN rfl (dV rfl (by exact cJ rfl rfl) ?_)));refine dP T rfl (dO T rfl (dP T rfl (dO T rfl (dV rfl (kC (hun)) (dP T rfl (dO T rfl (dN rfl (dV rfl (by exact cJ rfl rfl) ?_))))))));refine dP T rfl (dP T rfl (dO T rfl (dV rfl (kC (hwg)) (dN rfl (dV rfl (by exact jU rfl rfl) ?_)))));refine dV rfl (by exact jU rfl rfl) ?_;refine F9 rfl rfl rfl (by exact cK T rfl) rfl ?_;refine dE ?_;refine bA T rfl rfl rfl rfl rfl rfl (by decide) rfl (aV ?_))|(refine rg 13 (mV ?_))|(refine rg 15 (fW T rfl (vV (aJ T rfl rfl rfl rfl) (mW rfl (vV (aJ T rfl rfl rfl rfl) (mW rfl (vV (by exact aK T rfl rfl rfl rfl rfl (by omega) (by omega)) ?_))))));refine bA T rfl rfl rfl rfl rfl rfl (by decide) (lZ rfl qc rfl) (aV ?_))|(refine rg 23 (vV (aJ T rfl rfl rfl rfl) (mW rfl (bA T rfl rfl rfl rfl rfl rfl (by decide) rfl (aV ?_)))))|refine nZ ?_));all_goals first | (exfalso;omega) | exact ⟨.inl rfl,[3,4],_,rfl,rfl,rfl,⟨.inr (aC rfl rfl (bB _)),.inr (aC rfl (ctn z1 z2) (eZ _)),trivial⟩,by decide,kQ _⟩
  by_cases k2 : sk = 2
  · have hpk := WT (r1,r2) sn c.sl ⟨by omega,by omega,by omega,by omega⟩
    rw [if_neg k0,if_neg k1,if_pos k2];unfold sC;dsimp only at *;generalize zE (r1,r2) sn c.sl = z at *;obtain ⟨⟨z1,z2⟩,zb⟩ := z;dsimp only at *
    (repeat' (first|refine wS ?_|refine wR ?_|refine wT ?_|refine wU ?_|(refine rg 4 (vV (gX rfl rfl (by omega)) (aV ?_)))|(refine rg 10 (vV (gX rfl rfl (by omega)) (aV ?_)))|(refine rg 16 (vV (kZ rfl rfl (by omega)) (aV ?_)))|(refine K7 (id := 17) 18 20 153 (by (dsimp only [G5];done)) (by decide +kernel) [[],[0],[],[],[3],[],[3,4,5],rM 3 4,[],[8],[],[10],[10,11],[10,11,12],rM 10 4,rM 3 12,rM 3 13,rM 3 14,rM 3 14,rN 18] [102,103,104,105,106,107,108,109,110,111,112,113,114,115,116,117,101,118,119,120] [[],[],[102,103],[102,103,104],[102,103,104],rM 102 5,[102,103,104],[102,103,104],rM 102 8,rM 102 8,rM 102 10,rM 102 10,rM 102 10,rM 102 10,rM 102 10,[102,103,104],[102,103,104],[102,103,104],[102,103,104,118],[119]] cO rfl (by decide +kernel) (dP T rfl (dO T rfl (dN rfl (dP T rfl (dO T rfl (dN rfl (dV rfl (by exact aK T rfl rfl rfl rfl rfl (by omega) (by omega)) ?_)))))));refine dV rfl (by exact aJ T rfl rfl (bM rfl qc) rfl) ?_;refine dP T rfl (dO T rfl (dN rfl (dV rfl (by exact cJ rfl rfl) ?_)));refine dP T rfl (dP T rfl (dO T rfl (dV rfl (kC (hpk)) (dN rfl (dV rfl (by exact jU rfl rfl) ?_)))));refine dV rfl (by exact jU rfl rfl) ?_;refine dV rfl (by exact aK T rfl rfl rfl rfl rfl (by omega) (by omega)) ?_;refine dE ?_;refine bA T rfl rfl rfl rfl rfl rfl (by decide) (lZ rfl qc rfl) (aV ?_))|(refine rg 23 (vV (aJ T rfl rfl rfl rfl) (mW rfl (bA T rfl rfl rfl rfl rfl rfl (by decide) rfl (aV ?_)))))|refine nZ ?_));all_goals first | (exfalso;omega) | exact ⟨.inl rfl,[3,4],_,rfl,rfl,rfl,⟨.inr (aC rfl rfl (bB _)),.inr (aC rfl (ctn z1 z2) (eZ _)),trivial⟩,by decide,kQ _⟩
  by_cases k3 : sk = 3
  · rw [if_neg k0,if_neg k1,if_neg k2,if_pos k3];have hhs := zF8 r1 r2 sn;unfold sC;dsimp only;generalize vT r1 r2 sn = hb' at *
    (repeat' (first|refine wS ?_|refine wR ?_|refine wT ?_|refine wU ?_|(refine rg 4 (vV (gX rfl rfl (by omega)) (aV ?_)))|(refine rg 10 (vV (gX rfl rfl (by omega)) (aV ?_)))|(refine rg 16 (vV (gX rfl rfl (by omega)) (aV ?_)))|(refine rg 18 (vV (kZ rfl rfl (by omega)) (aV ?_)))|(refine cH (id := 19) 153 [[],[0],[],[0,1,2],rN 4,[],[5],rN 7] (rM 123 8) [[],[],[123,124],[],[],rM 123 5,rM 123 5,[]] cO rfl (by decide +kernel) (dP T rfl (dO T rfl (dN rfl (dV rfl (by exact aK T rfl rfl rfl rfl rfl (by omega) (by omega)) ?_))));refine dV rfl (by exact aJ T rfl rfl (bM rfl qc) rfl) ?_;refine dP T rfl (dO T rfl (dV rfl (kC (hhs)) (dE ?_)));refine aV ?_)|(refine rg 20 (fW T rfl (vV (aJ T rfl rfl rfl rfl) (mW rfl (fW T rfl (vV (aJ T rfl rfl rfl rfl) (fW T rfl (vV (aJ T rfl rfl rfl rfl) (vV (cC rfl rfl (by omega) (by omega)) (vV (by exact eS T rfl rfl rfl rfl) ?_)))))))));refine vV (by exact aK T rfl rfl rfl rfl rfl (by omega) (by omega)) ?_;refine bA T rfl rfl rfl rfl rfl rfl (by decide) (lZ rfl qc rfl) ?_)|(refine rg 23 (vV (aJ T rfl rfl rfl rfl) (mW rfl (bA T rfl rfl rfl rfl rfl rfl (by decide) rfl (aV ?_)))))|refine nZ ?_));all_goals first | (exfalso;omega) | exact ⟨.inl rfl,[3,4],_,rfl,rfl,rfl,⟨.inr (aC rfl rfl (bB _)),.inr (aC rfl (ctn sn (sn + 1)) (eZ _)),trivial⟩,by decide,kQ _⟩
  by_cases k5 : sk = 5
  · rw [if_neg k0,if_neg k1,if_neg k2,if_neg k3,if_pos k5];dsimp only
    (repeat' (first|refine wS ?_|refine wR ?_|refine wT ?_|refine wU ?_|(refine rg 4 (vV (gX rfl rfl (by omega)) (aV ?_)))|(refine rg 10 (vV (gX rfl rfl (by omega)) (aV ?_)))|(refine rg 16 (vV (gX rfl rfl (by omega)) (aV ?_)))|(refine rg 18 (vV (gX rfl rfl (by omega)) (aV ?_)))|(refine rg 21 (vV (kZ rfl rfl (by omega)) (aV ?_)))|(refine cH (id := 22) 153 [[],[0],[],[0,1,2],rN 4,[],[5],rN 7] (rM 143 8) [[],[],[143,144],[],[],rM 143 5,rM 143 5,[]] cO rfl (by decide +kernel) (dP T rfl (dO T rfl (dN rfl (dV rfl (by exact aK T rfl rfl rfl rfl rfl (by omega) (by omega)) ?_))));refine dV rfl (by exact aJ T rfl rfl (bM rfl qp) rfl) ?_;refine dP T rfl (dO T rfl (dV rfl (dX rfl rfl) (dE ?_)));refine aV ?_)|(refine rg 23 (vV (aJ T rfl rfl rfl rfl) (mW rfl (bA T rfl rfl rfl rfl rfl rfl (by decide) rfl (aV ?_)))))|refine nZ ?_));all_goals first | (exfalso;omega) | exact ⟨.inl rfl,[3,4],_,rfl,rfl,rfl,⟨.inr (aC rfl rfl (bB _)),.inr (aC rfl rfl (eZ _)),trivial⟩,by decide,kQ _⟩
  · rw [if_neg k0,if_neg k1,if_neg k2,if_neg k3,if_neg k5]
    (repeat' (first|refine wS ?_|refine wK ?_|refine wR ?_|refine wU ?_|(refine rg 4 (vV (gX rfl rfl (by omega)) (aV ?_)))|(refine rg 10 (vV (gX rfl rfl (by omega)) (aV ?_)))|(refine rg 16 (vV (gX rfl rfl (by omega)) (aV ?_)))|(refine rg 18 (vV (gX rfl rfl (by omega)) (aV ?_)))|(refine rg 21 (vV (gX rfl rfl (by omega)) (aV ?_)))|(refine rg 23 (lW T rfl (mW rfl (bA T rfl rfl rfl rfl rfl rfl (by decide) rfl (aV ?_)))))|refine nZ ?_));all_goals first | (exfalso;omega) | exact ⟨.inl rfl,[3,4],_,rfl,rfl,rfl,⟨.inr (aC rfl rfl (bB _)),.inr (aC rfl rfl (eZ _)),trivial⟩,by decide,kQ _⟩
end Go.Proofs.YtmmmeebiobjnbaaGreat
namespace Go.Ld
open Go.Ab Go.Proofs.YtmmmeebiobjnbaaGreat
theorem GU (c : Cx) (w : W) (i : Nat) (s : Ev) : (kA c w i s).1.1 = w.1 ∧ (kA c w i s).1.2.2.length = w.2.2.length := by
  unfold kA sC;dsimp only
  repeat' split
  all_goals exact ⟨rfl,by first | rfl | exact hC⟩
end Go.Ld
namespace Go.Proofs.YtmmmeebiobjnbaaGreat
open Go Go.Ab Go.Ld
end Go.Proofs.YtmmmeebiobjnbaaGreat
