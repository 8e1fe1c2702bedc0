/-
  Texts of the logic and of the layer,in one module (part 4).
-/
import Derived.Test.YtdmajnjoeidgeaaGreatW3
import Derived.Shelf.Small.Strs
import Derived.Shelf.Small.Wraps
set_option linter.unusedVariables false
set_option linter.unusedSimpArgs false
namespace Go.Proofs.YtdmajnjoeidgeaaGreat
open Go Go.Ab Go.Fl
attribute [local irreducible] VC AW FStep ACall
set_option maxHeartbeats 4000000
def HeadP (f : Flo) : Prop := 1 ≤ f.w ∧ 1 ≤ f.h ∧ 1 ≤ f.d ∧ f.d ≤ 4 ∧ f.w ≤ 4096 ∧ f.h ≤ 4096
def goodP (f : Flo) (i : Nat) : Prop := 0 ≤ f.k.getD i 0 ∧ f.k.getD i 0 ≤ 6 ∧ 0 ≤ f.o.getD i 0 ∧ f.o.getD i 0 ≤ 63
def LensP (f : Flo) : Prop := f.w * f.h * f.d ≤ 4096 ∧ (f.k.length : Int) = f.w * f.h * f.d ∧ (f.o.length : Int) = f.w * f.h * f.d
def RightP (f : Flo) : Prop := HeadP f ∧ LensP f ∧ ∀ i,i < f.k.length → goodP f i
open Classical in
noncomputable def rightB (f : Flo) : Bool := decide (RightP f)
theorem rightB_t {f : Flo} (h : RightP f) : rightB f = true := by simp [rightB,h]
theorem rightB_f {f : Flo} (h : ¬ RightP f) : rightB f = false := by simp [rightB,h]
theorem head_bounds {f : Flo} (h : HeadP f) : (0 ≤ f.w * f.h ∧ f.w * f.h ≤ 16777216) ∧ (0 ≤ f.w * f.h * f.d ∧ f.w * f.h * f.d ≤ 67108864) := by
  obtain ⟨h1,h2,h3,h4,h5,h6⟩ := h
  have a1 : 0 ≤ f.w * f.h := Int.mul_nonneg (by omega) (by omega)
  have a2 : f.w * f.h ≤ 4096 * 4096 := Int.le_trans (Int.mul_le_mul_of_nonneg_right h5 (by omega)) (Int.mul_le_mul_of_nonneg_left h6 (by omega))
  have a3 : 0 ≤ f.w * f.h * f.d := Int.mul_nonneg a1 (by omega)
  have a4 : f.w * f.h * f.d ≤ (4096 * 4096) * 4 := Int.le_trans (Int.mul_le_mul_of_nonneg_right a2 (by omega)) (Int.mul_le_mul_of_nonneg_left h4 (by omega))
  omega
theorem right_fine {f : Flo} (h : RightP f) (hk : f.k.length ≤ 300) : Fine f := by
  obtain ⟨⟨h1,h2,h3,_⟩,⟨_,h5,h6⟩,h7⟩ := h
  refine ⟨h1,h2,h3,h5,by omega,hk,fun i hi => ?_,fun i hi => ?_⟩
  · have := h7 i hi
    unfold goodP at this
    rw [List.getD_eq_getElem?_getD,List.getElem?_eq_getElem hi] at this
    exact ⟨this.1,this.2.1⟩
  · have := h7 i (by omega)
    unfold goodP at this
    rw [List.getD_eq_getElem?_getD (l := f.o),List.getElem?_eq_getElem hi] at this
    exact ⟨this.2.2.1,this.2.2.2⟩
theorem right_c (f : Flo) : ACall Tryz.prog 53 [floorA f] [] (.b (rightB f)) [] := by
  by_cases p1 : HeadP f
  · have hb := head_bounds p1
    have hs := size_c f (by omega) (by omega)
    have hsz : f.size = f.w * f.h * f.d := rfl
    have hp := p1
    unfold HeadP at hp
    have hkl : (ints f.k).length = f.k.length := by simp
    have holl : (ints f.o).length = f.o.length := by simp
    by_cases p2 : LensP f
    · have hp2 := p2
      unfold LensP at hp2
      refine acall T Tryz.func53 rfl rfl rfl rfl ?_
      repeat' (first|refine wS ?_|refine wB ?_|refine wK ?_|(refine wC rfl (fun hb=>?_) (fun hb=>?_)<;>(((try simp only [nm] at hb);try (exfalso;omega))))|(refine rg 0 ?_;refine vc_n (by exact fs_box rfl rfl) rfl ?_;refine aV ?_)|(refine rg 1 ?_;refine flV T ?_;refine flV T ?_;refine flV T ?_;refine vV (by exact fs_min3 rfl rfl rfl) ?_;refine vV (by exact fs_lss rfl rfl) ?_;refine mV ?_;refine vc_split rfl rfl (fun hb=>?_) (fun hb=>?_)<;>((rw [hb];(try simp only [nm] at hb);try ((exfalso;omega);done)));(all_goals (refine yF T ?_;refine yL T ?_;refine yV (by exact fs_gtr rfl rfl) ?_;refine pV ?_;refine mV ?_;refine vc_split rfl rfl (fun hb=>?_) (fun hb=>?_)<;>((rw [hb];(try simp only [nm] at hb);try ((exfalso;omega);done)))));(all_goals (refine yF T ?_;refine yL T ?_;refine yF T ?_;refine yL T ?_;refine yV (by exact fs_max rfl rfl) ?_;refine yV (by exact fs_gtr rfl rfl) ?_;refine pV ?_)))|(refine rg 3 ?_;refine lV T ?_;refine vV (by exact kC (hs)) ?_;refine aV ?_)|(refine rg 4 ?_;refine mV ?_;refine vV (by exact fs_gtr rfl rfl) ?_;refine mV ?_;refine vc_split rfl rfl (fun hb=>?_) (fun hb=>?_)<;>((rw [hb];(try simp only [nm] at hb);try ((exfalso;omega);done)));(all_goals (refine yF T ?_;refine yL T ?_;refine gT ?_;refine qV T ?_;refine yM ?_;refine yV (by exact fs_neq rfl rfl) ?_;refine pV ?_;refine mV ?_;refine vc_split rfl rfl (fun hb=>?_) (fun hb=>?_)<;>((rw [hb];(try simp only [nm] at hb);try ((exfalso;omega);done)))));(all_goals (refine yF T ?_;refine yL T ?_;refine gT ?_;refine qV T ?_;refine yM ?_;refine yV (by exact fs_neq rfl rfl) ?_;refine pV ?_)))|(refine rg 6 ?_;refine flV T ?_;refine qV T ?_;refine mV ?_)|refine nZ ?_)
      all_goals try (exfalso;omega)
      refine aw_loop (X := {i : Nat // i ≤ f.k.length ∧ ∀ j,j < i → goodP f j}) (fun i => [(1,.ptr 0 0),(46,.rowE (ints f.k) 1),(47,.i ((ints f.k).length : Int)),(48,.i i.1)]) (fun _ => [.cells [.i f.w,.i f.h,.i f.d,.rowE (ints f.k) 1,.rowE (ints f.o) 1]]) (fun i => f.k.length - i.1) ⟨0,by omega,fun j hj => by omega⟩ (by (refine ⟨[0],rfl,(by (repeat (first | exact trivial | refine ⟨rfl,?_⟩))),(by (repeat (first | exact trivial | refine ⟨Or.inl rfl,?_⟩ | refine ⟨Or.inr rfl,?_⟩))),by decide,(nz0)⟩)) ?_
      rintro ⟨i,hi,hg⟩
      dsimp only
      by_cases hlt : i < f.k.length
      · have q1 := ints_getD (l := f.k) (j := (i : Int)) (by omega) (by omega)
        have q2 := ints_getD (l := f.o) (j := (i : Int)) (by omega) (by omega)
        have ei : (i : Int).toNat = i := Int.toNat_natCast i
        by_cases hgi : goodP f i
        · have hgi' := hgi
          unfold goodP at hgi'
          rw [ei] at q1 q2
          repeat' (first|refine wS ?_|refine wB ?_|refine wK ?_|(refine wC rfl (fun hb=>?_) (fun hb=>?_)<;>(((try simp only [nm] at hb);try (exfalso;omega))))|(refine rg 7 ?_;refine vV (by exact fs_lss rfl rfl) ?_)|(refine rg 8 ?_;refine mV ?_;refine vV (by exact ix T rfl (by omega) (ints_len f.k) q1) ?_;refine lV T ?_;refine aaV ?_)|(refine rg 9 ?_;refine mV ?_;refine vV (by exact fs_lss rfl rfl) ?_;refine mV ?_;refine vc_split rfl rfl (fun hb=>?_) (fun hb=>?_)<;>((rw [hb];(try simp only [nm] at hb);try ((exfalso;omega);done)));(all_goals (refine yM ?_;refine yV (by exact fs_geq rfl rfl) ?_;refine pV ?_;refine mV ?_;refine vc_split rfl rfl (fun hb=>?_) (fun hb=>?_)<;>((rw [hb];(try simp only [nm] at hb);try ((exfalso;omega);done)))));(all_goals (refine yF T ?_;refine yL T ?_;refine yM ?_;refine yV (by exact ix T rfl (by omega) (ints_len f.o) q2) ?_;refine yL T ?_;refine yV (by exact fs_lss rfl rfl) ?_;refine pV ?_;refine mV ?_;refine vc_split rfl rfl (fun hb=>?_) (fun hb=>?_)<;>((rw [hb];(try simp only [nm] at hb);try ((exfalso;omega);done)))));(all_goals (refine yF T ?_;refine yL T ?_;refine yM ?_;refine yV (by exact ix T rfl (by omega) (ints_len f.o) q2) ?_;refine yL T ?_;refine yV (by exact fs_gtr rfl rfl) ?_;refine pV ?_)))|(refine rg 11 ?_;refine vV (by exact fs_addr rfl rfl (by omega) (by omega)) ?_;refine mV ?_)|refine nZ ?_)
          all_goals try (exfalso;omega)
          refine ⟨⟨i + 1,hlt,fun j hj => ?_⟩,by dsimp only;omega,by (refine ⟨[0],rfl,(by (repeat (first | exact trivial | refine ⟨rfl,?_⟩))),(by (repeat (first | exact trivial | refine ⟨Or.inl rfl,?_⟩ | refine ⟨Or.inr rfl,?_⟩))),by decide,(nz0)⟩)⟩
          by_cases e : j = i
          · subst e;exact hgi
          · exact hg j (by omega)
        · rw [rightB_f (fun h => hgi (h.2.2 i hlt))]
          unfold goodP at hgi
          rw [ei] at q1 q2
          repeat' (first|refine wS ?_|refine wB ?_|refine wK ?_|refine wR ?_|refine wT ?_|(refine wC rfl (fun hb=>?_) (fun hb=>?_)<;>(((try simp only [nm] at hb);try (exfalso;omega))))|(refine rg 7 ?_;refine vV (by exact fs_lss rfl rfl) ?_)|(refine rg 8 ?_;refine mV ?_;refine vV (by exact ix T rfl (by omega) (ints_len f.k) q1) ?_;refine lV T ?_;refine aaV ?_)|(refine rg 9 ?_;refine mV ?_;refine vV (by exact fs_lss rfl rfl) ?_;refine mV ?_;refine vc_split rfl rfl (fun hb=>?_) (fun hb=>?_)<;>((rw [hb];(try simp only [nm] at hb);try ((exfalso;omega);done)));(all_goals first|(refine gT ?_;(refine mV ?_);refine gT ?_;(refine vV (by exact fs_geq rfl rfl) ?_))|(iterate 2 refine gF ?_));(all_goals (refine pV ?_;refine mV ?_));(all_goals first|(refine gK ?_)|(refine vc_split rfl rfl (fun hb=>?_) (fun hb=>?_)<;>((rw [hb];(try simp only [nm] at hb);try ((exfalso;omega);done)))));(all_goals first|(refine gT ?_;(refine fV T ?_);refine gT ?_;(refine lV T ?_);refine gT ?_;(refine mV ?_);refine gT ?_;(refine vV (by exact ix T rfl (by omega) (ints_len f.o) q2) ?_);refine gT ?_;(refine lV T ?_);refine gT ?_;(refine vV (by exact fs_lss rfl rfl) ?_))|(iterate 6 refine gF ?_));(all_goals (refine pV ?_;refine mV ?_));(all_goals first|(refine gK ?_)|(refine vc_split rfl rfl (fun hb=>?_) (fun hb=>?_)<;>((rw [hb];(try simp only [nm] at hb);try ((exfalso;omega);done)))));(all_goals first|(refine gT ?_;(refine fV T ?_);refine gT ?_;(refine lV T ?_);refine gT ?_;(refine mV ?_);refine gT ?_;(refine vV (by exact ix T rfl (by omega) (ints_len f.o) q2) ?_);refine gT ?_;(refine lV T ?_);refine gT ?_;(refine vV (by exact fs_gtr rfl rfl) ?_))|(iterate 6 refine gF ?_));(all_goals (refine pV ?_)))|(refine rg 10 ?_;refine aV ?_)|refine nZ ?_)
          all_goals first | (exfalso;omega) | exact rQ
      · rw [rightB_t ⟨p1,p2,fun j hj => hg j (by omega)⟩]
        repeat' (first|refine wS ?_|refine wR ?_|refine wE ?_|(refine wC rfl (fun hb=>?_) (fun hb=>?_)<;>(((try simp only [nm] at hb);try (exfalso;omega))))|(refine rg 7 ?_;refine vV (by exact fs_lss rfl rfl) ?_)|(refine rg 12 ?_;refine aV ?_)|refine nZ ?_)
        all_goals first | (exfalso;omega) | exact rQ
    · rw [rightB_f (fun h => p2 h.2.1)]
      unfold LensP at p2
      refine acall T Tryz.func53 rfl rfl rfl rfl ?_
      repeat' (first|refine wS ?_|refine wK ?_|refine wR ?_|refine wT ?_|(refine wC rfl (fun hb=>?_) (fun hb=>?_)<;>(((try simp only [nm] at hb);try (exfalso;omega))))|(refine rg 0 ?_;refine vc_n (by exact fs_box rfl rfl) rfl ?_;refine aV ?_)|(refine rg 1 ?_;refine flV T ?_;refine flV T ?_;refine flV T ?_;refine vV (by exact fs_min3 rfl rfl rfl) ?_;refine vV (by exact fs_lss rfl rfl) ?_;refine mV ?_;refine vc_split rfl rfl (fun hb=>?_) (fun hb=>?_)<;>((rw [hb];(try simp only [nm] at hb);try ((exfalso;omega);done)));(all_goals (refine yF T ?_;refine yL T ?_;refine yV (by exact fs_gtr rfl rfl) ?_;refine pV ?_;refine mV ?_;refine vc_split rfl rfl (fun hb=>?_) (fun hb=>?_)<;>((rw [hb];(try simp only [nm] at hb);try ((exfalso;omega);done)))));(all_goals (refine yF T ?_;refine yL T ?_;refine yF T ?_;refine yL T ?_;refine yV (by exact fs_max rfl rfl) ?_;refine yV (by exact fs_gtr rfl rfl) ?_;refine pV ?_)))|(refine rg 3 ?_;refine lV T ?_;refine vV (by exact kC (hs)) ?_;refine aV ?_)|(refine rg 4 ?_;refine mV ?_;refine vV (by exact fs_gtr rfl rfl) ?_;refine mV ?_;refine vc_split rfl rfl (fun hb=>?_) (fun hb=>?_)<;>((rw [hb];(try simp only [nm] at hb);try ((exfalso;omega);done)));(all_goals first|(refine gT ?_;(refine fV T ?_);refine gT ?_;(refine lV T ?_);refine gT ?_;(refine qV T ?_);refine gT ?_;(refine mV ?_);refine gT ?_;(refine vV (by exact fs_neq rfl rfl) ?_))|(iterate 5 refine gF ?_));(all_goals (refine pV ?_;refine mV ?_));(all_goals first|(refine gK ?_)|(refine vc_split rfl rfl (fun hb=>?_) (fun hb=>?_)<;>((rw [hb];(try simp only [nm] at hb);try ((exfalso;omega);done)))));(all_goals first|(refine gT ?_;(refine fV T ?_);refine gT ?_;(refine lV T ?_);refine gT ?_;(refine qV T ?_);refine gT ?_;(refine mV ?_);refine gT ?_;(refine vV (by exact fs_neq rfl rfl) ?_))|(iterate 5 refine gF ?_));(all_goals (refine pV ?_)))|(refine rg 5 ?_;refine aV ?_)|refine nZ ?_)
      all_goals first | (exfalso;omega) | exact rQ
  · rw [rightB_f (fun h => p1 h.1)]
    unfold HeadP at p1
    refine acall T Tryz.func53 rfl rfl rfl rfl ?_
    repeat' (first|refine wS ?_|refine wR ?_|refine wT ?_|(refine wC rfl (fun hb=>?_) (fun hb=>?_)<;>(((try simp only [nm] at hb);try (exfalso;omega))))|(refine rg 0 ?_;refine vc_n (by exact fs_box rfl rfl) rfl ?_;refine aV ?_)|(refine rg 1 ?_;refine flV T ?_;refine flV T ?_;refine flV T ?_;refine vV (by exact fs_min3 rfl rfl rfl) ?_;refine vV (by exact fs_lss rfl rfl) ?_;refine mV ?_;refine vc_split rfl rfl (fun hb=>?_) (fun hb=>?_)<;>((rw [hb];(try simp only [nm] at hb);try ((exfalso;omega);done)));(all_goals first|(refine gT ?_;(refine fV T ?_);refine gT ?_;(refine lV T ?_);refine gT ?_;(refine vV (by exact fs_gtr rfl rfl) ?_))|(iterate 3 refine gF ?_));(all_goals (refine pV ?_;refine mV ?_));(all_goals first|(refine gK ?_)|(refine vc_split rfl rfl (fun hb=>?_) (fun hb=>?_)<;>((rw [hb];(try simp only [nm] at hb);try ((exfalso;omega);done)))));(all_goals first|(refine gT ?_;(refine fV T ?_);refine gT ?_;(refine lV T ?_);refine gT ?_;(refine fV T ?_);refine gT ?_;(refine lV T ?_);refine gT ?_;(refine vV (by exact fs_max rfl rfl) ?_);refine gT ?_;(refine vV (by exact fs_gtr rfl rfl) ?_))|(iterate 6 refine gF ?_));(all_goals (refine pV ?_)))|(refine rg 2 ?_;refine aV ?_)|refine nZ ?_)
    all_goals first | (exfalso;omega) | exact rQ
theorem few_c (f : Flo) (n : Int) : ACall Tryz.prog 52 [floorA f,.i n] [] (.b (decide ((f.k.length : Int) ≤ n) && decide ((f.o.length : Int) ≤ n))) [] := by
  have hkl : (ints f.k).length = f.k.length := by simp
  have holl : (ints f.o).length = f.o.length := by simp
  refine acall T Tryz.func52 rfl rfl rfl rfl ?_
  repeat' (first|refine wS ?_|refine wR ?_|(refine rg 0 ?_;refine vc_n (by exact fs_box rfl rfl) rfl ?_;refine aV ?_)|(refine rg 1 ?_;refine flV T ?_;refine qV T ?_;refine mV ?_;refine vV (by exact fs_leq rfl rfl) ?_;refine mV ?_;refine vc_split rfl rfl (fun hb=>?_) (fun hb=>?_)<;>((rw [hb];(try simp only [nm] at hb);try ((exfalso;omega);done)));(all_goals first|(refine gT ?_;(refine fV T ?_);refine gT ?_;(refine lV T ?_);refine gT ?_;(refine qV T ?_);refine gT ?_;(refine mV ?_);refine gT ?_;(refine vV (by exact fs_leq rfl rfl) ?_))|(iterate 5 refine gF ?_));(all_goals (refine pV ?_;refine aV ?_)))|refine nZ ?_)
  all_goals
    refine ret_plain (.inl rfl) rfl (b_ret ?_)
    rw [Bool.eq_iff_iff]
    simp only [Bool.and_eq_true,decide_eq_true_eq,Bool.false_eq_true,false_iff,not_and]
    omega
end Go.Proofs.YtdmajnjoeidgeaaGreat
namespace Go.Proofs.YtdmajnjoeidgeaaGreat
open Go Go.Ab Go.Fl
abbrev Zon := List UInt8 × List Int × Int × Int × List (Int × Int)
abbrev zonA (z : Zon) : List AV := [.s z.1,.rowE (ints z.2.1) 1,.i z.2.2.1,.i z.2.2.2.1,.rowE (stksA z.2.2.2.2) 2]
abbrev zonsA (l : List Zon) : List (List AV) := l.map zonA
abbrev apsA (l : List (List UInt8 × List UInt8)) : List (List AV) := l.map fun x => [AV.s x.1,AV.s x.2]
abbrev shsA (l : List (Int × List UInt8)) : List (List AV) := l.map fun x => [AV.i x.1,AV.s x.2]
structure Sit where
  fl : Flo
  zn : List Zon
  ap : List (List UInt8 × List UInt8)
  sh : List (Int × List UInt8)
  rb : List (Int × Int)
abbrev sitA (s : Sit) : List AV := floorC s.fl ++ [.rowE (zonsA s.zn) 5,.rowE (apsA s.ap) 2,.rowE (shsA s.sh) 2,.rowE (stksA s.rb) 2]
theorem shs_len (l : List (Int × List UInt8)) : ∀ e,e ∈ shsA l → e.length = 2 := by intro e he;obtain ⟨n,_,rfl⟩ := List.mem_map.1 he;rfl
theorem stks_get {l : List (Int × Int)} {k : Nat} (h : k < l.length) : (stksA l)[k]? = some [AV.i l[k].1,AV.i l[k].2] := by simp [h]
end Go.Proofs.YtdmajnjoeidgeaaGreat
namespace Go.Proofs.YtdmajnjoeidgeaaGreat
open Go Go.Ab Go.Fl
attribute [local irreducible] VC AW FStep ACall
set_option maxHeartbeats 4000000
end Go.Proofs.YtdmajnjoeidgeaaGreat
namespace Go.Proofs.YtdmajnjoeidgeaaGreat
open Go Go.Ab Go.Fl
section
variable {P : Program} {env : Env} {h : Hp} {d : Option Nat} {ty : TypeId} {pos : String} {af : Array Edge} {g : Option (Nat × Bool)}
theorem fs_gtrT {t t2 : TypeId} {x y : Operand} {a b : Int} (hx : evu env x = some (.i a)) (hy : evu env y = some (.i b)) (e : b < a) : FStep P ⟨d,.binOp .gtr t x y t2,ty,pos,af,g⟩ env h 0 (fun _ => .b true) (fun _ => []) := by
  have := fs_gtr (P := P) (d := d) (ty := ty) (pos := pos) (af := af) (g := g) (h := h) (t := t) (t2 := t2) hx hy
  simpa [show decide (a > b) = true from decide_eq_true (by omega)] using this
theorem fs_gtrF {t t2 : TypeId} {x y : Operand} {a b : Int} (hx : evu env x = some (.i a)) (hy : evu env y = some (.i b)) (e : a ≤ b) : FStep P ⟨d,.binOp .gtr t x y t2,ty,pos,af,g⟩ env h 0 (fun _ => .b false) (fun _ => []) := by
  have := fs_gtr (P := P) (d := d) (ty := ty) (pos := pos) (af := af) (g := g) (h := h) (t := t) (t2 := t2) hx hy
  simpa [show decide (a > b) = false from decide_eq_false (by omega)] using this
theorem fs_leqT {t t2 : TypeId} {x y : Operand} {a b : Int} (hx : evu env x = some (.i a)) (hy : evu env y = some (.i b)) (e : a ≤ b) : FStep P ⟨d,.binOp .leq t x y t2,ty,pos,af,g⟩ env h 0 (fun _ => .b true) (fun _ => []) := by
  have := fs_leq (P := P) (d := d) (ty := ty) (pos := pos) (af := af) (g := g) (h := h) (t := t) (t2 := t2) hx hy
  simpa [e] using this
theorem fs_leqF {t t2 : TypeId} {x y : Operand} {a b : Int} (hx : evu env x = some (.i a)) (hy : evu env y = some (.i b)) (e : b < a) : FStep P ⟨d,.binOp .leq t x y t2,ty,pos,af,g⟩ env h 0 (fun _ => .b false) (fun _ => []) := by
  have := fs_leq (P := P) (d := d) (ty := ty) (pos := pos) (af := af) (g := g) (h := h) (t := t) (t2 := t2) hx hy
  simpa [show decide (a ≤ b) = false from decide_eq_false (by omega)] using this
end
attribute [local irreducible] VC AW FStep ACall
set_option maxHeartbeats 4000000
def allB (p : Nat → Bool) (n : Nat) : Bool := (List.range n).all p
theorem allB_no {p : Nat → Bool} {n k : Nat} (h : k < n) (hp : p k = false) : allB p n = false := by
  unfold allB
  rw [List.all_eq_false]
  exact ⟨k,List.mem_range.2 h,by rw [hp];decide⟩
theorem allB_yes {p : Nat → Bool} {n : Nat} : allB p n = true ↔ ∀ k,k < n → p k = true := by
  unfold allB
  rw [List.all_eq_true]
  exact ⟨fun h k hk => h k (List.mem_range.2 hk),fun h k hk => h k (List.mem_range.1 hk)⟩
def deadB (f : Flo) (l : List Int) (i : Nat) : Bool := decide (0 ≤ l.getD i 0 ∧ l.getD i 0 < f.k.length ∧ (0 < i → l.getD (i - 1) 0 < l.getD i 0))
def stkB (f : Flo) (l : List (Int × Int)) (i : Nat) : Bool := onB f (l.getD i (0,0)).1 [6] && withinB (l.getD i (0,0)).2 1 20000 && decide (0 < i → (l.getD (i - 1) (0,0)).1 < (l.getD i (0,0)).1)
theorem stks_gI {l : List (Int × Int)} {j : Int} {i : Nat} (h : i < l.length) (e : j.toNat = i) : (stksA l)[j.toNat]? = some [AV.i (l.getD i (0,0)).1,AV.i (l.getD i (0,0)).2] := by
  rw [e,stks_get h,List.getD_eq_getElem?_getD,List.getElem?_eq_getElem h]
  rfl
theorem rest_c (f : Flo) (s : Stt) (h1 : s.dd.length ≤ 1000) (h2 : s.sk.length ≤ 1000) : ACall Tryz.prog 27 [.agg (floorC f), .agg (sttA s)] []
    (.b (allB (deadB f s.dd) s.dd.length && allB (stkB f s.sk) s.sk.length)) [] := by
  have hdl : (ints s.dd).length = s.dd.length := ints_length _
  have hkl : (ints f.k).length = f.k.length := ints_length _
  have hsl : (stksA s.sk).length = s.sk.length := by simp
  refine acall T Tryz.func27 rfl rfl rfl rfl ?_
  repeat' (first|refine wS ?_|refine wB ?_|(refine rg 0 ?_;refine vc_n (by exact fs_box rfl rfl) rfl ?_;refine vc_n (by exact fs_box rfl rfl) rfl ?_;refine aV ?_)|(refine rg 1 ?_;refine flV T ?_;refine qV T ?_;refine mV ?_)|refine nZ ?_)
  refine aw_loop (X := {k : Nat // k ≤ s.dd.length ∧ ∀ j,j < k → deadB f s.dd j = true}) (fun k => [(2,.ptr 0 0),(3,.ptr 1 0),(10,.rowE (ints s.dd) 1),(11,.i s.dd.length),(12,.i k.1)]) (fun _ => [AB.cells (floorC f),AB.cells (sttA s)]) (fun k => s.dd.length - k.1) ⟨0,by omega,fun j hj => absurd hj (Nat.not_lt_zero _)⟩ ⟨[0,1],rfl,⟨rfl,rfl,rfl,congrArg (fun n : Nat => some (AV.i n)) hdl,rfl,trivial⟩,⟨.inr rfl,.inr rfl,trivial⟩,by decide,lt0 _⟩ ?_
  rintro ⟨k,hk,hp⟩
  dsimp only
  by_cases hlt : k < s.dd.length
  · have q1 := ints_gI (l := s.dd) (j := (k : Int)) 0 hlt rfl
    have q0 : 0 < k → (ints s.dd)[((k : Int) - 1).toNat]? = some [AV.i (s.dd.getD (k - 1) 0)] := fun h0 => ints_gI 0 (by omega) (by omega)
    by_cases hd : deadB f s.dd k = true
    · have hnx : ∀ j,j < k + 1 → deadB f s.dd j = true := fun j hj => by
        by_cases e : j = k
        · rw [e];exact hd
        · exact hp j (by omega)
      unfold deadB at hd
      rw [decide_eq_true_eq] at hd
      obtain ⟨d1,d2,d3⟩ := hd
      generalize s.dd.getD k 0 = c at *
      generalize s.dd.getD (k - 1) 0 = c' at *
      by_cases h0 : 0 < k
      · have q0 := q0 h0
        have d3 := d3 h0
        repeat' (first|refine wS ?_|refine wB ?_|refine wK ?_|refine wT ?_|refine wU ?_|(refine rg 2 ?_;refine vV (by exact fs_lssT rfl rfl (by omega)) ?_)|(refine rg 3 ?_;refine mV ?_;refine vV (by exact ix T rfl (by omega) (ints_len s.dd) q1) ?_;refine lV T ?_;refine aaV ?_)|(refine rg 4 ?_;refine mV ?_;refine vV (by exact fs_lssF rfl rfl (by omega)) ?_;refine mV ?_;refine gK ?_;refine yM ?_;refine yF T ?_;refine yL T ?_;refine gT ?_;refine qV T ?_;refine yV (by exact fs_geqF rfl rfl (by omega)) ?_;refine pV ?_;refine mV ?_;refine gK ?_;refine yM ?_;refine yV (by exact fs_gtrT rfl rfl (by omega)) ?_;refine yM ?_;refine gK ?_;refine yM ?_;refine yF T ?_;refine yL T ?_;refine yM ?_;refine yV (by exact fs_subr rfl rfl (by omega) (by omega)) ?_;refine yV (by exact ix T rfl (by omega) (ints_len s.dd) q0) ?_;refine yL T ?_;refine yV (by exact fs_leqF rfl rfl (by omega)) ?_;refine gT ?_;refine pV ?_;refine pV ?_)|(refine rg 6 ?_;refine vV (by exact fs_addr rfl rfl (by omega) (by omega)) ?_;refine mV ?_)|refine nZ ?_)
        all_goals first | (exfalso;omega) | exact ⟨⟨k + 1,hlt,hnx⟩,by dsimp only;omega,[0,1],rfl,(by (repeat (first | exact trivial | refine ⟨rfl,?_⟩))),⟨.inr rfl,.inr rfl,trivial⟩,by decide,lt0 _⟩
      · repeat' (first|refine wS ?_|refine wB ?_|refine wK ?_|refine aw_condt rfl ?_|refine aw_condf rfl ?_|(((refine rg 2 ?_));(all_goals (refine vV (by exact fs_lssT rfl rfl (by omega)) ?_)))|(((refine rg 3 ?_));(all_goals (refine mV ?_;refine vV (by exact ix T rfl (by omega) (ints_len s.dd) q1) ?_;refine lV T ?_;refine aV ?_;refine aV ?_)))|(((refine rg 4 ?_));(all_goals (refine mV ?_;refine vV (by exact fs_lssF rfl rfl (by omega)) ?_;refine mV ?_));(all_goals (refine gK ?_));(all_goals (refine gT ?_;(refine mV ?_);refine gT ?_;(refine fV T ?_);refine gT ?_;(refine lV T ?_);refine gT ?_;(refine qV T ?_);refine gT ?_;(refine vV (by exact fs_geqF rfl rfl (by omega)) ?_)));(all_goals ((refine pV ?_);refine mV ?_));(all_goals (refine gK ?_));(all_goals (refine gT ?_;(refine mV ?_);refine gT ?_;(refine vV (by exact fs_gtrF rfl rfl (by omega)) ?_);refine gT ?_;(refine mV ?_)));(all_goals (refine gK ?_));(all_goals (iterate 8 refine gF ?_));(all_goals (refine gT ?_;(refine pV ?_)));(all_goals (refine pV ?_)))|(((refine rg 6 ?_));(all_goals (refine vV (by exact fs_addr rfl rfl (by omega) (by omega)) ?_;refine mV ?_)))|(refine nZ ?_))
        all_goals first | (exfalso;omega) | exact ⟨⟨k + 1,hlt,hnx⟩,by dsimp only;omega,[0,1],rfl,(by (repeat (first | exact trivial | refine ⟨rfl,?_⟩))),⟨.inr rfl,.inr rfl,trivial⟩,by decide,lt0 _⟩
    · have hf : deadB f s.dd k = false := by simpa using hd
      rw [allB_no hlt hf,Bool.false_and]
      unfold deadB at hd
      rw [decide_eq_true_eq] at hd
      generalize s.dd.getD k 0 = c at *
      generalize s.dd.getD (k - 1) 0 = c' at *
      by_cases d1 : 0 ≤ c
      · by_cases d2 : c < f.k.length
        · obtain ⟨h0,d3⟩ : 0 < k ∧ c ≤ c' := by
            by_cases h0 : 0 < k
            · refine ⟨h0,?_⟩
              by_cases h3 : c' < c
              · exact absurd ⟨d1,d2,fun _ => h3⟩ hd
              · omega
            · exact absurd ⟨d1,d2,fun h => absurd h h0⟩ hd
          have q0 := q0 h0
          repeat' (first|refine wS ?_|refine wB ?_|refine wK ?_|refine wR ?_|refine wT ?_|(refine rg 2 ?_;refine vV (by exact fs_lssT rfl rfl (by omega)) ?_)|(refine rg 3 ?_;refine mV ?_;refine vV (by exact ix T rfl (by omega) (ints_len s.dd) q1) ?_;refine lV T ?_;refine aaV ?_)|(refine rg 4 ?_;refine mV ?_;refine vV (by exact fs_lssF rfl rfl (by omega)) ?_;refine mV ?_;refine gK ?_;refine yM ?_;refine yF T ?_;refine yL T ?_;refine gT ?_;refine qV T ?_;refine yV (by exact fs_geqF rfl rfl (by omega)) ?_;refine pV ?_;refine mV ?_;refine gK ?_;refine yM ?_;refine yV (by exact fs_gtrT rfl rfl (by omega)) ?_;refine yM ?_;refine gK ?_;refine yM ?_;refine yF T ?_;refine yL T ?_;refine yM ?_;refine yV (by exact fs_subr rfl rfl (by omega) (by omega)) ?_;refine yV (by exact ix T rfl (by omega) (ints_len s.dd) q0) ?_;refine yL T ?_;refine yV (by exact fs_leqT rfl rfl (by omega)) ?_;refine gT ?_;refine pV ?_;refine pV ?_)|(refine rg 5 ?_;refine aV ?_)|refine nZ ?_)
          all_goals first | (exfalso;omega) | exact rQ
        · repeat' (first|refine wS ?_|refine wB ?_|refine wK ?_|refine wR ?_|refine aw_condt rfl ?_|(((refine rg 2 ?_));(all_goals (refine vV (by exact fs_lssT rfl rfl (by omega)) ?_)))|(((refine rg 3 ?_));(all_goals (refine mV ?_;refine vV (by exact ix T rfl (by omega) (ints_len s.dd) q1) ?_;refine lV T ?_;refine aV ?_;refine aV ?_)))|(((refine rg 4 ?_));(all_goals (refine mV ?_;refine vV (by exact fs_lssF rfl rfl (by omega)) ?_;refine mV ?_));(all_goals (refine gK ?_));(all_goals (refine gT ?_;(refine mV ?_);refine gT ?_;(refine fV T ?_);refine gT ?_;(refine lV T ?_);refine gT ?_;(refine qV T ?_);refine gT ?_;(refine vV (by exact fs_geqT rfl rfl (by omega)) ?_)));(all_goals ((refine pV ?_);refine mV ?_));(all_goals (refine gK ?_));(all_goals (iterate 3 refine gF ?_));(all_goals (refine gK ?_));(all_goals (iterate 8 refine gU ?_));(all_goals (refine gF ?_));(all_goals (refine pV ?_)))|(((refine rg 5 ?_));(all_goals (refine aV ?_)))|(refine nZ ?_))
          all_goals first | (exfalso;omega) | exact rQ
      · repeat' (first|refine wS ?_|refine wB ?_|refine wK ?_|refine wR ?_|refine aw_condt rfl ?_|(((refine rg 2 ?_));(all_goals (refine vV (by exact fs_lssT rfl rfl (by omega)) ?_)))|(((refine rg 3 ?_));(all_goals (refine mV ?_;refine vV (by exact ix T rfl (by omega) (ints_len s.dd) q1) ?_;refine lV T ?_;refine aV ?_;refine aV ?_)))|(((refine rg 4 ?_));(all_goals (refine mV ?_;refine vV (by exact fs_lssT rfl rfl (by omega)) ?_;refine mV ?_));(all_goals (refine gK ?_));(all_goals (iterate 5 refine gF ?_));(all_goals ((refine pV ?_);refine mV ?_));(all_goals (refine gK ?_));(all_goals (iterate 3 refine gF ?_));(all_goals (refine gK ?_));(all_goals (iterate 8 refine gU ?_));(all_goals (refine gF ?_));(all_goals (refine pV ?_)))|(((refine rg 5 ?_));(all_goals (refine aV ?_)))|(refine nZ ?_))
        all_goals first | (exfalso;omega) | exact rQ
  · obtain rfl : k = s.dd.length := by omega
    rw [allB_yes.2 hp,Bool.true_and]
    clear hk hp hlt
    repeat' (first|refine wS ?_|refine wB ?_|refine wE ?_|refine wU ?_|(refine rg 2 ?_;refine vV (by exact fs_lssF rfl rfl (by omega)) ?_)|(refine rg 7 ?_;refine flV T ?_;refine qV T ?_;refine mV ?_)|refine nZ ?_)
    all_goals try (exfalso;omega)
    refine aw_loop (X := {k : Nat // k ≤ s.sk.length ∧ ∀ j,j < k → stkB f s.sk j = true}) (fun k => [(2,.ptr 0 0),(3,.ptr 1 0),(42,.rowE (stksA s.sk) 2),(43,.i s.sk.length),(44,.i k.1)]) (fun _ => [AB.cells (floorC f),AB.cells (sttA s)]) (fun k => s.sk.length - k.1) ⟨0,by omega,fun j hj => absurd hj (Nat.not_lt_zero _)⟩ ⟨[0,1],rfl,⟨rfl,rfl,rfl,congrArg (fun n : Nat => some (AV.i n)) hsl,rfl,trivial⟩,⟨.inr rfl,.inr rfl,trivial⟩,by decide,lt0 _⟩ ?_
    rintro ⟨k,hk,hp⟩
    dsimp only
    by_cases hlt : k < s.sk.length
    · have q1 := stks_gI (l := s.sk) (j := (k : Int)) hlt rfl
      have q0 : 0 < k → (stksA s.sk)[((k : Int) - 1).toNat]? = some [AV.i (s.sk.getD (k - 1) (0,0)).1,AV.i (s.sk.getD (k - 1) (0,0)).2] := fun h0 => stks_gI (by omega) (by omega)
      have cO := on_c f (s.sk.getD k (0,0)).1 [6] (by simp)
      have cW := within_c (s.sk.getD k (0,0)).2 1 20000
      have hd0 : stkB f s.sk k = (onB f (s.sk.getD k (0,0)).1 [6] && withinB (s.sk.getD k (0,0)).2 1 20000 && decide (0 < k → (s.sk.getD (k - 1) (0,0)).1 < (s.sk.getD k (0,0)).1)) := rfl
      generalize onB f (s.sk.getD k (0,0)).1 [6] = o at *
      generalize withinB (s.sk.getD k (0,0)).2 1 20000 = v at *
      generalize (s.sk.getD k (0,0)).1 = c at *
      generalize (s.sk.getD k (0,0)).2 = c2 at *
      generalize (s.sk.getD (k - 1) (0,0)).1 = p at *
      generalize (s.sk.getD (k - 1) (0,0)).2 = p2 at *
      by_cases hd : stkB f s.sk k = true
      · have hnx : ∀ j,j < k + 1 → stkB f s.sk j = true := fun j hj => by
          by_cases e : j = k
          · rw [e];exact hd
          · exact hp j (by omega)
        rw [hd0] at hd
        simp only [Bool.and_eq_true,decide_eq_true_eq] at hd
        obtain ⟨⟨rfl,rfl⟩,d3⟩ := hd
        by_cases h0 : 0 < k
        · have q0 := q0 h0
          have d3 := d3 h0
          repeat' (first|refine wS ?_|refine wB ?_|refine wK ?_|refine wT ?_|refine wU ?_|(refine rg 8 ?_;refine vV (by exact fs_lssT rfl rfl (by omega)) ?_)|(refine rg 9 ?_;refine mV ?_;refine vV (by exact ix T rfl (by omega) (stks_len s.sk) q1) ?_;refine lV T ?_;refine vc_n (by exact fs_alloc T rfl) rfl ?_;refine aV ?_;refine vc_store T rfl rfl rfl rfl rfl rfl (by decide) rfl ?_)|(refine aw_draw2k (id := 10) 78 [[],[],[1],[],[0,1,2,3],[0,1,2,3,4],[0,1,2,3,4,5],[0,1,2,3,4,5,6],[0,1,2,3,4,5,6,7],[0,1,2,3,4,5,6,7,8],[0,1,2,3,4,5,6,7,8,9],[0,1,2,3,4,5,6,7,8,9,10],[0,1,2,3,4,5,6,7,8,9,10,11],[0,1,2,3,4,5,6,7,8,9,10,11,12],[0,1,2,3,4,5,6,7,8,9,10,11,12,13],[0,1,2,3,4,5,6,7,8,9,10,11,12,13,14],[0,1,2,3,4,5,6,7,8,9,10,11,12,13,14,15],[0,1,2,3,4,5,6,7,8,9,10,11,12,13,14,15,16],[0,1,2,3,4,5,6,7,8,9,10,11,12,13,14,15],[0,1,2,3,4,5,6,7,8,9,10,11,12,13,14,15,18],[0,1,2,3,4,5,6,7,8,9,10,11,12,13,14,15],[0,1,2,3,4,5,6,7,8,9,10,11,12,13,14,15,20],[0,1,2,3,4,5,6,7,8,9,10,11,12,13,14,15,18,19,20,21],[0,1,2,3,4,5,6,7,8,9,10,11,12,13,14,15,18,19,20,21,22],[0,1,2,3,4,5,6,7,8,9,10,11,12,13,14,15,18,19,20,21,22,23],[0,1,2,3,4,5,6,7,8,9,10,11,12,13,14,15,16,17,18,19,20,21,22,23,24],[0,1,2,3,4,5,6,7,8,9,10,11,12,13,14,15,16,17,18,19,20,21,22,23,24,25],[0,1,2,3,4,5,6,7,8,9,10,11,12,13,14,15,16,17,18,19,20,21,22,23,24,25,26]] [49,50,51,52,53,54,55,56,57,58,59,60,61,62,63,64,65,66,67,68,69,70,71,72,73,74,75,76] [[],[49],[49],[49,50,51],[],[],[],[],[],[],[],[],[],[],[],[],[],[],[65,66],[65,66],[65,66,67,68],[65,66,67,68],[65,66],[65,66],[65,66],[],[],[]] mixedP rfl (by decide +kernel) ?_;refine dL T ?_;refine dF T ?_;refine dL T ?_;refine dw_n rfl rfl rfl (by exact fs_buildSlice T rfl rfl (by decide) (by decide) rfl rfl rfl) rfl ?_;refine dV rfl (by exact fs_callb0 rfl rfl cO (.cons (.agg (.cons (.v _) (.cons (.v _) (.cons (.v _) (.cons (.row _ _ _) (.cons (.row _ _ _) .nil)))))) (.cons (.v _) (.cons (view_ints rfl rfl) .nil))) rfl rfl) ?_;refine dV rfl (by exact fs_not rfl) ?_;refine dM ?_;refine tF T ?_;refine tL T ?_;refine dT rfl (by exact kC (cW)) ?_;refine dT rfl (by exact fs_not rfl) ?_;refine dV rfl (by exact fs_pickf rfl rfl) ?_;refine dM ?_;refine tM ?_;refine dT rfl (by exact fs_gtrT rfl rfl (by omega)) ?_;refine tM ?_;refine tF T ?_;refine tL T ?_;refine tF T ?_;refine tL T ?_;refine tM ?_;refine dT rfl (by exact fs_subr rfl rfl (by omega) (by omega)) ?_;refine dT rfl (by exact ix T rfl (by omega) (stks_len s.sk) q0) ?_;refine tF T ?_;refine tL T ?_;refine dT rfl (by exact fs_leqF rfl rfl (by omega)) ?_;refine dT rfl (by exact fs_pickt rfl rfl) ?_;refine dV rfl (by exact fs_pickf rfl rfl) ?_;refine dw_fin rfl rfl (by ((dsimp only [ln1,ln2,List.append_nil,ln4,ln5,ln6,ln7,ln8,ln9,putAt,putd,allObjs,argEnv,un_v,un_ptr,un_ep,un_pr,un_sl,un_mp,un_row,un_agg,un_tup,un_clo,Nat.zero_add,lnb,Nat.reduceAdd,lnc,lnd];done))) ?_)|(refine rg 12 ?_;refine vV (by exact fs_addr rfl rfl (by omega) (by omega)) ?_;refine mV ?_)|refine nZ ?_)
          all_goals first | (exfalso;omega) | exact ⟨⟨k + 1,hlt,hnx⟩,by dsimp only;omega,[0,1],rfl,(by (repeat (first | exact trivial | refine ⟨rfl,?_⟩))),⟨.inr rfl,.inr rfl,trivial⟩,by decide,lt0 _⟩
        · repeat' (first|refine wS ?_|refine wB ?_|refine wK ?_|refine aw_condt rfl ?_|refine aw_condf rfl ?_|(((refine rg 8 ?_));(all_goals (refine vV (by exact fs_lssT rfl rfl (by omega)) ?_)))|(((refine rg 9 ?_));(all_goals (refine mV ?_;refine vV (by exact ix T rfl (by omega) (stks_len s.sk) q1) ?_;refine lV T ?_;refine vc_n (by exact fs_alloc T rfl) rfl ?_;refine aV ?_;refine vc_store T rfl rfl rfl rfl rfl rfl (by decide) rfl ?_)))|(refine aw_draw2k (id := 10) 78 [[],[],[1],[],[0,1,2,3],[0,1,2,3,4],[0,1,2,3,4,5],[0,1,2,3,4,5,6],[0,1,2,3,4,5,6,7],[0,1,2,3,4,5,6,7,8],[0,1,2,3,4,5,6,7,8,9],[0,1,2,3,4,5,6,7,8,9,10],[0,1,2,3,4,5,6,7,8,9,10,11],[0,1,2,3,4,5,6,7,8,9,10,11,12],[0,1,2,3,4,5,6,7,8,9,10,11,12,13],[0,1,2,3,4,5,6,7,8,9,10,11,12,13,14],[0,1,2,3,4,5,6,7,8,9,10,11,12,13,14,15],[0,1,2,3,4,5,6,7,8,9,10,11,12,13,14,15,16],[0,1,2,3,4,5,6,7,8,9,10,11,12,13,14,15],[0,1,2,3,4,5,6,7,8,9,10,11,12,13,14,15,18],[0,1,2,3,4,5,6,7,8,9,10,11,12,13,14,15],[0,1,2,3,4,5,6,7,8,9,10,11,12,13,14,15,20],[0,1,2,3,4,5,6,7,8,9,10,11,12,13,14,15,18,19,20,21],[0,1,2,3,4,5,6,7,8,9,10,11,12,13,14,15,18,19,20,21,22],[0,1,2,3,4,5,6,7,8,9,10,11,12,13,14,15,18,19,20,21,22,23],[0,1,2,3,4,5,6,7,8,9,10,11,12,13,14,15,16,17,18,19,20,21,22,23,24],[0,1,2,3,4,5,6,7,8,9,10,11,12,13,14,15,16,17,18,19,20,21,22,23,24,25],[0,1,2,3,4,5,6,7,8,9,10,11,12,13,14,15,16,17,18,19,20,21,22,23,24,25,26]] [49,50,51,52,53,54,55,56,57,58,59,60,61,62,63,64,65,66,67,68,69,70,71,72,73,74,75,76] [[],[49],[49],[49,50,51],[],[],[],[],[],[],[],[],[],[],[],[],[],[],[65,66],[65,66],[65,66,67,68],[65,66,67,68],[65,66],[65,66],[65,66],[],[],[]] mixedP rfl (by decide +kernel) ?_;refine dL T ?_;refine dF T ?_;refine dL T ?_;refine dw_n rfl rfl rfl (by exact fs_buildSlice T rfl rfl (by decide) (by decide) rfl rfl rfl) rfl ?_;refine dV rfl (by exact fs_callb0 rfl rfl cO (.cons (.agg (.cons (.v _) (.cons (.v _) (.cons (.v _) (.cons (.row _ _ _) (.cons (.row _ _ _) .nil)))))) (.cons (.v _) (.cons (view_ints rfl rfl) .nil))) rfl rfl) ?_;refine dV rfl (by exact fs_not rfl) ?_;refine dM ?_;refine tF T ?_;refine tL T ?_;refine dT rfl (by exact kC (cW)) ?_;refine dT rfl (by exact fs_not rfl) ?_;refine dV rfl (by exact fs_pickf rfl rfl) ?_;refine dM ?_;refine tM ?_;refine dT rfl (by exact fs_gtrF rfl rfl (by omega)) ?_;refine tM ?_;refine dG ?_;refine dG ?_;refine dG ?_;refine dG ?_;refine dG ?_;refine dG ?_;refine dG ?_;refine dG ?_;refine dG ?_;refine dG ?_;refine dT rfl (by exact fs_pickf rfl rfl) ?_;refine dV rfl (by exact fs_pickf rfl rfl) ?_;refine dw_fin rfl rfl (by ((dsimp only [ln1,ln2,List.append_nil,ln4,ln5,ln6,ln7,ln8,ln9,putAt,putd,allObjs,argEnv,un_v,un_ptr,un_ep,un_pr,un_sl,un_mp,un_row,un_agg,un_tup,un_clo,Nat.zero_add,lnb,Nat.reduceAdd,lnc,lnd];done))) ?_)|(((refine rg 12 ?_));(all_goals (refine vV (by exact fs_addr rfl rfl (by omega) (by omega)) ?_;refine mV ?_)))|(refine nZ ?_))
          all_goals first | (exfalso;omega) | exact ⟨⟨k + 1,hlt,hnx⟩,by dsimp only;omega,[0,1],rfl,(by (repeat (first | exact trivial | refine ⟨rfl,?_⟩))),⟨.inr rfl,.inr rfl,trivial⟩,by decide,lt0 _⟩
      · have hf : stkB f s.sk k = false := by simpa using hd
        rw [allB_no hlt hf]
        rw [hd0] at hd
        simp only [Bool.and_eq_true,decide_eq_true_eq] at hd
        cases o with
        | false =>
          repeat' (first|refine wS ?_|refine wB ?_|refine wK ?_|refine wR ?_|refine wT ?_|(refine rg 8 ?_;refine vV (by exact fs_lssT rfl rfl (by omega)) ?_)|(refine rg 9 ?_;refine mV ?_;refine vV (by exact ix T rfl (by omega) (stks_len s.sk) q1) ?_;refine lV T ?_;refine vc_n (by exact fs_alloc T rfl) rfl ?_;refine aV ?_;refine vc_store T rfl rfl rfl rfl rfl rfl (by decide) rfl ?_)|(refine aw_draw2k (id := 10) 78 [[],[],[1],[],[0,1,2,3],[0,1,2,3,4],[0,1,2,3,4,5],[0,1,2,3,4,5,6],[0,1,2,3,4,5,6,7],[0,1,2,3,4,5,6,7,8],[0,1,2,3,4,5,6,7,8,9],[0,1,2,3,4,5,6,7,8,9,10],[0,1,2,3,4,5,6,7,8,9,10,11],[0,1,2,3,4,5,6,7,8,9,10,11,12],[0,1,2,3,4,5,6,7,8,9,10,11,12,13],[0,1,2,3,4,5,6,7,8,9,10,11,12,13,14],[0,1,2,3,4,5,6,7,8,9,10,11,12,13,14,15],[0,1,2,3,4,5,6,7,8,9,10,11,12,13,14,15,16],[0,1,2,3,4,5,6,7,8,9,10,11,12,13,14,15],[0,1,2,3,4,5,6,7,8,9,10,11,12,13,14,15,18],[0,1,2,3,4,5,6,7,8,9,10,11,12,13,14,15],[0,1,2,3,4,5,6,7,8,9,10,11,12,13,14,15,20],[0,1,2,3,4,5,6,7,8,9,10,11,12,13,14,15,18,19,20,21],[0,1,2,3,4,5,6,7,8,9,10,11,12,13,14,15,18,19,20,21,22],[0,1,2,3,4,5,6,7,8,9,10,11,12,13,14,15,18,19,20,21,22,23],[0,1,2,3,4,5,6,7,8,9,10,11,12,13,14,15,16,17,18,19,20,21,22,23,24],[0,1,2,3,4,5,6,7,8,9,10,11,12,13,14,15,16,17,18,19,20,21,22,23,24,25],[0,1,2,3,4,5,6,7,8,9,10,11,12,13,14,15,16,17,18,19,20,21,22,23,24,25,26]] [49,50,51,52,53,54,55,56,57,58,59,60,61,62,63,64,65,66,67,68,69,70,71,72,73,74,75,76] [[],[49],[49],[49,50,51],[],[],[],[],[],[],[],[],[],[],[],[],[],[],[65,66],[65,66],[65,66,67,68],[65,66,67,68],[65,66],[65,66],[65,66],[],[],[]] mixedP rfl (by decide +kernel) ?_;refine dL T ?_;refine dF T ?_;refine dL T ?_;refine dw_n rfl rfl rfl (by exact fs_buildSlice T rfl rfl (by decide) (by decide) rfl rfl rfl) rfl ?_;refine dV rfl (by exact fs_callb0 rfl rfl cO (.cons (.agg (.cons (.v _) (.cons (.v _) (.cons (.v _) (.cons (.row _ _ _) (.cons (.row _ _ _) .nil)))))) (.cons (.v _) (.cons (view_ints rfl rfl) .nil))) rfl rfl) ?_;refine dV rfl (by exact fs_not rfl) ?_;refine dM ?_;refine dG ?_;refine dG ?_;refine dG ?_;refine dG ?_;refine dV rfl (by exact fs_pickt rfl rfl) ?_;refine dM ?_;refine dG ?_;refine dG ?_;refine dG ?_;refine dH ?_;refine dH ?_;refine dH ?_;refine dH ?_;refine dH ?_;refine dH ?_;refine dH ?_;refine dH ?_;refine dH ?_;refine dH ?_;refine dG ?_;refine dV rfl (by exact fs_pickt rfl rfl) ?_;refine dw_fin rfl rfl (by ((dsimp only [ln1,ln2,List.append_nil,ln4,ln5,ln6,ln7,ln8,ln9,putAt,putd,allObjs,argEnv,un_v,un_ptr,un_ep,un_pr,un_sl,un_mp,un_row,un_agg,un_tup,un_clo,Nat.zero_add,lnb,Nat.reduceAdd,lnc,lnd];done))) ?_)|(refine rg 11 ?_;refine aV ?_)|refine nZ ?_)
          all_goals first | (exfalso;omega) | exact rQ
        | true =>
          cases v with
          | false =>
            repeat' (first|refine wS ?_|refine wB ?_|refine wK ?_|refine wR ?_|refine wT ?_|(refine rg 8 ?_;refine vV (by exact fs_lssT rfl rfl (by omega)) ?_)|(refine rg 9 ?_;refine mV ?_;refine vV (by exact ix T rfl (by omega) (stks_len s.sk) q1) ?_;refine lV T ?_;refine vc_n (by exact fs_alloc T rfl) rfl ?_;refine aV ?_;refine vc_store T rfl rfl rfl rfl rfl rfl (by decide) rfl ?_)|(refine aw_draw2k (id := 10) 78 [[],[],[1],[],[0,1,2,3],[0,1,2,3,4],[0,1,2,3,4,5],[0,1,2,3,4,5,6],[0,1,2,3,4,5,6,7],[0,1,2,3,4,5,6,7,8],[0,1,2,3,4,5,6,7,8,9],[0,1,2,3,4,5,6,7,8,9,10],[0,1,2,3,4,5,6,7,8,9,10,11],[0,1,2,3,4,5,6,7,8,9,10,11,12],[0,1,2,3,4,5,6,7,8,9,10,11,12,13],[0,1,2,3,4,5,6,7,8,9,10,11,12,13,14],[0,1,2,3,4,5,6,7,8,9,10,11,12,13,14,15],[0,1,2,3,4,5,6,7,8,9,10,11,12,13,14,15,16],[0,1,2,3,4,5,6,7,8,9,10,11,12,13,14,15],[0,1,2,3,4,5,6,7,8,9,10,11,12,13,14,15,18],[0,1,2,3,4,5,6,7,8,9,10,11,12,13,14,15],[0,1,2,3,4,5,6,7,8,9,10,11,12,13,14,15,20],[0,1,2,3,4,5,6,7,8,9,10,11,12,13,14,15,18,19,20,21],[0,1,2,3,4,5,6,7,8,9,10,11,12,13,14,15,18,19,20,21,22],[0,1,2,3,4,5,6,7,8,9,10,11,12,13,14,15,18,19,20,21,22,23],[0,1,2,3,4,5,6,7,8,9,10,11,12,13,14,15,16,17,18,19,20,21,22,23,24],[0,1,2,3,4,5,6,7,8,9,10,11,12,13,14,15,16,17,18,19,20,21,22,23,24,25],[0,1,2,3,4,5,6,7,8,9,10,11,12,13,14,15,16,17,18,19,20,21,22,23,24,25,26]] [49,50,51,52,53,54,55,56,57,58,59,60,61,62,63,64,65,66,67,68,69,70,71,72,73,74,75,76] [[],[49],[49],[49,50,51],[],[],[],[],[],[],[],[],[],[],[],[],[],[],[65,66],[65,66],[65,66,67,68],[65,66,67,68],[65,66],[65,66],[65,66],[],[],[]] mixedP rfl (by decide +kernel) ?_;refine dL T ?_;refine dF T ?_;refine dL T ?_;refine dw_n rfl rfl rfl (by exact fs_buildSlice T rfl rfl (by decide) (by decide) rfl rfl rfl) rfl ?_;refine dV rfl (by exact fs_callb0 rfl rfl cO (.cons (.agg (.cons (.v _) (.cons (.v _) (.cons (.v _) (.cons (.row _ _ _) (.cons (.row _ _ _) .nil)))))) (.cons (.v _) (.cons (view_ints rfl rfl) .nil))) rfl rfl) ?_;refine dV rfl (by exact fs_not rfl) ?_;refine dM ?_;refine tF T ?_;refine tL T ?_;refine dT rfl (by exact kC (cW)) ?_;refine dT rfl (by exact fs_not rfl) ?_;refine dV rfl (by exact fs_pickf rfl rfl) ?_;refine dM ?_;refine dG ?_;refine dG ?_;refine dG ?_;refine dH ?_;refine dH ?_;refine dH ?_;refine dH ?_;refine dH ?_;refine dH ?_;refine dH ?_;refine dH ?_;refine dH ?_;refine dH ?_;refine dG ?_;refine dV rfl (by exact fs_pickt rfl rfl) ?_;refine dw_fin rfl rfl (by ((dsimp only [ln1,ln2,List.append_nil,ln4,ln5,ln6,ln7,ln8,ln9,putAt,putd,allObjs,argEnv,un_v,un_ptr,un_ep,un_pr,un_sl,un_mp,un_row,un_agg,un_tup,un_clo,Nat.zero_add,lnb,Nat.reduceAdd,lnc,lnd];done))) ?_)|(refine rg 11 ?_;refine aV ?_)|refine nZ ?_)
            all_goals first | (exfalso;omega) | exact rQ
          | true =>
            obtain ⟨h0,d3⟩ : 0 < k ∧ c ≤ p := by
              by_cases h0 : 0 < k
              · refine ⟨h0,?_⟩
                by_cases h3 : p < c
                · exact absurd ⟨⟨rfl,rfl⟩,fun _ => h3⟩ hd
                · omega
              · exact absurd ⟨⟨rfl,rfl⟩,fun h => absurd h h0⟩ hd
            have q0 := q0 h0
            repeat' (first|refine wS ?_|refine wB ?_|refine wK ?_|refine wR ?_|refine wT ?_|(refine rg 8 ?_;refine vV (by exact fs_lssT rfl rfl (by omega)) ?_)|(refine rg 9 ?_;refine mV ?_;refine vV (by exact ix T rfl (by omega) (stks_len s.sk) q1) ?_;refine lV T ?_;refine vc_n (by exact fs_alloc T rfl) rfl ?_;refine aV ?_;refine vc_store T rfl rfl rfl rfl rfl rfl (by decide) rfl ?_)|(refine aw_draw2k (id := 10) 78 [[],[],[1],[],[0,1,2,3],[0,1,2,3,4],[0,1,2,3,4,5],[0,1,2,3,4,5,6],[0,1,2,3,4,5,6,7],[0,1,2,3,4,5,6,7,8],[0,1,2,3,4,5,6,7,8,9],[0,1,2,3,4,5,6,7,8,9,10],[0,1,2,3,4,5,6,7,8,9,10,11],[0,1,2,3,4,5,6,7,8,9,10,11,12],[0,1,2,3,4,5,6,7,8,9,10,11,12,13],[0,1,2,3,4,5,6,7,8,9,10,11,12,13,14],[0,1,2,3,4,5,6,7,8,9,10,11,12,13,14,15],[0,1,2,3,4,5,6,7,8,9,10,11,12,13,14,15,16],[0,1,2,3,4,5,6,7,8,9,10,11,12,13,14,15],[0,1,2,3,4,5,6,7,8,9,10,11,12,13,14,15,18],[0,1,2,3,4,5,6,7,8,9,10,11,12,13,14,15],[0,1,2,3,4,5,6,7,8,9,10,11,12,13,14,15,20],[0,1,2,3,4,5,6,7,8,9,10,11,12,13,14,15,18,19,20,21],[0,1,2,3,4,5,6,7,8,9,10,11,12,13,14,15,18,19,20,21,22],[0,1,2,3,4,5,6,7,8,9,10,11,12,13,14,15,18,19,20,21,22,23],[0,1,2,3,4,5,6,7,8,9,10,11,12,13,14,15,16,17,18,19,20,21,22,23,24],[0,1,2,3,4,5,6,7,8,9,10,11,12,13,14,15,16,17,18,19,20,21,22,23,24,25],[0,1,2,3,4,5,6,7,8,9,10,11,12,13,14,15,16,17,18,19,20,21,22,23,24,25,26]] [49,50,51,52,53,54,55,56,57,58,59,60,61,62,63,64,65,66,67,68,69,70,71,72,73,74,75,76] [[],[49],[49],[49,50,51],[],[],[],[],[],[],[],[],[],[],[],[],[],[],[65,66],[65,66],[65,66,67,68],[65,66,67,68],[65,66],[65,66],[65,66],[],[],[]] mixedP rfl (by decide +kernel) ?_;refine dL T ?_;refine dF T ?_;refine dL T ?_;refine dw_n rfl rfl rfl (by exact fs_buildSlice T rfl rfl (by decide) (by decide) rfl rfl rfl) rfl ?_;refine dV rfl (by exact fs_callb0 rfl rfl cO (.cons (.agg (.cons (.v _) (.cons (.v _) (.cons (.v _) (.cons (.row _ _ _) (.cons (.row _ _ _) .nil)))))) (.cons (.v _) (.cons (view_ints rfl rfl) .nil))) rfl rfl) ?_;refine dV rfl (by exact fs_not rfl) ?_;refine dM ?_;refine tF T ?_;refine tL T ?_;refine dT rfl (by exact kC (cW)) ?_;refine dT rfl (by exact fs_not rfl) ?_;refine dV rfl (by exact fs_pickf rfl rfl) ?_;refine dM ?_;refine tM ?_;refine dT rfl (by exact fs_gtrT rfl rfl (by omega)) ?_;refine tM ?_;refine tF T ?_;refine tL T ?_;refine tF T ?_;refine tL T ?_;refine tM ?_;refine dT rfl (by exact fs_subr rfl rfl (by omega) (by omega)) ?_;refine dT rfl (by exact ix T rfl (by omega) (stks_len s.sk) q0) ?_;refine tF T ?_;refine tL T ?_;refine dT rfl (by exact fs_leqT rfl rfl (by omega)) ?_;refine dT rfl (by exact fs_pickt rfl rfl) ?_;refine dV rfl (by exact fs_pickf rfl rfl) ?_;refine dw_fin rfl rfl (by ((dsimp only [ln1,ln2,List.append_nil,ln4,ln5,ln6,ln7,ln8,ln9,putAt,putd,allObjs,argEnv,un_v,un_ptr,un_ep,un_pr,un_sl,un_mp,un_row,un_agg,un_tup,un_clo,Nat.zero_add,lnb,Nat.reduceAdd,lnc,lnd];done))) ?_)|(refine rg 11 ?_;refine aV ?_)|refine nZ ?_)
            all_goals first | (exfalso;omega) | exact rQ
    · obtain rfl : k = s.sk.length := by omega
      rw [allB_yes.2 hp]
      repeat' (first|refine wS ?_|refine wR ?_|refine wE ?_|refine wU ?_|(refine rg 8 ?_;refine vV (by exact fs_lssF rfl rfl (by omega)) ?_)|(refine rg 13 ?_;refine aV ?_)|refine nZ ?_)
      all_goals first | (exfalso;omega) | exact rQ
end Go.Proofs.YtdmajnjoeidgeaaGreat
namespace Go.Ab
open Go
mutual
def AV.pln : AV → Bool
  | .v _ => true
  | .any => true
  | .row .. => true
  | .mrow .. => true
  | .pr .. => true
  | .agg cs => AV.plnL cs
  | _ => false
def AV.plnL : List AV → Bool
  | [] => true
  | x :: l => AV.pln x && AV.plnL l
end
mutual
theorem view_self {h : Hp} : ∀ (x : AV), x.pln = true → View h x x
  | .v x,_ => .v x
  | .any,_ => .any
  | .row cs l s,_ => .row cs l s
  | .mrow ks vs,_ => .mrow ks vs
  | .pr cs o,_ => .pr cs o
  | .agg cs,e => .agg (viewL_self cs (by simpa [AV.pln] using e))
  | .ptr ..,e | .ep ..,e | .sl ..,e | .mp ..,e | .tup ..,e | .clo ..,e | .cond ..,e | .ifc ..,e => by simp [AV.pln] at e
theorem viewL_self {h : Hp} : ∀ (xs : List AV), AV.plnL xs = true → ViewL h xs xs
  | [],_ => .nil
  | x :: l,e => by
    simp only [AV.plnL,Bool.and_eq_true] at e
    exact .cons (view_self x e.1) (viewL_self l e.2)
end
theorem plnL_append : ∀ (a b : List AV), AV.plnL (a ++ b) = (AV.plnL a && AV.plnL b)
  | [],b => by simp [AV.plnL]
  | x :: a,b => by simp [AV.plnL,plnL_append a b,Bool.and_assoc]
theorem pln_flat {α : Type} {g : α → List AV} (hg : ∀ a, AV.plnL (g a) = true) : ∀ l : List α, AV.plnL (l.map g).flatten = true
  | [] => rfl
  | a :: l => by rw [List.map_cons,List.flatten_cons,plnL_append,hg a,pln_flat hg l];rfl
theorem view_rows {h : Hp} {k n sz : Nat} {es : List (List AV)} (hk : h[k]? = some (.arr es sz)) (hn : n = es.length) (hp : AV.plnL es.flatten = true) : View h (.sl k 0 n sz) (.rowE es sz) := by
  subst hn
  refine View.sl hk (by omega) ?_
  rw [List.drop_zero,List.take_length]
  exact viewL_self _ hp
def strFields (P : Program) : Nat → List Field → Bool
  | _,[] => true
  | i, f :: r => decide (f.name ≠ "_") && Nat.beq f.offset i && (match P.underlying f.type with | some .string => P.plainKey f.type | _ => false) && strFields P (i + 1) r
def StrStruct (P : Program) (t : TypeId) (n : Nat) : Prop := (match P.underlying t with
  | some (.struct fs) => Nat.beq fs.size n && strFields P 0 fs.toList && !P.stoodInHeld t && !P.eqGuardType P.depth t
  | _ => false) = true
theorem bytes_toList (l : List UInt8) : (ByteArray.mk l.toArray).toList = l := by simp
section
variable {P : Program} {env : Env} {h : Hp}
variable {d : Option Nat} {ty : TypeId} {pos : String} {af : Array Edge} {g : Option (Nat × Bool)}
theorem eq_fieldsS (w : World) (dd : Nat) : ∀ (fs : List Field) (i : Nat) (xs ys : Array Value) (us bs : List (List UInt8)),strFields P i fs = true → fs.length = us.length → us.length = bs.length → (∀ (j : Nat) a,us[j]? = some a → xs[i + j]? = some (.string ⟨a.toArray⟩)) → (∀ (j : Nat) b,bs[j]? = some b → ys[i + j]? = some (.string ⟨b.toArray⟩)) →
    (Op.eqFields (dd + 1) xs ys fs).run P w = .ok (decide (us = bs)) w
  | [],i,xs,ys,us,bs,_,h1,h2,_,_ => by
    have : us = [] := List.eq_nil_of_length_eq_zero (by simpa using h1.symm)
    subst this
    have : bs = [] := List.eq_nil_of_length_eq_zero (by simpa using h2.symm)
    subst this
    simp [Op.eqFields]
  | f :: r,i,xs,ys,a :: us,b :: bs,hf,h1,h2,hx,hy => by
    simp only [strFields,Bool.and_eq_true,decide_eq_true_eq] at hf
    obtain ⟨⟨⟨h3,h4⟩,h5⟩,h6⟩ := hf
    have h4 := Nat.eq_of_beq_eq_true h4
    split at h5
    case h_2 => cases h5
    rename_i hu
    have x0 := hx 0 a rfl
    have y0 := hy 0 b rfl
    rw [Nat.add_zero,← h4] at x0 y0
    have ih := eq_fieldsS w dd r (i + 1) xs ys us bs h6 (by simpa using h1) (by simpa using h2) (fun j u hj => by rw [Nat.add_assoc,Nat.add_comm 1 j];exact hx (j + 1) u (by simpa using hj)) (fun j u hj => by rw [Nat.add_assoc,Nat.add_comm 1 j];exact hy (j + 1) u (by simpa using hj))
    simp only [Op.eqFields,h3,ne_eq,not_false_eq_true,if_true,Sem.run_bind,run_part_plain w h5 x0,run_part_plain w h5 y0,Result.andThen_ok,run_equalIn_string w dd f.type _ _ hu,bytes_toList]
    by_cases hab : a = b
    · subst hab
      simp [ih]
    · have : (a == b) = false := by simpa using hab
      simp [this,hab]
  | f :: r,_,_,_,[],_,_,h1,_,_,_ => by simp at h1
  | f :: r,_,_,_,a :: us,[],_,_,h2,_,_ => by simp at h2
theorem vs_ofS {S : Nat → Prop} {w : World} {ρ : Pl} : ∀ {us : List (List UInt8)} {ys : List Value}, RL S w (us.map fun a => AV.s a) ρ ys → ys = us.map fun a => .string ⟨a.toArray⟩
  | [],_,h => by simpa [RL] using h
  | a :: us,_,h => by
    simp only [List.map_cons,RL] at h
    obtain ⟨y,zs,rfl,h1,h2⟩ := h
    rw [R_v h1,vs_ofS h2];rfl
theorem fs_eqlStrs {t t2 : TypeId} {n : Nat} {x y : Operand} {us bs : List (List UInt8)} (ht : StrStruct P t n) (hx : evu env x = some (.agg (us.map fun a => AV.s a))) (hy : evu env y = some (.agg (bs.map fun a => AV.s a))) (h1 : Nat.beq us.length n = true) (h2 : Nat.beq bs.length n = true) :
    FStep P ⟨d,.binOp .eql t x y t2,ty,pos,af,g⟩ env h 0 (fun _ => .b (decide (us = bs))) (fun _ => []) := by
  refine fs_val fun ρ S a w p => ⟨.bool (decide (us = bs)),?_,R_v_mk _⟩
  have h3 := p.evu hx
  have h4 := p.evu hy
  simp only [R] at h3 h4
  obtain ⟨xs,e1,h3⟩ := h3
  obtain ⟨ys,e2,h4⟩ := h4
  have h3 := vs_ofS h3
  have h4 := vs_ofS h4
  have h1 := Nat.eq_of_beq_eq_true h1
  have h2 := Nat.eq_of_beq_eq_true h2
  unfold StrStruct at ht
  split at ht
  case h_2 => cases ht
  rename_i fs hu
  simp only [Bool.and_eq_true,Bool.not_eq_true'] at ht
  obtain ⟨⟨⟨h5,h6⟩,h7⟩,h8⟩ := ht
  have h5 := Nat.eq_of_beq_eq_true h5
  have hfo : P.fieldsOf t = fs := by simp [Program.fieldsOf,hu]
  have hx2 : ∀ (j : Nat) a,us[j]? = some a → xs[0 + j]? = some (.string ⟨a.toArray⟩) := fun j a ha => by rw [Nat.zero_add,← Array.getElem?_toList,h3];simp [ha]
  have hy2 : ∀ (j : Nat) a,bs[j]? = some a → ys[0 + j]? = some (.string ⟨a.toArray⟩) := fun j a ha => by rw [Nat.zero_add,← Array.getElem?_toList,h4];simp [ha]
  have key := eq_fieldsS w 9998 fs.toList 0 xs ys us bs h6 (by simp;omega) (by omega) hx2 hy2
  have he : (Op.equalIn 10000 t (.agg xs) (.agg ys)).run P w = .ok (decide (us = bs)) w := by
    rw [run_equalIn_struct w 9999 t xs ys (by rw [hfo];exact hu) h7,hfo];exact key
  simp [execOp,e1,e2,run_eqGuard_agg w .eql t x y xs ys h8,run_eql_struct,he]
theorem fs_eqlSS {t t2 : TypeId} {x y : Operand} {a b a' b' : List UInt8} (ht : StrStruct P t 2) (hx : evu env x = some (.agg [AV.s a,AV.s b])) (hy : evu env y = some (.agg [AV.s a',AV.s b'])) :
    FStep P ⟨d,.binOp .eql t x y t2,ty,pos,af,g⟩ env h 0 (fun _ => .b (decide ((a,b) = (a',b')))) (fun _ => []) := by
  have e : decide ((a,b) = (a',b')) = decide ([a,b] = [a',b']) := by simp
  rw [e]
  exact fs_eqlStrs (us := [a,b]) (bs := [a',b']) ht hx hy rfl rfl
end
end Go.Ab
namespace Go.Proofs.YtdmajnjoeidgeaaGreat
open Go Go.Ab Go.Fl Go.Shelf Go.Proofs Go.MapKept
attribute [local irreducible] VC AW FStep ACall PCall StrStruct StrT
set_option maxHeartbeats 4000000
shelf_lay Lays.n137 Nm 137 at Tryz as laysIdx
theorem acall_kept {P : Program} {f : FuncId} {xs : List AV} {res : AV} (hfn : ∃ fn, P.funcs[f]? = some fn ∧ (fn.name == "runtime.NumGoroutine") = false ∧ fn.body.isNone = false)
    (hs : ∀ (ρ : Pl) S w vs,GlobOk S w → RL S w xs ρ vs → Calls P f vs.toArray w fun e w' => ∃ y,e = .returned y ∧ RowKit.Below w.heap.size w w' ∧ ∀ S' ρ',R S' w' res ρ' y) : ACall P f xs [] res [] := by
  with_unfolding_all exact ⟨hfn,fun ρ S w vs s ha => (hs ρ S w vs s.glob ha).mono fun e w' ⟨y,he,hb,hR⟩ => ⟨y,ρ,S,he,s.kept (ext_below hb),hR S ρ⟩⟩
theorem idx_c (l : List UInt8) (e : UInt8) : ACall Tryz.prog 97 [.s l,.v (.int .u8 e.toNat)] [] (.i (Lib.indexByte l e)) [] :=
  acall_kept ⟨_,Tryz.func97,by kernel_rfl,by kernel_rfl⟩ fun ρ S w vs _ ha => by
    simp only [RL,R] at ha
    obtain ⟨y,ys,rfl,rfl,z,zs,rfl,rfl,rfl⟩ := ha
    refine (Any.strings_IndexByte laysIdx ⟨l.toArray⟩ (e.toNat : Int) w).mono fun e' w' ⟨h1,h2⟩ => ⟨_,h1,by rw [h2];exact RowKit.Below.refl _ _,fun S' ρ' => ?_⟩
    simp [R]
theorem strT : StrT Tryz.prog 9 := by unfold StrT;kernel_rfl
abbrev anyB : AV → Hp → Prop := fun r o => o = [] ∧ ∃ b,r = .b b
abbrev anyI : AV → Hp → Prop := fun r o => o = [] ∧ ∃ n,r = .i n
theorem get_s {s : List UInt8} {k : Nat} (h : k < s.length) : s[(k : Int).toNat]? = some s[k] := by simp [h]
theorem name_c (s : List UInt8) (hl : s.length ≤ 9223372036854775807) : PCall Tryz.prog 55 [.s s] [] anyB := by
  refine pcall T Tryz.func55 rfl rfl rfl rfl ?_
  cases s with
  | nil =>
    repeat' (first|refine wS ?_|refine wR ?_|refine wT ?_|(refine rg 0 ?_;refine aV ?_)|(refine rg 1 ?_;refine mV ?_;refine vV (by exact fs_lenS strT rfl) ?_;refine vV (by exact fs_lssT rfl rfl (by decide)) ?_;refine mV ?_;refine gK ?_;(iterate 3 refine gF ?_);refine pV ?_;refine mV ?_;refine gK ?_;(iterate 4 refine gF ?_);refine gK ?_;(iterate 3 refine gU ?_);refine gF ?_;refine pV ?_)|(refine rg 2 ?_;refine aV ?_)|refine nZ ?_)
    all_goals exact ⟨_,_,⟨rfl,_,rfl⟩,rQ⟩
  | cons c t =>
    generalize hs : c :: t = s at *
    have h1 : 1 ≤ s.length := by rw [← hs];simp
    have hc : s[(0 : Int).toNat]? = some c := by rw [← hs];rfl
    repeat' (first|refine wS ?_|refine wB ?_|refine wK ?_|refine wR ?_|refine wT ?_|refine wU ?_|(refine wC rfl (fun hb=>?_) (fun hb=>?_)<;>(((try simp only [nm] at hb);try (exfalso;omega))))|(refine rg 0 ?_;refine aV ?_)|(refine rg 1 ?_;refine mV ?_;refine vV (by exact fs_lenS strT rfl) ?_;refine vV (by exact fs_lss rfl rfl) ?_;refine mV ?_;refine vc_split rfl rfl (fun hb=>?_) (fun hb=>?_)<;>((rw [hb];(try simp only [nm] at hb);try ((exfalso;omega);done)));(all_goals (refine yM ?_;refine yV (by exact fs_lenS strT rfl) ?_;refine yV (by exact fs_gtr rfl rfl) ?_;refine pV ?_;refine mV ?_;refine vc_split rfl rfl (fun hb=>?_) (fun hb=>?_)<;>((rw [hb];(try simp only [nm] at hb);try ((exfalso;omega);done)))));(all_goals first|(refine gT ?_;(refine mV ?_);refine gT ?_;(refine vV (by exact fs_indexS strT rfl rfl (by decide) hc) ?_);refine gT ?_;(refine vV (by exact fs_geq rfl rfl) ?_);refine gT ?_;(refine mV ?_))|(iterate 4 refine gF ?_));(all_goals first|(refine gK ?_)|(refine vc_split rfl rfl (fun hb=>?_) (fun hb=>?_)<;>((rw [hb];(try simp only [nm] at hb);try ((exfalso;omega);done)))));(all_goals first|(refine gT ?_;(refine mV ?_);refine gT ?_;(refine vV (by exact fs_indexS strT rfl rfl (by decide) hc) ?_);refine gT ?_;(refine vV (by exact fs_leq rfl rfl) ?_))|(iterate 3 first|refine gF ?_|refine gU ?_));(all_goals first|(refine gT ?_;(refine pV ?_))|(refine gF ?_));(all_goals (refine pV ?_)))|(refine rg 2 ?_;refine aV ?_)|(refine rg 3 ?_;refine mV ?_;refine vV (by exact fs_lenS strT rfl) ?_;refine mV ?_)|refine nZ ?_)
    all_goals first | (exfalso;omega) | exact ⟨_,_,⟨rfl,_,rfl⟩,rQ⟩ | skip
    all_goals
      refine aw_loop (X := {k : Nat // k ≤ s.length}) (fun k => [(0,.s s),(23,.i s.length),(24,.i k.1)]) (fun _ => []) (fun k => s.length - k.1) ⟨0,by omega⟩ (by (refine ⟨[],rfl,?_,trivial,List.nodup_nil,fun _ h => absurd h (Nat.not_lt_zero _)⟩;(repeat (first | exact trivial | refine ⟨rfl,?_⟩)))) ?_
      rintro ⟨k,hk⟩
      dsimp only
      by_cases hlt : k < s.length
      · have q1 := get_s hlt
        have hi := idx_c ("abcdefghijklmnopqrstuvwxyzABCDEFGHIJKLMNOPQRSTUVWXYZ0123456789_-".toUTF8.toList) s[k]
        repeat' (first|refine wS ?_|refine wB ?_|refine wK ?_|refine wR ?_|(refine wC rfl (fun hb=>?_) (fun hb=>?_)<;>(((try simp only [nm] at hb);try (exfalso;omega))))|(refine rg 4 ?_;refine vV (by exact fs_lss rfl rfl) ?_)|(refine rg 5 ?_;refine mV ?_;refine aV ?_)|(refine rg 6 ?_;refine mmV ?_;refine vV (by exact fs_indexS strT rfl rfl (by omega) q1) ?_;refine vV (by exact fs_call0 rfl rfl (idx_c _ s[k]) rfl rfl rfl) ?_;refine vV (by exact fs_lss rfl rfl) ?_)|(refine rg 7 ?_;refine aV ?_)|(refine rg 8 ?_;refine vV (by exact fs_addr rfl rfl (by omega) (by omega)) ?_;refine mV ?_)|refine nZ ?_)
        all_goals first | (exfalso;omega) | exact ⟨_,_,⟨rfl,_,rfl⟩,rQ⟩ | exact ⟨⟨k + 1,by omega⟩,by dsimp only;omega,by (refine ⟨[],rfl,?_,trivial,List.nodup_nil,fun _ h => absurd h (Nat.not_lt_zero _)⟩;(repeat (first | exact trivial | refine ⟨rfl,?_⟩)))⟩
      · repeat' (first|refine wS ?_|refine wR ?_|refine wE ?_|(refine wC rfl (fun hb => ?_) (fun hb => ?_) <;> (((try simp only [nm] at hb);try (exfalso;omega))))|(((refine rg 4 ?_));(all_goals (refine vV (by exact fs_lss rfl rfl) ?_)))|(((refine rg 9 ?_));(all_goals (refine aV ?_)))|(refine nZ ?_))
        all_goals first | (exfalso;omega) | exact ⟨_,_,⟨rfl,_,rfl⟩,rQ⟩
theorem swithin_c (n f t : Int) : ACall Tryz.prog 56 [.i n,.i f,.i t] [] (.b (withinB n f t)) [] := by
  refine acall T Tryz.func56 rfl rfl rfl rfl ?_
  unfold withinB
  by_cases h : f ≤ n
  · rw [decide_eq_true h,Bool.true_and]
    repeat' (first|refine wS ?_|refine wR ?_|(refine rg 0 ?_;refine aV ?_)|(refine rg 1 ?_;refine mmV ?_;refine vV (by exact fs_geqT rfl rfl h) ?_;refine mV ?_;refine gK ?_;refine yM ?_;refine yM ?_;refine yV (by exact fs_leq rfl rfl) ?_;refine pV ?_;refine aV ?_)|refine nZ ?_)
    all_goals first | (exfalso;omega) | exact rQ
  · rw [decide_eq_false h,Bool.false_and]
    repeat' (first|refine wS ?_|refine wR ?_|(refine rg 0 ?_;refine aV ?_)|(refine rg 1 ?_;refine mmV ?_;refine vV (by exact fs_geqF rfl rfl (by omega)) ?_;refine mV ?_;refine gK ?_;(iterate 3 refine gF ?_);refine pV ?_;refine aV ?_)|refine nZ ?_)
    all_goals first | (exfalso;omega) | exact rQ
def standB (k : Int) : Bool := decide (k = 1 ∨ k = 2)
theorem stands_c (k : Int) : ACall Tryz.prog 101 [.i k] [] (.b (standB k)) [] := by
  refine acall T Tryz.func101 rfl rfl rfl rfl ?_
  unfold standB
  repeat' (first|refine wS ?_|refine wR ?_|(refine rg 0 ?_;refine aV ?_)|(refine rg 1 ?_;refine mV ?_;refine vV (by exact fs_eql rfl rfl) ?_;refine mV ?_;refine vc_split rfl rfl (fun hb=>?_) (fun hb=>?_)<;>((rw [hb];(try simp only [nm] at hb);try ((exfalso;omega);done)));(all_goals first|(refine gT ?_;(refine mV ?_);refine gT ?_;(refine vV (by exact fs_eql rfl rfl) ?_))|(iterate 2 refine gF ?_));(all_goals (refine pV ?_;refine aV ?_)))|refine nZ ?_)
  all_goals first | (exfalso;omega) | (refine ret_plain (.inl rfl) rfl (b_ret ?_);simp [*])
theorem zoned_c (k : Int) : PCall Tryz.prog 99 [.i k] [] anyB := by
  refine pcall T Tryz.func99 rfl rfl rfl rfl ?_
  repeat' (first|refine wS ?_|refine wR ?_|(refine rg 0 ?_;refine aV ?_)|(refine rg 1 ?_;refine mV ?_;refine vV (by exact fs_neq rfl rfl) ?_;refine mV ?_;refine vc_split rfl rfl (fun hb=>?_) (fun hb=>?_)<;>((rw [hb];(try simp only [nm] at hb);try ((exfalso;omega);done)));(all_goals first|(refine gT ?_;(refine mV ?_);refine gT ?_;(refine vV (by exact fs_neq rfl rfl) ?_))|(iterate 2 refine gF ?_));(all_goals (refine pV ?_;refine mV ?_));(all_goals first|(refine gK ?_)|(refine vc_split rfl rfl (fun hb=>?_) (fun hb=>?_)<;>((rw [hb];(try simp only [nm] at hb);try ((exfalso;omega);done)))));(all_goals first|(refine gT ?_;(refine mV ?_);refine gT ?_;(refine vV (by exact fs_neq rfl rfl) ?_))|(iterate 2 refine gF ?_));(all_goals (refine pV ?_;refine aV ?_)))|refine nZ ?_)
  all_goals first | (exfalso;omega) | exact ⟨_,_,⟨rfl,_,rfl⟩,rQ⟩
theorem shut_c (l : List (Int × Int)) (hl : l.length ≤ 9223372036854775807) : PCall Tryz.prog 57 [.rowE (stksA l) 2] [] anyB := by
  have hlen : (stksA l).length = l.length := by simp
  refine pcall T Tryz.func57 rfl rfl rfl rfl ?_
  repeat' (first|refine wS ?_|refine wB ?_|(refine rg 0 ?_;refine aV ?_)|(refine rg 1 ?_;refine aV ?_)|(refine rg 2 ?_;refine mV ?_;refine qV T ?_;refine mV ?_)|refine nZ ?_)
  refine aw_loop (X := {k : Nat // k ≤ l.length} × Int) (fun k => [(0,.rowE (stksA l) 2),(3,.i k.2),(6,.rowE (stksA l) 2),(7,.i (stksA l).length),(8,.i k.1.1)]) (fun _ => []) (fun k => l.length - k.1.1) ⟨⟨0,by omega⟩,0⟩ (by (refine ⟨[],rfl,?_,trivial,List.nodup_nil,fun _ h => absurd h (Nat.not_lt_zero _)⟩;(repeat (first | exact trivial | refine ⟨rfl,?_⟩)))) ?_
  rintro ⟨⟨k,hk⟩,last⟩
  dsimp only
  by_cases hlt : k < l.length
  · have q1 := stks_gI (l := l) (j := (k : Int)) hlt rfl
    generalize (l.getD k (0,0)).1 = a at *
    generalize (l.getD k (0,0)).2 = b at *
    repeat' (first|refine wS ?_|refine wB ?_|refine wK ?_|refine wR ?_|refine wT ?_|(refine wC rfl (fun hb=>?_) (fun hb=>?_)<;>(((try simp only [nm] at hb);try (exfalso;omega))))|(refine rg 3 ?_;refine vV (by exact fs_lss rfl rfl) ?_)|(refine rg 4 ?_;refine vV (by exact ix T rfl (by omega) (stks_len l) q1) ?_;refine lV T ?_;refine vc_n (by exact fs_alloc T rfl) rfl ?_;refine vc_store T rfl rfl rfl rfl rfl rfl (by decide) rfl ?_)|(refine rg 5 ?_;refine flV T ?_;refine mV ?_;refine vV (by exact fs_lss rfl rfl) ?_;refine mV ?_;refine vc_split rfl rfl (fun hb=>?_) (fun hb=>?_)<;>((rw [hb];(try simp only [nm] at hb);try ((exfalso;omega);done)));(all_goals first|(refine gT ?_;(refine fV T ?_);refine gT ?_;(refine lV T ?_);refine gT ?_;(refine fV T ?_);refine gT ?_;(refine lV T ?_);refine gT ?_;(refine vV (by exact fs_geq rfl rfl) ?_))|(iterate 5 refine gF ?_));(all_goals (refine pV ?_;refine mV ?_));(all_goals first|(refine gK ?_)|(refine vc_split rfl rfl (fun hb=>?_) (fun hb=>?_)<;>((rw [hb];(try simp only [nm] at hb);try ((exfalso;omega);done)))));(all_goals first|(refine gT ?_;(refine fV T ?_);refine gT ?_;(refine lV T ?_);refine gT ?_;(refine vV (by exact fs_gtr rfl rfl) ?_))|(iterate 3 refine gF ?_));(all_goals (refine pV ?_)))|(refine rg 6 ?_;refine aV ?_)|(refine rg 7 ?_;refine flV T ?_;refine aV ?_)|(refine rg 8 ?_;refine vV (by exact fs_addr rfl rfl (by omega) (by omega)) ?_;refine mV ?_)|refine nZ ?_)
    all_goals first | (exfalso;omega) | exact ⟨_,_,⟨rfl,_,rfl⟩,rQ⟩ | exact ⟨⟨⟨k + 1,by omega⟩,b⟩,by dsimp only;omega,by (refine ⟨[],rfl,?_,trivial,List.nodup_nil,fun _ h => absurd h (Nat.not_lt_zero _)⟩;(repeat (first | exact trivial | refine ⟨rfl,?_⟩)))⟩
  · repeat' (first|refine wS ?_|refine wR ?_|refine wE ?_|(refine wC rfl (fun hb => ?_) (fun hb => ?_) <;> (((try simp only [nm] at hb);try (exfalso;omega))))|(((refine rg 3 ?_));(all_goals (refine vV (by exact fs_lss rfl rfl) ?_)))|(((refine rg 9 ?_));(all_goals (refine aV ?_)))|(refine nZ ?_))
    all_goals first | (exfalso;omega) | exact ⟨_,_,⟨rfl,_,rfl⟩,rQ⟩
theorem apartT : StrStruct Tryz.prog 94 2 := by unfold StrStruct;kernel_rfl
theorem aps_len (l : List (List UInt8 × List UInt8)) : ∀ e,e ∈ apsA l → e.length = 2 := by intro e he;obtain ⟨n,_,rfl⟩ := List.mem_map.1 he;rfl
theorem aps_get {l : List (List UInt8 × List UInt8)} {k : Nat} (h : k < l.length) : (apsA l)[(k : Int).toNat]? = some [AV.s l[k].1,AV.s l[k].2] := by simp [h]
def idxA : List (List UInt8 × List UInt8) → List UInt8 × List UInt8 → Int → Int
  | [],_,_ => -1
  | x :: r,v,k => if v = x then k else idxA r v (k + 1)
theorem idxA_mem : ∀ (l : List (List UInt8 × List UInt8)) (v : List UInt8 × List UInt8) (k : Int), 0 ≤ k → (0 ≤ idxA l v k ↔ v ∈ l)
  | [],v,k,_ => by simp [idxA]
  | x :: r,v,k,hk => by
    simp only [idxA]
    split
    · rename_i e;subst e;simp [hk]
    · rename_i e
      rw [idxA_mem r v (k + 1) (by omega)]
      simp [e]
theorem idxA_drop {l : List (List UInt8 × List UInt8)} {v : List UInt8 × List UInt8} {k : Nat} (h : k < l.length) : idxA (l.drop k) v k = if v = l[k] then (k : Int) else idxA (l.drop (k + 1)) v ((k + 1 : Nat) : Int) := by
  rw [List.drop_eq_getElem_cons h]
  simp [idxA]
theorem indexA_c (l : List (List UInt8 × List UInt8)) (a b : List UInt8) (hl : l.length ≤ 9223372036854775807) : ACall Tryz.prog 143 [.rowE (apsA l) 2,.agg [.s a,.s b]] [] (.i (idxA l (a,b) 0)) [] := by
  have hlen : (apsA l).length = l.length := by simp
  refine acall T Tryz.func143 rfl rfl rfl rfl ?_
  repeat' (first|refine wS ?_|refine wB ?_|(refine rg 0 ?_;refine vc_n (by exact fs_box rfl rfl) rfl ?_;refine aV ?_)|(refine rg 1 ?_;refine mV ?_;refine qV T ?_;refine mV ?_)|refine nZ ?_)
  refine aw_loop (X := {k : Nat // k ≤ l.length ∧ idxA l (a,b) 0 = idxA (l.drop k) (a,b) k}) (fun k => [(0,.rowE (apsA l) 2),(3,.ptr 0 0),(7,.i (apsA l).length),(8,.i k.1)]) (fun _ => [.cells [.s a,.s b]]) (fun k => l.length - k.1) ⟨0,by simp,rfl⟩ (by (refine ⟨[0],rfl,(by (repeat (first | exact trivial | refine ⟨rfl,?_⟩))),(by (repeat (first | exact trivial | refine ⟨Or.inl rfl,?_⟩ | refine ⟨Or.inr rfl,?_⟩))),by decide,(nz0)⟩)) ?_
  rintro ⟨k,hk,hf⟩
  dsimp only
  by_cases hlt : k < l.length
  · have hd := idxA_drop (v := (a,b)) hlt
    have q1 := aps_get hlt
    rw [hd] at hf
    generalize l[k] = y at *
    obtain ⟨y1,y2⟩ := y
    repeat' (first|refine wS ?_|refine wB ?_|refine wK ?_|refine wR ?_|refine wT ?_|(refine wC rfl (fun hb=>?_) (fun hb=>?_)<;>(((try simp only [nm] at hb);try (exfalso;omega))))|(refine rg 2 ?_;refine vV (by exact fs_lssT rfl rfl (by omega)) ?_)|(refine rg 3 ?_;refine mV ?_;refine aV ?_)|(refine aw_draw2k (id := 4) 19 [[],[],[],[1,2],[1,2,3],[0,1,2,3,4]] [11,12,13,14,15,16] [[],[11],[11,12],[11],[11],[]] mixedP rfl (by decide +kernel) ?_;refine dL T ?_;refine dM ?_;refine dM ?_;refine dV rfl (by exact ix T rfl (by omega) (aps_len l) q1) ?_;refine dL T ?_;refine dV rfl (by exact fs_eqlSS apartT rfl rfl) ?_;refine dw_fin rfl rfl (by ((dsimp only [ln1,ln2,List.append_nil,ln4,ln5,ln6,ln7,ln8,ln9,putAt,putd,allObjs,argEnv,un_v,un_ptr,un_ep,un_pr,un_sl,un_mp,un_row,un_agg,un_tup,un_clo,Nat.zero_add,lnb,Nat.reduceAdd,lnc,lnd];done))) ?_)|(refine rg 5 ?_;refine mV ?_;refine aV ?_)|(refine rg 6 ?_;refine vV (by exact fs_addr rfl rfl (by omega) (by omega)) ?_;refine mV ?_)|refine nZ ?_)
    · refine ret_plain (.inl rfl) rfl ?_
      rw [hf,if_pos hb];rfl
    · refine ⟨⟨k + 1,by omega,?_⟩,by dsimp only;omega,by (refine ⟨[0],rfl,(by (repeat (first | exact trivial | refine ⟨rfl,?_⟩))),(by (repeat (first | exact trivial | refine ⟨Or.inl rfl,?_⟩ | refine ⟨Or.inr rfl,?_⟩))),by decide,(nz0)⟩)⟩
      rw [hf,if_neg hb]
  · repeat' (first|refine wS ?_|refine wR ?_|refine wE ?_|refine aw_condf rfl ?_|(((refine rg 2 ?_));(all_goals (refine vV (by exact fs_lssF rfl rfl (by omega)) ?_)))|(((refine rg 7 ?_));(all_goals (refine aV ?_)))|(refine nZ ?_))
    refine ret_plain (.inl rfl) rfl ?_
    rw [hf,List.drop_of_length_le (by omega)];rfl
theorem containsA_c (l : List (List UInt8 × List UInt8)) (a b : List UInt8) (hl : l.length ≤ 9223372036854775807) : ACall Tryz.prog 127 [.rowE (apsA l) 2,.agg [.s a,.s b]] [] (.b (decide ((a,b) ∈ l))) [] := by
  refine acall T Tryz.func127 rfl rfl rfl rfl ?_
  repeat' (first|refine wS ?_|refine wR ?_|(refine rg 0 ?_;refine vc_n (by exact fs_box rfl rfl) rfl ?_;refine aV ?_)|(refine rg 1 ?_;refine mV ?_;refine lV T ?_;refine vV (by exact kC (indexA_c l a b hl)) ?_;refine vV (by exact fs_geq rfl rfl) ?_;refine aV ?_)|refine nZ ?_)
  refine ret_plain (.inl rfl) rfl (b_ret ?_)
  rw [Bool.eq_iff_iff];simp only [decide_eq_true_eq];exact idxA_mem l (a,b) 0 (by omega)
def apartB (l : List (List UInt8 × List UInt8)) (a b : List UInt8) : Bool := decide (a ≠ [] ∧ b ≠ [] ∧ ((a,b) ∈ l ∨ (b,a) ∈ l))
theorem apart_c (l : List (List UInt8 × List UInt8)) (a b : List UInt8) (hl : l.length ≤ 9223372036854775807) : ACall Tryz.prog 100 [.rowE (apsA l) 2,.s a,.s b] [] (.b (apartB l a b)) [] := by
  have c1 := containsA_c l a b hl
  have c2 := containsA_c l b a hl
  unfold apartB
  refine acall T Tryz.func100 rfl rfl rfl rfl ?_
  repeat' (first|refine wS ?_|refine wK ?_|refine wR ?_|refine wT ?_|(refine wC rfl (fun hb=>?_) (fun hb=>?_)<;>(((try simp only [nm] at hb);try (exfalso;omega))))|(refine rg 0 ?_;refine aV ?_)|(refine rg 1 ?_;refine mV ?_;refine vV (by exact fs_eqlS rfl rfl) ?_;refine mV ?_;refine vc_split rfl rfl (fun hb=>?_) (fun hb=>?_)<;>((rw [hb];(try simp only [nm] at hb);try ((exfalso;omega);done)));(all_goals first|(refine gT ?_;(refine mV ?_);refine gT ?_;(refine vV (by exact fs_eqlS rfl rfl) ?_))|(iterate 2 refine gF ?_));(all_goals (refine pV ?_)))|(refine rg 2 ?_;refine aV ?_)|(refine rg 3 ?_;refine mmV ?_;refine mV ?_;refine vV (by exact fs_build T rfl rfl rfl rfl) ?_;refine vV (by exact kC (c1)) ?_;refine mV ?_;refine vc_split rfl rfl (fun hb=>?_) (fun hb=>?_)<;>((rw [hb];(try simp only [nm] at hb);try ((exfalso;omega);done)));(all_goals first|(refine gT ?_;(refine mV ?_);refine gT ?_;(refine mV ?_);refine gT ?_;(refine mV ?_);refine gT ?_;(refine vV (by exact fs_build T rfl rfl rfl rfl) ?_);refine gT ?_;(refine vV (by exact kC (c2)) ?_))|(iterate 5 refine gF ?_));(all_goals (refine pV ?_;refine aV ?_)))|refine nZ ?_)
  all_goals (refine ret_plain (.inl rfl) rfl (b_ret ?_);simp_all)
def inF (f : Flo) (c : Int) : Bool := decide (0 ≤ c ∧ c < f.k.length)
def kndF (f : Flo) (c : Int) : Int := if 0 ≤ c ∧ c < f.k.length then f.k.getD c.toNat 0 else 0
theorem kindAt_c (f : Flo) (rest : List AV) (c : Int) : ACall Tryz.prog 98 [.pr (floorC f ++ rest) 0,.i c] [] (.tup [.i (kndF f c),.b (inF f c)]) [] := by
  have hkl : (ints f.k).length = f.k.length := ints_length _
  unfold kndF inF
  refine acall T Tryz.func98 rfl rfl rfl rfl ?_
  by_cases hc : 0 ≤ c ∧ c < f.k.length
  · rw [if_pos hc,decide_eq_true hc]
    have q1 := ints_gI (l := f.k) (j := c) (i := c.toNat) 0 (by omega) (by omega)
    generalize f.k.getD c.toNat 0 = x at *
    repeat' (first|refine wS ?_|refine wK ?_|refine wR ?_|refine wU ?_|(refine rg 0 ?_;refine aaV ?_)|(refine rg 1 ?_;refine mV ?_;refine vV (by exact fs_lssF rfl rfl (by omega)) ?_;refine mV ?_;refine gK ?_;refine yM ?_;refine yM ?_;refine gT ?_;refine nV ?_;refine yF T ?_;refine yF T ?_;refine yF T ?_;refine yL T ?_;refine gT ?_;refine qV T ?_;refine yV (by exact fs_geqF rfl rfl (by omega)) ?_;refine pV ?_)|(refine rg 3 ?_;refine mV ?_;refine nV ?_;refine fV T ?_;refine fV T ?_;refine flV T ?_;refine mV ?_;refine vV (by exact ix T rfl (by omega) (ints_len _) q1) ?_;refine lV T ?_;refine aaV ?_)|refine nZ ?_)
    all_goals first | (exfalso;omega) | exact rQ
  · rw [if_neg hc,decide_eq_false hc]
    by_cases h0 : c < 0
    · repeat' (first|refine wS ?_|refine wR ?_|refine aw_condt rfl ?_|(((refine rg 0 ?_));(all_goals (refine aV ?_;refine aV ?_)))|(((refine rg 1 ?_));(all_goals (refine mV ?_;refine vV (by exact fs_lssT rfl rfl h0) ?_;refine mV ?_));(all_goals (refine gK ?_));(all_goals (iterate 9 refine gF ?_));(all_goals (refine pV ?_)))|(((refine rg 2 ?_));(all_goals (refine aV ?_;refine aV ?_)))|(refine nZ ?_))
      all_goals first | (exfalso;omega) | exact rQ
    · repeat' (first|refine wS ?_|refine wR ?_|refine aw_condt rfl ?_|(((refine rg 0 ?_));(all_goals (refine aV ?_;refine aV ?_)))|(((refine rg 1 ?_));(all_goals (refine mV ?_;refine vV (by exact fs_lssF rfl rfl (by omega)) ?_;refine mV ?_));(all_goals (refine gK ?_));(all_goals (refine gT ?_;(refine mV ?_);refine gT ?_;(refine mV ?_);refine gT ?_;(refine nV ?_);refine gT ?_;(refine fV T ?_);refine gT ?_;(refine fV T ?_);refine gT ?_;(refine fV T ?_);refine gT ?_;(refine lV T ?_);refine gT ?_;(refine qV T ?_);refine gT ?_;(refine vV (by exact fs_geqT rfl rfl (by omega)) ?_)));(all_goals (refine pV ?_)))|(((refine rg 2 ?_));(all_goals (refine aV ?_;refine aV ?_)))|(refine nZ ?_))
      all_goals first | (exfalso;omega) | exact rQ
theorem mcells_c (f : Flo) (rest : List AV) (l : List Int) (hl : l.length ≤ 9223372036854775807) : PCall Tryz.prog 58 [.pr (floorC f ++ rest) 0,.rowE (ints l) 1] [] (fun r o => o = [] ∧ ∃ b,r = .b b ∧ (b = true → ∀ c,c ∈ l → 0 ≤ c ∧ c < f.k.length)) := by
  have hlen : (ints l).length = l.length := ints_length _
  refine pcall T Tryz.func58 rfl rfl rfl rfl ?_
  repeat' (first|refine wS ?_|refine wB ?_|(refine rg 0 ?_;refine aV ?_)|(refine rg 1 ?_;refine mV ?_;refine qV T ?_;refine mV ?_)|refine nZ ?_)
  refine aw_loop (X := {k : Nat // k ≤ l.length ∧ ∀ j,j < k → inF f (l.getD j 0) = true}) (fun k => [(0,.pr (floorC f ++ rest) 0),(1,.rowE (ints l) 1),(9,.rowE (ints l) 1),(10,.i (ints l).length),(11,.i k.1)]) (fun _ => []) (fun k => l.length - k.1) ⟨0,by omega,fun j hj => absurd hj (Nat.not_lt_zero _)⟩ (by (refine ⟨[],rfl,?_,trivial,List.nodup_nil,fun _ h => absurd h (Nat.not_lt_zero _)⟩;(repeat (first | exact trivial | refine ⟨rfl,?_⟩)))) ?_
  rintro ⟨k,hk,hp⟩
  dsimp only
  by_cases hlt : k < l.length
  · have q1 := ints_gI (l := l) (j := (k : Int)) 0 hlt rfl
    have q0 : 0 < k → (ints l)[((k : Int) - 1).toNat]? = some [AV.i (l.getD (k - 1) 0)] := fun h0 => ints_gI 0 (by omega) (by omega)
    have hc := kindAt_c f rest (l.getD k 0)
    by_cases hin : inF f (l.getD k 0) = true
    · have hnx : ∀ j,j < k + 1 → inF f (l.getD j 0) = true := fun j hj => by
        by_cases e : j = k
        · rw [e];exact hin
        · exact hp j (by omega)
      rw [hin] at hc
      generalize l.getD k 0 = c at *
      generalize l.getD (k - 1) 0 = c' at *
      generalize kndF f c = x at *
      by_cases h0 : 0 < k
      · have q0 := q0 h0
        repeat' (first|refine wS ?_|refine wB ?_|refine wK ?_|refine wR ?_|(refine wC rfl (fun hb=>?_) (fun hb=>?_)<;>(((try simp only [nm] at hb);try (exfalso;omega))))|(refine rg 2 ?_;refine vV (by exact fs_lss rfl rfl) ?_)|(refine rg 3 ?_;refine mV ?_;refine vV (by exact ix T rfl (by omega) (ints_len _) q1) ?_;refine lV T ?_;refine aaV ?_)|(refine rg 4 ?_;refine mmV ?_;refine vV (by exact kC (hc)) ?_;refine mV ?_;refine xV ?_;refine xV ?_;refine aaV ?_)|(refine rg 5 ?_;refine mV ?_;refine vV (by exact fs_not rfl) ?_;refine mV ?_;refine gK ?_;refine yM ?_;refine yV (by exact fs_gtr rfl rfl) ?_;refine yM ?_;refine vc_split rfl rfl (fun hb=>?_) (fun hb=>?_)<;>((rw [hb];(try simp only [nm] at hb);try ((exfalso;omega);done)));(all_goals (refine yM ?_;refine yM ?_;refine yV (by exact fs_subr rfl rfl (by omega) (by omega)) ?_;refine yV (by exact ix T rfl (by omega) (ints_len _) q0) ?_;refine yL T ?_;refine yM ?_;refine yV (by exact fs_geq rfl rfl) ?_;refine gT ?_;refine pV ?_;refine pV ?_)))|(refine rg 6 ?_;refine aV ?_)|(refine rg 7 ?_;refine vV (by exact fs_addr rfl rfl (by omega) (by omega)) ?_;refine mV ?_)|refine nZ ?_)
        all_goals first | (exfalso;omega) | exact ⟨.b false,[],⟨rfl,false,rfl,fun h => Bool.noConfusion h⟩,rQ⟩ | exact ⟨⟨k + 1,hlt,hnx⟩,by dsimp only;omega,by (refine ⟨[],rfl,?_,trivial,List.nodup_nil,fun _ h => absurd h (Nat.not_lt_zero _)⟩;(repeat (first | exact trivial | refine ⟨rfl,?_⟩)))⟩
      · repeat' (first|refine wS ?_|refine wB ?_|refine wK ?_|refine aw_condf rfl ?_|(refine wC rfl (fun hb => ?_) (fun hb => ?_) <;> (((try simp only [nm] at hb);try (exfalso;omega))))|(((refine rg 2 ?_));(all_goals (refine vV (by exact fs_lss rfl rfl) ?_)))|(((refine rg 3 ?_));(all_goals (refine mV ?_;refine vV (by exact ix T rfl (by omega) (ints_len _) q1) ?_;refine lV T ?_;refine aV ?_;refine aV ?_)))|(((refine rg 4 ?_));(all_goals (refine mV ?_;refine mV ?_;refine vV (by exact kC (hc)) ?_;refine mV ?_;refine xV ?_;refine xV ?_;refine aV ?_;refine aV ?_)))|(((refine rg 5 ?_));(all_goals (refine mV ?_;refine vV (by exact fs_not rfl) ?_;refine mV ?_));(all_goals (refine gK ?_));(all_goals (refine gT ?_;(refine mV ?_);refine gT ?_;(refine vV (by exact fs_gtrF rfl rfl (by omega)) ?_);refine gT ?_;(refine mV ?_)));(all_goals (refine gK ?_));(all_goals (iterate 7 refine gF ?_));(all_goals (refine gT ?_;(refine pV ?_)));(all_goals (refine pV ?_)))|(((refine rg 7 ?_));(all_goals (refine vV (by exact fs_addr rfl rfl (by omega) (by omega)) ?_;refine mV ?_)))|(refine nZ ?_))
        all_goals first | (exfalso;omega) | exact ⟨.b false,[],⟨rfl,false,rfl,fun h => Bool.noConfusion h⟩,rQ⟩ | exact ⟨⟨k + 1,hlt,hnx⟩,by dsimp only;omega,by (refine ⟨[],rfl,?_,trivial,List.nodup_nil,fun _ h => absurd h (Nat.not_lt_zero _)⟩;(repeat (first | exact trivial | refine ⟨rfl,?_⟩)))⟩
    · have hin : inF f (l.getD k 0) = false := by simpa using hin
      rw [hin] at hc
      generalize l.getD k 0 = c at *
      generalize kndF f c = x at *
      repeat' (first|refine wS ?_|refine wB ?_|refine wK ?_|refine wR ?_|refine wT ?_|(refine wC rfl (fun hb=>?_) (fun hb=>?_)<;>(((try simp only [nm] at hb);try (exfalso;omega))))|(refine rg 2 ?_;refine vV (by exact fs_lss rfl rfl) ?_)|(refine rg 3 ?_;refine mV ?_;refine vV (by exact ix T rfl (by omega) (ints_len _) q1) ?_;refine lV T ?_;refine aaV ?_)|(refine rg 4 ?_;refine mmV ?_;refine vV (by exact kC (hc)) ?_;refine mV ?_;refine xV ?_;refine xV ?_;refine aaV ?_)|(refine rg 5 ?_;refine mV ?_;refine vV (by exact fs_not rfl) ?_;refine mV ?_;refine gK ?_;(iterate 3 refine gF ?_);refine gK ?_;(iterate 7 refine gU ?_);refine gF ?_;refine pV ?_)|(refine rg 6 ?_;refine aV ?_)|refine nZ ?_)
      all_goals first | (exfalso;omega) | exact ⟨.b false,[],⟨rfl,false,rfl,fun h => Bool.noConfusion h⟩,rQ⟩
  · repeat' (first|refine wS ?_|refine wR ?_|refine wE ?_|(refine wC rfl (fun hb => ?_) (fun hb => ?_) <;> (((try simp only [nm] at hb);try (exfalso;omega))))|(((refine rg 2 ?_));(all_goals (refine vV (by exact fs_lss rfl rfl) ?_)))|(((refine rg 8 ?_));(all_goals (refine mV ?_;(refine qV T ?_);refine vV (by exact fs_gtr rfl rfl) ?_;refine aV ?_)))|(refine nZ ?_))
    all_goals first | (exfalso;omega) | skip
    all_goals
      refine ⟨_,_,⟨rfl,_,rfl,fun _ c hc => ?_⟩,rQ⟩
      obtain ⟨j,hj,rfl⟩ := List.mem_iff_getElem.1 hc
      have := hp j (by omega)
      rw [List.getD_eq_getElem?_getD,List.getElem?_eq_getElem hj] at this
      unfold inF at this
      simpa using this
theorem charger_c (f : Flo) (rest : List AV) (hl : f.k.length ≤ 9223372036854775807) : PCall Tryz.prog 65 [.pr (floorC f ++ rest) 0] [] anyB := by
  have hc := contains_c f.k 3 hl
  refine pcall T Tryz.func65 rfl rfl rfl rfl ?_
  repeat' (first|refine wS ?_|refine wR ?_|(refine rg 0 ?_;refine aV ?_)|(refine rg 1 ?_;refine mV ?_;refine nV ?_;refine fV T ?_;refine fV T ?_;refine flV T ?_;refine vV (by exact kC (hc)) ?_;refine aV ?_)|refine nZ ?_)
  all_goals exact ⟨_,_,⟨rfl,_,rfl⟩,rQ⟩
def rngA (n : Nat) : List AV := (List.range n).map fun (i : Nat) => AV.i (i : Int)
theorem rng_at {n i : Nat} (h : i < n) : (rngA n)[i]? = some (.i (i : Int)) := by unfold rngA;simp [h]
theorem keys_good (l : List Int) : ∀ q,q ∈ l.map kI → IsKey (.int .i64) q := by
  intro q hq
  obtain ⟨n,_,rfl⟩ := List.mem_map.1 hq
  rfl
theorem keys_nd {l : List Int} (h : l.Nodup) : (l.map kI).Nodup := h.map _ (fun a b hab e => hab (by simpa using e))
theorem keys_mem {l : List Int} {n : Int} : kI n ∈ l.map kI ↔ n ∈ l := by
  rw [List.mem_map]
  constructor
  · rintro ⟨a,ha,e⟩;simp at e;subst e;exact ha
  · intro h;exact ⟨n,h,rfl⟩
theorem keys_at {l : List Int} {n : Int} (h : n ∈ l) : ∃ i : Nat,i < l.length ∧ (l.map kI)[i]? = some (kI n) := by
  obtain ⟨i,hi⟩ := List.mem_iff_getElem?.1 h
  exact ⟨i,(List.getElem?_eq_some_iff.1 hi).1,by simp [hi]⟩
theorem intK : KeyOk Tryz.prog 3 (IsKey (.int .i64)) := KeyOk.int (by kernel_rfl)
theorem zInt : ∀ w,(zeroValue 3).run Tryz.prog w = .ok (.int .i64 0) w := zero_run (by kernel_rfl)
theorem zBool : ∀ w,(zeroValue 4).run Tryz.prog w = .ok (.bool false) w := zero_run (by kernel_rfl)
theorem mapII : Tryz.prog.underlying 72 = some (.map 3 3) := by kernel_rfl
theorem mapIB : Tryz.prog.underlying 111 = some (.map 3 4) := by kernel_rfl
theorem zons_len (l : List Zon) : ∀ e,e ∈ zonsA l → e.length = 5 := by intro e he;obtain ⟨n,_,rfl⟩ := List.mem_map.1 he;rfl
theorem zons_get {l : List Zon} {k : Nat} (h : k < l.length) : (zonsA l)[(k : Int).toNat]? = some (zonA l[k]) := by simp [h]
theorem crowd1_c (f : Flo) (z : Zon) (hz : ∀ c,c ∈ z.2.1 → 0 ≤ c ∧ c < f.k.length) (hzl : z.2.1.length ≤ 9223372036854775807) (r1 r2 r3 r4 : AV) (ks : List Int) (hnd : ks.Nodup) (rest : List AV) :
    PCall Tryz.prog 105 [.agg (zonA z),.pr [.pr (floorC f ++ r1 :: r2 :: r3 :: r4 :: .mrow (ks.map kI) (rngA ks.length) :: rest) 0] 0] [] anyB := by
  obtain ⟨nm,cs,sp,kp,sh⟩ := z
  dsimp only at *
  have hlen : (ints cs).length = cs.length := ints_length _
  refine pcall T Tryz.func105 rfl rfl rfl rfl ?_
  repeat' (first|refine wS ?_|refine wB ?_|(refine rg 0 ?_;refine vc_n (by exact fs_box rfl rfl) rfl ?_;refine aV ?_)|(refine rg 1 ?_;refine aV ?_)|(refine rg 2 ?_;refine flV T ?_;refine qV T ?_;refine mV ?_)|refine nZ ?_)
  refine aw_loop (X := {p : Nat × Nat // p.1 ≤ cs.length ∧ p.2 ≤ p.1}) (fun k => [(1,.pr [.pr (floorC f ++ r1 :: r2 :: r3 :: r4 :: .mrow (ks.map kI) (rngA ks.length) :: rest) 0] 0),(2,.ptr 0 0),(4,.i k.1.2),(10,.rowE (ints cs) 1),(11,.i (ints cs).length),(12,.i k.1.1)]) (fun _ => [.cells (zonA (nm,cs,sp,kp,sh))]) (fun k => cs.length - k.1.1) ⟨(0,0),by dsimp only;omega,by dsimp only;omega⟩ (by (refine ⟨[0],rfl,(by (repeat (first | exact trivial | refine ⟨rfl,?_⟩))),(by (repeat (first | exact trivial | refine ⟨Or.inl rfl,?_⟩ | refine ⟨Or.inr rfl,?_⟩))),by decide,(nz0)⟩)) ?_
  rintro ⟨⟨k,n⟩,hk,hn⟩
  dsimp only at *
  by_cases hlt : k < cs.length
  · have q1 := ints_gI (l := cs) (j := (k : Int)) 0 hlt rfl
    obtain ⟨hc1,hc2⟩ := hz (cs.getD k 0) (by rw [List.getD_eq_getElem?_getD,List.getElem?_eq_getElem hlt];exact List.getElem_mem hlt)
    have q2 := ints_gI (l := f.k) (j := cs.getD k 0) (i := (cs.getD k 0).toNat) 0 (by omega) (by omega)
    generalize cs.getD k 0 = c at *
    generalize f.k.getD c.toNat 0 = x at *
    have hs := stands_c x
    generalize standB x = y at *
    by_cases hm : c ∈ ks
    · obtain ⟨i,hi,hi2⟩ := keys_at hm
      have hv := rng_at hi
      repeat' (first|refine wS ?_|refine wB ?_|refine wK ?_|refine wT ?_|refine wU ?_|(refine rg 3 ?_;refine vV (by exact fs_lssT rfl rfl (by omega)) ?_)|(refine rg 4 ?_;refine vV (by exact ix T rfl (by omega) (ints_len _) q1) ?_;refine lV T ?_;refine aV ?_)|(refine rg 5 ?_;refine lV T ?_;refine nV ?_;refine flV T ?_;refine mV ?_;refine vV (by exact fs_mapGetR mapII intK rfl rfl (isv_i _) (keys_good ks) (good_i _) (keys_nd hnd) hi2 hv rfl) ?_;refine mV ?_;refine xV ?_;refine xV ?_;refine aaV ?_)|(refine rg 6 ?_;refine mV ?_;refine vV (by exact fs_not rfl) ?_;refine mV ?_;refine gK ?_;(iterate 10 refine gF ?_);refine pV ?_)|(refine rg 8 ?_;refine vV (by exact fs_addr rfl rfl (by omega) (by omega)) ?_;refine mV ?_)|refine nZ ?_)
      all_goals first | (exfalso;omega) | exact ⟨⟨(k + 1,n),by dsimp only;omega,by dsimp only;omega⟩,by dsimp only;omega,by (refine ⟨[0],rfl,(by (repeat (first | exact trivial | refine ⟨rfl,?_⟩))),(by (repeat (first | exact trivial | refine ⟨Or.inl rfl,?_⟩ | refine ⟨Or.inr rfl,?_⟩))),by decide,(nz0)⟩)⟩
    · cases y
      · repeat' (first|refine wS ?_|refine wB ?_|refine wK ?_|refine aw_condt rfl ?_|refine aw_condf rfl ?_|(((refine rg 3 ?_));(all_goals (refine vV (by exact fs_lssT rfl rfl (by omega)) ?_)))|(((refine rg 4 ?_));(all_goals (refine vV (by exact ix T rfl (by omega) (ints_len _) q1) ?_;refine lV T ?_;refine aV ?_)))|(((refine rg 5 ?_));(all_goals (refine lV T ?_;refine nV ?_;refine fV T ?_;refine lV T ?_;refine mV ?_;refine vV (by exact fs_mapMissR (zA := .i 0) mapII intK zInt (fun _ _ _ => R_v_mk _) rfl rfl (isv_i _) (keys_good ks) (good_i _) (fun e => hm (keys_mem.1 e))) ?_;refine mV ?_;refine xV ?_;refine xV ?_;refine aV ?_;refine aV ?_)))|(((refine rg 6 ?_));(all_goals (refine mV ?_;refine vV (by exact fs_not rfl) ?_;refine mV ?_));(all_goals (refine gK ?_));(all_goals (refine gT ?_;(refine lV T ?_);refine gT ?_;(refine nV ?_);refine gT ?_;(refine fV T ?_);refine gT ?_;(refine fV T ?_);refine gT ?_;(refine fV T ?_);refine gT ?_;(refine lV T ?_);refine gT ?_;(refine mV ?_);refine gT ?_;(refine vV (by exact ix T rfl (by omega) (ints_len _) q2) ?_);refine gT ?_;(refine lV T ?_);refine gT ?_;(refine vV (by exact kC (hs)) ?_)));(all_goals (refine pV ?_)))|(((refine rg 8 ?_));(all_goals (refine vV (by exact fs_addr rfl rfl (by omega) (by omega)) ?_;refine mV ?_)))|(refine nZ ?_))
        all_goals first | (exfalso;omega) | exact ⟨⟨(k + 1,n),by dsimp only;omega,by dsimp only;omega⟩,by dsimp only;omega,by (refine ⟨[0],rfl,(by (repeat (first | exact trivial | refine ⟨rfl,?_⟩))),(by (repeat (first | exact trivial | refine ⟨Or.inl rfl,?_⟩ | refine ⟨Or.inr rfl,?_⟩))),by decide,(nz0)⟩)⟩
      · repeat' (first|refine wS ?_|refine wB ?_|refine wK ?_|refine aw_condt rfl ?_|(((refine rg 3 ?_));(all_goals (refine vV (by exact fs_lssT rfl rfl (by omega)) ?_)))|(((refine rg 4 ?_));(all_goals (refine vV (by exact ix T rfl (by omega) (ints_len _) q1) ?_;refine lV T ?_;refine aV ?_)))|(((refine rg 5 ?_));(all_goals (refine lV T ?_;refine nV ?_;refine fV T ?_;refine lV T ?_;refine mV ?_;refine vV (by exact fs_mapMissR (zA := .i 0) mapII intK zInt (fun _ _ _ => R_v_mk _) rfl rfl (isv_i _) (keys_good ks) (good_i _) (fun e => hm (keys_mem.1 e))) ?_;refine mV ?_;refine xV ?_;refine xV ?_;refine aV ?_;refine aV ?_)))|(((refine rg 6 ?_));(all_goals (refine mV ?_;refine vV (by exact fs_not rfl) ?_;refine mV ?_));(all_goals (refine gK ?_));(all_goals (refine gT ?_;(refine lV T ?_);refine gT ?_;(refine nV ?_);refine gT ?_;(refine fV T ?_);refine gT ?_;(refine fV T ?_);refine gT ?_;(refine fV T ?_);refine gT ?_;(refine lV T ?_);refine gT ?_;(refine mV ?_);refine gT ?_;(refine vV (by exact ix T rfl (by omega) (ints_len _) q2) ?_);refine gT ?_;(refine lV T ?_);refine gT ?_;(refine vV (by exact kC (hs)) ?_)));(all_goals (refine pV ?_)))|(((refine rg 7 ?_));(all_goals (refine mV ?_;refine vV (by exact fs_addr rfl rfl (by omega) (by omega)) ?_;refine aV ?_)))|(((refine rg 8 ?_));(all_goals (refine vV (by exact fs_addr rfl rfl (by omega) (by omega)) ?_;refine mV ?_)))|(refine nZ ?_))
        all_goals first | (exfalso;omega) | exact ⟨⟨(k + 1,n + 1),by dsimp only;omega,by dsimp only;omega⟩,by dsimp only;omega,by (refine ⟨[0],rfl,(by (repeat (first | exact trivial | refine ⟨rfl,?_⟩))),(by (repeat (first | exact trivial | refine ⟨Or.inl rfl,?_⟩ | refine ⟨Or.inr rfl,?_⟩))),by decide,(nz0)⟩)⟩
  · repeat' (first|refine wS ?_|refine wR ?_|refine wE ?_|refine aw_condf rfl ?_|(((refine rg 3 ?_));(all_goals (refine vV (by exact fs_lssF rfl rfl (by omega)) ?_)))|(((refine rg 9 ?_));(all_goals (refine mV ?_;refine fV T ?_;refine lV T ?_;refine vV (by exact fs_lss rfl rfl) ?_;refine aV ?_)))|(refine nZ ?_))
    all_goals first | (exfalso;omega) | exact ⟨_,_,⟨rfl,_,rfl⟩,rQ⟩
theorem indexZ_c (l : List Zon) (fv : AV) (fn : Nat) (hl : l.length ≤ 9223372036854775807) (hfr : fv.idf = true) (hv : ∀ h : Hp,View h fv fv) (hf : ∀ z,z ∈ l → PCall Tryz.prog fn [.agg (zonA z),fv] [] anyB) :
    PCall Tryz.prog 104 [.rowE (zonsA l) 5,.clo (.func fn) [] [fv]] [] anyI := by
  have hlen : (zonsA l).length = l.length := by simp
  refine pcall T Tryz.func104 rfl rfl rfl rfl ?_
  repeat' (first|refine wS ?_|refine wB ?_|(refine rg 0 ?_;refine aV ?_)|(refine rg 1 ?_;refine mV ?_;refine qV T ?_;refine mV ?_)|refine nZ ?_)
  refine aw_loop (X := {k : Nat // k ≤ l.length}) (fun k => [(0,.rowE (zonsA l) 5),(1,.clo (.func fn) [] [fv]),(7,.i (zonsA l).length),(8,.i k.1)]) (fun _ => []) (fun k => l.length - k.1) ⟨0,by omega⟩ ⟨[],rfl,⟨rfl,(congrArg (fun x => some (AV.clo (.func fn) [] [x])) (map_idf _ fv hfr).symm),rfl,rfl,trivial⟩,trivial,List.nodup_nil,fun _ h => absurd h (Nat.not_lt_zero _)⟩ ?_
  rintro ⟨k,hk⟩
  dsimp only
  by_cases hlt : k < l.length
  · have q1 := zons_get hlt
    have hc := hf l[k] (List.getElem_mem hlt)
    generalize l[k] = z at *
    repeat' (first|refine wS ?_|refine wB ?_|refine wK ?_|refine wR ?_|refine wT ?_|(refine wC rfl (fun hb=>?_) (fun hb=>?_)<;>(subst hb))|(refine rg 2 ?_;refine vV (by exact fs_lssT rfl rfl (by omega)) ?_)|(refine rg 3 ?_;refine mV ?_;refine aV ?_)|(refine rg 4 ?_;refine mmV ?_;refine mV ?_;refine vV (by exact ix T rfl (by omega) (zons_len l) q1) ?_;refine lV T ?_;refine vc_pcallb rfl rfl (hc) (.cons (view_self _ rfl) (.cons (hv _) .nil)) (by rintro _ ⟨_,rfl⟩;rfl) rfl ?_;rintro _ ⟨b,rfl⟩;dsimp only [putd])|(refine rg 5 ?_;refine mV ?_;refine aV ?_)|(refine rg 6 ?_;refine vV (by exact fs_addr rfl rfl (by omega) (by omega)) ?_;refine mV ?_)|refine nZ ?_)
    all_goals first | (exfalso;omega) | exact ⟨_,_,⟨rfl,_,rfl⟩,rQ⟩ | exact ⟨⟨k + 1,by omega⟩,by dsimp only;omega,⟨[],rfl,⟨rfl,(congrArg (fun x => some (AV.clo (.func fn) [] [x])) (map_idf _ fv hfr).symm),rfl,rfl,trivial⟩,trivial,List.nodup_nil,fun _ h => absurd h (Nat.not_lt_zero _)⟩⟩
  · repeat' (first|refine wS ?_|refine wR ?_|refine wE ?_|refine aw_condf rfl ?_|(((refine rg 2 ?_));(all_goals (refine vV (by exact fs_lssF rfl rfl (by omega)) ?_)))|(((refine rg 7 ?_));(all_goals (refine aV ?_)))|(refine nZ ?_))
    all_goals first | (exfalso;omega) | exact ⟨_,_,⟨rfl,_,rfl⟩,rQ⟩
theorem crowded_c (f : Flo) (zs : List Zon) (hz : ∀ z,z ∈ zs → (∀ c,c ∈ z.2.1 → 0 ≤ c ∧ c < f.k.length) ∧ z.2.1.length ≤ 9223372036854775807) (hzl : zs.length ≤ 9223372036854775807) (r2 r3 r4 : AV) (ks : List Int) (hnd : ks.Nodup) (rest : List AV) :
    PCall Tryz.prog 64 [.pr (floorC f ++ .rowE (zonsA zs) 5 :: r2 :: r3 :: r4 :: .mrow (ks.map kI) (rngA ks.length) :: rest) 0] [] anyI := by
  have hc := indexZ_c zs (.pr [.pr (floorC f ++ .rowE (zonsA zs) 5 :: r2 :: r3 :: r4 :: .mrow (ks.map kI) (rngA ks.length) :: rest) 0] 0) 105 hzl rfl (fun _ => .pr _ _) (fun z hm => crowd1_c f z (hz z hm).1 (hz z hm).2 _ _ _ _ ks hnd rest)
  refine pcall T Tryz.func64 rfl rfl rfl rfl ?_
  repeat' (first|refine wS ?_|refine wR ?_|(refine rg 0 ?_;refine vc_n (by exact fs_box rfl rfl) rfl ?_;refine aV ?_)|(refine rg 1 ?_;refine lV T ?_;refine nV ?_;refine fV T ?_;refine flV T ?_;refine vV (by exact fs_makeFunc rfl rfl) ?_;refine vc_pcallb rfl rfl (hc) (.cons (.row _ _ _) (.cons (.clo .nil (.cons (.ptr rfl (.cons (.pr _ _) .nil)) .nil)) .nil)) (by rintro _ ⟨_,rfl⟩;rfl) rfl ?_;rintro _ ⟨n,rfl⟩;dsimp only [putd];refine aV ?_)|refine nZ ?_)
  all_goals exact ⟨_,_,⟨rfl,_,rfl⟩,rQ⟩
theorem atI_small {f : Flo} (g : Fine f) (c : Int) : (0 ≤ (atI f c).1 ∧ (atI f c).1 ≤ 300) ∧ (0 ≤ (atI f c).2.1 ∧ (atI f c).2.1 ≤ 300) ∧ (0 ≤ (atI f c).2.2 ∧ (atI f c).2.2 ≤ 300) := by
  unfold atI
  split
  · rename_i h
    have := at_range g h.1 h.2
    have := g.bounds
    dsimp only
    omega
  · dsimp only;omega
theorem shs_gI {l : List (Int × List UInt8)} {i : Nat} (h : i < l.length) : (shsA l)[(i : Int).toNat]? = some [AV.i l[i].1,AV.s l[i].2] := by simp [h]
theorem beside_c2 (f : Flo) (g : Fine f) (aps : List (List UInt8 × List UInt8)) (shs : List (Int × List UInt8)) (hal : aps.length ≤ 9223372036854775807) (hsl : shs.length ≤ 9223372036854775807) (hnd : (shs.map (·.1)).Nodup) (r1 r4 : AV) (rest : List AV) :
    PCall Tryz.prog 63 [.pr (floorC f ++ r1 :: .rowE (apsA aps) 2 :: .rowE (shsA shs) 2 :: r4 :: .mrow ((shs.map (·.1)).map kI) (rngA shs.length) :: rest) 0] [] anyI := by
  have hlen : (shsA shs).length = shs.length := by simp
  have hml : (shs.map (·.1)).length = shs.length := by simp
  refine pcall T Tryz.func63 rfl rfl rfl rfl ?_
  repeat' (first|refine wS ?_|refine wB ?_|(refine rg 0 ?_;refine aV ?_)|(refine rg 1 ?_;refine mV ?_;refine nV ?_;refine fV T ?_;refine flV T ?_;refine vc_n (by exact fs_alloc T rfl) rfl ?_;refine vc_store T rfl rfl rfl rfl rfl rfl (by decide) rfl ?_)|(refine rg 2 ?_;refine mV ?_;refine nV ?_;refine fV T ?_;refine flV T ?_;refine qV T ?_;refine mV ?_)|refine nZ ?_)
  refine aw_loop (X := {k : Nat // k ≤ shs.length}) (fun k => [(0,.pr (floorC f ++ r1 :: .rowE (apsA aps) 2 :: .rowE (shsA shs) 2 :: r4 :: .mrow ((shs.map (·.1)).map kI) (rngA shs.length) :: rest) 0),(3,.ptr 0 0),(22,.rowE (shsA shs) 2),(23,.i (shsA shs).length),(24,.i k.1)]) (fun _ => [.cells (floorC f)]) (fun k => shs.length - k.1) ⟨0,by omega⟩ (by (refine ⟨[0],rfl,(by (repeat (first | exact trivial | refine ⟨rfl,?_⟩))),(by (repeat (first | exact trivial | refine ⟨Or.inl rfl,?_⟩ | refine ⟨Or.inr rfl,?_⟩))),by decide,(nz0)⟩)) ?_
  rintro ⟨k,hk⟩
  dsimp only
  by_cases hlt : k < shs.length
  · have q1 := shs_gI hlt
    generalize shs[k].2 = cl at *
    generalize shs[k].1 = c0 at *
    have hsm := atI_small g c0
    have hA := fat_c g c0
    generalize (atI f c0).1 = xa at *
    generalize (atI f c0).2.1 = xb at *
    generalize (atI f c0).2.2 = xz at *
    have d1 := cell_c g (xa + 1) xb xz
    have d2 := cell_c g xa (xb + 1) xz
    have d3 := cell_c g (xa - 1) xb xz
    have d4 := cell_c g xa (xb - 1) xz
    generalize cellI f (xa + 1) xb xz = e1 at *
    generalize cellI f xa (xb + 1) xz = e2 at *
    generalize cellI f (xa - 1) xb xz = e3 at *
    generalize cellI f xa (xb - 1) xz = e4 at *
    repeat' (first|refine wS ?_|refine wB ?_|refine wK ?_|refine wT ?_|(refine rg 3 ?_;refine vV (by exact fs_lssT rfl rfl (by omega)) ?_)|(refine rg 4 ?_;refine mV ?_;refine vV (by exact ix T rfl (by omega) (shs_len shs) q1) ?_;refine lV T ?_;refine vc_n (by exact fs_alloc T rfl) rfl ?_;refine aV ?_;refine vc_store T rfl rfl rfl rfl rfl rfl (by decide) rfl ?_)|(refine rg 5 ?_;refine lV T ?_;refine flV T ?_;refine vV (by exact kC (hA)) ?_;refine mV ?_;refine xV ?_;refine xV ?_;refine xV ?_;refine aaV ?_;refine aV ?_)|(refine aw_draw2k (id := 6) 104 [[],[],[1],[],[],[0,1,2,3,4],[],[],[],[8],[],[0,1,2,3,4,5,6,7,8,9,10],[],[],[13],[],[],[0,1,2,3,4,5,6,7,8,9,10,11,12,13,14,15,16],[],[],[],[20],[],[0,1,2,3,4,5,6,7,8,9,10,11,12,13,14,15,16,17,18,19,20,21,22],[0,1,2,3,4,5,6,7,8,9,10,11,12,13,14,15,16,17,18,19,20,21,22,23],[0,1,2,3,4,5,6,7,8,9,10,11,12,13,14,15,16,17,18,19,20,21,22,23,24],[]] [37,38,39,40,41,42,43,44,45,46,47,48,49,50,51,52,53,54,55,56,57,58,59,60,61,62,63] [[],[37],[37],[37,38,39],[37,38,39,40],[],[37,38,39,40,41,42],[37,38,39,40,41,42,43],[37,38,39,40,41,42,43,44],[37,38,39,40,41,42,43,44],[37,38,39,40,41,42,43,44,45,46],[],[37,38,39,40,41,42,43,44,45,46,47,48],[37,38,39,40,41,42,43,44,45,46,47,48,49],[37,38,39,40,41,42,43,44,45,46,47,48,49],[37,38,39,40,41,42,43,44,45,46,47,48,49,50,51],[37,38,39,40,41,42,43,44,45,46,47,48,49,50,51,52],[],[37,38,39,40,41,42,43,44,45,46,47,48,49,50,51,52,53,54],[37,38,39,40,41,42,43,44,45,46,47,48,49,50,51,52,53,54,55],[37,38,39,40,41,42,43,44,45,46,47,48,49,50,51,52,53,54,55,56],[37,38,39,40,41,42,43,44,45,46,47,48,49,50,51,52,53,54,55,56],[37,38,39,40,41,42,43,44,45,46,47,48,49,50,51,52,53,54,55,56,57,58],[],[],[],[37,38,39,40,41,42,43,44,45,46,47,48,49,50,51,52,53,54,55,56,57,58,59,60,61,62]] mixedP rfl (by decide +kernel) ?_;refine dL T ?_;refine dM ?_;refine dV rfl (by exact fs_addr rfl rfl (by omega) (by omega)) ?_;refine dM ?_;refine dM ?_;refine dV rfl (by exact kC (d1)) ?_;refine dL T ?_;refine dM ?_;refine dM ?_;refine dV rfl (by exact fs_addr rfl rfl (by omega) (by omega)) ?_;refine dM ?_;refine dV rfl (by exact kC (d2)) ?_;refine dL T ?_;refine dM ?_;refine dV rfl (by exact fs_subr rfl rfl (by omega) (by omega)) ?_;refine dM ?_;refine dM ?_;refine dV rfl (by exact kC (d3)) ?_;refine dL T ?_;refine dM ?_;refine dM ?_;refine dV rfl (by exact fs_subr rfl rfl (by omega) (by omega)) ?_;refine dM ?_;refine dV rfl (by exact kC (d4)) ?_;refine dw_n rfl rfl rfl (by exact fs_buildSlice T rfl rfl (by decide) (by decide) rfl rfl rfl) rfl ?_;refine dV rfl (by exact fs_lenOwn T rfl rfl) ?_;refine dM ?_;refine dw_fin rfl rfl (by ((dsimp only [ln1,ln2,List.append_nil,ln4,ln5,ln6,ln7,ln8,ln9,putAt,putd,allObjs,argEnv,un_v,un_ptr,un_ep,un_pr,un_sl,un_mp,un_row,un_agg,un_tup,un_clo,Nat.zero_add,lnb,Nat.reduceAdd,lnc,lnd];done))) ?_)|refine nZ ?_)
    all_goals try (exfalso;omega)
    refine aw_keep [(0,.pr (floorC f ++ r1 :: .rowE (apsA aps) 2 :: .rowE (shsA shs) 2 :: r4 :: .mrow ((shs.map (·.1)).map kI) (rngA shs.length) :: rest) 0),(3,.ptr 0 0),(4,.i k),(5,.ptr 1 0),(22,.rowE (shsA shs) 2),(23,.i (shsA shs).length),(24,.i k),(61,.sl 2 0 4 1),(62,.i 4),(63,.i 0)] [.cells (floorC f),.cells [.i c0,.s cl],.arr (ints [e1,e2,e3,e4]) 1] (by (refine ⟨[0,1,2],rfl,(by (repeat (first | exact trivial | refine ⟨rfl,?_⟩))),(by (repeat (first | exact trivial | refine ⟨Or.inl rfl,?_⟩ | refine ⟨Or.inr rfl,?_⟩))),by decide,(nz0)⟩)) ?_
    refine aw_frz 61 (es := ints [e1,e2,e3,e4]) rfl rfl rfl (ints_idfF _) ?_
    have hl4 : [e1,e2,e3,e4].length = 4 := rfl
    generalize [e1,e2,e3,e4] = l at *
    have hl5 : (ints l).length = l.length := ints_length _
    refine aw_loop (X := {j : Nat // j ≤ 4}) (fun j => [(0,.pr (floorC f ++ r1 :: .rowE (apsA aps) 2 :: .rowE (shsA shs) 2 :: r4 :: .mrow ((shs.map (·.1)).map kI) (rngA shs.length) :: rest) 0),(3,.ptr 0 0),(4,.i k),(5,.ptr 1 0),(22,.rowE (shsA shs) 2),(23,.i (shsA shs).length),(24,.i k),(61,.rowE (ints l) 1),(62,.i 4),(63,.i j.1)]) (fun _ => [.cells (floorC f),.cells [.i c0,.s cl]]) (fun j => 4 - j.1) ⟨0,by omega⟩ (by (refine ⟨[0,1],rfl,(by (repeat (first | exact trivial | refine ⟨rfl,?_⟩))),(by (repeat (first | exact trivial | refine ⟨Or.inl rfl,?_⟩ | refine ⟨Or.inr rfl,?_⟩))),by decide,(nz0)⟩)) ?_
    rintro ⟨j,hj⟩
    dsimp only
    by_cases hlt2 : j < 4
    · have q2 := ints_gI (l := l) (j := (j : Int)) 0 (by omega) rfl
      generalize l.getD j 0 = c at *
      by_cases hm : c ∈ shs.map (·.1)
      · obtain ⟨i,hi,hi2⟩ := keys_at hm
        rw [hml] at hi
        have hv := rng_at hi
        have q3 := shs_gI hi
        have hap := apart_c aps cl shs[i].2 hal
        generalize shs[i].2 = cl2 at *
        generalize shs[i].1 = c2 at *
        generalize apartB aps cl cl2 = y at *
        by_cases hik : i < k
        · repeat' (first|refine wS ?_|refine wB ?_|refine wK ?_|refine wR ?_|refine aw_condt rfl ?_|(refine wC rfl (fun hb => ?_) (fun hb => ?_) <;> (subst hb))|(((refine rg 7 ?_));(all_goals (refine vV (by exact fs_lssT rfl rfl (by omega)) ?_)))|(((refine rg 8 ?_));(all_goals (refine vV (by exact ix T rfl (by omega) (ints_len l) q2) ?_;refine lV T ?_;refine aV ?_)))|(((refine rg 9 ?_));(all_goals (refine mV ?_;refine nV ?_;refine fV T ?_;refine lV T ?_;refine mV ?_;refine vV (by exact fs_mapGetR mapII intK rfl rfl (isv_i _) (keys_good _) (good_i _) (keys_nd hnd) hi2 hv rfl) ?_;refine mV ?_;refine xV ?_;refine xV ?_;refine aV ?_;refine aV ?_)))|(refine aw_draw2k (id := 10) 104 [[],[0],[0,1],[0,1],[0,1,2,3],[0,1,2,3,4],[0,1,2,3,4,5],[0,1,2,3,4,5,6],[0,1,2,3,4,5,6,7],[0,1,2,3,4,5,6,7,8],[0,1,2,3,4,5,6,7,8,9],[0,1,2,3,4,5,6,7,8,9,10],[0,1,2,3,4,5,6],[0,1,2,3,4,5,6,12],[0,1,2,3,4,5,6],[0,1,2,3,4,5,6,14],[0,1,2,3,4,5,6,14,15],[0,1,2,3,4,5,6,14,15,16],[0,1,2,3,4,5,6,14,15,16,17],[0,1,2,3,4,5,6],[0,1,2,3,4,5,6,14,15,16,17,18,19],[0,1,2,3,4,5,6,14,15,16,17,18,19,20],[0,1,2,3,4,5,6,14,15,16,17,18,19,20,21],[0,1,2,3,4,5,6,7,8,9,10,11,12,13,14,15,16,17,18,19,20,21,22],[0,1,2,3,4,5,6,7,8,9,10,11,12,13,14,15,16,17,18,19,20,21,22,23]] [76,77,78,79,80,81,82,83,84,85,86,87,88,89,90,91,92,93,94,95,96,97,98,99,100] [[],[],[],[78],[],[],[],[],[],[],[],[],[83,84,85,86,87],[83,84,85,86,87],[83,84,85,86,87,88,89],[83,84,85,86,87,88,89],[83,84,85,86,87,88,89],[83,84,85,86,87,88,89],[83,84,85,86,87,88,89],[83,84,85,86,87,88,89,90,91,92,93,94],[83,84,85,86,87,88,89],[83,84,85,86,87,88,89],[83,84,85,86,87,88,89],[],[]] mixedP rfl (by decide +kernel) ?_;refine dM ?_;refine dM ?_;refine tM ?_;refine tM ?_;refine dT rfl (by exact fs_lssT rfl rfl (by omega)) ?_;refine dV rfl (by exact fs_pickt rfl rfl) ?_;refine dM ?_;refine tM ?_;refine dT rfl (by exact fs_nilCheck rfl rfl) ?_;refine tF T ?_;refine tF T ?_;refine tL T ?_;refine tF T ?_;refine tL T ?_;refine tM ?_;refine dT rfl (by exact fs_nilCheck rfl rfl) ?_;refine tF T ?_;refine tF T ?_;refine tL T ?_;refine tM ?_;refine dT rfl (by exact ix T rfl (by omega) (shs_len shs) q3) ?_;refine tF T ?_;refine tL T ?_;refine dT rfl (by exact kC (hap)) ?_;refine dV rfl (by exact fs_pickt rfl rfl) ?_;refine dw_fin rfl rfl (by ((dsimp only [ln1,ln2,List.append_nil,ln4,ln5,ln6,ln7,ln8,ln9,putAt,putd,allObjs,argEnv,un_v,un_ptr,un_ep,un_pr,un_sl,un_mp,un_row,un_agg,un_tup,un_clo,Nat.zero_add,lnb,Nat.reduceAdd,lnc,lnd];done))) ?_)|(((refine rg 11 ?_));(all_goals (refine mV ?_;refine aV ?_)))|(((refine rg 12 ?_));(all_goals (refine vV (by exact fs_addr rfl rfl (by omega) (by omega)) ?_;refine mV ?_)))|(refine nZ ?_))
          all_goals first | (exfalso;omega) | exact ⟨_,_,⟨rfl,_,rfl⟩,rQ⟩ | exact ⟨⟨j + 1,by omega⟩,by dsimp only;omega,by (refine ⟨[0,1],rfl,(by (repeat (first | exact trivial | refine ⟨rfl,?_⟩))),(by (repeat (first | exact trivial | refine ⟨Or.inl rfl,?_⟩ | refine ⟨Or.inr rfl,?_⟩))),by decide,(nz0)⟩)⟩
        · repeat' (first|refine wS ?_|refine wB ?_|refine wK ?_|refine aw_condt rfl ?_|refine aw_condf rfl ?_|(((refine rg 7 ?_));(all_goals (refine vV (by exact fs_lssT rfl rfl (by omega)) ?_)))|(((refine rg 8 ?_));(all_goals (refine vV (by exact ix T rfl (by omega) (ints_len l) q2) ?_;refine lV T ?_;refine aV ?_)))|(((refine rg 9 ?_));(all_goals (refine mV ?_;refine nV ?_;refine fV T ?_;refine lV T ?_;refine mV ?_;refine vV (by exact fs_mapGetR mapII intK rfl rfl (isv_i _) (keys_good _) (good_i _) (keys_nd hnd) hi2 hv rfl) ?_;refine mV ?_;refine xV ?_;refine xV ?_;refine aV ?_;refine aV ?_)))|(refine aw_draw2k (id := 10) 104 [[],[0],[0,1],[0,1],[0,1,2,3],[0,1,2,3,4],[0,1,2,3,4,5],[0,1,2,3,4,5,6],[0,1,2,3,4,5,6,7],[0,1,2,3,4,5,6,7,8],[0,1,2,3,4,5,6,7,8,9],[0,1,2,3,4,5,6,7,8,9,10],[0,1,2,3,4,5,6],[0,1,2,3,4,5,6,12],[0,1,2,3,4,5,6],[0,1,2,3,4,5,6,14],[0,1,2,3,4,5,6,14,15],[0,1,2,3,4,5,6,14,15,16],[0,1,2,3,4,5,6,14,15,16,17],[0,1,2,3,4,5,6],[0,1,2,3,4,5,6,14,15,16,17,18,19],[0,1,2,3,4,5,6,14,15,16,17,18,19,20],[0,1,2,3,4,5,6,14,15,16,17,18,19,20,21],[0,1,2,3,4,5,6,7,8,9,10,11,12,13,14,15,16,17,18,19,20,21,22],[0,1,2,3,4,5,6,7,8,9,10,11,12,13,14,15,16,17,18,19,20,21,22,23]] [76,77,78,79,80,81,82,83,84,85,86,87,88,89,90,91,92,93,94,95,96,97,98,99,100] [[],[],[],[78],[],[],[],[],[],[],[],[],[83,84,85,86,87],[83,84,85,86,87],[83,84,85,86,87,88,89],[83,84,85,86,87,88,89],[83,84,85,86,87,88,89],[83,84,85,86,87,88,89],[83,84,85,86,87,88,89],[83,84,85,86,87,88,89,90,91,92,93,94],[83,84,85,86,87,88,89],[83,84,85,86,87,88,89],[83,84,85,86,87,88,89],[],[]] mixedP rfl (by decide +kernel) ?_;refine dM ?_;refine dM ?_;refine tM ?_;refine tM ?_;refine dT rfl (by exact fs_lssF rfl rfl (by omega)) ?_;refine dV rfl (by exact fs_pickt rfl rfl) ?_;refine dM ?_;refine dG ?_;refine dG ?_;refine dG ?_;refine dG ?_;refine dG ?_;refine dG ?_;refine dG ?_;refine dG ?_;refine dG ?_;refine dG ?_;refine dG ?_;refine dG ?_;refine dG ?_;refine dG ?_;refine dG ?_;refine dG ?_;refine dG ?_;refine dV rfl (by exact fs_pickf rfl rfl) ?_;refine dw_fin rfl rfl (by ((dsimp only [ln1,ln2,List.append_nil,ln4,ln5,ln6,ln7,ln8,ln9,putAt,putd,allObjs,argEnv,un_v,un_ptr,un_ep,un_pr,un_sl,un_mp,un_row,un_agg,un_tup,un_clo,Nat.zero_add,lnb,Nat.reduceAdd,lnc,lnd];done))) ?_)|(((refine rg 12 ?_));(all_goals (refine vV (by exact fs_addr rfl rfl (by omega) (by omega)) ?_;refine mV ?_)))|(refine nZ ?_))
          all_goals first | (exfalso;omega) | exact ⟨_,_,⟨rfl,_,rfl⟩,rQ⟩ | exact ⟨⟨j + 1,by omega⟩,by dsimp only;omega,by (refine ⟨[0,1],rfl,(by (repeat (first | exact trivial | refine ⟨rfl,?_⟩))),(by (repeat (first | exact trivial | refine ⟨Or.inl rfl,?_⟩ | refine ⟨Or.inr rfl,?_⟩))),by decide,(nz0)⟩)⟩
      · repeat' (first|refine wS ?_|refine wB ?_|refine wK ?_|refine aw_condt rfl ?_|refine aw_condf rfl ?_|(((refine rg 7 ?_));(all_goals (refine vV (by exact fs_lssT rfl rfl (by omega)) ?_)))|(((refine rg 8 ?_));(all_goals (refine vV (by exact ix T rfl (by omega) (ints_len l) q2) ?_;refine lV T ?_;refine aV ?_)))|(((refine rg 9 ?_));(all_goals (refine mV ?_;refine nV ?_;refine fV T ?_;refine lV T ?_;refine mV ?_;refine vV (by exact fs_mapMissR (zA := .i 0) mapII intK zInt (fun _ _ _ => R_v_mk _) rfl rfl (isv_i _) (keys_good _) (good_i _) (fun e => hm (keys_mem.1 e))) ?_;refine mV ?_;refine xV ?_;refine xV ?_;refine aV ?_;refine aV ?_)))|(refine aw_draw2k (id := 10) 104 [[],[0],[0,1],[0,1],[0,1,2,3],[0,1,2,3,4],[0,1,2,3,4,5],[0,1,2,3,4,5,6],[0,1,2,3,4,5,6,7],[0,1,2,3,4,5,6,7,8],[0,1,2,3,4,5,6,7,8,9],[0,1,2,3,4,5,6,7,8,9,10],[0,1,2,3,4,5,6],[0,1,2,3,4,5,6,12],[0,1,2,3,4,5,6],[0,1,2,3,4,5,6,14],[0,1,2,3,4,5,6,14,15],[0,1,2,3,4,5,6,14,15,16],[0,1,2,3,4,5,6,14,15,16,17],[0,1,2,3,4,5,6],[0,1,2,3,4,5,6,14,15,16,17,18,19],[0,1,2,3,4,5,6,14,15,16,17,18,19,20],[0,1,2,3,4,5,6,14,15,16,17,18,19,20,21],[0,1,2,3,4,5,6,7,8,9,10,11,12,13,14,15,16,17,18,19,20,21,22],[0,1,2,3,4,5,6,7,8,9,10,11,12,13,14,15,16,17,18,19,20,21,22,23]] [76,77,78,79,80,81,82,83,84,85,86,87,88,89,90,91,92,93,94,95,96,97,98,99,100] [[],[],[],[78],[],[],[],[],[],[],[],[],[83,84,85,86,87],[83,84,85,86,87],[83,84,85,86,87,88,89],[83,84,85,86,87,88,89],[83,84,85,86,87,88,89],[83,84,85,86,87,88,89],[83,84,85,86,87,88,89],[83,84,85,86,87,88,89,90,91,92,93,94],[83,84,85,86,87,88,89],[83,84,85,86,87,88,89],[83,84,85,86,87,88,89],[],[]] mixedP rfl (by decide +kernel) ?_;refine dM ?_;refine dM ?_;refine dG ?_;refine dG ?_;refine dG ?_;refine dV rfl (by exact fs_pickf rfl rfl) ?_;refine dM ?_;refine dG ?_;refine dG ?_;refine dG ?_;refine dG ?_;refine dG ?_;refine dG ?_;refine dG ?_;refine dG ?_;refine dG ?_;refine dG ?_;refine dG ?_;refine dG ?_;refine dG ?_;refine dG ?_;refine dG ?_;refine dG ?_;refine dG ?_;refine dV rfl (by exact fs_pickf rfl rfl) ?_;refine dw_fin rfl rfl (by ((dsimp only [ln1,ln2,List.append_nil,ln4,ln5,ln6,ln7,ln8,ln9,putAt,putd,allObjs,argEnv,un_v,un_ptr,un_ep,un_pr,un_sl,un_mp,un_row,un_agg,un_tup,un_clo,Nat.zero_add,lnb,Nat.reduceAdd,lnc,lnd];done))) ?_)|(((refine rg 12 ?_));(all_goals (refine vV (by exact fs_addr rfl rfl (by omega) (by omega)) ?_;refine mV ?_)))|(refine nZ ?_))
        all_goals first | (exfalso;omega) | exact ⟨_,_,⟨rfl,_,rfl⟩,rQ⟩ | exact ⟨⟨j + 1,by omega⟩,by dsimp only;omega,by (refine ⟨[0,1],rfl,(by (repeat (first | exact trivial | refine ⟨rfl,?_⟩))),(by (repeat (first | exact trivial | refine ⟨Or.inl rfl,?_⟩ | refine ⟨Or.inr rfl,?_⟩))),by decide,(nz0)⟩)⟩
    · repeat' (first|refine wS ?_|refine wE ?_|refine aw_condf rfl ?_|(((refine rg 7 ?_));(all_goals (refine vV (by exact fs_lssF rfl rfl (by omega)) ?_)))|(((refine rg 13 ?_));(all_goals (refine vV (by exact fs_addr rfl rfl (by omega) (by omega)) ?_;refine mV ?_)))|(refine nZ ?_))
      all_goals first | (exfalso;omega) | exact ⟨⟨k + 1,by omega⟩,by dsimp only;omega,by (refine ⟨[0],rfl,(by (repeat (first | exact trivial | refine ⟨rfl,?_⟩))),(by (repeat (first | exact trivial | refine ⟨Or.inl rfl,?_⟩ | refine ⟨Or.inr rfl,?_⟩))),by decide,(nz0)⟩)⟩
  · repeat' (first|refine wS ?_|refine wR ?_|refine wE ?_|refine aw_condf rfl ?_|(((refine rg 3 ?_));(all_goals (refine vV (by exact fs_lssF rfl rfl (by omega)) ?_)))|(((refine rg 14 ?_));(all_goals (refine aV ?_)))|(refine nZ ?_))
    all_goals first | (exfalso;omega) | exact ⟨_,_,⟨rfl,_,rfl⟩,rQ⟩
structure Mk where
  zs : List Zon
  aps : List (List UInt8 × List UInt8)
  shs : List (Int × List UInt8)
  rbs : List (Int × Int)
  zk : List Int
def tru (n : Nat) : List AV := List.replicate n (.b true)
theorem tru_snoc (n : Nat) : tru n ++ [.b true] = tru (n + 1) := by unfold tru;rw [List.replicate_succ']
theorem tru_at {n i : Nat} (h : i < n) : (tru n)[i]? = some (.b true) := by unfold tru;simp [h]
theorem tru_set (n i : Nat) : (tru n).set i (.b true) = tru n := by
  unfold tru
  apply List.ext_getElem?
  intro j
  rw [List.getElem?_set]
  split
  · rename_i e;subst e
    split
    · rename_i h;simp at h;simp [h]
    · rename_i h;simp at h;simp [h]
  · rfl
theorem rng_snoc (n : Nat) : rngA n ++ [.i (n : Int)] = rngA (n + 1) := by unfold rngA;rw [List.range_succ];simp
theorem idfL_all : ∀ {l : List AV}, (∀ x, x ∈ l → x.idf = true) → AV.idfL l = true
  | [],_ => rfl
  | x :: l,h => by simp only [AV.idfL,Bool.and_eq_true];exact ⟨h x List.mem_cons_self,idfL_all fun y hy => h y (List.mem_cons_of_mem _ hy)⟩
theorem tru_idf (n : Nat) : AV.idfL (tru n) = true := idfL_all fun x hx => by unfold tru at hx;rw [(List.mem_replicate.1 hx).2];rfl
theorem rng_idf (n : Nat) : AV.idfL (rngA n) = true := idfL_all fun x hx => by unfold rngA at hx;obtain ⟨i,_,rfl⟩ := List.mem_map.1 hx;rfl
def Mk.cl (m : Mk) : List Int := m.shs.map (·.1)
def Mk.rc (m : Mk) : List Int := m.rbs.map (·.1)
abbrev kS (l : List UInt8) : Value := .string ⟨l.toArray⟩
def Mk.nm (m : Mk) : List Value := m.zs.map fun z => kS z.1
abbrev mkC (f : Flo) (m : Mk) (oz oa os ob : Nat) : List AV := floorC f ++ [.sl oz 0 m.zs.length 5,.sl oa 0 m.aps.length 2,.sl os 0 m.shs.length 2,.sl ob 0 m.rbs.length 2,.mp 1,.mp 2,.mp 3,.mp 4,.mp 5,.nils,.nils]
abbrev mkP (f : Flo) (m : Mk) (oz oa os ob : Nat) (z a s r : AB) : Hp := [.cells (mkC f m oz oa os ob),.mapO (m.cl.map kI) (rngA m.shs.length),.mapO (m.rc.map kI) (tru m.rbs.length),.mapO (m.zk.map kI) (tru m.zk.length),.mapO m.nm (rngA m.zs.length),.mapO [] [],z,a,s,r]
abbrev mkM (f : Flo) (m : Mk) : Hp := mkP f m 6 7 8 9 (.arr (zonsA m.zs) 5) (.arr (apsA m.aps) 2) (.arr (shsA m.shs) 2) (.arr (stksA m.rbs) 2)
theorem sub_map {h : Hp} {i : Nat} {θ : Nat → Nat} {ks ks' : List Value} {vs vs' : List AV} (hk : h[i]? = some (.mapO ks' vs')) (hks : ks' = ks) (he : vs' = vs) (hi : AV.idfL vs = true) : h[i]? = some ((AB.mapO ks vs).map θ) := by
  subst he hks
  rw [hk]
  show _ = some (AB.mapO ks' (AV.mapL θ vs'))
  rw [mapL_idf θ vs' hi]
theorem zons_idf (l : List Zon) : ∀ e,e ∈ zonsA l → AV.idfL e = true := by intro e he;obtain ⟨i,_,rfl⟩ := List.mem_map.1 he;rfl
theorem aps_idf (l : List (List UInt8 × List UInt8)) : ∀ e,e ∈ apsA l → AV.idfL e = true := by intro e he;obtain ⟨i,_,rfl⟩ := List.mem_map.1 he;rfl
theorem shs_idf (l : List (Int × List UInt8)) : ∀ e,e ∈ shsA l → AV.idfL e = true := by intro e he;obtain ⟨i,_,rfl⟩ := List.mem_map.1 he;rfl
theorem stks_idf (l : List (Int × Int)) : ∀ e,e ∈ stksA l → AV.idfL e = true := by intro e he;obtain ⟨i,_,rfl⟩ := List.mem_map.1 he;rfl
theorem lt10 : ∀ i : Nat,i < 10 → ([0,1,2,3,4,5,6,7,8,9] : List Nat)[i]? = some i := by decide
theorem mk_view {h : Hp} {f : Flo} {m : Mk} {rest : Hp} (hh : h = mkM f m ++ rest) : View h (.ptr 0 0) (.pr (floorC f ++ .rowE (zonsA m.zs) 5 :: .rowE (apsA m.aps) 2 :: .rowE (shsA m.shs) 2 :: .rowE (stksA m.rbs) 2 :: .mrow (m.cl.map kI) (rngA m.shs.length) :: [.mrow (m.rc.map kI) (tru m.rbs.length),.mrow (m.zk.map kI) (tru m.zk.length),.mrow m.nm (rngA m.zs.length),.mrow [] [],.nils,.nils]) 0) := by
  subst hh
  refine .ptr rfl (.cons (.v _) (.cons (.v _) (.cons (.v _) (.cons (.row _ _ _) (.cons (.row _ _ _) (.cons ?_ (.cons ?_ (.cons ?_ (.cons ?_ (.cons ?_ (.cons ?_ (.cons ?_ (.cons ?_ (.cons ?_ (.cons (.v _) (.cons (.v _) .nil))))))))))))))))
  · exact view_rows rfl (by simp) (pln_flat (fun _ => rfl) _)
  · exact view_rows rfl (by simp) (pln_flat (fun _ => rfl) _)
  · exact view_rows rfl (by simp) (pln_flat (fun _ => rfl) _)
  · exact view_rows rfl (by simp) (pln_flat (fun _ => rfl) _)
  · exact .mp rfl (viewL_self _ (by unfold rngA;induction (List.range m.shs.length) with | nil => rfl | cons a l ih => exact ih))
  · exact .mp rfl (viewL_self _ (by unfold tru;induction m.rbs.length with | zero => rfl | succ n ih => rw [List.replicate_succ];exact ih))
  · exact .mp rfl (viewL_self _ (by unfold tru;induction m.zk.length with | zero => rfl | succ n ih => rw [List.replicate_succ];exact ih))
  · exact .mp rfl (viewL_self _ (by unfold rngA;induction (List.range m.zs.length) with | nil => rfl | cons a l ih => exact ih))
  · exact .mp rfl .nil
end Go.Proofs.YtdmajnjoeidgeaaGreat
namespace Go.Proofs.YtdmajnjoeidgeaaGreat
open Go Go.Ab Go.Fl Go.Shelf Go.Proofs Go.MapKept
attribute [local irreducible] VC AW FStep ACall PCall StrStruct StrT AStep
set_option maxHeartbeats 4000000
theorem lt10x (k : Nat) : ∀ i : Nat,i < 10 → ([0,1,2,3,4,5,6,7,8,9,k] : List Nat)[i]? = some i := fun i hi => by
  have : i = 0 ∨ i = 1 ∨ i = 2 ∨ i = 3 ∨ i = 4 ∨ i = 5 ∨ i = 6 ∨ i = 7 ∨ i = 8 ∨ i = 9 := by omega
  rcases this with h | h | h | h | h | h | h | h | h | h <;> subst h <;> rfl
theorem shs_next (l : List (Int × List UInt8)) (c : Int) (cl : List UInt8) : ((shsA l).drop 0).take l.length ++ [[AV.i c,AV.s cl]] = shsA (l ++ [(c,cl)]) := by
  rw [List.drop_zero,List.take_of_length_le (by simp)]
  simp
theorem cl_next (m : Mk) (c : Int) (cl : List UInt8) : m.cl.map kI ++ [kI c] = ((m.shs ++ [(c,cl)]).map (·.1)).map kI := by unfold Mk.cl;simp
theorem addShelf_c (f : Flo) (m : Mk) (c : Int) (cl : List UInt8) (hcl : cl.length ≤ 9223372036854775807) (hnd : m.cl.Nodup) :
    PCall Tryz.prog 61 [.ptr 0 0,.agg [.i c,.s cl]] (mkM f m) (fun r o => ∃ e,r = .i e ∧ ((e ≠ 0 ∧ o = mkM f m) ∨ (e = 0 ∧ inF f c = true ∧ standB (kndF f c) = true ∧ c ∉ m.cl ∧ o = mkP f { m with shs := m.shs ++ [(c,cl)] } 6 7 10 9 (.arr (zonsA m.zs) 5) (.arr (apsA m.aps) 2) .gone (.arr (stksA m.rbs) 2) ++ [.arr (shsA (m.shs ++ [(c,cl)])) 2]))) := by
  have hn := name_c cl hcl
  have hk := kindAt_c f (.rowE (zonsA m.zs) 5 :: .rowE (apsA m.aps) 2 :: .rowE (shsA m.shs) 2 :: .rowE (stksA m.rbs) 2 :: .mrow (m.cl.map kI) (rngA m.shs.length) :: [.mrow (m.rc.map kI) (tru m.rbs.length),.mrow (m.zk.map kI) (tru m.zk.length),.mrow m.nm (rngA m.zs.length),.mrow [] [],.nils,.nils]) c
  have hs := stands_c (kndF f c)
  have hln : m.shs.length + 1 = (m.shs ++ [(c,cl)]).length := by simp
  have hrn : rngA m.shs.length ++ [.i (m.shs.length : Int)] = rngA (m.shs ++ [(c,cl)]).length := by rw [rng_snoc,hln]
  have hml : m.cl.length = m.shs.length := by unfold Mk.cl;simp
  refine pcall T Tryz.func61 rfl rfl rfl rfl ?_
  cases hin : inF f c with
  | false =>
    rw [hin] at hk
    repeat' (first|refine wS ?_|refine wK ?_|refine wR ?_|refine wT ?_|refine wU ?_|(refine wC rfl (fun hb=>?_) (fun hb=>?_)<;>(((try simp only [nm] at hb);try (exfalso;omega))))|(refine rg 0 ?_;refine vc_n (by exact fs_box rfl rfl) rfl ?_;refine aV ?_)|(refine rg 1 ?_;refine flV T ?_;refine vV (by exact fs_neqS rfl rfl) ?_;refine mV ?_;refine vc_split rfl rfl (fun hb=>?_) (fun hb=>?_)<;>((rw [hb];(try simp only [nm] at hb);try ((exfalso;omega);done)));(all_goals first|(refine gT ?_;(refine fV T ?_);refine gT ?_;(refine lV T ?_);refine gT ?_;(refine vc_pcallb rfl rfl (hn) (.cons (.v _) .nil) (by rintro _ ⟨_,rfl⟩;rfl) rfl ?_;rintro _ ⟨b,rfl⟩;dsimp only [putd]))|(iterate 3 refine gF ?_));(all_goals first|(refine gT ?_;(refine vV (by exact fs_not rfl) ?_))|(refine gF ?_));(all_goals (refine pV ?_)))|(refine rg 2 ?_;refine aV ?_)|(refine rg 3 ?_;refine mV ?_;refine flV T ?_;refine vV (by exact fs_callb0 rfl rfl hk (.cons (mk_view rfl) (.cons (.v _) .nil)) rfl rfl) ?_;refine mV ?_;refine xV ?_;refine xV ?_;refine aaV ?_)|(refine rg 4 ?_;refine mV ?_;refine vV (by exact fs_not rfl) ?_)|(refine rg 5 ?_;refine aV ?_)|refine nZ ?_)
    all_goals first | (exfalso;omega) | exact ⟨_,_,⟨_,rfl,.inl ⟨by decide,rfl⟩⟩,.inl rfl,[0,1,2,3,4,5,6,7,8,9],_,rfl,rfl,rfl,⟨.inr rfl,.inr (sub_map rfl rfl rfl (rng_idf _)),.inr (sub_map rfl rfl rfl (tru_idf _)),.inr (sub_map rfl rfl rfl (tru_idf _)),.inr (sub_map rfl rfl rfl (rng_idf _)),.inr rfl,.inr (sub_arr rfl rfl (zons_idf _)),.inr (sub_arr rfl rfl (aps_idf _)),.inr (sub_arr rfl rfl (shs_idf _)),.inr (sub_arr rfl rfl (stks_idf _)),trivial⟩,by decide,lt10⟩
  | true =>
    rw [hin] at hk
    cases hst : standB (kndF f c) with
    | false =>
      rw [hst] at hs
      repeat' (first|refine wS ?_|refine wK ?_|refine wR ?_|refine wT ?_|refine wU ?_|(refine wC rfl (fun hb=>?_) (fun hb=>?_)<;>(((try simp only [nm] at hb);try (exfalso;omega))))|(refine rg 0 ?_;refine vc_n (by exact fs_box rfl rfl) rfl ?_;refine aV ?_)|(refine rg 1 ?_;refine flV T ?_;refine vV (by exact fs_neqS rfl rfl) ?_;refine mV ?_;refine vc_split rfl rfl (fun hb=>?_) (fun hb=>?_)<;>((rw [hb];(try simp only [nm] at hb);try ((exfalso;omega);done)));(all_goals first|(refine gT ?_;(refine fV T ?_);refine gT ?_;(refine lV T ?_);refine gT ?_;(refine vc_pcallb rfl rfl (hn) (.cons (.v _) .nil) (by rintro _ ⟨_,rfl⟩;rfl) rfl ?_;rintro _ ⟨b,rfl⟩;dsimp only [putd]))|(iterate 3 refine gF ?_));(all_goals first|(refine gT ?_;(refine vV (by exact fs_not rfl) ?_))|(refine gF ?_));(all_goals (refine pV ?_)))|(refine rg 2 ?_;refine aV ?_)|(refine rg 3 ?_;refine mV ?_;refine flV T ?_;refine vV (by exact fs_callb0 rfl rfl hk (.cons (mk_view rfl) (.cons (.v _) .nil)) rfl rfl) ?_;refine mV ?_;refine xV ?_;refine xV ?_;refine aaV ?_)|(refine rg 4 ?_;refine mV ?_;refine vV (by exact fs_not rfl) ?_)|(refine rg 6 ?_;refine mV ?_;refine vV (by exact kC (hs)) ?_;refine vV (by exact fs_not rfl) ?_)|(refine rg 7 ?_;refine aV ?_)|refine nZ ?_)
      all_goals first | (exfalso;omega) | exact ⟨_,_,⟨_,rfl,.inl ⟨by decide,rfl⟩⟩,.inl rfl,[0,1,2,3,4,5,6,7,8,9],_,rfl,rfl,rfl,⟨.inr rfl,.inr (sub_map rfl rfl rfl (rng_idf _)),.inr (sub_map rfl rfl rfl (tru_idf _)),.inr (sub_map rfl rfl rfl (tru_idf _)),.inr (sub_map rfl rfl rfl (rng_idf _)),.inr rfl,.inr (sub_arr rfl rfl (zons_idf _)),.inr (sub_arr rfl rfl (aps_idf _)),.inr (sub_arr rfl rfl (shs_idf _)),.inr (sub_arr rfl rfl (stks_idf _)),trivial⟩,by decide,lt10⟩
    | true =>
      rw [hst] at hs
      by_cases hm : c ∈ m.cl
      · obtain ⟨i,hi,hi2⟩ := keys_at hm
        rw [hml] at hi
        have hv := rng_at hi
        repeat' (first|refine wS ?_|refine wK ?_|refine wR ?_|refine wT ?_|refine wU ?_|(refine wC rfl (fun hb=>?_) (fun hb=>?_)<;>(((try simp only [nm] at hb);try (exfalso;omega))))|(refine rg 0 ?_;refine vc_n (by exact fs_box rfl rfl) rfl ?_;refine aV ?_)|(refine rg 1 ?_;refine flV T ?_;refine vV (by exact fs_neqS rfl rfl) ?_;refine mV ?_;refine vc_split rfl rfl (fun hb=>?_) (fun hb=>?_)<;>((rw [hb];(try simp only [nm] at hb);try ((exfalso;omega);done)));(all_goals first|(refine gT ?_;(refine fV T ?_);refine gT ?_;(refine lV T ?_);refine gT ?_;(refine vc_pcallb rfl rfl (hn) (.cons (.v _) .nil) (by rintro _ ⟨_,rfl⟩;rfl) rfl ?_;rintro _ ⟨b,rfl⟩;dsimp only [putd]))|(iterate 3 refine gF ?_));(all_goals first|(refine gT ?_;(refine vV (by exact fs_not rfl) ?_))|(refine gF ?_));(all_goals (refine pV ?_)))|(refine rg 2 ?_;refine aV ?_)|(refine rg 3 ?_;refine mV ?_;refine flV T ?_;refine vV (by exact fs_callb0 rfl rfl hk (.cons (mk_view rfl) (.cons (.v _) .nil)) rfl rfl) ?_;refine mV ?_;refine xV ?_;refine xV ?_;refine aaV ?_)|(refine rg 4 ?_;refine mV ?_;refine vV (by exact fs_not rfl) ?_)|(refine rg 6 ?_;refine mV ?_;refine vV (by exact kC (hs)) ?_;refine vV (by exact fs_not rfl) ?_)|(refine aw_draw2k (id := 8) 72 [[],[0],[0,1],[0,1,2],[],[4],[0,1,2,3,4,5],[0,1,2,3,4,5,6],[0,1,2,3,4,5,6,7],[0,1,2,3,4,5,6,7],[0,1,2,3,4,5,6,7,8]] [31,32,33,34,35,36,37,30,38,39,7] [[],[],[],[],[31,32,33,34],[31,32,33,34],[],[],[],[38],[39]] mixedP rfl (by decide +kernel) ?_;refine dM ?_;refine dV rfl (by exact fs_nilCheck rfl rfl) ?_;refine dF T ?_;refine dL T ?_;refine dF T ?_;refine dL T ?_;refine dV rfl (by exact fs_mapGet mapII intK rfl rfl (isv_i _) rfl (keys_good _) (good_i _) (keys_nd hnd) hi2 hv) ?_;refine dM ?_;refine dV rfl (by exact fs_extract rfl rfl) ?_;refine dV rfl (by exact fs_extract rfl rfl) ?_;refine dV rfl (by exact fs_assign rfl) ?_;refine dw_fin rfl rfl (by ((dsimp only [ln1,ln2,List.append_nil,ln4,ln5,ln6,ln7,ln8,ln9,putAt,putd,allObjs,argEnv,un_v,un_ptr,un_ep,un_pr,un_sl,un_mp,un_row,un_agg,un_tup,un_clo,Nat.zero_add,lnb,Nat.reduceAdd,lnc,lnd];done))) ?_;refine aV ?_)|(refine rg 9 ?_;refine mV ?_)|(refine rg 10 ?_;refine aV ?_)|refine nZ ?_)
        all_goals first | (exfalso;omega) | exact ⟨_,_,⟨_,rfl,.inl ⟨by decide,rfl⟩⟩,.inl rfl,[0,1,2,3,4,5,6,7,8,9],_,rfl,rfl,rfl,⟨.inr rfl,.inr (sub_map rfl rfl rfl (rng_idf _)),.inr (sub_map rfl rfl rfl (tru_idf _)),.inr (sub_map rfl rfl rfl (tru_idf _)),.inr (sub_map rfl rfl rfl (rng_idf _)),.inr rfl,.inr (sub_arr rfl rfl (zons_idf _)),.inr (sub_arr rfl rfl (aps_idf _)),.inr (sub_arr rfl rfl (shs_idf _)),.inr (sub_arr rfl rfl (stks_idf _)),trivial⟩,by decide,lt10⟩
      · repeat' (first|refine wS ?_|refine wK ?_|refine wR ?_|refine aw_condf rfl ?_|(refine wC rfl (fun hb => ?_) (fun hb => ?_) <;> (((try simp only [nm] at hb);try (exfalso;omega))))|(((refine rg 0 ?_));(all_goals (refine vc_n (by exact fs_box rfl rfl) rfl ?_;refine aV ?_)))|(((refine rg 1 ?_));(all_goals (refine fV T ?_;refine lV T ?_;refine vV (by exact fs_neqS rfl rfl) ?_;refine mV ?_));(all_goals (refine vc_split rfl rfl (fun hb => ?_) (fun hb => ?_) <;> ((rw [hb];(try simp only [nm] at hb);try ((exfalso;omega);done)))));(all_goals first|(refine gT ?_;(refine fV T ?_);refine gT ?_;(refine lV T ?_);refine gT ?_;(refine vc_pcallb rfl rfl (hn) (.cons (.v _) .nil) (by rintro _ ⟨_,rfl⟩;rfl) rfl ?_;rintro _ ⟨b,rfl⟩;dsimp only [putd]))|(iterate 3 refine gF ?_));(all_goals first|(refine gT ?_;(refine vV (by exact fs_not rfl) ?_))|(refine gF ?_));(all_goals (refine pV ?_)))|(((refine rg 2 ?_));(all_goals (refine aV ?_)))|(((refine rg 3 ?_));(all_goals (refine mV ?_;refine fV T ?_;refine lV T ?_;refine vV (by exact fs_callb0 rfl rfl hk (.cons (mk_view rfl) (.cons (.v _) .nil)) rfl rfl) ?_;refine mV ?_;refine xV ?_;refine xV ?_;refine aV ?_;refine aV ?_)))|(((refine rg 4 ?_));(all_goals (refine mV ?_;refine vV (by exact fs_not rfl) ?_)))|(((refine rg 6 ?_));(all_goals (refine mV ?_;refine vV (by exact kC (hs)) ?_;refine vV (by exact fs_not rfl) ?_)))|(refine aw_draw2k (id := 8) 72 [[],[0],[0,1],[0,1,2],[],[4],[0,1,2,3,4,5],[0,1,2,3,4,5,6],[0,1,2,3,4,5,6,7],[0,1,2,3,4,5,6,7],[0,1,2,3,4,5,6,7,8]] [31,32,33,34,35,36,37,30,38,39,7] [[],[],[],[],[31,32,33,34],[31,32,33,34],[],[],[],[38],[39]] mixedP rfl (by decide +kernel) ?_;refine dM ?_;refine dV rfl (by exact fs_nilCheck rfl rfl) ?_;refine dF T ?_;refine dL T ?_;refine dF T ?_;refine dL T ?_;refine dV rfl (by exact fs_mapMiss (zA := .i 0) mapII intK zInt (fun _ _ _ => R_v_mk _) rfl rfl (isv_i _) rfl (keys_good _) (good_i _) (fun e => hm (keys_mem.1 e))) ?_;refine dM ?_;refine dV rfl (by exact fs_extract rfl rfl) ?_;refine dV rfl (by exact fs_extract rfl rfl) ?_;refine dV rfl (by exact fs_assign rfl) ?_;refine dw_fin rfl rfl (by ((dsimp only [ln1,ln2,List.append_nil,ln4,ln5,ln6,ln7,ln8,ln9,putAt,putd,allObjs,argEnv,un_v,un_ptr,un_ep,un_pr,un_sl,un_mp,un_row,un_agg,un_tup,un_clo,Nat.zero_add,lnb,Nat.reduceAdd,lnc,lnd];done))) ?_;refine aV ?_)|(((refine rg 9 ?_));(all_goals (refine mV ?_)))|(((refine rg 11 ?_));(all_goals (refine mV ?_;refine nV ?_;refine fV T ?_;refine fV T ?_;refine lV T ?_;(refine qV T ?_);refine vV (by exact fs_geq rfl rfl) ?_)))|(((refine rg 12 ?_));(all_goals (refine aV ?_)))|(refine aw_draw2k (id := 13) 72 [[],[0],[0,1],[0,1,2],[],[4],[],[6],[6,7],[6,7,8],[6,7,8,9],[6,7,8,9,10]] [48,49,50,51,52,53,54,55,56,57,58,59] [[],[],[],[],[48,49,50,51],[48,49,50,51],[48,49,50,51,52,53],[48,49,50,51,52,53],[48,49,50,51,52,53],[48,49,50,51,52,53],[48,49,50,51,52,53],[48,49,50,51,52,53]] mixedP rfl (by decide +kernel) ?_;refine dM ?_;refine dV rfl (by exact fs_nilCheck rfl rfl) ?_;refine dF T ?_;refine dL T ?_;refine dF T ?_;refine dL T ?_;refine dM ?_;refine dV rfl (by exact fs_nilCheck rfl rfl) ?_;refine dF T ?_;refine dF T ?_;refine dL T ?_;refine dV rfl (by exact fs_lenOwn T rfl rfl) ?_;refine dw_fin rfl rfl (by ((dsimp only [ln1,ln2,List.append_nil,ln4,ln5,ln6,ln7,ln8,ln9,putAt,putd,allObjs,argEnv,un_v,un_ptr,un_ep,un_pr,un_sl,un_mp,un_row,un_agg,un_tup,un_clo,Nat.zero_add,lnb,Nat.reduceAdd,lnc,lnd];done))) ?_;refine vc_mapNew mapII intK rfl rfl (isv_i _) rfl rfl (keys_good _) (good_i _) (fun e => hm (keys_mem.1 e)) ?_)|(refine nZ ?_))
        all_goals first | (exfalso;omega) | exact ⟨_,_,⟨_,rfl,.inl ⟨by decide,rfl⟩⟩,.inl rfl,[0,1,2,3,4,5,6,7,8,9],_,rfl,rfl,rfl,⟨.inr rfl,.inr (sub_map rfl rfl rfl (rng_idf _)),.inr (sub_map rfl rfl rfl (tru_idf _)),.inr (sub_map rfl rfl rfl (tru_idf _)),.inr (sub_map rfl rfl rfl (rng_idf _)),.inr rfl,.inr (sub_arr rfl rfl (zons_idf _)),.inr (sub_arr rfl rfl (aps_idf _)),.inr (sub_arr rfl rfl (shs_idf _)),.inr (sub_arr rfl rfl (stks_idf _)),trivial⟩,by decide,lt10⟩ | skip
        all_goals
          repeat' (first|refine wS ?_|refine wR ?_|(refine aw_draw4k (id := 14) 72 [[],[],[1],[1,2],[1,2,3],[1,2,3,4],[],[6],[1,2,3,4,5,6,7],[0,1,2,3,4,5,6,7,8],[0,1,2,3,4,5,6,7,8,9],[0,1,2,3,4,5,6,7,8,9,10],[0,1,2,3,4,5,6,7,8,9,10,11]] [60,61,62,63,64,65,66,67,68,69,70,71] [[],[60],[60],[60],[60],[60],[60,61,62,63,64,65],[60,61,62,63,64,65],[60],[],[],[],[]] [(8,8),(12,0)] mixedP rfl (by decide +kernel) ?_;refine dwa_v rfl rfl rfl rfl (by exact fs_move rfl) ?_;refine dwa_v rfl rfl rfl rfl (by exact fs_move rfl) ?_;refine dwa_v rfl rfl rfl rfl (by exact fs_nilCheck rfl rfl) ?_;refine dwa_v rfl rfl rfl rfl (by exact fs_fieldAddr T rfl rfl rfl) ?_;refine dwa_v rfl rfl rfl rfl (by exact fs_fieldAddr T rfl rfl rfl) ?_;refine dwa_v rfl rfl rfl rfl (by exact fs_load T rfl rfl rfl rfl) ?_;refine dwa_v rfl rfl rfl rfl (by exact fs_load T rfl rfl rfl rfl) ?_;refine dwa_n rfl rfl rfl rfl (by exact fs_buildSlice T rfl rfl (by decide) (by decide) rfl rfl rfl) rfl ?_;refine dwa_a1 rfl rfl rfl rfl (Nat.le_of_ble_eq_true rfl) (by exact as_append T rfl rfl rfl rfl rfl rfl (by simp) (Elems.whole rfl rfl) rfl (by simp;omega) (by simp;omega)) ?_;refine dwa_v rfl rfl rfl rfl (by exact fs_nilCheck rfl rfl) ?_;refine dwa_v rfl rfl rfl rfl (by exact fs_fieldAddr T rfl rfl rfl) ?_;refine dwa_v rfl rfl rfl rfl (by exact fs_fieldAddr T rfl rfl rfl) ?_;refine dwa_st rfl rfl rfl rfl (Nat.le_of_ble_eq_true rfl) T rfl rfl rfl rfl rfl rfl (by decide) rfl ?_;refine dwa_fin rfl rfl rfl (by exact rfl) ?_)|(refine rg 15 ?_;refine aV ?_)|refine nZ ?_)
          refine ⟨_,_,⟨0,rfl,.inr ⟨rfl,rfl,rfl,hm,rfl⟩⟩,.inl rfl,[0,1,2,3,4,5,6,7,8,9,12],_,rfl,rfl,rfl,⟨.inr ?_,.inr (sub_map rfl (cl_next m c cl) hrn (rng_idf _)),.inr (sub_map rfl rfl rfl (tru_idf _)),.inr (sub_map rfl rfl rfl (tru_idf _)),.inr (sub_map rfl rfl rfl (rng_idf _)),.inr rfl,.inr (sub_arr rfl rfl (zons_idf _)),.inr (sub_arr rfl rfl (aps_idf _)),.inl rfl,.inr (sub_arr rfl rfl (stks_idf _)),.inr (sub_arr rfl (shs_next m.shs c cl) (shs_idf _)),trivial⟩,by decide,lt10x 12⟩
          exact congrArg (fun n : Nat => some (AB.cells (floorC f ++ [.sl 6 0 m.zs.length 5,.sl 7 0 m.aps.length 2,.sl 12 0 n 2,.sl 9 0 m.rbs.length 2,.mp 1,.mp 2,.mp 3,.mp 4,.mp 5,.nils,.nils]))) hln
abbrev mkR (m : Mk) : List AV := .rowE (zonsA m.zs) 5 :: .rowE (apsA m.aps) 2 :: .rowE (shsA m.shs) 2 :: .rowE (stksA m.rbs) 2 :: .mrow (m.cl.map kI) (rngA m.shs.length) :: [.mrow (m.rc.map kI) (tru m.rbs.length),.mrow (m.zk.map kI) (tru m.zk.length),.mrow m.nm (rngA m.zs.length),.mrow [] [],.nils,.nils]
theorem stks_next (l : List (Int × Int)) (c d : Int) : ((stksA l).drop 0).take l.length ++ [[AV.i c,AV.i d]] = stksA (l ++ [(c,d)]) := by
  rw [List.drop_zero,List.take_of_length_le (by simp)]
  simp
theorem rc_next (m : Mk) (c d : Int) : m.rc.map kI ++ [kI c] = ((m.rbs ++ [(c,d)]).map (·.1)).map kI := by unfold Mk.rc;simp
theorem addRobot_c (f : Flo) (m : Mk) (c d : Int) (hnd : m.rc.Nodup) :
    PCall Tryz.prog 62 [.ptr 0 0,.agg [.i c,.i d]] (mkM f m) (fun r o => ∃ e,r = .i e ∧ ((e ≠ 0 ∧ o = mkM f m) ∨ (e = 0 ∧ inF f c = true ∧ withinB d 0 1000000 = true ∧ kndF f c ≠ 0 ∧ c ∉ m.rc ∧ o = mkP f { m with rbs := m.rbs ++ [(c,d)] } 6 7 8 10 (.arr (zonsA m.zs) 5) (.arr (apsA m.aps) 2) (.arr (shsA m.shs) 2) .gone ++ [.arr (stksA (m.rbs ++ [(c,d)])) 2]))) := by
  have hk := kindAt_c f (mkR m) c
  have hw := swithin_c d 0 1000000
  have hln : m.rbs.length + 1 = (m.rbs ++ [(c,d)]).length := by simp
  have hrn : tru m.rbs.length ++ [.b true] = tru (m.rbs ++ [(c,d)]).length := by rw [tru_snoc,hln]
  have hml : m.rc.length = m.rbs.length := by unfold Mk.rc;simp
  refine pcall T Tryz.func62 rfl rfl rfl rfl ?_
  cases hin : inF f c with
  | false =>
    rw [hin] at hk
    repeat' (first|refine wS ?_|refine wR ?_|refine wT ?_|(refine rg 0 ?_;refine vc_n (by exact fs_box rfl rfl) rfl ?_;refine aV ?_)|(refine rg 1 ?_;refine mV ?_;refine flV T ?_;refine vV (by exact fs_callb0 rfl rfl hk (.cons (mk_view rfl) (.cons (.v _) .nil)) rfl rfl) ?_;refine mV ?_;refine xV ?_;refine xV ?_;refine aaV ?_)|(refine rg 2 ?_;refine mV ?_;refine vV (by exact fs_not rfl) ?_;refine mV ?_;refine gK ?_;(iterate 4 refine gF ?_);refine pV ?_)|(refine rg 3 ?_;refine aV ?_)|refine nZ ?_)
    all_goals first | (exfalso;omega) | exact ⟨_,_,⟨_,rfl,.inl ⟨by decide,rfl⟩⟩,.inl rfl,[0,1,2,3,4,5,6,7,8,9],_,rfl,rfl,rfl,⟨.inr rfl,.inr (sub_map rfl rfl rfl (rng_idf _)),.inr (sub_map rfl rfl rfl (tru_idf _)),.inr (sub_map rfl rfl rfl (tru_idf _)),.inr (sub_map rfl rfl rfl (rng_idf _)),.inr rfl,.inr (sub_arr rfl rfl (zons_idf _)),.inr (sub_arr rfl rfl (aps_idf _)),.inr (sub_arr rfl rfl (shs_idf _)),.inr (sub_arr rfl rfl (stks_idf _)),trivial⟩,by decide,lt10⟩
  | true =>
    rw [hin] at hk
    cases hwd : withinB d 0 1000000 with
    | false =>
      rw [hwd] at hw
      repeat' (first|refine wS ?_|refine wR ?_|refine wT ?_|(refine rg 0 ?_;refine vc_n (by exact fs_box rfl rfl) rfl ?_;refine aV ?_)|(refine rg 1 ?_;refine mV ?_;refine flV T ?_;refine vV (by exact fs_callb0 rfl rfl hk (.cons (mk_view rfl) (.cons (.v _) .nil)) rfl rfl) ?_;refine mV ?_;refine xV ?_;refine xV ?_;refine aaV ?_)|(refine rg 2 ?_;refine mV ?_;refine vV (by exact fs_not rfl) ?_;refine mV ?_;refine gK ?_;refine yF T ?_;refine yL T ?_;refine yV (by exact kC (hw)) ?_;refine yV (by exact fs_not rfl) ?_;refine pV ?_)|(refine rg 3 ?_;refine aV ?_)|refine nZ ?_)
      all_goals first | (exfalso;omega) | exact ⟨_,_,⟨_,rfl,.inl ⟨by decide,rfl⟩⟩,.inl rfl,[0,1,2,3,4,5,6,7,8,9],_,rfl,rfl,rfl,⟨.inr rfl,.inr (sub_map rfl rfl rfl (rng_idf _)),.inr (sub_map rfl rfl rfl (tru_idf _)),.inr (sub_map rfl rfl rfl (tru_idf _)),.inr (sub_map rfl rfl rfl (rng_idf _)),.inr rfl,.inr (sub_arr rfl rfl (zons_idf _)),.inr (sub_arr rfl rfl (aps_idf _)),.inr (sub_arr rfl rfl (shs_idf _)),.inr (sub_arr rfl rfl (stks_idf _)),trivial⟩,by decide,lt10⟩
    | true =>
      rw [hwd] at hw
      by_cases hkn : kndF f c = 0
      · repeat' (first|refine wS ?_|refine wK ?_|refine wR ?_|refine aw_condt rfl ?_|refine aw_condf rfl ?_|(((refine rg 0 ?_));(all_goals (refine vc_n (by exact fs_box rfl rfl) rfl ?_;refine aV ?_)))|(((refine rg 1 ?_));(all_goals (refine mV ?_;refine fV T ?_;refine lV T ?_;refine vV (by exact fs_callb0 rfl rfl hk (.cons (mk_view rfl) (.cons (.v _) .nil)) rfl rfl) ?_;refine mV ?_;refine xV ?_;refine xV ?_;refine aV ?_;refine aV ?_)))|(((refine rg 2 ?_));(all_goals (refine mV ?_;refine vV (by exact fs_not rfl) ?_;refine mV ?_));(all_goals (refine gK ?_));(all_goals (refine gT ?_;(refine fV T ?_);refine gT ?_;(refine lV T ?_);refine gT ?_;(refine vV (by exact kC (hw)) ?_);refine gT ?_;(refine vV (by exact fs_not rfl) ?_)));(all_goals (refine pV ?_)))|(((refine rg 4 ?_));(all_goals (refine mV ?_;refine vV (by exact fs_eqlT rfl rfl hkn) ?_)))|(((refine rg 5 ?_));(all_goals (refine aV ?_)))|(refine nZ ?_))
        all_goals first | (exfalso;omega) | exact ⟨_,_,⟨_,rfl,.inl ⟨by decide,rfl⟩⟩,.inl rfl,[0,1,2,3,4,5,6,7,8,9],_,rfl,rfl,rfl,⟨.inr rfl,.inr (sub_map rfl rfl rfl (rng_idf _)),.inr (sub_map rfl rfl rfl (tru_idf _)),.inr (sub_map rfl rfl rfl (tru_idf _)),.inr (sub_map rfl rfl rfl (rng_idf _)),.inr rfl,.inr (sub_arr rfl rfl (zons_idf _)),.inr (sub_arr rfl rfl (aps_idf _)),.inr (sub_arr rfl rfl (shs_idf _)),.inr (sub_arr rfl rfl (stks_idf _)),trivial⟩,by decide,lt10⟩
      · by_cases hm : c ∈ m.rc
        · obtain ⟨i,hi,hi2⟩ := keys_at hm
          rw [hml] at hi
          have hv := tru_at hi
          repeat' (first|refine wS ?_|refine wK ?_|refine wR ?_|refine wT ?_|refine wU ?_|(refine rg 0 ?_;refine vc_n (by exact fs_box rfl rfl) rfl ?_;refine aV ?_)|(refine rg 1 ?_;refine mV ?_;refine flV T ?_;refine vV (by exact fs_callb0 rfl rfl hk (.cons (mk_view rfl) (.cons (.v _) .nil)) rfl rfl) ?_;refine mV ?_;refine xV ?_;refine xV ?_;refine aaV ?_)|(refine rg 2 ?_;refine mV ?_;refine vV (by exact fs_not rfl) ?_;refine mV ?_;refine gK ?_;refine yF T ?_;refine yL T ?_;refine yV (by exact kC (hw)) ?_;refine yV (by exact fs_not rfl) ?_;refine pV ?_)|(refine rg 4 ?_;refine mV ?_;refine vV (by exact fs_eqlF rfl rfl hkn) ?_)|(refine aw_draw2k (id := 6) 56 [[],[0],[0,1],[0,1,2],[],[4],[0,1,2,3,4,5]] [24,25,26,27,28,29,30] [[],[],[],[],[24,25,26,27],[24,25,26,27],[]] mixedP rfl (by decide +kernel) ?_;refine dM ?_;refine dV rfl (by exact fs_nilCheck rfl rfl) ?_;refine dF T ?_;refine dL T ?_;refine dF T ?_;refine dL T ?_;refine dV rfl (by exact fs_mapGet1 mapIB intK rfl rfl (isv_i _) rfl (keys_good _) (good_i _) (keys_nd hnd) hi2 hv) ?_;refine dw_fin rfl rfl (by ((dsimp only [ln1,ln2,List.append_nil,ln4,ln5,ln6,ln7,ln8,ln9,putAt,putd,allObjs,argEnv,un_v,un_ptr,un_ep,un_pr,un_sl,un_mp,un_row,un_agg,un_tup,un_clo,Nat.zero_add,lnb,Nat.reduceAdd,lnc,lnd];done))) ?_)|(refine rg 7 ?_;refine aV ?_)|refine nZ ?_)
          all_goals first | (exfalso;omega) | exact ⟨_,_,⟨_,rfl,.inl ⟨by decide,rfl⟩⟩,.inl rfl,[0,1,2,3,4,5,6,7,8,9],_,rfl,rfl,rfl,⟨.inr rfl,.inr (sub_map rfl rfl rfl (rng_idf _)),.inr (sub_map rfl rfl rfl (tru_idf _)),.inr (sub_map rfl rfl rfl (tru_idf _)),.inr (sub_map rfl rfl rfl (rng_idf _)),.inr rfl,.inr (sub_arr rfl rfl (zons_idf _)),.inr (sub_arr rfl rfl (aps_idf _)),.inr (sub_arr rfl rfl (shs_idf _)),.inr (sub_arr rfl rfl (stks_idf _)),trivial⟩,by decide,lt10⟩
        · repeat' (first|refine wS ?_|refine wK ?_|refine wR ?_|refine aw_condf rfl ?_|(refine wC rfl (fun hb => ?_) (fun hb => ?_) <;> (((try simp only [nm] at hb);try (exfalso;omega))))|(((refine rg 0 ?_));(all_goals (refine vc_n (by exact fs_box rfl rfl) rfl ?_;refine aV ?_)))|(((refine rg 1 ?_));(all_goals (refine mV ?_;refine fV T ?_;refine lV T ?_;refine vV (by exact fs_callb0 rfl rfl hk (.cons (mk_view rfl) (.cons (.v _) .nil)) rfl rfl) ?_;refine mV ?_;refine xV ?_;refine xV ?_;refine aV ?_;refine aV ?_)))|(((refine rg 2 ?_));(all_goals (refine mV ?_;refine vV (by exact fs_not rfl) ?_;refine mV ?_));(all_goals (refine gK ?_));(all_goals (refine gT ?_;(refine fV T ?_);refine gT ?_;(refine lV T ?_);refine gT ?_;(refine vV (by exact kC (hw)) ?_);refine gT ?_;(refine vV (by exact fs_not rfl) ?_)));(all_goals (refine pV ?_)))|(((refine rg 4 ?_));(all_goals (refine mV ?_;refine vV (by exact fs_eqlF rfl rfl hkn) ?_)))|(refine aw_draw2k (id := 6) 56 [[],[0],[0,1],[0,1,2],[],[4],[0,1,2,3,4,5]] [24,25,26,27,28,29,30] [[],[],[],[],[24,25,26,27],[24,25,26,27],[]] mixedP rfl (by decide +kernel) ?_;refine dM ?_;refine dV rfl (by exact fs_nilCheck rfl rfl) ?_;refine dF T ?_;refine dL T ?_;refine dF T ?_;refine dL T ?_;refine dV rfl (by exact fs_mapMiss1 (zA := .b false) mapIB intK zBool (fun _ _ _ => R_v_mk _) rfl rfl (isv_i _) rfl (keys_good _) (good_i _) (fun e => hm (keys_mem.1 e))) ?_;refine dw_fin rfl rfl (by ((dsimp only [ln1,ln2,List.append_nil,ln4,ln5,ln6,ln7,ln8,ln9,putAt,putd,allObjs,argEnv,un_v,un_ptr,un_ep,un_pr,un_sl,un_mp,un_row,un_agg,un_tup,un_clo,Nat.zero_add,lnb,Nat.reduceAdd,lnc,lnd];done))) ?_)|(((refine rg 8 ?_));(all_goals (refine mV ?_;refine nV ?_;refine fV T ?_;refine fV T ?_;refine lV T ?_;(refine qV T ?_);refine vV (by exact fs_geq rfl rfl) ?_)))|(((refine rg 9 ?_));(all_goals (refine aV ?_)))|(refine aw_draw2k (id := 10) 56 [[],[0],[0,1],[0,1,2],[],[4]] [38,39,40,41,42,43] [[],[],[],[],[38,39,40,41],[38,39,40,41]] mixedP rfl (by decide +kernel) ?_;refine dM ?_;refine dV rfl (by exact fs_nilCheck rfl rfl) ?_;refine dF T ?_;refine dL T ?_;refine dF T ?_;refine dL T ?_;refine dw_fin rfl rfl (by ((dsimp only [ln1,ln2,List.append_nil,ln4,ln5,ln6,ln7,ln8,ln9,putAt,putd,allObjs,argEnv,un_v,un_ptr,un_ep,un_pr,un_sl,un_mp,un_row,un_agg,un_tup,un_clo,Nat.zero_add,lnb,Nat.reduceAdd,lnc,lnd];done))) ?_;refine vc_mapNew mapIB intK rfl rfl (isv_i _) rfl rfl (keys_good _) (good_i _) (fun e => hm (keys_mem.1 e)) ?_)|(refine nZ ?_))
          all_goals first | (exfalso;omega) | exact ⟨_,_,⟨_,rfl,.inl ⟨by decide,rfl⟩⟩,.inl rfl,[0,1,2,3,4,5,6,7,8,9],_,rfl,rfl,rfl,⟨.inr rfl,.inr (sub_map rfl rfl rfl (rng_idf _)),.inr (sub_map rfl rfl rfl (tru_idf _)),.inr (sub_map rfl rfl rfl (tru_idf _)),.inr (sub_map rfl rfl rfl (rng_idf _)),.inr rfl,.inr (sub_arr rfl rfl (zons_idf _)),.inr (sub_arr rfl rfl (aps_idf _)),.inr (sub_arr rfl rfl (shs_idf _)),.inr (sub_arr rfl rfl (stks_idf _)),trivial⟩,by decide,lt10⟩ | skip
          all_goals
            repeat' (first|refine wS ?_|refine wR ?_|(refine aw_draw4k (id := 11) 56 [[],[],[1],[1,2],[1,2,3],[1,2,3,4],[],[6],[1,2,3,4,5,6,7],[0,1,2,3,4,5,6,7,8],[0,1,2,3,4,5,6,7,8,9],[0,1,2,3,4,5,6,7,8,9,10],[0,1,2,3,4,5,6,7,8,9,10,11]] [44,45,46,47,48,49,50,51,52,53,54,55] [[],[44],[44],[44],[44],[44],[44,45,46,47,48,49],[44,45,46,47,48,49],[44],[],[],[],[]] [(8,9),(12,0)] mixedP rfl (by decide +kernel) ?_;refine dwa_v rfl rfl rfl rfl (by exact fs_move rfl) ?_;refine dwa_v rfl rfl rfl rfl (by exact fs_move rfl) ?_;refine dwa_v rfl rfl rfl rfl (by exact fs_nilCheck rfl rfl) ?_;refine dwa_v rfl rfl rfl rfl (by exact fs_fieldAddr T rfl rfl rfl) ?_;refine dwa_v rfl rfl rfl rfl (by exact fs_fieldAddr T rfl rfl rfl) ?_;refine dwa_v rfl rfl rfl rfl (by exact fs_load T rfl rfl rfl rfl) ?_;refine dwa_v rfl rfl rfl rfl (by exact fs_load T rfl rfl rfl rfl) ?_;refine dwa_n rfl rfl rfl rfl (by exact fs_buildSlice T rfl rfl (by decide) (by decide) rfl rfl rfl) rfl ?_;refine dwa_a1 rfl rfl rfl rfl (Nat.le_of_ble_eq_true rfl) (by exact as_append T rfl rfl rfl rfl rfl rfl (by simp) (Elems.whole rfl rfl) rfl (by simp;omega) (by simp;omega)) ?_;refine dwa_v rfl rfl rfl rfl (by exact fs_nilCheck rfl rfl) ?_;refine dwa_v rfl rfl rfl rfl (by exact fs_fieldAddr T rfl rfl rfl) ?_;refine dwa_v rfl rfl rfl rfl (by exact fs_fieldAddr T rfl rfl rfl) ?_;refine dwa_st rfl rfl rfl rfl (Nat.le_of_ble_eq_true rfl) T rfl rfl rfl rfl rfl rfl (by decide) rfl ?_;refine dwa_fin rfl rfl rfl (by exact rfl) ?_)|(refine rg 12 ?_;refine aV ?_)|refine nZ ?_)
            refine ⟨_,_,⟨0,rfl,.inr ⟨rfl,rfl,rfl,hkn,hm,rfl⟩⟩,.inl rfl,[0,1,2,3,4,5,6,7,8,9,12],_,rfl,rfl,rfl,⟨.inr ?_,.inr (sub_map rfl rfl rfl (rng_idf _)),.inr (sub_map rfl (rc_next m c d) hrn (tru_idf _)),.inr (sub_map rfl rfl rfl (tru_idf _)),.inr (sub_map rfl rfl rfl (rng_idf _)),.inr rfl,.inr (sub_arr rfl rfl (zons_idf _)),.inr (sub_arr rfl rfl (aps_idf _)),.inr (sub_arr rfl rfl (shs_idf _)),.inl rfl,.inr (sub_arr rfl (stks_next m.rbs c d) (stks_idf _)),trivial⟩,by decide,lt10x 12⟩
            exact congrArg (fun n : Nat => some (AB.cells (floorC f ++ [.sl 6 0 m.zs.length 5,.sl 7 0 m.aps.length 2,.sl 8 0 m.shs.length 2,.sl 12 0 n 2,.mp 1,.mp 2,.mp 3,.mp 4,.mp 5,.nils,.nils]))) hln
theorem aps_next (l : List (List UInt8 × List UInt8)) (a b : List UInt8) : ((apsA l).drop 0).take l.length ++ [[AV.s a,AV.s b]] = apsA (l ++ [(a,b)]) := by
  rw [List.drop_zero,List.take_of_length_le (by simp)]
  simp
theorem addApart_c (f : Flo) (m : Mk) (a b : List UInt8) (ha : a.length ≤ 9223372036854775807) (hb : b.length ≤ 9223372036854775807) (hal : m.aps.length ≤ 1000000) :
    PCall Tryz.prog 60 [.ptr 0 0,.agg [.s a,.s b]] (mkM f m) (fun r o => ∃ e,r = .i e ∧ ((e ≠ 0 ∧ o = mkM f m) ∨ (e = 0 ∧ o = mkP f { m with aps := m.aps ++ [(a,b)] } 6 10 8 9 (.arr (zonsA m.zs) 5) .gone (.arr (shsA m.shs) 2) (.arr (stksA m.rbs) 2) ++ [.arr (apsA (m.aps ++ [(a,b)])) 2]))) := by
  have hna := name_c a ha
  have hnb := name_c b hb
  have hap := apart_c m.aps a b (by omega)
  have hln : m.aps.length + 1 = (m.aps ++ [(a,b)]).length := by simp
  have hal2 : (apsA m.aps).length = m.aps.length := by simp
  refine pcall T Tryz.func60 rfl rfl rfl rfl ?_
  generalize apartB m.aps a b = y at *
  repeat' (first|refine wS ?_|refine wK ?_|refine wR ?_|refine wT ?_|(refine wC rfl (fun hb=>?_) (fun hb=>?_)<;>(first|subst hb|((try simp only [nm] at hb);try (exfalso;omega))))|(refine rg 0 ?_;refine vc_n (by exact fs_box rfl rfl) rfl ?_;refine aV ?_)|(refine rg 1 ?_;refine flV T ?_;refine vc_pcallb rfl rfl (hna) (.cons (.v _) .nil) (by rintro _ ⟨_,rfl⟩;rfl) rfl ?_;rintro _ ⟨x1,rfl⟩;dsimp only [putd];refine vV (by exact fs_not rfl) ?_;refine mV ?_;refine vc_split rfl rfl (fun hb=>?_) (fun hb=>?_)<;>((rw [hb];(try simp only [nm] at hb);try ((exfalso;omega);done)));(all_goals first|(refine gT ?_;(refine fV T ?_);refine gT ?_;(refine lV T ?_);refine gT ?_;((refine vc_pcallb rfl rfl (hnb) (.cons (.v _) .nil) (by rintro _ ⟨_,rfl⟩;rfl) rfl ?_;rintro _ ⟨x2,rfl⟩;dsimp only [putd])))|(iterate 3 refine gF ?_));(all_goals first|(refine gT ?_;(refine vV (by exact fs_not rfl) ?_))|(refine gF ?_));(all_goals (refine pV ?_)))|(refine rg 2 ?_;refine aV ?_)|(refine aw_drawT (id := 3) 9 37 [[],[0],[0,1],[0,1,2],[0,1,2,3],[],[5],[],[7],[0,1,2,3,4,5,6,7,8]] [[],[0],[0,1],[0,1,2],[0,1,2,3],[],[5],[],[7]] [15,16,17,18,19,20,21,22,23] [[],[],[],[],[],[15,16,17,18,19],[15,16,17,18,19],[15,16,17,18,19,20,21],[15,16,17,18,19,20,21]] mixedP rfl (by decide +kernel) (by decide +kernel) ?_;(dsimp only [List.take,List.drop]);refine dM ?_;refine dV rfl (by exact fs_nilCheck rfl rfl) ?_;refine dF T ?_;refine dF T ?_;refine dL T ?_;refine dF T ?_;refine dL T ?_;refine dF T ?_;refine dL T ?_;refine dw_fin rfl rfl (by ((dsimp only [ln1,ln2,List.append_nil,ln4,ln5,ln6,ln7,ln8,ln9,putAt,putd,allObjs,argEnv,un_v,un_ptr,un_ep,un_pr,un_sl,un_mp,un_row,un_agg,un_tup,un_clo,Nat.zero_add,lnb,Nat.reduceAdd,lnc,lnd];done))) ?_;refine vc_nil ?_;refine vV (by exact fs_callb0 rfl rfl hap (.cons (view_rows rfl hal2.symm (pln_flat (fun _=>rfl) _)) (.cons (.v _) (.cons (.v _) .nil))) rfl rfl) ?_)|(refine rg 4 ?_;refine aV ?_)|refine nZ ?_)
  all_goals first | (exfalso;omega) | exact ⟨_,_,⟨_,rfl,.inl ⟨by decide,rfl⟩⟩,.inl rfl,[0,1,2,3,4,5,6,7,8,9],_,rfl,rfl,rfl,⟨.inr rfl,.inr (sub_map rfl rfl rfl (rng_idf _)),.inr (sub_map rfl rfl rfl (tru_idf _)),.inr (sub_map rfl rfl rfl (tru_idf _)),.inr (sub_map rfl rfl rfl (rng_idf _)),.inr rfl,.inr (sub_arr rfl rfl (zons_idf _)),.inr (sub_arr rfl rfl (aps_idf _)),.inr (sub_arr rfl rfl (shs_idf _)),.inr (sub_arr rfl rfl (stks_idf _)),trivial⟩,by decide,lt10⟩ | skip
  all_goals
    repeat' (first|refine wS ?_|refine wR ?_|(refine aw_draw4k (id := 5) 37 [[],[],[1],[1,2],[1,2,3],[1,2,3,4],[],[6],[1,2,3,4,5,6,7],[0,1,2,3,4,5,6,7,8],[0,1,2,3,4,5,6,7,8,9],[0,1,2,3,4,5,6,7,8,9,10],[0,1,2,3,4,5,6,7,8,9,10,11]] [25,26,27,28,29,30,31,32,33,34,35,36] [[],[25],[25],[25],[25],[25],[25,26,27,28,29,30],[25,26,27,28,29,30],[25],[],[],[],[]] [(8,7),(12,0)] mixedP rfl (by decide +kernel) ?_;refine dwa_v rfl rfl rfl rfl (by exact fs_move rfl) ?_;refine dwa_v rfl rfl rfl rfl (by exact fs_move rfl) ?_;refine dwa_v rfl rfl rfl rfl (by exact fs_nilCheck rfl rfl) ?_;refine dwa_v rfl rfl rfl rfl (by exact fs_fieldAddr T rfl rfl rfl) ?_;refine dwa_v rfl rfl rfl rfl (by exact fs_fieldAddr T rfl rfl rfl) ?_;refine dwa_v rfl rfl rfl rfl (by exact fs_load T rfl rfl rfl rfl) ?_;refine dwa_v rfl rfl rfl rfl (by exact fs_load T rfl rfl rfl rfl) ?_;refine dwa_n rfl rfl rfl rfl (by exact fs_buildSlice T rfl rfl (by decide) (by decide) rfl rfl rfl) rfl ?_;refine dwa_a1 rfl rfl rfl rfl (Nat.le_of_ble_eq_true rfl) (by exact as_append T rfl rfl rfl rfl rfl rfl (by simp) (Elems.whole rfl rfl) rfl (by simp;omega) (by simp;omega)) ?_;refine dwa_v rfl rfl rfl rfl (by exact fs_nilCheck rfl rfl) ?_;refine dwa_v rfl rfl rfl rfl (by exact fs_fieldAddr T rfl rfl rfl) ?_;refine dwa_v rfl rfl rfl rfl (by exact fs_fieldAddr T rfl rfl rfl) ?_;refine dwa_st rfl rfl rfl rfl (Nat.le_of_ble_eq_true rfl) T rfl rfl rfl rfl rfl rfl (by decide) rfl ?_;refine dwa_fin rfl rfl rfl (by exact rfl) ?_)|(refine rg 6 ?_;refine aV ?_)|refine nZ ?_)
    refine ⟨_,_,⟨0,rfl,.inr ⟨rfl,rfl⟩⟩,.inl rfl,[0,1,2,3,4,5,6,7,8,9,12],_,rfl,rfl,rfl,⟨.inr ?_,.inr (sub_map rfl rfl rfl (rng_idf _)),.inr (sub_map rfl rfl rfl (tru_idf _)),.inr (sub_map rfl rfl rfl (tru_idf _)),.inr (sub_map rfl rfl rfl (rng_idf _)),.inr rfl,.inr (sub_arr rfl rfl (zons_idf _)),.inl rfl,.inr (sub_arr rfl rfl (shs_idf _)),.inr (sub_arr rfl rfl (stks_idf _)),.inr (sub_arr rfl (aps_next m.aps a b) (aps_idf _)),trivial⟩,by decide,lt10x 12⟩
    exact congrArg (fun n : Nat => some (AB.cells (floorC f ++ [.sl 6 0 m.zs.length 5,.sl 12 0 n 2,.sl 8 0 m.shs.length 2,.sl 9 0 m.rbs.length 2,.mp 1,.mp 2,.mp 3,.mp 4,.mp 5,.nils,.nils]))) hln
abbrev mkMX (f : Flo) (m : Mk) (b : AB) : Hp := [.cells (mkC f m 6 7 8 9),.mapO (m.cl.map kI) (rngA m.shs.length),.mapO (m.rc.map kI) (tru m.rbs.length),.mapO (m.zk.map kI) (tru m.zk.length),.mapO m.nm (rngA m.zs.length),.mapO [] [],.arr (zonsA m.zs) 5,.arr (apsA m.aps) 2,.arr (shsA m.shs) 2,.arr (stksA m.rbs) 2,b]
theorem newMaker_c (f : Flo) : ACall Tryz.prog 54 [.agg (floorC f)] [] (.ptr 0 0) [.cells (floorC f ++ [.nils,.nils,.nils,.nils,.mp 1,.mp 2,.mp 3,.mp 4,.mp 5,.nils,.nils]),.mapO [] [],.mapO [] [],.mapO [] [],.mapO [] [],.mapO [] []] := by
  refine acall T Tryz.func54 rfl rfl rfl rfl ?_
  repeat' (first|refine wS ?_|refine wR ?_|(refine rg 0 ?_;refine vc_n (by exact fs_box rfl rfl) rfl ?_;refine aV ?_)|(refine rg 1 ?_;refine lV T ?_;refine vV (by exact fs_build T rfl rfl rfl rfl) ?_;refine vc_n (by exact fs_mapNew) rfl ?_;refine vc_n (by exact fs_mapNew) rfl ?_;refine vc_n (by exact fs_mapNew) rfl ?_;refine vc_n (by exact fs_mapNew) rfl ?_;refine vc_n (by exact fs_mapNew) rfl ?_;refine vV (by exact fs_build T rfl rfl rfl rfl) ?_;refine vc_n (by exact fs_box rfl rfl) rfl ?_;refine aV ?_)|refine nZ ?_)
  all_goals exact ⟨.inl rfl,[6,1,2,3,4,5],_,rfl,rfl,rfl,⟨.inr rfl,.inr rfl,.inr rfl,.inr rfl,.inr rfl,.inr rfl,trivial⟩,by decide,nz0⟩
theorem isv_s (l : List UInt8) : IsV (.s l) (kS l) := IsV.v _
theorem good_s (l : List UInt8) : IsKey .string (kS l) := by simp [IsKey]
theorem strK : KeyOk Tryz.prog 9 (IsKey .string) := KeyOk.plain (by kernel_rfl)
theorem mapSI : Tryz.prog.underlying 146 = some (.map 9 3) := by kernel_rfl
theorem nm_good (m : Mk) : ∀ q,q ∈ m.nm → IsKey .string q := by
  intro q hq
  unfold Mk.nm at hq
  obtain ⟨n,_,rfl⟩ := List.mem_map.1 hq
  exact good_s _
theorem nm_at {m : Mk} {k : Value} (h : k ∈ m.nm) : ∃ i : Nat,i < m.zs.length ∧ m.nm[i]? = some k := by
  obtain ⟨i,hi⟩ := List.mem_iff_getElem?.1 h
  refine ⟨i,?_,hi⟩
  have := (List.getElem?_eq_some_iff.1 hi).1
  unfold Mk.nm at this
  simpa using this
theorem zons_next (l : List Zon) (z : Zon) : ((zonsA l).drop 0).take l.length ++ [zonA z] = zonsA (l ++ [z]) := by
  rw [List.drop_zero,List.take_of_length_le (by simp)]
  simp
theorem nm_next (m : Mk) (z : Zon) : m.nm ++ [kS z.1] = { m with zs := m.zs ++ [z] }.nm := by unfold Mk.nm;simp
theorem addZone_c (f : Flo) (m : Mk) (z : Zon) (hnm : m.nm.Nodup) (hzk : m.zk.Nodup) (hzl : z.2.1.length ≤ 9223372036854775807) :
    PCall Tryz.prog 59 [.ptr 0 0,.agg (zonA z)] (mkM f m) (fun r o => ∃ e,r = .i e ∧ ((e ≠ 0 ∧ o = mkM f m) ∨ (e = 0 ∧ kS z.1 ∉ m.nm ∧ ∃ zk,zk.Nodup ∧ o = mkP f { m with zs := m.zs ++ [z],zk := zk } 10 7 8 9 .gone (.arr (apsA m.aps) 2) (.arr (shsA m.shs) 2) (.arr (stksA m.rbs) 2) ++ [.arr (zonsA (m.zs ++ [z])) 5]))) := by
  obtain ⟨nme,cs,sp,kp,sh⟩ := z
  dsimp only at *
  have hlen : (ints cs).length = cs.length := ints_length _
  have hln : m.zs.length + 1 = (m.zs ++ [(nme,cs,sp,kp,sh)]).length := by simp
  refine pcall T Tryz.func59 rfl rfl rfl rfl ?_
  by_cases hn : kS nme ∈ m.nm
  · obtain ⟨i,hi,hi2⟩ := nm_at hn
    have hv := rng_at hi
    repeat' (first|refine wS ?_|refine wR ?_|refine wT ?_|(refine rg 0 ?_;refine vc_n (by exact fs_box rfl rfl) rfl ?_;refine aV ?_)|(refine aw_draw2k (id := 1) 93 [[],[0],[0,1],[0,1,2],[],[4],[0,1,2,3,4,5],[0,1,2,3,4,5,6],[0,1,2,3,4,5,6,7],[0,1,2,3,4,5,6,7],[0,1,2,3,4,5,6,7,8]] [14,15,16,17,18,19,20,13,21,22,5] [[],[],[],[],[14,15,16,17],[14,15,16,17],[],[],[],[21],[22]] mixedP rfl (by decide +kernel) ?_;refine dM ?_;refine dV rfl (by exact fs_nilCheck rfl rfl) ?_;refine dF T ?_;refine dL T ?_;refine dF T ?_;refine dL T ?_;refine dV rfl (by exact fs_mapGet mapSI strK rfl rfl (isv_s _) rfl (nm_good _) (good_s _) hnm hi2 hv) ?_;refine dM ?_;refine dV rfl (by exact fs_extract rfl rfl) ?_;refine dV rfl (by exact fs_extract rfl rfl) ?_;refine dV rfl (by exact fs_assign rfl) ?_;refine dw_fin rfl rfl (by ((dsimp only [ln1,ln2,List.append_nil,ln4,ln5,ln6,ln7,ln8,ln9,putAt,putd,allObjs,argEnv,un_v,un_ptr,un_ep,un_pr,un_sl,un_mp,un_row,un_agg,un_tup,un_clo,Nat.zero_add,lnb,Nat.reduceAdd,lnc,lnd];done))) ?_;refine aV ?_)|(refine rg 2 ?_;refine mV ?_)|(refine rg 3 ?_;refine aV ?_)|refine nZ ?_)
    all_goals first | (exfalso;omega) | exact ⟨_,_,⟨_,rfl,.inl ⟨by decide,rfl⟩⟩,.inl rfl,[0,1,2,3,4,5,6,7,8,9],_,rfl,rfl,rfl,⟨.inr rfl,.inr (sub_map rfl rfl rfl (rng_idf _)),.inr (sub_map rfl rfl rfl (tru_idf _)),.inr (sub_map rfl rfl rfl (tru_idf _)),.inr (sub_map rfl rfl rfl (rng_idf _)),.inr rfl,.inr (sub_arr rfl rfl (zons_idf _)),.inr (sub_arr rfl rfl (aps_idf _)),.inr (sub_arr rfl rfl (shs_idf _)),.inr (sub_arr rfl rfl (stks_idf _)),trivial⟩,by decide,lt10⟩
  · repeat' (first|refine wS ?_|refine wB ?_|refine wK ?_|refine wR ?_|refine aw_condf rfl ?_|(refine wC rfl (fun hb => ?_) (fun hb => ?_) <;> (((try simp only [nm] at hb);try (exfalso;omega))))|(((refine rg 0 ?_));(all_goals (refine vc_n (by exact fs_box rfl rfl) rfl ?_;refine aV ?_)))|(refine aw_draw2k (id := 1) 93 [[],[0],[0,1],[0,1,2],[],[4],[0,1,2,3,4,5],[0,1,2,3,4,5,6],[0,1,2,3,4,5,6,7],[0,1,2,3,4,5,6,7],[0,1,2,3,4,5,6,7,8]] [14,15,16,17,18,19,20,13,21,22,5] [[],[],[],[],[14,15,16,17],[14,15,16,17],[],[],[],[21],[22]] mixedP rfl (by decide +kernel) ?_;refine dM ?_;refine dV rfl (by exact fs_nilCheck rfl rfl) ?_;refine dF T ?_;refine dL T ?_;refine dF T ?_;refine dL T ?_;refine dV rfl (by exact fs_mapMiss (zA := .i 0) mapSI strK zInt (fun _ _ _ => R_v_mk _) rfl rfl (isv_s _) rfl (nm_good _) (good_s _) hn) ?_;refine dM ?_;refine dV rfl (by exact fs_extract rfl rfl) ?_;refine dV rfl (by exact fs_extract rfl rfl) ?_;refine dV rfl (by exact fs_assign rfl) ?_;refine dw_fin rfl rfl (by ((dsimp only [ln1,ln2,List.append_nil,ln4,ln5,ln6,ln7,ln8,ln9,putAt,putd,allObjs,argEnv,un_v,un_ptr,un_ep,un_pr,un_sl,un_mp,un_row,un_agg,un_tup,un_clo,Nat.zero_add,lnb,Nat.reduceAdd,lnc,lnd];done))) ?_;refine aV ?_)|(((refine rg 2 ?_));(all_goals (refine mV ?_)))|(((refine rg 4 ?_));(all_goals (refine mV ?_;refine nV ?_;refine fV T ?_;refine fV T ?_;refine lV T ?_;(refine qV T ?_);refine vV (by exact fs_geq rfl rfl) ?_)))|(((refine rg 5 ?_));(all_goals (refine aV ?_)))|(((refine rg 6 ?_));(all_goals (refine fV T ?_;refine lV T ?_;(refine qV T ?_);refine mV ?_)))|(refine nZ ?_))
    all_goals first | (exfalso;omega) | exact ⟨_,_,⟨_,rfl,.inl ⟨by decide,rfl⟩⟩,.inl rfl,[0,1,2,3,4,5,6,7,8,9],_,rfl,rfl,rfl,⟨.inr rfl,.inr (sub_map rfl rfl rfl (rng_idf _)),.inr (sub_map rfl rfl rfl (tru_idf _)),.inr (sub_map rfl rfl rfl (tru_idf _)),.inr (sub_map rfl rfl rfl (rng_idf _)),.inr rfl,.inr (sub_arr rfl rfl (zons_idf _)),.inr (sub_arr rfl rfl (aps_idf _)),.inr (sub_arr rfl rfl (shs_idf _)),.inr (sub_arr rfl rfl (stks_idf _)),trivial⟩,by decide,lt10⟩ | skip
    all_goals
      refine aw_loop (X := {k : Nat // k ≤ cs.length}) (fun k => [(0,.ptr 0 0),(3,.ptr 10 0),(32,.rowE (ints cs) 1),(33,.i (ints cs).length),(34,.i k.1)]) (fun _ => mkMX f m (.cells (zonA (nme,cs,sp,kp,sh)))) (fun k => cs.length - k.1) ⟨0,by omega⟩ ⟨[0,1,2,3,4,5,6,7,8,9,10],rfl,(by (repeat (first | exact trivial | refine ⟨rfl,?_⟩))),⟨.inr rfl,.inr (sub_map rfl rfl rfl (rng_idf _)),.inr (sub_map rfl rfl rfl (tru_idf _)),.inr (sub_map rfl rfl rfl (tru_idf _)),.inr (sub_map rfl rfl rfl (rng_idf _)),.inr rfl,.inr (sub_arr rfl rfl (zons_idf _)),.inr (sub_arr rfl rfl (aps_idf _)),.inr (sub_arr rfl rfl (shs_idf _)),.inr (sub_arr rfl rfl (stks_idf _)),.inr rfl,trivial⟩,by decide,lt10x 10⟩ ?_
      rintro ⟨k,hk⟩
      dsimp only
      by_cases hlt : k < cs.length
      · have q1 := ints_gI (l := cs) (j := (k : Int)) 0 hlt rfl
        have hk2 := kindAt_c f (mkR m) (cs.getD k 0)
        have hzo := zoned_c (kndF f (cs.getD k 0))
        generalize cs.getD k 0 = c at *
        generalize kndF f c = x at *
        generalize inF f c = y at *
        by_cases hm : c ∈ m.zk
        · obtain ⟨i,hi,hi2⟩ := keys_at hm
          have hv := tru_at hi
          repeat' (first|refine wS ?_|refine wB ?_|refine wK ?_|refine wR ?_|refine wT ?_|(refine rg 7 ?_;refine vV (by exact fs_lssT rfl rfl (by omega)) ?_)|(refine rg 8 ?_;refine vV (by exact ix T rfl (by omega) (ints_len _) q1) ?_;refine lV T ?_;refine aV ?_)|(refine rg 9 ?_;refine mmV ?_;refine vV (by exact fs_callb0 rfl rfl hk2 (.cons (mk_view rfl) (.cons (.v _) .nil)) rfl rfl) ?_;refine mV ?_;refine xV ?_;refine xV ?_;refine aaV ?_)|(refine rg 10 ?_;refine mV ?_;refine vc_pcallb rfl rfl (hzo) (.cons (.v _) .nil) (by rintro _ ⟨_,rfl⟩;rfl) rfl ?_;rintro _ ⟨b,rfl⟩;dsimp only [putd];refine vV (by exact fs_not rfl) ?_;refine mV ?_;refine vc_split rfl rfl (fun hb=>?_) (fun hb=>?_)<;>((rw [hb];(try simp only [nm] at hb);try ((exfalso;omega);done)));(all_goals first|(refine gT ?_;(refine mV ?_);refine gT ?_;(refine nV ?_);refine gT ?_;(refine fV T ?_);refine gT ?_;(refine lV T ?_);refine gT ?_;(refine mV ?_);refine gT ?_;(refine vV (by exact fs_mapGet1 mapIB intK rfl rfl (isv_i _) rfl (keys_good _) (good_i _) (keys_nd hzk) hi2 hv) ?_))|(iterate 6 refine gF ?_));(all_goals (refine pV ?_)))|(refine rg 11 ?_;refine aV ?_)|refine nZ ?_)
          all_goals first | (exfalso;omega) | exact ⟨_,_,⟨_,rfl,.inl ⟨by decide,rfl⟩⟩,.inl rfl,[0,1,2,3,4,5,6,7,8,9],_,rfl,rfl,rfl,⟨.inr rfl,.inr (sub_map rfl rfl rfl (rng_idf _)),.inr (sub_map rfl rfl rfl (tru_idf _)),.inr (sub_map rfl rfl rfl (tru_idf _)),.inr (sub_map rfl rfl rfl (rng_idf _)),.inr rfl,.inr (sub_arr rfl rfl (zons_idf _)),.inr (sub_arr rfl rfl (aps_idf _)),.inr (sub_arr rfl rfl (shs_idf _)),.inr (sub_arr rfl rfl (stks_idf _)),trivial⟩,by decide,lt10⟩
        · repeat' (first|refine wS ?_|refine wB ?_|refine wK ?_|refine wR ?_|refine aw_condt rfl ?_|refine aw_condf rfl ?_|(((refine rg 7 ?_));(all_goals (refine vV (by exact fs_lssT rfl rfl (by omega)) ?_)))|(((refine rg 8 ?_));(all_goals (refine vV (by exact ix T rfl (by omega) (ints_len _) q1) ?_;refine lV T ?_;refine aV ?_)))|(((refine rg 9 ?_));(all_goals (refine mV ?_;refine mV ?_;refine vV (by exact fs_callb0 rfl rfl hk2 (.cons (mk_view rfl) (.cons (.v _) .nil)) rfl rfl) ?_;refine mV ?_;refine xV ?_;refine xV ?_;refine aV ?_;refine aV ?_)))|(((refine rg 10 ?_));(all_goals (refine mV ?_));(all_goals (refine vc_pcallb rfl rfl (hzo) (.cons (.v _) .nil) (by rintro _ ⟨_,rfl⟩;rfl) rfl ?_;rintro _ ⟨b,rfl⟩;dsimp only [putd]));(all_goals (refine vV (by exact fs_not rfl) ?_;refine mV ?_));(all_goals (refine vc_split rfl rfl (fun hb => ?_) (fun hb => ?_) <;> ((rw [hb];(try simp only [nm] at hb);try ((exfalso;omega);done)))));(all_goals first|(refine gT ?_;(refine mV ?_);refine gT ?_;(refine nV ?_);refine gT ?_;(refine fV T ?_);refine gT ?_;(refine lV T ?_);refine gT ?_;(refine mV ?_);refine gT ?_;(refine vV (by exact fs_mapMiss1 (zA := .b false) mapIB intK zBool (fun _ _ _ => R_v_mk _) rfl rfl (isv_i _) rfl (keys_good _) (good_i _) (fun e => hm (keys_mem.1 e))) ?_))|(iterate 6 refine gF ?_));(all_goals (refine pV ?_)))|(((refine rg 11 ?_));(all_goals (refine aV ?_)))|(((refine rg 12 ?_));(all_goals (refine vV (by exact fs_addr rfl rfl (by omega) (by omega)) ?_;refine mV ?_)))|(refine nZ ?_))
          all_goals first | (exfalso;omega) | exact ⟨_,_,⟨_,rfl,.inl ⟨by decide,rfl⟩⟩,.inl rfl,[0,1,2,3,4,5,6,7,8,9],_,rfl,rfl,rfl,⟨.inr rfl,.inr (sub_map rfl rfl rfl (rng_idf _)),.inr (sub_map rfl rfl rfl (tru_idf _)),.inr (sub_map rfl rfl rfl (tru_idf _)),.inr (sub_map rfl rfl rfl (rng_idf _)),.inr rfl,.inr (sub_arr rfl rfl (zons_idf _)),.inr (sub_arr rfl rfl (aps_idf _)),.inr (sub_arr rfl rfl (shs_idf _)),.inr (sub_arr rfl rfl (stks_idf _)),trivial⟩,by decide,lt10⟩ | exact ⟨⟨k + 1,by omega⟩,by dsimp only;omega,⟨[0,1,2,3,4,5,6,7,8,9,10],rfl,(by (repeat (first | exact trivial | refine ⟨rfl,?_⟩))),⟨.inr rfl,.inr (sub_map rfl rfl rfl (rng_idf _)),.inr (sub_map rfl rfl rfl (tru_idf _)),.inr (sub_map rfl rfl rfl (tru_idf _)),.inr (sub_map rfl rfl rfl (rng_idf _)),.inr rfl,.inr (sub_arr rfl rfl (zons_idf _)),.inr (sub_arr rfl rfl (aps_idf _)),.inr (sub_arr rfl rfl (shs_idf _)),.inr (sub_arr rfl rfl (stks_idf _)),.inr rfl,trivial⟩,by decide,lt10x 10⟩⟩
      · repeat' (first|refine wS ?_|refine wB ?_|refine wE ?_|refine aw_condf rfl ?_|(((refine rg 7 ?_));(all_goals (refine vV (by exact fs_lssF rfl rfl (by omega)) ?_)))|(((refine rg 13 ?_));(all_goals (refine fV T ?_;refine lV T ?_;(refine qV T ?_);refine mV ?_)))|(refine nZ ?_))
        all_goals try (exfalso;omega)
        refine aw_loop (X := {p : Nat × List Int // p.1 ≤ cs.length ∧ p.2.Nodup}) (fun p => [(0,.ptr 0 0),(3,.ptr 10 0),(57,.rowE (ints cs) 1),(58,.i (ints cs).length),(59,.i p.1.1)]) (fun p => mkMX f { m with zk := p.1.2 } (.cells (zonA (nme,cs,sp,kp,sh)))) (fun p => cs.length - p.1.1) ⟨(0,m.zk),by dsimp only;omega,hzk⟩ ⟨[0,1,2,3,4,5,6,7,8,9,10],rfl,(by (repeat (first | exact trivial | refine ⟨rfl,?_⟩))),⟨.inr rfl,.inr (sub_map rfl rfl rfl (rng_idf _)),.inr (sub_map rfl rfl rfl (tru_idf _)),.inr (sub_map rfl rfl rfl (tru_idf _)),.inr (sub_map rfl rfl rfl (rng_idf _)),.inr rfl,.inr (sub_arr rfl rfl (zons_idf _)),.inr (sub_arr rfl rfl (aps_idf _)),.inr (sub_arr rfl rfl (shs_idf _)),.inr (sub_arr rfl rfl (stks_idf _)),.inr rfl,trivial⟩,by decide,lt10x 10⟩ ?_
        rintro ⟨⟨k,zk⟩,hk,hzk2⟩
        dsimp only at *
        by_cases hlt : k < cs.length
        · have q1 := ints_gI (l := cs) (j := (k : Int)) 0 hlt rfl
          generalize cs.getD k 0 = c at *
          by_cases hm : c ∈ zk
          · obtain ⟨i,hi,hi2⟩ := keys_at hm
            repeat' (first|refine wS ?_|refine wB ?_|refine wK ?_|refine wT ?_|(refine rg 14 ?_;refine vV (by exact fs_lssT rfl rfl (by omega)) ?_)|(refine rg 15 ?_;refine vV (by exact ix T rfl (by omega) (ints_len _) q1) ?_;refine lV T ?_;refine aV ?_)|(refine rg 16 ?_;refine mV ?_;refine nV ?_;refine flV T ?_;refine mV ?_;refine vc_mapPut mapIB intK rfl rfl (isv_i _) rfl rfl (keys_good _) (good_i _) (keys_nd hzk2) hi2 ?_)|(refine rg 17 ?_;refine vV (by exact fs_addr rfl rfl (by omega) (by omega)) ?_;refine mV ?_)|refine nZ ?_)
            all_goals first | (exfalso;omega) | exact ⟨⟨(k + 1,zk),by dsimp only;omega,hzk2⟩,by dsimp only;omega,⟨[0,1,2,3,4,5,6,7,8,9,10],rfl,(by (repeat (first | exact trivial | refine ⟨rfl,?_⟩))),⟨.inr rfl,.inr (sub_map rfl rfl rfl (rng_idf _)),.inr (sub_map rfl rfl rfl (tru_idf _)),.inr (sub_map rfl rfl (tru_set _ _) (tru_idf _)),.inr (sub_map rfl rfl rfl (rng_idf _)),.inr rfl,.inr (sub_arr rfl rfl (zons_idf _)),.inr (sub_arr rfl rfl (aps_idf _)),.inr (sub_arr rfl rfl (shs_idf _)),.inr (sub_arr rfl rfl (stks_idf _)),.inr rfl,trivial⟩,by decide,lt10x 10⟩⟩
          · have hk3 : zk.map kI ++ [kI c] = (zk ++ [c]).map kI := by simp
            have hv3 : tru zk.length ++ [.b true] = tru (zk ++ [c]).length := by rw [tru_snoc];simp
            have hnd3 : (zk ++ [c]).Nodup := by
              rw [List.nodup_append]
              exact ⟨hzk2,by simp,fun a ha b hb e => hm (by simp at hb;subst hb;subst e;exact ha)⟩
            repeat' (first|refine wS ?_|refine wB ?_|refine wK ?_|refine wT ?_|(refine rg 14 ?_;refine vV (by exact fs_lssT rfl rfl (by omega)) ?_)|(refine rg 15 ?_;refine vV (by exact ix T rfl (by omega) (ints_len _) q1) ?_;refine lV T ?_;refine aV ?_)|(refine rg 16 ?_;refine mV ?_;refine nV ?_;refine flV T ?_;refine mV ?_;refine vc_mapNew mapIB intK rfl rfl (isv_i _) rfl rfl (keys_good _) (good_i _) (fun e=>hm (keys_mem.1 e)) ?_)|(refine rg 17 ?_;refine vV (by exact fs_addr rfl rfl (by omega) (by omega)) ?_;refine mV ?_)|refine nZ ?_)
            all_goals first | (exfalso;omega) | exact ⟨⟨(k + 1,zk ++ [c]),by dsimp only;omega,hnd3⟩,by dsimp only;omega,⟨[0,1,2,3,4,5,6,7,8,9,10],rfl,(by (repeat (first | exact trivial | refine ⟨rfl,?_⟩))),⟨.inr rfl,.inr (sub_map rfl rfl rfl (rng_idf _)),.inr (sub_map rfl rfl rfl (tru_idf _)),.inr (sub_map rfl hk3 hv3 (tru_idf _)),.inr (sub_map rfl rfl rfl (rng_idf _)),.inr rfl,.inr (sub_arr rfl rfl (zons_idf _)),.inr (sub_arr rfl rfl (aps_idf _)),.inr (sub_arr rfl rfl (shs_idf _)),.inr (sub_arr rfl rfl (stks_idf _)),.inr rfl,trivial⟩,by decide,lt10x 10⟩⟩
        · have hrn : rngA m.zs.length ++ [.i (m.zs.length : Int)] = rngA (m.zs ++ [(nme,cs,sp,kp,sh)]).length := by rw [rng_snoc,hln]
          repeat' (first|refine wS ?_|refine wR ?_|refine wE ?_|refine wU ?_|(refine rg 14 ?_;refine vV (by exact fs_lssF rfl rfl (by omega)) ?_)|(refine aw_draw2k (id := 18) 93 [[],[0],[0,1],[0,1,2],[],[4],[],[6],[6,7],[6,7,8],[6,7,8,9],[6,7,8,9,10]] [69,70,71,72,73,74,75,76,77,78,79,80] [[],[],[],[],[69,70,71,72],[69,70,71,72],[69,70,71,72,73,74],[69,70,71,72,73,74],[69,70,71,72,73,74],[69,70,71,72,73,74],[69,70,71,72,73,74],[69,70,71,72,73,74]] mixedP rfl (by decide +kernel) ?_;refine dM ?_;refine dV rfl (by exact fs_nilCheck rfl rfl) ?_;refine dF T ?_;refine dL T ?_;refine dF T ?_;refine dL T ?_;refine dM ?_;refine dV rfl (by exact fs_nilCheck rfl rfl) ?_;refine dF T ?_;refine dF T ?_;refine dL T ?_;refine dV rfl (by exact fs_lenOwn T rfl rfl) ?_;refine dw_fin rfl rfl (by ((dsimp only [ln1,ln2,List.append_nil,ln4,ln5,ln6,ln7,ln8,ln9,putAt,putd,allObjs,argEnv,un_v,un_ptr,un_ep,un_pr,un_sl,un_mp,un_row,un_agg,un_tup,un_clo,Nat.zero_add,lnb,Nat.reduceAdd,lnc,lnd];done))) ?_;refine vc_mapNew mapSI strK rfl rfl (isv_s _) rfl rfl (nm_good _) (good_s _) hn ?_)|(refine aw_draw4k (id := 19) 93 [[],[],[1],[1,2],[1,2,3],[1,2,3,4],[],[6],[1,2,3,4,5,6,7],[0,1,2,3,4,5,6,7,8],[0,1,2,3,4,5,6,7,8,9],[0,1,2,3,4,5,6,7,8,9,10],[0,1,2,3,4,5,6,7,8,9,10,11]] [81,82,83,84,85,86,87,88,89,90,91,92] [[],[81],[81],[81],[81],[81],[81,82,83,84,85,86],[81,82,83,84,85,86],[81],[],[],[],[]] [(8,6),(12,0)] mixedP rfl (by decide +kernel) ?_;refine dwa_v rfl rfl rfl rfl (by exact fs_move rfl) ?_;refine dwa_v rfl rfl rfl rfl (by exact fs_move rfl) ?_;refine dwa_v rfl rfl rfl rfl (by exact fs_nilCheck rfl rfl) ?_;refine dwa_v rfl rfl rfl rfl (by exact fs_fieldAddr T rfl rfl rfl) ?_;refine dwa_v rfl rfl rfl rfl (by exact fs_fieldAddr T rfl rfl rfl) ?_;refine dwa_v rfl rfl rfl rfl (by exact fs_load T rfl rfl rfl rfl) ?_;refine dwa_v rfl rfl rfl rfl (by exact fs_load T rfl rfl rfl rfl) ?_;refine dwa_n rfl rfl rfl rfl (by exact fs_buildSlice T rfl rfl (by decide) (by decide) rfl rfl rfl) rfl ?_;refine dwa_a1 rfl rfl rfl rfl (Nat.le_of_ble_eq_true rfl) (by exact as_append T rfl rfl rfl rfl rfl rfl (by simp) (Elems.whole rfl rfl) rfl (by simp;omega) (by simp;omega)) ?_;refine dwa_v rfl rfl rfl rfl (by exact fs_nilCheck rfl rfl) ?_;refine dwa_v rfl rfl rfl rfl (by exact fs_fieldAddr T rfl rfl rfl) ?_;refine dwa_v rfl rfl rfl rfl (by exact fs_fieldAddr T rfl rfl rfl) ?_;refine dwa_st rfl rfl rfl rfl (Nat.le_of_ble_eq_true rfl) T rfl rfl rfl rfl rfl rfl (by decide) rfl ?_;refine dwa_fin rfl rfl rfl (by exact rfl) ?_)|(refine rg 20 ?_;refine aV ?_)|refine nZ ?_)
          all_goals try (exfalso;omega)
          refine ⟨_,_,⟨0,rfl,.inr ⟨rfl,hn,zk,hzk2,rfl⟩⟩,.inl rfl,[0,1,2,3,4,5,6,7,8,9,12],_,rfl,rfl,rfl,⟨.inr ?_,.inr (sub_map rfl rfl rfl (rng_idf _)),.inr (sub_map rfl rfl rfl (tru_idf _)),.inr (sub_map rfl rfl rfl (tru_idf _)),.inr (sub_map rfl (nm_next m (nme,cs,sp,kp,sh)) hrn (rng_idf _)),.inr rfl,.inl rfl,.inr (sub_arr rfl rfl (aps_idf _)),.inr (sub_arr rfl rfl (shs_idf _)),.inr (sub_arr rfl rfl (stks_idf _)),.inr (sub_arr rfl (zons_next m.zs (nme,cs,sp,kp,sh)) (zons_idf _)),trivial⟩,by decide,lt10x 12⟩
          exact congrArg (fun n : Nat => some (AB.cells (floorC f ++ [.sl 12 0 n 5,.sl 7 0 m.aps.length 2,.sl 8 0 m.shs.length 2,.sl 9 0 m.rbs.length 2,.mp 1,.mp 2,.mp 3,.mp 4,.mp 5,.nils,.nils]))) hln
end Go.Proofs.YtdmajnjoeidgeaaGreat
