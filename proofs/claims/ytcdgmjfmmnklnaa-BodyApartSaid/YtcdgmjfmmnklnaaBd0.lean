/-
  Layer 14: how states stand in memory; the small functions of package body.
-/
import Derived.Test.YtcdgmjfmmnklnaaTab
import Derived.Test.YtcdgmjfmmnklnaaAb49
namespace Go.Proofs.Ytcdgmjfmmnklnaa
open Go Go.Ab
set_option linter.unusedVariables false
set_option linter.unusedSimpArgs false
section
variable {P : Program} {env : Env} {h : Hp} {d : Option Nat} {ty : TypeId} {pos : String} {af : Array Edge} {g : Option (Nat × Bool)}
theorem fs_geqT {t t2 : TypeId} {x y : Operand} {a b : Int} (hx : evu env x = some (.i a)) (hy : evu env y = some (.i b)) (e : b ≤ a) : FStep P ⟨d, .binOp .geq t x y t2, ty, pos, af, g⟩ env h 0 (fun _ => .b true) (fun _ => []) := by
  have := fs_geq (P := P) (d := d) (ty := ty) (pos := pos) (af := af) (g := g) (h := h) (t := t) (t2 := t2) hx hy
  simpa [e] using this
theorem fs_geqF {t t2 : TypeId} {x y : Operand} {a b : Int} (hx : evu env x = some (.i a)) (hy : evu env y = some (.i b)) (e : a < b) : FStep P ⟨d, .binOp .geq t x y t2, ty, pos, af, g⟩ env h 0 (fun _ => .b false) (fun _ => []) := by
  have := fs_geq (P := P) (d := d) (ty := ty) (pos := pos) (af := af) (g := g) (h := h) (t := t) (t2 := t2) hx hy
  simpa [show decide (a ≥ b) = false from decide_eq_false (by omega)] using this
theorem fs_lssT {t t2 : TypeId} {x y : Operand} {a b : Int} (hx : evu env x = some (.i a)) (hy : evu env y = some (.i b)) (e : a < b) : FStep P ⟨d, .binOp .lss t x y t2, ty, pos, af, g⟩ env h 0 (fun _ => .b true) (fun _ => []) := by
  have := fs_lss (P := P) (d := d) (ty := ty) (pos := pos) (af := af) (g := g) (h := h) (t := t) (t2 := t2) hx hy
  simpa [e] using this
theorem fs_lssF {t t2 : TypeId} {x y : Operand} {a b : Int} (hx : evu env x = some (.i a)) (hy : evu env y = some (.i b)) (e : b ≤ a) : FStep P ⟨d, .binOp .lss t x y t2, ty, pos, af, g⟩ env h 0 (fun _ => .b false) (fun _ => []) := by
  have := fs_lss (P := P) (d := d) (ty := ty) (pos := pos) (af := af) (g := g) (h := h) (t := t) (t2 := t2) hx hy
  simpa [show decide (a < b) = false from decide_eq_false (by omega)] using this
end
attribute [local irreducible] VC AW FStep ACall
set_option maxHeartbeats 4000000
theorem lt0 (L : List Nat) : ∀ i : Nat, i < 0 → L[i]? = some i := fun i hi => absurd hi (Nat.not_lt_zero _)
abbrev Rob := Int × Int × Int × Int × Int × Bool
abbrev robA (r : Rob) : List AV := [.i r.1, .i r.2.1, .i r.2.2.1, .i r.2.2.2.1, .i r.2.2.2.2.1, .b r.2.2.2.2.2]
abbrev robsA (l : List Rob) : List (List AV) := l.map robA
abbrev stksA (l : List (Int × Int)) : List (List AV) := l.map fun x => [AV.i x.1, AV.i x.2]
theorem robs_len (l : List Rob) : ∀ e, e ∈ robsA l → e.length = 6 := by intro e he; obtain ⟨n, _, rfl⟩ := List.mem_map.1 he; rfl
theorem stks_len (l : List (Int × Int)) : ∀ e, e ∈ stksA l → e.length = 2 := by intro e he; obtain ⟨n, _, rfl⟩ := List.mem_map.1 he; rfl
theorem robs_get {l : List Rob} {k : Nat} (h : k < l.length) : (robsA l)[k]? = some (robA l[k]) := by simp [h]
theorem ints_get {l : List Int} {k : Nat} (h : k < l.length) : (ints l)[k]? = some [AV.i l[k]] := by simp [h]
structure Stt where
  tick : Int
  sh : List Int
  rb : List Rob
  pp : List Int
  dd : List Int
  sk : List (Int × Int)
abbrev sttA (s : Stt) : List AV := [.i s.tick, .rowE (ints s.sh) 1, .rowE (robsA s.rb) 6, .rowE (ints s.pp) 1, .rowE (ints s.dd) 1, .rowE (stksA s.sk) 2]
def Sm (c : Int) : Prop := -1152921504606846976 ≤ c ∧ c ≤ 1152921504606846976
theorem low_c {c : Int} (h : Sm c) : ACall Try.prog 16 [.i c] [] (.i (2 * c)) [] := by
  unfold Sm at h
  refine acall T Try.func16 rfl rfl rfl rfl ?_
  repeat' (first|refine wS ?_|refine wB ?_|refine wK ?_|refine wR ?_|refine wE ?_|refine wT ?_|refine wU ?_|(refine wC rfl (fun hb=>?_) (fun hb=>?_)<;>(first|subst hb|((try simp only [nm] at hb);try (exfalso;omega))))|(refine rg 0 ?_;(all_goals (refine aV ?_)))|(refine rg 1 ?_;(all_goals (refine mV ?_;refine vV (by first|exact fs_mulr rfl rfl (by omega) (by omega)|exact fs_mul rfl rfl) ?_;refine aV ?_)))|(refine vc_nilp (by (first|(dsimp only [ln1,ln2,List.append_nil,ln4,ln5,ln6,ln7,ln8,ln9,putAt,putd,allObjs,argEnv,un_v,un_ptr,un_ep,un_pr,un_sl,un_mp,un_row,un_agg,un_tup,un_clo,Nat.zero_add,lnb,Nat.reduceAdd,lnc,lnd];first|done|exact rfl)|exact rfl)) ?_))
  all_goals first | (exfalso; omega) | exact ret_plain (.inl rfl) rfl rfl
theorem high_c {c : Int} (h : Sm c) : ACall Try.prog 47 [.i c] [] (.i (2 * c + 1)) [] := by
  unfold Sm at h
  refine acall T Try.func47 rfl rfl rfl rfl ?_
  repeat' (first|refine wS ?_|refine wB ?_|refine wK ?_|refine wR ?_|refine wE ?_|refine wT ?_|refine wU ?_|(refine wC rfl (fun hb=>?_) (fun hb=>?_)<;>(first|subst hb|((try simp only [nm] at hb);try (exfalso;omega))))|(refine rg 0 ?_;(all_goals (refine aV ?_)))|(refine rg 1 ?_;(all_goals (refine mV ?_;refine vV (by first|exact fs_mulr rfl rfl (by omega) (by omega)|exact fs_mul rfl rfl) ?_;refine vV (by first|exact fs_addr rfl rfl (by omega) (by omega)|exact fs_add rfl rfl) ?_;refine aV ?_)))|(refine vc_nilp (by (first|(dsimp only [ln1,ln2,List.append_nil,ln4,ln5,ln6,ln7,ln8,ln9,putAt,putd,allObjs,argEnv,un_v,un_ptr,un_ep,un_pr,un_sl,un_mp,un_row,un_agg,un_tup,un_clo,Nat.zero_add,lnb,Nat.reduceAdd,lnc,lnd];first|done|exact rfl)|exact rfl)) ?_))
  all_goals first | (exfalso; omega) | exact ret_plain (.inl rfl) rfl rfl
def atL (load c : Int) : List Int := if 0 ≤ load then [2 * c, 2 * c + 1] else [2 * c]
theorem at_c (r : Rob) {c : Int} (h : Sm c) : ACall Try.prog 44 [.agg (robA r), .i c] [] (.sl 0 0 (atL r.2.1 c).length 1) [.arr (ints (atL r.2.1 c)) 1] := by
  have c1 := low_c h
  have c2 := high_c h
  obtain ⟨x, ld, ch, re, mu, de⟩ := r
  dsimp only
  unfold atL
  refine acall T Try.func44 rfl rfl rfl rfl ?_
  by_cases h0 : 0 ≤ ld
  · rw [if_pos h0]
    repeat' (first|refine wS ?_|refine wB ?_|refine wK ?_|refine wR ?_|refine wE ?_|refine wT ?_|refine wU ?_|(refine wC rfl (fun hb=>?_) (fun hb=>?_)<;>(first|subst hb|((try simp only [nm] at hb);try (exfalso;omega))))|(refine rg 0 ?_;(all_goals (refine vc_n (by exact fs_box rfl rfl) rfl ?_;refine aV ?_)))|(refine rg 1 ?_;(all_goals (refine fV T ?_;refine lV T ?_;refine vV (by first|exact fs_geqT rfl rfl h0|exact fs_geq rfl rfl) ?_)))|(refine rg 2 ?_;(all_goals (refine mV ?_;refine vV (by exact kC (c1)) ?_;refine mV ?_;refine vV (by exact kC (c2)) ?_;refine vc_n (by exact fs_buildSlice T rfl rfl (by decide) (by decide) rfl rfl rfl) rfl ?_;refine aV ?_)))|(refine rg 3 ?_;(all_goals (refine mV ?_;refine vV (by exact kC (c1)) ?_;refine vc_n (by exact fs_buildSlice T rfl rfl (by decide) (by decide) rfl rfl rfl) rfl ?_;refine aV ?_)))|(refine vc_nilp (by (first|(dsimp only [ln1,ln2,List.append_nil,ln4,ln5,ln6,ln7,ln8,ln9,putAt,putd,allObjs,argEnv,un_v,un_ptr,un_ep,un_pr,un_sl,un_mp,un_row,un_agg,un_tup,un_clo,Nat.zero_add,lnb,Nat.reduceAdd,lnc,lnd];first|done|exact rfl)|exact rfl)) ?_))
    all_goals first | (exfalso; omega) | exact ⟨.inl rfl, [1], _, rfl, rfl, rfl, ⟨.inr rfl, trivial⟩, by decide, lt0 _⟩
  · rw [if_neg h0]
    repeat' (first|refine wS ?_|refine wB ?_|refine wK ?_|refine wR ?_|refine wE ?_|refine wT ?_|refine wU ?_|(refine wC rfl (fun hb=>?_) (fun hb=>?_)<;>(first|subst hb|((try simp only [nm] at hb);try (exfalso;omega))))|(refine rg 0 ?_;(all_goals (refine vc_n (by exact fs_box rfl rfl) rfl ?_;refine aV ?_)))|(refine rg 1 ?_;(all_goals (refine fV T ?_;refine lV T ?_;refine vV (by first|exact fs_geqF rfl rfl (by omega)|exact fs_geq rfl rfl) ?_)))|(refine rg 2 ?_;(all_goals (refine mV ?_;refine vV (by exact kC (c1)) ?_;refine mV ?_;refine vV (by exact kC (c2)) ?_;refine vc_n (by exact fs_buildSlice T rfl rfl (by decide) (by decide) rfl rfl rfl) rfl ?_;refine aV ?_)))|(refine rg 3 ?_;(all_goals (refine mV ?_;refine vV (by exact kC (c1)) ?_;refine vc_n (by exact fs_buildSlice T rfl rfl (by decide) (by decide) rfl rfl rfl) rfl ?_;refine aV ?_)))|(refine vc_nilp (by (first|(dsimp only [ln1,ln2,List.append_nil,ln4,ln5,ln6,ln7,ln8,ln9,putAt,putd,allObjs,argEnv,un_v,un_ptr,un_ep,un_pr,un_sl,un_mp,un_row,un_agg,un_tup,un_clo,Nat.zero_add,lnb,Nat.reduceAdd,lnc,lnd];first|done|exact rfl)|exact rfl)) ?_))
    all_goals first | (exfalso; omega) | exact ⟨.inl rfl, [1], _, rfl, rfl, rfl, ⟨.inr rfl, trivial⟩, by decide, lt0 _⟩
end Go.Proofs.Ytcdgmjfmmnklnaa
