/-
  Layer 8: the reference's marks, list, Of, Union, Inter, Diff, Within.
-/
import Derived.Test.YtlpffgndackglaaReF
import Derived.Test.YtlpffgndackglaaReQ
namespace Go.Proofs.Ytlpffgndackglaa
open Go Go.Ab Go.Fl Go.Re
set_option linter.unusedVariables false
set_option linter.unusedSimpArgs false
attribute [local irreducible] VC AW FStep ACall BoolT
set_option maxHeartbeats 4000000

def seenZ (n : Nat) (l : List Int) : List Bool := (List.range n).map fun x : Nat => decide ((x : Int) ∈ l)
theorem seenZ_len (n : Nat) (l : List Int) : (seenZ n l).length = n := by simp [seenZ]
theorem seenZ_at {n x : Nat} {l : List Int} (h : x < n) : (seenZ n l).getD x false = decide ((x : Int) ∈ l) := by
  rw [List.getD_eq_getElem?_getD, seenZ, List.getElem?_map, List.getElem?_range h]; rfl
theorem seenZ_set {n x : Nat} {l : List Int} (h : x < n) : (seenZ n l).set x true = seenZ n (l ++ [(x : Int)]) := by
  refine List.ext_getElem (by simp [seenZ]) fun i h1 h2 => ?_
  rw [List.getElem_set]
  simp only [seenZ, List.getElem_map, List.getElem_range]
  by_cases e : x = i
  · subst e; simp
  · rw [if_neg e]
    have : ¬ ((i : Int) = (x : Int)) := by omega
    simp [this]
theorem seenZ_skip {n : Nat} {x : Int} {l : List Int} (h : ¬ (0 ≤ x ∧ x < n)) : seenZ n (l ++ [x]) = seenZ n l := by
  refine List.ext_getElem (by simp [seenZ]) fun i h1 h2 => ?_
  have h3 : i < n := by simpa [seenZ] using h2
  simp only [seenZ, List.getElem_map, List.getElem_range]
  have : ¬ ((i : Int) = x) := by omega
  simp [this]
theorem seenZ_zero (n : Nat) : (List.replicate n [AV.v (Value.bool false)] : List (List AV)) = bools (seenZ n []) :=
  List.ext_getElem (by simp [seenZ]) fun i h1 h2 => by simp [seenZ]
attribute [local irreducible] seenZ
section
variable {P : Program} {env : Env} {h : Hp} {d : Option Nat} {ty : TypeId} {pos : String} {af : Array Edge} {g : Option (Nat × Bool)}
theorem fs_makeEq (T : Tab P) {t e : Nat} {i : TI} {l c : Operand} {kl kc : IntKind} {n m : Int} {es : List (List AV)} {k sz : Nat} (ht : T.elem t = some e) (he : T.ti e = some i) (hl : evu env l = some (.v (.int kl n))) (hc : evu env c = some (.v (.int kc m))) (h0 : 0 ≤ n) (h1 : n ≤ m) (h2 : (i.bytes : Int) * m ≤ 281474976710656) (h3 : m ≤ 9223372036854775807) (hs : 0 < i.size) (hk : n.toNat = k) (hz : i.size = sz) (hes : List.replicate k (i.zero.map .v) = es) :
    FStep P ⟨d, .makeSlice t l c, ty, pos, af, g⟩ env h 1 (fun p => .sl p 0 k sz) (fun _ => [.arr es sz]) := by
  subst hk hz hes
  exact fs_makeSlice T ht he hl hc h0 h1 h2 h3 hs
end
theorem marks_o (l : List Int) (hl : l.length ≤ 1000000) : ACall Try.prog 52 [.rowE (ints l) 1] [] (.sl 0 0 4096 1) [.arr (bools (seenZ 4096 l)) 1] := by
  have e1 : (ints l).length = l.length := by simp
  have hz := seenZ_zero 4096
  have hzl : (bools (seenZ 4096 l)).length = 4096 := by rw [List.length_map, seenZ_len]
  have hzl0 : ∀ l, (bools (seenZ 4096 l)).length = 4096 := fun l => by rw [List.length_map, seenZ_len]
  refine acall T Try.func52 rfl rfl rfl rfl ?_
  repeat' (first | (first | (refine aw_seq ?_) | (refine aw_block ?_) | (refine aw_skip ?_) | (refine aw_ret ?_) | (refine aw_exit ?_)) | (first | (refine aw_condt rfl ?_) | (refine aw_condf rfl ?_) | (refine aw_cond rfl (fun hb => ?_) (fun hb => ?_) <;> (first | subst hb | ((try simp only [nm] at hb); try ((exfalso; omega); done))))) | (((refine aw_region (id := 0) ?_)); (all_goals (refine va rfl rfl ?_))) | (((refine aw_region (id := 1) ?_)); (all_goals (refine vc_n (by exact fs_makeEq T rfl rfl rfl rfl (by decide) (by decide) (by decide) (by decide) (by decide) rfl rfl hz) rfl ?_)); (all_goals (refine va rfl rfl ?_))) | (((refine aw_region (id := 2) ?_)); (all_goals (refine va rfl rfl ?_))) | (refine vc_nilp (by (first | (dsimp only [List.nil_append, List.cons_append, List.append_nil, List.length_cons, List.length_nil, List.set_cons_zero, List.set_cons_succ, List.map_cons, List.map_nil, putAt, putd, allObjs, argEnv, un_v, un_ptr, un_ep, un_pr, un_sl, un_mp, un_row, un_agg, un_tup, un_clo, Nat.zero_add, Nat.add_zero, Nat.reduceAdd, Bool.not_true, Bool.not_false]; first | done | exact rfl) | exact rfl)) ?_))
  refine aw_loop (X := {i : Nat // i ≤ l.length}) (fun i => [(0, .rowE (ints l) 1), (3, .sl 0 0 4096 1), (4, .i (i.1 : Int))]) (fun i => [.arr (bools (seenZ 4096 (l.take i.1))) 1]) (fun i => l.length - i.1) ⟨0, Nat.zero_le _⟩ ⟨[0], rfl, ⟨rfl, rfl, rfl, trivial⟩, ⟨.inr (sub_arr rfl (by rw [List.take_zero]) (bools_idf _)), trivial⟩, by decide, fun i hi => absurd hi (Nat.not_lt_zero _)⟩ ?_
  rintro ⟨i, hi⟩
  dsimp only
  by_cases hlt : i < l.length
  · have q1 := ints_get (l := l) (k := i) hlt
    have hts := List.take_succ_eq_append_getElem hlt
    generalize l[i] = x at *
    by_cases hr : 0 ≤ x ∧ x < 4096
    · obtain ⟨k, hkx⟩ := Int.eq_ofNat_of_zero_le hr.1
      have hsl := seenZ_len 4096 (l.take i)
      have qb := Go.Ab.bools_gO (l := seenZ 4096 (l.take i)) (j := x) (i := k) (by omega) hkx
      have hset : (bools (seenZ 4096 (l.take i))).set (0 + x.toNat) [AV.b true] = bools (seenZ 4096 (l.take i ++ [x])) := by
        rw [hkx, Nat.zero_add, Int.toNat_natCast, ← seenZ_set (by omega)]; simp [List.map_set]
      have hbl := hzl0 (l.take i)
      generalize seenZ 4096 (l.take i) = S at *
      generalize (S.getD k false) = z at *
      repeat' (first | (first | (refine aw_seq ?_) | (refine aw_block ?_) | (refine aw_skip ?_) | (refine aw_ret ?_) | (refine aw_exit ?_)) | (first | (refine aw_condt rfl ?_) | (refine aw_condf rfl ?_) | (refine aw_cond rfl (fun hb => ?_) (fun hb => ?_) <;> (first | subst hb | ((try simp only [nm] at hb); try ((exfalso; omega); done))))) | (((refine aw_region (id := 3) ?_)); (all_goals (refine vm rfl rfl ?_)); (all_goals (refine vm rfl rfl ?_)); (all_goals (refine vc_v (by first | exact fs_lenOwn T rfl rfl | exact fs_lenRow T rfl rfl | exact fs_lenNil T rfl rfl) rfl ?_)); (all_goals (refine vc_v (by exact fs_lss rfl rfl) rfl ?_))) | (((refine aw_region (id := 5) ?_)); (all_goals (refine vm rfl rfl ?_)); (all_goals (refine vm rfl rfl ?_)); (all_goals (refine vc_v (by first | exact fs_indexRowE T rfl rfl rfl rfl rfl (by omega) (ints_len l) q1 | exact fs_indexOwn T rfl rfl rfl rfl rfl (by omega) (by omega)) rfl ?_)); (all_goals (refine vc_v (by exact fs_load T rfl rfl rfl rfl) rfl ?_)); (all_goals (refine vc_v (by exact fs_geq rfl rfl) rfl ?_)); (all_goals (refine vm rfl rfl ?_)); (all_goals first | (refine vc_gt rfl rfl ?_ rfl; (refine vm rfl rfl ?_)) | (refine vc_gf rfl rfl ?_ rfl) | (refine vc_gu rfl rfl ?_ rfl) | (refine vc_split rfl rfl (fun hb => ?_) (fun hb => ?_) <;> (first | subst hb | (rw [hb]; (try simp only [nm] at hb); try ((exfalso; omega); done))) <;> first | (refine vc_gt rfl rfl ?_ rfl; (refine vm rfl rfl ?_)) | (refine vc_gf rfl rfl ?_ rfl) | (refine vc_gu rfl rfl ?_ rfl))); (all_goals first | (refine vc_gt rfl rfl ?_ rfl; (refine vm rfl rfl ?_)) | (refine vc_gf rfl rfl ?_ rfl) | (refine vc_gu rfl rfl ?_ rfl)); (all_goals first | (refine vc_gt rfl rfl ?_ rfl; (refine vc_v (by first | exact fs_indexRowE T rfl rfl rfl rfl rfl (by omega) (ints_len l) q1 | exact fs_indexOwn T rfl rfl rfl rfl rfl (by omega) (by omega)) rfl ?_)) | (refine vc_gf rfl rfl ?_ rfl) | (refine vc_gu rfl rfl ?_ rfl)); (all_goals first | (refine vc_gt rfl rfl ?_ rfl; (refine vc_v (by exact fs_load T rfl rfl rfl rfl) rfl ?_)) | (refine vc_gf rfl rfl ?_ rfl) | (refine vc_gu rfl rfl ?_ rfl)); (all_goals first | (refine vc_gt rfl rfl ?_ rfl; (refine vc_v (by exact fs_lss rfl rfl) rfl ?_)) | (refine vc_gf rfl rfl ?_ rfl) | (refine vc_gu rfl rfl ?_ rfl)); (all_goals (refine vc_v (by first | exact fs_pickt rfl rfl | exact fs_pickf rfl rfl | exact fs_pick rfl rfl rfl) rfl ?_))) | (((refine aw_region (id := 6) ?_)); (all_goals (refine vm rfl rfl ?_)); (all_goals (refine vm rfl rfl ?_)); (all_goals (refine vm rfl rfl ?_)); (all_goals (refine vc_v (by first | exact fs_indexRowE T rfl rfl rfl rfl rfl (by omega) (ints_len l) q1 | exact fs_indexOwn T rfl rfl rfl rfl rfl (by omega) (by omega)) rfl ?_)); (all_goals (refine vc_v (by exact fs_load T rfl rfl rfl rfl) rfl ?_)); (all_goals (refine vc_v (by first | exact fs_indexRowE T rfl rfl rfl rfl rfl (by omega) (ints_len l) q1 | exact fs_indexOwn T rfl rfl rfl rfl rfl (by omega) (by omega)) rfl ?_)); (all_goals first | (refine vc_store T rfl rfl rfl rfl rfl rfl (by decide) rfl ?_) | (refine vc_store T rfl rfl rfl rfl rfl rfl (by decide) (upd_ep rfl qb rfl) ?_))) | (((refine aw_region (id := 4) ?_)); (all_goals (refine vm rfl rfl ?_)); (all_goals (refine vc_v (by first | exact fs_addr rfl rfl (by omega) (by omega) | exact fs_add rfl rfl) rfl ?_)); (all_goals (refine va rfl rfl ?_))) | (refine vc_nilp (by (first | (dsimp only [List.nil_append, List.cons_append, List.append_nil, List.length_cons, List.length_nil, List.set_cons_zero, List.set_cons_succ, List.map_cons, List.map_nil, putAt, putd, allObjs, argEnv, un_v, un_ptr, un_ep, un_pr, un_sl, un_mp, un_row, un_agg, un_tup, un_clo, Nat.zero_add, Nat.add_zero, Nat.reduceAdd, Bool.not_true, Bool.not_false]; first | done | exact rfl) | exact rfl)) ?_))
      all_goals try (exfalso; omega)
      all_goals exact ⟨⟨i + 1, hlt⟩, by dsimp only; omega, [0], rfl, ⟨rfl, rfl, rfl, trivial⟩, ⟨.inr (sub_arr rfl (by dsimp only; rw [hts]; exact hset) (bools_idf _)), trivial⟩, by decide, fun i hi => absurd hi (Nat.not_lt_zero _)⟩
    · have hsk := seenZ_skip (n := 4096) (l := l.take i) (x := x) (by omega)
      generalize hS : seenZ 4096 (l.take i) = S at *
      repeat' (first | (first | (refine aw_seq ?_) | (refine aw_block ?_) | (refine aw_skip ?_) | (refine aw_ret ?_) | (refine aw_exit ?_)) | (first | (refine aw_condt rfl ?_) | (refine aw_condf rfl ?_) | (refine aw_cond rfl (fun hb => ?_) (fun hb => ?_) <;> (first | subst hb | ((try simp only [nm] at hb); try ((exfalso; omega); done))))) | (((refine aw_region (id := 3) ?_)); (all_goals (refine vm rfl rfl ?_)); (all_goals (refine vm rfl rfl ?_)); (all_goals (refine vc_v (by first | exact fs_lenOwn T rfl rfl | exact fs_lenRow T rfl rfl | exact fs_lenNil T rfl rfl) rfl ?_)); (all_goals (refine vc_v (by exact fs_lss rfl rfl) rfl ?_))) | (((refine aw_region (id := 5) ?_)); (all_goals (refine vm rfl rfl ?_)); (all_goals (refine vm rfl rfl ?_)); (all_goals (refine vc_v (by exact fs_indexRowE T rfl rfl rfl rfl rfl (by omega) (ints_len l) q1) rfl ?_)); (all_goals (refine vc_v (by exact fs_load T rfl rfl rfl rfl) rfl ?_)); (all_goals (refine vc_v (by exact fs_geq rfl rfl) rfl ?_)); (all_goals (refine vm rfl rfl ?_)); (all_goals first | (refine vc_gt rfl rfl ?_ rfl; (refine vm rfl rfl ?_)) | (refine vc_gf rfl rfl ?_ rfl) | (refine vc_gu rfl rfl ?_ rfl) | (refine vc_split rfl rfl (fun hb => ?_) (fun hb => ?_) <;> (first | subst hb | (rw [hb]; (try simp only [nm] at hb); try ((exfalso; omega); done))) <;> first | (refine vc_gt rfl rfl ?_ rfl; (refine vm rfl rfl ?_)) | (refine vc_gf rfl rfl ?_ rfl) | (refine vc_gu rfl rfl ?_ rfl))); (all_goals first | (refine vc_gt rfl rfl ?_ rfl; (refine vm rfl rfl ?_)) | (refine vc_gf rfl rfl ?_ rfl) | (refine vc_gu rfl rfl ?_ rfl)); (all_goals first | (refine vc_gt rfl rfl ?_ rfl; (refine vc_v (by exact fs_indexRowE T rfl rfl rfl rfl rfl (by omega) (ints_len l) q1) rfl ?_)) | (refine vc_gf rfl rfl ?_ rfl) | (refine vc_gu rfl rfl ?_ rfl)); (all_goals first | (refine vc_gt rfl rfl ?_ rfl; (refine vc_v (by exact fs_load T rfl rfl rfl rfl) rfl ?_)) | (refine vc_gf rfl rfl ?_ rfl) | (refine vc_gu rfl rfl ?_ rfl)); (all_goals first | (refine vc_gt rfl rfl ?_ rfl; (refine vc_v (by exact fs_lss rfl rfl) rfl ?_)) | (refine vc_gf rfl rfl ?_ rfl) | (refine vc_gu rfl rfl ?_ rfl)); (all_goals (refine vc_v (by first | exact fs_pickt rfl rfl | exact fs_pickf rfl rfl | exact fs_pick rfl rfl rfl) rfl ?_))) | (((refine aw_region (id := 4) ?_)); (all_goals (refine vm rfl rfl ?_)); (all_goals (refine vc_v (by first | exact fs_addr rfl rfl (by omega) (by omega) | exact fs_add rfl rfl) rfl ?_)); (all_goals (refine va rfl rfl ?_))) | (refine vc_nilp (by (first | (dsimp only [List.nil_append, List.cons_append, List.append_nil, List.length_cons, List.length_nil, List.set_cons_zero, List.set_cons_succ, List.map_cons, List.map_nil, putAt, putd, allObjs, argEnv, un_v, un_ptr, un_ep, un_pr, un_sl, un_mp, un_row, un_agg, un_tup, un_clo, Nat.zero_add, Nat.add_zero, Nat.reduceAdd, Bool.not_true, Bool.not_false]; first | done | exact rfl) | exact rfl)) ?_))
      all_goals try (exfalso; omega)
      all_goals exact ⟨⟨i + 1, hlt⟩, by dsimp only; omega, [0], rfl, ⟨rfl, rfl, rfl, trivial⟩, ⟨.inr (sub_arr rfl (by dsimp only; rw [hts, hsk]) (bools_idf _)), trivial⟩, by decide, fun i hi => absurd hi (Nat.not_lt_zero _)⟩
  · obtain rfl : i = l.length := by omega
    rw [List.take_length]
    generalize seenZ 4096 l = S at *
    repeat' (first | (first | (refine aw_seq ?_) | (refine aw_block ?_) | (refine aw_skip ?_) | (refine aw_ret ?_) | (refine aw_exit ?_)) | (first | (refine aw_condt rfl ?_) | (refine aw_condf rfl ?_) | (refine aw_cond rfl (fun hb => ?_) (fun hb => ?_) <;> (first | subst hb | ((try simp only [nm] at hb); try ((exfalso; omega); done))))) | (((refine aw_region (id := 3) ?_)); (all_goals (refine vm rfl rfl ?_)); (all_goals (refine vm rfl rfl ?_)); (all_goals (refine vc_v (by first | exact fs_lenOwn T rfl rfl | exact fs_lenRow T rfl rfl | exact fs_lenNil T rfl rfl) rfl ?_)); (all_goals (refine vc_v (by exact fs_lss rfl rfl) rfl ?_))) | (((refine aw_region (id := 7) ?_)); (all_goals (refine vm rfl rfl ?_)); (all_goals (refine va rfl rfl ?_))) | (refine vc_nilp (by (first | (dsimp only [List.nil_append, List.cons_append, List.append_nil, List.length_cons, List.length_nil, List.set_cons_zero, List.set_cons_succ, List.map_cons, List.map_nil, putAt, putd, allObjs, argEnv, un_v, un_ptr, un_ep, un_pr, un_sl, un_mp, un_row, un_agg, un_tup, un_clo, Nat.zero_add, Nat.add_zero, Nat.reduceAdd, Bool.not_true, Bool.not_false]; first | done | exact rfl) | exact rfl)) ?_))
    all_goals first | (exfalso; omega) | exact ⟨.inl rfl, [0], _, rfl, rfl, rfl, ⟨.inr (sub_arr rfl rfl (bools_idf _)), trivial⟩, by decide, fun i hi => absurd hi (Nat.not_lt_zero _)⟩
theorem marks_c (l : List Int) (hl : l.length ≤ 1000000) : ACall Try.prog 52 [.rowE (ints l) 1] [] (.rowE (bools (seenZ 4096 l)) 1) [] :=
  acall_frz (by rw [List.length_map, seenZ_len]) (idfL_flat (bools_idf _)) (marks_o l hl)
/-- The numbers of the places that are marked. -/
def listB (m : List Bool) : List Int := ((List.range m.length).filter fun i => m.getD i false).map fun n : Nat => (n : Int)
def listK (m : List Bool) (k : Nat) : List Int := ((List.range k).filter fun i => m.getD i false).map fun n : Nat => (n : Int)
theorem listK_succ (m : List Bool) (k : Nat) : listK m (k + 1) = listK m k ++ (if m.getD k false = true then [(k : Int)] else []) := by
  unfold listK
  rw [List.range_succ, List.filter_append, List.map_append]
  congr 1
  by_cases h : m.getD k false = true
  · rw [if_pos h, List.filter_cons, if_pos h]; rfl
  · rw [if_neg h, List.filter_cons, if_neg h]; rfl
theorem listK_len (m : List Bool) (k : Nat) : (listK m k).length ≤ k := by
  unfold listK
  rw [List.length_map]
  exact Nat.le_trans (List.length_filter_le _ _) (by simp)
theorem bools_gI {l : List Bool} {i : Nat} (h : i < l.length) : (bools l)[(i : Int).toNat]? = some [AV.b (l.getD i false)] := by
  rw [Int.toNat_natCast, List.getD_eq_getElem?_getD]; simp [h]
theorem bools_len (l : List Bool) : ∀ e, e ∈ bools l → e.length = 1 := by intro e he; obtain ⟨n, _, rfl⟩ := List.mem_map.1 he; rfl
theorem ints_app {A : List Int} {x : Int} : List.take A.length (List.drop 0 (ints A)) ++ [[AV.i x]] = ints (A ++ [x]) := by
  rw [List.drop_zero, List.take_of_length_le (by simp)]; simp
theorem list_c (m : List Bool) (hm : m.length ≤ 4096) : ACall Try.prog 51 [.rowE (bools m) 1] [] (.rowE (ints (listB m)) 1) [] := by
  have e1 : (bools m).length = m.length := by simp
  refine acall_frz (by simp : (listB m).length = (ints (listB m)).length) (idfL_flat (ints_idf _)) ?_
  refine acall T Try.func51 rfl rfl rfl rfl ?_
  repeat' (first | (first | (refine aw_seq ?_) | (refine aw_block ?_) | (refine aw_skip ?_) | (refine aw_ret ?_) | (refine aw_exit ?_)) | (first | (refine aw_condt rfl ?_) | (refine aw_condf rfl ?_) | (refine aw_cond rfl (fun hb => ?_) (fun hb => ?_) <;> (first | subst hb | ((try simp only [nm] at hb); try ((exfalso; omega); done))))) | (((refine aw_region (id := 0) ?_)); (all_goals (refine va rfl rfl ?_))) | (((refine aw_region (id := 1) ?_)); (all_goals (refine va rfl rfl ?_))) | (((refine aw_region (id := 2) ?_)); (all_goals (refine va rfl rfl ?_))) | (refine vc_nilp (by (first | (dsimp only [List.nil_append, List.cons_append, List.append_nil, List.length_cons, List.length_nil, List.set_cons_zero, List.set_cons_succ, List.map_cons, List.map_nil, putAt, putd, allObjs, argEnv, un_v, un_ptr, un_ep, un_pr, un_sl, un_mp, un_row, un_agg, un_tup, un_clo, Nat.zero_add, Nat.add_zero, Nat.reduceAdd, Bool.not_true, Bool.not_false]; first | done | exact rfl) | exact rfl)) ?_))
  refine aw_own 3 1 rfl (by decide) ?_
  refine aw_loop (X := {k : Nat // k ≤ m.length}) (fun k => [(0, .rowE (bools m) 1), (3, .sl 0 0 (listK m k.1).length 1), (4, .i (k.1 : Int))]) (fun k => [.arr (ints (listK m k.1)) 1]) (fun k => m.length - k.1) ⟨0, Nat.zero_le _⟩ ⟨[0], rfl, ⟨rfl, rfl, rfl, trivial⟩, ⟨.inr rfl, trivial⟩, by decide, fun i hi => absurd hi (Nat.not_lt_zero _)⟩ ?_
  rintro ⟨k, hk⟩
  dsimp only
  have hkl := listK_len m k
  by_cases hlt : k < m.length
  · have q1 := bools_gI (l := m) hlt
    have hks := listK_succ m k
    cases hb : m.getD k false
    · rw [hb] at q1
      rw [hb, if_neg (by decide), List.append_nil] at hks
      generalize listK m k = A at *
      repeat' (first | (first | (refine aw_seq ?_) | (refine aw_block ?_) | (refine aw_skip ?_) | (refine aw_ret ?_) | (refine aw_exit ?_)) | (first | (refine aw_condt rfl ?_) | (refine aw_condf rfl ?_) | (refine aw_cond rfl (fun hb => ?_) (fun hb => ?_) <;> (first | subst hb | ((try simp only [nm] at hb); try ((exfalso; omega); done))))) | (((refine aw_region (id := 3) ?_)); (all_goals (refine vm rfl rfl ?_)); (all_goals (refine vm rfl rfl ?_)); (all_goals (refine vc_v (by first | exact fs_lenOwn T rfl rfl | exact fs_lenRow T rfl rfl | exact fs_lenNil T rfl rfl) rfl ?_)); (all_goals (refine vc_v (by exact fs_lss rfl rfl) rfl ?_))) | (((refine aw_region (id := 5) ?_)); (all_goals (refine vm rfl rfl ?_)); (all_goals (refine vm rfl rfl ?_)); (all_goals (refine vc_v (by exact fs_indexRowE T rfl rfl rfl rfl rfl (by omega) (bools_len m) q1) rfl ?_)); (all_goals (refine vc_v (by exact fs_load T rfl rfl rfl rfl) rfl ?_))) | (((refine aw_region (id := 4) ?_)); (all_goals (refine vm rfl rfl ?_)); (all_goals (refine vc_v (by first | exact fs_addr rfl rfl (by omega) (by omega) | exact fs_add rfl rfl) rfl ?_)); (all_goals (refine va rfl rfl ?_))) | (refine vc_nilp (by (first | (dsimp only [List.nil_append, List.cons_append, List.append_nil, List.length_cons, List.length_nil, List.set_cons_zero, List.set_cons_succ, List.map_cons, List.map_nil, putAt, putd, allObjs, argEnv, un_v, un_ptr, un_ep, un_pr, un_sl, un_mp, un_row, un_agg, un_tup, un_clo, Nat.zero_add, Nat.add_zero, Nat.reduceAdd, Bool.not_true, Bool.not_false]; first | done | exact rfl) | exact rfl)) ?_))
      all_goals try (exfalso; omega)
      all_goals exact ⟨⟨k + 1, hlt⟩, by dsimp only; omega, [0], rfl, ⟨rfl, by dsimp only; rw [hks]; rfl, rfl, trivial⟩, ⟨.inr (sub_arr rfl (by dsimp only; rw [hks]) (ints_idf _)), trivial⟩, by decide, fun i hi => absurd hi (Nat.not_lt_zero _)⟩
    · rw [hb] at q1
      rw [hb, if_pos rfl] at hks
      generalize listK m k = A at *
      repeat' (first | (first | (refine aw_seq ?_) | (refine aw_block ?_) | (refine aw_skip ?_) | (refine aw_ret ?_) | (refine aw_exit ?_)) | (first | (refine aw_condt rfl ?_) | (refine aw_condf rfl ?_) | (refine aw_cond rfl (fun hb => ?_) (fun hb => ?_) <;> (first | subst hb | ((try simp only [nm] at hb); try ((exfalso; omega); done))))) | (((refine aw_region (id := 3) ?_)); (all_goals (refine vm rfl rfl ?_)); (all_goals (refine vm rfl rfl ?_)); (all_goals (refine vc_v (by first | exact fs_lenOwn T rfl rfl | exact fs_lenRow T rfl rfl | exact fs_lenNil T rfl rfl) rfl ?_)); (all_goals (refine vc_v (by exact fs_lss rfl rfl) rfl ?_))) | (((refine aw_region (id := 5) ?_)); (all_goals (refine vm rfl rfl ?_)); (all_goals (refine vm rfl rfl ?_)); (all_goals (refine vc_v (by exact fs_indexRowE T rfl rfl rfl rfl rfl (by omega) (bools_len m) q1) rfl ?_)); (all_goals (refine vc_v (by exact fs_load T rfl rfl rfl rfl) rfl ?_))) | (((refine aw_region (id := 6) ?_)); (all_goals (refine vm rfl rfl ?_)); (all_goals (refine vm rfl rfl ?_)); (all_goals (refine vc_n (by exact fs_buildSlice T rfl rfl (by decide) (by decide) rfl rfl rfl) rfl ?_)); (all_goals (refine vc_append T rfl rfl rfl rfl rfl rfl (by simp) (Elems.whole rfl rfl) rfl (by simp; omega) (by simp; omega) rfl ?_)); (all_goals (refine va rfl rfl ?_))) | (((refine aw_region (id := 4) ?_)); (all_goals (refine vm rfl rfl ?_)); (all_goals (refine vc_v (by first | exact fs_addr rfl rfl (by omega) (by omega) | exact fs_add rfl rfl) rfl ?_)); (all_goals (refine va rfl rfl ?_))) | (refine vc_nilp (by (first | (dsimp only [List.nil_append, List.cons_append, List.append_nil, List.length_cons, List.length_nil, List.set_cons_zero, List.set_cons_succ, List.map_cons, List.map_nil, putAt, putd, allObjs, argEnv, un_v, un_ptr, un_ep, un_pr, un_sl, un_mp, un_row, un_agg, un_tup, un_clo, Nat.zero_add, Nat.add_zero, Nat.reduceAdd, Bool.not_true, Bool.not_false]; first | done | exact rfl) | exact rfl)) ?_))
      all_goals try (exfalso; omega)
      all_goals exact ⟨⟨k + 1, hlt⟩, by dsimp only; omega, [2], rfl, ⟨rfl, by dsimp only; rw [hks, List.length_append]; rfl, rfl, trivial⟩, ⟨.inr (sub_arr rfl (by dsimp only; rw [hks]; exact ints_app) (ints_idf _)), trivial⟩, by decide, fun i hi => absurd hi (Nat.not_lt_zero _)⟩
  · obtain rfl : k = m.length := by omega
    have : listK m m.length = listB m := rfl
    rw [this]
    generalize listB m = A at *
    repeat' (first | (first | (refine aw_seq ?_) | (refine aw_block ?_) | (refine aw_skip ?_) | (refine aw_ret ?_) | (refine aw_exit ?_)) | (first | (refine aw_condt rfl ?_) | (refine aw_condf rfl ?_) | (refine aw_cond rfl (fun hb => ?_) (fun hb => ?_) <;> (first | subst hb | ((try simp only [nm] at hb); try ((exfalso; omega); done))))) | (((refine aw_region (id := 3) ?_)); (all_goals (refine vm rfl rfl ?_)); (all_goals (refine vm rfl rfl ?_)); (all_goals (refine vc_v (by first | exact fs_lenOwn T rfl rfl | exact fs_lenRow T rfl rfl | exact fs_lenNil T rfl rfl) rfl ?_)); (all_goals (refine vc_v (by exact fs_lss rfl rfl) rfl ?_))) | (((refine aw_region (id := 7) ?_)); (all_goals (refine vm rfl rfl ?_)); (all_goals (refine va rfl rfl ?_))) | (refine vc_nilp (by (first | (dsimp only [List.nil_append, List.cons_append, List.append_nil, List.length_cons, List.length_nil, List.set_cons_zero, List.set_cons_succ, List.map_cons, List.map_nil, putAt, putd, allObjs, argEnv, un_v, un_ptr, un_ep, un_pr, un_sl, un_mp, un_row, un_agg, un_tup, un_clo, Nat.zero_add, Nat.add_zero, Nat.reduceAdd, Bool.not_true, Bool.not_false]; first | done | exact rfl) | exact rfl)) ?_))
    all_goals first | (exfalso; omega) | exact ⟨.inl rfl, [0], _, rfl, rfl, rfl, ⟨.inr (sub_arr rfl rfl (ints_idf _)), trivial⟩, by decide, fun i hi => absurd hi (Nat.not_lt_zero _)⟩
theorem listB_reg (l : List Int) : RegP (listB (seenZ 4096 l)) ∧ ∀ c, c ∈ listB (seenZ 4096 l) ↔ c ∈ l ∧ 0 ≤ c ∧ c < 4096 := by
  have hmem : ∀ c, c ∈ listB (seenZ 4096 l) ↔ c ∈ l ∧ 0 ≤ c ∧ c < 4096 := fun c => by
    unfold listB
    rw [seenZ_len, List.mem_map]
    constructor
    · rintro ⟨k, hk, rfl⟩
      rw [List.mem_filter, List.mem_range] at hk
      rw [seenZ_at hk.1] at hk
      have h2 := hk.2
      rw [decide_eq_true_eq] at h2
      exact ⟨h2, by omega, by omega⟩
    · rintro ⟨h1, h2, h3⟩
      obtain ⟨k, rfl⟩ := Int.eq_ofNat_of_zero_le h2
      exact ⟨k, List.mem_filter.2 ⟨List.mem_range.2 (by omega), by rw [seenZ_at (by omega)]; exact decide_eq_true h1⟩, rfl⟩
  refine ⟨⟨?_, fun c hc => ((hmem c).1 hc).2⟩, hmem⟩
  exact List.Pairwise.map _ (fun a b h => by omega) (List.Pairwise.sublist List.filter_sublist (List.pairwise_lt_range))
theorem refof_c (l : List Int) (hl : l.length ≤ 1000000) : ACall Try.prog 26 [.rowE (ints l) 1] [] (.rowE (ints (ofM l)) 1) [] := by
  have h1 := marks_c l hl
  have h2 := list_c (seenZ 4096 l) (by rw [seenZ_len]; omega)
  have he : listB (seenZ 4096 l) = ofM l := asc_ext (listB_reg l).1.1 (of_reg l).1 fun c => by rw [(listB_reg l).2, mem_of]
  rw [he] at h2
  generalize seenZ 4096 l = S at *
  refine acall T Try.func26 rfl rfl rfl rfl ?_
  repeat' (first | (first | (refine aw_seq ?_) | (refine aw_block ?_) | (refine aw_skip ?_) | (refine aw_ret ?_) | (refine aw_exit ?_)) | (first | (refine aw_condt rfl ?_) | (refine aw_condf rfl ?_) | (refine aw_cond rfl (fun hb => ?_) (fun hb => ?_) <;> (first | subst hb | ((try simp only [nm] at hb); try ((exfalso; omega); done))))) | (((refine aw_region (id := 0) ?_)); (all_goals (refine va rfl rfl ?_))) | (((refine aw_region (id := 1) ?_)); (all_goals (refine vm rfl rfl ?_)); (all_goals (refine vc_v (by exact fs_call0 rfl rfl (h1) rfl rfl rfl) rfl ?_)); (all_goals (refine vc_v (by exact fs_call0 rfl rfl (h2) rfl rfl rfl) rfl ?_)); (all_goals (refine va rfl rfl ?_))) | (refine vc_nilp (by (first | (dsimp only [List.nil_append, List.cons_append, List.append_nil, List.length_cons, List.length_nil, List.set_cons_zero, List.set_cons_succ, List.map_cons, List.map_nil, putAt, putd, allObjs, argEnv, un_v, un_ptr, un_ep, un_pr, un_sl, un_mp, un_row, un_agg, un_tup, un_clo, Nat.zero_add, Nat.add_zero, Nat.reduceAdd, Bool.not_true, Bool.not_false]; first | done | exact rfl) | exact rfl)) ?_))
  exact ret_plain (.inl rfl) rfl rfl
end Go.Proofs.Ytlpffgndackglaa
