/-
  Layer 17: the sorted keys of a map.
-/
import Derived.Test.YtgnnbmgljadokaaDoorHo8
import Derived.Test.YtgnnbmgljadokaaDoorAb51
namespace Go.Proofs.YtgnnbmgljadokaaDoor
open Go Go.Ab Go.Ho Go.Shelf Go.Proofs
set_option linter.unusedVariables false
set_option linter.unusedSimpArgs false
set_option maxHeartbeats 4000000
theorem intU : Tryd.prog.underlying 3 = some (.int .i64) := by kernel_rfl
abbrev Tr := Nat
theorem keysSortedA_c {ks : List Int} {vs : List AV} (hnd : ks.Nodup) (hw : ∀ x, x ∈ ks → I64 x) (hl : ks.length ≤ 8192) :
    ACall Tryd.prog 22 [.clo (.func 39) [] [.ptr 0 0]] [.var 52 [.mp 1], .mapO (ks.map kI) vs] (.sl 2 0 ks.length 1) [.var 52 [.mp 1], .mapO (ks.map kI) vs, .arr (ints (sorted ks)) 1] := by
  refine acall_sortedKeys (e := 3) ⟨_, Tryd.func22, by kernel_rfl, by kernel_rfl⟩ fun b Bm es ck w hc hlt hb st hk => ?_
  obtain ⟨D0, hown, hp, hsz⟩ := ownsMap_of (H := Tr) intU hb st hk hnd (fun x hx => hw x hx) (by simp only [maxLen]; omega)
  have hseq : SeqGives Fence.wide 2 Tryd.prog 39 #[.pointer (some ⟨Bm, 0, none⟩)] encZ (fun ss => ss.Perm (intKeys D0)) (Maps.size D0) w :=
    AnyZI.keys_gives (ρ := laysKeysA_ren) { laysKeysA with } Fence.wide _ trivial rfl (by omega) Bm b ks.length D0 _ hlt hc hown
  have cS := AnyZI.sorted_in laysSorted Fence.wide 5 trivial trivial trivial trivial rfl (by omega) (sorts _) (enters_of Tryd.func36 (by kernel_rfl) rfl) 39 #[.pointer (some ⟨Bm, 0, none⟩)] trivial (enters_of Tryd.func39 (by kernel_rfl) rfl) _ _ (by rw [hsz]; simp only [maxLen]; omega) (by rw [hsz]; omega) _ hseq
  change CallsIn _ _ Tryd.prog 22 _ _ _ at cS
  refine ((callsIn_wide (n := 5)).1 cS).mono ?_
  rintro e w' ⟨v, ss, rfl, hS, hrow, _, hbl⟩
  have hsl : sorted ss = sorted ks := sorted_perm (hS.trans hp)
  have hlen : ss.length = ks.length := (hS.trans hp).length_eq
  refine ⟨v, rfl, ?_, hbl⟩
  rw [← hsl, ← hlen]
  exact hrow
theorem keysSortedB_c {ks : List Int} {vs : List AV} (hnd : ks.Nodup) (hw : ∀ x, x ∈ ks → I64 x) (hl : ks.length ≤ 8192) :
    ACall Tryd.prog 22 [.clo (.func 41) [] [.ptr 0 0]] [.var 47 [.mp 1], .mapO (ks.map kI) vs] (.sl 2 0 ks.length 1) [.var 47 [.mp 1], .mapO (ks.map kI) vs, .arr (ints (sorted ks)) 1] := by
  refine acall_sortedKeys (e := 3) ⟨_, Tryd.func22, by kernel_rfl, by kernel_rfl⟩ fun b Bm es ck w hc hlt hb st hk => ?_
  obtain ⟨D0, hown, hp, hsz⟩ := ownsMap_of (H := Tr) intU hb st hk hnd (fun x hx => hw x hx) (by simp only [maxLen]; omega)
  have hseq : SeqGives Fence.wide 2 Tryd.prog 41 #[.pointer (some ⟨Bm, 0, none⟩)] encZ (fun ss => ss.Perm (intKeys D0)) (Maps.size D0) w :=
    AnyZI.keys_gives (ρ := laysKeysB_ren) { laysKeysB with } Fence.wide _ trivial rfl (by omega) Bm b ks.length D0 _ hlt hc hown
  have cS := AnyZI.sorted_in laysSorted Fence.wide 5 trivial trivial trivial trivial rfl (by omega) (sorts _) (enters_of Tryd.func36 (by kernel_rfl) rfl) 41 #[.pointer (some ⟨Bm, 0, none⟩)] trivial (enters_of Tryd.func41 (by kernel_rfl) rfl) _ _ (by rw [hsz]; simp only [maxLen]; omega) (by rw [hsz]; omega) _ hseq
  change CallsIn _ _ Tryd.prog 22 _ _ _ at cS
  refine ((callsIn_wide (n := 5)).1 cS).mono ?_
  rintro e w' ⟨v, ss, rfl, hS, hrow, _, hbl⟩
  have hsl : sorted ss = sorted ks := sorted_perm (hS.trans hp)
  have hlen : ss.length = ks.length := (hS.trans hp).length_eq
  refine ⟨v, rfl, ?_, hbl⟩
  rw [← hsl, ← hlen]
  exact hrow
attribute [local irreducible] VC AW FStep ACall
theorem lt1k : ∀ i : Nat, i < 1 → ([0, 1] : List Nat)[i]? = some i := by decide
theorem keysA_c {vs : List AV} {ks : List Value} (hv : AV.idfL vs = true) : ACall Tryd.prog 23 [.mp 0] [.mapO ks vs] (.clo (.func 39) [] [.ptr 1 0]) [.mapO ks vs, .var 52 [.mp 0]] := by
  refine acall T Tryd.func23 rfl rfl rfl rfl ?_
  repeat' (first | (first | (refine aw_seq ?_) | (refine aw_block ?_) | (refine aw_skip ?_) | (refine aw_ret ?_) | (refine aw_exit ?_)) | (first | (refine aw_condt rfl ?_) | (refine aw_condf rfl ?_) | (refine aw_cond rfl (fun hb => ?_) (fun hb => ?_) <;> (first | subst hb | ((try simp only [decide_eq_true_eq, decide_eq_false_iff_not, Bool.not_true, Bool.not_false, Bool.not_eq_true', Bool.not_eq_false', Bool.and_eq_true, Bool.or_eq_true, Bool.and_eq_false_iff, Bool.or_eq_false_iff, Int.not_lt, Int.not_le] at hb); try ((exfalso; omega); done))))) | (((refine aw_region (id := 0) ?_)); (all_goals (refine vc_n (by first | exact fs_boxT rfl rfl | exact fs_box rfl rfl) rfl ?_)); (all_goals (refine vc_v (by exact fs_assign rfl) rfl ?_))) | (((refine aw_region (id := 1) ?_)); (all_goals (refine vc_v (by exact fs_makeFunc rfl rfl) rfl ?_)); (all_goals (refine vc_v (by exact fs_assign rfl) rfl ?_))) | (refine vc_nilp (by (first | (dsimp only [List.nil_append, List.cons_append, List.append_nil, List.length_cons, List.length_nil, List.set_cons_zero, List.set_cons_succ, List.map_cons, List.map_nil, putAt, putd, allObjs, argEnv, un_v, un_ptr, un_ep, un_pr, un_sl, un_mp, un_row, un_agg, un_tup, un_clo, Nat.zero_add, Nat.add_zero, Nat.reduceAdd, Bool.not_true, Bool.not_false]; first | done | exact rfl) | exact rfl)) ?_))
  all_goals exact ⟨.inl rfl, [0, 1], _, rfl, rfl, rfl, ⟨.inr (sub_map rfl rfl rfl hv), .inr rfl, trivial⟩, by decide, lt1k⟩
theorem keysB_c {vs : List AV} {ks : List Value} (hv : AV.idfL vs = true) : ACall Tryd.prog 26 [.mp 0] [.mapO ks vs] (.clo (.func 41) [] [.ptr 1 0]) [.mapO ks vs, .var 47 [.mp 0]] := by
  refine acall T Tryd.func26 rfl rfl rfl rfl ?_
  repeat' (first | (first | (refine aw_seq ?_) | (refine aw_block ?_) | (refine aw_skip ?_) | (refine aw_ret ?_) | (refine aw_exit ?_)) | (first | (refine aw_condt rfl ?_) | (refine aw_condf rfl ?_) | (refine aw_cond rfl (fun hb => ?_) (fun hb => ?_) <;> (first | subst hb | ((try simp only [decide_eq_true_eq, decide_eq_false_iff_not, Bool.not_true, Bool.not_false, Bool.not_eq_true', Bool.not_eq_false', Bool.and_eq_true, Bool.or_eq_true, Bool.and_eq_false_iff, Bool.or_eq_false_iff, Int.not_lt, Int.not_le] at hb); try ((exfalso; omega); done))))) | (((refine aw_region (id := 0) ?_)); (all_goals (refine vc_n (by first | exact fs_boxT rfl rfl | exact fs_box rfl rfl) rfl ?_)); (all_goals (refine vc_v (by exact fs_assign rfl) rfl ?_))) | (((refine aw_region (id := 1) ?_)); (all_goals (refine vc_v (by exact fs_makeFunc rfl rfl) rfl ?_)); (all_goals (refine vc_v (by exact fs_assign rfl) rfl ?_))) | (refine vc_nilp (by (first | (dsimp only [List.nil_append, List.cons_append, List.append_nil, List.length_cons, List.length_nil, List.set_cons_zero, List.set_cons_succ, List.map_cons, List.map_nil, putAt, putd, allObjs, argEnv, un_v, un_ptr, un_ep, un_pr, un_sl, un_mp, un_row, un_agg, un_tup, un_clo, Nat.zero_add, Nat.add_zero, Nat.reduceAdd, Bool.not_true, Bool.not_false]; first | done | exact rfl) | exact rfl)) ?_))
  all_goals exact ⟨.inl rfl, [0, 1], _, rfl, rfl, rfl, ⟨.inr (sub_map rfl rfl rfl hv), .inr rfl, trivial⟩, by decide, lt1k⟩
end Go.Proofs.YtgnnbmgljadokaaDoor
