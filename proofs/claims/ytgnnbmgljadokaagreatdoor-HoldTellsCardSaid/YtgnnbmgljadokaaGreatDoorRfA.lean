/-
  Layer 1: the reference's numbers and lists of numbers, as bytes.
-/
import Derived.Test.YtgnnbmgljadokaaGreatDoorWrC
import Derived.Laws.IdiomStrings
namespace Go.Proofs.YtgnnbmgljadokaaGreatDoor
open Go Go.Ab Go.Wr
set_option linter.unusedVariables false
set_option linter.unusedSimpArgs false
def SlT (P : Program) (t e : TypeId) : Prop := P.underlying t = some (.slice e)
theorem slB : SlT Tryz.prog 61 5 := by unfold SlT; kernel_rfl
theorem intU8 : IntT Tryz.prog 5 .u8 := by unfold IntT; kernel_rfl
theorem intI64 : IntT Tryz.prog 3 .i64 := by unfold IntT; kernel_rfl
section
variable {P : Program} {env : Env} {h : Hp} {d : Option Nat} {ty : TypeId} {pos : String} {af : Array Edge} {g : Option (Nat × Bool)}
theorem fs_convB {src dst e : TypeId} {x : Operand} {k n : Nat} {l : List UInt8} (hs : SlT P src e) (he : IntT P e .u8) (hd : StrT P dst) (hx : evu env x = some (.sl k 0 n 1)) (hk : h[k]? = some (.arr (bytesA l) 1)) (hn : n = l.length) (h0 : l ≠ []) :
    FStep P ⟨d, .convert src dst x, ty, pos, af, g⟩ env h 0 (fun _ => .s l) (fun _ => []) := by
  subst hn
  refine fs_val fun ρ S a w p => ⟨.string ⟨l.toArray⟩, ?_, by simp [R]⟩
  have h1 := p.evu hx
  simp only [R] at h1
  obtain ⟨ad, cap, h2, h3, h4⟩ := h1
  have hl : 0 < l.length := List.length_pos_iff.2 h0
  have hB := p.blk k _ hk
  obtain ⟨_, _, hB⟩ := hB
  rcases h4 with h4 | ⟨b, o, h5, h6, _, _⟩
  · omega
  rcases hB with hB | ⟨b', o', ys, g1, ⟨c, et, g2, g3⟩, g4⟩
  · have := congrArg List.length hB.1
    rw [bytesA_length] at this
    simp at this
    exact absurd this h0
  rw [h5] at g1
  obtain ⟨rfl, rfl⟩ : b = b' ∧ o = o' := by simpa using g1
  have hys : ys = l.map fun b => Value.int .u8 (b.toNat : Int) := by
    have e : (bytesA l).flatten = (l.map fun b => Value.int .u8 (b.toNat : Int)).map AV.v := by
      unfold bytesA
      rw [List.flatten_eq_flatMap, List.flatMap_map, List.map_map]
      exact (List.map_eq_flatMap).symm
    rw [e] at g4
    exact RL_vsEq g4
  subst hys
  have hc : ∀ j (hj : j < l.length), w.cell? ((⟨b, o, none⟩ : Addr).add j) = some (.int .u8 (l[j].toNat : Int)) := fun j hj => by
    have := g3 j _ (by rw [List.getElem?_map, List.getElem?_eq_getElem hj]; rfl)
    have e : ((⟨b, o, none⟩ : Addr).add j).block = b ∧ ((⟨b, o, none⟩ : Addr).add j).off = o + j ∧ ((⟨b, o, none⟩ : Addr).add j).spot = none := by
      unfold Addr.add; split <;> simp <;> omega
    simp [World.cell?, e.1, e.2.1, e.2.2, g2, this]
  have hr := run_convert_bytes_back (P := P) w src dst e ⟨b, o, none⟩ cap l hs he hd hc
  rw [Nat.zero_mul, Nat.add_zero] at h6
  subst h6
  simp [execOp, h2, hr]
theorem fs_remE {t t2 : TypeId} {x y : Operand} {k : IntKind} {a b r : Int} (hx : evu env x = some (.v (.int k a))) (hy : evu env y = some (.v (.int k b))) (hb : b ≠ 0) (e : a.tmod b = r) : FStep P ⟨d, .binOp .rem t x y t2, ty, pos, af, g⟩ env h 0 (fun _ => .v (.int k r)) (fun _ => []) := by
  subst e; exact fs_rem hx hy hb
theorem fs_quoE {t t2 : TypeId} {x y : Operand} {a b r : Int} (hx : evu env x = some (.i a)) (hy : evu env y = some (.i b)) (hb : b ≠ 0) (e : a.tdiv b = r) (h0 : -9223372036854775808 ≤ r ∧ r ≤ 9223372036854775807) : FStep P ⟨d, .binOp .quo t x y t2, ty, pos, af, g⟩ env h 0 (fun _ => .i r) (fun _ => []) := by
  have := fs_quo (P := P) (d := d) (ty := ty) (pos := pos) (af := af) (g := g) (h := h) (t := t) (t2 := t2) hx hy hb
  rw [e, IntWalk.i64_in _ (by omega)] at this
  exact this
theorem fs_convE {s t : TypeId} {x : Operand} {ks k kk : IntKind} {n m : Int} (hs : IntT P s ks) (ht : IntT P t k) (hx : evu env x = some (.v (.int kk n))) (hn : k.wrap n = n) (e : n = m) :
    FStep P ⟨d, .convert s t x, ty, pos, af, g⟩ env h 0 (fun _ => .v (.int k m)) (fun _ => []) := by
  subst e; exact fs_convT hs ht hx hn
end
theorem wrapU8 {n : Int} (h0 : 0 ≤ n) (h1 : n < 256) : IntKind.u8.wrap n = n := by
  simp [IntKind.wrap, IntKind.signed, IntKind.bits]; omega
theorem wrapI {n : Int} (h0 : -9223372036854775808 ≤ n) (h1 : n ≤ 9223372036854775807) : IntKind.i64.wrap n = n := IntWalk.i64_in _ (by omega)
attribute [local irreducible] VC AW FStep ACall SlT IntT StrT
set_option maxHeartbeats 4000000
theorem digits_c : ∀ u : Nat, u ≤ 9223372036854775808 → ACall Tryz.prog 78 [.i (-(u : Int))] [] (.s (Lib.decDigits u)) [] := by
  intro u
  induction u using Nat.strongRecOn with
  | _ u ih =>
    intro hu
    have e1 : (-(u : Int)).tmod 10 = -((u % 10 : Nat) : Int) := by rw [Int.neg_tmod]; rfl
    have e2 : (-(u : Int)).tdiv 10 = -((u / 10 : Nat) : Int) := by rw [Int.neg_tdiv]; rfl
    have e3 : (48 : Int) - -((u % 10 : Nat) : Int) = ((UInt8.ofNat (48 + u % 10)).toNat : Int) := by
      have : (UInt8.ofNat (48 + u % 10)).toNat = 48 + u % 10 := by simp; omega
      rw [this]; omega
    have hm : u % 10 < 10 := Nat.mod_lt _ (by decide)
    have ih10 := fun h => ih (u / 10) h (by omega)
    have hdl : (Lib.decDigits (u / 10)).length ≤ 20 := by
      rw [Lib.decDigits_length]
      have := nDig_le 18 (u / 10) (by have : (10 : Nat) ^ (18 + 1) = 10000000000000000000 := by decide
                                      omega)
      omega
    have hsm : u < 10 → Lib.decDigits u = [UInt8.ofNat (48 + u % 10)] := fun h => by rw [Lib.decDigits_one h, Nat.mod_eq_of_lt h]
    have hbg : ¬ u < 10 → Lib.decDigits u = Lib.decDigits (u / 10) ++ [UInt8.ofNat (48 + u % 10)] := fun h => by rw [Lib.decDigits, dif_neg h]
    have hq : u / 10 < u ∨ u = 0 := by omega
    have hdv : u / 10 ≤ 9223372036854775807 := by omega
    refine acall T Tryz.func78 rfl rfl rfl rfl ?_
    by_cases h10 : u < 10
    · rw [hsm h10]
      generalize u % 10 = r at *
      generalize UInt8.ofNat (48 + r) = c at *
      repeat' (first | refine wS ?_ | refine wB ?_ | refine wK ?_ | refine wR ?_ | refine wE ?_ | refine aw_condt rfl ?_ | refine aw_condf rfl ?_ | (refine wC rfl (fun hb => ?_) (fun hb => ?_) <;> (first | subst hb | ((try simp only [nm] at hb); try (exfalso; omega)))) | (((refine rg 0 ?_)); (all_goals (refine va rfl rfl ?_))) | (((refine rg 1 ?_)); (all_goals (refine vm rfl rfl ?_; refine vc_v (by first | exact fs_remE rfl rfl (by decide) e1 | exact fs_remr rfl rfl (by omega) (by omega)) rfl ?_; refine vc_v (by first | exact fs_remE rfl rfl (by decide) e1 | exact fs_subr rfl rfl (by omega) (by omega) | exact fs_sub rfl rfl) rfl ?_; refine vc_v (by first | exact fs_convE intI64 intU8 rfl (wrapU8 (by omega) (by omega)) e3 | exact fs_convB slB intU8 strT rfl (l := [c]) rfl rfl (by simp)) rfl ?_; refine vc_n (by exact fs_buildSlice T rfl rfl (by decide) (by decide) rfl rfl rfl) rfl ?_; refine vc_v (by first | exact fs_convE intI64 intU8 rfl (wrapU8 (by omega) (by omega)) e3 | exact fs_convB slB intU8 strT rfl (l := [c]) rfl rfl (by simp)) rfl ?_; refine va rfl rfl ?_))) | (((refine rg 2 ?_)); (all_goals (refine vm rfl rfl ?_; refine vc_v (by first | exact fs_remE rfl rfl (by decide) e1 | exact fs_gtr rfl rfl) rfl ?_))) | (((refine rg 3 ?_)); (all_goals (refine vm rfl rfl ?_; refine va rfl rfl ?_))) | (refine vc_nilp (by (first | (dsimp only [ln1, ln2, List.append_nil, ln4, ln5, ln6, ln7, ln8, ln9, putAt, putd, allObjs, argEnv, un_v, un_ptr, un_ep, un_pr, un_sl, un_mp, un_row, un_agg, un_tup, un_clo, Nat.zero_add, lnb, Nat.reduceAdd, lnc, lnd]; first | done | exact rfl) | exact rfl)) ?_))
      all_goals first | (exfalso; omega) | exact ret_plain (.inl rfl) rfl rfl
    · rw [hbg h10]
      have hc := ih10 (by omega)
      generalize u % 10 = r at *
      generalize u / 10 = q at *
      generalize UInt8.ofNat (48 + r) = c at *
      repeat' (first | refine wS ?_ | refine wB ?_ | refine wK ?_ | refine wR ?_ | refine wE ?_ | refine aw_condt rfl ?_ | refine aw_condf rfl ?_ | (refine wC rfl (fun hb => ?_) (fun hb => ?_) <;> (first | subst hb | ((try simp only [nm] at hb); try (exfalso; omega)))) | (((refine rg 0 ?_)); (all_goals (refine va rfl rfl ?_))) | (((refine rg 1 ?_)); (all_goals (refine vm rfl rfl ?_; refine vc_v (by first | exact fs_remE rfl rfl (by decide) e1 | exact fs_quoE rfl rfl (by decide) e2 (by omega) | exact fs_addS rfl rfl (by simp only [List.length_append, List.length_cons, List.length_nil]; omega) | exact fs_remr rfl rfl (by omega) (by omega)) rfl ?_; refine vc_v (by first | exact fs_remE rfl rfl (by decide) e1 | exact fs_quoE rfl rfl (by decide) e2 (by omega) | exact fs_addS rfl rfl (by simp only [List.length_append, List.length_cons, List.length_nil]; omega) | exact fs_subr rfl rfl (by omega) (by omega) | exact fs_sub rfl rfl) rfl ?_; refine vc_v (by first | exact fs_convE intI64 intU8 rfl (wrapU8 (by omega) (by omega)) e3 | exact fs_convB slB intU8 strT rfl (l := [c]) rfl rfl (by simp)) rfl ?_; refine vc_n (by exact fs_buildSlice T rfl rfl (by decide) (by decide) rfl rfl rfl) rfl ?_; refine vc_v (by first | exact fs_convE intI64 intU8 rfl (wrapU8 (by omega) (by omega)) e3 | exact fs_convB slB intU8 strT rfl (l := [c]) rfl rfl (by simp)) rfl ?_; refine va rfl rfl ?_))) | (((refine rg 2 ?_)); (all_goals (refine vm rfl rfl ?_; refine vc_v (by first | exact fs_remE rfl rfl (by decide) e1 | exact fs_quoE rfl rfl (by decide) e2 (by omega) | exact fs_addS rfl rfl (by simp only [List.length_append, List.length_cons, List.length_nil]; omega) | exact fs_gtr rfl rfl) rfl ?_))) | (((refine rg 4 ?_)); (all_goals (refine vm rfl rfl ?_; refine vc_v (by first | exact fs_remE rfl rfl (by decide) e1 | exact fs_quoE rfl rfl (by decide) e2 (by omega) | exact fs_addS rfl rfl (by simp only [List.length_append, List.length_cons, List.length_nil]; omega) | exact fs_quor rfl rfl (by omega) (by omega) (by omega)) rfl ?_; refine vc_v (by exact fs_call0 rfl rfl (hc) rfl rfl rfl) rfl ?_; refine vm rfl rfl ?_; refine vc_v (by first | exact fs_remE rfl rfl (by decide) e1 | exact fs_quoE rfl rfl (by decide) e2 (by omega) | exact fs_addS rfl rfl (by simp only [List.length_append, List.length_cons, List.length_nil]; omega) | exact fs_addr rfl rfl (by omega) (by omega) | exact fs_add rfl rfl) rfl ?_; refine va rfl rfl ?_))) | (refine vc_nilp (by (first | (dsimp only [ln1, ln2, List.append_nil, ln4, ln5, ln6, ln7, ln8, ln9, putAt, putd, allObjs, argEnv, un_v, un_ptr, un_ep, un_pr, un_sl, un_mp, un_row, un_agg, un_tup, un_clo, Nat.zero_add, lnb, Nat.reduceAdd, lnc, lnd]; first | done | exact rfl) | exact rfl)) ?_))
      all_goals first | (exfalso; omega) | exact ret_plain (.inl rfl) rfl rfl
theorem qint_c {n : Int} (h : I64 n) : ACall Tryz.prog 52 [.i n] [] (.s (intB n)) [] := by
  obtain ⟨h1, h2⟩ := h
  refine acall T Tryz.func52 rfl rfl rfl rfl ?_
  have hl20 := itoa_le20 ⟨h1, h2⟩
  by_cases h0 : n < 0
  · have hc := digits_c n.natAbs (by omega)
    rw [show -((n.natAbs : Nat) : Int) = n by omega] at hc
    have e : intB n = [45] ++ Lib.decDigits n.natAbs ++ [59] := by unfold intB Lib.itoa; rw [if_pos h0]; rfl
    have hl : (Lib.decDigits n.natAbs).length ≤ 20 := by unfold Lib.itoa at hl20; rw [if_pos h0, List.length_cons] at hl20; omega
    rw [e]
    generalize Lib.decDigits n.natAbs = s at *
    repeat' (first | refine wS ?_ | refine wB ?_ | refine wK ?_ | refine wR ?_ | refine wE ?_ | refine aw_condt rfl ?_ | refine aw_condf rfl ?_ | (refine wC rfl (fun hb => ?_) (fun hb => ?_) <;> (first | subst hb | ((try simp only [nm] at hb); try (exfalso; omega)))) | (((refine rg 0 ?_)); (all_goals (refine va rfl rfl ?_))) | (((refine rg 1 ?_)); (all_goals (refine vm rfl rfl ?_; refine vc_v (by first | exact fs_addS rfl rfl (by simp only [List.length_append, List.length_cons, List.length_nil]; omega) | exact fs_lssT rfl rfl h0 | exact fs_lss rfl rfl) rfl ?_))) | (((refine rg 2 ?_)); (all_goals (refine vm rfl rfl ?_; refine vc_v (by exact fs_call0 rfl rfl (hc) rfl rfl rfl) rfl ?_; refine vc_v (by first | exact fs_addS rfl rfl (by simp only [List.length_append, List.length_cons, List.length_nil]; omega) | exact fs_lssT rfl rfl h0 | exact fs_addr rfl rfl (by omega) (by omega) | exact fs_add rfl rfl) rfl ?_; refine vc_v (by first | exact fs_addS rfl rfl (by simp only [List.length_append, List.length_cons, List.length_nil]; omega) | exact fs_lssT rfl rfl h0 | exact fs_addr rfl rfl (by omega) (by omega) | exact fs_add rfl rfl) rfl ?_; refine va rfl rfl ?_))) | (refine vc_nilp (by (first | (dsimp only [ln1, ln2, List.append_nil, ln4, ln5, ln6, ln7, ln8, ln9, putAt, putd, allObjs, argEnv, un_v, un_ptr, un_ep, un_pr, un_sl, un_mp, un_row, un_agg, un_tup, un_clo, Nat.zero_add, lnb, Nat.reduceAdd, lnc, lnd]; first | done | exact rfl) | exact rfl)) ?_))
    all_goals first | (exfalso; omega) | exact ret_plain (.inl rfl) rfl rfl
  · have hc := digits_c n.toNat (by omega)
    rw [show -((n.toNat : Nat) : Int) = -n by omega] at hc
    have e : intB n = Lib.decDigits n.toNat ++ [59] := by unfold intB Lib.itoa; rw [if_neg h0]
    have hl : (Lib.decDigits n.toNat).length ≤ 20 := by unfold Lib.itoa at hl20; rw [if_neg h0] at hl20; omega
    rw [e]
    generalize Lib.decDigits n.toNat = s at *
    repeat' (first | refine wS ?_ | refine wB ?_ | refine wK ?_ | refine wR ?_ | refine wE ?_ | refine aw_condt rfl ?_ | refine aw_condf rfl ?_ | (refine wC rfl (fun hb => ?_) (fun hb => ?_) <;> (first | subst hb | ((try simp only [nm] at hb); try (exfalso; omega)))) | (((refine rg 0 ?_)); (all_goals (refine va rfl rfl ?_))) | (((refine rg 1 ?_)); (all_goals (refine vm rfl rfl ?_; refine vc_v (by first | exact fs_addS rfl rfl (by simp only [List.length_append, List.length_cons, List.length_nil]; omega) | exact fs_lssF rfl rfl (by omega) | exact fs_lss rfl rfl) rfl ?_))) | (((refine rg 3 ?_)); (all_goals (refine vm rfl rfl ?_; refine vc_v (by first | exact fs_addS rfl rfl (by simp only [List.length_append, List.length_cons, List.length_nil]; omega) | exact fs_lssF rfl rfl (by omega) | exact fs_negr rfl (by omega) (by omega) | exact fs_neg rfl) rfl ?_; refine vc_v (by exact fs_call0 rfl rfl (hc) rfl rfl rfl) rfl ?_; refine vc_v (by first | exact fs_addS rfl rfl (by simp only [List.length_append, List.length_cons, List.length_nil]; omega) | exact fs_lssF rfl rfl (by omega) | exact fs_addr rfl rfl (by omega) (by omega) | exact fs_add rfl rfl) rfl ?_; refine va rfl rfl ?_))) | (refine vc_nilp (by (first | (dsimp only [ln1, ln2, List.append_nil, ln4, ln5, ln6, ln7, ln8, ln9, putAt, putd, allObjs, argEnv, un_v, un_ptr, un_ep, un_pr, un_sl, un_mp, un_row, un_agg, un_tup, un_clo, Nat.zero_add, lnb, Nat.reduceAdd, lnc, lnd]; first | done | exact rfl) | exact rfl)) ?_))
    all_goals first | (exfalso; omega) | exact ret_plain (.inl rfl) rfl rfl
theorem qnum_c {n : Int} (h : I64 n) (h0 : 0 ≤ n) : ACall Tryz.prog 51 [.i n] [] (.s (intB n)) [] := by
  have hc := qint_c h
  refine acall T Tryz.func51 rfl rfl rfl rfl ?_
  repeat' (first | refine wS ?_ | refine wB ?_ | refine wK ?_ | refine wR ?_ | refine wE ?_ | refine aw_condt rfl ?_ | refine aw_condf rfl ?_ | (refine wC rfl (fun hb => ?_) (fun hb => ?_) <;> (first | subst hb | ((try simp only [nm] at hb); try (exfalso; omega)))) | (((refine rg 0 ?_)); (all_goals (refine va rfl rfl ?_))) | (((refine rg 1 ?_)); (all_goals (refine vm rfl rfl ?_; refine vc_v (by first | exact fs_lssF rfl rfl h0 | exact fs_lss rfl rfl) rfl ?_))) | (((refine rg 2 ?_)); (all_goals (refine va rfl rfl ?_))) | (((refine rg 3 ?_)); (all_goals (refine vm rfl rfl ?_; refine vc_v (by exact fs_call0 rfl rfl (hc) rfl rfl rfl) rfl ?_; refine va rfl rfl ?_))) | (refine vc_nilp (by (first | (dsimp only [ln1, ln2, List.append_nil, ln4, ln5, ln6, ln7, ln8, ln9, putAt, putd, allObjs, argEnv, un_v, un_ptr, un_ep, un_pr, un_sl, un_mp, un_row, un_agg, un_tup, un_clo, Nat.zero_add, lnb, Nat.reduceAdd, lnc, lnd]; first | done | exact rfl) | exact rfl)) ?_))
  all_goals first | (exfalso; omega) | exact ret_plain (.inl rfl) rfl rfl
theorem qnums_c {l : List Int} (hw : ∀ x, x ∈ l → I64 x) (hl : l.length ≤ 1000000) : ACall Tryz.prog 53 [.rowE (ints l) 1] [] (.s (numsB l)) [] := by
  have hlen : (ints l).length = l.length := ints_length l
  have hc := digits_c l.length (by omega)
  have hit : Lib.itoa (l.length : Int) = Lib.decDigits l.length := Lib.itoa_nonneg _
  have hbl := accB_len hw hl
  have h00 : accB l 0 = Lib.decDigits l.length ++ [91] := by simp [accB, hit]
  have h01 := hbl 0
  rw [h00, List.length_append, List.length_singleton] at h01
  refine acall T Tryz.func53 rfl rfl rfl rfl ?_
  rw [show -((l.length : Nat) : Int) = -((ints l).length : Int) by rw [hlen]] at hc
  repeat' (first | refine wS ?_ | refine wB ?_ | refine wK ?_ | refine wR ?_ | refine wE ?_ | refine aw_condt rfl ?_ | refine aw_condf rfl ?_ | (refine wC rfl (fun hb => ?_) (fun hb => ?_) <;> (first | subst hb | ((try simp only [nm] at hb); try (exfalso; omega)))) | (((refine rg 0 ?_)); (all_goals (refine va rfl rfl ?_))) | (((refine rg 1 ?_)); (all_goals (refine vm rfl rfl ?_; refine vc_v (by first | exact fs_lenOwn T rfl rfl | exact fs_lenRow T rfl rfl | exact fs_lenNil T rfl rfl) rfl ?_; refine vc_v (by first | exact fs_addS rfl rfl (by simp only [List.length_append, List.length_cons, List.length_nil]; omega) | exact fs_negr rfl (by omega) (by omega) | exact fs_neg rfl) rfl ?_; refine vc_v (by exact fs_call0 rfl rfl (hc) rfl rfl rfl) rfl ?_; refine vc_v (by first | exact fs_addS rfl rfl (by simp only [List.length_append, List.length_cons, List.length_nil]; omega) | exact fs_addr rfl rfl (by omega) (by omega) | exact fs_add rfl rfl) rfl ?_; refine va rfl rfl ?_))) | (((refine rg 2 ?_)); (all_goals (refine va rfl rfl ?_))) | (refine vc_nilp (by (first | (dsimp only [ln1, ln2, List.append_nil, ln4, ln5, ln6, ln7, ln8, ln9, putAt, putd, allObjs, argEnv, un_v, un_ptr, un_ep, un_pr, un_sl, un_mp, un_row, un_agg, un_tup, un_clo, Nat.zero_add, lnb, Nat.reduceAdd, lnc, lnd]; first | done | exact rfl) | exact rfl)) ?_))
  refine aw_loop (X := {k : Nat // k ≤ l.length}) (fun k => [(0, .rowE (ints l) 1), (3, .s (accB l k.1)), (4, .i k.1)]) (fun _ => []) (fun k => l.length - k.1) ⟨0, by omega⟩ ⟨[], rfl, (by dsimp only; rw [h00]; (repeat (first | exact trivial | refine ⟨rfl, ?_⟩))), trivial, List.nodup_nil, fun _ h => absurd h (Nat.not_lt_zero _)⟩ ?_
  rintro ⟨k, hk⟩
  dsimp only
  have hbk := hbl k
  by_cases hlt : k < l.length
  · have hIx := hw _ (List.getElem_mem hlt)
    have hcx := qint_c hIx
    have hlx := intB_len hIx
    have hnx := accB_next hlt
    have hg := ints_get hlt
    generalize l[k] = x at *
    generalize accB l k = s at *
    repeat' (first | refine wS ?_ | refine wB ?_ | refine wK ?_ | refine wR ?_ | refine wE ?_ | refine aw_condt rfl ?_ | refine aw_condf rfl ?_ | (refine wC rfl (fun hb => ?_) (fun hb => ?_) <;> (first | subst hb | ((try simp only [nm] at hb); try (exfalso; omega)))) | (((refine rg 3 ?_)); (all_goals (refine vm rfl rfl ?_; refine vm rfl rfl ?_; refine vc_v (by first | exact fs_lenOwn T rfl rfl | exact fs_lenRow T rfl rfl | exact fs_lenNil T rfl rfl) rfl ?_; refine vc_v (by first | exact fs_addS rfl rfl (by omega) | exact fs_lss rfl rfl) rfl ?_))) | (((refine rg 5 ?_)); (all_goals (refine vm rfl rfl ?_; refine vm rfl rfl ?_; refine vm rfl rfl ?_; refine vc_v (by exact fs_indexRowE T rfl rfl rfl rfl rfl (by omega) (ints_len _) hg) rfl ?_; refine vL T rfl rfl rfl rfl rfl ?_; refine vc_v (by exact fs_call0 rfl rfl (hcx) rfl rfl rfl) rfl ?_; refine vc_v (by first | exact fs_addS rfl rfl (by omega) | exact fs_addr rfl rfl (by omega) (by omega) | exact fs_add rfl rfl) rfl ?_; refine va rfl rfl ?_))) | (((refine rg 4 ?_)); (all_goals (refine vm rfl rfl ?_; refine vc_v (by first | exact fs_addS rfl rfl (by omega) | exact fs_addr rfl rfl (by omega) (by omega) | exact fs_add rfl rfl) rfl ?_; refine va rfl rfl ?_))) | (refine vc_nilp (by (first | (dsimp only [ln1, ln2, List.append_nil, ln4, ln5, ln6, ln7, ln8, ln9, putAt, putd, allObjs, argEnv, un_v, un_ptr, un_ep, un_pr, un_sl, un_mp, un_row, un_agg, un_tup, un_clo, Nat.zero_add, lnb, Nat.reduceAdd, lnc, lnd]; first | done | exact rfl) | exact rfl)) ?_))
    all_goals first | (exfalso; omega) | exact ⟨⟨k + 1, hlt⟩, by dsimp only; omega, ⟨[], rfl, (by dsimp only; rw [hnx]; (repeat (first | exact trivial | refine ⟨rfl, ?_⟩))), trivial, List.nodup_nil, fun _ h => absurd h (Nat.not_lt_zero _)⟩⟩
  · have hkl : k = l.length := by omega
    subst hkl
    unfold numsB
    generalize accB l l.length = s at *
    repeat' (first | refine wS ?_ | refine wB ?_ | refine wK ?_ | refine wR ?_ | refine wE ?_ | refine aw_condt rfl ?_ | refine aw_condf rfl ?_ | (refine wC rfl (fun hb => ?_) (fun hb => ?_) <;> (first | subst hb | ((try simp only [nm] at hb); try (exfalso; omega)))) | (((refine rg 3 ?_)); (all_goals (refine vm rfl rfl ?_; refine vm rfl rfl ?_; refine vc_v (by first | exact fs_lenOwn T rfl rfl | exact fs_lenRow T rfl rfl | exact fs_lenNil T rfl rfl) rfl ?_; refine vc_v (by first | exact fs_addS rfl rfl (by simp only [List.length_cons, List.length_nil]; omega) | exact fs_lss rfl rfl) rfl ?_))) | (((refine rg 6 ?_)); (all_goals (refine vm rfl rfl ?_; refine vc_v (by first | exact fs_addS rfl rfl (by simp only [List.length_cons, List.length_nil]; omega) | exact fs_addr rfl rfl (by omega) (by omega) | exact fs_add rfl rfl) rfl ?_; refine va rfl rfl ?_))) | (refine vc_nilp (by (first | (dsimp only [ln1, ln2, List.append_nil, ln4, ln5, ln6, ln7, ln8, ln9, putAt, putd, allObjs, argEnv, un_v, un_ptr, un_ep, un_pr, un_sl, un_mp, un_row, un_agg, un_tup, un_clo, Nat.zero_add, lnb, Nat.reduceAdd, lnc, lnd]; first | done | exact rfl) | exact rfl)) ?_))
    all_goals first | (exfalso; omega) | exact ret_plain (.inl rfl) rfl rfl
end Go.Proofs.YtgnnbmgljadokaaGreatDoor
