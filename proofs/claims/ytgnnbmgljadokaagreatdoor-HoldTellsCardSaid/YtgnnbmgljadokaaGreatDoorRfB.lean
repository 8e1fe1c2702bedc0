/-
  Layer 1: the reference's reader: numbers.
-/
import Derived.Test.YtgnnbmgljadokaaGreatDoorRfA
namespace Go.Proofs.YtgnnbmgljadokaaGreatDoor
open Go Go.Ab Go.Wr
set_option linter.unusedVariables false
set_option linter.unusedSimpArgs false
def valD (l : List UInt8) (k : Nat) : Nat := (l.take k).foldl (fun a c => 10 * a + (c.toNat - 48)) 0
theorem foldD_ge (l : List UInt8) : ∀ a : Nat, a ≤ l.foldl (fun a c => 10 * a + (c.toNat - 48)) a := by
  induction l with
  | nil => intro a; exact Nat.le_refl _
  | cons c l ih => intro a; exact Nat.le_trans (by omega) (ih (10 * a + (c.toNat - 48)))
theorem valD_next {l : List UInt8} {k : Nat} (h : k < l.length) : valD l (k + 1) = 10 * valD l k + (l[k].toNat - 48) := by
  unfold valD
  rw [List.take_succ_eq_append_getElem h, List.foldl_append]
  rfl
theorem valD_le (l : List UInt8) (k : Nat) : valD l k ≤ valD l l.length := by
  unfold valD
  rw [List.take_length]
  conv => rhs; rw [← List.take_append_drop k l, List.foldl_append]
  exact foldD_ge _ _
theorem valD_dec : ∀ u : Nat, valD (Lib.decDigits u) (Lib.decDigits u).length = u := by
  intro u
  unfold valD
  rw [List.take_length]
  induction u using Nat.strongRecOn with
  | _ u ih =>
    rw [Lib.decDigits]
    split
    · rename_i h
      have e : (UInt8.ofNat (48 + u)).toNat = 48 + u := by simp; omega
      simp only [List.foldl_cons, List.foldl_nil, e]
      omega
    · rename_i h
      have e : (UInt8.ofNat (48 + u % 10)).toNat = 48 + u % 10 := by simp; omega
      rw [List.foldl_append, ih (u / 10) (by omega)]
      simp only [List.foldl_cons, List.foldl_nil, e]
      omega
section
variable {P : Program} {env : Env} {h : Hp} {d : Option Nat} {ty : TypeId} {pos : String} {af : Array Edge} {g : Option (Nat × Bool)}
theorem fs_lssKT {t t2 : TypeId} {x y : Operand} {k : IntKind} {a b : Int} (hx : evu env x = some (.v (.int k a))) (hy : evu env y = some (.v (.int k b))) (e : a < b) : FStep P ⟨d, .binOp .lss t x y t2, ty, pos, af, g⟩ env h 0 (fun _ => .b true) (fun _ => []) := by
  have := fs_lss (P := P) (d := d) (ty := ty) (pos := pos) (af := af) (g := g) (h := h) (t := t) (t2 := t2) hx hy
  simpa [e] using this
theorem fs_lssKF {t t2 : TypeId} {x y : Operand} {k : IntKind} {a b : Int} (hx : evu env x = some (.v (.int k a))) (hy : evu env y = some (.v (.int k b))) (e : b ≤ a) : FStep P ⟨d, .binOp .lss t x y t2, ty, pos, af, g⟩ env h 0 (fun _ => .b false) (fun _ => []) := by
  have := fs_lss (P := P) (d := d) (ty := ty) (pos := pos) (af := af) (g := g) (h := h) (t := t) (t2 := t2) hx hy
  simpa [show decide (a < b) = false from decide_eq_false (by omega)] using this
theorem fs_gtrKT {t t2 : TypeId} {x y : Operand} {k : IntKind} {a b : Int} (hx : evu env x = some (.v (.int k a))) (hy : evu env y = some (.v (.int k b))) (e : b < a) : FStep P ⟨d, .binOp .gtr t x y t2, ty, pos, af, g⟩ env h 0 (fun _ => .b true) (fun _ => []) := by
  have := fs_gtr (P := P) (d := d) (ty := ty) (pos := pos) (af := af) (g := g) (h := h) (t := t) (t2 := t2) hx hy
  simpa [show decide (a > b) = true from decide_eq_true (by omega)] using this
theorem fs_gtrKF {t t2 : TypeId} {x y : Operand} {k : IntKind} {a b : Int} (hx : evu env x = some (.v (.int k a))) (hy : evu env y = some (.v (.int k b))) (e : a ≤ b) : FStep P ⟨d, .binOp .gtr t x y t2, ty, pos, af, g⟩ env h 0 (fun _ => .b false) (fun _ => []) := by
  have := fs_gtr (P := P) (d := d) (ty := ty) (pos := pos) (af := af) (g := g) (h := h) (t := t) (t2 := t2) hx hy
  simpa [show decide (a > b) = false from decide_eq_false (by omega)] using this
theorem fs_eqlKT {t t2 : TypeId} {x y : Operand} {k : IntKind} {a b : Int} (hx : evu env x = some (.v (.int k a))) (hy : evu env y = some (.v (.int k b))) (e : a = b) : FStep P ⟨d, .binOp .eql t x y t2, ty, pos, af, g⟩ env h 0 (fun _ => .b true) (fun _ => []) := by
  have := fs_eql (P := P) (d := d) (ty := ty) (pos := pos) (af := af) (g := g) (h := h) (t := t) (t2 := t2) hx hy
  simpa [e] using this
theorem fs_eqlKF {t t2 : TypeId} {x y : Operand} {k : IntKind} {a b : Int} (hx : evu env x = some (.v (.int k a))) (hy : evu env y = some (.v (.int k b))) (e : a ≠ b) : FStep P ⟨d, .binOp .eql t x y t2, ty, pos, af, g⟩ env h 0 (fun _ => .b false) (fun _ => []) := by
  have := fs_eql (P := P) (d := d) (ty := ty) (pos := pos) (af := af) (g := g) (h := h) (t := t) (t2 := t2) hx hy
  simpa [e] using this
theorem fs_neqKT {t t2 : TypeId} {x y : Operand} {k : IntKind} {a b : Int} (hx : evu env x = some (.v (.int k a))) (hy : evu env y = some (.v (.int k b))) (e : a ≠ b) : FStep P ⟨d, .binOp .neq t x y t2, ty, pos, af, g⟩ env h 0 (fun _ => .b true) (fun _ => []) := by
  have := fs_neq (P := P) (d := d) (ty := ty) (pos := pos) (af := af) (g := g) (h := h) (t := t) (t2 := t2) hx hy
  simpa [e] using this
theorem fs_neqKF {t t2 : TypeId} {x y : Operand} {k : IntKind} {a b : Int} (hx : evu env x = some (.v (.int k a))) (hy : evu env y = some (.v (.int k b))) (e : a = b) : FStep P ⟨d, .binOp .neq t x y t2, ty, pos, af, g⟩ env h 0 (fun _ => .b false) (fun _ => []) := by
  have := fs_neq (P := P) (d := d) (ty := ty) (pos := pos) (af := af) (g := g) (h := h) (t := t) (t2 := t2) hx hy
  simpa [e] using this
theorem fs_subKE {t t2 : TypeId} {x y : Operand} {k : IntKind} {a b r : Int} (hx : evu env x = some (.v (.int k a))) (hy : evu env y = some (.v (.int k b))) (e : a - b = r) (hn : k.wrap r = r) : FStep P ⟨d, .binOp .sub t x y t2, ty, pos, af, g⟩ env h 0 (fun _ => .v (.int k r)) (fun _ => []) := by
  have := fs_sub (P := P) (d := d) (ty := ty) (pos := pos) (af := af) (g := g) (h := h) (t := t) (t2 := t2) hx hy
  rw [e, hn] at this
  exact this
theorem fs_mulE {t t2 : TypeId} {x y : Operand} {a b r : Int} (hx : evu env x = some (.i a)) (hy : evu env y = some (.i b)) (e : IntKind.i64.wrap (a * b) = r) : FStep P ⟨d, .binOp .mul t x y t2, ty, pos, af, g⟩ env h 0 (fun _ => .i r) (fun _ => []) := by
  have := fs_mul (P := P) (d := d) (ty := ty) (pos := pos) (af := af) (g := g) (h := h) (t := t) (t2 := t2) hx hy
  rw [e] at this
  exact this
theorem fs_subE {t t2 : TypeId} {x y : Operand} {a b r : Int} (hx : evu env x = some (.i a)) (hy : evu env y = some (.i b)) (e : IntKind.i64.wrap (a - b) = r) : FStep P ⟨d, .binOp .sub t x y t2, ty, pos, af, g⟩ env h 0 (fun _ => .i r) (fun _ => []) := by
  have := fs_sub (P := P) (d := d) (ty := ty) (pos := pos) (af := af) (g := g) (h := h) (t := t) (t2 := t2) hx hy
  rw [e] at this
  exact this
end
theorem fs_negE {P : Program} {env : Env} {h : Hp} {d : Option Nat} {ty : TypeId} {pos : String} {af : Array Edge} {g : Option (Nat × Bool)} {t : TypeId} {x : Operand} {a r : Int} (hx : evu env x = some (.i a)) (e : -a = r) (hr : I64 r) : FStep P ⟨d, .unOp .neg t x, ty, pos, af, g⟩ env h 0 (fun _ => .i r) (fun _ => []) := by
  subst e
  obtain ⟨h1, h2⟩ := hr
  exact fs_negr hx (by omega) (by omega)
theorem wrap_I64 (n : Int) : I64 (IntKind.i64.wrap n) := by
  unfold I64
  simp only [IntKind.wrap, IntKind.signed, IntKind.bits]
  simp
  split <;> omega
attribute [local irreducible] VC AW FStep ACall SlT IntT StrT
set_option maxHeartbeats 4000000
theorem backOk_c (pre : List UInt8) (u : Nat) (n : Int) (hn : I64 n) (hs : Lib.itoa n = pre ++ Lib.decDigits u) (hp : (pre = [] ∧ n = u) ∨ (pre = [45] ∧ n = -(u : Int) ∧ n < 0)) :
    ACall Tryz.prog 105 [.s (Lib.itoa n)] [] (.tup [.i n, .b true]) [] := by
  have hl20 := itoa_le20 hn
  have hc := qint_c hn
  have hval := valD_dec u
  have hle := valD_le (Lib.decDigits u)
  have hch := dec_chars u
  have hne := dec_ne u
  have hib : intB n = Lib.itoa n ++ [59] := rfl
  rw [hib] at hc
  obtain ⟨n1, n2⟩ := hn
  rw [hs] at hl20 hc ⊢
  have hpl : pre.length ≤ 1 := by rcases hp with ⟨rfl, _⟩ | ⟨rfl, _⟩ <;> simp
  generalize Lib.decDigits u = ds at *
  have hdl : 0 < ds.length := List.length_pos_iff.2 hne
  have hle2 : (pre ++ ds).length = pre.length + ds.length := List.length_append
  have hfrom : ∀ k, k < ds.length → (pre ++ ds)[pre.length + k]? = ds[k]? := fun k hk => by rw [List.getElem?_append_right (by omega), Nat.add_sub_cancel_left]
  refine acall T Tryz.func105 rfl rfl rfl rfl ?_
  apply cutT
  · intro rest
    rcases hp with ⟨hp1, hnu⟩ | ⟨hp1, hnu, _⟩
    · have h0 : (pre ++ ds)[(0 : Int).toNat]? = some (ds.getD 0 0) := by
        rw [hp1, List.nil_append, Int.toNat_zero, List.getD_eq_getElem?_getD, List.getElem?_eq_getElem hdl]; rfl
      have hd0 : ds.getD 0 0 ∈ ds := by rw [List.getD_eq_getElem?_getD, List.getElem?_eq_getElem hdl]; exact List.getElem_mem hdl
      have hd1 := hch _ hd0
      have hp0 : (0 : Int) = (pre.length : Int) := by rw [hp1]; rfl
      generalize ds.getD 0 0 = c at *
      repeat' (first | refine wS ?_ | refine wB ?_ | refine wK ?_ | refine wR ?_ | refine wE ?_ | refine aw_condt rfl ?_ | refine aw_condf rfl ?_ | (refine wC rfl (fun hb => ?_) (fun hb => ?_) <;> (first | subst hb | ((try simp only [nm] at hb); try (exfalso; omega)))) | (((refine rg 0 ?_)); (all_goals (refine va rfl rfl ?_; refine va rfl rfl ?_))) | (((refine rg 1 ?_)); (all_goals (refine va rfl rfl ?_))) | (((refine rg 2 ?_)); (all_goals (refine vm rfl rfl ?_; refine vc_v (by first | exact fs_lenOwn T rfl rfl | exact fs_lenRow T rfl rfl | exact fs_lenNil T rfl rfl | exact fs_lenS strT rfl) rfl ?_; refine vc_v (by first | exact fs_gtrKT rfl rfl (by omega) | exact fs_gtr rfl rfl) rfl ?_; refine vm rfl rfl ?_)); (all_goals first | (refine vc_gt rfl rfl ?_ rfl; (refine vm rfl rfl ?_)) | (refine vc_gf rfl rfl ?_ rfl) | (refine vc_gu rfl rfl ?_ rfl)); (all_goals first | (refine vc_gt rfl rfl ?_ rfl; (refine vc_v (by exact fs_indexS strT rfl rfl (by decide) h0) rfl ?_)) | (refine vc_gf rfl rfl ?_ rfl) | (refine vc_gu rfl rfl ?_ rfl)); (all_goals first | (refine vc_gt rfl rfl ?_ rfl; (refine vc_v (by first | exact fs_gtrKT rfl rfl (by omega) | exact fs_eqlKF rfl rfl (by omega) | exact fs_eql rfl rfl) rfl ?_)) | (refine vc_gf rfl rfl ?_ rfl) | (refine vc_gu rfl rfl ?_ rfl)); (all_goals (refine vc_v (by first | exact fs_pickt rfl rfl | exact fs_pickf rfl rfl | exact fs_pick rfl rfl rfl) rfl ?_))) | (((refine rg 4 ?_)); (all_goals (refine va rfl rfl ?_))) | (((refine rg 5 ?_)); (all_goals (refine vm rfl rfl ?_; refine va rfl rfl ?_))) | (refine vc_nilp (by (first | (dsimp only [ln1, ln2, List.append_nil, ln4, ln5, ln6, ln7, ln8, ln9, putAt, putd, allObjs, argEnv, un_v, un_ptr, un_ep, un_pr, un_sl, un_mp, un_row, un_agg, un_tup, un_clo, Nat.zero_add, lnb, Nat.reduceAdd, lnc, lnd]; first | done | exact rfl) | exact rfl)) ?_))
      all_goals exact aw_keep [(0, .s (pre ++ ds)), (4, .i (pre.length : Int)), (5, .i (-((valD ds 0 : Nat) : Int))), (6, .i (pre.length : Int))] [] ⟨[], rfl, ⟨rfl, congrArg (fun x => some (AV.i x)) hp0, rfl, congrArg (fun x => some (AV.i x)) hp0, trivial⟩, trivial, List.nodup_nil, fun _ h => absurd h (Nat.not_lt_zero _)⟩ rest.get
    · have h0 : (pre ++ ds)[(0 : Int).toNat]? = some 45 := by rw [hp1]; rfl
      have hp0 : (1 : Int) = (pre.length : Int) := by rw [hp1]; rfl
      repeat' (first | refine wS ?_ | refine wB ?_ | refine wK ?_ | refine wR ?_ | refine wE ?_ | refine aw_condt rfl ?_ | refine aw_condf rfl ?_ | (refine wC rfl (fun hb => ?_) (fun hb => ?_) <;> (first | subst hb | ((try simp only [nm] at hb); try (exfalso; omega)))) | (((refine rg 0 ?_)); (all_goals (refine va rfl rfl ?_; refine va rfl rfl ?_))) | (((refine rg 1 ?_)); (all_goals (refine va rfl rfl ?_))) | (((refine rg 2 ?_)); (all_goals (refine vm rfl rfl ?_; refine vc_v (by first | exact fs_lenOwn T rfl rfl | exact fs_lenRow T rfl rfl | exact fs_lenNil T rfl rfl | exact fs_lenS strT rfl) rfl ?_; refine vc_v (by first | exact fs_gtrKT rfl rfl (by omega) | exact fs_gtr rfl rfl) rfl ?_; refine vm rfl rfl ?_)); (all_goals first | (refine vc_gt rfl rfl ?_ rfl; (refine vm rfl rfl ?_)) | (refine vc_gf rfl rfl ?_ rfl) | (refine vc_gu rfl rfl ?_ rfl)); (all_goals first | (refine vc_gt rfl rfl ?_ rfl; (refine vc_v (by exact fs_indexS strT rfl rfl (by decide) h0) rfl ?_)) | (refine vc_gf rfl rfl ?_ rfl) | (refine vc_gu rfl rfl ?_ rfl)); (all_goals first | (refine vc_gt rfl rfl ?_ rfl; (refine vc_v (by first | exact fs_gtrKT rfl rfl (by omega) | exact fs_eqlKT rfl rfl rfl | exact fs_eql rfl rfl) rfl ?_)) | (refine vc_gf rfl rfl ?_ rfl) | (refine vc_gu rfl rfl ?_ rfl)); (all_goals (refine vc_v (by first | exact fs_pickt rfl rfl | exact fs_pickf rfl rfl | exact fs_pick rfl rfl rfl) rfl ?_))) | (((refine rg 3 ?_)); (all_goals (refine va rfl rfl ?_))) | (((refine rg 4 ?_)); (all_goals (refine va rfl rfl ?_))) | (((refine rg 5 ?_)); (all_goals (refine vm rfl rfl ?_; refine va rfl rfl ?_))) | (refine vc_nilp (by (first | (dsimp only [ln1, ln2, List.append_nil, ln4, ln5, ln6, ln7, ln8, ln9, putAt, putd, allObjs, argEnv, un_v, un_ptr, un_ep, un_pr, un_sl, un_mp, un_row, un_agg, un_tup, un_clo, Nat.zero_add, lnb, Nat.reduceAdd, lnc, lnd]; first | done | exact rfl) | exact rfl)) ?_))
      all_goals exact aw_keep [(0, .s (pre ++ ds)), (4, .i (pre.length : Int)), (5, .i (-((valD ds 0 : Nat) : Int))), (6, .i (pre.length : Int))] [] ⟨[], rfl, ⟨rfl, congrArg (fun x => some (AV.i x)) hp0, rfl, congrArg (fun x => some (AV.i x)) hp0, trivial⟩, trivial, List.nodup_nil, fun _ h => absurd h (Nat.not_lt_zero _)⟩ rest.get
  · have hu : valD ds ds.length ≤ 9223372036854775808 := by
      rw [hval]
      rcases hp with ⟨_, hnu⟩ | ⟨_, hnu, _⟩ <;> omega
    refine aw_loop (X := {k : Nat // k ≤ ds.length}) (fun k => [(0, .s (pre ++ ds)), (4, .i (pre.length : Int)), (5, .i (-((valD ds k.1 : Nat) : Int))), (6, .i ((pre.length + k.1 : Nat) : Int))]) (fun _ => []) (fun k => ds.length - k.1) ⟨0, by omega⟩ (by (refine ⟨[], rfl, ?_, trivial, List.nodup_nil, fun _ h => absurd h (Nat.not_lt_zero _)⟩; (repeat (first | exact trivial | refine ⟨rfl, ?_⟩)))) ?_
    rintro ⟨k, hk⟩
    dsimp only
    by_cases hlt : k < ds.length
    · have h1 : (pre ++ ds)[(((pre.length + k : Nat) : Int)).toNat]? = some ds[k] := by rw [Int.toNat_natCast, hfrom k hlt, List.getElem?_eq_getElem hlt]
      have hd := hch _ (List.getElem_mem hlt)
      have hnx := valD_next hlt
      have hl1 := hle (k + 1)
      have hl2 := hle k
      rw [hnx] at hl1
      generalize ds[k] = c at *
      generalize valD ds k = v at *
      generalize valD ds ds.length = vv at *
      have e1 : IntKind.i64.wrap (10 * -(v : Int)) = -((10 * v : Nat) : Int) := by rw [show (10 : Int) * -(v : Int) = -((10 * v : Nat) : Int) by omega]; exact wrapI (by omega) (by omega)
      have e2 : ((c.toNat : Int) - 48) = ((c.toNat - 48 : Nat) : Int) := by omega
      have e3 : IntKind.i64.wrap (-((10 * v : Nat) : Int) - ((c.toNat - 48 : Nat) : Int)) = -((10 * v + (c.toNat - 48) : Nat) : Int) := by rw [show -((10 * v : Nat) : Int) - ((c.toNat - 48 : Nat) : Int) = -((10 * v + (c.toNat - 48) : Nat) : Int) by omega]; exact wrapI (by omega) (by omega)
      repeat' (first | refine wS ?_ | refine wB ?_ | refine wK ?_ | refine wR ?_ | refine wE ?_ | refine aw_condt rfl ?_ | refine aw_condf rfl ?_ | (refine wC rfl (fun hb => ?_) (fun hb => ?_) <;> (first | subst hb | ((try simp only [nm] at hb); try (exfalso; omega)))) | (((refine rg 6 ?_)); (all_goals (refine vm rfl rfl ?_; refine vm rfl rfl ?_; refine vc_v (by first | exact fs_lenOwn T rfl rfl | exact fs_lenRow T rfl rfl | exact fs_lenNil T rfl rfl | exact fs_lenS strT rfl) rfl ?_; refine vc_v (by first | exact fs_lssKT rfl rfl (by omega) | exact fs_lssKF rfl rfl (by omega) | exact fs_gtrKF rfl rfl (by omega) | exact fs_mulE rfl rfl e1 | exact fs_subKE rfl rfl e2 (wrapU8 (by omega) (by omega)) | exact fs_subE rfl rfl e3 | exact fs_lss rfl rfl) rfl ?_))) | (((refine rg 8 ?_)); (all_goals (refine vm rfl rfl ?_; refine vm rfl rfl ?_; refine vc_v (by exact fs_indexS strT rfl rfl (by omega) h1) rfl ?_; refine vc_v (by first | exact fs_lssKT rfl rfl (by omega) | exact fs_lssKF rfl rfl (by omega) | exact fs_gtrKF rfl rfl (by omega) | exact fs_mulE rfl rfl e1 | exact fs_subKE rfl rfl e2 (wrapU8 (by omega) (by omega)) | exact fs_subE rfl rfl e3 | exact fs_lss rfl rfl) rfl ?_; refine vm rfl rfl ?_)); (all_goals first | (refine vc_gt rfl rfl ?_ rfl; (refine vm rfl rfl ?_)) | (refine vc_gf rfl rfl ?_ rfl) | (refine vc_gu rfl rfl ?_ rfl)); (all_goals first | (refine vc_gt rfl rfl ?_ rfl; (refine vm rfl rfl ?_)) | (refine vc_gf rfl rfl ?_ rfl) | (refine vc_gu rfl rfl ?_ rfl)); (all_goals first | (refine vc_gt rfl rfl ?_ rfl; (refine vc_v (by exact fs_indexS strT rfl rfl (by omega) h1) rfl ?_)) | (refine vc_gf rfl rfl ?_ rfl) | (refine vc_gu rfl rfl ?_ rfl)); (all_goals first | (refine vc_gt rfl rfl ?_ rfl; (refine vc_v (by first | exact fs_lssKT rfl rfl (by omega) | exact fs_lssKF rfl rfl (by omega) | exact fs_gtrKF rfl rfl (by omega) | exact fs_mulE rfl rfl e1 | exact fs_subKE rfl rfl e2 (wrapU8 (by omega) (by omega)) | exact fs_subE rfl rfl e3 | exact fs_gtr rfl rfl) rfl ?_)) | (refine vc_gf rfl rfl ?_ rfl) | (refine vc_gu rfl rfl ?_ rfl)); (all_goals (refine vc_v (by first | exact fs_pickt rfl rfl | exact fs_pickf rfl rfl | exact fs_pick rfl rfl rfl) rfl ?_; refine vm rfl rfl ?_)); (all_goals first | (refine vc_gt rfl rfl ?_ rfl; (refine vm rfl rfl ?_)) | (refine vc_gf rfl rfl ?_ rfl) | (refine vc_gu rfl rfl ?_ rfl)); (all_goals first | (refine vc_gt rfl rfl ?_ rfl; (refine vc_v (by first | exact fs_lssKT rfl rfl (by omega) | exact fs_lssKF rfl rfl (by omega) | exact fs_gtrKF rfl rfl (by omega) | exact fs_mulE rfl rfl e1 | exact fs_subKE rfl rfl e2 (wrapU8 (by omega) (by omega)) | exact fs_subE rfl rfl e3 | exact fs_gtr rfl rfl) rfl ?_)) | (refine vc_gf rfl rfl ?_ rfl) | (refine vc_gu rfl rfl ?_ rfl)); (all_goals (refine vc_v (by first | exact fs_pickt rfl rfl | exact fs_pickf rfl rfl | exact fs_pick rfl rfl rfl) rfl ?_))) | (((refine rg 10 ?_)); (all_goals (refine vm rfl rfl ?_; refine vc_v (by first | exact fs_lssKT rfl rfl (by omega) | exact fs_lssKF rfl rfl (by omega) | exact fs_gtrKF rfl rfl (by omega) | exact fs_mulE rfl rfl e1 | exact fs_subKE rfl rfl e2 (wrapU8 (by omega) (by omega)) | exact fs_subE rfl rfl e3 | exact fs_mulr rfl rfl (by omega) (by omega) | exact fs_mul rfl rfl) rfl ?_; refine vm rfl rfl ?_; refine vm rfl rfl ?_; refine vc_v (by exact fs_indexS strT rfl rfl (by omega) h1) rfl ?_; refine vc_v (by first | exact fs_lssKT rfl rfl (by omega) | exact fs_lssKF rfl rfl (by omega) | exact fs_gtrKF rfl rfl (by omega) | exact fs_mulE rfl rfl e1 | exact fs_subKE rfl rfl e2 (wrapU8 (by omega) (by omega)) | exact fs_subE rfl rfl e3 | exact fs_subr rfl rfl (by omega) (by omega) | exact fs_sub rfl rfl) rfl ?_; refine vc_v (by exact fs_convT intU8 intI64 rfl (wrapI (by omega) (by omega))) rfl ?_; refine vc_v (by first | exact fs_lssKT rfl rfl (by omega) | exact fs_lssKF rfl rfl (by omega) | exact fs_gtrKF rfl rfl (by omega) | exact fs_mulE rfl rfl e1 | exact fs_subKE rfl rfl e2 (wrapU8 (by omega) (by omega)) | exact fs_subE rfl rfl e3 | exact fs_subr rfl rfl (by omega) (by omega) | exact fs_sub rfl rfl) rfl ?_; refine va rfl rfl ?_))) | (((refine rg 7 ?_)); (all_goals (refine vm rfl rfl ?_; refine vc_v (by first | exact fs_lssKT rfl rfl (by omega) | exact fs_lssKF rfl rfl (by omega) | exact fs_gtrKF rfl rfl (by omega) | exact fs_mulE rfl rfl e1 | exact fs_subKE rfl rfl e2 (wrapU8 (by omega) (by omega)) | exact fs_subE rfl rfl e3 | exact fs_addr rfl rfl (by omega) (by omega) | exact fs_add rfl rfl) rfl ?_; refine va rfl rfl ?_))) | (refine vc_nilp (by (first | (dsimp only [ln1, ln2, List.append_nil, ln4, ln5, ln6, ln7, ln8, ln9, putAt, putd, allObjs, argEnv, un_v, un_ptr, un_ep, un_pr, un_sl, un_mp, un_row, un_agg, un_tup, un_clo, Nat.zero_add, lnb, Nat.reduceAdd, lnc, lnd]; first | done | exact rfl) | exact rfl)) ?_))
      all_goals first | (exfalso; omega) | exact ⟨⟨k + 1, hlt⟩, by dsimp only; omega, ⟨[], rfl, ⟨rfl, rfl, by dsimp only; rw [hnx]; rfl, congrArg (fun x => some (AV.i x)) (show ((pre.length + k : Nat) : Int) + 1 = ((pre.length + (k + 1) : Nat) : Int) by omega), trivial⟩, trivial, List.nodup_nil, fun _ h => absurd h (Nat.not_lt_zero _)⟩⟩
    · obtain rfl : k = ds.length := by omega
      rw [hval] at hu ⊢
      rcases hp with ⟨hp1, hnu⟩ | ⟨hp1, hnu, hng⟩
      · have hp0 : (pre.length : Int) = 0 := by rw [hp1]; rfl
        have hneg : -(-(u : Int)) = n := by omega
        repeat' (first | refine wS ?_ | refine wB ?_ | refine wK ?_ | refine wR ?_ | refine wE ?_ | refine aw_condt rfl ?_ | refine aw_condf rfl ?_ | (refine wC rfl (fun hb => ?_) (fun hb => ?_) <;> (first | subst hb | ((try simp only [nm] at hb); try (exfalso; omega)))) | (((refine rg 6 ?_)); (all_goals (refine vm rfl rfl ?_; refine vm rfl rfl ?_; refine vc_v (by first | exact fs_lenOwn T rfl rfl | exact fs_lenRow T rfl rfl | exact fs_lenNil T rfl rfl | exact fs_lenS strT rfl) rfl ?_; refine vc_v (by first | exact fs_lssKF rfl rfl (by omega) | exact fs_negE rfl hneg ⟨n1, n2⟩ | exact fs_addS rfl rfl (by simp only [List.length_append, List.length_cons, List.length_nil] at *; omega) | exact fs_lss rfl rfl) rfl ?_))) | (((refine rg 11 ?_)); (all_goals (refine vm rfl rfl ?_; refine vc_v (by first | exact fs_lssKF rfl rfl (by omega) | exact fs_negE rfl hneg ⟨n1, n2⟩ | exact fs_addS rfl rfl (by simp only [List.length_append, List.length_cons, List.length_nil] at *; omega) | exact fs_eqlKT rfl rfl hp0 | exact fs_eql rfl rfl | exact fs_eqlST rfl rfl rfl) rfl ?_))) | (((refine rg 12 ?_)); (all_goals (refine vm rfl rfl ?_; refine vc_v (by first | exact fs_lssKF rfl rfl (by omega) | exact fs_negE rfl hneg ⟨n1, n2⟩ | exact fs_addS rfl rfl (by simp only [List.length_append, List.length_cons, List.length_nil] at *; omega) | exact fs_negr rfl (by omega) (by omega) | exact fs_neg rfl) rfl ?_; refine va rfl rfl ?_))) | (((refine rg 13 ?_)); (all_goals (refine vm rfl rfl ?_; refine vm rfl rfl ?_; refine vc_v (by exact fs_call0 rfl rfl (hc) rfl rfl rfl) rfl ?_; refine vm rfl rfl ?_; refine vc_v (by first | exact fs_lssKF rfl rfl (by omega) | exact fs_negE rfl hneg ⟨n1, n2⟩ | exact fs_addS rfl rfl (by simp only [List.length_append, List.length_cons, List.length_nil] at *; omega) | exact fs_addr rfl rfl (by omega) (by omega) | exact fs_add rfl rfl) rfl ?_; refine vc_v (by first | exact fs_lssKF rfl rfl (by omega) | exact fs_negE rfl hneg ⟨n1, n2⟩ | exact fs_addS rfl rfl (by simp only [List.length_append, List.length_cons, List.length_nil] at *; omega) | exact fs_eqlKT rfl rfl hp0 | exact fs_eql rfl rfl | exact fs_eqlST rfl rfl rfl) rfl ?_; refine va rfl rfl ?_; refine va rfl rfl ?_))) | (refine vc_nilp (by (first | (dsimp only [ln1, ln2, List.append_nil, ln4, ln5, ln6, ln7, ln8, ln9, putAt, putd, allObjs, argEnv, un_v, un_ptr, un_ep, un_pr, un_sl, un_mp, un_row, un_agg, un_tup, un_clo, Nat.zero_add, lnb, Nat.reduceAdd, lnc, lnd]; first | done | exact rfl) | exact rfl)) ?_))
        all_goals first | (exfalso; omega) | exact ⟨.inl rfl, [], _, rfl, rfl, rfl, trivial, by decide, fun i hi => absurd hi (Nat.not_lt_zero _)⟩
      · have hp0 : (pre.length : Int) = 1 := by rw [hp1]; rfl
        have hcn : (-(u : Int)) = n := hnu.symm
        rw [hcn]
        repeat' (first | refine wS ?_ | refine wB ?_ | refine wK ?_ | refine wR ?_ | refine wE ?_ | refine aw_condt rfl ?_ | refine aw_condf rfl ?_ | (refine wC rfl (fun hb => ?_) (fun hb => ?_) <;> (first | subst hb | ((try simp only [nm] at hb); try (exfalso; omega)))) | (((refine rg 6 ?_)); (all_goals (refine vm rfl rfl ?_; refine vm rfl rfl ?_; refine vc_v (by first | exact fs_lenOwn T rfl rfl | exact fs_lenRow T rfl rfl | exact fs_lenNil T rfl rfl | exact fs_lenS strT rfl) rfl ?_; refine vc_v (by first | exact fs_lssKF rfl rfl (by omega) | exact fs_addS rfl rfl (by simp only [List.length_append, List.length_cons, List.length_nil] at *; omega) | exact fs_lss rfl rfl) rfl ?_))) | (((refine rg 11 ?_)); (all_goals (refine vm rfl rfl ?_; refine vc_v (by first | exact fs_lssKF rfl rfl (by omega) | exact fs_addS rfl rfl (by simp only [List.length_append, List.length_cons, List.length_nil] at *; omega) | exact fs_eqlKF rfl rfl (by omega) | exact fs_eql rfl rfl | exact fs_eqlST rfl rfl rfl) rfl ?_))) | (((refine rg 13 ?_)); (all_goals (refine vm rfl rfl ?_; refine vm rfl rfl ?_; refine vc_v (by exact fs_call0 rfl rfl (hc) rfl rfl rfl) rfl ?_; refine vm rfl rfl ?_; refine vc_v (by first | exact fs_lssKF rfl rfl (by omega) | exact fs_addS rfl rfl (by simp only [List.length_append, List.length_cons, List.length_nil] at *; omega) | exact fs_addr rfl rfl (by omega) (by omega) | exact fs_add rfl rfl) rfl ?_; refine vc_v (by first | exact fs_lssKF rfl rfl (by omega) | exact fs_addS rfl rfl (by simp only [List.length_append, List.length_cons, List.length_nil] at *; omega) | exact fs_eqlKF rfl rfl (by omega) | exact fs_eql rfl rfl | exact fs_eqlST rfl rfl rfl) rfl ?_; refine va rfl rfl ?_; refine va rfl rfl ?_))) | (refine vc_nilp (by (first | (dsimp only [ln1, ln2, List.append_nil, ln4, ln5, ln6, ln7, ln8, ln9, putAt, putd, allObjs, argEnv, un_v, un_ptr, un_ep, un_pr, un_sl, un_mp, un_row, un_agg, un_tup, un_clo, Nat.zero_add, lnb, Nat.reduceAdd, lnc, lnd]; first | done | exact rfl) | exact rfl)) ?_))
        all_goals first | (exfalso; omega) | exact ⟨.inl rfl, [], _, rfl, rfl, rfl, trivial, by decide, fun i hi => absurd hi (Nat.not_lt_zero _)⟩
end Go.Proofs.YtgnnbmgljadokaaGreatDoor
