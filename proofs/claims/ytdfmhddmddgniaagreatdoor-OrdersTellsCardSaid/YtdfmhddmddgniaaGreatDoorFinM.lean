/-
  OrdersTells, as the row states it, and its card.
-/
import Derived.Test.YtdfmhddmddgniaaGreatDoorCards
import Derived.Test.YtdfmhddmddgniaaGreatDoorTie
import Derived.Test.YtdfmhddmddgniaaGreatDoorM9
namespace Go.Proofs.YtdfmhddmddgniaaGreatDoor
open Go Go.Ab Go.ChangeShapes Go.WideShapes Go.ChangeAt Go.RowKit
set_option linter.unusedVariables false
set_option linter.unusedSimpArgs false
attribute [local irreducible] VC AW bJ bI
theorem finOrdersTells_own : ownKnob Tryz.prog.godebug = none := by kernel_rfl
theorem finOrdersTells_laid : laidOutB Tryz.prog = true := by kernel_rfl
set_option maxRecDepth 100000 in
theorem finOrdersTells_contract (H : Type) (enc : TypeId × Value → H) (W : World) (base : Nat) (args : Array Value) (ds gs : List (DataW H)) (before : List MemPlace)
    (hval0 : ∀ (j : Nat) t v, Tryz.f3.params[j]? = some t → args[j]? = some v → Value.okWide Tryz.prog W .any base t v)
    (hW : DataW.Whole enc Tryz.prog Tryz.f3.params.toList Rows.ordersTellsSpec.vars false W args.toList ds gs before) (hL : laidMetH Tryz.prog Rows.ordersTellsRow.laid W) :
    Calls Tryz.prog 3 args W fun e W' => ∃ v, e = .returned v ∧ Rows.ordersTellsSpec.post enc Tryz.prog Tryz.f3 false true false false W args v W' := by
  have hval : ∀ (j : Nat) t v, Tryz.f3.params[j]? = some t → args[j]? = some v → Value.okWide Tryz.prog W .any base t v := hval0
  have hW' := hW
  obtain ⟨p, q, hA0, hV, rfl, hfz, hnd⟩ := hW
  have hA : DataW.TrodAll enc Tryz.prog W 0 (fun _ => true) true Tryz.f3.params.toList args.toList ds p := hA0
  rw [Tryz.params3] at hA hval
  obtain ⟨v0, vs0, d0, ds0, p0, q0, hargs, rfl, rfl, h0, r0⟩ := trodAll_cons hA
  obtain ⟨v1, vs1, d1, ds1, p1, q1, rfl, rfl, rfl, h1, r1⟩ := trodAll_cons r0
  obtain ⟨v2, vs2, d2, ds2, p2, q2, rfl, rfl, rfl, h2, r2⟩ := trodAll_cons r1
  obtain ⟨v3, vs3, d3, ds3, p3, q3, rfl, rfl, rfl, h3, r3⟩ := trodAll_cons r2
  obtain ⟨v4, vs4, d4, ds4, p4, q4, rfl, rfl, rfl, h4, r4⟩ := trodAll_cons r3
  obtain ⟨rfl, rfl, rfl⟩ := trodAll_nil r4
  obtain rfl : args = #[v0, v1, v2, v3, v4] := by cases args; simp_all
  obtain ⟨rfl, rfl⟩ := trodVars_none hV
  obtain ⟨a0, k0, o0⟩ := iI.one zB7 (hval 0 22 v0 rfl rfl) (by kernel_rfl) h0
  obtain ⟨a1, k1, o1⟩ := iI.one XD (hval 1 23 v1 rfl rfl) (by kernel_rfl) h1
  obtain ⟨a2, k2, o2⟩ := iI.one XC (hval 2 24 v2 rfl rfl) (by kernel_rfl) h2
  obtain ⟨a3, k3, o3⟩ := iI.one uA (hval 3 3 v3 rfl rfl) (by kernel_rfl) h3
  obtain ⟨a4, k4, o4⟩ := iI.one zI7 (hval 4 9 v4 rfl rfl) (by kernel_rfl) h4
  clear hA0 hval0
  refine (W2 (W := W) (vs := [v0, v1, v2, v3, v4]) (FI a0 k0 a1 k1 a2 k2 a3 k3 a4 k4) (by simp only [RL]; exact ⟨v0, _, rfl, o0, v1, _, rfl, o1, v2, _, rfl, o2, v3, _, rfl, o3, v4, _, rfl, o4, rfl⟩) (PD (l := Rows.ordersTellsRow.laid) rfl hL)).mono fun e W' ⟨he, hb⟩ => ?_
  subst he
  exact ⟨_, rfl, SA finOrdersTells_laid (by kernel_rfl) rfl rfl Tryz.underlying4 hW' ⟨rfl, rfl, rfl⟩ hb⟩
theorem finOrdersTells_met (os : Os) : laidMet Tryz.prog Rows.ordersTellsRow.laid ((K0 os).forCall (fun _ _ => 0) ⟨#[], #[.slice none 0 0, .slice none 0 0, .slice none 0 0, .int .i64 0, .string ⟨#[]⟩], []⟩).memory :=
  laidMet_of_run' 8 (by kernel_rfl) (by kernel_rfl)
theorem finOrdersTells_reads (os : Os) {H : Type} (enc : TypeId × Value → H) : ∃ places, DataW.whole enc Tryz.prog ((K0 os).forCall (fun _ _ => 0) ⟨#[], #[.slice none 0 0, .slice none 0 0, .slice none 0 0, .int .i64 0, .string ⟨#[]⟩], []⟩).memory Tryz.f3.params.toList Rows.ordersTellsSpec.vars false (#[.slice none 0 0, .slice none 0 0, .slice none 0 0, .int .i64 0, .string ⟨#[]⟩] : Array Value).toList 8 = some ([.nil, .nil, .nil, .lit (.int .i64 0), .lit (.string [])], [], places) :=
  ⟨[], by kernel_rfl⟩
set_option maxRecDepth 100000 in
theorem finOrdersTells_lifted (os : Os) (started : os.Started) (H : Type) (enc : TypeId × Value → H) (F : Stop.Interp) :
    ReturnsInHanded {} Tryz.checked os 3 .any ((OpenSpec.ofChange Rows.ordersTellsSpec).preRow enc Tryz.prog Tryz.f3 Rows.ordersTellsRow.domain false Rows.ordersTellsRow.laid) (((OpenSpec.ofChange Rows.ordersTellsSpec).at F).post enc Tryz.prog Tryz.f3 false true false false) := by
  obtain ⟨places, hx⟩ := finOrdersTells_reads os enc
  refine returnsInHanded_of_row (C := Tryz.checked) (s := OpenSpec.ofChange Rows.ordersTellsSpec) finOrdersTells_own started (by kernel_rfl) Tryz.func3
    (witness_row_at (enc := enc) (C := Tryz.checked) false (K0 os) #[.slice none 0 0, .slice none 0 0, .slice none 0 0, .int .i64 0, .string ⟨#[]⟩] rfl (by kernel_rfl) (by kernel_rfl) (by kernel_rfl)
      (OpenSpec.preRow_of_cond 8 hx (by kernel_rfl) (fun k hk => by cases hk) (by kernel_rfl) (finOrdersTells_met os))) ?_
  intro W base args ds gs before hval hW _ _ hsz hL _ _
  exact finOrdersTells_contract H enc W base args ds gs before hval hW hL
theorem finOrdersTells_said : Rows.OrdersTellsSaid :=
  OpenClaim.holds_of_cond 3 Tryz.f3 rfl rfl rfl rfl rfl rfl rfl ⟨rfl, rfl, rfl, rfl, rfl⟩ rfl rfl rfl rfl rfl (by kernel_rfl) Tryz.func3 (by kernel_rfl)
    (of_decide_eq_true (by kernel_rfl)) (by unfold Func.isWrapper; first | (rw [if_pos (by decide +kernel)]; kernel_rfl) | (rw [if_neg (by decide +kernel)]; exact ⟨rfl, rfl⟩))
    (fun os started H enc _ F => by rw [OpenClaim.pre_eq_preRow]; exact finOrdersTells_lifted os started H enc F)
theorem finOrdersTells_plain (f : FuncId) (fn : Func) (hf : Tryz.pinned.checked.prog.funcNamed "taquin/taquinlaw42.OrdersTells" = some f) (hfn : Tryz.pinned.checked.prog.funcs[f]? = some fn) :
    true = Tryz.pinned.checked.prog.looks [] ∧ ∀ (j : Nat) t, fn.params[j]? = some t → Tryz.pinned.checked.prog.wantsStandIn t = false := by
  obtain rfl : f = 3 := Option.some.inj ((show Tryz.prog.funcNamed "taquin/taquinlaw42.OrdersTells" = some 3 by kernel_rfl).symm.trans hf) |>.symm
  obtain rfl : fn = Tryz.f3 := (Option.some.inj (Tryz.func3.symm.trans hfn)).symm
  refine ⟨by kernel_rfl, fun j t ht => ?_⟩
  rw [Tryz.params3] at ht
  have hall : ([22, 23, 24, 3, 9] : List TypeId).all (fun t => !Tryz.prog.wantsStandIn t) = true := by kernel_rfl
  have := bD.1 hall t (by simpa using Array.mem_of_getElem? ht)
  have h2 : Tryz.prog.wantsStandIn t = false := by simpa using this
  exact h2
/-- The card. -/
theorem ordersTells_holds : Rows.OrdersTellsCardSaid :=
  Claim7.holds_tied_plain_at .later [] _ _ _ _ finOrdersTells_said (fun _ h => by cases h) (by kernel_rfl) (fun _ h => by cases h) ordersTells_row_tie rfl ⟨rfl, rfl⟩ (by kernel_rfl) rfl finOrdersTells_plain (by kernel_rfl)
#print axioms ordersTells_holds
end Go.Proofs.YtdfmhddmddgniaaGreatDoor
