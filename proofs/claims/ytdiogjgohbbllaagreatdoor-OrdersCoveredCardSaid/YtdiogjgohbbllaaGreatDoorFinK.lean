/-
  OrdersCovered, as the row states it, and its card.
-/
import Derived.Test.YtdiogjgohbbllaaGreatDoorCards
import Derived.Test.YtdiogjgohbbllaaGreatDoorTie
import Derived.Test.YtdiogjgohbbllaaGreatDoorK7
namespace Go.Proofs.YtdiogjgohbbllaaGreatDoor
open Go Go.Ab Go.ChangeShapes Go.WideShapes Go.ChangeAt Go.RowKit
set_option linter.unusedVariables false
set_option linter.unusedSimpArgs false
attribute [local irreducible] VC AW bR bN
theorem finOrdersCovered_own : ownKnob Tryz.prog.godebug = none := by kernel_rfl
theorem finOrdersCovered_laid : laidOutB Tryz.prog = true := by kernel_rfl
set_option maxRecDepth 100000 in
theorem finOrdersCovered_contract (H : Type) (enc : TypeId × Value → H) (W : World) (base : Nat) (args : Array Value) (ds gs : List (DataW H)) (before : List MemPlace)
    (hval0 : ∀ (j : Nat) t v, Tryz.f5.params[j]? = some t → args[j]? = some v → Value.okWide Tryz.prog W .any base t v)
    (hW : DataW.Whole enc Tryz.prog Tryz.f5.params.toList Rows.ordersCoveredSpec.vars false W args.toList ds gs before) (hL : laidMetH Tryz.prog Rows.ordersCoveredRow.laid W) :
    Calls Tryz.prog 5 args W fun e W' => ∃ v, e = .returned v ∧ Rows.ordersCoveredSpec.post enc Tryz.prog Tryz.f5 false true false false W args v W' := by
  have hval : ∀ (j : Nat) t v, Tryz.f5.params[j]? = some t → args[j]? = some v → Value.okWide Tryz.prog W .any base t v := hval0
  have hW' := hW
  obtain ⟨p, q, hA0, hV, rfl, hfz, hnd⟩ := hW
  have hA : DataW.TrodAll enc Tryz.prog W 0 (fun _ => true) true Tryz.f5.params.toList args.toList ds p := hA0
  rw [Tryz.params5] at hA hval
  obtain ⟨v0, vs0, d0, ds0, p0, q0, hargs, rfl, rfl, h0, r0⟩ := trodAll_cons hA
  obtain ⟨v1, vs1, d1, ds1, p1, q1, rfl, rfl, rfl, h1, r1⟩ := trodAll_cons r0
  obtain ⟨v2, vs2, d2, ds2, p2, q2, rfl, rfl, rfl, h2, r2⟩ := trodAll_cons r1
  obtain ⟨rfl, rfl, rfl⟩ := trodAll_nil r2
  obtain rfl : args = #[v0, v1, v2] := by cases args; simp_all
  obtain ⟨rfl, rfl⟩ := trodVars_none hV
  obtain ⟨a0, k0, o0⟩ := gS.one SR (hval 0 22 v0 rfl rfl) (by kernel_rfl) h0
  obtain ⟨a1, k1, o1⟩ := gS.one PG (hval 1 23 v1 rfl rfl) (by kernel_rfl) h1
  obtain ⟨a2, k2, o2⟩ := gS.one PF (hval 2 24 v2 rfl rfl) (by kernel_rfl) h2
  clear hA0 hval0
  refine (I2 (W := W) (vs := [v0, v1, v2]) (BW a0 k0 a1 k1 a2 k2) (by simp only [RL]; exact ⟨v0, _, rfl, o0, v1, _, rfl, o1, v2, _, rfl, o2, rfl⟩) (HV (l := Rows.ordersCoveredRow.laid) rfl hL)).mono fun e W' ⟨he, hb⟩ => ?_
  subst he
  exact ⟨_, rfl, KJ finOrdersCovered_laid (by kernel_rfl) rfl rfl Tryz.underlying4 hW' ⟨rfl, rfl, rfl⟩ hb⟩
theorem finOrdersCovered_met (os : Os) : laidMet Tryz.prog Rows.ordersCoveredRow.laid ((zH os).forCall (fun _ _ => 0) ⟨#[], #[.slice none 0 0, .slice none 0 0, .slice none 0 0], []⟩).memory :=
  laidMet_of_run' 8 (by kernel_rfl) (by kernel_rfl)
theorem finOrdersCovered_reads (os : Os) {H : Type} (enc : TypeId × Value → H) : ∃ places, DataW.whole enc Tryz.prog ((zH os).forCall (fun _ _ => 0) ⟨#[], #[.slice none 0 0, .slice none 0 0, .slice none 0 0], []⟩).memory Tryz.f5.params.toList Rows.ordersCoveredSpec.vars false (#[.slice none 0 0, .slice none 0 0, .slice none 0 0] : Array Value).toList 8 = some ([.nil, .nil, .nil], [], places) :=
  ⟨[], by kernel_rfl⟩
set_option maxRecDepth 100000 in
theorem finOrdersCovered_lifted (os : Os) (started : os.Started) (H : Type) (enc : TypeId × Value → H) (F : Stop.Interp) :
    ReturnsInHanded {} Tryz.checked os 5 .any ((OpenSpec.ofChange Rows.ordersCoveredSpec).preRow enc Tryz.prog Tryz.f5 Rows.ordersCoveredRow.domain false Rows.ordersCoveredRow.laid) (((OpenSpec.ofChange Rows.ordersCoveredSpec).at F).post enc Tryz.prog Tryz.f5 false true false false) := by
  obtain ⟨places, hx⟩ := finOrdersCovered_reads os enc
  refine returnsInHanded_of_row (C := Tryz.checked) (s := OpenSpec.ofChange Rows.ordersCoveredSpec) finOrdersCovered_own started (by kernel_rfl) Tryz.func5
    (witness_row_at (enc := enc) (C := Tryz.checked) false (zH os) #[.slice none 0 0, .slice none 0 0, .slice none 0 0] rfl (by kernel_rfl) (by kernel_rfl) (by kernel_rfl)
      (OpenSpec.preRow_of_cond 8 hx (by kernel_rfl) (fun k hk => by cases hk) (by kernel_rfl) (finOrdersCovered_met os))) ?_
  intro W base args ds gs before hval hW _ _ hsz hL _ _
  exact finOrdersCovered_contract H enc W base args ds gs before hval hW hL
theorem finOrdersCovered_said : Rows.OrdersCoveredSaid :=
  OpenClaim.holds_of_cond 5 Tryz.f5 rfl rfl rfl rfl rfl rfl rfl ⟨rfl, rfl, rfl, rfl, rfl⟩ rfl rfl rfl rfl rfl (by kernel_rfl) Tryz.func5 (by kernel_rfl)
    (of_decide_eq_true (by kernel_rfl)) (by unfold Func.isWrapper; first | (rw [if_pos (by decide +kernel)]; kernel_rfl) | (rw [if_neg (by decide +kernel)]; exact ⟨rfl, rfl⟩))
    (fun os started H enc _ F => by rw [OpenClaim.pre_eq_preRow]; exact finOrdersCovered_lifted os started H enc F)
theorem finOrdersCovered_plain (f : FuncId) (fn : Func) (hf : Tryz.pinned.checked.prog.funcNamed "taquin/taquinlaw42.OrdersCovered" = some f) (hfn : Tryz.pinned.checked.prog.funcs[f]? = some fn) :
    true = Tryz.pinned.checked.prog.looks [] ∧ ∀ (j : Nat) t, fn.params[j]? = some t → Tryz.pinned.checked.prog.wantsStandIn t = false := by
  obtain rfl : f = 5 := Option.some.inj ((show Tryz.prog.funcNamed "taquin/taquinlaw42.OrdersCovered" = some 5 by kernel_rfl).symm.trans hf) |>.symm
  obtain rfl : fn = Tryz.f5 := (Option.some.inj (Tryz.func5.symm.trans hfn)).symm
  refine ⟨by kernel_rfl, fun j t ht => ?_⟩
  rw [Tryz.params5] at ht
  have hall : ([22, 23, 24] : List TypeId).all (fun t => !Tryz.prog.wantsStandIn t) = true := by kernel_rfl
  have := aT.1 hall t (by simpa using Array.mem_of_getElem? ht)
  have h2 : Tryz.prog.wantsStandIn t = false := by simpa using this
  exact h2
/-- The card. -/
theorem ordersCovered_holds : Rows.OrdersCoveredCardSaid :=
  Claim7.holds_tied_plain_at .later [] _ _ _ _ finOrdersCovered_said (fun _ h => by cases h) (by kernel_rfl) (fun _ h => by cases h) ordersCovered_row_tie rfl ⟨rfl, rfl⟩ (by kernel_rfl) rfl finOrdersCovered_plain (by kernel_rfl)
#print axioms ordersCovered_holds
end Go.Proofs.YtdiogjgohbbllaaGreatDoor
