/-
  FloorTells, as the row states it.
-/
import Derived.Test.YtilcbhnhcmdhkaaRows
import Derived.Test.YtilcbhnhcmdhkaaFlU
namespace Go.Proofs.Ytilcbhnhcmdhkaa
open Go Go.Ab Go.ChangeShapes Go.WideShapes Go.ChangeAt Go.RowKit
set_option linter.unusedVariables false
set_option linter.unusedSimpArgs false
attribute [local irreducible] VC AW FStep ACall
theorem finFloorTells_own : ownKnob Try.prog.godebug = none := by kernel_rfl
theorem finFloorTells_laid : laidOutB Try.prog = true := by kernel_rfl
set_option maxRecDepth 100000 in
theorem finFloorTells_lifted (os : Os) (started : os.Started) (H : Type) (enc : TypeId × Value → H) :
    ReturnsInHanded {} Try.checked os 6 .any (Rows.floorTellsSpec.pre6 enc Try.prog Try.f6 Rows.floorTellsRow.domain false) (Rows.floorTellsSpec.post enc Try.prog Try.f6 false true false false) := by
  refine returnsInHanded_of_change (C := Try.checked) finFloorTells_own started (by kernel_rfl) Try.func6
    (ChangeSpec.witness6 (enc := enc) (C := Try.checked) false ⟨#[], #[.agg #[.int .i64 0, .int .i64 0, .int .i64 0, .slice none 0 0, .slice none 0 0], .int .i64 0, .int .i64 0, .int .i64 0, .int .i64 0, .slice none 0 0, .slice none 0 0], []⟩ 8 (by kernel_rfl) (by kernel_rfl) (by kernel_rfl) (by kernel_rfl)) ?_
  intro W base args ds gs before hval0 hW hcnd _
  have hval : ∀ (j : Nat) t v, Try.f6.params[j]? = some t → args[j]? = some v → Value.okWide Try.prog W .any base t v := hval0
  have hW' := hW
  obtain ⟨p, q, hA0, hV, rfl, hfz, hnd⟩ := hW
  have hA : DataW.TrodAll enc Try.prog W 0 (fun _ => true) true Try.f6.params.toList args.toList ds p := hA0
  rw [Try.params6] at hA hval
  obtain ⟨v0, vs0, d0, ds0, p0, q0, hargs, rfl, rfl, h0, r0⟩ := trodAll_cons hA
  obtain ⟨v1, vs1, d1, ds1, p1, q1, rfl, rfl, rfl, h1, r1⟩ := trodAll_cons r0
  obtain ⟨v2, vs2, d2, ds2, p2, q2, rfl, rfl, rfl, h2, r2⟩ := trodAll_cons r1
  obtain ⟨v3, vs3, d3, ds3, p3, q3, rfl, rfl, rfl, h3, r3⟩ := trodAll_cons r2
  obtain ⟨v4, vs4, d4, ds4, p4, q4, rfl, rfl, rfl, h4, r4⟩ := trodAll_cons r3
  obtain ⟨v5, vs5, d5, ds5, p5, q5, rfl, rfl, rfl, h5, r5⟩ := trodAll_cons r4
  obtain ⟨v6, vs6, d6, ds6, p6, q6, rfl, rfl, rfl, h6, r6⟩ := trodAll_cons r5
  obtain ⟨rfl, rfl, rfl⟩ := trodAll_nil r6
  obtain rfl : args = #[v0, v1, v2, v3, v4, v5, v6] := by cases args; simp_all
  obtain ⟨rfl, rfl⟩ := trodVars_none hV
  obtain ⟨a0, k0, o0⟩ := Opens.aggr opFloor (hval 0 24 v0 rfl rfl) (by kernel_rfl) h0
  obtain ⟨a1, k1, o1⟩ := Opens.one opInt (hval 1 3 v1 rfl rfl) (by kernel_rfl) h1
  obtain ⟨a2, k2, o2⟩ := Opens.one opInt (hval 2 3 v2 rfl rfl) (by kernel_rfl) h2
  obtain ⟨a3, k3, o3⟩ := Opens.one opInt (hval 3 3 v3 rfl rfl) (by kernel_rfl) h3
  obtain ⟨a4, k4, o4⟩ := Opens.one opInt (hval 4 3 v4 rfl rfl) (by kernel_rfl) h4
  obtain ⟨a5, k5, o5⟩ := Opens.one opInts (hval 5 22 v5 rfl rfl) (by kernel_rfl) h5
  obtain ⟨a6, k6, o6⟩ := Opens.one opInts (hval 6 22 v6 rfl rfl) (by kernel_rfl) h6
  clear hA0 hval0
  refine (calls_of_acall (W := W) (vs := [v0, v1, v2, v3, v4, v5, v6]) (tells_fin a0 k0 a1 k1 a2 k2 a3 k3 a4 k4 a5 k5 a6 k6) (by simp only [RL]; exact ⟨v0, _, rfl, o0, v1, _, rfl, o1, v2, _, rfl, o2, v3, _, rfl, o3, v4, _, rfl, o4, v5, _, rfl, o5, v6, _, rfl, o6, rfl⟩)).mono fun e W' ⟨he, hb⟩ => ?_
  subst he
  exact ⟨_, rfl, post_law finFloorTells_laid (by kernel_rfl) rfl rfl Try.underlying4 hW' ⟨rfl, rfl, rfl⟩ hb⟩
theorem floorTells_holds : Rows.FloorTellsSaid :=
  OpenClaim.holds_of_wide 6 Try.f6 rfl rfl rfl rfl rfl rfl rfl ⟨rfl, rfl, rfl, rfl, rfl⟩ rfl rfl rfl rfl rfl (by kernel_rfl) Try.func6 (by kernel_rfl)
    (of_decide_eq_true (by kernel_rfl)) (by unfold Func.isWrapper; first | (rw [if_pos (by decide +kernel)]; kernel_rfl) | (rw [if_neg (by decide +kernel)]; exact ⟨rfl, rfl⟩))
    (fun os started H enc _ => finFloorTells_lifted os started H enc)
#print axioms floorTells_holds
end Go.Proofs.Ytilcbhnhcmdhkaa
