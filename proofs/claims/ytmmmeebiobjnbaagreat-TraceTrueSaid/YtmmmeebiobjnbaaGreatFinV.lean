/-
  TraceTrue, as the row states it.
-/
import Derived.Test.YtmmmeebiobjnbaaGreatRows
import Derived.Test.YtmmmeebiobjnbaaGreatV9
namespace Go.Proofs.YtmmmeebiobjnbaaGreat
open Go Go.Ab Go.ChangeShapes Go.WideShapes Go.ChangeAt Go.RowKit
set_option linter.unusedVariables false
set_option linter.unusedSimpArgs false
attribute [local irreducible] VC AW cF aS
theorem finTraceTrue_own : ownKnob Tryz.prog.godebug = none := by kernel_rfl
theorem finTraceTrue_laid : laidOutB Tryz.prog = true := by kernel_rfl
set_option maxRecDepth 100000 in
theorem finTraceTrue_lifted (os : Os) (started : os.Started) (H : Type) (enc : TypeId × Value → H) :
    ReturnsInHanded {} Tryz.checked os 4 .any (Rows.traceTrueSpec.pre6 enc Tryz.prog Tryz.f4 Rows.traceTrueRow.domain false) (Rows.traceTrueSpec.post enc Tryz.prog Tryz.f4 false true false false) := by
  refine returnsInHanded_of_change_sized (C := Tryz.checked) finTraceTrue_own started (by kernel_rfl) Tryz.func4
    (ChangeSpec.witness6 (enc := enc) (C := Tryz.checked) false ⟨#[], #[.agg #[.slice none 0 0, .slice none 0 0, .slice none 0 0, .slice none 0 0], .agg #[.int .i64 0, .int .i64 0, .int .i64 0, .int .i64 0], .slice none 0 0, .slice none 0 0], []⟩ 8 (by kernel_rfl) (by kernel_rfl) (by kernel_rfl) (by kernel_rfl)) ?_
  intro W base args ds gs before hval0 hW hcnd hsz _
  have hval : ∀ (j : Nat) t v, Tryz.f4.params[j]? = some t → args[j]? = some v → Value.okWide Tryz.prog W .any base t v := hval0
  have hW' := hW
  obtain ⟨p, q, hA0, hV, rfl, hfz, hnd⟩ := hW
  have hA : DataW.TrodAll enc Tryz.prog W 0 (fun _ => true) true Tryz.f4.params.toList args.toList ds p := hA0
  rw [Tryz.params4] at hA hval
  obtain ⟨v0, vs0, d0, ds0, p0, q0, hargs, rfl, rfl, h0, r0⟩ := trodAll_cons hA
  obtain ⟨v1, vs1, d1, ds1, p1, q1, rfl, rfl, rfl, h1, r1⟩ := trodAll_cons r0
  obtain ⟨v2, vs2, d2, ds2, p2, q2, rfl, rfl, rfl, h2, r2⟩ := trodAll_cons r1
  obtain ⟨v3, vs3, d3, ds3, p3, q3, rfl, rfl, rfl, h3, r3⟩ := trodAll_cons r2
  obtain ⟨rfl, rfl, rfl⟩ := trodAll_nil r3
  obtain rfl : args = #[v0, v1, v2, v3] := by cases args; simp_all
  obtain ⟨rfl, rfl⟩ := trodVars_none hV
  obtain ⟨a0, k0, o0⟩ := gV.aggr zH2 (hval 0 27 v0 rfl rfl) (by kernel_rfl) h0
  obtain ⟨a1, k1, o1⟩ := gV.aggr XF (hval 1 29 v1 rfl rfl) (by kernel_rfl) h1
  obtain ⟨a2, k2, o2⟩ := gV.one SW (hval 2 30 v2 rfl rfl) (by kernel_rfl) h2
  obtain ⟨a3, k3, o3⟩ := gV.one NK (hval 3 24 v3 rfl rfl) (by kernel_rfl) h3
  clear hA0 hval0
  have s0 := NO (j := 0) (i := 3) (o := 3) (e := 61) hsz (by rw [Tryz.params4]; rfl) rfl (by kernel_rfl) h0 o0 rfl
  rw [aY, show Tryz.checked.prog.bytesOf 61 = 24 by kernel_rfl] at s0
  refine (BE (W := W) (vs := [v0, v1, v2, v3]) (zR4 a0 k0 s0 a1 k1 a2 k2 a3 k3) (by simp only [RL]; exact ⟨v0, _, rfl, o0, v1, _, rfl, o1, v2, _, rfl, o2, v3, _, rfl, o3, rfl⟩)).mono fun e W' ⟨he, hb⟩ => ?_
  subst he
  exact ⟨_, rfl, WP finTraceTrue_laid (by kernel_rfl) rfl rfl Tryz.underlying4 hW' ⟨rfl, rfl, rfl⟩ hb⟩
theorem traceTrue_holds : Rows.TraceTrueSaid :=
  OpenClaim.holds_of_wide 4 Tryz.f4 rfl rfl rfl rfl rfl rfl rfl ⟨rfl, rfl, rfl, rfl, rfl⟩ rfl rfl rfl rfl rfl (by kernel_rfl) Tryz.func4 (by kernel_rfl)
    (of_decide_eq_true (by kernel_rfl)) (by unfold Func.isWrapper; first | (rw [if_pos (by decide +kernel)]; kernel_rfl) | (rw [if_neg (by decide +kernel)]; exact ⟨rfl, rfl⟩))
    (fun os started H enc _ => finTraceTrue_lifted os started H enc)
#print axioms traceTrue_holds
end Go.Proofs.YtmmmeebiobjnbaaGreat
