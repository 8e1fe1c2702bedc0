/-
  A logic of values for the walk: how long a slice is that is handed to a law.
-/
import Derived.Test.YtgibgknkfcbopaaAb16
import Derived.SizedLaws
namespace Go.Ab
open Go
set_option linter.unusedVariables false
set_option linter.unusedSimpArgs false
theorem len_sized {P : Program} {H : Type} {enc : TypeId × Value → H} {ts : List TypeId} {ds : List (DataW H)} {j : Nat} {t e : TypeId} {d : DataW H} {W : World} {v : Value} {p : List MemPlace} {S : Nat → Prop} {ρ : Pl} {cs : List AV} {len sz : Nat}
    (hw : (DataW.weightsEach P ts ds).all (· ≤ reachBytes) = true) (hts : ts[j]? = some t) (hds : ds[j]? = some d) (ht : P.underlying t = some (.slice e)) (hv : DataW.Trod enc P W 0 (fun _ => true) true t v d p) (hr : R S W (.row cs len sz) ρ v) : len * P.bytesOf e ≤ 140737488351232 := by
  simp only [R] at hr
  obtain ⟨a, cap, rfl, _⟩ := hr
  obtain ⟨fuel, hf⟩ := hv
  have hc : (Value.slice a len cap).cells.toList = [.slice a len cap] := rfl
  rw [hc] at hf
  rcases DataW.trod_slice ht hf with ⟨h1, _⟩ | ⟨a', len', cap', elems, rest, n, _, h2, h3, _, _, _, h4, _⟩
  · simp only [List.cons.injEq, Value.slice.injEq] at h1
    rw [h1.1.2.1]; simp
  · simp only [List.cons.injEq, Value.slice.injEq] at h2
    simp only [Prod.mk.injEq] at h3
    have hds2 := hds
    rw [h3.1] at hds2
    have h5 := sized_slice hw hts hds2 ht
    rw [List.length_map, List.length_map, h4] at h5
    have hrb : reachBytes = 140737488351232 := by decide
    rw [hrb, Nat.add_mul] at h5
    rw [h2.1.2.1]
    omega
end Go.Ab
