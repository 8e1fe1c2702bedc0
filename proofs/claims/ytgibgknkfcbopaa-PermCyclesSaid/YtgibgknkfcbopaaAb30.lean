/-
  A logic of values for the walk, thirtieth part: looking a key up without asking whether it is there; keys that are numbers.
-/
import Derived.Test.YtgibgknkfcbopaaAb29
namespace Go.Ab
open Go Go.MapKept
set_option linter.unusedVariables false
set_option linter.unusedSimpArgs false
section
variable {P : Program} {env : Env} {h : Hp} {d : Option Nat} {ty : TypeId} {pos : String} {af : Array Edge} {g : Option (Nat × Bool)}
variable {t kt et : TypeId} {good : Value → Prop} {x y : Operand} {k i : Nat} {kv : Value} {ks : List Value} {vs : List AV} {v : AV}
theorem fs_mapGet1 (ht : P.underlying t = some (.map kt et)) (ko : KeyOk P kt good) (hx : evu env x = some (.mp k)) {yv : AV} (hy : evu env y = some yv) (hyv : IsV yv kv) (hk : h[k]? = some (.mapO ks vs)) (hkeys : ∀ q, q ∈ ks → good q) (hkey : good kv) (hnd : ks.Nodup) (hi : ks[i]? = some kv) (hv : vs[i]? = some v) :
    FStep P ⟨d, .lookup t x y false, ty, pos, af, g⟩ env h 0 (fun _ => v) (fun _ => []) := by
  refine fs_val fun ρ S a w p => ?_
  have h1 := p.evu hx
  simp only [R] at h1
  obtain ⟨b, o, h2, h3⟩ := h1
  have h4 := hyv _ _ _ _ (p.evu hy)
  obtain ⟨b', o', l, ck, h5, h6, h7, h8⟩ := map_find (p.blk k _ hk)
  rw [h2] at h5; cases h5
  obtain ⟨e, h9, h10, _⟩ := find_some ko w h7 hkeys hkey hnd hi
  refine ⟨e.val, ?_, ?_⟩
  · simp [execOp, h3, h4, Instr.lookup, run_underlying ht, MapKept.run_getObj_map h6, ko.check w _ hkey, h9]
  · obtain ⟨u, h11, h12⟩ := RL_get h8 i v hv
    rw [List.getElem?_map, h10] at h11
    cases h11
    exact h12
end
abbrev kI (n : Int) : Value := .int .i64 n
theorem isv_i (n : Int) : IsV (.i n) (kI n) := IsV.v _
theorem KeyOk.int {P : Program} {kt : TypeId} (hd : P.underlying kt = some (.int .i64)) : KeyOk P kt (IsKey (.int .i64)) := KeyOk.plain hd
theorem good_i (n : Int) : IsKey (.int .i64) (kI n) := rfl
end Go.Ab
