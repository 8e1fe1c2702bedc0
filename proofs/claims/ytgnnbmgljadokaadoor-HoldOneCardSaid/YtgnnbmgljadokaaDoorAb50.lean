/-
  A logic of values for the walk: maps that are only read.
-/
import Derived.Test.YtgnnbmgljadokaaDoorAb49
import Derived.Test.YtgnnbmgljadokaaDoorAb47
namespace Go.Ab
open Go Go.MapKept
set_option linter.unusedVariables false
set_option linter.unusedSimpArgs false
section
variable {P : Program} {env : Env} {h : Hp}
variable {d : Option Nat} {ty : TypeId} {pos : String} {af : Array Edge} {g : Option (Nat × Bool)}
variable {t kt et : TypeId} {good : Value → Prop} {x y : Operand} {i : Nat} {kv : Value} {ks : List Value} {vs : List AV} {v : AV}
theorem fs_mapGetR (ht : P.underlying t = some (.map kt et)) (ko : KeyOk P kt good) (hx : evu env x = some (.mrow ks vs)) {yv : AV} (hy : evu env y = some yv) (hyv : IsV yv kv) (hkeys : ∀ q, q ∈ ks → good q) (hkey : good kv) (hnd : ks.Nodup) (hi : ks[i]? = some kv) (hv : vs[i]? = some v) (hidf : v.idf = true) :
    FStep P ⟨d, .lookup t x y true, ty, pos, af, g⟩ env h 0 (fun _ => .tup [v, .b true]) (fun _ => []) := by
  refine fs_val fun ρ S a w p => ?_
  have h1 := p.evu hx
  simp only [R] at h1
  obtain ⟨b, l, ck, h3, _, h6, h7, h8⟩ := h1
  have h4 := hyv _ _ _ _ (p.evu hy)
  obtain ⟨e, h9, h10, _⟩ := find_some ko w h7 hkeys hkey hnd hi
  refine ⟨.tuple #[e.val, .bool true], ?_, ?_⟩
  · simp [execOp, h3, h4, Instr.lookup, run_underlying ht, MapKept.run_getObj_map h6, ko.check w _ hkey, h9]
  · obtain ⟨u, h11, h12⟩ := RL_get h8 i v hv
    rw [List.getElem?_map, h10] at h11
    cases h11
    simp only [R, RL]
    exact ⟨_, rfl, _, _, rfl, R_idf _ _ _ _ hidf h12, _, _, rfl, rfl, rfl⟩
theorem fs_mapMissR (ht : P.underlying t = some (.map kt et)) (ko : KeyOk P kt good) {z : Value} {zA : AV} (hz : ∀ w, (zeroValue et).run P w = .ok z w) (hzA : ∀ (S : Nat → Prop) (w : World) (ρ : Pl), R S w zA ρ z) (hx : evu env x = some (.mrow ks vs)) {yv : AV} (hy : evu env y = some yv) (hyv : IsV yv kv) (hkeys : ∀ q, q ∈ ks → good q) (hkey : good kv) (hni : kv ∉ ks) :
    FStep P ⟨d, .lookup t x y true, ty, pos, af, g⟩ env h 0 (fun _ => .tup [zA, .b false]) (fun _ => []) := by
  refine fs_val fun ρ S a w p => ?_
  have h1 := p.evu hx
  simp only [R] at h1
  obtain ⟨b, l, ck, h3, _, h6, h7, h8⟩ := h1
  have h4 := hyv _ _ _ _ (p.evu hy)
  have h9 := find_none ko w h7 hkeys hkey hni
  refine ⟨.tuple #[z, .bool false], ?_, ?_⟩
  · simp [execOp, h3, h4, Instr.lookup, run_underlying ht, MapKept.run_getObj_map h6, ko.check w _ hkey, h9, hz]
  · simp only [R, RL]
    exact ⟨_, rfl, _, _, rfl, hzA S w ρ, _, _, rfl, rfl, rfl⟩
end
end Go.Ab
