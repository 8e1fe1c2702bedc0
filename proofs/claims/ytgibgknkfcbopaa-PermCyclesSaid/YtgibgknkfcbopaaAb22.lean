/-
  A logic of values for the walk, twenty-second part: fields of structures that are values, stores at a cell that is not known, masks of any number.
-/
import Derived.Test.YtgibgknkfcbopaaAb21
namespace Go.Ab
open Go
set_option linter.unusedVariables false
set_option linter.unusedSimpArgs false

section
variable {P : Program} {env : Env} {h : Hp}
variable {d : Option Nat} {ty : TypeId} {pos : String} {af : Array Edge} {g : Option (Nat × Bool)}
theorem part_val (T : Tab P) {S : Nat → Prop} {w : World} {ρ : Pl} {e off : Nat} {i : TI} {cs : List AV} {ys : Array Value} {z : AV} (h5 : RL S w cs ρ ys.toList) (he : T.ti e = some i) (hz : loadAV i cs off = some z) : ∃ v, (part e ys off).run P w = .ok v w ∧ R S w z ρ v := by
  unfold loadAV at hz
  split at hz
  · rename_i hagg
    split at hz
    · rename_i zs hg
      simp only [Option.some.injEq] at hz
      subst hz
      refine ⟨.agg (ys.extract off (off + i.size)), by simp [part, T.agg he, hagg, T.sizeOf he], ?_⟩
      rw [grab_take hg]
      simp only [R]
      refine ⟨_, rfl, ?_⟩
      have := RL_take (RL_drop h5 off) i.size
      simpa [Array.toList_extract, List.extract_eq_take_drop] using this
    · cases hz
  · rename_i hagg
    obtain ⟨v, h7, h8⟩ := RL_get h5 _ _ hz
    have h9 : ys[off]? = some v := by simpa using h7
    exact ⟨v, by simp [part, T.agg he, hagg, h9], h8⟩
def fieldT (P : Program) (t : TypeId) (f : Nat) : Option (Nat × Nat) := match P.underlying t with
  | some (.struct fs) => (fs[f]?).map fun fd => (fd.type, fd.offset)
  | _ => none
/-- A field of a structure that is a value. -/
theorem fs_fieldV (T : Tab P) {t f e o : Nat} {i : TI} {x : Operand} {cs : List AV} {z : AV} (hx : evu env x = some (.agg cs)) (hf : fieldT P t f = some (e, o)) (he : T.ti e = some i) (hz : loadAV i cs o = some z) :
    FStep P ⟨d, .field t x f, ty, pos, af, g⟩ env h 0 (fun _ => z) (fun _ => []) := by
  refine fs_val fun ρ S a w p => ?_
  have h3 := p.evu hx
  simp only [R] at h3
  obtain ⟨ys, h4, h5⟩ := h3
  obtain ⟨v, h6, h7⟩ := part_val T h5 he hz
  unfold fieldT at hf
  split at hf
  · rename_i fs hu
    cases hfd : fs[f]? with
    | none => rw [hfd] at hf; cases hf
    | some fd =>
      rw [hfd] at hf
      simp only [Option.map_some, Option.some.injEq, Prod.mk.injEq] at hf
      obtain ⟨rfl, rfl⟩ := hf
      exact ⟨v, by simp [execOp, h4, Instr.field, run_underlying hu, hfd, asAgg, h6], h7⟩
  · cases hf
/-- The first k elements of a row, and those from the k-th on. -/
theorem fs_sliceToE (T : Tab P) {t e sz k : Nat} {es : List (List AV)} {i : TI} {x : Operand} {hi : Option Operand} (hx : evu env x = some (.rowE es sz)) (ht : T.elem t = some e) (he : T.ti e = some i) (hs : i.size = sz) (hhi : evB env hi es.length = some (k : Int)) (h2 : k ≤ es.length) (hl : ∀ e, e ∈ es → e.length = sz) :
    FStep P ⟨d, .slice t x none hi none, ty, pos, af, g⟩ env h 0 (fun _ => .rowE (es.take k) sz) (fun _ => []) := by
  have := fs_sliceRowE (env := env) (h := h) (d := d) (ty := ty) (pos := pos) (af := af) (g := g) (lo := none) (l := 0) T hx ht he hs rfl hhi (by omega) (by omega) (by omega) hl
  simpa using this
theorem fs_sliceFromE (T : Tab P) {t e sz k : Nat} {es : List (List AV)} {i : TI} {x : Operand} {lo : Option Operand} (hx : evu env x = some (.rowE es sz)) (ht : T.elem t = some e) (he : T.ti e = some i) (hs : i.size = sz) (hlo : evB env lo 0 = some (k : Int)) (h2 : k ≤ es.length) (hl : ∀ e, e ∈ es → e.length = sz) :
    FStep P ⟨d, .slice t x lo none none, ty, pos, af, g⟩ env h 0 (fun _ => .rowE (es.drop k) sz) (fun _ => []) := by
  have := fs_sliceRowE (env := env) (h := h) (d := d) (ty := ty) (pos := pos) (af := af) (g := g) (hi := none) (r := (es.length : Int)) T hx ht he hs hlo rfl (by omega) (by omega) (by omega) hl
  have e1 : ((es.length : Int) - (k : Int)).toNat = es.length - k := by omega
  rw [e1] at this
  rw [show ((es.drop ((k : Int).toNat)).take (es.length - k)) = es.drop k by rw [Int.toNat_natCast]; exact List.take_of_length_le (by simp)] at this
  exact this
theorem fs_and1Z {t t2 : TypeId} {x y : Operand} {a : Int} (hx : evu env x = some (.i a)) (hy : evu env y = some (.i 1)) :
    FStep P ⟨d, .binOp .and t x y t2, ty, pos, af, g⟩ env h 0 (fun _ => .i (a % 2)) (fun _ => []) := by
  refine fs_bin hx hy fun w => ?_
  have e : ((BitVec.ofInt 64 a &&& BitVec.ofInt 64 1).toNat : Int) = a % 2 := by
    rw [BitVec.toNat_and, BitVec.toNat_ofInt, BitVec.toNat_ofInt]
    rw [show ((1 : Int) % ((2 ^ 64 : Nat) : Int)).toNat = 1 by decide, Nat.and_one_is_mod]
    have : ((2 ^ 64 : Nat) : Int) = 18446744073709551616 := by decide
    rw [this]
    omega
  have e3 : IntKind.i64.wrap (a % 2) = a % 2 := IntWalk.i64_in _ (by omega)
  show (Op.intBits .and .i64 a 1).run P w = _
  simp only [Op.intBits]
  show Result.ok (Value.int .i64 (IntKind.i64.wrap ((BitVec.ofInt 64 a &&& BitVec.ofInt 64 1).toNat : Int))) w = _
  rw [e, e3]
end

theorem putAt_one (cs : List AV) (off : Nat) (v : AV) : putAt cs off [v] = cs.set off v := rfl
/-- A store into one cell of a variable. -/
theorem upd_at {h : Hp} {k off : Nat} {cs cs' : List AV} {v : AV} (hk : h[k]? = some (.cells cs)) (hl : off < cs.length) (he : cs.set off v = cs') : upd h (.ptr k off) [v] = some (h.set k (.cells cs')) := by
  have : Nat.ble (off + [v].length) cs.length = true := Nat.ble_eq_true_of_le (show off + 1 ≤ cs.length from hl)
  simp only [upd, hk, this, putAt_one, he]
end Go.Ab
