/-
  Layer 7: distances and ways.
-/
import Derived.Test.YtilcbhnhcmdhkaaFl4
namespace Go.Proofs.Ytilcbhnhcmdhkaa
open Go Go.Ab Go.Fl
set_option linter.unusedVariables false
set_option linter.unusedSimpArgs false
attribute [local irreducible] VC AW FStep ACall
set_option maxHeartbeats 4000000

def mvN (f : Flo) : MV := fun c d => (nextI f c d).map Int.toNat
def bvN (f : Flo) : MV := fun c d => (backI f c d).map Int.toNat
def distM (f : Flo) (fr avoid : List Int) : List Int := (spreadM f.k.length (mvN f) (okF f avoid) (cellsF f fr)).out
def leftM (f : Flo) (b : Int) (avoid : List Int) : List Int := (spreadM f.k.length (bvN f) (okF f avoid) (cellsF f [b])).out

section
variable {f : Flo}
theorem size_eq (g : Fine f) : f.size = f.k.length := by have := g.kl; unfold Flo.size; omega
theorem mvN_some (g : Fine f) {c d n : Nat} : mvN f c d = some n ↔ nextI f c d = some (n : Int) := by
  unfold mvN
  constructor
  · intro h
    obtain ⟨x, h1, h2⟩ := Option.map_eq_some_iff.1 h
    have := (next_some g h1).2.2.1
    rw [h1, ← h2, Int.toNat_of_nonneg this.1]
  · intro h; rw [h]; simp
theorem bvN_some (g : Fine f) {c d n : Nat} : bvN f c d = some n ↔ backI f c d = some (n : Int) := by
  unfold bvN
  constructor
  · intro h
    obtain ⟨x, h1, h2⟩ := Option.map_eq_some_iff.1 h
    have := (next_some g ((back_next g).1 h1)).1
    rw [h1, ← h2, Int.toNat_of_nonneg this.1]
  · intro h; rw [h]; simp
theorem mv_bv (g : Fine f) {c d n : Nat} : mvN f c d = some n ↔ bvN f n d = some c := by rw [mvN_some g, bvN_some g, back_next g]
theorem mvN_lt (g : Fine f) : ∀ c d n, c < f.k.length → mvN f c d = some n → n < f.k.length := fun c d n _ h => by
  have := (next_some g ((mvN_some g).1 h)).2.2.1
  have := (size_eq g); omega
theorem bvN_lt (g : Fine f) : ∀ c d n, c < f.k.length → bvN f c d = some n → n < f.k.length := fun c d n _ h => by
  have := (next_some g ((back_next g).1 ((bvN_some g).1 h))).1
  have := (size_eq g); omega
theorem next_n (g : Fine f) (c d : Nat) : ACall Try.prog 10 [floorA f, .i (c : Int), .i (d : Int)] [] (optA ((mvN f c d).map Int.ofNat)) [] := by
  have := next_c g c d
  have e : (mvN f c d).map Int.ofNat = nextI f c d := by
    cases h : nextI f c d with
    | none => unfold mvN; rw [h]; rfl
    | some n =>
      have h1 := (next_some g h).2.2.1
      unfold mvN; rw [h]; simp only [Option.map_some, Int.ofNat_eq_natCast, Int.toNat_of_nonneg h1.1]
  rw [e]; exact this
theorem back_n (g : Fine f) (c d : Nat) : ACall Try.prog 11 [floorA f, .i (c : Int), .i (d : Int)] [] (optA ((bvN f c d).map Int.ofNat)) [] := by
  have := back_c g c d
  have e : (bvN f c d).map Int.ofNat = backI f c d := by
    cases h : backI f c d with
    | none => unfold bvN; rw [h]; rfl
    | some n =>
      have h1 := (next_some g ((back_next g).1 h)).1
      unfold bvN; rw [h]; simp only [Option.map_some, Int.ofNat_eq_natCast, Int.toNat_of_nonneg h1.1]
  rw [e]; exact this
theorem spread_fwd (g : Fine f) (fr avoid : List Int) (hfr : fr.length ≤ 1000) (hav : avoid.length ≤ 1000) :
    ACall Try.prog 33 [floorA f, .rowE (ints fr) 1, .rowE (ints avoid) 1, .clo (.func 10) [] []] [] (.rowE (ints (distM f fr avoid)) 1) [] := by
  have hl := (spread_far (ok := okF f avoid) (mvN_lt g) (cellsF f fr) (cells_lt (size_eq g))).2
  exact acall_frz (by simp [distM, hl]) (idfL_flat (ints_idf _)) (spread_c g fr avoid hfr hav _ _ (mvN_lt g) (fun c d _ _ => next_n g c d))
theorem spread_bwd (g : Fine f) (b : Int) (avoid : List Int) (hav : avoid.length ≤ 1000) :
    ACall Try.prog 33 [floorA f, .rowE (ints [b]) 1, .rowE (ints avoid) 1, .clo (.func 11) [] []] [] (.rowE (ints (leftM f b avoid)) 1) [] := by
  have hl := (spread_far (ok := okF f avoid) (bvN_lt g) (cellsF f [b]) (cells_lt (size_eq g))).2
  exact acall_frz (by simp [leftM, hl]) (idfL_flat (ints_idf _)) (spread_c g [b] avoid (by simp) hav _ _ (bvN_lt g) (fun c d _ _ => back_n g c d))
theorem dist_c (g : Fine f) (fr avoid : List Int) (hfr : fr.length ≤ 1000) (hav : avoid.length ≤ 1000) : ACall Try.prog 13 [floorA f, .rowE (ints fr) 1, .rowE (ints avoid) 1] [] (.rowE (ints (distM f fr avoid)) 1) [] := by
  have hs := spread_fwd g fr avoid hfr hav
  refine acall T Try.func13 rfl rfl rfl rfl ?_
  repeat' (first | (first | (refine aw_seq ?_) | (refine aw_block ?_) | (refine aw_skip ?_) | (refine aw_ret ?_) | (refine aw_exit ?_)) | (first | (refine aw_condt rfl ?_) | (refine aw_condf rfl ?_) | (refine aw_cond rfl (fun hb => ?_) (fun hb => ?_) <;> (first | subst hb | ((try simp only [decide_eq_true_eq, decide_eq_false_iff_not, Bool.not_true, Bool.not_false, Bool.not_eq_true', Bool.not_eq_false', Bool.and_eq_true, Bool.or_eq_true, Bool.and_eq_false_iff, Bool.or_eq_false_iff, Int.not_lt, Int.not_le, Int.le_min, Int.lt_min, Int.max_le, Int.max_lt] at hb); try ((exfalso; omega); done))))) | (((refine aw_region (id := 0) ?_)); (all_goals first | (refine vc_n (by first | exact fs_box rfl rfl) rfl ?_)); (all_goals first | (refine vc_v (by first | exact fs_assign rfl) rfl ?_)); (all_goals (refine vc_nilp (by (first | (dsimp only [List.nil_append, List.cons_append, List.append_nil, List.length_cons, List.length_nil, List.set_cons_zero, List.set_cons_succ, List.map_cons, List.map_nil, putAt, putd, allObjs, argEnv, un_v, un_ptr, un_ep, un_pr, un_sl, un_row, un_agg, un_tup, un_clo, un_ifc, Nat.zero_add, Nat.add_zero, Nat.reduceAdd, Bool.not_true, Bool.not_false]; first | done | exact rfl) | exact rfl)) ?_))) | (((refine aw_region (id := 1) ?_)); (all_goals first | (refine vc_v (by first | exact fs_load T rfl rfl rfl rfl) rfl ?_)); (all_goals first | (refine vc_v (by first | exact fs_move rfl) rfl ?_)); (all_goals first | (refine vc_v (by first | exact fs_move rfl) rfl ?_)); (all_goals first | (refine vc_v (by first | exact fs_call0 rfl rfl (hs) rfl rfl rfl) rfl ?_) | (refine vc_n (by first | exact fs_call0 rfl rfl (hs) rfl rfl rfl) rfl ?_)); (all_goals first | (refine vc_v (by first | exact fs_assign rfl) rfl ?_)); (all_goals (refine vc_nilp (by (first | (dsimp only [List.nil_append, List.cons_append, List.append_nil, List.length_cons, List.length_nil, List.set_cons_zero, List.set_cons_succ, List.map_cons, List.map_nil, putAt, putd, allObjs, argEnv, un_v, un_ptr, un_ep, un_pr, un_sl, un_row, un_agg, un_tup, un_clo, un_ifc, Nat.zero_add, Nat.add_zero, Nat.reduceAdd, Bool.not_true, Bool.not_false]; first | done | exact rfl) | exact rfl)) ?_))))
  exact ret_plain (.inl rfl) rfl rfl

/-- The next cell of the least shortest way. -/
def goodD (f : Flo) (l : List Int) (c d : Nat) : Option Nat := match mvN f c d with
  | some n => if l.getD n (-1) = l.getD c (-1) - 1 then some n else none
  | none => none
def stepM (f : Flo) (l : List Int) (c : Nat) : Nat := ((List.range 6).findSome? (goodD f l c)).getD c
def wayM (f : Flo) (l : List Int) : Nat → Nat → List Nat
  | 0, _ => []
  | k + 1, c => stepM f l c :: wayM f l k (stepM f l c)
def pathM (f : Flo) (a b : Int) (avoid : List Int) : List Nat :=
  if (0 ≤ a ∧ a < f.size) ∧ (0 ≤ b ∧ b < f.size) ∧ 0 ≤ (leftM f b avoid).getD a.toNat (-1) then a.toNat :: wayM f (leftM f b avoid) ((leftM f b avoid).getD a.toNat (-1)).toNat a.toNat else []
end
end Go.Proofs.Ytilcbhnhcmdhkaa
