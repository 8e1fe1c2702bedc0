/-
  HoldOne: what an operation leaves to the other owners; the walk.
-/
import Derived.Test.YtgnnbmgljadokaaDoorHoI
namespace Go.Proofs.YtgnnbmgljadokaaDoor
open Go Go.Ab Go.Ho Go.MapKept
set_option linter.unusedVariables false
set_option linter.unusedSimpArgs false
attribute [local irreducible] VC AW FStep ACall
set_option maxHeartbeats 4000000
/-- What one operation does to the slots of an owner other than its first. -/
structure OneOk (m m' : Tb) (q a b o : Int) : Prop where
  sub : ∀ n, own m n = o → own m' n = o
  same : (q ≠ 3 ∨ o ≠ b) → ∀ n, own m' n = o → own m n = o
theorem one_ok {m : Tb} (h : Ok m) (x : OP) {o : Int} (ho : 0 ≤ o) (ha : o ≠ x.2.1) : OneOk m (doT m x) (doQ x) x.2.1 x.2.2.1 o := by
  obtain ⟨x0, a, b, s⟩ := x
  dsimp only at ha
  unfold doT
  dsimp only
  generalize doQ (x0, a, b, s) = q
  by_cases h2 : q = 2
  · simp only [if_pos h2]
    unfold freeT
    split
    · rename_i he
      obtain ⟨_, _, h5⟩ := free_0.1 he
      have e : ∀ n, own (delL m s s.length) n = if n ∈ s then -1 else own m n := fun n => by unfold delL; rw [List.take_length]; exact own_delF h n
      refine ⟨fun n hn => ?_, fun _ n hn => ?_⟩
      · rw [e, if_neg (fun hm => ha (by rw [← h5 n hm, hn]))]; exact hn
      · rw [e] at hn
        split at hn
        · omega
        · exact hn
    · exact ⟨fun n hn => hn, fun _ n hn => hn⟩
  by_cases h3 : q = 3
  · simp only [if_neg h2, if_pos h3]
    unfold giveT
    split
    · rename_i he
      obtain ⟨_, _, h5⟩ := give_0.1 he
      refine ⟨fun n hn => ?_, fun hb n hn => ?_⟩
      · rw [own_putL, List.take_length, if_neg (fun hm => ha (by rw [← h5 n hm, hn]))]; exact hn
      · rw [own_putL, List.take_length] at hn
        split at hn
        · rcases hb with hb | hb
          · exact absurd h3 hb
          · exact absurd hn.symm hb
        · exact hn
    · exact ⟨fun n hn => hn, fun _ n hn => hn⟩
  by_cases h4 : q = 4
  · simp only [if_neg h2, if_neg h3, if_pos h4]
    have hm : ∀ n, n ∈ ofL m a → own m n = a := fun n hn => own_of h.nd (mem_ofL.1 hn)
    refine ⟨fun n hn => ?_, fun _ n hn => ?_⟩
    · rw [own_drop h, if_neg (fun hi => ha (by rw [← hm n hi, hn]))]; exact hn
    · rw [own_drop h] at hn
      split at hn
      · omega
      · exact hn
  by_cases h5 : q = 5
  · simp only [if_neg h2, if_neg h3, if_neg h4, if_pos h5]
    exact ⟨fun n hn => hn, fun _ n hn => hn⟩
  · simp only [if_neg h2, if_neg h3, if_neg h4, if_neg h5]
    unfold askT
    split
    · rename_i he
      obtain ⟨_, _, h6⟩ := ask_0.1 he
      refine ⟨fun n hn => ?_, fun _ n hn => ?_⟩
      · rw [own_putL, List.take_length, if_neg (fun hm => by rcases h6 n hm with h7 | h7 <;> omega)]; exact hn
      · rw [own_putL, List.take_length] at hn
        split at hn
        · exact absurd hn.symm ha
        · exact hn
    · exact ⟨fun n hn => hn, fun _ n hn => hn⟩
theorem one_len {m m' : Tb} {q a b o : Int} (h : Ok m) (h' : Ok m') (ho : 0 ≤ o) (k : OneOk m m' q a b o) (hq : q ≠ 3 ∨ o ≠ b) : (ofL m' o).length = (ofL m o).length := by
  rw [asc_eq (ofL_asc h' o) (ofL_asc h o) fun n => by rw [iff_of h' ho, iff_of h ho]; exact ⟨k.same hq n, k.sub n⟩]
/-- Rows of numbers, as the elements of a slice. -/
def rowsI (w : List (List Int)) : List (List AV) := w.map fun c => [AV.rowE (ints c) 1]
theorem rowsI_len (w : List (List Int)) : ∀ e, e ∈ rowsI w → e.length = 1 := by
  intro e he
  obtain ⟨c, _, rfl⟩ := List.mem_map.1 he
  rfl
theorem rowsI_length (w : List (List Int)) : (rowsI w).length = w.length := by simp [rowsI]
theorem rowsI_snoc (w : List (List Int)) (c : List Int) : rowsI w ++ [[AV.rowE (ints c) 1]] = rowsI (w ++ [c]) := by simp [rowsI]
theorem rowsI_map (θ : Nat → Nat) (w : List (List Int)) : (rowsI w).map (AV.mapL θ) = rowsI w := by
  unfold rowsI
  rw [List.map_map]
  refine List.map_congr_left fun c _ => ?_
  simp [AV.mapL, AV.map, ints_map]
theorem rowsI_idf (w : List (List Int)) : AV.idfL (rowsI w).flatten = true := by
  induction w with
  | nil => rfl
  | cons c w ih =>
    unfold rowsI at *
    simp only [List.map_cons, List.flatten_cons, List.cons_append, List.nil_append]
    simp only [AV.idfL, AV.idf, Bool.and_eq_true]
    first | exact ih | simpa [AV.idfL, AV.idf] using ih
theorem rowsI_get {w : List (List Int)} {k : Nat} (h : k < w.length) : (rowsI w)[k]? = some [AV.rowE (ints w[k]) 1] := by simp [rowsI, h]
theorem hputT {m : Tb} {pp : Nat} {h : Hp} (h0 : h[0]? = some (.cells [.mp 1])) : ∀ H : Hp, (∀ (j : Nat) b, h[j]? = some b → b ≠ .gone → H[j]? = some b) → putH H [0, 1] ((tb m).map (AB.map (backP [0, 1] pp))) = H.set 1 (.mapO (mkV m) (mvV m)) := fun H hb => by
  have h1 := hb 0 _ h0 (by simp)
  obtain ⟨h3, h4⟩ := List.getElem?_eq_some_iff.1 h1
  show (H.set 0 (.cells [.mp 1])).set 1 (.mapO (mkV m) (AV.mapL (backP [0, 1] pp) (mvV m))) = _
  rw [mapL_idf _ _ (mvV_idf _), ← h4, List.set_getElem_self]
theorem sub_rows {h : Hp} {i : Nat} {θ : Nat → Nat} {es : List (List AV)} {w : List (List Int)} (hk : h[i]? = some (.arr es 1)) (e : es = rowsI w) : h[i]? = some ((AB.arr (rowsI w) 1).map θ) := by
  rw [hk, e]
  exact (congrArg (fun x => some (AB.arr x 1)) (rowsI_map θ w)).symm
theorem rows_next {w : List (List Int)} {c : List Int} {k : Nat} (hk : k = w.length) : (((rowsI w).drop 0).take k ++ [[AV.rowE (ints c) 1]]) = rowsI (w ++ [c]) := by
  rw [List.drop_zero, List.take_of_length_le (by rw [rowsI_length]; omega), rowsI_snoc]
def befW (m : Tb) (k : Nat) : List (List Int) := ((owsL m).take k).map (ofL m)
theorem befW_len {m : Tb} {k : Nat} (h : k ≤ (owsL m).length) : (befW m k).length = k := by unfold befW; simp; omega
theorem befW_next {m : Tb} {k : Nat} (h : k < (owsL m).length) : befW m (k + 1) = befW m k ++ [ofL m ((owsL m).getD k 0)] := by
  unfold befW
  rw [List.take_succ_eq_append_getElem h, List.map_append, gdI h]
  rfl
theorem befW_get {m : Tb} {k : Nat} (h : k < (owsL m).length) : (rowsI (befW m (owsL m).length))[k]? = some [AV.rowE (ints (ofL m ((owsL m).getD k 0))) 1] := by
  rw [rowsI_get (by rw [befW_len (Nat.le_refl _)]; exact h), gdI h]
  simp [befW]
end Go.Proofs.YtgnnbmgljadokaaDoor
