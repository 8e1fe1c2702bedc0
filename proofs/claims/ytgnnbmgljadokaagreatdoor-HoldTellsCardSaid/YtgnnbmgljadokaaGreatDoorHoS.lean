/-
  Layer 17: what Read makes of an encoding; operations depend on the owners alone (plain).
-/
import Derived.Test.YtgnnbmgljadokaaGreatDoorHoR
namespace Go.Proofs.YtgnnbmgljadokaaGreatDoor
open Go Go.Ab Go.Ho Go.Wr
set_option linter.unusedVariables false
set_option linter.unusedSimpArgs false
theorem of_iff {m : Tb} (h : Ok m) {o n : Int} (ho : 0 ≤ o) : n ∈ ofL m o ↔ own m n = o := by
  rw [mem_ofL, h.mem]
  exact ⟨fun h => h.1, fun h => ⟨h, ho⟩⟩
theorem own_askT {m : Tb} {o : Int} {l : List Int} (n : Int) : own (askT m o l) n = if askE m o l = 0 then (if n ∈ l then o else own m n) else own m n := by
  unfold askT
  split
  · rw [own_putL, List.take_length]
  · rfl
theorem readL_ok : ∀ (k : Nat) (s : St) (m : Tb) {s' : St} {m' : Tb}, Ok m → readL k s m = some (s', m') → Ok m'
  | 0, s, m, s', m', h, e => by simp only [readL, Option.some.injEq, Prod.mk.injEq] at e; rw [← e.2]; exact h
  | k + 1, s, m, s', m', h, e => by
    unfold readL at e
    split at e
    · simp only [Option.some.injEq, Prod.mk.injEq] at e; rw [← e.2]; exact h
    · split at e
      · exact readL_ok k _ _ (Ok.askT h (numS_I64 s 59 (-9223372036854775808)).2) e
      · cases e
theorem readT_some {l : List UInt8} {m : Tb} (h : readT l = some m) : Ok m ∧ bytesB m = l := by
  unfold readT at h
  cases hr : readL (numS (some l) 59 0).1.toNat (numS (some l) 59 0).2 [] with
  | none => rw [hr] at h; cases h
  | some p =>
    obtain ⟨s, m'⟩ := p
    rw [hr] at h
    unfold readE at h
    dsimp only at h
    split at h
    · rename_i hc
      cases h
      exact ⟨readL_ok _ _ _ Ok.nil hr, hc.2⟩
    · cases h
theorem int_read {n : Int} (h : I64 n) (r : List UInt8) : intS (some (intB n ++ r)) = (n, some r) := by
  unfold intS intB
  rw [List.append_assoc, List.singleton_append]
  exact numS_some (numP_mk h h.1 (by decide))
theorem num_read {n : Int} (h : I64 n) (h0 : 0 ≤ n) (r : List UInt8) : numS (some (intB n ++ r)) 59 0 = (n, some r) := by
  unfold intB
  rw [List.append_assoc, List.singleton_append]
  exact numS_some (numP_mk h h0 (by decide))
theorem items_read : ∀ (l : List Int) (r : List UInt8), (∀ x, x ∈ l → I64 x) → itemsL l.length (some ((l.map intB).flatten ++ r)) = (l, some r)
  | [], r, _ => rfl
  | x :: l, r, h => by
    have ih := items_read l r fun y hy => h y (List.mem_cons_of_mem _ hy)
    have hi := int_read (h x List.mem_cons_self) ((l.map intB).flatten ++ r)
    rw [List.map_cons, List.flatten_cons, List.append_assoc, List.length_cons]
    show ((intS (some (intB x ++ ((l.map intB).flatten ++ r)))).1 :: (itemsL l.length (intS (some (intB x ++ ((l.map intB).flatten ++ r)))).2).1, (itemsL l.length (intS (some (intB x ++ ((l.map intB).flatten ++ r)))).2).2) = _
    rw [hi]
    dsimp only
    rw [ih]
theorem nums_read {l : List Int} (h : ∀ x, x ∈ l → I64 x) (hl : l.length ≤ 1000000) (r : List UInt8) : numsS (some (numsB l ++ r)) = (l, some r) := by
  have e : numsB l ++ r = Lib.itoa l.length ++ 91 :: ((l.map intB).flatten ++ (93 :: r)) := by
    unfold numsB accB
    rw [List.take_length]
    simp
  have h1 : numS (some (numsB l ++ r)) 91 0 = ((l.length : Int), some ((l.map intB).flatten ++ (93 :: r))) := by
    rw [e]
    exact numS_some (numP_mk ⟨by omega, by omega⟩ (by omega) (by decide))
  unfold numsS
  rw [h1]
  dsimp only
  rw [Int.toNat_natCast, items_read l _ h]
  rfl
theorem ent_ne (m : Tb) (o : Int) (r : List UInt8) : 0 < (entB m o ++ r).length := by
  unfold entB intB
  simp
  omega
theorem readL_mk {m : Tb} (h : Ok m) : ∀ (L : List Int) (m0 : Tb), Ok m0 → L.Nodup → (∀ o, o ∈ L → o ∈ owsL m) → (∀ o, o ∈ L → ∀ n, n ∈ ofL m o → own m0 n < 0) →
    ∃ m1, readL L.length (some ((L.map (entB m)).flatten)) m0 = some (some [], m1) ∧ Ok m1 ∧ ∀ n, own m1 n = if own m n ∈ L then own m n else own m0 n
  | [], m0, h0, _, _, _ => ⟨m0, rfl, h0, fun n => by simp⟩
  | o :: L, m0, h0, hnd, hin, hfr => by
    have ho := owsL_rng h (hin o List.mem_cons_self)
    have hof : ∀ n, n ∈ ofL m o ↔ own m n = o := fun n => of_iff h ho.1
    have hask : askE m0 o (ofL m o) = 0 := ask_0.2 ⟨ho.1, fun n hn => h.slot (by rw [(hof n).1 hn]; exact ho.1), fun n hn => .inl (hfr o List.mem_cons_self n hn)⟩
    rw [List.nodup_cons] at hnd
    obtain ⟨m1, h1, h2, h3⟩ := readL_mk h L (askT m0 o (ofL m o)) (Ok.askT h0 ho.2) hnd.2 (fun o' h' => hin o' (List.mem_cons_of_mem _ h')) (fun o' h' n hn => by
      have ho' := owsL_rng h (hin o' (List.mem_cons_of_mem _ h'))
      rw [own_askT, if_pos hask, if_neg (fun q => ?_)]
      · exact hfr o' (List.mem_cons_of_mem _ h') n hn
      · have e1 := (hof n).1 q
        have e2 := (of_iff h ho'.1).1 hn
        exact hnd.1 (by rw [← e1, e2]; exact h'))
    refine ⟨m1, ?_, h2, fun n => ?_⟩
    · rw [List.map_cons, List.flatten_cons, List.length_cons]
      have hi : intS (some (entB m o ++ (L.map (entB m)).flatten)) = (o, some (numsB (ofL m o) ++ (L.map (entB m)).flatten)) := by
        unfold entB
        rw [List.append_assoc]
        exact int_read ⟨by omega, ho.2⟩ _
      have hn : numsS (some (numsB (ofL m o) ++ (L.map (entB m)).flatten)) = (ofL m o, some (L.map (entB m)).flatten) := nums_read (fun x hx => ofL_I64 h hx) (by have := ofL_len (m := m) (o := o); have := h.len; omega) _
      have hp := ent_ne m o (L.map (entB m)).flatten
      show (if (entB m o ++ (L.map (entB m)).flatten).length = 0 then some (some (entB m o ++ (L.map (entB m)).flatten), m0) else _) = _
      rw [if_neg (by omega), hi]
      dsimp only
      rw [hn]
      dsimp only
      rw [if_pos hask]
      exact h1
    · rw [h3, own_askT, if_pos hask]
      simp only [List.mem_cons, hof]
      by_cases e : own m n = o
      · simp [e, hnd.1]
      · simp [e]
theorem read_bytes {m : Tb} (h : Ok m) : ∃ m1, readT (bytesB m) = some m1 ∧ Ok m1 ∧ ∀ n, own m1 n = own m n := by
  obtain ⟨m1, h1, h2, h3⟩ := readL_mk h (owsL m) [] Ok.nil (owsL_nd m) (fun _ h => h) (fun _ _ n _ => by rw [kk_nil_own]; decide)
  have hown : ∀ n, own m1 n = own m n := fun n => by
    rw [h3, kk_nil_own]
    split
    · rfl
    · rename_i hn
      have hg := h.ge n
      by_cases h0 : 0 ≤ own m n
      · exact absurd (mem_owsL.2 ⟨n, h.mem.2 ⟨rfl, h0⟩⟩) hn
      · omega
  refine ⟨m1, ?_, h2, hown⟩
  have hl : (owsL m).length ≤ 8192 := by have := owsL_len m; have := h.len; omega
  have e : bytesB m = intB (owsL m).length ++ ((owsL m).map (entB m)).flatten := by
    unfold bytesB accO
    rw [List.take_length]
  have hn : numS (some (bytesB m)) 59 0 = (((owsL m).length : Int), some ((owsL m).map (entB m)).flatten) := by
    rw [e]
    exact num_read ⟨by omega, by omega⟩ (by omega) _
  unfold readT
  rw [hn]
  dsimp only
  rw [Int.toNat_natCast, h1]
  exact if_pos ⟨rfl, bytesB_own h2 h hown⟩
end Go.Proofs.YtgnnbmgljadokaaGreatDoor
