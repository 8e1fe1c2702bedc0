/-
  Layer 11: the maker: a shelf is added.
-/
import Derived.Test.YtcdgmjfmmnklnaaSv4
namespace Go.Proofs.Ytcdgmjfmmnklnaa
open Go Go.Ab Go.Fl Go.Shelf Go.Proofs Go.MapKept
set_option linter.unusedVariables false
set_option linter.unusedSimpArgs false
attribute [local irreducible] VC AW FStep ACall PCall StrStruct StrT
set_option maxHeartbeats 4000000
structure Mk where
  zs : List Zon
  aps : List (List UInt8 × List UInt8)
  shs : List (Int × List UInt8)
  rbs : List (Int × Int)
  zk : List Int
def tru (n : Nat) : List AV := List.replicate n (.b true)
theorem tru_snoc (n : Nat) : tru n ++ [.b true] = tru (n + 1) := by unfold tru; rw [List.replicate_succ']
theorem tru_at {n i : Nat} (h : i < n) : (tru n)[i]? = some (.b true) := by unfold tru; simp [h]
theorem tru_set (n i : Nat) : (tru n).set i (.b true) = tru n := by
  unfold tru
  apply List.ext_getElem?
  intro j
  rw [List.getElem?_set]
  split
  · rename_i e; subst e
    split
    · rename_i h; simp at h; simp [h]
    · rename_i h; simp at h; simp [h]
  · rfl
theorem rng_snoc (n : Nat) : rngA n ++ [.i (n : Int)] = rngA (n + 1) := by unfold rngA; rw [List.range_succ]; simp
theorem idfL_all : ∀ {l : List AV}, (∀ x, x ∈ l → x.idf = true) → AV.idfL l = true
  | [], _ => rfl
  | x :: l, h => by simp only [AV.idfL, Bool.and_eq_true]; exact ⟨h x List.mem_cons_self, idfL_all fun y hy => h y (List.mem_cons_of_mem _ hy)⟩
theorem tru_idf (n : Nat) : AV.idfL (tru n) = true := idfL_all fun x hx => by unfold tru at hx; rw [(List.mem_replicate.1 hx).2]; rfl
theorem rng_idf (n : Nat) : AV.idfL (rngA n) = true := idfL_all fun x hx => by unfold rngA at hx; obtain ⟨i, _, rfl⟩ := List.mem_map.1 hx; rfl
def Mk.cl (m : Mk) : List Int := m.shs.map (·.1)
def Mk.rc (m : Mk) : List Int := m.rbs.map (·.1)
abbrev kS (l : List UInt8) : Value := .string ⟨l.toArray⟩
def Mk.nm (m : Mk) : List Value := m.zs.map fun z => kS z.1
abbrev mkC (f : Flo) (m : Mk) (oz oa os ob : Nat) : List AV := floorC f ++ [.sl oz 0 m.zs.length 5, .sl oa 0 m.aps.length 2, .sl os 0 m.shs.length 2, .sl ob 0 m.rbs.length 2, .mp 1, .mp 2, .mp 3, .mp 4, .mp 5, .nils, .nils]
abbrev mkP (f : Flo) (m : Mk) (oz oa os ob : Nat) (z a s r : AB) : Hp := [.cells (mkC f m oz oa os ob), .mapO (m.cl.map kI) (rngA m.shs.length), .mapO (m.rc.map kI) (tru m.rbs.length), .mapO (m.zk.map kI) (tru m.zk.length), .mapO m.nm (rngA m.zs.length), .mapO [] [], z, a, s, r]
abbrev mkM (f : Flo) (m : Mk) : Hp := mkP f m 6 7 8 9 (.arr (zonsA m.zs) 5) (.arr (apsA m.aps) 2) (.arr (shsA m.shs) 2) (.arr (stksA m.rbs) 2)
theorem sub_map {h : Hp} {i : Nat} {θ : Nat → Nat} {ks ks' : List Value} {vs vs' : List AV} (hk : h[i]? = some (.mapO ks' vs')) (hks : ks' = ks) (he : vs' = vs) (hi : AV.idfL vs = true) : h[i]? = some ((AB.mapO ks vs).map θ) := by
  subst he hks
  rw [hk]
  show _ = some (AB.mapO ks' (AV.mapL θ vs'))
  rw [mapL_idf θ vs' hi]
theorem zons_idf (l : List Zon) : ∀ e, e ∈ zonsA l → AV.idfL e = true := by intro e he; obtain ⟨i, _, rfl⟩ := List.mem_map.1 he; rfl
theorem aps_idf (l : List (List UInt8 × List UInt8)) : ∀ e, e ∈ apsA l → AV.idfL e = true := by intro e he; obtain ⟨i, _, rfl⟩ := List.mem_map.1 he; rfl
theorem shs_idf (l : List (Int × List UInt8)) : ∀ e, e ∈ shsA l → AV.idfL e = true := by intro e he; obtain ⟨i, _, rfl⟩ := List.mem_map.1 he; rfl
theorem stks_idf (l : List (Int × Int)) : ∀ e, e ∈ stksA l → AV.idfL e = true := by intro e he; obtain ⟨i, _, rfl⟩ := List.mem_map.1 he; rfl
theorem lt10 : ∀ i : Nat, i < 10 → ([0, 1, 2, 3, 4, 5, 6, 7, 8, 9] : List Nat)[i]? = some i := by decide
theorem mk_view {h : Hp} {f : Flo} {m : Mk} {rest : Hp} (hh : h = mkM f m ++ rest) : View h (.ptr 0 0) (.pr (floorC f ++ .rowE (zonsA m.zs) 5 :: .rowE (apsA m.aps) 2 :: .rowE (shsA m.shs) 2 :: .rowE (stksA m.rbs) 2 :: .mrow (m.cl.map kI) (rngA m.shs.length) :: [.mrow (m.rc.map kI) (tru m.rbs.length), .mrow (m.zk.map kI) (tru m.zk.length), .mrow m.nm (rngA m.zs.length), .mrow [] [], .nils, .nils]) 0) := by
  subst hh
  refine .ptr rfl (.cons (.v _) (.cons (.v _) (.cons (.v _) (.cons (.row _ _ _) (.cons (.row _ _ _) (.cons ?_ (.cons ?_ (.cons ?_ (.cons ?_ (.cons ?_ (.cons ?_ (.cons ?_ (.cons ?_ (.cons ?_ (.cons (.v _) (.cons (.v _) .nil))))))))))))))))
  · exact view_rows rfl (by simp) (pln_flat (fun _ => rfl) _)
  · exact view_rows rfl (by simp) (pln_flat (fun _ => rfl) _)
  · exact view_rows rfl (by simp) (pln_flat (fun _ => rfl) _)
  · exact view_rows rfl (by simp) (pln_flat (fun _ => rfl) _)
  · exact .mp rfl (viewL_self _ (by unfold rngA; induction (List.range m.shs.length) with | nil => rfl | cons a l ih => exact ih))
  · exact .mp rfl (viewL_self _ (by unfold tru; induction m.rbs.length with | zero => rfl | succ n ih => rw [List.replicate_succ]; exact ih))
  · exact .mp rfl (viewL_self _ (by unfold tru; induction m.zk.length with | zero => rfl | succ n ih => rw [List.replicate_succ]; exact ih))
  · exact .mp rfl (viewL_self _ (by unfold rngA; induction (List.range m.zs.length) with | nil => rfl | cons a l ih => exact ih))
  · exact .mp rfl .nil
end Go.Proofs.Ytcdgmjfmmnklnaa
