/-
  Texts of the logic and of the layer, in one module (part 5).
-/
import Derived.Test.YtjpcpbbkelgkeaaGreatDoorB4
import Derived.Shelf.Slices.Reverse
import Derived.Shelf.Lay
import Derived.Shelf.Strings.Builder1
import Derived.Shelf.Strconv.Itoa4
import Derived.Ground.NamesProg
import Derived.Shelf.Strconv.ErrVarAll
import Derived.Lib.IndexLaws
set_option linter.unusedVariables false
set_option linter.unusedSimpArgs false
namespace Go.Fl
end Go.Fl
namespace Go.Proofs.YtjpcpbbkelgkeaaGreatDoor
open Go Go.Ab Go.Fl Go.Re Go.Ln Go.MapKept
attribute [local irreducible] VC AW FStep ACall PCall
set_option maxHeartbeats 4000000
def srcB (f : Flo) (W : List Int) (c : Nat) : Bool := decide (f.k.getD c 0 ≠ 0) && !decide ((c : Int) ∈ W)
def srcK (f : Flo) (W : List Int) (n : Nat) : List Nat := (List.range n).filter (srcB f W)
def okN (f : Flo) (c : Nat) : Bool := decide (f.k.getD c 0 ≠ 0)
abbrev srcF (f : Flo) : List Nat := srcK f (walkP f) f.k.length
theorem srcK_succ (f : Flo) (W : List Int) (n : Nat) : srcK f W (n + 1) = if srcB f W n = true then srcK f W n ++ [n] else srcK f W n := by
  unfold srcK
  rw [List.range_succ, List.filter_append]
  by_cases h : srcB f W n = true
  · rw [if_pos h, List.filter_cons, if_pos h]; rfl
  · rw [if_neg h, List.filter_cons, if_neg h]; simp
theorem mem_srcK {f : Flo} {W : List Int} {n c : Nat} : c ∈ srcK f W n ↔ c < n ∧ srcB f W c = true := by
  unfold srcK; rw [List.mem_filter, List.mem_range]
theorem srcK_lt {f : Flo} {W : List Int} {n N : Nat} (h : n ≤ N) : ∀ c, c ∈ srcK f W n → c < N := fun c hc => by have := (mem_srcK.1 hc).1; omega
def offO (f : Flo) : List Int := (spreadM f.k.length (bvN f) (okN f) (srcF f)).out
abbrev offD (f : Flo) (c : Nat) : Int := (offO f).getD c (-1)
theorem off_far {f : Flo} (g : Fine f) : Far f.k.length (bvN f) (okN f) (· ∈ srcF f) (offD f) ∧ (offO f).length = f.k.length := spread_far (bvN_lt g) _ (srcK_lt (Nat.le_refl _))
theorem off_le {f : Flo} (g : Fine f) : ∀ c, c < f.k.length → offD f c ≤ f.k.length := spread_le (bvN_lt g) _ (srcK_lt (Nat.le_refl _))
def nearB (out : List Int) (c n : Nat) : Bool := decide (0 ≤ out.getD n (-1)) && decide (out.getD n (-1) = out.getD c (-1) - 1)
def downF (f : Flo) (out : List Int) (c d : Nat) : Option Nat := match mvN f c d with
  | some n => if nearB out c n = true then some n else none
  | none => none
def downN (f : Flo) (out : List Int) (c : Nat) : Nat := ((List.range 6).findSome? (downF f out c)).getD c
def wayT (f : Flo) (out : List Int) : Nat → Nat → List Int
  | 0, _ => []
  | n + 1, c => (downN f out c : Int) :: wayT f out n (downN f out c)
def offW (f : Flo) (c : Nat) : List Int := (c : Int) :: wayT f (offO f) (offD f c).toNat c
def offE (f : Flo) (c : Int) : Option (Int × List Int) := if 0 ≤ offD f c.toNat then some (c, offW f c.toNat) else none
def offL (f : Flo) (W : List Int) : List (Int × List Int) := W.filterMap (offE f)
theorem wayT_len (f : Flo) (out : List Int) : ∀ (n c : Nat), (wayT f out n c).length = n
  | 0, _ => rfl
  | n + 1, c => by unfold wayT; rw [List.length_cons, wayT_len f out n]
theorem down_near {f : Flo} (g : Fine f) {out : List Int} (h : Far f.k.length (bvN f) (okN f) (· ∈ srcF f) (fun c => out.getD c (-1))) {c : Nat} (hc : c < f.k.length) (h0 : 0 < out.getD c (-1)) :
    downN f out c < f.k.length ∧ out.getD (downN f out c) (-1) = out.getD c (-1) - 1 ∧ ∃ d : Nat, d < 6 ∧ mvN f c d = some (downN f out c) := by
  unfold downN
  obtain ⟨p, d, hp, hd, hm, he⟩ := h.pos c hc h0
  have hmv := (mv_bv g (c := c) (d := d) (n := p)).2 hm
  cases hs : (List.range 6).findSome? (downF f out c) with
  | none =>
    exfalso
    have := (List.findSome?_eq_none_iff.1 hs) d (List.mem_range.2 hd)
    unfold downF at this
    rw [hmv] at this
    simp only at this
    rw [if_pos (by unfold nearB; rw [decide_eq_true (by omega), decide_eq_true he]; rfl)] at this
    cases this
  | some n =>
    obtain ⟨l1, d', l2, e1, e2, _⟩ := List.findSome?_eq_some_iff.1 hs
    have hd' : d' < 6 := List.mem_range.1 (by rw [e1]; simp)
    unfold downF at e2
    cases hq : mvN f c d' with
    | none => rw [hq] at e2; cases e2
    | some m =>
      rw [hq] at e2
      simp only at e2
      split at e2
      · rename_i hn
        cases e2
        unfold nearB at hn
        rw [Bool.and_eq_true, decide_eq_true_eq, decide_eq_true_eq] at hn
        exact ⟨mvN_lt g c d' _ hc hq, hn.2, d', hd', hq⟩
      · cases e2
abbrev dkA (l : List Nat) : List Value := l.map fun c : Nat => kI (c : Int)
abbrev dvA (out : List Int) (l : List Nat) : List AV := l.map fun c => AV.i (out.getD c (-1))
theorem dk_good (l : List Nat) : ∀ q, q ∈ dkA l → MapKept.IsKey (.int .i64) q := fun q hq => by
  obtain ⟨c, _, rfl⟩ := List.mem_map.1 hq; rfl
theorem dk_nd {l : List Nat} (h : l.Nodup) : (dkA l).Nodup := List.Pairwise.map _ (fun a b hab e => hab (by simp [kI] at e; omega)) h
theorem dk_no {l : List Nat} {x : Int} (h : ∀ c : Nat, (c : Int) = x → c ∉ l) : kI x ∉ dkA l := fun hm => by
  obtain ⟨c, hc, e⟩ := List.mem_map.1 hm
  simp [kI] at e
  exact h c e hc
theorem dk_at {l : List Nat} {out : List Int} {c : Nat} (h : c ∈ l) : ∃ i : Nat, (dkA l)[i]? = some (kI (c : Int)) ∧ (dvA out l)[i]? = some (AV.i (out.getD c (-1))) := by
  obtain ⟨i, hi⟩ := List.getElem?_of_mem h
  exact ⟨i, by simp [hi], by simp [hi]⟩
theorem dv_idf (out : List Int) (l : List Nat) : AV.idfL (dvA out l) = true := by
  induction l with
  | nil => rfl
  | cons c l ih => exact ih
theorem dv_view {h : Hp} (out : List Int) : ∀ l : List Nat, ViewL h (dvA out l) (dvA out l)
  | [] => .nil
  | _ :: l => .cons (.v _) (dv_view out l)
def kn (hist : List Nat) (x : Int) : Bool := decide (0 ≤ x ∧ x.toNat ∈ hist)
def dv (hist : List Nat) (out : List Int) (x : Int) : Int := if kn hist x = true then out.getD x.toNat (-1) else 0
section
variable {env : Env} {h : Hp} {d : Option Nat} {ty : TypeId} {pos : String} {af : Array Edge} {g : Option (Nat × Bool)} {x y : Operand} {k : Nat}
theorem fs_distO {hist : List Nat} {out : List Int} {c : Int} (hnd : hist.Nodup) (hx : evu env x = some (.mp k)) (hy : evu env y = some (.i c)) (hk : h[k]? = some (.mapO (dkA hist) (dvA out hist))) :
    FStep Tryz.prog ⟨d, .lookup 63 x y true, ty, pos, af, g⟩ env h 0 (fun _ => .tup [.i (dv hist out c), .b (kn hist c)]) (fun _ => []) := by
  unfold dv
  cases hq : kn hist c with
  | false =>
    rw [if_neg (by decide)]
    refine fs_mapMiss mapII intK zInt (fun _ _ _ => R_v_mk _) hx hy (isv_i _) hk (dk_good _) (good_i _) (dk_no fun c' e hm => ?_)
    unfold kn at hq
    exact (of_decide_eq_false hq) ⟨by omega, by rw [← e]; simpa using hm⟩
  | true =>
    rw [if_pos rfl]
    unfold kn at hq
    obtain ⟨h0, hm⟩ := of_decide_eq_true hq
    obtain ⟨i, hi1, hi2⟩ := dk_at (out := out) hm
    rw [Int.toNat_of_nonneg h0] at hi1
    exact fs_mapGet mapII intK hx hy (isv_i _) hk (dk_good _) (good_i _) (dk_nd hnd) hi1 hi2
theorem fs_distR {hist : List Nat} {out : List Int} {c : Int} (hnd : hist.Nodup) (hx : evu env x = some (.mrow (dkA hist) (dvA out hist))) (hy : evu env y = some (.i c)) :
    FStep Tryz.prog ⟨d, .lookup 63 x y true, ty, pos, af, g⟩ env h 0 (fun _ => .tup [.i (dv hist out c), .b (kn hist c)]) (fun _ => []) := by
  unfold dv
  cases hq : kn hist c with
  | false =>
    rw [if_neg (by decide)]
    refine fs_mapMissR (zA := .i 0) mapII intK zInt (fun _ _ _ => R_v_mk _) hx hy (isv_i _) (dk_good _) (good_i _) (dk_no fun c' e hm => ?_)
    unfold kn at hq
    exact (of_decide_eq_false hq) ⟨by omega, by rw [← e]; simpa using hm⟩
  | true =>
    rw [if_pos rfl]
    unfold kn at hq
    obtain ⟨h0, hm⟩ := of_decide_eq_true hq
    obtain ⟨i, hi1, hi2⟩ := dk_at (out := out) hm
    rw [Int.toNat_of_nonneg h0] at hi1
    exact fs_mapGetR mapII intK hx hy (isv_i _) (dk_good _) (good_i _) (dk_nd hnd) hi1 hi2 rfl
theorem fs_dkTO {hist : List Nat} {out : List Int} {c : Nat} (hnd : hist.Nodup) (hm : c ∈ hist) (hx : evu env x = some (.mp k)) (hy : evu env y = some (.i (c : Int))) (hk : h[k]? = some (.mapO (dkA hist) (dvA out hist))) :
    FStep Tryz.prog ⟨d, .lookup 63 x y true, ty, pos, af, g⟩ env h 0 (fun _ => .tup [.i (out.getD c (-1)), .b true]) (fun _ => []) := by
  obtain ⟨i, hi1, hi2⟩ := dk_at (out := out) hm
  exact fs_mapGet mapII intK hx hy (isv_i _) hk (dk_good _) (good_i _) (dk_nd hnd) hi1 hi2
theorem fs_dkFO {hist : List Nat} {out : List Int} {c : Int} (hm : kI c ∉ dkA hist) (hx : evu env x = some (.mp k)) (hy : evu env y = some (.i c)) (hk : h[k]? = some (.mapO (dkA hist) (dvA out hist))) :
    FStep Tryz.prog ⟨d, .lookup 63 x y true, ty, pos, af, g⟩ env h 0 (fun _ => .tup [.i 0, .b false]) (fun _ => []) :=
  fs_mapMiss mapII intK zInt (fun _ _ _ => R_v_mk _) hx hy (isv_i _) hk (dk_good _) (good_i _) hm
theorem fs_dkTR {hist : List Nat} {out : List Int} {c : Nat} (hnd : hist.Nodup) (hm : c ∈ hist) (hx : evu env x = some (.mrow (dkA hist) (dvA out hist))) (hy : evu env y = some (.i (c : Int))) :
    FStep Tryz.prog ⟨d, .lookup 63 x y true, ty, pos, af, g⟩ env h 0 (fun _ => .tup [.i (out.getD c (-1)), .b true]) (fun _ => []) := by
  obtain ⟨i, hi1, hi2⟩ := dk_at (out := out) hm
  exact fs_mapGetR mapII intK hx hy (isv_i _) (dk_good _) (good_i _) (dk_nd hnd) hi1 hi2 rfl
theorem fs_dkFR {hist : List Nat} {out : List Int} {c : Int} (hm : kI c ∉ dkA hist) (hx : evu env x = some (.mrow (dkA hist) (dvA out hist))) (hy : evu env y = some (.i c)) :
    FStep Tryz.prog ⟨d, .lookup 63 x y true, ty, pos, af, g⟩ env h 0 (fun _ => .tup [.i 0, .b false]) (fun _ => []) :=
  fs_mapMissR (zA := .i 0) mapII intK zInt (fun _ _ _ => R_v_mk _) hx hy (isv_i _) (dk_good _) (good_i _) hm
theorem fs_dist1O {hist : List Nat} {out : List Int} {c : Nat} (hnd : hist.Nodup) (hm : c ∈ hist) (hx : evu env x = some (.mp k)) (hy : evu env y = some (.i (c : Int))) (hk : h[k]? = some (.mapO (dkA hist) (dvA out hist))) :
    FStep Tryz.prog ⟨d, .lookup 63 x y false, ty, pos, af, g⟩ env h 0 (fun _ => .i (out.getD c (-1))) (fun _ => []) := by
  obtain ⟨i, hi1, hi2⟩ := dk_at (out := out) hm
  exact fs_mapGet1 mapII intK hx hy (isv_i _) hk (dk_good _) (good_i _) (dk_nd hnd) hi1 hi2
theorem fs_dist1R {hist : List Nat} {out : List Int} {c : Nat} (hnd : hist.Nodup) (hm : c ∈ hist) (hx : evu env x = some (.mrow (dkA hist) (dvA out hist))) (hy : evu env y = some (.i (c : Int))) :
    FStep Tryz.prog ⟨d, .lookup 63 x y false, ty, pos, af, g⟩ env h 0 (fun _ => .i (out.getD c (-1))) (fun _ => []) := by
  obtain ⟨i, hi1, hi2⟩ := dk_at (out := out) hm
  exact fs_mapGet1R mapII intK hx hy (isv_i _) (dk_good _) (good_i _) (dk_nd hnd) hi1 hi2 rfl
end
theorem findSome_none {α : Type} {F : Nat → Option α} {n : Nat} (h : ∀ i, i < n → F i = none) : (List.range n).findSome? F = none :=
  List.findSome?_eq_none_iff.2 fun i hi => h i (List.mem_range.1 hi)
theorem findSome_first {α : Type} {F : Nat → Option α} {n i : Nat} {a : α} (hi : i < n) (h : ∀ j, j < i → F j = none) (ha : F i = some a) : (List.range n).findSome? F = some a := by
  induction n with
  | zero => omega
  | succ n ih =>
    rw [List.range_succ, List.findSome?_append]
    by_cases q : i < n
    · rw [ih q]; rfl
    · obtain rfl : i = n := by omega
      rw [findSome_none h]; simp [ha]
theorem down_c (s : Sit) (g : Fine s.fl) {hist : List Nat} {out : List Int} (hnd : hist.Nodup) (hmem : ∀ c, c < s.fl.k.length → (c ∈ hist ↔ 0 ≤ out.getD c (-1))) (hle : ∀ c, c < s.fl.k.length → out.getD c (-1) ≤ s.fl.k.length) {c : Nat} (hc : c < s.fl.k.length) (hcm : c ∈ hist) :
    ACall Tryz.prog 59 [.agg (sitA s), .mrow (dkA hist) (dvA out hist), .i (c : Int)] [] (.i (downN s.fl out c : Int)) [] := by
  have hN := g.le
  have h0 := (hmem c hc).1 hcm
  have h1 := hle c hc
  refine acall T Tryz.func59 rfl rfl rfl rfl ?_
  repeat' (first|refine wS ?_|refine wB ?_|(refine rg 0 ?_;refine vc_n (by exact fs_box rfl rfl) rfl ?_;refine aV ?_)|(refine rg 1 ?_;refine mV ?_)|refine nZ ?_)
  refine aw_loop (X := {j : Nat // j ≤ 6 ∧ ∀ i, i < j → downF s.fl out c i = none}) (fun j => [(1, .mrow (dkA hist) (dvA out hist)), (2, .i (c : Int)), (3, .ptr 0 0), (12, .i (j.1 : Int))]) (fun _ => [.cells (sitA s)]) (fun j => 6 - j.1) ⟨0, by omega, fun i hi => by omega⟩ ⟨[0], rfl, ⟨rfl, rfl, rfl, rfl, trivial⟩, ⟨.inr rfl, trivial⟩, by decide, fun _ hi => absurd hi (Nat.not_lt_zero _)⟩ ?_
  rintro ⟨j, hj, hno⟩
  dsimp only
  by_cases hlt : j < 6
  · have cn := next_n g c j
    have next : downF s.fl out c j = none → ∀ i, i < j + 1 → downF s.fl out c i = none := fun h i hi => by
      by_cases q : i = j
      · rw [q]; exact h
      · exact hno i (by omega)
    cases hm : mvN s.fl c j with
    | none =>
      rw [hm] at cn
      have hn := next (by unfold downF; rw [hm])
      repeat' (first|refine wS ?_|refine wB ?_|refine wK ?_|refine wT ?_|refine wU ?_|(refine rg 2 ?_;refine vV (by exact fs_lssT rfl rfl (by omega)) ?_)|(refine rg 3 ?_;refine mV ?_;refine aV ?_)|(refine rg 4 ?_;refine fV T ?_;refine lV T ?_;refine mV ?_;refine mV ?_;refine vV (by exact kC (cn)) ?_;refine mV ?_;refine xV ?_;refine xV ?_;refine aV ?_;refine aV ?_)|(refine rg 5 ?_;refine mV ?_;refine mV ?_;refine vV (by exact fs_distR hnd rfl rfl) ?_;refine mV ?_;refine xV ?_;refine xV ?_;refine aV ?_;refine aV ?_)|(refine rg 6 ?_;(all_goals (refine mV ?_;refine mV ?_));(all_goals (refine gK ?_));(all_goals (refine gF ?_));(all_goals ((refine pV ?_);refine mV ?_));(all_goals (refine gK ?_));(all_goals (iterate 6 refine gF ?_));(all_goals (refine pV ?_)))|(refine rg 8 ?_;refine vV (by exact fs_addr rfl rfl (by omega) (by omega)) ?_;refine mV ?_)|refine nZ ?_)
      all_goals exact ⟨⟨j + 1, hlt, hn⟩, by dsimp only; omega, [0], rfl, ⟨rfl, rfl, rfl, rfl, trivial⟩, ⟨.inr rfl, trivial⟩, by decide, fun _ hi => absurd hi (Nat.not_lt_zero _)⟩
    | some n =>
      rw [hm] at cn
      have hn := mvN_lt g c j n hc hm
      by_cases hkn : kn hist (n : Int) = true
      · have hnm : n ∈ hist := by unfold kn at hkn; simpa using (of_decide_eq_true hkn).2
        have hn0 := (hmem n hn).1 hnm
        have hdv : dv hist out (n : Int) = out.getD n (-1) := by unfold dv; rw [if_pos hkn]; rfl
        by_cases he : out.getD n (-1) = out.getD c (-1) - 1
        · have hq : downF s.fl out c j = some n := by unfold downF; rw [hm]; simp only; rw [if_pos (by unfold nearB; rw [decide_eq_true hn0, decide_eq_true he]; rfl)]
          have hr : downN s.fl out c = n := by unfold downN; rw [findSome_first hlt hno hq]; rfl
          rw [hr]
          repeat' (first|refine wS ?_|refine wB ?_|refine wK ?_|refine wR ?_|refine wT ?_|(refine rg 2 ?_;refine vV (by exact fs_lssT rfl rfl (by omega)) ?_)|(refine rg 3 ?_;refine mV ?_;refine aV ?_)|(refine rg 4 ?_;refine fV T ?_;refine lV T ?_;refine mV ?_;refine mV ?_;refine vV (by exact kC (cn)) ?_;refine mV ?_;refine xV ?_;refine xV ?_;refine aV ?_;refine aV ?_)|(refine rg 5 ?_;refine mV ?_;refine mV ?_;refine vV (by exact fs_dkTR (c := n) hnd hnm rfl rfl) ?_;refine mV ?_;refine xV ?_;refine xV ?_;refine aV ?_;refine aV ?_)|(refine rg 6 ?_;(all_goals (refine mV ?_;refine mV ?_));(all_goals (refine gK ?_));(all_goals (refine gT ?_;(refine mV ?_)));(all_goals ((refine pV ?_);refine mV ?_));(all_goals (refine gK ?_));(all_goals (refine gT ?_;(refine mV ?_);refine gT ?_;(refine mV ?_);refine gT ?_;(refine mV ?_);refine gT ?_;(refine vV (by exact fs_dist1R hnd hcm rfl rfl) ?_);refine gT ?_;(refine vV (by exact fs_subr rfl rfl (by omega) (by omega)) ?_);refine gT ?_;(refine vV (by exact fs_eqlT rfl rfl (by omega)) ?_)));(all_goals (refine pV ?_)))|(refine rg 7 ?_;refine mV ?_;refine aV ?_)|refine nZ ?_)
          all_goals first | (exfalso; omega) | exact ret_plain (.inl rfl) rfl rfl
        · have hn := next (by unfold downF; rw [hm]; simp only; rw [if_neg (by unfold nearB; rw [decide_eq_false he, Bool.and_false]; decide)])
          repeat' (first|refine wS ?_|refine wB ?_|refine wK ?_|refine wT ?_|refine wU ?_|(refine rg 2 ?_;refine vV (by exact fs_lssT rfl rfl (by omega)) ?_)|(refine rg 3 ?_;refine mV ?_;refine aV ?_)|(refine rg 4 ?_;refine fV T ?_;refine lV T ?_;refine mV ?_;refine mV ?_;refine vV (by exact kC (cn)) ?_;refine mV ?_;refine xV ?_;refine xV ?_;refine aV ?_;refine aV ?_)|(refine rg 5 ?_;refine mV ?_;refine mV ?_;refine vV (by exact fs_dkTR (c := n) hnd hnm rfl rfl) ?_;refine mV ?_;refine xV ?_;refine xV ?_;refine aV ?_;refine aV ?_)|(refine rg 6 ?_;(all_goals (refine mV ?_;refine mV ?_));(all_goals (refine gK ?_));(all_goals (refine gT ?_;(refine mV ?_)));(all_goals ((refine pV ?_);refine mV ?_));(all_goals (refine gK ?_));(all_goals (refine gT ?_;(refine mV ?_);refine gT ?_;(refine mV ?_);refine gT ?_;(refine mV ?_);refine gT ?_;(refine vV (by exact fs_dist1R hnd hcm rfl rfl) ?_);refine gT ?_;(refine vV (by exact fs_subr rfl rfl (by omega) (by omega)) ?_);refine gT ?_;(refine vV (by exact fs_eqlF rfl rfl (by omega)) ?_)));(all_goals (refine pV ?_)))|(refine rg 8 ?_;refine vV (by exact fs_addr rfl rfl (by omega) (by omega)) ?_;refine mV ?_)|refine nZ ?_)
          all_goals first | (exfalso; omega) | exact ⟨⟨j + 1, hlt, hn⟩, by dsimp only; omega, [0], rfl, ⟨rfl, rfl, rfl, rfl, trivial⟩, ⟨.inr rfl, trivial⟩, by decide, fun _ hi => absurd hi (Nat.not_lt_zero _)⟩
      · have hkn : kn hist (n : Int) = false := by simpa using hkn
        have hnm : n ∉ hist := by unfold kn at hkn; simpa using of_decide_eq_false hkn
        have hni : kI (n : Int) ∉ dkA hist := dk_no fun c' e hm' => hnm (by rw [show n = c' by omega]; exact hm')
        have hn := next (by unfold downF; rw [hm]; simp only; rw [if_neg (by unfold nearB; rw [decide_eq_false (fun q => hnm ((hmem n hn).2 q)), Bool.false_and]; decide)])
        repeat' (first|refine wS ?_|refine wB ?_|refine wK ?_|refine wT ?_|refine wU ?_|(refine rg 2 ?_;refine vV (by exact fs_lssT rfl rfl (by omega)) ?_)|(refine rg 3 ?_;refine mV ?_;refine aV ?_)|(refine rg 4 ?_;refine fV T ?_;refine lV T ?_;refine mV ?_;refine mV ?_;refine vV (by exact kC (cn)) ?_;refine mV ?_;refine xV ?_;refine xV ?_;refine aV ?_;refine aV ?_)|(refine rg 5 ?_;refine mV ?_;refine mV ?_;refine vV (by exact fs_dkFR (c := (n : Int)) hni rfl rfl) ?_;refine mV ?_;refine xV ?_;refine xV ?_;refine aV ?_;refine aV ?_)|(refine rg 6 ?_;(all_goals (refine mV ?_;refine mV ?_));(all_goals (refine gK ?_));(all_goals (refine gT ?_;(refine mV ?_)));(all_goals ((refine pV ?_);refine mV ?_));(all_goals (refine gK ?_));(all_goals (iterate 6 refine gF ?_));(all_goals (refine pV ?_)))|(refine rg 8 ?_;refine vV (by exact fs_addr rfl rfl (by omega) (by omega)) ?_;refine mV ?_)|refine nZ ?_)
        all_goals first | (exfalso; omega) | exact ⟨⟨j + 1, hlt, hn⟩, by dsimp only; omega, [0], rfl, ⟨rfl, rfl, rfl, rfl, trivial⟩, ⟨.inr rfl, trivial⟩, by decide, fun _ hi => absurd hi (Nat.not_lt_zero _)⟩
  · obtain rfl : j = 6 := by omega
    have hr : downN s.fl out c = c := by unfold downN; rw [findSome_none hno]; rfl
    rw [hr]
    repeat' (first|refine wS ?_|refine wR ?_|refine wE ?_|refine wU ?_|(refine rg 2 ?_;refine vV (by exact fs_lssF rfl rfl (by omega)) ?_)|(refine rg 9 ?_;refine mV ?_;refine aV ?_)|refine nZ ?_)
    all_goals first | (exfalso; omega) | exact ret_plain (.inl rfl) rfl rfl
end Go.Proofs.YtjpcpbbkelgkeaaGreatDoor
namespace Go.Proofs.YtjpcpbbkelgkeaaGreatDoor
open Go Go.Ab Go.Fl Go.Re Go.Ln
set_option maxHeartbeats 4000000
def wkB (f : Flo) (c : Nat) : Bool := decide (f.k.getD c 0 = 4) || decide (f.k.getD c 0 = 5)
theorem mem_walk {f : Flo} {x : Int} : x ∈ walkP f ↔ 0 ≤ x ∧ x < f.k.length ∧ wkB f x.toNat = true := by
  unfold walkP wkB
  rw [mem_union (ofK_asc _ _ _) (ofK_asc _ _ _)]
  simp only [mem_ofK, Bool.or_eq_true, decide_eq_true_eq]
  omega
theorem src_iff {f : Flo} {c : Nat} : c ∈ srcF f ↔ c < f.k.length ∧ f.k.getD c 0 ≠ 0 ∧ wkB f c = false := by
  unfold srcF
  rw [mem_srcK]
  unfold srcB
  simp only [Bool.and_eq_true, decide_eq_true_eq, Bool.not_eq_true', decide_eq_false_iff_not, mem_walk, Int.toNat_natCast]
  constructor
  · rintro ⟨h1, h2, h3⟩
    exact ⟨h1, h2, by cases h : wkB f c with | false => rfl | true => exact absurd ⟨by omega, by omega, h⟩ h3⟩
  · rintro ⟨h1, h2, h3⟩
    exact ⟨h1, h2, fun h => by rw [h3] at h; exact absurd h.2.2 (by decide)⟩
def offR (f : Flo) (c : Int) : List Int := if c ∈ walkP f ∧ 0 ≤ offD f c.toNat then offW f c.toNat else []
theorem offW_len (f : Flo) (c : Nat) : (offW f c).length = (offD f c).toNat + 1 := by unfold offW; rw [List.length_cons, wayT_len]
end Go.Proofs.YtjpcpbbkelgkeaaGreatDoor
namespace Go.Fl
end Go.Fl
namespace Go.Proofs.YtjpcpbbkelgkeaaGreatDoor
open Go Go.Ab Go.Fl Go.Re Go.Ln
set_option maxHeartbeats 4000000
theorem fromH_inv {N : Nat} {mv : MV} {ok : Nat → Bool} : ∀ (k : Nat) (l : List Nat), l.length = k → (∀ c, c ∈ l → c < N) → HInv N (fromH l (startH N ok)) := by
  intro k
  induction k with
  | zero =>
    intro l h _
    obtain rfl : l = [] := List.eq_nil_of_length_eq_zero h
    refine ⟨List.nodup_nil, (fun c hc => by cases hc), fun c hc => ?_⟩
    show c ∈ ([] : List Nat) ↔ 0 ≤ (List.replicate N (-1 : Int)).getD c (-1)
    simp [List.getD_eq_getElem?_getD, List.getElem?_replicate, hc]
  | succ k ih =>
    intro l h hl
    obtain ⟨l', c, rfl⟩ : ∃ l' c, l = l' ++ [c] := ⟨l.dropLast, l.getLast (by intro e; rw [e] at h; cases h), (List.dropLast_concat_getLast _).symm⟩
    rw [fromH_snoc]
    have hl' : ∀ x, x ∈ l' → x < N := fun x hx => hl x (by simp [hx])
    have h1 := ih l' (by simpa using h) hl'
    obtain ⟨s1, _, _⟩ := start_srch (N := N) (mv := mv) (ok := ok) l' hl'
    have e : (fromH l' (startH N ok)).1 = fromM l' (startS N ok) := fromH_1 _ _
    have hc := hl c (by simp)
    exact h1.reach hc (by rw [e]; exact s1.inv.lu) (Int.le_refl _) (fun ho => by rw [e] at ho ⊢; exact ((s1.inv.opn c hc).1 ho).2)
theorem from_list {N : Nat} {mv : MV} {ok : Nat → Bool} : ∀ (k : Nat) (l : List Nat), l.length = k → (∀ c, c ∈ l → c < N ∧ ok c = true) → l.Nodup → (fromH l (startH N ok)).2 = l ∧ (fromH l (startH N ok)).1.q = l := by
  intro k
  induction k with
  | zero =>
    intro l h _ _
    obtain rfl : l = [] := List.eq_nil_of_length_eq_zero h
    exact ⟨rfl, rfl⟩
  | succ k ih =>
    intro l h hl hnd
    obtain ⟨l', c, rfl⟩ : ∃ l' c, l = l' ++ [c] := ⟨l.dropLast, l.getLast (by intro e; rw [e] at h; cases h), (List.dropLast_concat_getLast _).symm⟩
    rw [fromH_snoc]
    have hl' : ∀ x, x ∈ l' → x < N := fun x hx => (hl x (by simp [hx])).1
    rw [List.nodup_append] at hnd
    obtain ⟨h1, h2⟩ := ih l' (by simpa using h) (fun x hx => hl x (by simp [hx])) hnd.1
    have hi := fromH_inv (N := N) (mv := mv) (ok := ok) _ l' rfl hl'
    obtain ⟨s1, _, _⟩ := start_srch (N := N) (mv := mv) (ok := ok) l' hl'
    have e : (fromH l' (startH N ok)).1 = fromM l' (startS N ok) := fromH_1 _ _
    have hc := hl c (by simp)
    have hno : c ∉ (fromH l' (startH N ok)).2 := by rw [h1]; exact fun hm => hnd.2.2 c hm c (by simp) rfl
    have hop : (fromH l' (startH N ok)).1.op.getD c false = true := by
      rw [e]
      refine (s1.inv.opn c hc.1).2 ⟨hc.2, ?_⟩
      have := mt (hi.mem c hc.1).2 hno
      rw [e] at this; omega
    unfold reachH
    rw [if_pos hop, h1]
    exact ⟨rfl, by simp only; rw [h2]⟩
theorem from_zero {N : Nat} {mv : MV} {ok : Nat → Bool} {l : List Nat} (hl : ∀ c, c ∈ l → c < N ∧ ok c = true) (hnd : l.Nodup) : ∀ c, c ∈ l → (fromH l (startH N ok)).1.out.getD c (-1) = 0 := fun c hc => by
  obtain ⟨s1, _, _⟩ := start_srch (N := N) (mv := mv) (ok := ok) l (fun x hx => (hl x hx).1)
  have e : (fromH l (startH N ok)).1 = fromM l (startS N ok) := fromH_1 _ _
  rw [e]
  exact s1.all c (hl c hc).1 (hl c hc).2 hc
abbrev z0 (l : List Nat) : List AV := l.map fun _ => AV.i 0
theorem z0_dv {l : List Nat} {out : List Int} (h : ∀ c, c ∈ l → out.getD c (-1) = 0) : dvA out l = z0 l := by
  refine List.map_congr_left fun c hc => ?_
  rw [h c hc]
theorem srcK_nd (f : Flo) (W : List Int) (n : Nat) : (srcK f W n).Nodup := List.nodup_range.filter _
theorem srcK_len (f : Flo) (W : List Int) (n : Nat) : (srcK f W n).length ≤ n := by
  unfold srcK
  exact Nat.le_trans (List.length_filter_le _ _) (by simp)
theorem z0_idf : ∀ l : List Nat, AV.idfL (z0 l) = true
  | [] => rfl
  | _ :: l => z0_idf l
theorem dv_snoc {out : List Int} {n : Nat} {v : Int} {hist : List Nat} (hn : n ∉ hist) (hl : n < out.length) : dvA out hist ++ [AV.i v] = dvA (out.set n v) (hist ++ [n]) := by
  rw [dvA, dvA, List.map_append]
  congr 1
  · refine List.map_congr_left fun c hc => ?_
    rw [getD_set, if_neg (fun q => hn (by rw [q.1]; exact hc))]
  · rw [List.map_cons, List.map_nil, getD_set, if_pos ⟨rfl, hl⟩]
theorem dk_snoc {n : Nat} {hist : List Nat} : dkA hist ++ [kI (n : Int)] = dkA (hist ++ [n]) := by simp
end Go.Proofs.YtjpcpbbkelgkeaaGreatDoor
namespace Go.Ln
def tickL (w : List Int) : Int → List Int → Int
  | n, [] => n
  | n, c :: r => if 0 ≤ c ∧ c < w.length ∧ w.getD c.toNat (-1) ≠ -1 then tickL w (max n (w.getD c.toNat (-1))) r else -1
def tickP (w l : List Int) : Int := tickL w 0 (l.drop 1)
abbrev LaneT := Int × List Int × List Int
def reqA (x : LaneT) (b : Int) (w : List Int) : Int × Int × Int :=
  if tickP w x.2.1 < 0 ∧ tickP w x.2.2 < 0 then (0, 0, 14)
  else if tickP w x.2.1 < 0 ∨ (0 ≤ tickP w x.2.2 ∧ tickP w x.2.2 < tickP w x.2.1) then (if b < tickP w x.2.2 then (1, tickP w x.2.2, 20) else (1, tickP w x.2.2, 0))
  else (if b < tickP w x.2.1 then (0, tickP w x.2.1, 20) else (0, tickP w x.2.1, 0))
def reqP (l : List LaneT) (b c : Int) (w : List Int) : Int × Int × Int := match l.find? (fun x => decide (x.1 = c)) with
  | none => (0, 0, 4)
  | some x => reqA x b w
theorem tick_cons {w : List Int} {n c : Int} {r : List Int} : tickL w n (c :: r) = if 0 ≤ c ∧ c < w.length ∧ w.getD c.toNat (-1) ≠ -1 then tickL w (max n (w.getD c.toNat (-1))) r else -1 := rfl
theorem tick_ge {w : List Int} : ∀ {t : List Int} {n : Int}, -1 ≤ n → -1 ≤ tickL w n t
  | [], n, h => h
  | c :: r, n, h => by
    rw [tick_cons]
    split
    · exact tick_ge (by omega)
    · omega
end Go.Ln
namespace Go.Ln
theorem Lst.mem {g : Net} {Te : List Edge} : ∀ {l : List Int} {c x : Int}, Lst g Te c l → x ∈ c :: l → x = g.st ∨ ∃ p, (p, x) ∈ Te
  | [], c, x, h, hx => by simp at hx; subst hx; exact .inl h
  | p :: l, c, x, h, hx => by
    rcases List.mem_cons.1 hx with rfl | hx
    · exact .inr ⟨p, h.2.1⟩
    · exact Lst.mem h.2.2 hx
end Go.Ln
namespace Go.Proofs.YtjpcpbbkelgkeaaGreatDoor
open Go Go.Ab Go.Fl Go.Re Go.Ln Go.MapKept Go.Shelf
attribute [local irreducible] VC AW FStep ACall PCall NodeT
set_option maxHeartbeats 4000000
shelf_lay Lays.n112 Nm 112 at Tryz as laysReverse
theorem reverse_c (l : List Int) (hl : l.length ≤ 1000000) : ACall Tryz.prog 56 [.sl 0 0 l.length 1] [.arr (ints l) 1] (.tup []) [.arr (ints l.reverse) 1] :=
  acall_reverse ⟨_, Tryz.func56, by kernel_rfl, by kernel_rfl⟩ (fun blk off cap zs w h1 h2 => Any.slices_Reverse_int laysReverse blk off cap zs w h1 h2) (fun p cap w => Any.slices_Reverse_int_empty laysReverse p cap w) l [] (by simpa using hl) rfl
def rwI (w : List (List Int)) : List (List AV) := w.map fun c => [AV.rowE (ints c) 1]
theorem rwI_len (w : List (List Int)) : ∀ e, e ∈ rwI w → e.length = 1 := by
  intro e he
  obtain ⟨c, _, rfl⟩ := List.mem_map.1 he
  rfl
theorem rwI_length (w : List (List Int)) : (rwI w).length = w.length := by simp [rwI]
theorem rwI_snoc (w : List (List Int)) (c : List Int) : rwI w ++ [[AV.rowE (ints c) 1]] = rwI (w ++ [c]) := by simp [rwI]
theorem rwI_idfs (w : List (List Int)) : ∀ e, e ∈ rwI w → AV.idfL e = true := by
  intro e he
  obtain ⟨c, _, rfl⟩ := List.mem_map.1 he
  simp only [AV.idfL, AV.idf, Bool.and_true]
theorem sub_rwI {h : Hp} {i : Nat} {θ : Nat → Nat} {es : List (List AV)} {w : List (List Int)} (hk : h[i]? = some (.arr es 1)) (e : es = rwI w) : h[i]? = some ((AB.arr (rwI w) 1).map θ) := by
  rw [hk, e]
  exact (congrArg (fun x => some (AB.arr x 1)) (mapL_idfs θ (rwI_idfs w))).symm
theorem rw_next {w : List (List Int)} {c : List Int} {k : Nat} (hk : k = w.length) : (((rwI w).drop 0).take k ++ [[AV.rowE (ints c) 1]]) = rwI (w ++ [c]) := by
  rw [List.drop_zero, List.take_of_length_le (by rw [rwI_length]; omega), rwI_snoc]
theorem flow_len {s : Sit} {W : List Int} {st : Int} {k : Nat} {Te : List LEdge} (h : Flow (netP s W st) k Te) : Te.length ≤ W.length := by
  have h1 : (Te.map (·.2)).Nodup := nodup_mapOn h.nd fun x y hx hy e => by
    obtain ⟨a, b⟩ := x; obtain ⟨a', b'⟩ := y
    simp only at e; subst e
    have := inT_uniq h.nd (h.le1 b) hx hy
    subst this; rfl
  have := nodup_sub h1 (m := W) fun x hx => by
    obtain ⟨e, he, rfl⟩ := List.mem_map.1 hx
    exact (mem_stepP.1 (h.val e he).1).1
  simpa using this
theorem flow_W {s : Sit} {W : List Int} {st : Int} {k : Nat} {Te : List LEdge} (h : Flow (netP s W st) k Te) {e : LEdge} (he : e ∈ Te) : e.2 ∈ W ∧ (e.1 ∈ W ∨ e.1 = st) := by
  refine ⟨(mem_stepP.1 (h.val e he).1).1, ?_⟩
  by_cases q : e.1 = st
  · exact .inr q
  · left
    have hx := (h.val e he).2.2
    have h0 : 0 < inT Te e.1 := by rw [← h.bal e.1 q hx]; exact outT_pos.2 ⟨e.2, he⟩
    obtain ⟨p, hp⟩ := inT_pos.1 h0
    exact (mem_stepP.1 (h.val _ hp).1).1
theorem lst_len {s : Sit} {W : List Int} {st : Int} {k : Nat} {Te : List LEdge} (h : Flow (netP s W st) k Te) {c : Int} {l : List Int} (hl : Lst (netP s W st) Te c l) : (c :: l).length ≤ W.length + 1 := by
  have := nodup_sub (hl.nodup h) (m := st :: W) fun x hx => by
    rcases hl.mem hx with e | ⟨p, hp⟩
    · rw [e]; exact List.mem_cons_self
    · exact .tail _ (flow_W h hp).1
  simpa using this
def edD (Te : List LEdge) (d : List Nat) : List LEdge := d.filterMap fun i => Te[i]?
theorem edD_snoc {Te : List LEdge} {d : List Nat} {i : Nat} {e : LEdge} (h : Te[i]? = some e) : edD Te (d ++ [i]) = edD Te d ++ [e] := by
  unfold edD; rw [List.filterMap_append]; simp [h]
theorem edD_len (Te : List LEdge) (d : List Nat) : (edD Te d).length ≤ d.length := List.length_filterMap_le _ _
theorem edD_all {Te : List LEdge} {d : List Nat} (hd : d.Nodup) (hlt : ∀ i, i ∈ d → i < Te.length) (hall : ∀ i, i < Te.length → i ∈ d) : (edD Te d).Perm Te := by
  have hp : d.Perm (List.range Te.length) := (List.perm_ext_iff_of_nodup hd List.nodup_range).2 fun i => by
    rw [List.mem_range]; exact ⟨hlt i, hall i⟩
  have h1 := hp.filterMap fun i => Te[i]?
  have h2 : (List.range Te.length).filterMap (fun i => Te[i]?) = Te := by
    have key : ∀ n, n ≤ Te.length → (List.range n).filterMap (fun i => Te[i]?) = Te.take n := by
      intro n
      induction n with
      | zero => intro _; simp
      | succ n ih =>
        intro hn
        rw [List.range_succ, List.filterMap_append, ih (by omega), List.take_succ_eq_append_getElem (by omega : n < Te.length)]
        simp [List.getElem?_eq_getElem (by omega : n < Te.length)]
    rw [key _ (Nat.le_refl _), List.take_length]
  rw [h2] at h1
  exact h1
def endD (s : Sit) (Te : List LEdge) (d : List Nat) : List Int := ((edD Te d).filter fun e => exB s.fl e.2).map (·.2)
theorem endD_snoc {s : Sit} {Te : List LEdge} {d : List Nat} {i : Nat} {a c : Int} (h : Te[i]? = some (a, c)) : endD s Te (d ++ [i]) = if exB s.fl c = true then endD s Te d ++ [c] else endD s Te d := by
  unfold endD
  rw [edD_snoc h, List.filter_append, List.map_append]
  by_cases q : exB s.fl c = true
  · rw [if_pos q, List.filter_cons, if_pos (by simpa using q)]; rfl
  · rw [if_neg q, List.filter_cons, if_neg (by simpa using q)]; simp
theorem endD_len (s : Sit) (Te : List LEdge) (d : List Nat) : (endD s Te d).length ≤ d.length := by
  unfold endD
  rw [List.length_map]
  exact Nat.le_trans (List.length_filter_le _ _) (edD_len Te d)
structure EndsOk (s : Sit) (W : List Int) (st : Int) (k : Nat) (Te : List LEdge) (es : List Int) : Prop where
  nd : es.Nodup
  len : es.length = k
  ok : ∀ e, e ∈ es → exB s.fl e = true ∧ ∃ p, (p, e) ∈ Te
theorem ends_ok {s : Sit} {W : List Int} {st : Int} {k : Nat} {Te : List LEdge} (h : Flow (netP s W st) k Te) {d : List Nat} (hd : d.Nodup) (hlt : ∀ i, i ∈ d → i < Te.length) (hall : ∀ i, i < Te.length → i ∈ d) : EndsOk s W st k Te (sorted (endD s Te d)) := by
  have hp := edD_all hd hlt hall
  have hs : (sorted (endD s Te d)).Perm (endD s Te d) := List.mergeSort_perm _ _
  refine ⟨hs.nodup_iff.2 ?_, ?_, fun e he => ?_⟩
  · unfold endD
    refine nodup_mapOn ((hp.nodup_iff.2 h.nd).filter _) fun x y hx hy e => ?_
    have hx := hp.mem_iff.1 (List.mem_filter.1 hx).1
    have hy := hp.mem_iff.1 (List.mem_filter.1 hy).1
    obtain ⟨a, b⟩ := x; obtain ⟨a', b'⟩ := y
    simp only at e; subst e
    have := inT_uniq h.nd (h.le1 b) hx hy
    subst this; rfl
  · rw [hs.length_eq]
    unfold endD
    rw [List.length_map, ← List.countP_eq_length_filter, hp.countP_eq]
    exact h.ends
  · have he := hs.mem_iff.1 he
    unfold endD at he
    obtain ⟨x, hx, rfl⟩ := List.mem_map.1 he
    obtain ⟨h1, h2⟩ := List.mem_filter.1 hx
    exact ⟨h2, x.1, hp.mem_iff.1 h1⟩
structure WaysOk (s : Sit) (W : List Int) (st : Int) (k : Nat) (Te : List LEdge) (es : List Int) (bF : Int → List Int) : Prop where
  nd : es.Nodup
  len : es.length = k
  ok : ∀ e, e ∈ es → exB s.fl e = true ∧ Lst (netP s W st) Te e (bF e)
theorem ways_ok {s : Sit} {W : List Int} {st : Int} {k : Nat} {Te : List LEdge} {es : List Int} (g : Fine s.fl) (h : Flow (netP s W st) k Te) (he : EndsOk s W st k Te es) : ∃ bF, WaysOk s W st k Te es bF := by
  classical
  refine ⟨fun e => if h : ∃ b, Lst (netP s W st) Te e b then Classical.choose h else [], he.nd, he.len, fun e hm => ?_⟩
  obtain ⟨h1, p, hp⟩ := he.ok e hm
  have hb := h.back (stepP_ne g W) h1 hp
  exact ⟨h1, by rw [dif_pos hb]; exact Classical.choose_spec hb⟩
def wayR (bF : Int → List Int) (e : Int) : List Int := (e :: bF e).reverse
theorem lt48 : ∀ i : Nat, i < 3 → ([0, 1, 2, 4] : List Nat)[i]? = some i := by decide
theorem lt49 : ∀ i : Nat, i < 3 → ([0, 1, 2, 3, 7] : List Nat)[i]? = some i := by decide
theorem lt4a : ∀ i : Nat, i < 3 → ([0, 1, 2, 3, 4, 7] : List Nat)[i]? = some i := by decide
theorem lt45 : ∀ i : Nat, i < 3 → ([0, 1, 2, 3, 4] : List Nat)[i]? = some i := by decide
theorem lt46 : ∀ i : Nat, i < 3 → ([0, 1, 2, 7, 4] : List Nat)[i]? = some i := by decide
theorem lt47 : ∀ i : Nat, i < 3 → ([0, 1, 2, 3, 5] : List Nat)[i]? = some i := by decide
theorem ways_p (s : Sit) (g : Fine s.fl) (W : List Int) (hWl : W.length ≤ 100000) (hWr : ∀ x, x ∈ W → 0 ≤ x ∧ x < s.fl.k.length) (st : Int) {k : Nat} {Te : List LEdge} {U : List (Int × Int)} (hF : Flow (netP s W st) k Te) (hU : PrevOk Te (prevF U)) (hUn : (pkA U).Nodup) :
    PCall Tryz.prog 38 [.ptr 0 0] (nwH s W st Te U) (fun r o => ∃ es bF, WaysOk s W st k Te es bF ∧ r = .sl 3 0 es.length 1 ∧ o = [.cells (netA s W st (.mp 1) (.mp 2)), .mapO (Te.map kE) (trA Te), .mapO (pkA U) (pvA U), .arr (rwI (es.map (wayR bF))) 1]) := by
  have hTl := flow_len hF
  refine pcall T Tryz.func38 rfl rfl rfl rfl ?_
  repeat' (first|refine wS ?_|(refine rg 0 ?_;refine aV ?_)|(refine rg 1 ?_;refine aV ?_)|refine nZ ?_)
  refine aw_own 3 1 rfl (by decide) ?_
  refine aw_mapOpen 1 rfl fun bs ck hb1' hb2' hb3' hb4' => ?_
  dsimp only [ln1, ln2, List.append_nil, ln4, ln5, ln6, ln7, ln8, ln9, putAt, putd, allObjs, argEnv, un_v, un_ptr, un_ep, un_pr, un_sl, un_mp, un_row, un_agg, un_tup, un_clo, Nat.zero_add, lnb, Nat.reduceAdd, lnc, lnd]
  have hbl : bs.length = Te.length := by rw [hb1']; simp
  repeat' (first|refine wB ?_|(refine rg 2 ?_;(all_goals (refine mV ?_;refine nV ?_;refine fV T ?_;refine lV T ?_));(all_goals (refine vc_n (by exact fs_range edgeM_u rfl rfl) rfl ?_)))|refine nZ ?_)
  refine aw_loop (X := {d : List Nat // d.Nodup ∧ ∀ i, i ∈ d → i < Te.length}) (fun d => [(0, .ptr 0 0), (3, .sl 3 0 (endD s Te d.1).length 1), (13, .ptr 4 0)]) (fun d => [.cells (netA s W st (.mp 1) (.mp 2)), .mapB (Te.map kE) (trA Te) bs ck, .mapO (pkA U) (pvA U), .arr (ints (endD s Te d.1)) 1, .iter 1 ck (seenB bs d.1) ck]) (fun d => Te.length - d.1.length) ⟨[], List.nodup_nil, fun i hi => by cases hi⟩ ⟨[0, 1, 2, 3, 4], rfl, (by (repeat (first | exact trivial | refine ⟨rfl, ?_⟩))), ⟨.inr rfl, .inr (sub_mapB rfl (tr_idf _)), .inr (sub_map rfl rfl rfl (pv_idf _)), .inr rfl, .inr rfl, trivial⟩, by decide, lt45⟩ ?_
  rintro ⟨d, hnd, hlt⟩
  dsimp only
  have hdl := nodup_le hnd hlt
  have hel := endD_len s Te d
  repeat' (first|refine wS ?_|refine wB ?_|refine wK ?_|refine wE ?_|refine wT ?_|refine wU ?_|(refine rg 3 ?_;(all_goals (refine vc_next rfl rfl rfl hb4' (Nat.le_refl _) rfl (fun hend=>vc_mapShut 1 rfl ?_) (fun i kv v b g1 g1' g2 g3=>?_)));(all_goals (refine xV ?_)))|refine nZ ?_)
  · have hall := seen_all hb3' (by rw [hbl]; exact hlt) hend
    rw [hbl] at hall
    have heo := ends_ok hF hnd hlt hall
    obtain ⟨bF, hw⟩ := ways_ok g hF heo
    clear heo
    have hsl := sorted_len (endD s Te d)
    have hsc := sort_c (endD s Te d) (by omega)
    generalize hes : sorted (endD s Te d) = es at *
    rw [← hsl] at hsc ⊢
    repeat' (first|refine wS ?_|(refine rg 7 ?_;refine mV ?_;refine vc_callw [3] rfl rfl hsc rfl rfl (by decide) ⟨.inr (sub_arr rfl rfl (ints_idf _)),trivial⟩ (by simp) rfl ?_)|(refine rg 8 ?_;refine aV ?_)|refine nZ ?_)
    refine aw_own 5 1 rfl (by decide) ?_
    have hel2 : es.length ≤ W.length := by omega
    have hesl : (ints es).length = es.length := ints_length _
    repeat' (first|refine wB ?_|(refine rg 9 ?_;refine mV ?_;(refine qV T ?_);refine mV ?_)|refine nZ ?_)
    refine aw_loop (X := {j : Nat // j ≤ es.length}) (fun j => [(0, .ptr 0 0), (5, .sl 4 0 j.1 1), (32, .sl 3 0 es.length 1), (33, .i es.length), (34, .i (j.1 : Int))]) (fun j => [.cells (netA s W st (.mp 1) (.mp 2)), .mapO (Te.map kE) (trA Te), .mapO (pkA U) (pvA U), .arr (ints es) 1, .arr (rwI ((es.take j.1).map (wayR bF))) 1]) (fun j => es.length - j.1) ⟨0, by omega⟩ ⟨[0, 1, 2, 3, 5], rfl, (by (repeat (first | exact trivial | refine ⟨rfl, ?_⟩))), ⟨.inr rfl, .inr (by first|exact sub_map rfl rfl rfl (tr_idf _)|exact sub_map rfl rfl (mapL_idf _ _ (tr_idf _)) (tr_idf _)), .inr (by first|exact sub_map rfl rfl rfl (pv_idf _)|exact sub_map rfl rfl (mapL_idf _ _ (pv_idf _)) (pv_idf _)), .inr (sub_arr rfl (mapL_idfs _ (ints_idf _)) (ints_idf _)), .inr (sub_rwI rfl rfl), trivial⟩, by decide, lt47⟩ ?_
    rintro ⟨j, hj⟩
    dsimp only
    by_cases hjl : j < es.length
    · have htk := List.take_succ_eq_append_getElem hjl
      have hwe := hw.ok es[j] (List.getElem_mem hjl)
      have q1 : (ints es)[0 + (j : Int).toNat]? = some [AV.i es[j]] := by rw [Nat.zero_add, Int.toNat_natCast]; exact ints_get hjl
      generalize es[j] = e at *
      have hll := lst_len hF hwe.2
      have hwr : wayR bF e = (e :: bF e).reverse := rfl
      repeat' (first|refine wS ?_|refine wB ?_|refine wK ?_|refine wT ?_|(refine rg 10 ?_;refine vV (by exact fs_lssT rfl rfl (by omega)) ?_)|(refine rg 11 ?_;refine vV (by exact fs_indexOwn T rfl rfl rfl rfl rfl (by omega) (by omega)) ?_;refine vV (by exact fs_load T rfl rfl (behind_ep rfl q1) rfl) ?_;refine aV ?_)|(refine rg 12 ?_;refine mV ?_;refine vc_n (by exact fs_buildSlice T rfl rfl (by decide) (by decide) rfl rfl rfl) rfl ?_;refine aV ?_)|refine nZ ?_)
      refine aw_loop (X := {p : List Int × Int × List Int // Lst (netP s W st) Te p.2.1 p.2.2 ∧ p.1 ++ p.2.2 = e :: bF e}) (fun p => [(0, .ptr 0 0), (5, .sl 4 0 j 1), (7, .i p.1.2.1), (8, .sl 5 0 p.1.1.length 1), (32, .sl 3 0 es.length 1), (33, .i es.length), (34, .i (j : Int))]) (fun p => [.cells (netA s W st (.mp 1) (.mp 2)), .mapO (Te.map kE) (trA Te), .mapO (pkA U) (pvA U), .arr (ints es) 1, .arr (rwI ((es.take j).map (wayR bF))) 1, .arr (ints p.1.1) 1]) (fun p => p.1.2.2.length) ⟨([e], e, bF e), hwe.2, rfl⟩ ⟨[0, 1, 2, 3, 4, 5], rfl, (by (repeat (first | exact trivial | refine ⟨rfl, ?_⟩))), ⟨.inr rfl, .inr (by first|exact sub_map rfl rfl rfl (tr_idf _)|exact sub_map rfl rfl (mapL_idf _ _ (tr_idf _)) (tr_idf _)), .inr (by first|exact sub_map rfl rfl rfl (pv_idf _)|exact sub_map rfl rfl (mapL_idf _ _ (pv_idf _)) (pv_idf _)), .inr (sub_arr rfl rfl (ints_idf _)), .inr (sub_rwI rfl rfl), .inr (sub_arr rfl rfl (ints_idf _)), trivial⟩, by decide, lt36⟩ ?_
      rintro ⟨⟨pre, c, b'⟩, hL, hpre⟩
      dsimp only
      dsimp only at hL hpre
      have hpl : pre.length ≤ W.length + 1 := by have := congrArg List.length hpre; rw [List.length_append] at this; omega
      match b', hL, hpre with
      | [], hL, hpre =>
        have hcs : c = st := hL
        rw [List.append_nil] at hpre
        subst hpre
        have hrc := reverse_c (e :: bF e) (by omega)
        have hrl : (ints (e :: bF e).reverse).length = (e :: bF e).length := by rw [ints_length, List.length_reverse]
        repeat' (first|refine wS ?_|refine wE ?_|refine wU ?_|(refine rg 13 ?_;refine mV ?_;refine mV ?_;refine nV ?_;refine fV T ?_;refine lV T ?_;refine vV (by exact fs_neqF rfl rfl hcs) ?_)|(refine rg 16 ?_;refine mV ?_;refine vc_callw [5] rfl rfl hrc rfl rfl (by decide) ⟨.inr (sub_arr rfl rfl (ints_idf _)),trivial⟩ (by simp) rfl ?_)|refine nZ ?_)
        refine aw_frz (es := ints (e :: bF e).reverse) 8 rfl (congrArg (fun l => some (AB.arr l 1)) (mapL_idfs _ (ints_idf _))) (by simp) (idfL_flat (ints_idf _)) ?_
        have hrw := rwI_length ((es.take j).map (wayR bF))
        rw [List.length_map, List.length_take, Nat.min_eq_left (by omega)] at hrw
        repeat' (first|(refine rg 17 ?_;refine mV ?_;refine mV ?_;refine vc_n (by exact fs_buildSlice T rfl rfl (by decide) (by decide) rfl rfl rfl) rfl ?_;refine vc_append T rfl rfl rfl rfl rfl rfl (by rw [hrw];omega) (Elems.whole rfl rfl) rfl (by simp;omega) (by simp;omega) rfl ?_;refine aV ?_)|(refine rg 18 ?_;refine vV (by exact fs_addr rfl rfl (by omega) (by omega)) ?_;refine mV ?_)|refine nZ ?_)
        all_goals exact ⟨⟨j + 1, hjl⟩, by dsimp only; omega, [0, 1, 2, 3, 7], rfl, (by (repeat (first | exact trivial | refine ⟨rfl, ?_⟩))), ⟨.inr rfl, .inr (sub_map rfl rfl rfl (tr_idf _)), .inr (sub_map rfl rfl rfl (pv_idf _)), .inr (sub_arr rfl rfl (ints_idf _)), .inr (sub_rwI rfl (by dsimp only; rw [htk, List.map_append, List.map_cons, List.map_nil, ← hwr]; exact rw_next (by rw [List.length_map, List.length_take, Nat.min_eq_left (by omega)]))), trivial⟩, by decide, lt49⟩
      | p :: b'', hL, hpre =>
        obtain ⟨hcs, hpc, hL2⟩ := hL
        obtain ⟨i, hi1, hi2⟩ := prevF_some ((hU c p).2 hpc)
        repeat' (first|refine wS ?_|refine wB ?_|refine wK ?_|refine wT ?_|(refine rg 13 ?_;refine mV ?_;refine mV ?_;refine nV ?_;refine fV T ?_;refine lV T ?_;refine vV (by exact fs_neqT rfl rfl hcs) ?_)|(refine rg 14 ?_;refine mV ?_;refine nV ?_;refine fV T ?_;refine lV T ?_;refine mV ?_;refine vV (by exact fs_mapGet1 mapII intK rfl rfl (isv_i _) rfl (pk_good _) (good_i _) hUn hi1 hi2) ?_;refine aV ?_)|(refine rg 15 ?_;refine mV ?_;refine mV ?_;refine vc_n (by exact fs_buildSlice T rfl rfl (by decide) (by decide) rfl rfl rfl) rfl ?_;refine vc_append T rfl rfl rfl rfl rfl rfl (by simp) (Elems.whole rfl rfl) rfl (by simp;omega) (by simp;omega) rfl ?_;refine aV ?_)|refine nZ ?_)
        all_goals exact ⟨⟨(pre ++ [p], p, b''), hL2, by dsimp only; rw [List.append_assoc]; exact hpre⟩, by dsimp only; rw [List.length_cons]; omega, [0, 1, 2, 3, 4, 7], rfl, ⟨rfl, rfl, rfl, by dsimp only; rw [List.length_append]; rfl, rfl, rfl, rfl, trivial⟩, ⟨.inr rfl, .inr (sub_map rfl rfl rfl (tr_idf _)), .inr (sub_map rfl rfl rfl (pv_idf _)), .inr (sub_arr rfl rfl (ints_idf _)), .inr (sub_rwI rfl rfl), .inr (sub_arr rfl ints_app (ints_idf _)), trivial⟩, by decide, lt4a⟩
    · obtain rfl : j = es.length := by omega
      rw [List.take_length]
      repeat' (first|refine wS ?_|refine wR ?_|refine wE ?_|refine wU ?_|(refine rg 10 ?_;refine vV (by exact fs_lssF rfl rfl (by omega)) ?_)|(refine rg 19 ?_;refine mV ?_;refine aV ?_)|refine nZ ?_)
      all_goals exact ⟨_, _, ⟨es, bF, hw, rfl, rfl⟩, .inl rfl, [0, 1, 2, 4], _, rfl, rfl, rfl, ⟨.inr rfl, .inr (sub_map rfl rfl rfl (tr_idf _)), .inr (sub_map rfl rfl rfl (pv_idf _)), .inr (sub_rwI rfl rfl), trivial⟩, by decide, lt48⟩
  · rw [List.getElem?_map] at g1
    obtain ⟨⟨a, c⟩, hac, rfl⟩ := Option.map_eq_some_iff.1 g1
    have hv : v = .b true := by rw [List.getElem?_map, hac] at g1'; simpa using g1'.symm
    subst hv
    have k1 : (Te.map kE)[i]? = some (kE (a, c)) := by simp [hac]
    have k2 : (trA Te)[i]? = some (.b true) := by simp [hac]
    have hnew := seen_not g2 g3
    have hil := (List.getElem?_eq_some_iff.1 hac).1
    have hsn := seen_snoc (d := d) g2
    have hd' : (d ++ [i]).Nodup ∧ ∀ j, j ∈ d ++ [i] → j < Te.length := ⟨nodup_snoc hnd hnew, fun j hj => (List.mem_append.1 hj).elim (hlt j) (fun e => by simp at e; rw [e]; exact hil)⟩
    have hdl2 := nodup_le hd'.1 hd'.2
    rw [List.length_append, List.length_singleton] at hdl2
    have hcr := hWr c (flow_W hF (List.mem_of_getElem? hac)).1
    have cx := isExit_c s c hcr.1 hcr.2
    have he := endD_snoc (s := s) (d := d) hac
    generalize hT1 : endD s Te (d ++ [i]) = T1 at *
    generalize endD s Te d = T0 at *
    cases hx : exB s.fl c with
    | true =>
      rw [hx] at cx
      rw [if_pos hx] at he
      repeat' (first|refine wS ?_|refine wT ?_|(refine rg 4 ?_;(all_goals (refine vc_n (by exact fs_entry rfl rfl rfl rfl g2 k1 k2) rfl ?_;refine vc_weak 16 (.tup [.agg [.i a,.i c],.b true]) rfl (fun _ _ _ _ q=>R_tupE q) ?_));(all_goals (refine xV ?_;refine vc_n (by exact fs_alloc T rfl) rfl ?_;refine vc_store T rfl rfl rfl rfl rfl rfl (by decide) rfl ?_)))|(((refine aw_drawT (id := 5) 6 64 [[],[0],[0,1],[0,1,2],[],[4],[0,1,2,3,4,5]] [[],[0],[0,1],[0,1,2],[],[4]] [18,19,20,21,22,23] [[],[],[],[],[18,19,20,21],[18,19,20,21]] mixedP rfl (by decide +kernel) (by decide +kernel) ?_));(all_goals (dsimp only [List.take,List.drop]));(all_goals (refine dV rfl (by exact fs_move rfl) ?_));(all_goals (refine dV rfl (by exact fs_nilCheck rfl rfl) ?_));(all_goals (refine dV rfl (by exact fs_fieldAddr T rfl rfl rfl) ?_));(all_goals (refine dV rfl (by exact fs_load T rfl rfl rfl rfl) ?_));(all_goals (refine dV rfl (by exact fs_fieldAddr T rfl rfl rfl) ?_));(all_goals (refine dV rfl (by exact fs_load T rfl rfl rfl rfl) ?_));(all_goals (refine dw_fin rfl rfl (by ((dsimp only [ln1,ln2,List.append_nil,ln4,ln5,ln6,ln7,ln8,ln9,putAt,putd,allObjs,argEnv,un_v,un_ptr,un_ep,un_pr,un_sl,un_mp,un_row,un_agg,un_tup,un_clo,Nat.zero_add,lnb,Nat.reduceAdd,lnc,lnd];done))) ?_;refine vc_nil ?_;refine vV (by exact kC (cx)) ?_)))|(refine rg 6 ?_;refine mV ?_;refine fV T ?_;refine lV T ?_;refine vc_n (by exact fs_buildSlice T rfl rfl (by decide) (by decide) rfl rfl rfl) rfl ?_;refine vc_append T rfl rfl rfl rfl rfl rfl (by simp) (Elems.whole rfl rfl) rfl (by simp;omega) (by simp;omega) rfl ?_;refine aV ?_)|refine nZ ?_)
      all_goals exact ⟨⟨d ++ [i], hd'⟩, by dsimp only; rw [List.length_append, List.length_singleton]; omega, [0, 1, 2, 7, 4], rfl, ⟨rfl, by dsimp only; rw [hT1, he, List.length_append]; rfl, rfl, trivial⟩, ⟨.inr rfl, .inr (sub_mapB rfl (tr_idf _)), .inr (sub_map rfl rfl rfl (pv_idf _)), .inr (sub_arr rfl (by dsimp only; rw [hT1, he]; exact ints_app) (ints_idf _)), .inr (sub_iter rfl hsn), trivial⟩, by decide, lt46⟩
    | false =>
      rw [hx] at cx
      rw [if_neg (by rw [hx]; decide)] at he
      repeat' (first|refine wS ?_|refine wK ?_|refine wU ?_|(refine rg 4 ?_;(all_goals (refine vc_n (by exact fs_entry rfl rfl rfl rfl g2 k1 k2) rfl ?_;refine vc_weak 16 (.tup [.agg [.i a,.i c],.b true]) rfl (fun _ _ _ _ q=>R_tupE q) ?_));(all_goals (refine xV ?_;refine vc_n (by exact fs_alloc T rfl) rfl ?_;refine vc_store T rfl rfl rfl rfl rfl rfl (by decide) rfl ?_)))|(((refine aw_drawT (id := 5) 6 64 [[],[0],[0,1],[0,1,2],[],[4],[0,1,2,3,4,5]] [[],[0],[0,1],[0,1,2],[],[4]] [18,19,20,21,22,23] [[],[],[],[],[18,19,20,21],[18,19,20,21]] mixedP rfl (by decide +kernel) (by decide +kernel) ?_));(all_goals (dsimp only [List.take,List.drop]));(all_goals (refine dV rfl (by exact fs_move rfl) ?_));(all_goals (refine dV rfl (by exact fs_nilCheck rfl rfl) ?_));(all_goals (refine dV rfl (by exact fs_fieldAddr T rfl rfl rfl) ?_));(all_goals (refine dV rfl (by exact fs_load T rfl rfl rfl rfl) ?_));(all_goals (refine dV rfl (by exact fs_fieldAddr T rfl rfl rfl) ?_));(all_goals (refine dV rfl (by exact fs_load T rfl rfl rfl rfl) ?_));(all_goals (refine dw_fin rfl rfl (by ((dsimp only [ln1,ln2,List.append_nil,ln4,ln5,ln6,ln7,ln8,ln9,putAt,putd,allObjs,argEnv,un_v,un_ptr,un_ep,un_pr,un_sl,un_mp,un_row,un_agg,un_tup,un_clo,Nat.zero_add,lnb,Nat.reduceAdd,lnc,lnd];done))) ?_;refine vc_nil ?_;refine vV (by exact kC (cx)) ?_)))|refine nZ ?_)
      all_goals exact ⟨⟨d ++ [i], hd'⟩, by dsimp only; rw [List.length_append, List.length_singleton]; omega, [0, 1, 2, 3, 4], rfl, ⟨rfl, by dsimp only; rw [hT1, he]; rfl, rfl, trivial⟩, ⟨.inr rfl, .inr (sub_mapB rfl (tr_idf _)), .inr (sub_map rfl rfl rfl (pv_idf _)), .inr (sub_arr rfl (by dsimp only; rw [hT1, he]) (ints_idf _)), .inr (sub_iter rfl hsn), trivial⟩, by decide, lt45⟩
end Go.Proofs.YtjpcpbbkelgkeaaGreatDoor
namespace Go.Proofs.YtjpcpbbkelgkeaaGreatDoor
open Go Go.Ab Go.Fl Go.Re Go.Ln
set_option maxHeartbeats 4000000
def PairOk (s : Sit) (x : LaneT) : Prop := LaneP (netP s (walkP s.fl) x.1) x.2.1 ∧ LaneP (netP s (walkP s.fl) x.1) x.2.2 ∧ ∀ y, y ∈ x.2.1 → y ∈ x.2.2 → y = x.1
def StuckP (s : Sit) (c : Int) : Prop := (∀ l, ¬ LaneP (netP s (walkP s.fl) c) l) ∨ ∃ x, x ≠ c ∧ ∀ l, LaneP (netP s (walkP s.fl) c) l → x ∈ l
abbrev laneA (x : LaneT) : List AV := [.i x.1, .rowE (ints x.2.1) 1, .rowE (ints x.2.2) 1]
abbrev lanesA (l : List LaneT) : List (List AV) := l.map laneA
theorem stuck_0 {s : Sit} (g : Fine s.fl) {c : Int} (hst : exB s.fl c = false) {Te : List LEdge} {R} (h : Flow (netP s (walkP s.fl) c) 0 Te) (hs : Shut (netP s (walkP s.fl) c) Te R) : StuckP s c :=
  .inl fun l hl => by
    obtain ⟨_, r, _, hw⟩ := hl
    exact hs.none h hst (stepP_ne g _) hw
theorem stuck_1 {s : Sit} (g : Fine s.fl) {c : Int} (hst : exB s.fl c = false) {Te : List LEdge} {R} (h : Flow (netP s (walkP s.fl) c) 1 Te) (hs : Shut (netP s (walkP s.fl) c) Te R) : StuckP s c := by
  obtain ⟨p, x, _, hx, hw⟩ := hs.one h hst (stepP_ne g _)
  refine .inr ⟨x, hx, fun l hl => ?_⟩
  obtain ⟨_, r, rfl, hr⟩ := hl
  exact .tail _ (hw r hr)
theorem two_ok {s : Sit} {c : Int} {Te : List LEdge} {es : List Int} {bF : Int → List Int} (h : Flow (netP s (walkP s.fl) c) 2 Te) (hw : WaysOk s (walkP s.fl) c 2 Te es bF) : ∃ e0 e1, es = [e0, e1] ∧ PairOk s (c, wayR bF e0, wayR bF e1) := by
  match es, hw with
  | [], hw => exact absurd hw.len (by simp)
  | [_], hw => exact absurd hw.len (by simp)
  | _ :: _ :: _ :: _, hw => exact absurd hw.len (by simp)
  | [e0, e1], hw =>
    obtain ⟨x0, l0⟩ := hw.ok e0 (by simp)
    obtain ⟨x1, l1⟩ := hw.ok e1 (by simp)
    have hne : e0 ≠ e1 := fun e => by have := hw.nd; rw [e] at this; simp at this
    refine ⟨e0, e1, rfl, l0.lane h x0, l1.lane h x1, fun y hy hy' => ?_⟩
    exact Lst.apart h x0 x1 l0 l1 hne (List.mem_reverse.1 hy) (List.mem_reverse.1 hy')
theorem way_W {s : Sit} {W : List Int} {st : Int} : ∀ {r : List Int} {c : Int}, Ln.Way (netP s W st) c r → ∀ x, x ∈ r → x ∈ W
  | [], _, _, x, hx => by cases hx
  | y :: r, c, h, x, hx => by
    obtain ⟨_, h2, h3⟩ := h
    rcases List.mem_cons.1 hx with rfl | hx
    · exact (mem_stepP.1 h2).1
    · exact way_W h3 x hx
theorem lane_drop {s : Sit} {W : List Int} {st : Int} {l : List Int} (h : LaneP (netP s W st) l) : ∃ r, l = st :: r ∧ l.drop 1 = r ∧ (∀ x, x ∈ r → x ∈ W ∧ x ≠ st) := by
  obtain ⟨hn, r, rfl, hw⟩ := h
  refine ⟨r, rfl, rfl, fun x hx => ⟨way_W hw x hx, fun e => ?_⟩⟩
  subst e
  exact (List.nodup_cons.1 hn).1 hx
theorem lane_len {s : Sit} {W : List Int} {st : Int} {l : List Int} (h : LaneP (netP s W st) l) : l.length ≤ W.length + 1 := by
  obtain ⟨r, e, _, hW⟩ := lane_drop h
  have hn := h.1
  rw [e] at hn ⊢
  have := nodup_sub (List.nodup_cons.1 hn).2 (m := W) fun x hx => (hW x hx).1
  simpa using this
def mxL (n : Int) (e : Int × List Int) : Int := max n ((e.2.length : Int) - 1)
def boundP (f : Flo) : Int := (offL f (walkP f)).foldl mxL 0
def smF : Flo := ⟨5, 2, 1, [5, 4, 4, 4, 5, 1, 1, 1, 1, 3], [15, 15, 15, 15, 15, 15, 15, 15, 15, 15]⟩
def smS : Sit := ⟨smF, [], [], [], []⟩
theorem sm_walk : walkP smF = [0, 1, 2, 3, 4] := by decide
theorem sm_kind : kindC smF 4 = [1, 2, 3] := by decide
theorem sm_bound : boundP smF = 1 := by decide
theorem sm_off : offR smF 2 = [2, 7] := by decide
theorem sm_s1 : stepP smF [0, 1, 2, 3, 4] 1 = [2, 0] := by decide
theorem sm_s2 : stepP smF [0, 1, 2, 3, 4] 2 = [3, 1] := by decide
theorem sm_s3 : stepP smF [0, 1, 2, 3, 4] 3 = [4, 2] := by decide
theorem sm_fine : Fine smF := by
  constructor <;> decide
theorem sm_lane {l : List Int} (h : LaneP (netP smS (walkP smF) 2) l) : l = [2, 1, 0] ∨ l = [2, 3, 4] := by
  rw [sm_walk] at h
  obtain ⟨hn, r, rfl, hw⟩ := h
  have x1 : exB smF 1 = false := by decide
  have x2 : exB smF 2 = false := by decide
  have x3 : exB smF 3 = false := by decide
  have x0 : exB smF 0 = true := by decide
  have x4 : exB smF 4 = true := by decide
  have en : ∀ (r : List Int) (c : Int), exB smF c = true → Ln.Way (netP smS [0, 1, 2, 3, 4] 2) c r → r = [] := fun r c hc h => by
    cases r with
    | nil => rfl
    | cons y r => exact absurd (h.1.symm.trans hc) (by decide)
  have ex : (netP smS [0, 1, 2, 3, 4] 2).ex = exB smF := rfl
  have sp : (netP smS [0, 1, 2, 3, 4] 2).sp = stepP smF [0, 1, 2, 3, 4] := rfl
  have st : (netP smS [0, 1, 2, 3, 4] 2).st = 2 := rfl
  rw [st] at hn hw ⊢
  cases r with
  | nil => exact absurd (show exB smF 2 = true from hw) (by rw [x2]; decide)
  | cons y r =>
    obtain ⟨_, hy, hw⟩ := hw
    rw [sp, sm_s2] at hy
    cases r with
    | nil =>
      have hw : exB smF y = true := hw
      simp only [List.mem_cons, List.not_mem_nil, or_false] at hy
      rcases hy with rfl | rfl
      · rw [x3] at hw; cases hw
      · rw [x1] at hw; cases hw
    | cons z r =>
      obtain ⟨_, hz, hw⟩ := hw
      simp only [List.mem_cons, List.not_mem_nil, or_false] at hy
      rcases hy with rfl | rfl
      · rw [sp, sm_s3] at hz
        simp only [List.mem_cons, List.not_mem_nil, or_false] at hz
        rcases hz with rfl | rfl
        · rw [en r 4 x4 hw]; exact .inr rfl
        · simp at hn
      · rw [sp, sm_s1] at hz
        simp only [List.mem_cons, List.not_mem_nil, or_false] at hz
        rcases hz with rfl | rfl
        · simp at hn
        · rw [en r 0 x0 hw]; exact .inl rfl
end Go.Proofs.YtjpcpbbkelgkeaaGreatDoor
namespace Go.Proofs.YtjpcpbbkelgkeaaGreatDoor
open Go Go.Ab Go.Fl Go.Re Go.Ln Go.MapKept
attribute [local irreducible] VC AW FStep ACall PCall
set_option maxHeartbeats 4000000
theorem walk_asc (f : Flo) : Asc (walkP f) := union_asc (ofK_asc _ _ _) (ofK_asc _ _ _)
theorem walk_len (f : Flo) : (walkP f).length ≤ f.k.length := by
  have h : (walkP f).Nodup := (walk_asc f).imp (fun h => by omega)
  have := nodup_sub (l := walkP f) (m := (List.range f.k.length).map fun i : Nat => (i : Int)) h fun x hx => by
    obtain ⟨h1, h2, _⟩ := mem_walk.1 hx
    exact List.mem_map.2 ⟨x.toNat, List.mem_range.2 (by omega), by omega⟩
  simpa using this
abbrev okA (L : List (Int × List Int)) : List Value := L.map fun e => kI e.1
abbrev ovA (L : List (Int × List Int)) : List AV := L.map fun e => AV.rowE (ints e.2) 1
theorem ok_good (L : List (Int × List Int)) : ∀ q, q ∈ okA L → MapKept.IsKey (.int .i64) q := fun q hq => by
  obtain ⟨c, _, rfl⟩ := List.mem_map.1 hq; rfl
theorem ov_idf (L : List (Int × List Int)) : AV.idfL (ovA L) = true := by
  induction L with
  | nil => rfl
  | cons e L ih => exact ih
theorem offL_snoc (f : Flo) (W : List Int) (c : Int) : offL f (W ++ [c]) = if 0 ≤ offD f c.toNat then offL f W ++ [(c, offW f c.toNat)] else offL f W := by
  unfold offL
  by_cases h : 0 ≤ offD f c.toNat
  · have e : offE f c = some (c, offW f c.toNat) := by unfold offE; rw [if_pos h]
    rw [if_pos h, List.filterMap_append, List.filterMap_cons, e]; rfl
  · have e : offE f c = none := by unfold offE; rw [if_neg h]
    rw [if_neg h, List.filterMap_append, List.filterMap_cons, e]; exact List.append_nil _
theorem mem_offL {f : Flo} {W : List Int} {e : Int × List Int} : e ∈ offL f W ↔ e.1 ∈ W ∧ 0 ≤ offD f e.1.toNat ∧ e.2 = offW f e.1.toNat := by
  unfold offL
  rw [List.mem_filterMap]
  constructor
  · rintro ⟨c, hc, h⟩
    unfold offE at h
    split at h
    · rename_i h0; cases h; exact ⟨hc, h0, rfl⟩
    · cases h
  · rintro ⟨h1, h2, h3⟩
    exact ⟨e.1, h1, by unfold offE; rw [if_pos h2, ← h3]⟩
theorem offL_no {f : Flo} {W : List Int} {c : Int} (h : c ∉ W) : kI c ∉ okA (offL f W) := fun hm => by
  obtain ⟨e, he, q⟩ := List.mem_map.1 hm
  have := (mem_offL.1 he).1
  simp [kI] at q
  rw [q] at this; exact h this
theorem offL_nd {f : Flo} {W : List Int} (h : W.Nodup) : (okA (offL f W)).Nodup := by
  induction W with
  | nil => exact List.nodup_nil
  | cons c W ih =>
    rw [List.nodup_cons] at h
    unfold offL at ih ⊢
    rw [List.filterMap_cons]
    have hno := offL_no (f := f) h.1
    unfold offL at hno
    unfold offE
    by_cases q : 0 ≤ offD f c.toNat
    · rw [if_pos q]
      exact List.nodup_cons.2 ⟨hno, ih h.2⟩
    · rw [if_neg q]; exact ih h.2
theorem nats_app2 {pre Q : List Nat} {n c : Nat} : List.take (Q.length + 1) (List.drop pre.length (nats (pre ++ n :: Q))) ++ [[AV.i (c : Int)]] = nats ([] ++ n :: (Q ++ [c])) := by
  rw [show nats (pre ++ n :: Q) = nats pre ++ nats (n :: Q) by simp, List.drop_left' (by simp), List.take_of_length_le (by simp)]; simp
theorem mapIS : Tryz.prog.underlying 71 = some (.map 3 32) := by kernel_rfl
theorem spread_inv {N : Nat} {mv : MV} {ok : Nat → Bool} (hmv : ∀ c d n, c < N → mv c d = some n → n < N) (l : List Nat) (hl : ∀ c, c ∈ l → c < N) : HInv N (spreadH N mv ok l) := by
  obtain ⟨g1, g2, _⟩ := start_srch (N := N) (mv := mv) (ok := ok) l hl
  have h0 : HInv N (fromH l (startH N ok)) := fromH_inv (mv := mv) _ _ rfl hl
  have e0 : (fromH l (startH N ok)).1 = fromM l (startS N ok) := fromH_1 _ _
  rw [← e0] at g1
  unfold spreadH
  generalize fromH l (startH N ok) = x at h0 g1
  clear g2 e0
  suffices ∀ k (x : SH), HInv N x → Srch N mv ok (· ∈ l) x.1 → HInv N (bfsH mv k x) from this N x h0 g1
  intro k
  induction k with
  | zero => intro x h _; exact h
  | succ k ih =>
    intro x h s
    unfold bfsH
    cases hq : x.1.q with
    | nil => exact h
    | cons c r' =>
      simp only
      have m0 := s.pop hq
      have key : ∀ (j d : Nat) (y : SH), d + j = 6 → Mid N mv ok (· ∈ l) c d y.1 → HInv N y → HInv N ((List.range' d j).foldl (tryH mv c) y) ∧ Mid N mv ok (· ∈ l) c 6 ((List.range' d j).foldl (tryH mv c) y).1 := by
        intro j
        induction j with
        | zero =>
          intro d y hd m hy
          obtain rfl : d = 6 := by omega
          exact ⟨hy, m⟩
        | succ j ihj =>
          intro d y hd m hy
          rw [List.range'_succ, List.foldl_cons]
          refine ihj (d + 1) _ (by omega) (by rw [tryH_1]; exact m.next hmv (by omega)) ?_
          unfold tryH
          cases hm : mv c d with
          | none => exact hy
          | some n =>
            have hn := hmv c d n m.hc hm
            exact hy.reach hn m.inv.lu (by have := m.h0; omega) (fun ho => ((m.inv.opn n hn).1 ho).2)
      obtain ⟨k1, k2⟩ := key 6 0 (⟨x.1.op, x.1.out, r'⟩, x.2) rfl m0 ⟨h.nd, h.lt, h.mem⟩
      have e6 : expandH mv c (⟨x.1.op, x.1.out, r'⟩, x.2) = (List.range' 0 6).foldl (tryH mv c) (⟨x.1.op, x.1.out, r'⟩, x.2) := by unfold expandH; rw [List.range_eq_range']
      rw [e6]
      exact ih _ k1 k2.end
theorem bv_wall {f : Flo} (g : Fine f) {c d n : Nat} (h : bvN f c d = some n) : f.k.getD n 0 ≠ 0 := by
  have h1 := (next_some g ((mvN_some g).1 ((mv_bv g).2 h))).2.2.2.2.1
  unfold kindI at h1
  rwa [Int.toNat_natCast] at h1
theorem offs_c (s : Sit) (g : Fine s.fl) : ACall Tryz.prog 42 [.agg (sitA s)] [] (.mp 0) [.mapO (okA (offL s.fl (walkP s.fl))) (ovA (offL s.fl (walkP s.fl)))] := by
  have hN := g.le
  have hb := g.bounds
  have hkl : (ints s.fl.k).length = s.fl.k.length := ints_length _
  have hWa := walk_asc s.fl
  have hWn : (walkP s.fl).Nodup := hWa.imp (fun h => by omega)
  have hWl := walk_len s.fl
  have cw := walkOf_c s (by omega)
  have hWr : ∀ x, x ∈ walkP s.fl → 0 ≤ x ∧ x < s.fl.k.length := fun x hx => by obtain ⟨h1, h2, _⟩ := mem_walk.1 hx; exact ⟨h1, h2⟩
  have hsrc : ∀ c, c ∈ srcF s.fl → c < s.fl.k.length := srcK_lt (Nat.le_refl _)
  have hinv := spread_inv (ok := okN s.fl) (bvN_lt g) (srcF s.fl) hsrc
  have hfar := (off_far g).1
  have hole := off_le g
  have holen := (off_far g).2
  have hF1 : (spreadH s.fl.k.length (bvN s.fl) (okN s.fl) (srcF s.fl)).1 = spreadM s.fl.k.length (bvN s.fl) (okN s.fl) (srcF s.fl) := spreadH_1 _ _ _ _
  have hFo : (spreadH s.fl.k.length (bvN s.fl) (okN s.fl) (srcF s.fl)).1.out = offO s.fl := by rw [hF1]; rfl
  have hF0 : spreadH s.fl.k.length (bvN s.fl) (okN s.fl) (srcF s.fl) = bfsH (bvN s.fl) s.fl.k.length (fromH (srcF s.fl) (startH s.fl.k.length (okN s.fl))) := rfl
  generalize spreadH s.fl.k.length (bvN s.fl) (okN s.fl) (srcF s.fl) = F at *
  clear hF1
  refine acall T Tryz.func42 rfl rfl rfl rfl ?_
  repeat' (first|refine wS ?_|(refine rg 0 ?_;refine vc_n (by exact fs_box rfl rfl) rfl ?_;refine aV ?_)|(refine rg 1 ?_;refine lV T ?_;refine vV (by exact kC (cw)) ?_;refine aV ?_)|(refine rg 2 ?_;refine vc_n (by exact fs_mapNew) rfl ?_;refine aV ?_)|(refine rg 3 ?_;refine aV ?_)|refine nZ ?_)
  refine aw_own 5 1 rfl (by decide) ?_
  dsimp only [ln1, ln2, List.append_nil, ln4, ln5, ln6, ln7, ln8, ln9, putAt, putd, allObjs, argEnv, un_v, un_ptr, un_ep, un_pr, un_sl, un_mp, un_row, un_agg, un_tup, un_clo, Nat.zero_add, lnb, Nat.reduceAdd, lnc, lnd]
  repeat' (first|refine wB ?_|(refine rg 4 ?_;refine fV T ?_;refine fV T ?_;refine lV T ?_;(refine qV T ?_);refine mV ?_)|refine nZ ?_)
  -- the cells that do not belong to the walk
  refine aw_loop (X := {j : Nat // j ≤ s.fl.k.length}) (fun j => [(1, .ptr 0 0), (3, .rowE (ints (walkP s.fl)) 1), (4, .mp 1), (5, .sl 2 0 (srcK s.fl (walkP s.fl) j.1).length 1), (25, .rowE (ints s.fl.k) 1), (26, .i s.fl.k.length), (27, .i (j.1 : Int))])
    (fun j => [.cells (sitA s), .mapO (dkA (srcK s.fl (walkP s.fl) j.1)) (z0 (srcK s.fl (walkP s.fl) j.1)), .arr (nats (srcK s.fl (walkP s.fl) j.1)) 1]) (fun j => s.fl.k.length - j.1) ⟨0, Nat.zero_le _⟩ ⟨[0, 1, 2], rfl, ⟨rfl, rfl, rfl, rfl, rfl, congrArg (fun n : Nat => some (AV.i n)) hkl, rfl, trivial⟩, ⟨.inr rfl, .inr (sub_map rfl rfl rfl (z0_idf _)), .inr (sub_arr rfl rfl (nats_idf _)), trivial⟩, by decide, fun _ hi => absurd hi (Nat.not_lt_zero _)⟩ ?_
  rintro ⟨j, hj⟩
  dsimp only
  by_cases hlt : j < s.fl.k.length
  · have hs := srcK_succ s.fl (walkP s.fl) j
    have hn := srcK_len s.fl (walkP s.fl) j
    have hno : kI (j : Int) ∉ dkA (srcK s.fl (walkP s.fl) j) := dk_no fun c hc hm => by have := (mem_srcK.1 hm).1; omega
    have q1 : (ints s.fl.k)[(j : Int).toNat]? = some [AV.i (s.fl.k.getD j 0)] := ints_gI (l := s.fl.k) (j := (j : Int)) 0 hlt rfl
    have ch := rhas_c (walkP s.fl) (j : Int) hWa (by omega)
    unfold srcB at hs
    generalize hT : srcK s.fl (walkP s.fl) (j + 1) = T1 at *
    generalize srcK s.fl (walkP s.fl) j = T0 at *
    generalize s.fl.k.getD j 0 = y at *
    by_cases hy : y = 0
    · subst hy
      rw [decide_eq_false (by simp), Bool.false_and, if_neg (by decide)] at hs
      repeat' (first|refine wS ?_|refine wB ?_|refine wK ?_|refine wT ?_|refine wU ?_|(refine rg 5 ?_;refine vV (by exact fs_lssT rfl rfl (by omega)) ?_)|(refine rg 6 ?_;refine mV ?_;refine vV (by exact fs_indexRowE T rfl rfl rfl rfl rfl (by omega) (ints_len _) q1) ?_;refine lV T ?_;refine aV ?_;refine aV ?_)|(refine rg 7 ?_;(all_goals (refine mV ?_;refine vV (by exact fs_neqF rfl rfl rfl) ?_;refine mV ?_));(all_goals (refine gK ?_));(all_goals (iterate 4 refine gF ?_));(all_goals (refine pV ?_)))|(refine rg 10 ?_;refine vV (by exact fs_addr rfl rfl (by omega) (by omega)) ?_;refine mV ?_)|refine nZ ?_)
      all_goals exact ⟨⟨j + 1, hlt⟩, by dsimp only; omega, [0, 1, 2], rfl, ⟨rfl, rfl, rfl, by dsimp only; rw [hT, hs]; rfl, rfl, rfl, rfl, trivial⟩, ⟨.inr rfl, .inr (sub_map rfl (by dsimp only; rw [hT, hs]) (by dsimp only; rw [hT, hs]) (z0_idf _)), .inr (sub_arr rfl (by dsimp only; rw [hT, hs]) (nats_idf _)), trivial⟩, by decide, fun _ hi => absurd hi (Nat.not_lt_zero _)⟩
    · rw [decide_eq_true hy, Bool.true_and] at hs
      by_cases hm : (j : Int) ∈ walkP s.fl
      · rw [decide_eq_true hm] at hs ch
        rw [if_neg (by decide)] at hs
        repeat' (first|refine wS ?_|refine wB ?_|refine wK ?_|refine wT ?_|refine wU ?_|(refine rg 5 ?_;refine vV (by exact fs_lssT rfl rfl (by omega)) ?_)|(refine rg 6 ?_;refine mV ?_;refine vV (by exact fs_indexRowE T rfl rfl rfl rfl rfl (by omega) (ints_len _) q1) ?_;refine lV T ?_;refine aV ?_;refine aV ?_)|(refine rg 7 ?_;(all_goals (refine mV ?_;refine vV (by exact fs_neqT rfl rfl hy) ?_;refine mV ?_));(all_goals (refine gK ?_));(all_goals (refine gT ?_;(refine mV ?_);refine gT ?_;(refine mV ?_);refine gT ?_;(refine vV (by exact kC (ch)) ?_);refine gT ?_;(refine vV (by exact fs_not rfl) ?_)));(all_goals (refine pV ?_)))|(refine rg 10 ?_;refine vV (by exact fs_addr rfl rfl (by omega) (by omega)) ?_;refine mV ?_)|refine nZ ?_)
        all_goals exact ⟨⟨j + 1, hlt⟩, by dsimp only; omega, [0, 1, 2], rfl, ⟨rfl, rfl, rfl, by dsimp only; rw [hT, hs]; rfl, rfl, rfl, rfl, trivial⟩, ⟨.inr rfl, .inr (sub_map rfl (by dsimp only; rw [hT, hs]) (by dsimp only; rw [hT, hs]) (z0_idf _)), .inr (sub_arr rfl (by dsimp only; rw [hT, hs]) (nats_idf _)), trivial⟩, by decide, fun _ hi => absurd hi (Nat.not_lt_zero _)⟩
      · rw [decide_eq_false hm] at hs ch
        rw [if_pos (by decide)] at hs
        repeat' (first|refine wS ?_|refine wB ?_|refine wK ?_|refine wT ?_|(refine rg 5 ?_;refine vV (by exact fs_lssT rfl rfl (by omega)) ?_)|(refine rg 6 ?_;refine mV ?_;refine vV (by exact fs_indexRowE T rfl rfl rfl rfl rfl (by omega) (ints_len _) q1) ?_;refine lV T ?_;refine aV ?_;refine aV ?_)|(refine rg 7 ?_;(all_goals (refine mV ?_;refine vV (by exact fs_neqT rfl rfl hy) ?_;refine mV ?_));(all_goals (refine gK ?_));(all_goals (refine gT ?_;(refine mV ?_);refine gT ?_;(refine mV ?_);refine gT ?_;(refine vV (by exact kC (ch)) ?_);refine gT ?_;(refine vV (by exact fs_not rfl) ?_)));(all_goals (refine pV ?_)))|(refine rg 8 ?_;refine mV ?_;refine mV ?_;refine vc_mapNew mapII intK rfl rfl (isv_i _) rfl rfl (dk_good _) (good_i _) hno ?_)|(refine rg 9 ?_;refine mV ?_;refine mV ?_;refine vc_n (by exact fs_buildSlice T rfl rfl (by decide) (by decide) rfl rfl rfl) rfl ?_;refine vc_append T rfl rfl rfl rfl rfl rfl (by simp) (Elems.whole rfl rfl) rfl (by simp;omega) (by simp;omega) rfl ?_;refine aV ?_)|(refine rg 10 ?_;refine vV (by exact fs_addr rfl rfl (by omega) (by omega)) ?_;refine mV ?_)|refine nZ ?_)
        all_goals exact ⟨⟨j + 1, hlt⟩, by dsimp only; omega, [0, 1, 4], rfl, ⟨rfl, rfl, rfl, by dsimp only; rw [hT, hs, List.length_append]; rfl, rfl, rfl, rfl, trivial⟩, ⟨.inr rfl, .inr (sub_map rfl (by dsimp only; rw [hT, hs]; simp) (by dsimp only; rw [hT, hs]; simp) (z0_idf _)), .inr (sub_arr rfl (by dsimp only; rw [hT, hs]; simp; exact List.take_of_length_le (by simp)) (nats_idf _)), trivial⟩, by decide, fun _ hi => absurd hi (Nat.not_lt_zero _)⟩
  obtain rfl : j = s.fl.k.length := by omega
  repeat' (first|refine wS ?_|refine wB ?_|refine wE ?_|refine wU ?_|(refine rg 5 ?_;refine vV (by exact fs_lssF rfl rfl (by omega)) ?_)|refine nZ ?_)
  -- the search
  have hok : ∀ c, c ∈ srcF s.fl → c < s.fl.k.length ∧ okN s.fl c = true := fun c hc => by
    obtain ⟨h1, h2, _⟩ := src_iff.1 hc
    exact ⟨h1, by unfold okN; exact decide_eq_true h2⟩
  have hsnd := srcK_nd s.fl (walkP s.fl) s.fl.k.length
  obtain ⟨g1, g2, g3⟩ := start_srch (N := s.fl.k.length) (mv := bvN s.fl) (ok := okN s.fl) (srcF s.fl) hsrc
  have hi0 := fromH_inv (N := s.fl.k.length) (mv := bvN s.fl) (ok := okN s.fl) _ (srcF s.fl) rfl hsrc
  have e0 : (fromH (srcF s.fl) (startH s.fl.k.length (okN s.fl))).1 = fromM (srcF s.fl) (startS s.fl.k.length (okN s.fl)) := fromH_1 _ _
  rw [← e0] at g1 g2 g3
  obtain ⟨l1, l2⟩ := from_list (N := s.fl.k.length) (mv := bvN s.fl) (ok := okN s.fl) _ (srcF s.fl) rfl hok hsnd
  have hz := z0_dv (from_zero (N := s.fl.k.length) (mv := bvN s.fl) (ok := okN s.fl) hok hsnd)
  generalize fromH (srcF s.fl) (startH s.fl.k.length (okN s.fl)) = x0 at *
  refine aw_loop (X := {x : SH × List Nat × Nat // Srch s.fl.k.length (bvN s.fl) (okN s.fl) (· ∈ srcF s.fl) x.1.1 ∧ HInv s.fl.k.length x.1 ∧ roomS x.1.1 ≤ x.2.2 ∧ x.2.2 ≤ s.fl.k.length ∧ bfsH (bvN s.fl) x.2.2 x.1 = F ∧ ∀ k, k < s.fl.k.length → x.1.1.out.getD k (-1) + x.2.2 ≤ s.fl.k.length})
    (fun x => [(1, .ptr 0 0), (3, .rowE (ints (walkP s.fl)) 1), (4, .mp 1), (5, .sl 2 x.1.2.1.length x.1.1.1.q.length 1)])
    (fun x => [.cells (sitA s), .mapO (dkA x.1.1.2) (dvA x.1.1.1.out x.1.1.2), .arr (nats (x.1.2.1 ++ x.1.1.1.q)) 1]) (fun x => x.1.2.2) ⟨(x0, [], s.fl.k.length), g1, hi0, g2, Nat.le_refl _, hF0.symm, fun k hk => by have := g3 k hk; dsimp only; omega⟩
    ⟨[0, 1, 2], rfl, ⟨rfl, rfl, rfl, by dsimp only; rw [l2]; rfl, trivial⟩, ⟨.inr rfl, .inr (sub_map rfl (by dsimp only; rw [l1]) (by dsimp only; rw [l1]; exact hz.symm) (dv_idf _ _)), .inr (sub_arr rfl (by dsimp only; rw [l2]; rfl) (nats_idf _)), trivial⟩, by decide, fun _ hi => absurd hi (Nat.not_lt_zero _)⟩ ?_
  clear g1 g2 g3 l1 l2 hz hi0 e0
  rintro ⟨⟨⟨⟨op, out, q⟩, hist⟩, pre, fuel⟩, h1, hh1, h2, h3, h4, h5⟩
  simp only at h1 h2 h3 h4 h5
  dsimp only
  have lu : out.length = s.fl.k.length := h1.inv.lu
  cases q with
  | nil =>
    have e : F = (⟨op, out, []⟩, hist) := by rw [← h4]; cases fuel <;> rfl
    rw [e] at hFo hinv
    dsimp only at hFo hinv
    subst hFo
    have hnd := hinv.nd
    have hmem := hinv.mem
    clear h1 hh1 h2 h3 h4 h5 e
    repeat' (first|refine wS ?_|refine wB ?_|refine wE ?_|refine wU ?_|(refine rg 11 ?_;refine mV ?_;(refine qV T ?_);refine vV (by exact fs_gtr rfl rfl) ?_)|(refine rg 22 ?_;refine vc_n (by exact fs_mapNew) rfl ?_;refine aV ?_)|(refine rg 23 ?_;refine mV ?_;(refine qV T ?_);refine mV ?_)|refine nZ ?_)
    have hwl : (ints (walkP s.fl)).length = (walkP s.fl).length := ints_length _
    refine aw_loop (X := {j : Nat // j ≤ (walkP s.fl).length}) (fun j => [(1, .ptr 0 0), (4, .mp 1), (13, .mp 2), (95, .rowE (ints (walkP s.fl)) 1), (96, .i (walkP s.fl).length), (97, .i (j.1 : Int))])
      (fun j => [.cells (sitA s), .mapO (dkA hist) (dvA (offO s.fl) hist), .mapO (okA (offL s.fl ((walkP s.fl).take j.1))) (ovA (offL s.fl ((walkP s.fl).take j.1)))]) (fun j => (walkP s.fl).length - j.1) ⟨0, Nat.zero_le _⟩ ⟨[0, 1, 3], rfl, ⟨rfl, rfl, rfl, rfl, congrArg (fun n : Nat => some (AV.i n)) hwl, rfl, trivial⟩, ⟨.inr rfl, .inr (sub_map rfl rfl rfl (dv_idf _ _)), .inr (sub_map rfl rfl rfl (ov_idf _)), trivial⟩, by decide, fun _ hi => absurd hi (Nat.not_lt_zero _)⟩ ?_
    rintro ⟨j, hj⟩
    dsimp only
    by_cases hlt : j < (walkP s.fl).length
    · have htk := List.take_succ_eq_append_getElem hlt
      have q1 : (ints (walkP s.fl))[(j : Int).toNat]? = some [AV.i (walkP s.fl)[j]] := by rw [Int.toNat_natCast]; exact ints_get hlt
      have hcr := hWr _ (List.getElem_mem hlt)
      have hcno : (walkP s.fl)[j] ∉ (walkP s.fl).take j := fun hm => by
        obtain ⟨i, hi, he⟩ := List.mem_iff_getElem.1 hm
        rw [List.getElem_take] at he
        rw [List.length_take] at hi
        have := (List.getElem_inj hWn).1 he
        omega
      generalize (walkP s.fl)[j] = x at *
      obtain ⟨c, rfl⟩ := Int.eq_ofNat_of_zero_le hcr.1
      have hc : c < s.fl.k.length := by omega
      have hos := offL_snoc s.fl ((walkP s.fl).take j) (c : Int)
      rw [Int.toNat_natCast] at hos
      have hno := offL_no (f := s.fl) hcno
      by_cases hkn : kn hist (c : Int) = true
      · have hcm : c ∈ hist := by unfold kn at hkn; simpa using (of_decide_eq_true hkn).2
        have h0 := (hmem c hc).1 hcm
        rw [if_pos h0] at hos
        repeat' (first|refine wS ?_|refine wB ?_|refine wK ?_|refine wT ?_|refine wU ?_|(refine rg 24 ?_;refine vV (by exact fs_lssT rfl rfl (by omega)) ?_)|(refine rg 25 ?_;refine vV (by exact fs_indexRowE T rfl rfl rfl rfl rfl (by omega) (ints_len _) q1) ?_;refine lV T ?_;refine aV ?_)|(refine rg 26 ?_;refine mV ?_;refine mV ?_;refine vV (by exact fs_dkTO (c := c) hnd hcm rfl rfl rfl) ?_;refine mV ?_;refine xV ?_;refine xV ?_;refine aV ?_;refine aV ?_)|(refine rg 27 ?_;refine mV ?_;refine vV (by exact fs_not rfl) ?_)|(refine rg 28 ?_;refine mV ?_;refine vc_n (by exact fs_buildSlice T rfl rfl (by decide) (by decide) rfl rfl rfl) rfl ?_;refine aV ?_)|(refine rg 29 ?_;refine mV ?_;refine aV ?_)|refine nZ ?_)
        refine aw_loop (X := {p : Nat × List Int × Nat // p.1 < s.fl.k.length ∧ offD s.fl p.1 = p.2.2 ∧ p.1 ∈ hist ∧ p.2.1 ++ wayT s.fl (offO s.fl) p.2.2 p.1 = offW s.fl c}) (fun p => [(1, .ptr 0 0), (4, .mp 1), (13, .mp 2), (15, .i (c : Int)), (18, .sl 3 0 p.1.2.1.length 1), (19, .i (p.1.1 : Int)), (95, .rowE (ints (walkP s.fl)) 1), (96, .i (walkP s.fl).length), (97, .i (j : Int))])
          (fun p => [.cells (sitA s), .mapO (dkA hist) (dvA (offO s.fl) hist), .mapO (okA (offL s.fl ((walkP s.fl).take j))) (ovA (offL s.fl ((walkP s.fl).take j))), .arr (ints p.1.2.1) 1]) (fun p => p.1.2.2) ⟨(c, [(c : Int)], (offD s.fl c).toNat), hc, (Int.toNat_of_nonneg h0).symm, hcm, rfl⟩
          ⟨[0, 1, 2, 3], rfl, ⟨rfl, rfl, rfl, rfl, rfl, rfl, rfl, rfl, rfl, trivial⟩, ⟨.inr rfl, .inr (sub_map rfl rfl rfl (dv_idf _ _)), .inr (sub_map rfl rfl rfl (ov_idf _)), .inr (sub_arr rfl rfl (ints_idf _)), trivial⟩, by decide, fun _ hi => absurd hi (Nat.not_lt_zero _)⟩ ?_
        rintro ⟨⟨x, d, n⟩, hx, hxd, hxm, hway⟩
        dsimp only at hx hxd hxm hway
        dsimp only
        have hdl : d.length + n = (offD s.fl c).toNat + 1 := by have := congrArg List.length hway; rw [List.length_append, wayT_len, offW_len] at this; exact this
        have hcl := hole c hc
        have hge := (hmem x hx).1 hxm
        cases n with
        | zero =>
          have hde : d = offW s.fl c := by rw [← hway]; simp [wayT]
          subst hde
          have hxd : (offO s.fl).getD x (-1) = 0 := hxd
          repeat' (first|refine wS ?_|refine wE ?_|(refine wC rfl (fun hb=>?_) (fun hb=>?_)<;>(((try simp only [nm] at hb);try (exfalso;omega))))|(refine rg 30 ?_;refine mV ?_;refine mV ?_;refine vV (by exact fs_dist1O hnd hxm rfl rfl rfl) ?_;refine vV (by exact fs_gtr rfl rfl) ?_)|refine nZ ?_)
          refine aw_frz 18 rfl rfl (by simp) (idfL_flat (ints_idf _)) ?_
          repeat' (first|(refine rg 33 ?_;refine mV ?_;refine mV ?_;refine mV ?_;refine vc_mapNew mapIS intK rfl rfl (isv_i _) rfl rfl (ok_good _) (good_i _) hno ?_)|(refine rg 34 ?_;refine vV (by exact fs_addr rfl rfl (by omega) (by omega)) ?_;refine mV ?_)|refine nZ ?_)
          all_goals exact ⟨⟨j + 1, hlt⟩, by dsimp only; omega, [0, 1, 2], rfl, ⟨rfl, rfl, rfl, rfl, rfl, rfl, trivial⟩, ⟨.inr rfl, .inr (sub_map rfl rfl rfl (dv_idf _ _)), .inr (sub_map rfl (by dsimp only; rw [htk, hos]; simp) (by dsimp only; rw [htk, hos]; simp) (ov_idf _)), trivial⟩, by decide, fun _ hi => absurd hi (Nat.not_lt_zero _)⟩
        | succ n =>
          have hxd : (offO s.fl).getD x (-1) = ((n + 1 : Nat) : Int) := hxd
          obtain ⟨y1, y2, _⟩ := down_near g hfar (c := x) hx (by show 0 < (offO s.fl).getD x (-1); omega)
          have hdw := down_c s g (out := offO s.fl) hnd hmem hole hx hxm
          have hym : downN s.fl (offO s.fl) x ∈ hist := (hmem _ y1).2 (by rw [y2]; omega)
          have hwt : wayT s.fl (offO s.fl) (n + 1) x = (downN s.fl (offO s.fl) x : Int) :: wayT s.fl (offO s.fl) n (downN s.fl (offO s.fl) x) := rfl
          rw [hwt] at hway
          generalize downN s.fl (offO s.fl) x = y at *
          repeat' (first|refine wS ?_|refine wB ?_|refine wK ?_|(refine wC rfl (fun hb=>?_) (fun hb=>?_)<;>(((try simp only [nm] at hb);try (exfalso;omega))))|(refine rg 30 ?_;refine mV ?_;refine mV ?_;refine vV (by exact fs_dist1O hnd hxm rfl rfl rfl) ?_;refine vV (by exact fs_gtr rfl rfl) ?_)|(refine rg 32 ?_;(all_goals (refine lV T ?_;refine mV ?_;refine mV ?_));(all_goals (refine vV (by exact fs_callb0 rfl rfl hdw (.cons (.agg (by repeat (first|exact .nil|exact .v _|exact .row _ _ _|refine .cons ?_ ?_))) (.cons (.mp rfl (dv_view _ _)) (.cons (.v _) .nil))) rfl rfl) ?_));(all_goals (refine aV ?_)))|(refine rg 31 ?_;refine mV ?_;refine mV ?_;refine vc_n (by exact fs_buildSlice T rfl rfl (by decide) (by decide) rfl rfl rfl) rfl ?_;refine vc_append T rfl rfl rfl rfl rfl rfl (by simp) (Elems.whole rfl rfl) rfl (by simp;omega) (by simp;omega) rfl ?_;refine aV ?_)|refine nZ ?_)
          all_goals exact ⟨⟨(y, d ++ [(y : Int)], n), y1, by dsimp only; show (offO s.fl).getD y (-1) = _; rw [y2, hxd]; omega, hym, by dsimp only; rw [List.append_assoc]; exact hway⟩, by dsimp only; omega, [0, 1, 2, 5], rfl, ⟨rfl, rfl, rfl, rfl, by dsimp only; rw [List.length_append]; rfl, rfl, rfl, rfl, rfl, trivial⟩, ⟨.inr rfl, .inr (sub_map rfl rfl rfl (dv_idf _ _)), .inr (sub_map rfl rfl rfl (ov_idf _)), .inr (sub_arr rfl ints_app (ints_idf _)), trivial⟩, by decide, fun _ hi => absurd hi (Nat.not_lt_zero _)⟩
      · have hkn : kn hist (c : Int) = false := by simpa using hkn
        have hcm : c ∉ hist := by unfold kn at hkn; simpa using of_decide_eq_false hkn
        have hci : kI (c : Int) ∉ dkA hist := dk_no fun c' e hm' => hcm (by rw [show c = c' by omega]; exact hm')
        rw [if_neg (fun q => hcm ((hmem c hc).2 q))] at hos
        repeat' (first|refine wS ?_|refine wB ?_|refine wK ?_|refine wE ?_|refine wT ?_|(refine rg 24 ?_;refine vV (by exact fs_lssT rfl rfl (by omega)) ?_)|(refine rg 25 ?_;refine vV (by exact fs_indexRowE T rfl rfl rfl rfl rfl (by omega) (ints_len _) q1) ?_;refine lV T ?_;refine aV ?_)|(refine rg 26 ?_;refine mV ?_;refine mV ?_;refine vV (by exact fs_dkFO (c := (c : Int)) hci rfl rfl rfl) ?_;refine mV ?_;refine xV ?_;refine xV ?_;refine aV ?_;refine aV ?_)|(refine rg 27 ?_;refine mV ?_;refine vV (by exact fs_not rfl) ?_)|(refine rg 34 ?_;refine vV (by exact fs_addr rfl rfl (by omega) (by omega)) ?_;refine mV ?_)|refine nZ ?_)
        all_goals exact ⟨⟨j + 1, hlt⟩, by dsimp only; omega, [0, 1, 2], rfl, ⟨rfl, rfl, rfl, rfl, rfl, rfl, trivial⟩, ⟨.inr rfl, .inr (sub_map rfl rfl rfl (dv_idf _ _)), .inr (sub_map rfl (by dsimp only; rw [htk, hos]) (by dsimp only; rw [htk, hos]) (ov_idf _)), trivial⟩, by decide, fun _ hi => absurd hi (Nat.not_lt_zero _)⟩
    · obtain rfl : j = (walkP s.fl).length := by omega
      rw [List.take_length]
      repeat' (first|refine wS ?_|refine wR ?_|refine wE ?_|refine wU ?_|(refine rg 24 ?_;refine vV (by exact fs_lssF rfl rfl (by omega)) ?_)|(refine rg 35 ?_;refine mV ?_;refine aV ?_)|refine nZ ?_)
      all_goals exact ⟨.inl rfl, [2], _, rfl, rfl, rfl, ⟨.inr (sub_map rfl rfl rfl (ov_idf _)), trivial⟩, by decide, fun _ hi => absurd hi (Nat.not_lt_zero _)⟩
  | cons c r' =>
    have hcr : (c :: r').length = r'.length + 1 := rfl
    have hrm : roomS ⟨op, out, c :: r'⟩ = roomS ⟨op, out, r'⟩ + 1 := by unfold roomS; simp; omega
    obtain ⟨k, rfl⟩ : ∃ k, fuel = k + 1 := ⟨fuel - 1, by omega⟩
    have m0 := h1.pop rfl
    have hc := m0.hc
    repeat' (first|refine wS ?_|refine wB ?_|refine wK ?_|(refine wC rfl (fun hb=>?_) (fun hb=>?_)<;>(((try simp only [nm] at hb);try (exfalso;omega))))|(refine rg 11 ?_;refine mV ?_;(refine qV T ?_);refine vV (by exact fs_gtr rfl rfl) ?_)|(refine rg 13 ?_;refine mV ?_)|refine nZ ?_)
    refine aw_loop (X := {x : SH × List Nat × Nat // Mid s.fl.k.length (bvN s.fl) (okN s.fl) (· ∈ srcF s.fl) c x.2.2 x.1.1 ∧ HInv s.fl.k.length x.1 ∧ x.2.2 ≤ 6 ∧ (List.range' x.2.2 (6 - x.2.2)).foldl (tryH (bvN s.fl) c) x.1 = expandH (bvN s.fl) c (⟨op, out, r'⟩, hist) ∧ roomS x.1.1 ≤ k ∧ (∀ y, y < s.fl.k.length → x.1.1.out.getD y (-1) ≤ s.fl.k.length - k) ∧ x.1.1.out.getD c (-1) + 1 ≤ s.fl.k.length - k})
      (fun x => [(1, .ptr 0 0), (3, .rowE (ints (walkP s.fl)) 1), (4, .mp 1), (5, .sl 2 x.1.2.1.length (c :: x.1.1.1.q).length 1), (52, .i x.1.2.2)])
      (fun x => [.cells (sitA s), .mapO (dkA x.1.1.2) (dvA x.1.1.1.out x.1.1.2), .arr (nats (x.1.2.1 ++ c :: x.1.1.1.q)) 1]) (fun x => 6 - x.1.2.2) ⟨((⟨op, out, r'⟩, hist), pre, 0), m0, ⟨hh1.nd, hh1.lt, hh1.mem⟩, Nat.zero_le _, by unfold expandH; rw [List.range_eq_range'] <;> rfl, by dsimp only; omega, fun y hy => by have := h5 y hy; dsimp only; omega, by have := h5 c hc; dsimp only; omega⟩
      ⟨[0, 1, 2], rfl, ⟨rfl, rfl, rfl, rfl, rfl, trivial⟩, ⟨.inr rfl, .inr (sub_map rfl rfl rfl (dv_idf _ _)), .inr (sub_arr rfl rfl (nats_idf _)), trivial⟩, by decide, fun _ hi => absurd hi (Nat.not_lt_zero _)⟩ ?_
    rintro ⟨⟨⟨⟨op', out', q'⟩, hist'⟩, pre', d⟩, m1, hm1, m2, m3, m4, m5, m6⟩
    simp only at m1 m2 m3 m4 m5 m6
    dsimp only
    have lu' : out'.length = s.fl.k.length := m1.inv.lu
    have m0' : 0 ≤ out'.getD c (-1) := m1.h0
    have hq : q'.length ≤ 300 := by unfold roomS at m4; simp only at m4; omega
    have hnd' := hm1.nd
    have e1 : (nats (pre' ++ c :: q'))[pre'.length + (0 : Int).toNat]? = some [AV.i (c : Int)] := by simp
    by_cases hd : d < 6
    · have hcm := back_n g c d
      have hcmm := (hm1.mem c hc).2 m0'
      have n1 := m1.next (bvN_lt g) hd
      obtain ⟨n2, n3⟩ := m1.bound (bvN_lt g) m5 m6
      have n4 : (List.range' (d + 1) (6 - (d + 1))).foldl (tryH (bvN s.fl) c) (tryH (bvN s.fl) c (⟨op', out', q'⟩, hist') d) = expandH (bvN s.fl) c (⟨op, out, r'⟩, hist) := by
        rw [← m3, show 6 - d = (6 - (d + 1)) + 1 by omega, List.range'_succ, List.foldl_cons]
      have n5 : roomS (tryM (bvN s.fl) c ⟨op', out', q'⟩ d) ≤ k := by rw [room_try]; exact m4
      have n6 : (tryM (bvN s.fl) c ⟨op', out', q'⟩ d).out.getD c (-1) + 1 ≤ s.fl.k.length - k := by rw [n3]; exact m6
      have nh : HInv s.fl.k.length (tryH (bvN s.fl) c (⟨op', out', q'⟩, hist') d) := by
        unfold tryH
        cases hm : bvN s.fl c d with
        | none => exact hm1
        | some n =>
          have hn := bvN_lt g c d n hc hm
          exact hm1.reach hn lu' (by dsimp only; omega) (fun ho => ((m1.inv.opn n hn).1 ho).2)
      have nx : ∀ s', tryH (bvN s.fl) c (⟨op', out', q'⟩, hist') d = s' → Mid s.fl.k.length (bvN s.fl) (okN s.fl) (· ∈ srcF s.fl) c (d + 1) s'.1 ∧ HInv s.fl.k.length s' ∧ d + 1 ≤ 6 ∧ (List.range' (d + 1) (6 - (d + 1))).foldl (tryH (bvN s.fl) c) s' = expandH (bvN s.fl) c (⟨op, out, r'⟩, hist) ∧ roomS s'.1 ≤ k ∧ (∀ y, y < s.fl.k.length → s'.1.out.getD y (-1) ≤ s.fl.k.length - k) ∧ s'.1.out.getD c (-1) + 1 ≤ s.fl.k.length - k := by
        rintro s' rfl
        have e : (tryH (bvN s.fl) c (⟨op', out', q'⟩, hist') d).1 = tryM (bvN s.fl) c ⟨op', out', q'⟩ d := tryH_1
        rw [e]
        exact ⟨n1, nh, hd, n4, n5, n2, n6⟩
      clear nh n1 n2 n3 n4 n5 n6
      unfold tryH at nx
      cases hm : bvN s.fl c d with
      | none =>
        rw [hm] at hcm nx
        repeat' (first|refine wS ?_|refine wB ?_|refine wK ?_|refine wT ?_|refine wU ?_|(refine rg 14 ?_;refine vV (by exact fs_lssT rfl rfl (by omega)) ?_)|(refine rg 15 ?_;refine mV ?_;refine aV ?_)|(((refine aw_draw2k (id := 16) 129 [[],[0],[],[2],[2,3],[],[0,1,2,3,4,5],[0,1,2,3,4,5,6],[0,1,2,3,4,5,6,7],[0,1,2,3,4,5,6,7],[0,1,2,3,4,5,6,7,8]] [56,57,58,59,60,61,62,55,63,64,9] [[],[],[56,57],[56,57],[56,57],[56,57,58,59,60],[],[],[],[63],[64]] mixedP rfl (by decide +kernel) ?_));(all_goals (refine dV rfl (by exact fs_fieldAddr T rfl rfl rfl) ?_));(all_goals (refine dV rfl (by exact fs_load T rfl rfl rfl rfl) ?_));(all_goals (refine dV rfl (by exact fs_move rfl) ?_));(all_goals (refine dV rfl (by exact fs_indexOwn T rfl rfl rfl rfl rfl (by omega) (by simp)) ?_));(all_goals (refine dV rfl (by exact fs_load T rfl rfl (behind_ep rfl e1) rfl) ?_));(all_goals (refine dV rfl (by exact fs_move rfl) ?_));(all_goals (refine dV rfl (by exact kC (hcm)) ?_));(all_goals (refine dV rfl (by exact fs_move rfl) ?_));(all_goals (refine dV rfl (by exact fs_extract rfl rfl) ?_));(all_goals (refine dV rfl (by exact fs_extract rfl rfl) ?_));(all_goals (refine dV rfl (by exact fs_assign rfl) ?_));(all_goals (refine dw_fin rfl rfl (by ((dsimp only [ln1,ln2,List.append_nil,ln4,ln5,ln6,ln7,ln8,ln9,putAt,putd,allObjs,argEnv,un_v,un_ptr,un_ep,un_pr,un_sl,un_mp,un_row,un_agg,un_tup,un_clo,Nat.zero_add,lnb,Nat.reduceAdd,lnc,lnd];done))) ?_;refine aV ?_)))|(refine rg 17 ?_;refine mV ?_;refine mV ?_;refine vV (by exact fs_distO hnd' rfl rfl rfl) ?_;refine mV ?_;refine xV ?_;refine xV ?_;refine aV ?_;refine aV ?_)|(refine rg 18 ?_;(all_goals (refine mV ?_;refine mV ?_));(all_goals (refine gK ?_));(all_goals (iterate 2 refine gF ?_));(all_goals ((refine pV ?_);refine mV ?_));(all_goals (refine gK ?_));(all_goals (iterate 3 refine gF ?_));(all_goals (refine pV ?_)))|(refine rg 21 ?_;refine vV (by exact fs_addr rfl rfl (by omega) (by omega)) ?_;refine mV ?_)|refine nZ ?_)
        all_goals exact ⟨⟨((⟨op', out', q'⟩, hist'), pre', d + 1), nx _ rfl⟩, by dsimp only; omega, [0, 1, 2], rfl, (by (repeat (first | exact trivial | refine ⟨rfl, ?_⟩))), ⟨.inr rfl, .inr (sub_map rfl rfl rfl (dv_idf _ _)), .inr (sub_arr rfl rfl (nats_idf _)), trivial⟩, by decide, fun _ hi => absurd hi (Nat.not_lt_zero _)⟩
      | some n =>
        have hn := bvN_lt g c d n hc hm
        have hokn : okN s.fl n = true := by unfold okN; exact decide_eq_true (bv_wall g hm)
        have hopn := m1.inv.opn n hn
        have hmemn := hm1.mem n hn
        simp only at hopn hmemn
        rw [hm] at hcm nx
        simp only at nx
        unfold reachH at nx
        by_cases hkn : kn hist' (n : Int) = true
        · have hnm : n ∈ hist' := by unfold kn at hkn; simpa using (of_decide_eq_true hkn).2
          have hop : op'.getD n false = false := by
            cases hop : op'.getD n false with
            | false => rfl
            | true => have := (hopn.1 hop).2; have := hmemn.1 hnm; omega
          rw [if_neg (by simp only; rw [hop]; decide)] at nx
          repeat' (first|refine wS ?_|refine wB ?_|refine wK ?_|refine wT ?_|refine wU ?_|(refine rg 14 ?_;refine vV (by exact fs_lssT rfl rfl (by omega)) ?_)|(refine rg 15 ?_;refine mV ?_;refine aV ?_)|(((refine aw_draw2k (id := 16) 129 [[],[0],[],[2],[2,3],[],[0,1,2,3,4,5],[0,1,2,3,4,5,6],[0,1,2,3,4,5,6,7],[0,1,2,3,4,5,6,7],[0,1,2,3,4,5,6,7,8]] [56,57,58,59,60,61,62,55,63,64,9] [[],[],[56,57],[56,57],[56,57],[56,57,58,59,60],[],[],[],[63],[64]] mixedP rfl (by decide +kernel) ?_));(all_goals (refine dV rfl (by exact fs_fieldAddr T rfl rfl rfl) ?_));(all_goals (refine dV rfl (by exact fs_load T rfl rfl rfl rfl) ?_));(all_goals (refine dV rfl (by exact fs_move rfl) ?_));(all_goals (refine dV rfl (by exact fs_indexOwn T rfl rfl rfl rfl rfl (by omega) (by simp)) ?_));(all_goals (refine dV rfl (by exact fs_load T rfl rfl (behind_ep rfl e1) rfl) ?_));(all_goals (refine dV rfl (by exact fs_move rfl) ?_));(all_goals (refine dV rfl (by exact kC (hcm)) ?_));(all_goals (refine dV rfl (by exact fs_move rfl) ?_));(all_goals (refine dV rfl (by exact fs_extract rfl rfl) ?_));(all_goals (refine dV rfl (by exact fs_extract rfl rfl) ?_));(all_goals (refine dV rfl (by exact fs_assign rfl) ?_));(all_goals (refine dw_fin rfl rfl (by ((dsimp only [ln1,ln2,List.append_nil,ln4,ln5,ln6,ln7,ln8,ln9,putAt,putd,allObjs,argEnv,un_v,un_ptr,un_ep,un_pr,un_sl,un_mp,un_row,un_agg,un_tup,un_clo,Nat.zero_add,lnb,Nat.reduceAdd,lnc,lnd];done))) ?_;refine aV ?_)))|(refine rg 17 ?_;refine mV ?_;refine mV ?_;refine vV (by exact fs_dkTO (c := n) hnd' hnm rfl rfl rfl) ?_;refine mV ?_;refine xV ?_;refine xV ?_;refine aV ?_;refine aV ?_)|(refine rg 18 ?_;(all_goals (refine mV ?_;refine mV ?_));(all_goals (refine gK ?_));(all_goals (refine gT ?_;(refine mV ?_);refine gT ?_;(refine vV (by exact fs_not rfl) ?_)));(all_goals ((refine pV ?_);refine mV ?_));(all_goals (refine gK ?_));(all_goals (iterate 3 refine gF ?_));(all_goals (refine pV ?_)))|(refine rg 21 ?_;refine vV (by exact fs_addr rfl rfl (by omega) (by omega)) ?_;refine mV ?_)|refine nZ ?_)
          all_goals exact ⟨⟨((⟨op', out', q'⟩, hist'), pre', d + 1), nx _ rfl⟩, by dsimp only; omega, [0, 1, 2], rfl, (by (repeat (first | exact trivial | refine ⟨rfl, ?_⟩))), ⟨.inr rfl, .inr (sub_map rfl rfl rfl (dv_idf _ _)), .inr (sub_arr rfl rfl (nats_idf _)), trivial⟩, by decide, fun _ hi => absurd hi (Nat.not_lt_zero _)⟩
        · have hkn : kn hist' (n : Int) = false := by simpa using hkn
          have hnm : n ∉ hist' := by unfold kn at hkn; simpa using of_decide_eq_false hkn
          have hlt0 : out'.getD n (-1) < 0 := by have : ¬ 0 ≤ out'.getD n (-1) := fun q => hnm (hmemn.2 q); omega
          have hop : op'.getD n false = true := hopn.2 ⟨hokn, hlt0⟩
          rw [if_pos hop] at nx
          have hnW : (n : Int) ∈ walkP s.fl := by
            by_cases q : (n : Int) ∈ walkP s.fl
            · exact q
            · exfalso
              have hw : wkB s.fl n = false := by
                cases h : wkB s.fl n with
                | false => rfl
                | true => exact absurd (mem_walk.2 ⟨by omega, by omega, by rw [Int.toNat_natCast]; exact h⟩) q
              have : out'.getD n (-1) = 0 := m1.all n hn hokn (src_iff.2 ⟨hn, bv_wall g hm, hw⟩)
              omega
          have ch := rhas_c (walkP s.fl) (n : Int) hWa (by omega)
          rw [decide_eq_true hnW] at ch
          have hni : kI (n : Int) ∉ dkA hist' := dk_no fun c' e hm' => hnm (by rw [show n = c' by omega]; exact hm')
          have hdv := dv_snoc (out := out') (v := out'.getD c (-1) + 1) hnm (by omega)
          repeat' (first|refine wS ?_|refine wB ?_|refine wK ?_|refine wT ?_|(refine rg 14 ?_;refine vV (by exact fs_lssT rfl rfl (by omega)) ?_)|(refine rg 15 ?_;refine mV ?_;refine aV ?_)|(((refine aw_draw2k (id := 16) 129 [[],[0],[],[2],[2,3],[],[0,1,2,3,4,5],[0,1,2,3,4,5,6],[0,1,2,3,4,5,6,7],[0,1,2,3,4,5,6,7],[0,1,2,3,4,5,6,7,8]] [56,57,58,59,60,61,62,55,63,64,9] [[],[],[56,57],[56,57],[56,57],[56,57,58,59,60],[],[],[],[63],[64]] mixedP rfl (by decide +kernel) ?_));(all_goals (refine dV rfl (by exact fs_fieldAddr T rfl rfl rfl) ?_));(all_goals (refine dV rfl (by exact fs_load T rfl rfl rfl rfl) ?_));(all_goals (refine dV rfl (by exact fs_move rfl) ?_));(all_goals (refine dV rfl (by exact fs_indexOwn T rfl rfl rfl rfl rfl (by omega) (by simp)) ?_));(all_goals (refine dV rfl (by exact fs_load T rfl rfl (behind_ep rfl e1) rfl) ?_));(all_goals (refine dV rfl (by exact fs_move rfl) ?_));(all_goals (refine dV rfl (by exact kC (hcm)) ?_));(all_goals (refine dV rfl (by exact fs_move rfl) ?_));(all_goals (refine dV rfl (by exact fs_extract rfl rfl) ?_));(all_goals (refine dV rfl (by exact fs_extract rfl rfl) ?_));(all_goals (refine dV rfl (by exact fs_assign rfl) ?_));(all_goals (refine dw_fin rfl rfl (by ((dsimp only [ln1,ln2,List.append_nil,ln4,ln5,ln6,ln7,ln8,ln9,putAt,putd,allObjs,argEnv,un_v,un_ptr,un_ep,un_pr,un_sl,un_mp,un_row,un_agg,un_tup,un_clo,Nat.zero_add,lnb,Nat.reduceAdd,lnc,lnd];done))) ?_;refine aV ?_)))|(refine rg 17 ?_;refine mV ?_;refine mV ?_;refine vV (by exact fs_dkFO (c := (n : Int)) hni rfl rfl rfl) ?_;refine mV ?_;refine xV ?_;refine xV ?_;refine aV ?_;refine aV ?_)|(refine rg 18 ?_;(all_goals (refine mV ?_;refine mV ?_));(all_goals (refine gK ?_));(all_goals (refine gT ?_;(refine mV ?_);refine gT ?_;(refine vV (by exact fs_not rfl) ?_)));(all_goals ((refine pV ?_);refine mV ?_));(all_goals (refine gK ?_));(all_goals (refine gT ?_;(refine mV ?_);refine gT ?_;(refine mV ?_);refine gT ?_;(refine vV (by exact kC (ch)) ?_)));(all_goals (refine pV ?_)))|(refine rg 19 ?_;refine mV ?_;refine mV ?_;refine mV ?_;refine mV ?_;refine vV (by exact fs_indexOwn T rfl rfl rfl rfl rfl (by omega) (by simp)) ?_;refine vV (by exact fs_load T rfl rfl (behind_ep rfl e1) rfl) ?_;refine vV (by exact fs_dist1O hnd' hcmm rfl rfl rfl) ?_;refine vV (by exact fs_addr rfl rfl (by omega) (by omega)) ?_;refine vc_mapNew mapII intK rfl rfl (isv_i _) rfl rfl (dk_good _) (good_i _) hni ?_)|(refine rg 20 ?_;refine mV ?_;refine mV ?_;refine vc_n (by exact fs_buildSlice T rfl rfl (by decide) (by decide) rfl rfl rfl) rfl ?_;refine vc_append T rfl rfl rfl rfl rfl rfl (by simp) (Elems.whole rfl rfl) rfl (by simp;omega) (by simp;omega) rfl ?_;refine aV ?_)|(refine rg 21 ?_;refine vV (by exact fs_addr rfl rfl (by omega) (by omega)) ?_;refine mV ?_)|refine nZ ?_)
          all_goals exact ⟨⟨((⟨op'.set n false, out'.set n (out'.getD c (-1) + 1), q' ++ [n]⟩, hist' ++ [n]), [], d + 1), nx _ rfl⟩, by dsimp only; omega, [0, 1, 4], rfl, ⟨rfl, rfl, rfl, (by simp only [List.length_cons, List.length_append, List.length_nil]; rfl), rfl, trivial⟩, ⟨.inr rfl, .inr (sub_map rfl dk_snoc hdv (dv_idf _ _)), .inr (sub_arr rfl nats_app2 (nats_idf _)), trivial⟩, by decide, fun _ hi => absurd hi (Nat.not_lt_zero _)⟩
    · obtain rfl : d = 6 := by omega
      have m3 : ((⟨op', out', q'⟩, hist') : SH) = expandH (bvN s.fl) c (⟨op, out, r'⟩, hist) := m3
      have h4 : bfsH (bvN s.fl) k (expandH (bvN s.fl) c (⟨op, out, r'⟩, hist)) = F := h4
      repeat' (first|refine wS ?_|refine wE ?_|refine wU ?_|(refine rg 14 ?_;refine vV (by exact fs_lssF rfl rfl (by omega)) ?_)|(refine rg 12 ?_;refine mV ?_;refine vV (by exact fs_sliceOwn T rfl rfl rfl rfl rfl rfl (by omega) (by omega) (by omega)) ?_;refine aV ?_)|refine nZ ?_)
      all_goals exact ⟨⟨((⟨op', out', q'⟩, hist'), pre' ++ [c], k), m1.end, hm1, m4, by dsimp only; omega, by dsimp only; rw [m3]; exact h4, fun y hy => by have := m5 y hy; dsimp only; omega⟩, by dsimp only; omega, [0, 1, 2], rfl, ⟨rfl, rfl, rfl, (show some (AV.sl 2 (pre'.length + (1 : Int).toNat) (((q'.length + 1 : Nat) : Int) - 1).toNat 1) = some (AV.sl 2 (pre' ++ [c]).length q'.length 1) by rw [show pre'.length + (1 : Int).toNat = (pre' ++ [c]).length by simp, show (((q'.length + 1 : Nat) : Int) - 1).toNat = q'.length by omega]), trivial⟩, ⟨.inr rfl, .inr (sub_map rfl rfl rfl (dv_idf _ _)), .inr (sub_arr rfl (by simp) (nats_idf _)), trivial⟩, by decide, fun _ hi => absurd hi (Nat.not_lt_zero _)⟩
end Go.Proofs.YtjpcpbbkelgkeaaGreatDoor
namespace Go.Ab
open Go
theorem pcall_view {P : Program} {f : FuncId} {args : List AV} {Φ : AV → Hp → Prop} {Ψ : AV → Prop} (h : PCall P f args [] Φ) (hv : ∀ r o, Φ r o → ∃ r', View o r r' ∧ Ψ r') : PCall P f args [] (fun r o => o = [] ∧ Ψ r) := by
  refine ⟨h.1, fun ρ S w vs hs ha => (h.2 ρ S w vs hs ha).mono ?_⟩
  rintro e w' ⟨r, o, hΦ, y, ρ', S', rfl, h2, h3⟩
  obtain ⟨r', hv', hψ⟩ := hv _ _ hΦ
  exact ⟨r', [], ⟨rfl, hψ⟩, y, _, _, rfl, h2.view rfl, view_val h2.blk hv' h3⟩
end Go.Ab
namespace Go.Proofs.YtjpcpbbkelgkeaaGreatDoor
open Go Go.Ab Go.Fl Go.Re Go.Ln Go.MapKept
attribute [local irreducible] VC AW FStep ACall PCall AStep
set_option maxHeartbeats 4000000
def atD {α : Type} (L : List α) (d : List Nat) : List α := d.filterMap fun i => L[i]?
theorem atD_snoc {α : Type} {L : List α} {d : List Nat} {i : Nat} {e : α} (h : L[i]? = some e) : atD L (d ++ [i]) = atD L d ++ [e] := by
  unfold atD; rw [List.filterMap_append]; simp [h]
theorem atD_all {α : Type} {L : List α} {d : List Nat} (hd : d.Nodup) (hlt : ∀ i, i ∈ d → i < L.length) (hall : ∀ i, i < L.length → i ∈ d) : (atD L d).Perm L := by
  have hp : d.Perm (List.range L.length) := (List.perm_ext_iff_of_nodup hd List.nodup_range).2 fun i => by
    rw [List.mem_range]; exact ⟨hlt i, hall i⟩
  have h1 := hp.filterMap fun i => L[i]?
  have h2 : (List.range L.length).filterMap (fun i => L[i]?) = L := by
    have key : ∀ n, n ≤ L.length → (List.range n).filterMap (fun i => L[i]?) = L.take n := by
      intro n
      induction n with
      | zero => intro _; simp
      | succ n ih =>
        intro hn
        rw [List.range_succ, List.filterMap_append, ih (by omega), List.take_succ_eq_append_getElem (by omega : n < L.length)]
        simp [List.getElem?_eq_getElem (by omega : n < L.length)]
    rw [key _ (Nat.le_refl _), List.take_length]
  rw [h2] at h1
  exact h1
theorem zSl : ∀ w, (zeroValue 32).run Tryz.prog w = .ok (.slice none 0 0) w := zero_run (by kernel_rfl)
theorem zSlA (S : Nat → Prop) (w : World) (ρ : Pl) : R S w .nils ρ (.slice none 0 0) := by simp [R]
theorem sub_mapBe {h : Hp} {i : Nat} {θ : Nat → Nat} {ks : List Value} {vs vs' : List AV} {bs : List Nat} {ck : Nat} (hk : h[i]? = some (.mapB ks vs' bs ck)) (e : vs' = vs) (hi : AV.idfL vs = true) : h[i]? = some ((AB.mapB ks vs bs ck).map θ) := by
  subst e; exact sub_mapB hk hi
def mxD (L : List (Int × List Int)) (d : List Nat) : Int := (atD L d).foldl mxL 0
theorem mxD_snoc {L : List (Int × List Int)} {d : List Nat} {i : Nat} {e : Int × List Int} (h : L[i]? = some e) : mxD L (d ++ [i]) = max (mxD L d) ((e.2.length : Int) - 1) := by
  unfold mxD; rw [atD_snoc h, List.foldl_append]; rfl
theorem mxD_all {L : List (Int × List Int)} {d : List Nat} (hd : d.Nodup) (hlt : ∀ i, i ∈ d → i < L.length) (hall : ∀ i, i < L.length → i ∈ d) : mxD L d = L.foldl mxL 0 :=
  (atD_all hd hlt hall).foldl_eq' (fun x _ y _ z => by unfold mxL; omega) 0
theorem bound_c (s : Sit) (g : Fine s.fl) : ACall Tryz.prog 34 [.agg (sitA s)] [] (.i (boundP s.fl)) [] := by
  have hN := g.le
  have hb := g.bounds
  have ho := offs_c s g
  have hll : ∀ e, e ∈ offL s.fl (walkP s.fl) → (e.2.length : Int) ≤ s.fl.k.length + 1 := fun e he => by
    obtain ⟨h1, h2, h3⟩ := mem_offL.1 he
    obtain ⟨w1, w2, _⟩ := mem_walk.1 h1
    have := off_le g e.1.toNat (by omega)
    rw [h3, offW_len]; omega
  unfold boundP
  generalize offL s.fl (walkP s.fl) = L at *
  refine acall T Tryz.func34 rfl rfl rfl rfl ?_
  repeat' (first|refine wS ?_|refine wB ?_|(refine rg 0 ?_;refine vc_n (by exact fs_box rfl rfl) rfl ?_;refine aV ?_)|(refine rg 1 ?_;refine aV ?_)|(refine rg 2 ?_;(all_goals (refine lV T ?_));(all_goals (refine vc_n (by exact fs_call rfl rfl ho (.inr ⟨rfl,rfl,by simp⟩)) rfl ?_;refine vc_mapOpen 1 rfl fun bs ck hb1' hb2' hb3' hb4'=>?_));(all_goals (refine vc_n (by exact fs_range mapIS rfl rfl) rfl ?_)))|refine nZ ?_)
  have hbl : bs.length = L.length := by rw [hb1']; simp
  refine aw_loop (X := {d : List Nat // d.Nodup ∧ ∀ i, i ∈ d → i < L.length}) (fun d => [(3, .i (mxD L d.1)), (8, .ptr 2 0)]) (fun d => [.cells (sitA s), .mapB (okA L) (ovA L) bs ck, .iter 1 ck (seenB bs d.1) ck]) (fun d => L.length - d.1.length) ⟨[], List.nodup_nil, fun i hi => by cases hi⟩ ⟨[0, 1, 2], rfl, (by (repeat (first | exact trivial | refine ⟨rfl, ?_⟩))), ⟨.inr rfl, .inr (sub_mapBe rfl (mapL_idf _ _ (ov_idf _)) (ov_idf _)), .inr rfl, trivial⟩, by decide, lt0 _⟩ ?_
  rintro ⟨d, hnd, hlt⟩
  dsimp only
  have hdl := nodup_le hnd hlt
  repeat' (first|refine wS ?_|refine wB ?_|refine wK ?_|refine wE ?_|refine wT ?_|refine wU ?_|(refine rg 3 ?_;(all_goals (refine vc_next rfl rfl rfl hb4' (Nat.le_refl _) rfl (fun hend=>vc_mapShut 1 rfl ?_) (fun i kv v b g1 g1' g2 g3=>?_)));(all_goals (refine xV ?_)))|refine nZ ?_)
  · have hall := seen_all hb3' (by rw [hbl]; exact hlt) hend
    rw [hbl] at hall
    have hmx := mxD_all hnd hlt hall
    rw [hmx]
    repeat' (first|refine wR ?_|(refine rg 6 ?_;refine mV ?_;refine aV ?_)|refine nZ ?_)
    all_goals exact ret_plain (.inl rfl) rfl rfl
  · rw [List.getElem?_map] at g1
    obtain ⟨⟨c, w⟩, hac, rfl⟩ := Option.map_eq_some_iff.1 g1
    have hv : v = .rowE (ints w) 1 := by rw [List.getElem?_map, hac] at g1'; simpa using g1'.symm
    subst hv
    have k1 : (okA L)[i]? = some (kI c) := by simp [hac]
    have k2 : (ovA L)[i]? = some (.rowE (ints w) 1) := by simp [hac]
    have hnew := seen_not g2 g3
    have hil := (List.getElem?_eq_some_iff.1 hac).1
    have hsn := seen_snoc (d := d) g2
    have hd' : (d ++ [i]).Nodup ∧ ∀ j, j ∈ d ++ [i] → j < L.length := ⟨nodup_snoc hnd hnew, fun j hj => (List.mem_append.1 hj).elim (hlt j) (fun e => by simp at e; rw [e]; exact hil)⟩
    have hdl2 := nodup_le hd'.1 hd'.2
    rw [List.length_append, List.length_singleton] at hdl2
    have hwl := hll _ (List.mem_of_getElem? hac)
    dsimp only at hwl
    have hms := mxD_snoc (d := d) hac
    dsimp only at hms
    have hil2 : (ints w).length = w.length := ints_length _
    generalize hT1 : mxD L (d ++ [i]) = T1 at *
    generalize mxD L d = T0 at *
    repeat' (first|(refine rg 4 ?_;(all_goals (refine vc_n (by exact fs_entry rfl rfl rfl rfl g2 k1 k2) rfl ?_));(all_goals (refine xV ?_;refine aV ?_)))|(refine rg 5 ?_;refine mV ?_;refine mV ?_;(refine qV T ?_);refine vV (by exact fs_subr rfl rfl (by omega) (by omega)) ?_;refine vV (by exact fs_max rfl rfl) ?_;refine aV ?_)|refine nZ ?_)
    all_goals exact ⟨⟨d ++ [i], hd'⟩, by dsimp only; rw [List.length_append, List.length_singleton]; omega, [0, 1, 2], rfl, ⟨by dsimp only; rw [hT1, hms, ← hil2]; rfl, rfl, trivial⟩, ⟨.inr rfl, .inr (sub_mapB rfl (ov_idf _)), .inr (sub_iter rfl hsn), trivial⟩, by decide, lt0 _⟩
theorem off_c (s : Sit) (g : Fine s.fl) (c : Int) (hc : rngI c) : ACall Tryz.prog 15 [.agg (sitA s), .i c] [] (.rowE (ints (offR s.fl c)) 1) [] := by
  have ho := offs_c s g
  have hnd := offL_nd (f := s.fl) ((walk_asc s.fl).imp (fun h => by omega) : (walkP s.fl).Nodup)
  unfold offR
  by_cases h : c ∈ walkP s.fl ∧ 0 ≤ offD s.fl c.toNat
  · rw [if_pos h]
    obtain ⟨i, hi⟩ := List.mem_iff_getElem?.1 (mem_offL.2 ⟨h.1, h.2, rfl⟩ : (c, offW s.fl c.toNat) ∈ offL s.fl (walkP s.fl))
    have k1 : (okA (offL s.fl (walkP s.fl)))[i]? = some (kI c) := by simp [hi]
    have k2 : (ovA (offL s.fl (walkP s.fl)))[i]? = some (.rowE (ints (offW s.fl c.toNat)) 1) := by simp [hi]
    refine acall T Tryz.func15 rfl rfl rfl rfl ?_
    repeat' (first|refine wS ?_|refine wR ?_|(refine rg 0 ?_;refine vc_n (by exact fs_box rfl rfl) rfl ?_;refine aV ?_)|(refine rg 1 ?_;refine lV T ?_;refine vc_n (by exact fs_call rfl rfl ho (.inr ⟨rfl,rfl,by simp⟩)) rfl ?_;refine mV ?_;refine vV (by exact fs_mapGet1 mapIS intK rfl rfl (isv_i _) rfl (ok_good _) (good_i _) hnd k1 (by rw [mapL_idf _ _ (ov_idf _)];exact k2)) ?_;refine aV ?_)|refine nZ ?_)
    all_goals exact ret_plain (.inl rfl) rfl rfl
  · rw [if_neg h]
    have hno : kI c ∉ okA (offL s.fl (walkP s.fl)) := fun hm => by
      obtain ⟨e, he, q⟩ := List.mem_map.1 hm
      simp [kI] at q
      obtain ⟨h1, h2, _⟩ := mem_offL.1 he
      rw [q] at h1 h2; exact h ⟨h1, h2⟩
    refine acall_nils ?_
    refine acall T Tryz.func15 rfl rfl rfl rfl ?_
    repeat' (first|refine wS ?_|refine wR ?_|(refine rg 0 ?_;refine vc_n (by exact fs_box rfl rfl) rfl ?_;refine aV ?_)|(refine rg 1 ?_;refine lV T ?_;refine vc_n (by exact fs_call rfl rfl ho (.inr ⟨rfl,rfl,by simp⟩)) rfl ?_;refine mV ?_;refine vV (by exact fs_mapMiss1 (zA := .nils) mapIS intK zSl zSlA rfl rfl (isv_i _) rfl (ok_good _) (good_i _) hno) ?_;refine aV ?_)|refine nZ ?_)
    all_goals exact ret_plain (.inl rfl) rfl rfl
end Go.Proofs.YtjpcpbbkelgkeaaGreatDoor
namespace Go.Proofs.YtjpcpbbkelgkeaaGreatDoor
open Go Go.Ab Go.Fl Go.Re Go.Ln Go.MapKept
attribute [local irreducible] VC AW FStep ACall PCall AStep
set_option maxHeartbeats 4000000
theorem flow_0 (s : Sit) (W : List Int) (c : Int) : Flow (netP s W c) 0 [] := ⟨List.nodup_nil, (fun e h => by cases h), fun _ => Nat.zero_le _, fun _ _ _ => rfl, rfl⟩
theorem prev_0 : PrevOk [] (prevF []) := fun c p => by simp [prevF]
theorem flow_iw {s : Sit} {W : List Int} {st : Int} {k : Nat} {Te : List LEdge} (h : Flow (netP s W st) k Te) : ∀ e, e ∈ Te → inW W st (e.1, true) := fun e he => (flow_W h he).2
theorem lanes_idfs (l : List LaneT) : ∀ e, e ∈ lanesA l → AV.idfL e = true := by intro e he; obtain ⟨x, _, rfl⟩ := List.mem_map.1 he; rfl
theorem lanes_pln : ∀ l : List LaneT, AV.plnL (lanesA l).flatten = true
  | [] => rfl
  | _ :: l => lanes_pln l
theorem lanes_len (l : List LaneT) : ∀ e, e ∈ lanesA l → e.length = 3 := by intro e he; obtain ⟨x, _, rfl⟩ := List.mem_map.1 he; rfl
theorem lanes_next (l : List LaneT) (x : LaneT) : ((lanesA l).drop 0).take l.length ++ [laneA x] = lanesA (l ++ [x]) := by
  rw [List.drop_zero, List.take_of_length_le (by simp)]; simp
abbrev certA (l : List LaneT) (b : Int) : List AV := [.rowE (lanesA l) 3, .i b]
inductive MakeOk (s : Sit) : AV → Prop
  | ok (L : List LaneT) (h1 : L.map (·.1) = kindC s.fl 4) (h2 : ∀ x, x ∈ L → PairOk s x) : MakeOk s (.tup [.agg (certA L (boundP s.fl)), .i (-1), .i 0])
  | no (L : List LaneT) (c : Int) (post : List Int) (h1 : L.map (·.1) ++ c :: post = kindC s.fl 4) (h2 : ∀ x, x ∈ L → PairOk s x) (h3 : StuckP s c) : MakeOk s (.tup [.agg (certA [] 0), .i c, .i 14])
theorem make_p (s : Sit) (g : Fine s.fl) : PCall Tryz.prog 12 [.agg (sitA s)] [] (fun r o => o = [] ∧ MakeOk s r) := by
  have hN := g.le
  have hbb := g.bounds
  have cb := bound_c s g
  have hWa := walk_asc s.fl
  have hWl := walk_len s.fl
  have cw := walkOf_c s (by omega)
  have ck := ofKind_c s 4 (by omega)
  have hWr : ∀ x, x ∈ walkP s.fl → 0 ≤ x ∧ x < s.fl.k.length := fun x hx => by obtain ⟨h1, h2, _⟩ := mem_walk.1 hx; exact ⟨h1, h2⟩
  have hKl := ofK_len s.fl.k 4 s.fl.k.length
  have hKm : ∀ x, x ∈ kindC s.fl 4 → 0 ≤ x ∧ x < s.fl.k.length ∧ exB s.fl x = false := fun x hx => by
    obtain ⟨h1, h2, h3⟩ := mem_ofK.1 hx
    exact ⟨h1, h2, by unfold exB; rw [h3]; decide⟩
  refine pcall_view (Φ := fun r o => (∃ L : List LaneT, L.map (·.1) = kindC s.fl 4 ∧ (∀ x, x ∈ L → PairOk s x) ∧ r = .tup [.agg [.sl 0 0 L.length 3, .i (boundP s.fl)], .i (-1), .i 0] ∧ o = [.arr (lanesA L) 3]) ∨
    (∃ (L : List LaneT) (c : Int) (post : List Int), L.map (·.1) ++ c :: post = kindC s.fl 4 ∧ (∀ x, x ∈ L → PairOk s x) ∧ StuckP s c ∧ r = .tup [.agg [.nils, .i 0], .i c, .i 14] ∧ o = [])) ?_ ?_
  · generalize hKK : kindC s.fl 4 = K at *
    generalize boundP s.fl = b at *
    have hkl : (ints K).length = K.length := ints_length _
    have hKl : K.length ≤ 300 := by rw [← hKK]; exact Nat.le_trans hKl hN
    refine pcall T Tryz.func12 rfl rfl rfl rfl ?_
    repeat' (first|refine wS ?_|refine wB ?_|(refine rg 0 ?_;refine vc_n (by exact fs_box rfl rfl) rfl ?_;refine vc_n (by exact fs_alloc T rfl) rfl ?_;refine aV ?_;refine aV ?_)|(refine rg 1 ?_;refine lV T ?_;refine vV (by exact kC (cb)) ?_;refine vV (by exact fs_build T rfl rfl rfl rfl) ?_;refine vc_n (by exact fs_alloc T rfl) rfl ?_;refine vc_store T rfl rfl rfl rfl rfl rfl (by decide) rfl ?_)|(refine rg 2 ?_;refine lV T ?_;refine vV (by exact kC (cw)) ?_;refine aV ?_)|(refine rg 3 ?_;refine lV T ?_;refine vV (by exact kC (ck)) ?_;(refine qV T ?_);refine mV ?_)|refine nZ ?_)
    refine aw_ownC 2 0 3 rfl rfl (by decide) ?_
    refine aw_loop (X := {L : List LaneT // L.length ≤ K.length ∧ L.map (·.1) = K.take L.length ∧ ∀ x, x ∈ L → PairOk s x}) (fun L => [(1, .ptr 0 0), (2, .ptr 1 0), (5, .ptr 2 0), (6, .rowE (ints (walkP s.fl)) 1), (17, .rowE (ints K) 1), (18, .i K.length), (19, .i (L.1.length : Int))])
      (fun L => [.cells (sitA s), .cells [.nils, .i 0], .cells [.sl 3 0 L.1.length 3, .i b], .arr (lanesA L.1) 3]) (fun L => K.length - L.1.length) ⟨[], Nat.zero_le _, rfl, fun x hx => by cases hx⟩ ⟨[0, 1, 2, 3], rfl, ⟨rfl, rfl, rfl, rfl, rfl, congrArg (fun n : Nat => some (AV.i n)) hkl, rfl, trivial⟩, ⟨.inr rfl, .inr rfl, .inr rfl, .inr rfl, trivial⟩, by decide, fun _ hi => absurd hi (Nat.not_lt_zero _)⟩ ?_
    rintro ⟨L, hLl, hLm, hLp⟩
    dsimp only
    by_cases hlt : L.length < K.length
    · have htk := List.take_succ_eq_append_getElem hlt
      have hsp : K.take L.length ++ K[L.length] :: K.drop (L.length + 1) = K := by rw [← List.drop_eq_getElem_cons hlt, List.take_append_drop]
      have hcm : K[L.length] ∈ K := List.getElem_mem hlt
      have q1 : (ints K)[(L.length : Int).toNat]? = some [AV.i K[L.length]] := by rw [Int.toNat_natCast]; exact ints_get hlt
      generalize K[L.length] = c at *
      obtain ⟨hc0, hc1, hcx⟩ := hKm c hcm
      have hg1 := grow_c s g (walkP s.fl) hWa (by omega) hWr c ⟨hc0, hc1⟩ hcx (flow_0 s (walkP s.fl) c) (fun e he => by cases he) (fun e he => by cases he) prev_0 List.nodup_nil
      have hll : (lanesA L).length = L.length := by simp
      repeat' (first|refine wS ?_|refine wB ?_|refine wK ?_|refine wT ?_|(refine rg 4 ?_;refine vV (by exact fs_lssT rfl rfl (by omega)) ?_)|(refine rg 5 ?_;refine vV (by exact fs_indexRowE T rfl rfl rfl rfl rfl (by omega) (ints_len _) q1) ?_;refine lV T ?_;refine aV ?_)|(refine rg 6 ?_;refine lV T ?_;refine mV ?_;refine mV ?_;refine vc_n (by exact fs_mapNew) rfl ?_;refine vc_n (by exact fs_mapNew) rfl ?_;refine vV (by exact fs_build T rfl rfl rfl rfl) ?_;refine vc_n (by exact fs_box rfl rfl) rfl ?_;refine aV ?_)|refine nZ ?_)
      refine aw_keep [(1, .ptr 0 0), (2, .ptr 1 0), (5, .ptr 2 0), (6, .rowE (ints (walkP s.fl)) 1), (8, .i c), (9, .ptr 6 0), (17, .rowE (ints K) 1), (18, .i K.length), (19, .i (L.length : Int))]
        [.cells (sitA s), .cells [.nils, .i 0], .cells [.sl 3 0 L.length 3, .i b], .arr (lanesA L) 3, .mapO [] [], .mapO [] [], .cells (netA s (walkP s.fl) c (.mp 4) (.mp 5))] ⟨[0, 1, 2, 3, 4, 5, 6], rfl, (by (repeat (first | exact trivial | refine ⟨rfl, ?_⟩))), ⟨.inr rfl, .inr rfl, .inr rfl, .inr (sub_arr rfl rfl (lanes_idfs _)), .inr rfl, .inr rfl, .inr rfl, trivial⟩, by decide, fun _ hi => absurd hi (Nat.not_lt_zero _)⟩ ?_
      repeat' (first|refine wS ?_|refine wK ?_|refine wT ?_|refine wU ?_|(refine rg 7 ?_;(all_goals (refine mV ?_));(all_goals (refine vc_pcallw [6,4,5] rfl rfl hg1 rfl rfl (by decide) ⟨.inr rfl,.inr (sub_map rfl rfl rfl rfl),.inr (sub_map rfl rfl rfl rfl),trivial⟩ (by simp) rfl ?_;rintro r o (⟨rfl,T1,U1,rfl,f1,f2,f3,f4⟩|⟨rfl,rfl,R1,f1⟩)));(all_goals (refine vV (by exact fs_not rfl) ?_;refine mV ?_));(all_goals (refine gK ?_));(all_goals first|(refine gT ?_;(refine mV ?_);refine gT ?_;((refine vc_pcallw [6,4,7] rfl rfl (grow_c s g (walkP s.fl) hWa (by omega) hWr c ⟨hc0,hc1⟩ hcx f1 f2 (flow_iw f1) f3 f4) rfl rfl (by decide) ⟨.inr rfl,.inr (by exact sub_map rfl rfl (mapL_idf _ _ (tr_idf _)) (tr_idf _)),.inr (by exact sub_map rfl rfl (mapL_idf _ _ (pv_idf _)) (pv_idf _)),trivial⟩ (by simp) rfl ?_;rintro r o (⟨rfl,T2,U2,rfl,k1,k2,k3,k4⟩|⟨rfl,rfl,R2,k1⟩))))|(iterate 2 refine gF ?_));(all_goals first|(refine gT ?_;(refine vV (by exact fs_not rfl) ?_))|(refine gF ?_));(all_goals (refine pV ?_)))|refine nZ ?_)
      · have hw2 := ways_p s g (walkP s.fl) (by omega) hWr c k1 k3 k4
        repeat' (first|(refine rg 9 ?_;(all_goals (refine mV ?_));(all_goals (refine vc_pcallw [6,4,8] rfl rfl hw2 rfl rfl (by decide) ⟨.inr rfl,.inr (by exact sub_map rfl rfl (mapL_idf _ _ (tr_idf _)) (tr_idf _)),.inr (by exact sub_map rfl rfl (mapL_idf _ _ (pv_idf _)) (pv_idf _)),trivial⟩ (by simp) rfl ?_;rintro r o ⟨es,bF,hwk,rfl,rfl⟩));(all_goals (refine aV ?_)))|refine nZ ?_)
        obtain ⟨e0, e1, rfl, hp⟩ := two_ok k1 hwk
        refine aw_keep [(1, .ptr 0 0), (2, .ptr 1 0), (5, .ptr 2 0), (6, .rowE (ints (walkP s.fl)) 1), (8, .i c), (10, .sl 4 0 2 1), (17, .rowE (ints K) 1), (18, .i K.length), (19, .i (L.length : Int))]
          [.cells (sitA s), .cells [.nils, .i 0], .cells [.sl 3 0 L.length 3, .i b], .arr (lanesA L) 3, .arr (rwI [wayR bF e0, wayR bF e1]) 1] ⟨[0, 1, 2, 3, 9], rfl, (by (repeat (first | exact trivial | refine ⟨rfl, ?_⟩))), ⟨.inr rfl, .inr rfl, .inr rfl, .inr (sub_arr rfl rfl (lanes_idfs _)), .inr (sub_rwI rfl rfl), trivial⟩, by decide, fun _ hi => absurd hi (Nat.not_lt_zero _)⟩ ?_
        refine aw_frz 10 rfl rfl rfl (idfL_flat (rwI_idfs _)) ?_
        have qa : (rwI [wayR bF e0, wayR bF e1])[(0 : Int).toNat]? = some [.rowE (ints (wayR bF e0)) 1] := rfl
        have qb : (rwI [wayR bF e0, wayR bF e1])[(1 : Int).toNat]? = some [.rowE (ints (wayR bF e1)) 1] := rfl
        generalize wayR bF e0 = w0 at *
        generalize wayR bF e1 = w1 at *
        repeat' (first|(((refine aw_draw4k (id := 10) 57 [[],[0],[],[],[3],[3,4],[],[6],[6,7],[2,3,4,5,6,7,8],[2,3,4,5,6,7,8,9],[0,1,2,3,4,5,6,7,8,9,10]] [42,43,44,45,46,47,48,49,50,51,52,53] [[],[],[42,43],[42,43,44],[42,43,44],[42,43,44],[42,43,44,45,46,47],[42,43,44,45,46,47],[42,43,44,45,46,47],[42,43],[42,43],[]] [(11,3)] mixedP rfl (by decide +kernel) ?_));(all_goals (refine dwa_v rfl rfl rfl rfl (by exact fs_fieldAddr T rfl rfl rfl) ?_;refine dwa_v rfl rfl rfl rfl (by exact fs_load T rfl rfl rfl rfl) ?_;refine dwa_v rfl rfl rfl rfl (by exact fs_move rfl) ?_;refine dwa_v rfl rfl rfl rfl (by exact fs_move rfl) ?_;refine dwa_v rfl rfl rfl rfl (by exact fs_indexRowE T rfl rfl rfl rfl rfl (by decide) (rwI_len _) qa) ?_;refine dwa_v rfl rfl rfl rfl (by exact fs_load T rfl rfl rfl rfl) ?_;refine dwa_v rfl rfl rfl rfl (by exact fs_move rfl) ?_;refine dwa_v rfl rfl rfl rfl (by exact fs_indexRowE T rfl rfl rfl rfl rfl (by decide) (rwI_len _) qb) ?_;refine dwa_v rfl rfl rfl rfl (by exact fs_load T rfl rfl rfl rfl) ?_;refine dwa_v rfl rfl rfl rfl (by exact fs_build T rfl rfl rfl rfl) ?_;refine dwa_n rfl rfl rfl rfl (by exact fs_buildSlice T rfl rfl (by decide) (by decide) rfl rfl rfl) rfl ?_));(all_goals (refine dwa_a1 rfl rfl rfl rfl (Nat.le_of_ble_eq_true rfl) (by exact as_append T rfl rfl rfl rfl rfl rfl (by simp) (Elems.whole rfl rfl) rfl (by simp;omega) (by simp;omega)) ?_));(all_goals (refine dwa_fin rfl rfl rfl (by exact rfl) ?_;refine fV T ?_;refine vc_store T rfl rfl rfl rfl rfl rfl (by decide) rfl ?_)))|(refine rg 11 ?_;refine vV (by exact fs_addr rfl rfl (by omega) (by omega)) ?_;refine mV ?_)|refine nZ ?_)
        have hln : (L ++ [(c, w0, w1)]).length = L.length + 1 := by simp
        all_goals exact ⟨⟨L ++ [(c, w0, w1)], by rw [List.length_append, List.length_singleton]; omega, by rw [List.map_append, hLm, List.length_append, List.length_singleton, htk]; rfl, fun x hx => (List.mem_append.1 hx).elim (hLp x) (fun h => by simp only [List.mem_singleton] at h; rw [h]; exact hp)⟩, by dsimp only; rw [List.length_append, List.length_singleton]; omega, [0, 1, 2, 6], rfl, ⟨rfl, rfl, rfl, rfl, rfl, rfl, (congrArg (fun n : Nat => some (AV.i (n : Int))) hln).symm, trivial⟩, ⟨.inr rfl, .inr rfl, .inr (congrArg (fun n : Nat => some (AB.cells [.sl 6 0 n 3, .i b])) hln).symm, .inr (sub_arr rfl (lanes_next L (c, w0, w1)) (lanes_idfs _)), trivial⟩, by decide, fun _ hi => absurd hi (Nat.not_lt_zero _)⟩
      · repeat' (first|refine wR ?_|(((refine rg 8 ?_)); (all_goals (refine vV (by exact fs_build T rfl rfl rfl rfl) ?_; refine mV ?_; refine vc_store T rfl rfl rfl rfl rfl rfl (by decide) rfl ?_; refine aV ?_; refine aV ?_)))|(refine vc_nilp (by ((dsimp only [ln1, ln2, List.append_nil, ln4, ln5, ln6, ln7, ln8, ln9, putAt, putd, allObjs, argEnv, un_v, un_ptr, un_ep, un_pr, un_sl, un_mp, un_row, un_agg, un_tup, un_clo, Nat.zero_add, lnb, Nat.reduceAdd, lnc, lnd]; done))) ?_))
        all_goals exact ⟨_, _, .inr ⟨L, c, K.drop (L.length + 1), by rw [hLm]; exact hsp, hLp, stuck_1 g hcx f1 k1, rfl, rfl⟩, .inl rfl, [], _, rfl, rfl, rfl, trivial, List.nodup_nil, fun _ hi => absurd hi (Nat.not_lt_zero _)⟩
      · repeat' (first|refine wR ?_|(((refine rg 8 ?_)); (all_goals (refine vV (by exact fs_build T rfl rfl rfl rfl) ?_; refine mV ?_; refine vc_store T rfl rfl rfl rfl rfl rfl (by decide) rfl ?_; refine aV ?_; refine aV ?_)))|(refine vc_nilp (by ((dsimp only [ln1, ln2, List.append_nil, ln4, ln5, ln6, ln7, ln8, ln9, putAt, putd, allObjs, argEnv, un_v, un_ptr, un_ep, un_pr, un_sl, un_mp, un_row, un_agg, un_tup, un_clo, Nat.zero_add, lnb, Nat.reduceAdd, lnc, lnd]; done))) ?_))
        all_goals exact ⟨_, _, .inr ⟨L, c, K.drop (L.length + 1), by rw [hLm]; exact hsp, hLp, stuck_0 g hcx (flow_0 s (walkP s.fl) c) f1, rfl, rfl⟩, .inl rfl, [], _, rfl, rfl, rfl, trivial, List.nodup_nil, fun _ hi => absurd hi (Nat.not_lt_zero _)⟩
    · have hle : L.length = K.length := by omega
      rw [hle, List.take_length] at hLm
      repeat' (first|refine wS ?_|refine wR ?_|refine wE ?_|refine wU ?_|(refine rg 4 ?_;refine vV (by exact fs_lssF rfl rfl (by omega)) ?_)|(refine rg 12 ?_;refine lV T ?_;refine vc_store T rfl rfl rfl rfl rfl rfl (by decide) rfl ?_;refine aV ?_;refine aV ?_)|refine nZ ?_)
      all_goals exact ⟨_, _, .inl ⟨L, hLm, hLp, rfl, rfl⟩, .inl rfl, [3], _, rfl, rfl, rfl, ⟨.inr (sub_arr rfl rfl (lanes_idfs _)), trivial⟩, by decide, fun _ hi => absurd hi (Nat.not_lt_zero _)⟩
  · rintro r o (⟨L, h1, h2, rfl, rfl⟩ | ⟨L, c, post, h1, h2, h3, rfl, rfl⟩)
    · refine ⟨_, ?_, .ok L h1 h2⟩
      have e : AV.rowE (lanesA L) 3 = .row (lanesA L).flatten L.length 3 := by simp [AV.rowE]
      dsimp only [certA]
      rw [e]
      refine .tup (.cons (.agg (.cons (.sl (es := lanesA L) rfl (by simp) ?_) (.cons (.v _) .nil))) (.cons (.v _) (.cons (.v _) .nil)))
      rw [List.drop_zero, List.take_of_length_le (by simp)]
      exact viewL_self _ (lanes_pln L)
    · exact ⟨_, .tup (.cons (.agg (.cons (.nils 3) (.cons (.v _) .nil))) (.cons (.v _) (.cons (.v _) .nil))), .no L c post h1 h2 h3⟩
end Go.Proofs.YtjpcpbbkelgkeaaGreatDoor
namespace Go.Proofs.YtjpcpbbkelgkeaaGreatDoor
open Go Go.Ab Go.Fl Go.Re Go.Ln Go.MapKept
attribute [local irreducible] VC AW FStep ACall PCall AStep
set_option maxHeartbeats 4000000
theorem ticks_c (l w : List Int) (hl : l.length ≤ 1000000) : ACall Tryz.prog 41 [.rowE (ints l) 1, .rowE (ints w) 1] [] (.i (tickP w l)) [] := by
  have hll : (ints l).length = l.length := ints_length _
  have hwl : (ints w).length = w.length := ints_length _
  have hmin : min (1 : Int) (((ints l).length : Nat) : Int) = ((min 1 l.length : Nat) : Int) := by rw [hll]; omega
  have hdr : (ints l).drop (min 1 l.length) = ints (l.drop 1) := by
    cases l with
    | nil => rfl
    | cons a l => rw [show min 1 (a :: l).length = 1 by simp]; rfl
  have htl : (l.drop 1).length ≤ 1000000 := by rw [List.length_drop]; omega
  unfold tickP
  refine acall T Tryz.func41 rfl rfl rfl rfl ?_
  repeat' (first|refine wS ?_|refine wB ?_|(refine rg 0 ?_;refine aV ?_)|(refine rg 1 ?_;refine aV ?_)|(refine rg 2 ?_;refine mV ?_;refine mV ?_;(refine qV T ?_);refine vV (by exact fs_min rfl rfl) ?_;refine vV (by exact (show FStep _ _ _ _ 0 (fun _=>AV.rowE (ints (l.drop 1)) 1) (fun _=>[]) from hdr ▸ fs_sliceFromE T rfl rfl rfl rfl (k := min 1 l.length) (congrArg some hmin) (by omega) (ints_len _))) ?_;(refine qV T ?_);refine mV ?_)|refine nZ ?_)
  generalize l.drop 1 = t at *
  have htl2 : (ints t).length = t.length := ints_length _
  refine aw_loop (X := {p : Nat × Int // p.1 ≤ t.length ∧ tickL w p.2 (t.drop p.1) = tickL w 0 t}) (fun p => [(1, .rowE (ints w) 1), (5, .i p.1.2), (12, .rowE (ints t) 1), (13, .i t.length), (14, .i (p.1.1 : Int))]) (fun _ => []) (fun p => t.length - p.1.1) ⟨(0, 0), Nat.zero_le _, by rw [List.drop_zero]⟩ ⟨[], rfl, ⟨rfl, rfl, rfl, congrArg (fun n : Nat => some (AV.i n)) htl2, rfl, trivial⟩, trivial, List.nodup_nil, fun _ hi => absurd hi (Nat.not_lt_zero _)⟩ ?_
  rintro ⟨⟨j, n⟩, hj, hn⟩
  dsimp only at hj hn ⊢
  by_cases hlt : j < t.length
  · rw [List.drop_eq_getElem_cons hlt, tick_cons] at hn
    have q1 : (ints t)[(j : Int).toNat]? = some [AV.i t[j]] := by rw [Int.toNat_natCast]; exact ints_get hlt
    generalize t[j] = c at *
    by_cases h1 : 0 ≤ c ∧ c < w.length
    · have q2 := ints_gI (l := w) (j := c) (i := c.toNat) (-1) (by omega) (by omega)
      generalize w.getD c.toNat (-1) = y at *
      by_cases h2 : y = -1
      · rw [if_neg (fun h => h.2.2 h2)] at hn
        rw [← hn]
        repeat' (first|refine wS ?_|refine wB ?_|refine wK ?_|refine wR ?_|refine wT ?_|(refine rg 3 ?_;refine vV (by exact fs_lssT rfl rfl (by omega)) ?_)|(refine rg 4 ?_;refine vV (by exact fs_indexRowE T rfl rfl rfl rfl rfl (by omega) (ints_len _) q1) ?_;refine lV T ?_;refine aV ?_)|(refine rg 5 ?_;(all_goals (refine mV ?_;refine vV (by exact fs_lssF rfl rfl (by omega)) ?_;refine mV ?_));(all_goals (refine gK ?_));(all_goals (refine gT ?_;(refine mV ?_);refine gT ?_;(refine mV ?_);refine gT ?_;(refine qV T ?_);refine gT ?_;(refine vV (by exact fs_geqF rfl rfl (by omega)) ?_)));(all_goals ((refine pV ?_);refine mV ?_));(all_goals (refine gK ?_));(all_goals (refine gT ?_;(refine mV ?_);refine gT ?_;(refine mV ?_);refine gT ?_;(refine vV (by exact fs_indexRowE T rfl rfl rfl rfl rfl (by omega) (ints_len _) q2) ?_);refine gT ?_;(refine lV T ?_);refine gT ?_;(refine vV (by exact fs_eqlT rfl rfl h2) ?_)));(all_goals (refine pV ?_)))|(refine rg 6 ?_;refine aV ?_)|refine nZ ?_)
        all_goals first | (exfalso; omega) | exact ret_plain (.inl rfl) rfl rfl
      · rw [if_pos ⟨h1.1, h1.2, h2⟩] at hn
        repeat' (first|refine wS ?_|refine wB ?_|refine wK ?_|refine wT ?_|refine wU ?_|(refine rg 3 ?_;refine vV (by exact fs_lssT rfl rfl (by omega)) ?_)|(refine rg 4 ?_;refine vV (by exact fs_indexRowE T rfl rfl rfl rfl rfl (by omega) (ints_len _) q1) ?_;refine lV T ?_;refine aV ?_)|(refine rg 5 ?_;(all_goals (refine mV ?_;refine vV (by exact fs_lssF rfl rfl (by omega)) ?_;refine mV ?_));(all_goals (refine gK ?_));(all_goals (refine gT ?_;(refine mV ?_);refine gT ?_;(refine mV ?_);refine gT ?_;(refine qV T ?_);refine gT ?_;(refine vV (by exact fs_geqF rfl rfl (by omega)) ?_)));(all_goals ((refine pV ?_);refine mV ?_));(all_goals (refine gK ?_));(all_goals (refine gT ?_;(refine mV ?_);refine gT ?_;(refine mV ?_);refine gT ?_;(refine vV (by exact fs_indexRowE T rfl rfl rfl rfl rfl (by omega) (ints_len _) q2) ?_);refine gT ?_;(refine lV T ?_);refine gT ?_;(refine vV (by exact fs_eqlF rfl rfl h2) ?_)));(all_goals (refine pV ?_)))|(refine rg 7 ?_;refine mV ?_;refine mV ?_;refine mV ?_;refine vV (by exact fs_indexRowE T rfl rfl rfl rfl rfl (by omega) (ints_len _) q2) ?_;refine lV T ?_;refine vV (by exact fs_max rfl rfl) ?_;refine aV ?_)|(refine rg 8 ?_;refine vV (by exact fs_addr rfl rfl (by omega) (by omega)) ?_;refine mV ?_)|refine nZ ?_)
        all_goals first | (exfalso; omega) | exact ⟨⟨(j + 1, max n y), hlt, hn⟩, by dsimp only; omega, by (refine ⟨[], rfl, ?_, trivial, List.nodup_nil, fun _ h => absurd h (Nat.not_lt_zero _)⟩; (repeat (first | exact trivial | refine ⟨rfl, ?_⟩)))⟩
    · rw [if_neg (fun h => h1 ⟨h.1, h.2.1⟩)] at hn
      rw [← hn]
      repeat' (first|refine wS ?_|refine wB ?_|refine wK ?_|refine wR ?_|refine wT ?_|(refine rg 3 ?_;refine vV (by exact fs_lssT rfl rfl (by omega)) ?_)|(refine rg 4 ?_;refine vV (by exact fs_indexRowE T rfl rfl rfl rfl rfl (by omega) (ints_len _) q1) ?_;refine lV T ?_;refine aV ?_)|(refine rg 5 ?_;(all_goals (refine mV ?_;refine vV (by exact fs_lss rfl rfl) ?_;refine mV ?_));(all_goals (refine vc_split rfl rfl (fun hb=>?_) (fun hb=>?_)<;>((rw [hb];(try simp only [nm] at hb);try ((exfalso;omega);done)))));(all_goals first|(refine gT ?_;(refine mV ?_);refine gT ?_;(refine mV ?_);refine gT ?_;(refine qV T ?_);refine gT ?_;(refine vV (by exact fs_geq rfl rfl) ?_))|(iterate 4 refine gF ?_));(all_goals ((refine pV ?_);refine mV ?_));(all_goals first|(refine gK ?_)|(refine vc_split rfl rfl (fun hb=>?_) (fun hb=>?_)<;>((rw [hb];(try simp only [nm] at hb);try ((exfalso;omega);done)))));(all_goals (iterate 5 refine gF ?_));(all_goals (refine pV ?_)))|(refine rg 6 ?_;refine aV ?_)|refine nZ ?_)
      all_goals first | (exfalso; omega) | exact ret_plain (.inl rfl) rfl rfl
  · rw [List.drop_of_length_le (by omega)] at hn
    rw [← hn]
    rw [show tickL w n [] = n from rfl]
    repeat' (first|refine wS ?_|refine wR ?_|refine wE ?_|refine wU ?_|(refine rg 3 ?_;refine vV (by exact fs_lssF rfl rfl (by omega)) ?_)|(refine rg 9 ?_;refine mV ?_;refine aV ?_)|refine nZ ?_)
    all_goals first | (exfalso; omega) | exact ret_plain (.inl rfl) rfl rfl
def laneF : List LaneT → Int → Int → Int
  | [], _, _ => -1
  | x :: l, c, k => if x.1 = c then k else laneF l c (k + 1)
theorem laneF_drop {l : List LaneT} {c : Int} {k : Nat} (h : k < l.length) : laneF (l.drop k) c k = if (l[k]).1 = c then (k : Int) else laneF (l.drop (k + 1)) c ((k + 1 : Nat) : Int) := by
  rw [List.drop_eq_getElem_cons h]; simp [laneF]
theorem laneF_find : ∀ (l : List LaneT) (c : Int) (k : Nat), (laneF l c k = -1 ∧ l.find? (fun x => decide (x.1 = c)) = none) ∨ ∃ i : Nat, laneF l c k = ((k + i : Nat) : Int) ∧ i < l.length ∧ l[i]? = l.find? (fun x => decide (x.1 = c))
  | [], _, _ => .inl ⟨rfl, rfl⟩
  | x :: l, c, k => by
    unfold laneF
    by_cases h : x.1 = c
    · rw [if_pos h]
      exact .inr ⟨0, rfl, by simp, by simp [h]⟩
    · rw [if_neg h, List.find?_cons_of_neg (by simpa using h)]
      rcases laneF_find l c (k + 1) with ⟨h1, h2⟩ | ⟨i, h1, h2, h3⟩
      · exact .inl ⟨h1, h2⟩
      · exact .inr ⟨i + 1, by rw [← show ((k + 1 : Nat) : Int) = (k : Int) + 1 by omega, h1]; omega, by simp only [List.length_cons]; omega, by rw [List.getElem?_cons_succ]; exact h3⟩
theorem lanes_get {l : List LaneT} {i : Nat} {x : LaneT} (h : l[i]? = some x) : (lanesA l)[i]? = some (laneA x) := by simp [h]
theorem req1_c (x : LaneT) (c : Int) : ACall Tryz.prog 40 [.agg (laneA x), .pr [.i c] 0] [] (.b (decide (x.1 = c))) [] := by
  obtain ⟨y, a, b⟩ := x
  refine acall T Tryz.func40 rfl rfl rfl rfl ?_
  repeat' (first|refine wS ?_|refine wR ?_|(refine rg 0 ?_;refine vc_n (by exact fs_box rfl rfl) rfl ?_;refine aV ?_)|(refine rg 1 ?_;refine fV T ?_;refine vV (by exact fs_load T rfl rfl rfl rfl) ?_;refine vV (by exact fs_load T rfl rfl rfl rfl) ?_;refine vV (by exact fs_eql rfl rfl) ?_;refine aV ?_)|refine nZ ?_)
  all_goals first | (exfalso; omega) | exact ret_plain (.inl rfl) rfl rfl
theorem indexL_c (l : List LaneT) (c : Int) (hl : l.length ≤ 9223372036854775807) : ACall Tryz.prog 39 [.rowE (lanesA l) 3, .clo (.func 40) [] [.pr [.i c] 0]] [] (.i (laneF l c 0)) [] := by
  have hlen : (lanesA l).length = l.length := by simp
  refine acall T Tryz.func39 rfl rfl rfl rfl ?_
  repeat' (first|refine wS ?_|refine wB ?_|(refine rg 0 ?_;refine aV ?_)|(refine rg 1 ?_;refine mV ?_;(refine qV T ?_);refine mV ?_)|refine nZ ?_)
  refine aw_loop (X := {k : Nat // k ≤ l.length ∧ laneF l c 0 = laneF (l.drop k) c k}) (fun k => [(0, .rowE (lanesA l) 3), (1, .clo (.func 40) [] [.pr [.i c] 0]), (7, .i (lanesA l).length), (8, .i k.1)]) (fun _ => []) (fun k => l.length - k.1) ⟨0, by simp, rfl⟩ (by (refine ⟨[], rfl, ?_, trivial, List.nodup_nil, fun _ h => absurd h (Nat.not_lt_zero _)⟩; (repeat (first | exact trivial | refine ⟨rfl, ?_⟩)))) ?_
  rintro ⟨k, hk, hf⟩
  dsimp only
  by_cases hlt : k < l.length
  · have hd := laneF_drop (c := c) hlt
    have q1 : (lanesA l)[(k : Int).toNat]? = some (laneA l[k]) := lanes_get (by rw [Int.toNat_natCast, List.getElem?_eq_getElem hlt])
    have hc := req1_c l[k] c
    generalize l[k] = r at *
    obtain ⟨y, a, b⟩ := r
    dsimp only at hc hd q1
    by_cases hb : y = c
    · rw [decide_eq_true hb] at hc
      rw [hf, hd, if_pos hb]
      repeat' (first|refine wS ?_|refine wB ?_|refine wK ?_|refine wR ?_|refine wT ?_|(refine rg 2 ?_;refine vV (by exact fs_lssT rfl rfl (by omega)) ?_)|(refine rg 3 ?_;refine mV ?_;refine aV ?_)|(refine rg 4 ?_;refine mV ?_;refine mV ?_;refine mV ?_;refine vV (by exact fs_indexRowE T rfl rfl rfl rfl rfl (by omega) (lanes_len l) q1) ?_;refine lV T ?_;refine vV (by exact kC (hc)) ?_)|(refine rg 5 ?_;refine mV ?_;refine aV ?_)|refine nZ ?_)
      all_goals first | (exfalso; omega) | exact ret_plain (.inl rfl) rfl rfl
    · rw [decide_eq_false hb] at hc
      rw [if_neg hb] at hd
      repeat' (first|refine wS ?_|refine wB ?_|refine wK ?_|refine wT ?_|refine wU ?_|(refine rg 2 ?_;refine vV (by exact fs_lssT rfl rfl (by omega)) ?_)|(refine rg 3 ?_;refine mV ?_;refine aV ?_)|(refine rg 4 ?_;refine mV ?_;refine mV ?_;refine mV ?_;refine vV (by exact fs_indexRowE T rfl rfl rfl rfl rfl (by omega) (lanes_len l) q1) ?_;refine lV T ?_;refine vV (by exact kC (hc)) ?_)|(refine rg 6 ?_;refine vV (by exact fs_addr rfl rfl (by omega) (by omega)) ?_;refine mV ?_)|refine nZ ?_)
      all_goals first | (exfalso; omega) | exact ⟨⟨k + 1, by omega, by rw [hf, hd]⟩, by dsimp only; omega, by (refine ⟨[], rfl, ?_, trivial, List.nodup_nil, fun _ h => absurd h (Nat.not_lt_zero _)⟩; (repeat (first | exact trivial | refine ⟨rfl, ?_⟩)))⟩
  · rw [hf, List.drop_of_length_le (by omega)]
    repeat' (first|refine wS ?_|refine wR ?_|refine wE ?_|refine wU ?_|(refine rg 2 ?_;refine vV (by exact fs_lssF rfl rfl (by omega)) ?_)|(refine rg 7 ?_;refine aV ?_)|refine nZ ?_)
    all_goals first | (exfalso; omega) | exact ret_plain (.inl rfl) rfl rfl
abbrev ansA (x : Int × Int × Int) : AV := .tup [.i x.1, .i x.2.1, .i x.2.2]
theorem request_c (l : List LaneT) (b c : Int) (w : List Int) (hl : l.length ≤ 1000000) (hll : ∀ x, x ∈ l → x.2.1.length ≤ 1000000 ∧ x.2.2.length ≤ 1000000) :
    ACall Tryz.prog 14 [.agg (certA l b), .i c, .rowE (ints w) 1] [] (ansA (reqP l b c w)) [] := by
  have hi := indexL_c l c (by omega)
  unfold reqP
  rcases laneF_find l c 0 with ⟨h1, h2⟩ | ⟨i, h1, h2, h3⟩
  · rw [h2]
    rw [show laneF l c 0 = -1 from h1] at hi
    dsimp only
    refine acall T Tryz.func14 rfl rfl rfl rfl ?_
    repeat' (first|refine wS ?_|refine wR ?_|refine wT ?_|(refine rg 0 ?_;refine vc_n (by exact fs_box rfl rfl) rfl ?_;refine vc_n (by exact fs_box rfl rfl) rfl ?_;refine aV ?_;refine aV ?_;refine aV ?_)|(refine rg 1 ?_;refine fV T ?_;refine lV T ?_;refine vV (by exact fs_makeFunc rfl rfl) ?_;refine vV (by exact fs_callb0 rfl rfl hi (.cons (.row _ _ _) (.cons (.clo .nil (.cons (.ptr rfl (.cons (.v _) .nil)) .nil)) .nil)) rfl rfl) ?_;refine aV ?_)|(refine rg 2 ?_;refine mV ?_;refine vV (by exact fs_lss rfl rfl) ?_)|(refine rg 3 ?_;refine aV ?_;refine aV ?_;refine aV ?_)|refine nZ ?_)
    all_goals first | (exfalso; omega) | exact ret_plain (.inl rfl) rfl rfl
  · rw [← h3]
    obtain ⟨x, hx⟩ : ∃ x, l[i]? = some x := ⟨l[i], List.getElem?_eq_getElem h2⟩
    rw [hx]
    have hxl := hll x (List.mem_of_getElem? hx)
    rw [show laneF l c 0 = ((i : Nat) : Int) by rw [show laneF l c 0 = laneF l c ((0 : Nat) : Int) from rfl, h1]; omega] at hi
    have q1 : (lanesA l)[((i : Nat) : Int).toNat]? = some (laneA x) := lanes_get (by rw [Int.toNat_natCast]; exact hx)
    obtain ⟨y, A, B⟩ := x
    have ca := ticks_c A w hxl.1
    have cb := ticks_c B w hxl.2
    dsimp only
    unfold reqA
    dsimp only
    have g1 := tick_ge (w := w) (t := A.drop 1) (n := 0) (by omega)
    have g2 := tick_ge (w := w) (t := B.drop 1) (n := 0) (by omega)
    generalize hta : tickP w A = ta at *
    generalize htb : tickP w B = tb at *
    refine acall T Tryz.func14 rfl rfl rfl rfl ?_
    repeat' (first|refine wS ?_|refine wB ?_|refine wK ?_|refine wU ?_|(refine rg 0 ?_;refine vc_n (by exact fs_box rfl rfl) rfl ?_;refine vc_n (by exact fs_box rfl rfl) rfl ?_;refine aV ?_;refine aV ?_;refine aV ?_)|(refine rg 1 ?_;refine fV T ?_;refine lV T ?_;refine vV (by exact fs_makeFunc rfl rfl) ?_;refine vV (by exact fs_callb0 rfl rfl hi (.cons (.row _ _ _) (.cons (.clo .nil (.cons (.ptr rfl (.cons (.v _) .nil)) .nil)) .nil)) rfl rfl) ?_;refine aV ?_)|(refine rg 2 ?_;refine mV ?_;refine vV (by exact fs_lssF rfl rfl (by omega)) ?_)|(((refine aw_draw2k (id := 4) 63 [[],[0],[],[0,1,2],[0,1,2,3],[0,1,2,3,4],[],[0,1,2,3,4,5,6],[],[8],[],[8,9,10],[8,9,10,11],[8,9,10,11,12],[],[0,1,2,3,4,5,6,7,8,9,10,11,12,13,14],[0,1,2,3,4,5,6,7,8,9,10,11,12,13,14,15]] [18,19,20,21,22,23,24,25,26,27,28,29,30,31,32,33,10] [[],[],[18,19],[],[],[],[18,19,20,21,22,23],[],[18,19,20,21,22,23,24,25],[18,19,20,21,22,23,24,25],[18,19,20,21,22,23,24,25,26,27],[18,19,20,21,22,23,24,25],[18,19,20,21,22,23,24,25],[18,19,20,21,22,23,24,25],[18,19,20,21,22,23,24,25,26,27,28,29,30,31],[],[]] mixedP rfl (by decide +kernel) ?_));(all_goals (refine dV rfl (by exact fs_fieldAddr T rfl rfl rfl) ?_));(all_goals (refine dV rfl (by exact fs_load T rfl rfl rfl rfl) ?_));(all_goals (refine dV rfl (by exact fs_move rfl) ?_));(all_goals (refine dV rfl (by exact fs_indexRowE T rfl rfl rfl rfl rfl (by omega) (lanes_len l) q1) ?_));(all_goals (refine dV rfl (by exact fs_fieldAddr T rfl rfl rfl) ?_));(all_goals (refine dV rfl (by exact fs_load T rfl rfl rfl rfl) ?_));(all_goals (refine dV rfl (by exact fs_move rfl) ?_));(all_goals (refine dV rfl (by exact kC (ca)) ?_));(all_goals (refine dV rfl (by exact fs_fieldAddr T rfl rfl rfl) ?_));(all_goals (refine dV rfl (by exact fs_load T rfl rfl rfl rfl) ?_));(all_goals (refine dV rfl (by exact fs_move rfl) ?_));(all_goals (refine dV rfl (by exact fs_indexRowE T rfl rfl rfl rfl rfl (by omega) (lanes_len l) q1) ?_));(all_goals (refine dV rfl (by exact fs_fieldAddr T rfl rfl rfl) ?_));(all_goals (refine dV rfl (by exact fs_load T rfl rfl rfl rfl) ?_));(all_goals (refine dV rfl (by exact fs_move rfl) ?_));(all_goals (refine dV rfl (by exact kC (cb)) ?_));(all_goals (refine dV rfl (by exact fs_assign rfl) ?_));(all_goals (refine dw_fin rfl rfl (by ((dsimp only [ln1,ln2,List.append_nil,ln4,ln5,ln6,ln7,ln8,ln9,putAt,putd,allObjs,argEnv,un_v,un_ptr,un_ep,un_pr,un_sl,un_mp,un_row,un_agg,un_tup,un_clo,Nat.zero_add,lnb,Nat.reduceAdd,lnc,lnd];done))) ?_;refine aV ?_)))|refine nZ ?_)
    refine aw_keep [(3, .ptr 0 0), (6, .i 0), (7, .i 0), (8, .i 0), (10, .i ta), (11, .i tb)] [.cells (certA l b)] ⟨[0], rfl, (by (repeat (first | exact trivial | refine ⟨rfl, ?_⟩))), ⟨.inr rfl, trivial⟩, by decide, fun _ hi => absurd hi (Nat.not_lt_zero _)⟩ ?_
    have hcase : (ta < 0 ∧ tb < 0) ∨ (¬ (ta < 0 ∧ tb < 0) ∧ (ta < 0 ∨ (0 ≤ tb ∧ tb < ta)) ∧ b < tb) ∨ (¬ (ta < 0 ∧ tb < 0) ∧ (ta < 0 ∨ (0 ≤ tb ∧ tb < ta)) ∧ ¬ b < tb) ∨ (¬ (ta < 0 ∧ tb < 0) ∧ ¬ (ta < 0 ∨ (0 ≤ tb ∧ tb < ta)) ∧ b < ta) ∨ (¬ (ta < 0 ∧ tb < 0) ∧ ¬ (ta < 0 ∨ (0 ≤ tb ∧ tb < ta)) ∧ ¬ b < ta) := by omega
    rcases hcase with h | ⟨h1, h2, h3⟩ | ⟨h1, h2, h3⟩ | ⟨h1, h2, h3⟩ | ⟨h1, h2, h3⟩
    · rw [if_pos h]
      repeat' (first|refine wS ?_|refine wR ?_|refine wT ?_|(refine rg 6 ?_;(all_goals (refine mV ?_;refine vV (by exact fs_lssT rfl rfl (by omega)) ?_;refine mV ?_));(all_goals (refine gK ?_));(all_goals (refine gT ?_;(refine mV ?_);refine gT ?_;(refine vV (by exact fs_lssT rfl rfl (by omega)) ?_)));(all_goals ((refine pV ?_);refine aV ?_)))|(refine rg 7 ?_;refine aV ?_;refine aV ?_;refine aV ?_)|refine nZ ?_)
      all_goals first | (exfalso; omega) | exact ret_plain (.inl rfl) rfl rfl
    · rw [if_neg h1, if_pos h2, if_pos h3]
      repeat' (first|refine wS ?_|refine wR ?_|refine wT ?_|refine wU ?_|(refine wC rfl (fun hb=>?_) (fun hb=>?_)<;>(((try simp only [nm] at hb);try (exfalso;omega))))|(refine rg 6 ?_;(all_goals (refine mV ?_;refine vV (by exact fs_lss rfl rfl) ?_;refine mV ?_));(all_goals (refine vc_split rfl rfl (fun hb=>?_) (fun hb=>?_)<;>((rw [hb];(try simp only [nm] at hb);try ((exfalso;omega);done)))));(all_goals first|(refine gT ?_;(refine mV ?_);refine gT ?_;(refine vV (by exact fs_lss rfl rfl) ?_))|(iterate 2 refine gF ?_));(all_goals ((refine pV ?_);refine aV ?_)))|(refine rg 8 ?_;(all_goals (refine mV ?_;refine vV (by exact fs_lss rfl rfl) ?_;refine mV ?_));(all_goals (refine vc_split rfl rfl (fun hb=>?_) (fun hb=>?_)<;>((rw [hb];(try simp only [nm] at hb);try ((exfalso;omega);done)))));(all_goals first|(refine gT ?_;(refine mV ?_);refine gT ?_;(refine vV (by exact fs_geq rfl rfl) ?_);refine gT ?_;(refine mV ?_))|(iterate 3 refine gF ?_));(all_goals first|(refine gK ?_)|(refine vc_split rfl rfl (fun hb=>?_) (fun hb=>?_)<;>((rw [hb];(try simp only [nm] at hb);try ((exfalso;omega);done)))));(all_goals first|(refine gT ?_;(refine mV ?_);refine gT ?_;(refine mV ?_);refine gT ?_;(refine vV (by exact fs_lss rfl rfl) ?_))|(iterate 3 refine gU ?_));(all_goals first|(refine gT ?_;(refine pV ?_))|(refine gF ?_));(all_goals ((refine pV ?_);refine aV ?_)))|(refine rg 9 ?_;refine mV ?_;refine aV ?_;refine aV ?_)|(refine rg 10 ?_;refine mV ?_;refine fV T ?_;refine lV T ?_;refine vV (by exact fs_gtr rfl rfl) ?_)|(refine rg 11 ?_;refine mV ?_;refine mV ?_;refine aV ?_;refine aV ?_;refine aV ?_)|refine nZ ?_)
      all_goals first | (exfalso; omega) | exact ret_plain (.inl rfl) rfl rfl
    · rw [if_neg h1, if_pos h2, if_neg h3]
      repeat' (first|refine wS ?_|refine wK ?_|refine wR ?_|refine wT ?_|refine wU ?_|(refine wC rfl (fun hb=>?_) (fun hb=>?_)<;>(((try simp only [nm] at hb);try (exfalso;omega))))|(refine rg 6 ?_;(all_goals (refine mV ?_;refine vV (by exact fs_lss rfl rfl) ?_;refine mV ?_));(all_goals (refine vc_split rfl rfl (fun hb=>?_) (fun hb=>?_)<;>((rw [hb];(try simp only [nm] at hb);try ((exfalso;omega);done)))));(all_goals first|(refine gT ?_;(refine mV ?_);refine gT ?_;(refine vV (by exact fs_lss rfl rfl) ?_))|(iterate 2 refine gF ?_));(all_goals ((refine pV ?_);refine aV ?_)))|(refine rg 8 ?_;(all_goals (refine mV ?_;refine vV (by exact fs_lss rfl rfl) ?_;refine mV ?_));(all_goals (refine vc_split rfl rfl (fun hb=>?_) (fun hb=>?_)<;>((rw [hb];(try simp only [nm] at hb);try ((exfalso;omega);done)))));(all_goals first|(refine gT ?_;(refine mV ?_);refine gT ?_;(refine vV (by exact fs_geq rfl rfl) ?_);refine gT ?_;(refine mV ?_))|(iterate 3 refine gF ?_));(all_goals first|(refine gK ?_)|(refine vc_split rfl rfl (fun hb=>?_) (fun hb=>?_)<;>((rw [hb];(try simp only [nm] at hb);try ((exfalso;omega);done)))));(all_goals first|(refine gT ?_;(refine mV ?_);refine gT ?_;(refine mV ?_);refine gT ?_;(refine vV (by exact fs_lss rfl rfl) ?_))|(iterate 3 refine gU ?_));(all_goals first|(refine gT ?_;(refine pV ?_))|(refine gF ?_));(all_goals ((refine pV ?_);refine aV ?_)))|(refine rg 9 ?_;refine mV ?_;refine aV ?_;refine aV ?_)|(refine rg 10 ?_;refine mV ?_;refine fV T ?_;refine lV T ?_;refine vV (by exact fs_gtr rfl rfl) ?_)|(refine rg 12 ?_;refine mV ?_;refine mV ?_;refine aV ?_;refine aV ?_;refine aV ?_)|refine nZ ?_)
      all_goals first | (exfalso; omega) | exact ret_plain (.inl rfl) rfl rfl
    · rw [if_neg h1, if_neg h2, if_pos h3]
      repeat' (first|refine wS ?_|refine wR ?_|refine wU ?_|(refine wC rfl (fun hb=>?_) (fun hb=>?_)<;>(((try simp only [nm] at hb);try (exfalso;omega))))|(refine rg 6 ?_;(all_goals (refine mV ?_;refine vV (by exact fs_lss rfl rfl) ?_;refine mV ?_));(all_goals (refine vc_split rfl rfl (fun hb=>?_) (fun hb=>?_)<;>((rw [hb];(try simp only [nm] at hb);try ((exfalso;omega);done)))));(all_goals (iterate 2 refine gF ?_));(all_goals ((refine pV ?_);refine aV ?_)))|(refine rg 8 ?_;(all_goals (refine mV ?_;refine vV (by exact fs_lss rfl rfl) ?_;refine mV ?_));(all_goals (refine vc_split rfl rfl (fun hb=>?_) (fun hb=>?_)<;>((rw [hb];(try simp only [nm] at hb);try ((exfalso;omega);done)))));(all_goals (refine gT ?_;(refine mV ?_);refine gT ?_;(refine vV (by exact fs_geq rfl rfl) ?_);refine gT ?_;(refine mV ?_)));(all_goals (refine vc_split rfl rfl (fun hb=>?_) (fun hb=>?_)<;>((rw [hb];(try simp only [nm] at hb);try ((exfalso;omega);done)))));(all_goals first|(refine gT ?_;(refine mV ?_);refine gT ?_;(refine mV ?_);refine gT ?_;(refine vV (by exact fs_lss rfl rfl) ?_))|(iterate 3 refine gF ?_));(all_goals (refine gT ?_;(refine pV ?_)));(all_goals ((refine pV ?_);refine aV ?_)))|(refine rg 5 ?_;refine mV ?_;refine aV ?_)|(refine rg 10 ?_;refine mV ?_;refine fV T ?_;refine lV T ?_;refine vV (by exact fs_gtr rfl rfl) ?_)|(refine rg 11 ?_;refine mV ?_;refine mV ?_;refine aV ?_;refine aV ?_;refine aV ?_)|refine nZ ?_)
      all_goals first | (exfalso; omega) | exact ret_plain (.inl rfl) rfl rfl
    · rw [if_neg h1, if_neg h2, if_neg h3]
      repeat' (first|refine wS ?_|refine wK ?_|refine wR ?_|refine wU ?_|(refine wC rfl (fun hb=>?_) (fun hb=>?_)<;>(((try simp only [nm] at hb);try (exfalso;omega))))|(refine rg 6 ?_;(all_goals (refine mV ?_;refine vV (by exact fs_lss rfl rfl) ?_;refine mV ?_));(all_goals (refine vc_split rfl rfl (fun hb=>?_) (fun hb=>?_)<;>((rw [hb];(try simp only [nm] at hb);try ((exfalso;omega);done)))));(all_goals (iterate 2 refine gF ?_));(all_goals ((refine pV ?_);refine aV ?_)))|(refine rg 8 ?_;(all_goals (refine mV ?_;refine vV (by exact fs_lss rfl rfl) ?_;refine mV ?_));(all_goals (refine vc_split rfl rfl (fun hb=>?_) (fun hb=>?_)<;>((rw [hb];(try simp only [nm] at hb);try ((exfalso;omega);done)))));(all_goals (refine gT ?_;(refine mV ?_);refine gT ?_;(refine vV (by exact fs_geq rfl rfl) ?_);refine gT ?_;(refine mV ?_)));(all_goals (refine vc_split rfl rfl (fun hb=>?_) (fun hb=>?_)<;>((rw [hb];(try simp only [nm] at hb);try ((exfalso;omega);done)))));(all_goals first|(refine gT ?_;(refine mV ?_);refine gT ?_;(refine mV ?_);refine gT ?_;(refine vV (by exact fs_lss rfl rfl) ?_))|(iterate 3 refine gF ?_));(all_goals (refine gT ?_;(refine pV ?_)));(all_goals ((refine pV ?_);refine aV ?_)))|(refine rg 5 ?_;refine mV ?_;refine aV ?_)|(refine rg 10 ?_;refine mV ?_;refine fV T ?_;refine lV T ?_;refine vV (by exact fs_gtr rfl rfl) ?_)|(refine rg 12 ?_;refine mV ?_;refine mV ?_;refine aV ?_;refine aV ?_;refine aV ?_)|refine nZ ?_)
      all_goals first | (exfalso; omega) | exact ret_plain (.inl rfl) rfl rfl
end Go.Proofs.YtjpcpbbkelgkeaaGreatDoor
namespace Go.Proofs.YtjpcpbbkelgkeaaGreatDoor
open Go Go.Ab Go.Fl Go.Shelf Go.Proofs Go.MapKept
attribute [local irreducible] VC AW FStep ACall PCall StrStruct StrT AStep
set_option maxHeartbeats 8000000
end Go.Proofs.YtjpcpbbkelgkeaaGreatDoor
namespace Go.Proofs.YtjpcpbbkelgkeaaGreatDoor
open Go Go.Ab Go.Fl Go.Shelf Go.Proofs Go.MapKept
attribute [local irreducible] VC AW FStep ACall PCall StrStruct StrT AStep
set_option maxHeartbeats 8000000
end Go.Proofs.YtjpcpbbkelgkeaaGreatDoor
namespace Go.Proofs.YtjpcpbbkelgkeaaGreatDoor
open Go Go.Ab Go.Fl Go.Shelf Go.Proofs Go.MapKept
attribute [local irreducible] VC AW FStep ACall PCall StrStruct StrT AStep
set_option maxHeartbeats 8000000
end Go.Proofs.YtjpcpbbkelgkeaaGreatDoor
namespace Go.Proofs.YtjpcpbbkelgkeaaGreatDoor
open Go Go.Ab Go.Fl Go.Shelf Go.Proofs Go.MapKept
attribute [local irreducible] VC AW FStep ACall PCall StrStruct StrT AStep
set_option maxHeartbeats 8000000
end Go.Proofs.YtjpcpbbkelgkeaaGreatDoor
namespace Go.Proofs.YtjpcpbbkelgkeaaGreatDoor
open Go Go.Ab Go.Fl Go.Re Go.Ln Go.MapKept
attribute [local irreducible] VC AW FStep ACall PCall AStep
set_option maxHeartbeats 4000000
theorem same_c (a b : List Int) (ha : a.length ≤ 9223372036854775807) : ACall Tryz.prog 13 [.rowE (ints a) 1, .rowE (ints b) 1] [] (.b (decide (a = b))) [] := by
  have hal : (ints a).length = a.length := by simp
  have hbl : (ints b).length = b.length := by simp
  by_cases hl : a.length = b.length
  · refine acall T Tryz.func13 rfl rfl rfl rfl ?_
    repeat' (first|refine wS ?_|refine wB ?_|refine wK ?_|(refine wC rfl (fun hb=>?_) (fun hb=>?_)<;>(((try simp only [nm] at hb);try (exfalso;omega))))|(refine rg 0 ?_;refine aV ?_)|(refine rg 1 ?_;refine mV ?_;(refine qV T ?_);refine mV ?_;(refine qV T ?_);refine vV (by exact fs_neq rfl rfl) ?_)|(refine rg 3 ?_;refine aV ?_)|refine nZ ?_)
    all_goals try (exfalso; omega)
    refine aw_loop (X := {i : Nat // i ≤ a.length ∧ a.take i = b.take i}) (fun i => [(0, .rowE (ints a) 1), (1, .rowE (ints b) 1), (5, .i i.1)]) (fun _ => []) (fun i => a.length - i.1) ⟨0, by omega, rfl⟩ (by (refine ⟨[], rfl, ?_, trivial, List.nodup_nil, fun _ h => absurd h (Nat.not_lt_zero _)⟩; (repeat (first | exact trivial | refine ⟨rfl, ?_⟩)))) ?_
    rintro ⟨i, hi, hg⟩
    dsimp only
    by_cases hlt : i < a.length
    · have q1 := ints_get (l := a) (k := i) hlt
      have q2 := ints_get (l := b) (k := i) (by omega)
      by_cases e : a[i] = b[i]
      · repeat' (first|refine wS ?_|refine wB ?_|refine wK ?_|(refine wC rfl (fun hb => ?_) (fun hb => ?_) <;> (((try simp only [nm] at hb); try (exfalso; omega))))|(((refine rg 4 ?_)); (all_goals (refine mV ?_; refine mV ?_; (refine qV T ?_); refine vV (by exact fs_lss rfl rfl) ?_)))|(((refine aw_draw2k (id := 6) 26 [[], [], [0, 1], [0, 1, 2], [], [], [4, 5], [4, 5, 6], [0, 1, 2, 3, 4, 5, 6, 7]] [17, 18, 19, 20, 21, 22, 23, 24, 25] [[], [17], [], [], [17, 18, 19, 20], [17, 18, 19, 20, 21], [17, 18, 19, 20], [17, 18, 19, 20], []] mixedP rfl (by decide +kernel) ?_)); (all_goals (refine dV rfl (by exact fs_move rfl) ?_)); (all_goals (refine dV rfl (by exact fs_move rfl) ?_)); (all_goals (refine dV rfl (by exact fs_indexRowE T rfl rfl rfl rfl rfl (by omega) (ints_len a) q1) ?_)); (all_goals (refine dV rfl (by exact fs_load T rfl rfl rfl rfl) ?_)); (all_goals (refine dV rfl (by exact fs_move rfl) ?_)); (all_goals (refine dV rfl (by exact fs_move rfl) ?_)); (all_goals (refine dV rfl (by exact fs_indexRowE T rfl rfl rfl rfl rfl (by omega) (ints_len b) q2) ?_)); (all_goals (refine dV rfl (by exact fs_load T rfl rfl rfl rfl) ?_)); (all_goals (refine dV rfl (by exact fs_neq rfl rfl) ?_)); (all_goals (refine dw_fin rfl rfl (by ((dsimp only [ln1, ln2, List.append_nil, ln4, ln5, ln6, ln7, ln8, ln9, putAt, putd, allObjs, argEnv, un_v, un_ptr, un_ep, un_pr, un_sl, un_mp, un_row, un_agg, un_tup, un_clo, Nat.zero_add, lnb, Nat.reduceAdd, lnc, lnd]; done))) ?_)))|(((refine rg 5 ?_)); (all_goals (refine mV ?_; refine vV (by exact fs_addr rfl rfl (by omega) (by omega)) ?_; refine aV ?_)))|(refine vc_nilp (by ((dsimp only [ln1, ln2, List.append_nil, ln4, ln5, ln6, ln7, ln8, ln9, putAt, putd, allObjs, argEnv, un_v, un_ptr, un_ep, un_pr, un_sl, un_mp, un_row, un_agg, un_tup, un_clo, Nat.zero_add, lnb, Nat.reduceAdd, lnc, lnd]; done))) ?_))
        all_goals try (exfalso; omega)
        refine ⟨⟨i + 1, hlt, ?_⟩, by dsimp only; omega, by (refine ⟨[], rfl, ?_, trivial, List.nodup_nil, fun _ h => absurd h (Nat.not_lt_zero _)⟩; (repeat (first | exact trivial | refine ⟨rfl, ?_⟩)))⟩
        rw [List.take_succ_eq_append_getElem hlt, List.take_succ_eq_append_getElem (by omega), hg, e]
      · rw [show decide (a = b) = false from decide_eq_false (fun h => e (by subst h; rfl))]
        repeat' (first|refine wS ?_|refine wB ?_|refine wK ?_|refine wR ?_|(refine wC rfl (fun hb=>?_) (fun hb=>?_)<;>(((try simp only [nm] at hb);try (exfalso;omega))))|(refine rg 4 ?_;refine mV ?_;refine mV ?_;(refine qV T ?_);refine vV (by exact fs_lss rfl rfl) ?_)|(((refine aw_draw2k (id := 6) 26 [[],[],[0,1],[0,1,2],[],[],[4,5],[4,5,6],[0,1,2,3,4,5,6,7]] [17,18,19,20,21,22,23,24,25] [[],[17],[],[],[17,18,19,20],[17,18,19,20,21],[17,18,19,20],[17,18,19,20],[]] mixedP rfl (by decide +kernel) ?_));(all_goals (refine dV rfl (by exact fs_move rfl) ?_));(all_goals (refine dV rfl (by exact fs_move rfl) ?_));(all_goals (refine dV rfl (by exact fs_indexRowE T rfl rfl rfl rfl rfl (by omega) (ints_len a) q1) ?_));(all_goals (refine dV rfl (by exact fs_load T rfl rfl rfl rfl) ?_));(all_goals (refine dV rfl (by exact fs_move rfl) ?_));(all_goals (refine dV rfl (by exact fs_move rfl) ?_));(all_goals (refine dV rfl (by exact fs_indexRowE T rfl rfl rfl rfl rfl (by omega) (ints_len b) q2) ?_));(all_goals (refine dV rfl (by exact fs_load T rfl rfl rfl rfl) ?_));(all_goals (refine dV rfl (by exact fs_neq rfl rfl) ?_));(all_goals (refine dw_fin rfl rfl (by ((dsimp only [ln1,ln2,List.append_nil,ln4,ln5,ln6,ln7,ln8,ln9,putAt,putd,allObjs,argEnv,un_v,un_ptr,un_ep,un_pr,un_sl,un_mp,un_row,un_agg,un_tup,un_clo,Nat.zero_add,lnb,Nat.reduceAdd,lnc,lnd];done))) ?_)))|(refine rg 7 ?_;refine aV ?_)|refine nZ ?_)
        all_goals first | (exfalso; omega) | exact ret_plain (.inl rfl) rfl rfl
    · rw [List.take_of_length_le (by omega), List.take_of_length_le (by omega)] at hg
      rw [show decide (a = b) = true from decide_eq_true hg]
      repeat' (first|refine wS ?_|refine wR ?_|refine wE ?_|(refine wC rfl (fun hb=>?_) (fun hb=>?_)<;>(((try simp only [nm] at hb);try (exfalso;omega))))|(refine rg 4 ?_;refine mV ?_;refine mV ?_;(refine qV T ?_);refine vV (by exact fs_lss rfl rfl) ?_)|(refine rg 8 ?_;refine aV ?_)|refine nZ ?_)
      all_goals first | (exfalso; omega) | exact ret_plain (.inl rfl) rfl rfl
  · rw [show decide (a = b) = false from decide_eq_false (fun h => hl (by rw [h]))]
    refine acall T Tryz.func13 rfl rfl rfl rfl ?_
    repeat' (first|refine wS ?_|refine wR ?_|(refine wC rfl (fun hb=>?_) (fun hb=>?_)<;>(((try simp only [nm] at hb);try (exfalso;omega))))|(refine rg 0 ?_;refine aV ?_)|(refine rg 1 ?_;refine mV ?_;(refine qV T ?_);refine mV ?_;(refine qV T ?_);refine vV (by exact fs_neq rfl rfl) ?_)|(refine rg 2 ?_;refine aV ?_)|refine nZ ?_)
    all_goals first | (exfalso; omega) | exact ret_plain (.inl rfl) rfl rfl
theorem sampleO_c : ACall Tryz.prog 11 [] [] (.agg [.i 5, .i 2, .i 1, .rowE (ints smF.k) 1, .sl 0 0 10 1, .nils, .nils, .nils, .nils]) [.arr (ints (List.replicate 10 15)) 1] := by
  refine acall T Tryz.func11 rfl rfl rfl rfl ?_
  repeat' (first|refine wS ?_|refine wB ?_|(refine rg 0 ?_;(all_goals (refine vc_n (by exact fs_alloc T rfl) rfl ?_)))|(refine rg 1 ?_;(all_goals (refine vc_n (by exact fs_buildSlice T rfl rfl (by decide) (by decide) rfl rfl rfl) rfl ?_;refine vc_frz 3 rfl rfl rfl rfl ?_));(all_goals (refine vV (by exact fs_build T rfl rfl rfl rfl) ?_));(all_goals (refine vc_n (by exact fs_alloc T rfl) rfl ?_));(all_goals (refine vc_store T rfl rfl rfl rfl rfl rfl (by decide) rfl ?_)))|(refine rg 2 ?_;refine aV ?_)|refine nZ ?_)
  refine aw_ownC 2 4 1 rfl rfl (by decide) ?_
  refine aw_loop (X := {j : Nat // j ≤ 10}) (fun j => [(0, .ptr 0 0), (1, .ptr 1 0), (2, .i j.1)]) (fun j => [.cells [.i 0, .i 0, .i 0, .nils, .nils, .nils, .nils, .nils, .nils], .cells [.i 5, .i 2, .i 1, .rowE (ints smF.k) 1, .sl 2 0 j.1 1], .arr (ints (List.replicate j.1 15)) 1]) (fun j => 10 - j.1) ⟨0, by omega⟩ ⟨[0, 2, 3], rfl, (by (repeat (first | exact trivial | refine ⟨rfl, ?_⟩))), ⟨.inr rfl, .inr rfl, .inr rfl, trivial⟩, by decide, fun _ hi => absurd hi (Nat.not_lt_zero _)⟩ ?_
  rintro ⟨j, hj⟩
  dsimp only
  have hrl : (List.replicate j (15 : Int)).length = j := List.length_replicate
  by_cases hlt : j < 10
  · have hrs : List.replicate (j + 1) (15 : Int) = List.replicate j 15 ++ [15] := List.replicate_succ'
    generalize List.replicate j (15 : Int) = R at *
    repeat' (first|refine wS ?_|refine wB ?_|refine wK ?_|refine wT ?_|(refine rg 3 ?_;refine mV ?_;refine vV (by exact fs_lssT rfl rfl (by omega)) ?_)|(refine rg 5 ?_;refine fV T ?_;refine lV T ?_;refine vc_n (by exact fs_buildSlice T rfl rfl (by decide) (by decide) rfl rfl rfl) rfl ?_;refine vc_append T rfl rfl rfl rfl rfl rfl (by simp;omega) (Elems.whole rfl rfl) rfl (by simp;omega) (by simp;omega) rfl ?_;refine fV T ?_;refine vc_store T rfl rfl rfl rfl rfl rfl (by decide) rfl ?_)|(refine rg 4 ?_;refine mV ?_;refine vV (by exact fs_addr rfl rfl (by omega) (by omega)) ?_;refine aV ?_)|refine nZ ?_)
    all_goals exact ⟨⟨j + 1, hlt⟩, by dsimp only; omega, [0, 1, 4], rfl, (by (repeat (first | exact trivial | refine ⟨rfl, ?_⟩))), ⟨.inr rfl, .inr (by simp only [hrl]; rfl), .inr (sub_arr rfl (by dsimp only; rw [hrs, ← hrl]; exact ints_app) (ints_idf _)), trivial⟩, by decide, fun _ hi => absurd hi (Nat.not_lt_zero _)⟩
  · obtain rfl : j = 10 := by omega
    repeat' (first|refine wS ?_|refine wR ?_|refine wE ?_|refine wU ?_|(refine rg 3 ?_;refine mV ?_;refine vV (by exact fs_lssF rfl rfl (by omega)) ?_)|(refine rg 6 ?_;refine lV T ?_;refine vV (by exact fs_build T rfl rfl rfl rfl) ?_;refine vc_store T rfl rfl rfl rfl rfl rfl (by decide) rfl ?_)|refine nZ ?_)
    all_goals exact ⟨.inl rfl, [2], _, rfl, rfl, rfl, ⟨.inr (sub_arr rfl rfl (ints_idf _)), trivial⟩, by decide, fun _ hi => absurd hi (Nat.not_lt_zero _)⟩
theorem sample_c : ACall Tryz.prog 11 [] [] (.agg (sitA smS)) [] :=
  acall_view sampleO_c (.agg (.cons (.v _) (.cons (.v _) (.cons (.v _) (.cons (.row _ _ _) (.cons (view_ints rfl rfl) (.cons (.nils 5) (.cons (.nils 2) (.cons (.nils 2) (.cons (.nils 2) .nil))))))))))
theorem way_1 : LaneP (netP smS (walkP smF) 1) [1, 0] ∧ LaneP (netP smS (walkP smF) 1) [1, 2, 3, 4] := by
  rw [sm_walk]
  refine ⟨⟨by decide, [0], rfl, (by decide : exB smF 1 = false), (by decide : (0 : Int) ∈ stepP smF [0, 1, 2, 3, 4] 1), (by decide : exB smF 0 = true)⟩, ⟨by decide, [2, 3, 4], rfl, (by decide : exB smF 1 = false), (by decide : (2 : Int) ∈ stepP smF [0, 1, 2, 3, 4] 1), (by decide : exB smF 2 = false), (by decide : (3 : Int) ∈ stepP smF [0, 1, 2, 3, 4] 2), (by decide : exB smF 3 = false), (by decide : (4 : Int) ∈ stepP smF [0, 1, 2, 3, 4] 3), (by decide : exB smF 4 = true)⟩⟩
theorem way_2 : LaneP (netP smS (walkP smF) 2) [2, 1, 0] ∧ LaneP (netP smS (walkP smF) 2) [2, 3, 4] := by
  rw [sm_walk]
  refine ⟨⟨by decide, [1, 0], rfl, (by decide : exB smF 2 = false), (by decide : (1 : Int) ∈ stepP smF [0, 1, 2, 3, 4] 2), (by decide : exB smF 1 = false), (by decide : (0 : Int) ∈ stepP smF [0, 1, 2, 3, 4] 1), (by decide : exB smF 0 = true)⟩, ⟨by decide, [3, 4], rfl, (by decide : exB smF 2 = false), (by decide : (3 : Int) ∈ stepP smF [0, 1, 2, 3, 4] 2), (by decide : exB smF 3 = false), (by decide : (4 : Int) ∈ stepP smF [0, 1, 2, 3, 4] 3), (by decide : exB smF 4 = true)⟩⟩
theorem way_3 : LaneP (netP smS (walkP smF) 3) [3, 2, 1, 0] ∧ LaneP (netP smS (walkP smF) 3) [3, 4] := by
  rw [sm_walk]
  refine ⟨⟨by decide, [2, 1, 0], rfl, (by decide : exB smF 3 = false), (by decide : (2 : Int) ∈ stepP smF [0, 1, 2, 3, 4] 3), (by decide : exB smF 2 = false), (by decide : (1 : Int) ∈ stepP smF [0, 1, 2, 3, 4] 2), (by decide : exB smF 1 = false), (by decide : (0 : Int) ∈ stepP smF [0, 1, 2, 3, 4] 1), (by decide : exB smF 0 = true)⟩, ⟨by decide, [4], rfl, (by decide : exB smF 3 = false), (by decide : (4 : Int) ∈ stepP smF [0, 1, 2, 3, 4] 3), (by decide : exB smF 4 = true)⟩⟩
theorem not_stuck {s : Sit} {c : Int} {l l' : List Int} (h1 : LaneP (netP s (walkP s.fl) c) l) (h2 : LaneP (netP s (walkP s.fl) c) l') (h : ∀ x, x ∈ l → x ∈ l' → x = c) : ¬ StuckP s c := by
  rintro (h3 | ⟨x, hx, h3⟩)
  · exact h3 _ h1
  · exact hx (h x (h3 _ h1) (h3 _ h2))
theorem sm_free : ∀ c, c ∈ kindC smF 4 → ¬ StuckP smS c := by
  intro c hc
  rw [sm_kind] at hc
  simp only [List.mem_cons, List.not_mem_nil, or_false] at hc
  rcases hc with rfl | rfl | rfl
  · exact not_stuck way_1.1 way_1.2 (by decide)
  · exact not_stuck way_2.1 way_2.2 (by decide)
  · exact not_stuck way_3.1 way_3.2 (by decide)
theorem sm_certs {L : List LaneT} (h1 : L.map (·.1) = kindC smF 4) (h2 : ∀ x, x ∈ L → PairOk smS x) : ∃ (a1 b1 a3 b3 A B : List Int), L = [(1, a1, b1), (2, A, B), (3, a3, b3)] ∧ ((A = [2, 1, 0] ∧ B = [2, 3, 4]) ∨ (A = [2, 3, 4] ∧ B = [2, 1, 0])) := by
  rw [sm_kind] at h1
  match L, h1, h2 with
  | [], h1, _ => simp at h1
  | [_], h1, _ => simp at h1
  | [_, _], h1, _ => simp at h1
  | _ :: _ :: _ :: _ :: _, h1, _ => simp at h1
  | [(c1, a1, b1), (c2, A, B), (c3, a3, b3)], h1, h2 =>
    simp only [List.map_cons, List.map_nil, List.cons.injEq, and_true] at h1
    obtain ⟨rfl, rfl, rfl⟩ := h1
    obtain ⟨p1, p2, p3⟩ := h2 (2, A, B) (by simp)
    dsimp only at p1 p2 p3
    refine ⟨a1, b1, a3, b3, A, B, rfl, ?_⟩
    rcases sm_lane p1 with rfl | rfl <;> rcases sm_lane p2 with rfl | rfl
    · exact absurd (p3 1 (by simp) (by simp)) (by decide)
    · exact .inl ⟨rfl, rfl⟩
    · exact .inr ⟨rfl, rfl⟩
    · exact absurd (p3 3 (by simp) (by simp)) (by decide)
theorem sm_len {L : List LaneT} (h2 : ∀ x, x ∈ L → PairOk smS x) : ∀ x, x ∈ L → x.2.1.length ≤ 1000000 ∧ x.2.2.length ≤ 1000000 := fun x hx => by
  obtain ⟨p1, p2, _⟩ := h2 x hx
  have q1 := lane_len p1
  have q2 := lane_len p2
  have e : (walkP smS.fl).length = 5 := by show (walkP smF).length = 5; rw [sm_walk]; rfl
  omega
theorem smallL_c : ACall Tryz.prog 4 [] [] (.b true) [] := by
  have cM := make_p smS sm_fine
  have cO := off_c smS sm_fine 2 (by unfold rngI; omega)
  rw [show offR smS.fl 2 = [2, 7] from sm_off] at cO
  have cE := same_c [2, 7] [2, 7] (by decide)
  have c00 := same_c [2, 1, 0] [2, 1, 0] (by decide)
  have c01 := same_c [2, 1, 0] [2, 3, 4] (by decide)
  have c10 := same_c [2, 3, 4] [2, 1, 0] (by decide)
  have c11 := same_c [2, 3, 4] [2, 3, 4] (by decide)
  rw [decide_eq_true rfl] at c00 c11 cE
  rw [decide_eq_false (by decide)] at c01 c10
  refine PCall.toA (Φ := fun r o => r = .b true ∧ o = []) ?_ (fun _ _ h => h)
  refine pcall T Tryz.func4 rfl rfl rfl rfl ?_
  repeat' (first|refine wS ?_|(refine rg 0 ?_;refine aV ?_)|(refine rg 1 ?_;refine vV (by exact kC (sample_c)) ?_;refine vc_n (by exact fs_alloc T rfl) rfl ?_;refine vc_store T rfl rfl rfl rfl rfl rfl (by decide) rfl ?_)|(refine rg 2 ?_;(all_goals (refine lV T ?_));(all_goals (refine vc_pcallw [] rfl rfl cM rfl rfl (by decide) trivial (by simp) rfl ?_;rintro _ _ ⟨rfl,(⟨L,h1,h2⟩|⟨L,c,post,h1,h2,h3⟩)⟩));(all_goals (refine mV ?_;refine xV ?_;refine xV ?_;refine xV ?_;refine vc_n (by exact fs_alloc T rfl) rfl ?_;refine vc_store T rfl rfl rfl rfl rfl rfl (by decide) rfl ?_;refine aV ?_;refine aV ?_)))|refine nZ ?_)
  · have hlen := sm_len h2
    have hb : boundP smS.fl = 1 := sm_bound
    rw [hb]
    obtain ⟨a1, b1, a3, b3, A, B, rfl, hAB⟩ := sm_certs h1 h2
    have q1 : (lanesA [(1, a1, b1), (2, A, B), (3, a3, b3)])[(1 : Int).toNat]? = some (laneA (2, A, B)) := rfl
    have cR := request_c [(1, a1, b1), (2, A, B), (3, a3, b3)] 1 2 [0, -1, 0, 1, 0, 0, 0, 0, 0, 0] (by simp) hlen
    rcases hAB with ⟨rfl, rfl⟩ | ⟨rfl, rfl⟩
    · rw [show reqP [(1, a1, b1), (2, [2, 1, 0], [2, 3, 4]), (3, a3, b3)] 1 2 [0, -1, 0, 1, 0, 0, 0, 0, 0, 0] = (1, 1, 0) from rfl] at cR
      repeat' (first|refine wS ?_|refine wK ?_|refine wU ?_|(refine rg 3 ?_;(all_goals (refine mV ?_;refine vV (by exact fs_neq rfl rfl) ?_;refine mV ?_));(all_goals (refine gK ?_));(all_goals (refine gT ?_;(refine mV ?_);refine gT ?_;(refine vV (by exact fs_neq rfl rfl) ?_)));(all_goals ((refine pV ?_);refine mV ?_));(all_goals (refine gK ?_));(all_goals (refine gT ?_;(refine fV T ?_);refine gT ?_;(refine lV T ?_);refine gT ?_;(refine qV T ?_);refine gT ?_;(refine vV (by exact fs_neq rfl rfl) ?_)));(all_goals ((refine pV ?_);refine mV ?_));(all_goals (refine gK ?_));(all_goals (refine gT ?_;(refine fV T ?_);refine gT ?_;(refine lV T ?_);refine gT ?_;(refine vV (by exact fs_neq rfl rfl) ?_)));(all_goals (refine pV ?_)))|(refine rg 5 ?_;refine fV T ?_;refine lV T ?_;refine vV (by exact fs_indexRowE T rfl rfl rfl rfl rfl (by decide) (lanes_len _) q1) ?_;refine lV T ?_;refine vc_n (by exact fs_alloc T rfl) rfl ?_;refine vc_store T rfl rfl rfl rfl rfl rfl (by decide) rfl ?_)|refine nZ ?_)
      refine aw_keep [(1, .ptr 0 0), (2, .ptr 1 0), (5, .ptr 2 0)] [.cells (sitA smS), .cells (certA [(1, a1, b1), (2, [2, 1, 0], [2, 3, 4]), (3, a3, b3)] 1), .cells (laneA (2, [2, 1, 0], [2, 3, 4]))] ⟨[0, 1, 2], rfl, (by (repeat (first | exact trivial | refine ⟨rfl, ?_⟩))), ⟨.inr rfl, .inr rfl, .inr rfl, trivial⟩, by decide, fun _ hi => absurd hi (Nat.not_lt_zero _)⟩ ?_
      repeat' (first|refine wS ?_|(refine rg 6 ?_;(all_goals (refine fV T ?_;refine lV T ?_));(all_goals (refine vc_n (by exact fs_buildSlice T rfl rfl (by decide) (by decide) rfl rfl rfl) rfl ?_;refine vc_frz 42 rfl rfl rfl rfl ?_));(all_goals (refine vV (by exact kC (c00)) ?_;refine mV ?_));(all_goals (refine gK ?_));(all_goals (refine gT ?_;(refine fV T ?_);refine gT ?_;(refine lV T ?_);refine gT ?_;((refine vc_n (by exact fs_buildSlice T rfl rfl (by decide) (by decide) rfl rfl rfl) rfl ?_;refine vc_frz 47 rfl rfl rfl rfl ?_));refine gT ?_;(refine vV (by exact kC (c11)) ?_)));(all_goals ((refine pV ?_);refine aV ?_)))|(refine rg 7 ?_;(all_goals (refine fV T ?_;refine lV T ?_));(all_goals (refine vc_n (by exact fs_buildSlice T rfl rfl (by decide) (by decide) rfl rfl rfl) rfl ?_;refine vc_frz 52 rfl rfl rfl rfl ?_));(all_goals (refine vV (by exact kC (c10)) ?_;refine mV ?_));(all_goals (refine gK ?_));(all_goals (iterate 4 refine gF ?_));(all_goals ((refine pV ?_);refine aV ?_)))|refine nZ ?_)
      refine aw_keep [(1, .ptr 0 0), (2, .ptr 1 0), (6, .b true), (7, .b false)] [.cells (sitA smS), .cells (certA [(1, a1, b1), (2, [2, 1, 0], [2, 3, 4]), (3, a3, b3)] 1)] ⟨[0, 1], rfl, (by (repeat (first | exact trivial | refine ⟨rfl, ?_⟩))), ⟨.inr rfl, .inr rfl, trivial⟩, by decide, fun _ hi => absurd hi (Nat.not_lt_zero _)⟩ ?_
      repeat' (first|refine wS ?_|(refine rg 8 ?_;(all_goals (refine vc_n (by exact fs_buildSlice T rfl rfl (by decide) (by decide) rfl rfl rfl) rfl ?_;refine vc_frz 60 rfl rfl rfl rfl ?_));(all_goals (refine aV ?_)))|(refine rg 9 ?_;refine lV T ?_;refine mV ?_;refine vV (by exact kC (cR)) ?_;refine mV ?_;refine xV ?_;refine xV ?_;refine xV ?_;refine aV ?_;refine aV ?_;refine aV ?_)|refine nZ ?_)
      refine aw_keep [(1, .ptr 0 0), (6, .b true), (7, .b false), (9, .i 1), (10, .i 1), (11, .i 0)] [.cells (sitA smS)] ⟨[0], rfl, (by (repeat (first | exact trivial | refine ⟨rfl, ?_⟩))), ⟨.inr rfl, trivial⟩, by decide, fun _ hi => absurd hi (Nat.not_lt_zero _)⟩ ?_
      repeat' (first|refine wR ?_|(refine rg 10 ?_;(all_goals (refine mV ?_;refine mV ?_));(all_goals (refine gK ?_));(all_goals (refine gT ?_;(refine mV ?_);refine gT ?_;(refine vV (by exact fs_eql rfl rfl) ?_)));(all_goals ((refine pV ?_);refine mV ?_));(all_goals (refine gK ?_));(all_goals (iterate 2 refine gF ?_));(all_goals (refine gK ?_));(all_goals (iterate 2 refine gU ?_));(all_goals (refine gF ?_));(all_goals ((refine pV ?_);refine mV ?_));(all_goals (refine gK ?_));(all_goals (refine gT ?_;(refine mV ?_);refine gT ?_;(refine vV (by exact fs_eql rfl rfl) ?_)));(all_goals ((refine pV ?_);refine mV ?_));(all_goals (refine gK ?_));(all_goals (refine gT ?_;(refine mV ?_);refine gT ?_;(refine vV (by exact fs_eql rfl rfl) ?_)));(all_goals ((refine pV ?_);refine mV ?_));(all_goals (refine gK ?_));(all_goals (refine gT ?_;(refine lV T ?_);refine gT ?_;(refine vV (by exact kC (cO)) ?_);refine gT ?_;((refine vc_n (by exact fs_buildSlice T rfl rfl (by decide) (by decide) rfl rfl rfl) rfl ?_;refine vc_frz 91 rfl rfl rfl rfl ?_));refine gT ?_;(refine vV (by exact kC (cE)) ?_)));(all_goals ((refine pV ?_);refine aV ?_)))|refine nZ ?_)
      all_goals exact ⟨_, _, ⟨rfl, rfl⟩, ret_plain (.inl rfl) rfl rfl⟩
    · rw [show reqP [(1, a1, b1), (2, [2, 3, 4], [2, 1, 0]), (3, a3, b3)] 1 2 [0, -1, 0, 1, 0, 0, 0, 0, 0, 0] = (0, 1, 0) from rfl] at cR
      repeat' (first|refine wS ?_|refine wK ?_|refine wU ?_|(refine rg 3 ?_;(all_goals (refine mV ?_;refine vV (by exact fs_neq rfl rfl) ?_;refine mV ?_));(all_goals (refine gK ?_));(all_goals (refine gT ?_;(refine mV ?_);refine gT ?_;(refine vV (by exact fs_neq rfl rfl) ?_)));(all_goals ((refine pV ?_);refine mV ?_));(all_goals (refine gK ?_));(all_goals (refine gT ?_;(refine fV T ?_);refine gT ?_;(refine lV T ?_);refine gT ?_;(refine qV T ?_);refine gT ?_;(refine vV (by exact fs_neq rfl rfl) ?_)));(all_goals ((refine pV ?_);refine mV ?_));(all_goals (refine gK ?_));(all_goals (refine gT ?_;(refine fV T ?_);refine gT ?_;(refine lV T ?_);refine gT ?_;(refine vV (by exact fs_neq rfl rfl) ?_)));(all_goals (refine pV ?_)))|(refine rg 5 ?_;refine fV T ?_;refine lV T ?_;refine vV (by exact fs_indexRowE T rfl rfl rfl rfl rfl (by decide) (lanes_len _) q1) ?_;refine lV T ?_;refine vc_n (by exact fs_alloc T rfl) rfl ?_;refine vc_store T rfl rfl rfl rfl rfl rfl (by decide) rfl ?_)|refine nZ ?_)
      refine aw_keep [(1, .ptr 0 0), (2, .ptr 1 0), (5, .ptr 2 0)] [.cells (sitA smS), .cells (certA [(1, a1, b1), (2, [2, 3, 4], [2, 1, 0]), (3, a3, b3)] 1), .cells (laneA (2, [2, 3, 4], [2, 1, 0]))] ⟨[0, 1, 2], rfl, (by (repeat (first | exact trivial | refine ⟨rfl, ?_⟩))), ⟨.inr rfl, .inr rfl, .inr rfl, trivial⟩, by decide, fun _ hi => absurd hi (Nat.not_lt_zero _)⟩ ?_
      repeat' (first|refine wS ?_|(refine rg 6 ?_;(all_goals (refine fV T ?_;refine lV T ?_));(all_goals (refine vc_n (by exact fs_buildSlice T rfl rfl (by decide) (by decide) rfl rfl rfl) rfl ?_;refine vc_frz 42 rfl rfl rfl rfl ?_));(all_goals (refine vV (by exact kC (c10)) ?_;refine mV ?_));(all_goals (refine gK ?_));(all_goals (iterate 4 refine gF ?_));(all_goals ((refine pV ?_);refine aV ?_)))|(refine rg 7 ?_;(all_goals (refine fV T ?_;refine lV T ?_));(all_goals (refine vc_n (by exact fs_buildSlice T rfl rfl (by decide) (by decide) rfl rfl rfl) rfl ?_;refine vc_frz 52 rfl rfl rfl rfl ?_));(all_goals (refine vV (by exact kC (c00)) ?_;refine mV ?_));(all_goals (refine gK ?_));(all_goals (refine gT ?_;(refine fV T ?_);refine gT ?_;(refine lV T ?_);refine gT ?_;((refine vc_n (by exact fs_buildSlice T rfl rfl (by decide) (by decide) rfl rfl rfl) rfl ?_;refine vc_frz 57 rfl rfl rfl rfl ?_));refine gT ?_;(refine vV (by exact kC (c11)) ?_)));(all_goals ((refine pV ?_);refine aV ?_)))|refine nZ ?_)
      refine aw_keep [(1, .ptr 0 0), (2, .ptr 1 0), (6, .b false), (7, .b true)] [.cells (sitA smS), .cells (certA [(1, a1, b1), (2, [2, 3, 4], [2, 1, 0]), (3, a3, b3)] 1)] ⟨[0, 1], rfl, (by (repeat (first | exact trivial | refine ⟨rfl, ?_⟩))), ⟨.inr rfl, .inr rfl, trivial⟩, by decide, fun _ hi => absurd hi (Nat.not_lt_zero _)⟩ ?_
      repeat' (first|refine wS ?_|(refine rg 8 ?_;(all_goals (refine vc_n (by exact fs_buildSlice T rfl rfl (by decide) (by decide) rfl rfl rfl) rfl ?_;refine vc_frz 60 rfl rfl rfl rfl ?_));(all_goals (refine aV ?_)))|(refine rg 9 ?_;refine lV T ?_;refine mV ?_;refine vV (by exact kC (cR)) ?_;refine mV ?_;refine xV ?_;refine xV ?_;refine xV ?_;refine aV ?_;refine aV ?_;refine aV ?_)|refine nZ ?_)
      refine aw_keep [(1, .ptr 0 0), (6, .b false), (7, .b true), (9, .i 0), (10, .i 1), (11, .i 0)] [.cells (sitA smS)] ⟨[0], rfl, (by (repeat (first | exact trivial | refine ⟨rfl, ?_⟩))), ⟨.inr rfl, trivial⟩, by decide, fun _ hi => absurd hi (Nat.not_lt_zero _)⟩ ?_
      repeat' (first|refine wR ?_|(refine rg 10 ?_;(all_goals (refine mV ?_;refine mV ?_));(all_goals (refine gK ?_));(all_goals (iterate 2 refine gF ?_));(all_goals ((refine pV ?_);refine mV ?_));(all_goals (refine gK ?_));(all_goals (refine gT ?_;(refine mV ?_);refine gT ?_;(refine mV ?_)));(all_goals (refine gK ?_));(all_goals (refine gT ?_;(refine mV ?_);refine gT ?_;(refine vV (by exact fs_eql rfl rfl) ?_)));(all_goals (refine gT ?_;(refine pV ?_)));(all_goals ((refine pV ?_);refine mV ?_));(all_goals (refine gK ?_));(all_goals (refine gT ?_;(refine mV ?_);refine gT ?_;(refine vV (by exact fs_eql rfl rfl) ?_)));(all_goals ((refine pV ?_);refine mV ?_));(all_goals (refine gK ?_));(all_goals (refine gT ?_;(refine mV ?_);refine gT ?_;(refine vV (by exact fs_eql rfl rfl) ?_)));(all_goals ((refine pV ?_);refine mV ?_));(all_goals (refine gK ?_));(all_goals (refine gT ?_;(refine lV T ?_);refine gT ?_;(refine vV (by exact kC (cO)) ?_);refine gT ?_;((refine vc_n (by exact fs_buildSlice T rfl rfl (by decide) (by decide) rfl rfl rfl) rfl ?_;refine vc_frz 91 rfl rfl rfl rfl ?_));refine gT ?_;(refine vV (by exact kC (cE)) ?_)));(all_goals ((refine pV ?_);refine aV ?_)))|refine nZ ?_)
      all_goals exact ⟨_, _, ⟨rfl, rfl⟩, ret_plain (.inl rfl) rfl rfl⟩
  · exact absurd h3 (sm_free c (by rw [show smS.fl = smF from rfl] at h1; rw [← h1]; simp))
end Go.Proofs.YtjpcpbbkelgkeaaGreatDoor
namespace Go.Proofs.YtjpcpbbkelgkeaaGreatDoor
open Go Go.Ab Go.Shelf Go.Proofs
shelf_lay LaysM.n246 Nm 246 at Tryz as laysFmt
theorem format_c (n : Int) (h0 : -9223372036854775808 ≤ n) (h1 : n ≤ 9223372036854775807) : ACall Tryz.prog 81 [.i n, .i 10] [] (.s (Go.Lib.itoa n)) [] :=
  acall_format (name := "internal/strconv.uint64pow10") (gi := 3) (tab := Go.Lib.pow10Tab) ⟨_, Tryz.func81, by kernel_rfl, by kernel_rfl⟩ (fun n w h2 h3 h4 => Any.internal_strconv_FormatInt_10 laysFmt n h2 h3 w h4) (by kernel_rfl) (by unfold globTab Go.Lib.pow10Tab; simp [List.map_map, Function.comp_def]) n h0 h1
theorem sizeB : (Tryz.prog.info? 107).map (·.size) = some 2 := by kernel_rfl
theorem liesB : liesAt Tryz.prog Tryz.prog.depth 107 (2 / Tryz.prog.cellsOf 107) 0 107 1 = true := by kernel_rfl
theorem undP : Tryz.prog.underlying 159 = some .unsafePointer := by kernel_rfl
theorem undB : Tryz.prog.underlying 104 = some (.pointer 107) := by kernel_rfl
set_option maxHeartbeats 1000000 in
set_option maxRecDepth 100000 in
theorem cc_fresh (b : Nat) (w : World) (h0 : w.cell? ⟨b, 0, none⟩ = some (.pointer none)) (hsh : w.shape? b = some (107, 2)) (hfz : w.frozen? ⟨b, 0, none⟩ = false) :
    Calls Tryz.prog 82 #[.pointer (some ⟨b, 0, none⟩)] w fun e w' => e = .returned (.tuple #[]) ∧ w' = w.setCell ⟨b, 0, none⟩ (.pointer (some ⟨b, 0, none⟩)) := by
  obtain ⟨j, hj, hjs⟩ := Option.map_eq_some_iff.1 sizeB
  go_enter Tryz.func82, Tryz.ntmps82
  go_wp2
  rw [Go.Lib.run_to_unsafe w ⟨b, 0, none⟩ undB undP hj (by rw [hjs]; decide) hsh (Nat.zero_lt_succ 1)]
  simp only [Result.andThen]
  rw [Oper.upon_value]
  go_wp2
  rw [run_callFunc_extern Tryz.func111 (by kernel_rfl) (by kernel_rfl) (by kernel_rfl) (e := Extern.AbiNoEscape.same) (by kernel_rfl)]
  rw [Go.Lib.run_noEscape]
  simp only [Result.andThen]
  rw [Oper.upon_value]
  go_wp2
  rw [Go.Lib.run_from_unsafe w ⟨b, 0, none⟩ undP undB hj hsh liesB]
  simp only [Result.andThen]
  rw [Oper.upon_value]
  go_wp2
  go_end0
  exact ⟨rfl, rfl⟩
theorem ccFresh_c (x : AV) : ACall Tryz.prog 82 [.ptr 0 0] [.var 107 [.v (.pointer none), x]] (.tup []) [.cells [.ptr 0 0, x]] :=
  acall_ccFresh ⟨_, Tryz.func82, by kernel_rfl, by kernel_rfl⟩ (fun b w h1 h2 h3 => cc_fresh b w h1 h2 h3)
end Go.Proofs.YtjpcpbbkelgkeaaGreatDoor
namespace Go.Proofs.YtjpcpbbkelgkeaaGreatDoor
open Go Go.Ab
attribute [local irreducible] VC AW FStep ACall
set_option maxHeartbeats 4000000
theorem strTW : StrT Tryz.prog 9 := by unfold StrT; kernel_rfl
theorem strU : Tryz.prog.underlying 9 = some .string := by kernel_rfl
theorem byteU : Tryz.prog.underlying 124 = some (.pointer 5) := by kernel_rfl
theorem byteC : Tryz.prog.cellsOf 5 = 1 := by kernel_rfl
theorem lt02 : ∀ i : Nat, i < 2 → ([0, 1, 2] : List Nat)[i]? = some i := by decide
theorem lt2 : ∀ i : Nat, i < 2 → ([0, 1] : List Nat)[i]? = some i := by decide
theorem ccUsed_c (l : List UInt8) : ACall Tryz.prog 82 [.ptr 0 0] [.cells [.ptr 0 0, .sl 1 0 l.length 1], .buf 5 l] (.tup []) [.cells [.ptr 0 0, .sl 1 0 l.length 1], .buf 5 l] := by
  obtain ⟨j, hj, _⟩ := Option.map_eq_some_iff.1 sizeB
  refine acall T Tryz.func82 rfl rfl rfl rfl ?_
  repeat' (first|refine wS ?_|refine wB ?_|refine wK ?_|refine wR ?_|refine wE ?_|refine wT ?_|refine wU ?_|(refine wC rfl (fun hb=>?_) (fun hb=>?_)<;>(first|subst hb|((try simp only [nm] at hb);try (exfalso;omega))))|(refine rg 0 ?_;refine mV ?_;refine nV ?_;refine fV T ?_;refine lV T ?_;refine vV (by first|exact fs_eql rfl rfl|exact fs_ptrNilF undB rfl rfl rfl|exact fs_ptrSame undB hj rfl rfl) ?_)|(refine rg 2 ?_;refine mV ?_;refine nV ?_;refine fV T ?_;refine lV T ?_;refine mV ?_;refine vV (by first|exact fs_neq rfl rfl|exact fs_ptrNilF undB rfl rfl rfl|exact fs_ptrSame undB hj rfl rfl) ?_)|refine nZ ?_)
  all_goals exact ⟨.inr rfl, [0, 1], _, rfl, rfl, rfl, ⟨.inr rfl, .inr rfl, trivial⟩, by decide, lt2⟩
theorem write_c (l s : List UInt8) (hl : l.length + s.length ≤ 100000000000) : ACall Tryz.prog 65 [.ptr 0 0, .s s] [.cells [.ptr 0 0, .sl 1 0 l.length 1], .buf 5 l] (.tup [.i s.length, .v .nilIface]) [.cells [.ptr 0 0, .sl 2 0 (l.length + s.length) 1], .gone, .buf 5 (l ++ s)] := by
  refine acall T Tryz.func65 rfl rfl rfl rfl ?_
  repeat' (first|refine wS ?_|refine wB ?_|refine wK ?_|refine wR ?_|refine wE ?_|refine wT ?_|refine wU ?_|(refine wC rfl (fun hb=>?_) (fun hb=>?_)<;>(first|subst hb|((try simp only [nm] at hb);try (exfalso;omega))))|(refine rg 0 ?_;refine aV ?_;refine aV ?_)|(refine rg 1 ?_;refine mV ?_;refine vc_callw [0,1] rfl rfl (ccUsed_c l) rfl rfl (by decide) ⟨.inr rfl,.inr rfl,trivial⟩ (by simp) rfl ?_)|(refine rg 2 ?_;refine mV ?_;refine mV ?_;refine nV ?_;refine fV T ?_;refine lV T ?_;refine mV ?_;refine vc_appendB T (e := 5) strU rfl rfl rfl rfl rfl rfl rfl rfl (by omega) rfl ?_;refine nV ?_;refine fV T ?_;refine vc_store T rfl rfl rfl rfl rfl rfl (by decide) rfl ?_)|(refine rg 3 ?_;refine mV ?_;refine vV (by first|exact fs_lenOwn T rfl rfl|exact fs_lenRow T rfl rfl|exact fs_lenNil T rfl rfl|exact fs_lenS strTW rfl) ?_;refine aV ?_;refine aV ?_)|refine nZ ?_)
  all_goals exact ⟨.inl rfl, [0, 1, 2], _, rfl, rfl, rfl, ⟨.inr rfl, .inl rfl, .inr rfl, trivial⟩, by decide, lt02⟩
theorem lt02' : ∀ i : Nat, i < 1 → ([0, 2] : List Nat)[i]? = some i := by decide
theorem write0_c (s : List UInt8) (hl : s.length ≤ 100000000000) : ACall Tryz.prog 65 [.ptr 0 0, .s s] [.var 107 [.v (.pointer none), .nils]] (.tup [.i s.length, .v .nilIface]) [.cells [.ptr 0 0, .sl 1 0 s.length 1], .buf 5 s] := by
  refine acall T Tryz.func65 rfl rfl rfl rfl ?_
  repeat' (first|refine wS ?_|refine wB ?_|refine wK ?_|refine wR ?_|refine wE ?_|refine wT ?_|refine wU ?_|(refine wC rfl (fun hb=>?_) (fun hb=>?_)<;>(first|subst hb|((try simp only [nm] at hb);try (exfalso;omega))))|(refine rg 0 ?_;refine aV ?_;refine aV ?_)|(refine rg 1 ?_;refine mV ?_;refine vc_callw [0] rfl rfl (ccFresh_c .nils) rfl rfl (by decide) ⟨.inr rfl,trivial⟩ (by simp) rfl ?_)|refine nZ ?_)
  refine aw_keep [(0, .ptr 0 0), (1, .s s)] [.cells [.ptr 0 0, .nils]] ⟨[0], rfl, (by (repeat (first | exact trivial | refine ⟨rfl, ?_⟩))), (by (repeat (first | exact trivial | refine ⟨Or.inl rfl, ?_⟩ | refine ⟨Or.inr rfl, ?_⟩))), by decide, lt1z⟩ ?_
  refine aw_bufC 0 1 5 rfl rfl ?_
  dsimp only [ln1, ln2, List.append_nil, ln4, ln5, ln6, ln7, ln8, ln9, putAt, putd, allObjs, argEnv, un_v, un_ptr, un_ep, un_pr, un_sl, un_mp, un_row, un_agg, un_tup, un_clo, Nat.zero_add, lnb, Nat.reduceAdd, lnc, lnd]
  repeat' (first|refine wS ?_|refine wB ?_|refine wK ?_|refine wR ?_|refine wE ?_|refine wT ?_|refine wU ?_|(refine wC rfl (fun hb=>?_) (fun hb=>?_)<;>(first|subst hb|((try simp only [nm] at hb);try (exfalso;omega))))|(refine rg 2 ?_;refine mV ?_;refine mV ?_;refine nV ?_;refine fV T ?_;refine lV T ?_;refine mV ?_;refine vc_appendB T (e := 5) (lb := []) strU rfl rfl rfl rfl rfl rfl rfl rfl (by simp;omega) rfl ?_;refine nV ?_;refine fV T ?_;refine vc_store T rfl rfl rfl rfl rfl rfl (by decide) rfl ?_)|(refine rg 3 ?_;refine mV ?_;refine vV (by first|exact fs_lenOwn T rfl rfl|exact fs_lenRow T rfl rfl|exact fs_lenNil T rfl rfl|exact fs_lenS strTW rfl) ?_;refine aV ?_;refine aV ?_)|refine nZ ?_)
  simp only [List.length_nil, Nat.zero_add, List.nil_append]
  all_goals exact ⟨.inl rfl, [0, 2], _, rfl, rfl, rfl, ⟨.inr rfl, .inr rfl, trivial⟩, by decide, lt02'⟩
theorem string_c (l : List UInt8) (h0 : l ≠ []) (hl : l.length ≤ 100000000000) : ACall Tryz.prog 66 [.ptr 0 0] [.cells [.ptr 0 0, .sl 1 0 l.length 1], .buf 5 l] (.s l) [.gone, .gone] := by
  have hpos : 0 < l.length := List.length_pos_iff.2 h0
  refine acall T Tryz.func66 rfl rfl rfl rfl ?_
  repeat' (first|refine wS ?_|refine wB ?_|refine wK ?_|refine wR ?_|refine wE ?_|refine wT ?_|refine wU ?_|(refine wC rfl (fun hb=>?_) (fun hb=>?_)<;>(first|subst hb|((try simp only [nm] at hb);try (exfalso;omega))))|(refine rg 0 ?_;refine aV ?_)|(((refine aw_draw4k (id := 1) 14 [[],[0],[0,1],[0,1,2],[0,1,2,3],[],[5],[5,6],[5,6,7],[5,6,7,8],[0,1,2,3,4,5,6,7,8,9]] [3,4,5,6,7,8,9,10,11,12,13] [[],[],[],[],[],[3,4,5,6,7],[3,4,5,6,7],[3,4,5,6,7],[3,4,5,6,7],[3,4,5,6,7],[]] [(10,1)] mixedP rfl (by decide +kernel) ?_));(all_goals (refine dwa_v rfl rfl rfl rfl (by exact fs_move rfl) ?_;refine dwa_v rfl rfl rfl rfl (by exact fs_nilCheck rfl rfl) ?_;refine dwa_v rfl rfl rfl rfl (by exact fs_fieldAddr T rfl rfl rfl) ?_;refine dwa_v rfl rfl rfl rfl (by exact fs_load T rfl rfl rfl rfl) ?_;refine dwa_v rfl rfl rfl rfl (by first|exact fs_sliceData rfl (by omega)) ?_;refine dwa_v rfl rfl rfl rfl (by exact fs_move rfl) ?_;refine dwa_v rfl rfl rfl rfl (by exact fs_nilCheck rfl rfl) ?_;refine dwa_v rfl rfl rfl rfl (by exact fs_fieldAddr T rfl rfl rfl) ?_;refine dwa_v rfl rfl rfl rfl (by exact fs_load T rfl rfl rfl rfl) ?_;refine dwa_v rfl rfl rfl rfl (by first|exact fs_lenOwn T rfl rfl|exact fs_lenRow T rfl rfl|exact fs_lenNil T rfl rfl) ?_));(all_goals first|(refine dwa_a0 rfl rfl rfl rfl (Nat.le_of_ble_eq_true rfl) (by exact as_unsafeString byteU byteC rfl rfl rfl h0 (by omega) rfl) ?_));(all_goals (refine dwa_fin rfl rfl rfl (by first|(dsimp only [applyS,ln1,ln2,List.append_nil,ln4,ln5,ln6,ln7,ln8,ln9,putAt,putd,allObjs,argEnv,un_v,un_ptr,un_ep,un_pr,un_sl,un_mp,un_row,un_agg,un_tup,un_clo,Nat.zero_add,lnb,Nat.reduceAdd,lnc,lnd];exact rfl)|exact rfl) ?_;refine aV ?_)))|refine nZ ?_)
  all_goals exact ⟨.inl rfl, [0, 1], _, rfl, rfl, rfl, ⟨.inl rfl, .inl rfl, trivial⟩, by decide, lt2⟩
end Go.Proofs.YtjpcpbbkelgkeaaGreatDoor
namespace Go.Proofs.YtjpcpbbkelgkeaaGreatDoor
open Go Go.Ab
theorem ints_getW {l : List Int} {k : Nat} (h : k < l.length) : (ints l)[k]? = some [AV.i l[k]] := by simp [h]
section
variable {P : Program} {env : Env} {h : Hp} {d : Option Nat} {ty : TypeId} {pos : String} {af : Array Edge} {g : Option (Nat × Bool)}
theorem fs_geqTW {t t2 : TypeId} {x y : Operand} {a b : Int} (hx : evu env x = some (.i a)) (hy : evu env y = some (.i b)) (e : b ≤ a) : FStep P ⟨d, .binOp .geq t x y t2, ty, pos, af, g⟩ env h 0 (fun _ => .b true) (fun _ => []) := by
  have := fs_geq (P := P) (d := d) (ty := ty) (pos := pos) (af := af) (g := g) (h := h) (t := t) (t2 := t2) hx hy
  simpa [e] using this
theorem fs_geqFW {t t2 : TypeId} {x y : Operand} {a b : Int} (hx : evu env x = some (.i a)) (hy : evu env y = some (.i b)) (e : a < b) : FStep P ⟨d, .binOp .geq t x y t2, ty, pos, af, g⟩ env h 0 (fun _ => .b false) (fun _ => []) := by
  have := fs_geq (P := P) (d := d) (ty := ty) (pos := pos) (af := af) (g := g) (h := h) (t := t) (t2 := t2) hx hy
  simpa [show decide (a ≥ b) = false from decide_eq_false (by omega)] using this
theorem fs_lssTW {t t2 : TypeId} {x y : Operand} {a b : Int} (hx : evu env x = some (.i a)) (hy : evu env y = some (.i b)) (e : a < b) : FStep P ⟨d, .binOp .lss t x y t2, ty, pos, af, g⟩ env h 0 (fun _ => .b true) (fun _ => []) := by
  have := fs_lss (P := P) (d := d) (ty := ty) (pos := pos) (af := af) (g := g) (h := h) (t := t) (t2 := t2) hx hy
  simpa [e] using this
theorem fs_lssFW {t t2 : TypeId} {x y : Operand} {a b : Int} (hx : evu env x = some (.i a)) (hy : evu env y = some (.i b)) (e : b ≤ a) : FStep P ⟨d, .binOp .lss t x y t2, ty, pos, af, g⟩ env h 0 (fun _ => .b false) (fun _ => []) := by
  have := fs_lss (P := P) (d := d) (ty := ty) (pos := pos) (af := af) (g := g) (h := h) (t := t) (t2 := t2) hx hy
  simpa [show decide (a < b) = false from decide_eq_false (by omega)] using this
end
attribute [local irreducible] VC AW FStep ACall
set_option maxHeartbeats 4000000
def I64 (n : Int) : Prop := -9223372036854775808 ≤ n ∧ n ≤ 9223372036854775807
theorem nDig_le : ∀ (k u : Nat), u < 10 ^ (k + 1) → Go.Lib.nDigits u ≤ k + 1
  | 0, u, h => by rw [Go.Lib.nDigits_small (by simpa using h)]; exact Nat.le_refl _
  | k + 1, u, h => by
    by_cases hu : u < 10
    · rw [Go.Lib.nDigits_small hu]; omega
    · rw [Go.Lib.nDigits_big hu]
      have := nDig_le k (u / 10) (by rw [Nat.div_lt_iff_lt_mul (by decide)]; rw [Nat.pow_succ] at h; exact h)
      omega
theorem itoa_len {n : Int} (h : I64 n) : (Go.Lib.itoa n).length ≤ 21 := by
  obtain ⟨h0, h1⟩ := h
  unfold Go.Lib.itoa
  split
  · rw [List.length_cons, Go.Lib.decDigits_length]
    have := nDig_le 19 n.natAbs (by have : (10 : Nat) ^ (19 + 1) = 100000000000000000000 := by decide
                                    omega)
    omega
  · rw [Go.Lib.decDigits_length]
    have := nDig_le 19 n.toNat (by have : (10 : Nat) ^ (19 + 1) = 100000000000000000000 := by decide
                                   omega)
    omega
def intB (n : Int) : List UInt8 := Go.Lib.itoa n ++ [59]
def accB (l : List Int) (k : Nat) : List UInt8 := Go.Lib.itoa l.length ++ [91] ++ ((l.take k).map intB).flatten
def numsB (l : List Int) : List UInt8 := accB l l.length ++ [93]
theorem intB_len {n : Int} (h : I64 n) : (intB n).length ≤ 22 := by have := itoa_len h; simp [intB]; omega
theorem accB_ne (l : List Int) (k : Nat) : accB l k ≠ [] := by simp [accB]
theorem accB_next {l : List Int} {k : Nat} (h : k < l.length) : accB l (k + 1) = accB l k ++ intB l[k] := by
  unfold accB
  rw [List.take_succ_eq_append_getElem h, List.map_append, List.flatten_append]
  simp
theorem accB_len {l : List Int} (hw : ∀ x, x ∈ l → I64 x) (hl : l.length ≤ 1000000) : ∀ k, (accB l k).length ≤ 22 + 22 * l.length := by
  intro k
  unfold accB
  have h1 := itoa_len (n := (l.length : Int)) ⟨by omega, by omega⟩
  have h2 : ∀ m : List Int, (∀ x, x ∈ m → I64 x) → ((m.map intB).flatten).length ≤ 22 * m.length := by
    intro m
    induction m with
    | nil => intro _; simp
    | cons x m ih =>
      intro hm
      have h3 := intB_len (hm x List.mem_cons_self)
      have h4 := ih fun y hy => hm y (List.mem_cons_of_mem _ hy)
      simp only [List.map_cons, List.flatten_cons, List.length_append, List.length_cons]
      omega
  have h3 := h2 (l.take k) fun x hx => hw x (List.mem_of_mem_take hx)
  have h4 : (l.take k).length ≤ l.length := by rw [List.length_take]; omega
  simp only [List.length_append, List.length_cons, List.length_nil]
  omega
theorem itoaI_c {n : Int} (h : I64 n) : ACall Tryz.prog 64 [.i n] [] (.s (Go.Lib.itoa n)) [] := by
  have hc := format_c n h.1 h.2
  refine acall T Tryz.func64 rfl rfl rfl rfl ?_
  repeat' (first|refine wS ?_|refine wB ?_|refine wK ?_|refine wR ?_|refine wE ?_|refine wT ?_|refine wU ?_|(refine wC rfl (fun hb=>?_) (fun hb=>?_)<;>(first|subst hb|((try simp only [nm] at hb);try (exfalso;omega))))|(refine rg 0 ?_;refine aV ?_)|(refine rg 1 ?_;refine mV ?_;refine vV (by exact kC (hc)) ?_;refine aV ?_)|refine nZ ?_)
  all_goals exact ret_plain (.inl rfl) rfl rfl
theorem itoa_c {n : Int} (h : I64 n) : ACall Tryz.prog 45 [.i n] [] (.s (Go.Lib.itoa n)) [] := by
  have hc := itoaI_c h
  refine acall T Tryz.func45 rfl rfl rfl rfl ?_
  repeat' (first|refine wS ?_|refine wB ?_|refine wK ?_|refine wR ?_|refine wE ?_|refine wT ?_|refine wU ?_|(refine wC rfl (fun hb=>?_) (fun hb=>?_)<;>(first|subst hb|((try simp only [nm] at hb);try (exfalso;omega))))|(refine rg 0 ?_;refine aV ?_)|(refine rg 1 ?_;refine mV ?_;refine vV (by exact kC (hc)) ?_;refine aV ?_)|refine nZ ?_)
  all_goals exact ret_plain (.inl rfl) rfl rfl
theorem wint_c {n : Int} (h : I64 n) : ACall Tryz.prog 22 [.i n] [] (.s (intB n)) [] := by
  have hc := itoa_c h
  have hl := itoa_len h
  refine acall T Tryz.func22 rfl rfl rfl rfl ?_
  repeat' (first|refine wS ?_|refine wB ?_|refine wK ?_|refine wR ?_|refine wE ?_|refine wT ?_|refine wU ?_|(refine wC rfl (fun hb=>?_) (fun hb=>?_)<;>(first|subst hb|((try simp only [nm] at hb);try (exfalso;omega))))|(refine rg 0 ?_;refine aV ?_)|(refine rg 1 ?_;refine mV ?_;refine vV (by exact kC (hc)) ?_;refine vV (by first|exact fs_addS rfl rfl (by simp only [List.length_append,List.length_cons,List.length_nil];omega)|exact fs_addr rfl rfl (by omega) (by omega)|exact fs_add rfl rfl) ?_;refine aV ?_)|refine nZ ?_)
  all_goals exact ret_plain (.inl rfl) rfl rfl
theorem wnum_c {n : Int} (h : I64 n) (h0 : 0 ≤ n) : ACall Tryz.prog 23 [.i n] [] (.s (intB n)) [] := by
  have hc := wint_c h
  refine acall T Tryz.func23 rfl rfl rfl rfl ?_
  repeat' (first|refine wS ?_|refine wB ?_|refine wK ?_|refine wR ?_|refine wE ?_|refine wT ?_|refine wU ?_|(refine wC rfl (fun hb=>?_) (fun hb=>?_)<;>(first|subst hb|((try simp only [nm] at hb);try (exfalso;omega))))|(refine rg 0 ?_;refine aV ?_)|(refine rg 1 ?_;refine mV ?_;refine vV (by exact fs_lss rfl rfl) ?_)|(refine rg 2 ?_;refine aV ?_)|(refine rg 3 ?_;refine mV ?_;refine vV (by exact kC (hc)) ?_;refine aV ?_)|refine nZ ?_)
  all_goals first | (exfalso; omega) | exact ret_plain (.inl rfl) rfl rfl
theorem list_c {l : List Int} (hw : ∀ x, x ∈ l → I64 x) (hl : l.length ≤ 1000000) : ACall Tryz.prog 46 [.rowE (ints l) 1, .clo (.func 22) [] []] [] (.s (numsB l)) [] := by
  have hlen : (ints l).length = l.length := by simp
  have hI : I64 (l.length : Int) := ⟨by omega, by omega⟩
  have hc : ACall Tryz.prog 45 [.i (ints l).length] [] (.s (Go.Lib.itoa l.length)) [] := by rw [hlen]; exact itoa_c hI
  have hi := itoa_len hI
  have hbl := accB_len hw hl
  have h00 : accB l 0 = Go.Lib.itoa l.length ++ [91] := by simp [accB]
  refine acall T Tryz.func46 rfl rfl rfl rfl ?_
  repeat' (first|refine wS ?_|refine wB ?_|refine wK ?_|refine wR ?_|refine wE ?_|refine wT ?_|refine wU ?_|(refine wC rfl (fun hb=>?_) (fun hb=>?_)<;>(first|subst hb|((try simp only [nm] at hb);try (exfalso;omega))))|(refine rg 0 ?_;refine aV ?_)|(refine rg 1 ?_;refine vc_n (by first|exact fs_allocT T rfl rfl|exact fs_alloc T rfl) rfl ?_)|(refine rg 2 ?_;refine mV ?_;(first|refine qV T ?_|refine vV (by exact fs_lenNil T rfl rfl) ?_);refine vV (by exact kC (hc)) ?_;refine vV (by first|exact fs_addS rfl rfl (by simp only [List.length_append,List.length_cons,List.length_nil];omega)|exact fs_addr rfl rfl (by omega) (by omega)|exact fs_add rfl rfl) ?_;refine vc_callw [0] rfl rfl (write0_c _ (by simp only [List.length_append,List.length_cons,List.length_nil];omega)) rfl rfl (by decide) ⟨.inr rfl,trivial⟩ (by simp) rfl ?_)|(refine rg 3 ?_;refine mV ?_;(first|refine qV T ?_|refine vV (by exact fs_lenNil T rfl rfl) ?_);refine mV ?_)|refine nZ ?_)
  refine aw_loop (X := {k : Nat // k ≤ l.length}) (fun k => [(0, .rowE (ints l) 1), (1, .clo (.func 22) [] []), (5, .ptr 0 0), (13, .rowE (ints l) 1), (14, .i (ints l).length), (15, .i k.1)]) (fun k => [.cells [.ptr 0 0, .sl 1 0 (accB l k.1).length 1], .buf 5 (accB l k.1)]) (fun k => l.length - k.1) ⟨0, by omega⟩ ⟨[0, 1], rfl, (by (repeat (first | exact trivial | refine ⟨rfl, ?_⟩))), ⟨.inr (by rw [h00]; rfl), .inr (by rw [h00]; rfl), trivial⟩, by decide, fun _ hi => absurd hi (Nat.not_lt_zero _)⟩ ?_
  rintro ⟨k, hk⟩
  dsimp only
  have hbk := hbl k
  by_cases hlt : k < l.length
  · have hIx := hw _ (List.getElem_mem hlt)
    have hcx := wint_c hIx
    have hlx := intB_len hIx
    have hnx := accB_next hlt
    have hbn := hbl (k + 1)
    have hnl : (accB l (k + 1)).length = (accB l k).length + (intB l[k]).length := by rw [hnx, List.length_append]
    have hg := ints_getW hlt
    rw [hnx] at hbn
    generalize l[k] = x at *
    repeat' (first|refine wS ?_|refine wB ?_|refine wK ?_|refine wR ?_|refine wE ?_|refine wT ?_|refine wU ?_|(refine wC rfl (fun hb=>?_) (fun hb=>?_)<;>(first|subst hb|((try simp only [nm] at hb);try (exfalso;omega))))|(refine rg 4 ?_;refine vV (by exact fs_lss rfl rfl) ?_)|(refine rg 5 ?_;refine vV (by exact fs_indexRowE T rfl rfl rfl rfl rfl (by omega) (ints_len _) hg) ?_;refine lV T ?_;refine aV ?_)|(refine rg 6 ?_;refine mV ?_;refine mV ?_;refine vV (by exact kC (hcx)) ?_;refine vc_callw [0,1] rfl rfl (write_c (accB l k) (intB x) (by omega)) rfl rfl (by decide) ⟨.inr rfl,.inr rfl,trivial⟩ (by simp) rfl ?_)|(refine rg 7 ?_;refine vV (by first|exact fs_addr rfl rfl (by omega) (by omega)|exact fs_add rfl rfl) ?_;refine mV ?_)|refine nZ ?_)
    all_goals first | (exfalso; omega) | exact ⟨⟨k + 1, hlt⟩, by dsimp only; omega, [0, 2], rfl, (by (repeat (first | exact trivial | refine ⟨rfl, ?_⟩))), ⟨.inr (by dsimp only; rw [hnl]; rfl), .inr (by dsimp only; rw [hnx]; rfl), trivial⟩, by decide, fun _ hi => absurd hi (Nat.not_lt_zero _)⟩
  · have hkl : k = l.length := by omega
    subst hkl
    repeat' (first|refine wS ?_|refine wB ?_|refine wK ?_|refine wR ?_|refine wE ?_|refine wT ?_|refine wU ?_|(refine wC rfl (fun hb=>?_) (fun hb=>?_)<;>(first|subst hb|((try simp only [nm] at hb);try (exfalso;omega))))|(refine rg 4 ?_;refine vV (by first|exact fs_addS rfl rfl (by simp only [List.length_cons,List.length_nil];omega)|exact fs_lss rfl rfl) ?_)|(refine rg 8 ?_;refine vc_callw [0,1] rfl rfl (string_c (accB l l.length) (accB_ne _ _) (by omega)) rfl rfl (by decide) ⟨.inr rfl,.inr rfl,trivial⟩ (by simp) rfl ?_;refine vV (by first|exact fs_addS rfl rfl (by simp only [List.length_cons,List.length_nil];omega)|exact fs_addr rfl rfl (by omega) (by omega)|exact fs_add rfl rfl) ?_;refine aV ?_)|refine nZ ?_)
    all_goals first | (exfalso; omega) | exact ret_plain (.inl rfl) rfl rfl
theorem nums_c {l : List Int} (hw : ∀ x, x ∈ l → I64 x) (hl : l.length ≤ 1000000) : ACall Tryz.prog 24 [.rowE (ints l) 1] [] (.s (numsB l)) [] := by
  have hc := list_c hw hl
  refine acall T Tryz.func24 rfl rfl rfl rfl ?_
  repeat' (first|refine wS ?_|refine wB ?_|refine wK ?_|refine wR ?_|refine wE ?_|refine wT ?_|refine wU ?_|(refine wC rfl (fun hb=>?_) (fun hb=>?_)<;>(first|subst hb|((try simp only [nm] at hb);try (exfalso;omega))))|(refine rg 0 ?_;refine aV ?_)|(refine rg 1 ?_;refine mV ?_;refine vV (by exact kC (hc)) ?_;refine aV ?_)|refine nZ ?_)
  all_goals exact ret_plain (.inl rfl) rfl rfl
end Go.Proofs.YtjpcpbbkelgkeaaGreatDoor
namespace Go.Wr
open Go Go.Ab Go.Lib
theorem parse_dec (r : List UInt8) : ∀ u : Nat, u ≤ 9223372036854775808 → parseUint10 0 (decDigits u ++ r) = parseUint10 u r := by
  intro u
  induction u using Nat.strongRecOn generalizing r with
  | _ u ih =>
    intro hu
    rw [decDigits]
    split
    · rename_i h
      have e : (UInt8.ofNat (48 + u)).toNat = 48 + u := by simp; omega
      rw [List.singleton_append]
      rw [parseUint10, e, if_pos (by omega), if_neg (by omega), if_neg (by omega)]
      congr 1
      omega
    · rename_i h
      have e : (UInt8.ofNat (48 + u % 10)).toNat = 48 + u % 10 := by simp; omega
      rw [List.append_assoc, ih (u / 10) (by omega) _ (by omega), List.singleton_append]
      rw [parseUint10, e, if_pos (by omega), if_neg (by omega), if_neg (by omega)]
      congr 1
      omega
theorem dec_ne (u : Nat) : decDigits u ≠ [] := by
  rw [decDigits]
  split <;> simp
theorem dec_chars : ∀ u : Nat, ∀ c, c ∈ decDigits u → 48 ≤ c.toNat ∧ c.toNat ≤ 57 := by
  intro u
  induction u using Nat.strongRecOn with
  | _ u ih =>
    intro c hc
    rw [decDigits] at hc
    split at hc
    · rw [List.mem_singleton] at hc
      subst hc
      have e : (UInt8.ofNat (48 + u)).toNat = 48 + u := by simp; omega
      omega
    · rcases List.mem_append.1 hc with hc | hc
      · exact ih _ (by omega) c hc
      · rw [List.mem_singleton] at hc
        subst hc
        have e : (UInt8.ofNat (48 + u % 10)).toNat = 48 + u % 10 := by simp; omega
        omega
theorem mag_dec {u : Nat} (hu : u ≤ 9223372036854775808) : parseMag (decDigits u) = .ok u := by
  have := parse_dec [] u hu
  rw [List.append_nil] at this
  unfold parseMag
  rw [if_neg (dec_ne u), this]
  rfl
theorem atoi_itoa {n : Int} (h : -9223372036854775808 ≤ n ∧ n ≤ 9223372036854775807) : atoiAll (itoa n) = .ok n := by
  unfold itoa
  split
  · rw [atoiAll_minus, mag_dec (by omega)]
    unfold signed
    dsimp only
    rw [if_neg (by omega)]
    congr 1
    omega
  · have hm := mag_dec (u := n.toNat) (by omega)
    cases hd : decDigits n.toNat with
    | nil => exact absurd hd (dec_ne _)
    | cons c r =>
      have hc := dec_chars n.toNat c (by rw [hd]; simp)
      rw [hd] at hm
      rw [atoiAll_plain c r (by omega) (by omega), hm]
      unfold signless
      dsimp only
      rw [if_neg (by omega)]
      congr 1
      omega
theorem itoa_chars {n : Int} {c : UInt8} (h : c ∈ itoa n) : c.toNat = 45 ∨ (48 ≤ c.toNat ∧ c.toNat ≤ 57) := by
  unfold itoa at h
  split at h
  · rcases List.mem_cons.1 h with h | h
    · subst h; exact .inl rfl
    · exact .inr (dec_chars _ _ h)
  · exact .inr (dec_chars _ _ h)
theorem nDig_le : ∀ (k u : Nat), u < 10 ^ (k + 1) → nDigits u ≤ k + 1
  | 0, u, h => by rw [nDigits_small (by simpa using h)]; exact Nat.le_refl _
  | k + 1, u, h => by
    by_cases hu : u < 10
    · rw [nDigits_small hu]; omega
    · rw [nDigits_big hu]
      have := nDig_le k (u / 10) (by rw [Nat.div_lt_iff_lt_mul (by decide)]; rw [Nat.pow_succ] at h; exact h)
      omega
theorem itoa_le20 {n : Int} (h : -9223372036854775808 ≤ n ∧ n ≤ 9223372036854775807) : (itoa n).length ≤ 20 := by
  have hp : (10 : Nat) ^ (18 + 1) = 10000000000000000000 := by decide
  unfold itoa
  split
  · rw [List.length_cons, decDigits_length]
    have := nDig_le 18 n.natAbs (by omega)
    omega
  · rw [decDigits_length]
    have := nDig_le 18 n.toNat (by omega)
    omega
theorem itoa_ne (n : Int) : itoa n ≠ [] := by
  unfold itoa
  split
  · simp
  · exact dec_ne _
theorem index_at {a b : List UInt8} {e : UInt8} (h : e ∉ a) : indexByte (a ++ e :: b) e = a.length := by
  induction a with
  | nil => simp [indexByte]
  | cons c a ih =>
    simp only [List.mem_cons, not_or] at h
    have h1 := ih h.2
    show indexByte (c :: (a ++ e :: b)) e = _
    unfold indexByte
    rw [if_neg (by simpa using fun q => h.1 q.symm), h1, if_neg (by simp)]
    simp
theorem index_split {l : List UInt8} {e : UInt8} (h : 0 ≤ indexByte l e) : l = l.take (indexByte l e).toNat ++ e :: l.drop ((indexByte l e).toNat + 1) ∧ (indexByte l e).toNat < l.length := by
  obtain ⟨h1, h2⟩ := indexByte_some (l := l) (c := e) (o := (indexByte l e).toNat) (by omega)
  obtain ⟨h3, h4⟩ := List.getElem?_eq_some_iff.1 h1
  refine ⟨?_, h3⟩
  conv => lhs; rw [← List.take_append_drop (indexByte l e).toNat l]
  rw [List.drop_eq_getElem_cons h3, h4]
def numP (r : List UInt8) (e : UInt8) (lo : Int) : Option (Int × List UInt8) :=
  if indexByte (r.take 21) e < 0 then none else
  match atoiAll (r.take (indexByte (r.take 21) e).toNat) with
  | .ok n => if itoa n = r.take (indexByte (r.take 21) e).toNat ∧ lo ≤ n then some (n, r.drop ((indexByte (r.take 21) e).toNat + 1)) else none
  | _ => none
theorem index_le {r : List UInt8} {e : UInt8} (h : 0 ≤ indexByte (r.take 21) e) : (indexByte (r.take 21) e).toNat < r.length ∧ (indexByte (r.take 21) e).toNat < 21 := by
  have := (index_split h).2
  rw [List.length_take] at this
  omega
theorem numP_some {r r' : List UInt8} {e : UInt8} {lo n : Int} (h : numP r e lo = some (n, r')) : r = itoa n ++ e :: r' ∧ lo ≤ n ∧ -9223372036854775808 ≤ n ∧ n ≤ 9223372036854775807 := by
  unfold numP at h
  split at h
  · cases h
  · rename_i h0
    have hs := index_split (Int.not_lt.1 h0)
    have hi := index_le (Int.not_lt.1 h0)
    split at h
    · rename_i n' ha
      split at h
      · rename_i hc
        simp only [Option.some.injEq, Prod.mk.injEq] at h
        obtain ⟨rfl, rfl⟩ := h
        have hb := atoiAll_bounds ha
        refine ⟨?_, hc.2, hb.1, hb.2⟩
        rw [hc.1]
        generalize indexByte (r.take 21) e = k at *
        have h3 : (r.take 21)[k.toNat]? = some e := by
          rw [hs.1, List.getElem?_append_right (by rw [List.length_take, List.length_take]; omega)]
          simp [List.length_take]
          rw [show k.toNat - min k.toNat (min 21 r.length) = 0 by omega]
          rfl
        rw [List.getElem?_take, if_pos hi.2] at h3
        obtain ⟨h4, h5⟩ := List.getElem?_eq_some_iff.1 h3
        conv => lhs; rw [← List.take_append_drop k.toNat r]
        rw [List.drop_eq_getElem_cons h4, h5]
      · cases h
    · cases h
theorem numP_mk {r' : List UInt8} {e : UInt8} {lo n : Int} (h : -9223372036854775808 ≤ n ∧ n ≤ 9223372036854775807) (hl : lo ≤ n) (he : e.toNat ≠ 45 ∧ (e.toNat < 48 ∨ 57 < e.toNat)) : numP (itoa n ++ e :: r') e lo = some (n, r') := by
  have hni : e ∉ itoa n := fun hm => by have := itoa_chars hm; omega
  have h20 := itoa_le20 h
  have hi : indexByte ((itoa n ++ e :: r').take 21) e = (itoa n).length := by
    rw [List.take_append, show 21 - (itoa n).length = (20 - (itoa n).length) + 1 by omega, List.take_succ_cons, List.take_of_length_le (by omega)]
    exact index_at hni
  unfold numP
  rw [hi, if_neg (by omega), Int.toNat_natCast, List.take_left, atoi_itoa h]
  dsimp only
  rw [if_pos ⟨rfl, hl⟩, List.drop_append, List.drop_of_length_le (by omega)]
  simp
theorem numP_nil (e : UInt8) (lo : Int) : numP [] e lo = none := by
  unfold numP
  simp [indexByte]
theorem numP_len {r r' : List UInt8} {e : UInt8} {lo n : Int} (h : numP r e lo = some (n, r')) : r'.length + 2 ≤ r.length := by
  have h1 := (numP_some h).1
  have h2 := itoa_ne n
  rw [h1, List.length_append, List.length_cons]
  have : 0 < (itoa n).length := List.length_pos_iff.2 h2
  omega
abbrev St := Option (List UInt8)
abbrev rdH (s : St) : Hp := [.cells [.s (s.getD []), .b s.isNone]]
def numS (s : St) (e : UInt8) (lo : Int) : Int × St := match numP (s.getD []) e lo with
  | some (n, r) => if s.isNone then (0, none) else (n, some r)
  | none => (0, none)
theorem numS_none (e : UInt8) (lo : Int) : numS none e lo = (0, none) := by unfold numS; rw [show (none : St).getD [] = [] from rfl, numP_nil]
def closeS (s : St) (e : UInt8) : St := match s with
  | some (c :: r) => if c = e then some r else none
  | _ => none
def intS (s : St) : Int × St := numS s 59 (-9223372036854775808)
def itemsL : Nat → St → List Int × St
  | 0, s => ([], s)
  | k + 1, none => ([], none)
  | k + 1, some r => let p := intS (some r); let q := itemsL k p.2; (p.1 :: q.1, q.2)
def numsS (s : St) : List Int × St :=
  let p := numS s 91 0
  let q := itemsL p.1.toNat p.2
  let t := closeS q.2 93
  if t.isNone then ([], none) else (q.1, t)
theorem itemsL_none (k : Nat) : itemsL k none = ([], none) := by cases k <;> rfl
theorem numS_I64 (s : St) (e : UInt8) (lo : Int) : -9223372036854775808 ≤ (numS s e lo).1 ∧ (numS s e lo).1 ≤ 9223372036854775807 := by
  unfold numS
  split
  · rename_i n r h
    have := numP_some h
    split <;> simp <;> omega
  · simp
theorem numS_some {r : List UInt8} {e : UInt8} {lo n : Int} {r' : List UInt8} (h : numP r e lo = some (n, r')) : numS (some r) e lo = (n, some r') := by
  unfold numS
  rw [show (some r : St).getD [] = r from rfl, h]
  rfl
theorem numS_fail {r : List UInt8} {e : UInt8} {lo : Int} (h : numP r e lo = none) : numS (some r) e lo = (0, none) := by
  unfold numS
  rw [show (some r : St).getD [] = r from rfl, h]
theorem numS_len {s : St} {e : UInt8} {lo : Int} {r : List UInt8} (h : (numS s e lo).2 = some r) : ∃ r0, s = some r0 ∧ numP r0 e lo = some ((numS s e lo).1, r) ∧ r.length + 2 ≤ r0.length := by
  cases s with
  | none => rw [numS_none] at h; cases h
  | some r0 =>
    cases hp : numP r0 e lo with
    | none => rw [numS_fail hp] at h; cases h
    | some p =>
      obtain ⟨n, r'⟩ := p
      rw [numS_some hp] at h ⊢
      cases h
      exact ⟨r0, rfl, hp, numP_len hp⟩
theorem numS_getD (s : St) (e : UInt8) (lo : Int) : ((numS s e lo).2.getD []).length ≤ (s.getD []).length := by
  cases h : (numS s e lo).2 with
  | none => simp
  | some r =>
    obtain ⟨r0, rfl, _, h3⟩ := numS_len h
    simp
    omega
end Go.Wr
