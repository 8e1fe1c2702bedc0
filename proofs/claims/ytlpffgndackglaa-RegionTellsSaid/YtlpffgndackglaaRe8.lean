/-
  Layer 8: Inside, part, Linked, Parts, Edge.
-/
import Derived.Test.YtlpffgndackglaaRe7
namespace Go.Proofs.Ytlpffgndackglaa
open Go Go.Ab Go.Fl Go.Re
set_option linter.unusedVariables false
set_option linter.unusedSimpArgs false
attribute [local irreducible] VC AW FStep ACall
set_option maxHeartbeats 4000000

def outR (f : Flo) (r fr : List Int) : List Int := (spreadM f.k.length (mvN f) (okR f r) (cellsF f fr)).out
def outB (f : Flo) (r fr : List Int) : List Int := (spreadM f.k.length (bvN f) (okR f r) (cellsF f fr)).out
def inM (f : Flo) (r fr : List Int) : List Int := r.map fun x => (outR f r fr).getD x.toNat (-1)
def partM (f : Flo) (r : List Int) (c : Int) : List Int := r.filter fun x => decide (0 ≤ (outR f r [c]).getD x.toNat (-1)) && decide (0 ≤ (outB f r [c]).getD x.toNat (-1))
def linkM (f : Flo) (r : List Int) : Bool := decide (r = [] ∨ partM f r (r.headD 0) = r)
def partsF (f : Flo) (r : List Int) : Nat → List Int → List (List Int)
  | 0, _ => []
  | _ + 1, [] => []
  | k + 1, c :: l => if partM f r c = [] then partsF f r k l else partM f r c :: partsF f r k (diffM (c :: l) (partM f r c))
def partsM (f : Flo) (r : List Int) : List (List Int) := partsF f r r.length r
def leaveB (f : Flo) (r : List Int) (c : Int) (d : Nat) : Bool := match nextI f c d with
  | some x => decide (x ∉ r)
  | none => false
def leavesM (f : Flo) (r : List Int) (c : Int) : Bool := (List.range 6).any (leaveB f r c)
def edgeM (f : Flo) (r : List Int) : List Int := r.filter (leavesM f r)

theorem valsA_rf (out : List Int) (l : List Nat) : AV.rfL (valsA out l) = true := by
  induction l with
  | nil => rfl
  | cons c l ih => exact ih
section
variable {f : Flo}
theorem wall_n (g : Fine f) : ∀ c d n, mvN f c d = some n → f.k.getD n 0 ≠ 0 := fun c d n h => by
  have := (next_some g ((mvN_some g).1 h)).2.2.2.2
  have h2 := this.2.1
  unfold kindI at h2
  rwa [Int.toNat_natCast] at h2
theorem wall_b (g : Fine f) : ∀ c d n, bvN f c d = some n → f.k.getD n 0 ≠ 0 := fun c d n h => by
  have := (next_some g ((back_next g).1 ((bvN_some g).1 h))).2.2.2.2
  have h2 := this.1
  unfold kindI at h2
  rwa [Int.toNat_natCast] at h2
abbrev histF (f : Flo) (r fr : List Int) : List Nat := (spreadH f.k.length (mvN f) (okR f r) (cellsF f fr)).2
abbrev histB (f : Flo) (r fr : List Int) : List Nat := (spreadH f.k.length (bvN f) (okR f r) (cellsF f fr)).2
/-- The cells that have a distance are the keys. -/
structure Dst (N : Nat) (out : List Int) (hist : List Nat) : Prop where
  nd : hist.Nodup
  mem : ∀ c, c ∈ hist ↔ 0 ≤ out.getD c (-1)
  ge : ∀ c, -1 ≤ out.getD c (-1)
theorem dst_of {mv : MV} {ok : Nat → Bool} {N : Nat} (hmv : ∀ c d n, c < N → mv c d = some n → n < N) (l : List Nat) (hl : ∀ c, c ∈ l → c < N) (h : HInv N (spreadH N mv ok l)) : Dst N (spreadM N mv ok l).out (spreadH N mv ok l).2 := by
  obtain ⟨hf, hlen⟩ := spread_far (ok := ok) hmv l hl
  have hm := h.mem
  rw [spreadH_1] at hm
  have big : ∀ c, N ≤ c → (spreadM N mv ok l).out.getD c (-1) = -1 := fun c hc => by
    rw [List.getD_eq_getElem?_getD, List.getElem?_eq_none (by omega)]; rfl
  refine ⟨h.nd, fun c => ?_, fun c => ?_⟩
  · by_cases hc : c < N
    · exact hm c hc
    · rw [big c (by omega)]
      exact ⟨fun hx => absurd (h.lt c hx) hc, fun hx => by omega⟩
  · by_cases hc : c < N
    · exact hf.ge c hc
    · rw [big c (by omega)]; exact Int.le_refl _
theorem fwd_c (g : Fine f) (r fr : List Int) (ha : Asc r) (hrl : r.length ≤ 1000000) (hfr : fr.length ≤ 1000) :
    ACall Try.prog 39 [floorA f, .rowE (ints r) 1, .rowE (ints fr) 1, .clo (.func 12) [] []] [] (.mp 0) [.mapO (keysA (histF f r fr)) (valsA (outR f r fr) (histF f r fr))] ∧ Dst f.k.length (outR f r fr) (histF f r fr) := by
  obtain ⟨h1, h2⟩ := rspread_c g r fr ha hrl hfr _ _ (mvN_lt g) (wall_n g) (fun c d _ _ => next_n g c d)
  exact ⟨h1, dst_of (mvN_lt g) _ (cells_lt (size_eq g)) h2⟩
theorem bwd_c (g : Fine f) (r fr : List Int) (ha : Asc r) (hrl : r.length ≤ 1000000) (hfr : fr.length ≤ 1000) :
    ACall Try.prog 39 [floorA f, .rowE (ints r) 1, .rowE (ints fr) 1, .clo (.func 66) [] []] [] (.mp 0) [.mapO (keysA (histB f r fr)) (valsA (outB f r fr) (histB f r fr))] ∧ Dst f.k.length (outB f r fr) (histB f r fr) := by
  obtain ⟨h1, h2⟩ := rspread_c g r fr ha hrl hfr _ _ (bvN_lt g) (wall_b g) (fun c d _ _ => back_n g c d)
  exact ⟨h1, dst_of (bvN_lt g) _ (cells_lt (size_eq g)) h2⟩
theorem map_take_succ {r : List Int} {F : Int → Int} {k : Nat} (h : k < r.length) : (r.take (k + 1)).map F = (r.take k).map F ++ [F r[k]] := by
  rw [List.take_succ_eq_append_getElem h, List.map_append]; rfl
theorem filter_take_succ {r : List Int} {F : Int → Bool} {k : Nat} (h : k < r.length) : (r.take (k + 1)).filter F = (r.take k).filter F ++ (if F r[k] then [r[k]] else []) := by
  rw [List.take_succ_eq_append_getElem h, List.filter_append]
  congr 1
  split
  · rename_i e; simp [e]
  · rename_i e; simp [e]
theorem inside_c (g : Fine f) (r fr : List Int) (hr : RegP r) (hrl : r.length ≤ 1000000) (hfr : fr.length ≤ 1000) : ACall Try.prog 10 [floorA f, .rowE (ints r) 1, .rowE (ints fr) 1] [] (.rowE (ints (inM f r fr)) 1) [] := by
  obtain ⟨hs, hD⟩ := fwd_c g r fr hr.1 hrl hfr
  have hlr : (ints r).length = r.length := by simp
  refine acall_frz (by simp : (inM f r fr).length = (ints (inM f r fr)).length) (idfL_flat (ints_idf _)) ?_
  have hI : inM f r fr = (r.take r.length).map fun x => (outR f r fr).getD x.toNat (-1) := by rw [List.take_length]; rfl
  rw [hI]
  generalize outR f r fr = out at *
  generalize histF f r fr = hist at *
  refine acall T Try.func10 rfl rfl rfl rfl ?_
  repeat' (first | (first | (refine aw_seq ?_) | (refine aw_block ?_) | (refine aw_skip ?_) | (refine aw_ret ?_) | (refine aw_exit ?_)) | (first | (refine aw_condt rfl ?_) | (refine aw_condf rfl ?_) | (refine aw_cond rfl (fun hb => ?_) (fun hb => ?_) <;> (first | subst hb | ((try simp only [nm] at hb); try ((exfalso; omega); done))))) | (((refine aw_region (id := 0) ?_)); (all_goals (refine vc_n (by exact fs_box rfl rfl) rfl ?_)); (all_goals (refine va rfl rfl ?_))) | (((refine aw_region (id := 1) ?_)); (all_goals (refine vc_v (by exact fs_load T rfl rfl rfl rfl) rfl ?_)); (all_goals (refine vm rfl rfl ?_)); (all_goals (refine vm rfl rfl ?_)); (all_goals first | (refine vc_v (by first | exact fs_call rfl rfl hs (.inr ⟨rfl, rfl, by simp⟩)) rfl ?_) | (refine vc_n (by first | exact fs_call rfl rfl hs (.inr ⟨rfl, rfl, by simp⟩)) rfl ?_)); (all_goals (refine va rfl rfl ?_))) | (((refine aw_region (id := 2) ?_)); (all_goals (refine va rfl rfl ?_))) | (((refine aw_region (id := 3) ?_)); (all_goals (refine vm rfl rfl ?_)); (all_goals (refine vc_v (by first | exact fs_lenOwn T rfl rfl | exact fs_lenRow T rfl rfl | exact fs_lenNil T rfl rfl) rfl ?_)); (all_goals (refine vm rfl rfl ?_))) | (refine vc_nilp (by (first | (dsimp only [List.nil_append, List.cons_append, List.append_nil, List.length_cons, List.length_nil, List.set_cons_zero, List.set_cons_succ, List.map_cons, List.map_nil, putAt, putd, allObjs, argEnv, un_v, un_ptr, un_ep, un_pr, un_sl, un_mp, un_row, un_agg, un_tup, un_clo, Nat.zero_add, Nat.add_zero, Nat.reduceAdd, Bool.not_true, Bool.not_false]; first | done | exact rfl) | exact rfl)) ?_))
  refine aw_own 8 1 rfl (by decide) ?_
  refine aw_loop (X := {k : Nat // k ≤ r.length}) (fun k => [(7, .mp 1), (8, .sl 0 0 ((r.take k.1).map fun x => out.getD x.toNat (-1)).length 1), (17, .rowE (ints r) 1), (18, .i (ints r).length), (19, .i k.1)]) (fun k => [.arr (ints ((r.take k.1).map fun x => out.getD x.toNat (-1))) 1, .mapO (keysA hist) (valsA out hist)]) (fun k => r.length - k.1) ⟨0, by omega⟩ ⟨[2, 1], rfl, by (repeat (first | exact trivial | refine ⟨rfl, ?_⟩)), ⟨.inr rfl, .inr (sub_map rfl rfl (mapL_idf _ _ (valsA_idf _ _)) (valsA_idf _ _)), trivial⟩, by decide, fun i hi => absurd hi (Nat.not_lt_zero _)⟩ ?_
  rintro ⟨k, hk⟩
  dsimp only
  by_cases hlt : k < r.length
  · have hx := hr.2 r[k] (List.getElem_mem hlt)
    have hts := map_take_succ (F := fun x => out.getD x.toNat (-1)) hlt
    have htl : ((r.take k).map fun x => out.getD x.toNat (-1)).length ≤ 1000000 := by simp; omega
    have hget := ints_get hlt
    generalize r[k] = x at *
    obtain ⟨c, rfl⟩ := Int.eq_ofNat_of_zero_le hx.1
    rw [Int.toNat_natCast] at hts
    generalize hT : (r.take k).map (fun x => out.getD x.toNat (-1)) = T' at *
    have hge := hD.ge c
    by_cases hc : c ∈ hist
    · obtain ⟨i, h1, h2⟩ := keys_at (out := out) hc
      have hc0 := (hD.mem c).1 hc
      repeat' (first | (first | (refine aw_seq ?_) | (refine aw_block ?_) | (refine aw_skip ?_) | (refine aw_ret ?_) | (refine aw_exit ?_)) | (first | (refine aw_condt rfl ?_) | (refine aw_condf rfl ?_) | (refine aw_cond rfl (fun hb => ?_) (fun hb => ?_) <;> (first | subst hb | ((try simp only [nm] at hb); try ((exfalso; omega); done))))) | (((refine aw_region (id := 4) ?_)); (all_goals (refine vc_v (by exact fs_lss rfl rfl) rfl ?_))) | (((refine aw_region (id := 5) ?_)); (all_goals (refine vc_v (by exact fs_indexRowE T rfl rfl rfl rfl rfl (by omega) (ints_len r) hget) rfl ?_)); (all_goals (refine vc_v (by exact fs_load T rfl rfl rfl rfl) rfl ?_)); (all_goals (refine va rfl rfl ?_))) | (((refine aw_region (id := 6) ?_)); (all_goals (refine vm rfl rfl ?_)); (all_goals (refine vm rfl rfl ?_)); (all_goals (refine vc_v (by exact fs_mapGet mapT intKey rfl rfl (isv_i _) rfl (keys_good _) (good_i _) (keys_nd hD.nd) h1 h2) rfl ?_)); (all_goals (refine vm rfl rfl ?_)); (all_goals (refine vc_v (by exact fs_extract rfl rfl) rfl ?_)); (all_goals (refine vc_v (by exact fs_extract rfl rfl) rfl ?_)); (all_goals (refine va rfl rfl ?_)); (all_goals (refine va rfl rfl ?_))) | (((refine aw_region (id := 7) ?_)); (all_goals (refine vm rfl rfl ?_)); (all_goals (refine vc_v (by exact fs_not rfl) rfl ?_))) | (((refine aw_region (id := 9) ?_)); (all_goals (refine vm rfl rfl ?_)); (all_goals (refine vm rfl rfl ?_)); (all_goals (refine vc_n (by exact fs_buildSlice T rfl rfl (by decide) (by decide) rfl rfl rfl) rfl ?_)); (all_goals (refine vc_append T rfl rfl rfl rfl rfl rfl (by simp) (Elems.whole rfl rfl) rfl (by simp; omega) (by simp; omega) rfl ?_)); (all_goals (refine va rfl rfl ?_))) | (((refine aw_region (id := 10) ?_)); (all_goals (refine vc_v (by first | exact fs_addr rfl rfl (by omega) (by omega) | exact fs_add rfl rfl) rfl ?_)); (all_goals (refine vm rfl rfl ?_))) | (refine vc_nilp (by (first | (dsimp only [List.nil_append, List.cons_append, List.append_nil, List.length_cons, List.length_nil, List.set_cons_zero, List.set_cons_succ, List.map_cons, List.map_nil, putAt, putd, allObjs, argEnv, un_v, un_ptr, un_ep, un_pr, un_sl, un_mp, un_row, un_agg, un_tup, un_clo, Nat.zero_add, Nat.add_zero, Nat.reduceAdd, Bool.not_true, Bool.not_false]; first | done | exact rfl) | exact rfl)) ?_))
      exact ⟨⟨k + 1, hlt⟩, by dsimp only; omega, [3, 1], rfl, ⟨rfl, by rw [hts]; simp only [List.length_append]; rfl, rfl, rfl, rfl, trivial⟩, ⟨.inr (sub_arr rfl (by rw [hts]; simp; exact List.take_of_length_le (by simp)) (ints_idf _)), .inr (sub_map rfl rfl rfl (valsA_idf _ _)), trivial⟩, by decide, fun i hi => absurd hi (Nat.not_lt_zero _)⟩
    · have hc1 : out.getD c (-1) = -1 := by
        have : ¬ 0 ≤ out.getD c (-1) := fun h => hc ((hD.mem c).2 h)
        omega
      rw [hc1] at hts
      repeat' (first | (first | (refine aw_seq ?_) | (refine aw_block ?_) | (refine aw_skip ?_) | (refine aw_ret ?_) | (refine aw_exit ?_)) | (first | (refine aw_condt rfl ?_) | (refine aw_condf rfl ?_) | (refine aw_cond rfl (fun hb => ?_) (fun hb => ?_) <;> (first | subst hb | ((try simp only [nm] at hb); try ((exfalso; omega); done))))) | (((refine aw_region (id := 4) ?_)); (all_goals (refine vc_v (by exact fs_lss rfl rfl) rfl ?_))) | (((refine aw_region (id := 5) ?_)); (all_goals (refine vc_v (by exact fs_indexRowE T rfl rfl rfl rfl rfl (by omega) (ints_len r) hget) rfl ?_)); (all_goals (refine vc_v (by exact fs_load T rfl rfl rfl rfl) rfl ?_)); (all_goals (refine va rfl rfl ?_))) | (((refine aw_region (id := 6) ?_)); (all_goals (refine vm rfl rfl ?_)); (all_goals (refine vm rfl rfl ?_)); (all_goals (refine vc_v (by exact fs_mapMiss mapT intKey (zero_run int_z) int_zA rfl rfl (isv_i _) rfl (keys_good _) (good_i _) (keys_no (fun c' e => by rw [show c' = c by omega]; exact hc))) rfl ?_)); (all_goals (refine vm rfl rfl ?_)); (all_goals (refine vc_v (by exact fs_extract rfl rfl) rfl ?_)); (all_goals (refine vc_v (by exact fs_extract rfl rfl) rfl ?_)); (all_goals (refine va rfl rfl ?_)); (all_goals (refine va rfl rfl ?_))) | (((refine aw_region (id := 7) ?_)); (all_goals (refine vm rfl rfl ?_)); (all_goals (refine vc_v (by exact fs_not rfl) rfl ?_))) | (((refine aw_region (id := 8) ?_)); (all_goals (refine va rfl rfl ?_))) | (((refine aw_region (id := 9) ?_)); (all_goals (refine vm rfl rfl ?_)); (all_goals (refine vm rfl rfl ?_)); (all_goals (refine vc_n (by exact fs_buildSlice T rfl rfl (by decide) (by decide) rfl rfl rfl) rfl ?_)); (all_goals (refine vc_append T rfl rfl rfl rfl rfl rfl (by simp) (Elems.whole rfl rfl) rfl (by simp; omega) (by simp; omega) rfl ?_)); (all_goals (refine va rfl rfl ?_))) | (((refine aw_region (id := 10) ?_)); (all_goals (refine vc_v (by first | exact fs_addr rfl rfl (by omega) (by omega) | exact fs_add rfl rfl) rfl ?_)); (all_goals (refine vm rfl rfl ?_))) | (refine vc_nilp (by (first | (dsimp only [List.nil_append, List.cons_append, List.append_nil, List.length_cons, List.length_nil, List.set_cons_zero, List.set_cons_succ, List.map_cons, List.map_nil, putAt, putd, allObjs, argEnv, un_v, un_ptr, un_ep, un_pr, un_sl, un_mp, un_row, un_agg, un_tup, un_clo, Nat.zero_add, Nat.add_zero, Nat.reduceAdd, Bool.not_true, Bool.not_false]; first | done | exact rfl) | exact rfl)) ?_))
      exact ⟨⟨k + 1, hlt⟩, by dsimp only; omega, [3, 1], rfl, ⟨rfl, by rw [hts]; simp only [List.length_append]; rfl, rfl, rfl, rfl, trivial⟩, ⟨.inr (sub_arr rfl (by rw [hts]; simp; exact List.take_of_length_le (by simp)) (ints_idf _)), .inr (sub_map rfl rfl rfl (valsA_idf _ _)), trivial⟩, by decide, fun i hi => absurd hi (Nat.not_lt_zero _)⟩
  · obtain rfl : k = r.length := by omega
    repeat' (first | (first | (refine aw_seq ?_) | (refine aw_block ?_) | (refine aw_skip ?_) | (refine aw_ret ?_) | (refine aw_exit ?_)) | (first | (refine aw_condt rfl ?_) | (refine aw_condf rfl ?_) | (refine aw_cond rfl (fun hb => ?_) (fun hb => ?_) <;> (first | subst hb | ((try simp only [nm] at hb); try ((exfalso; omega); done))))) | (((refine aw_region (id := 4) ?_)); (all_goals (refine vc_v (by exact fs_lss rfl rfl) rfl ?_))) | (((refine aw_region (id := 11) ?_)); (all_goals (refine vm rfl rfl ?_)); (all_goals (refine va rfl rfl ?_))) | (refine vc_nilp (by (first | (dsimp only [List.nil_append, List.cons_append, List.append_nil, List.length_cons, List.length_nil, List.set_cons_zero, List.set_cons_succ, List.map_cons, List.map_nil, putAt, putd, allObjs, argEnv, un_v, un_ptr, un_ep, un_pr, un_sl, un_mp, un_row, un_agg, un_tup, un_clo, Nat.zero_add, Nat.add_zero, Nat.reduceAdd, Bool.not_true, Bool.not_false]; first | done | exact rfl) | exact rfl)) ?_))
    exact ⟨.inl rfl, [0], _, rfl, rfl, rfl, ⟨.inr (sub_arr rfl rfl (ints_idf _)), trivial⟩, by decide, fun i hi => absurd hi (Nat.not_lt_zero _)⟩
theorem edge_c (g : Fine f) (r : List Int) (hr : Asc r) (hrl : r.length ≤ 1000000) : ACall Try.prog 14 [floorA f, .rowE (ints r) 1] [] (.rowE (ints (edgeM f r)) 1) [] := by
  have hlr : (ints r).length = r.length := by simp
  refine acall_frz (by simp : (edgeM f r).length = (ints (edgeM f r)).length) (idfL_flat (ints_idf _)) ?_
  have hI : edgeM f r = (r.take r.length).filter (leavesM f r) := by rw [List.take_length]; rfl
  rw [hI]
  refine acall T Try.func14 rfl rfl rfl rfl ?_
  repeat' (first | (first | (refine aw_seq ?_) | (refine aw_block ?_) | (refine aw_skip ?_) | (refine aw_ret ?_) | (refine aw_exit ?_)) | (first | (refine aw_condt rfl ?_) | (refine aw_condf rfl ?_) | (refine aw_cond rfl (fun hb => ?_) (fun hb => ?_) <;> (first | subst hb | ((try simp only [nm] at hb); try ((exfalso; omega); done))))) | (((refine aw_region (id := 0) ?_)); (all_goals (refine vc_n (by exact fs_box rfl rfl) rfl ?_)); (all_goals (refine va rfl rfl ?_))) | (((refine aw_region (id := 1) ?_)); (all_goals (refine va rfl rfl ?_))) | (((refine aw_region (id := 2) ?_)); (all_goals (refine vm rfl rfl ?_)); (all_goals (refine vc_v (by first | exact fs_lenOwn T rfl rfl | exact fs_lenRow T rfl rfl | exact fs_lenNil T rfl rfl) rfl ?_)); (all_goals (refine vm rfl rfl ?_))) | (refine vc_nilp (by (first | (dsimp only [List.nil_append, List.cons_append, List.append_nil, List.length_cons, List.length_nil, List.set_cons_zero, List.set_cons_succ, List.map_cons, List.map_nil, putAt, putd, allObjs, argEnv, un_v, un_ptr, un_ep, un_pr, un_sl, un_mp, un_row, un_agg, un_tup, un_clo, Nat.zero_add, Nat.add_zero, Nat.reduceAdd, Bool.not_true, Bool.not_false]; first | done | exact rfl) | exact rfl)) ?_))
  refine aw_own 5 1 rfl (by decide) ?_
  refine aw_loop (X := {k : Nat // k ≤ r.length}) (fun k => [(1, .rowE (ints r) 1), (2, .ptr 1 0), (5, .sl 0 0 ((r.take k.1).filter (leavesM f r)).length 1), (11, .rowE (ints r) 1), (12, .i (ints r).length), (13, .i k.1)]) (fun k => [.arr (ints ((r.take k.1).filter (leavesM f r))) 1, .cells [.i f.w, .i f.h, .i f.d, .rowE (ints f.k) 1, .rowE (ints f.o) 1]]) (fun k => r.length - k.1) ⟨0, by omega⟩ ⟨[1, 0], rfl, by (repeat (first | exact trivial | refine ⟨rfl, ?_⟩)), ⟨.inr rfl, .inr rfl, trivial⟩, by decide, fun i hi => absurd hi (Nat.not_lt_zero _)⟩ ?_
  rintro ⟨k, hk⟩
  dsimp only
  by_cases hlt : k < r.length
  · have hts := filter_take_succ (F := leavesM f r) hlt
    have htl : ((r.take k).filter (leavesM f r)).length ≤ 1000000 := by
      have := List.length_filter_le (leavesM f r) (r.take k)
      simp at this; omega
    have hget := ints_get hlt
    generalize r[k] = c at *
    generalize hT : (r.take k).filter (leavesM f r) = T' at *
    repeat' (first | (first | (refine aw_seq ?_) | (refine aw_block ?_) | (refine aw_skip ?_) | (refine aw_ret ?_) | (refine aw_exit ?_)) | (first | (refine aw_condt rfl ?_) | (refine aw_condf rfl ?_) | (refine aw_cond rfl (fun hb => ?_) (fun hb => ?_) <;> (first | subst hb | ((try simp only [nm] at hb); try ((exfalso; omega); done))))) | (((refine aw_region (id := 3) ?_)); (all_goals (refine vc_v (by exact fs_lss rfl rfl) rfl ?_))) | (((refine aw_region (id := 4) ?_)); (all_goals (refine vc_v (by exact fs_indexRowE T rfl rfl rfl rfl rfl (by omega) (ints_len r) hget) rfl ?_)); (all_goals (refine vc_v (by exact fs_load T rfl rfl rfl rfl) rfl ?_)); (all_goals (refine va rfl rfl ?_))) | (((refine aw_region (id := 5) ?_)); (all_goals (refine vm rfl rfl ?_))) | (refine vc_nilp (by (first | (dsimp only [List.nil_append, List.cons_append, List.append_nil, List.length_cons, List.length_nil, List.set_cons_zero, List.set_cons_succ, List.map_cons, List.map_nil, putAt, putd, allObjs, argEnv, un_v, un_ptr, un_ep, un_pr, un_sl, un_mp, un_row, un_agg, un_tup, un_clo, Nat.zero_add, Nat.add_zero, Nat.reduceAdd, Bool.not_true, Bool.not_false]; first | done | exact rfl) | exact rfl)) ?_))
    all_goals first | (exfalso; omega) | skip
    refine aw_loop (X := {d : Nat // d ≤ 6 ∧ ∀ j, j < d → leaveB f r c j = false}) (fun d => [(1, .rowE (ints r) 1), (2, .ptr 1 0), (5, .sl 0 0 T'.length 1), (7, .i c), (11, .rowE (ints r) 1), (12, .i (ints r).length), (13, .i k), (17, .i d.1)]) (fun _ => [.arr (ints T') 1, .cells [.i f.w, .i f.h, .i f.d, .rowE (ints f.k) 1, .rowE (ints f.o) 1]]) (fun d => 6 - d.1) ⟨0, by omega, fun j hj => by omega⟩ ⟨[0, 1], rfl, by (repeat (first | exact trivial | refine ⟨rfl, ?_⟩)), ⟨.inr (sub_arr rfl rfl (ints_idf _)), .inr rfl, trivial⟩, by decide, fun i hi => absurd hi (Nat.not_lt_zero _)⟩ ?_
    rintro ⟨d, hd, hno⟩
    dsimp only
    by_cases hd6 : d < 6
    · have hn := next_c g c d
      have hstep : leaveB f r c d = false → ∀ j, j < d + 1 → leaveB f r c j = false := fun h j hj => by
        by_cases e : j = d
        · subst e; exact h
        · exact hno j (by omega)
      have hyes : leaveB f r c d = true → leavesM f r c = true := fun h => by
        unfold leavesM
        rw [List.any_eq_true]
        exact ⟨d, by simpa using hd6, h⟩
      unfold leaveB at hstep hyes
      cases hnx : nextI f c d with
      | none =>
        rw [hnx] at hn hstep
        repeat' (first | (first | (refine aw_seq ?_) | (refine aw_block ?_) | (refine aw_skip ?_) | (refine aw_ret ?_) | (refine aw_exit ?_)) | (first | (refine aw_condt rfl ?_) | (refine aw_condf rfl ?_) | (refine aw_cond rfl (fun hb => ?_) (fun hb => ?_) <;> (first | subst hb | ((try simp only [nm] at hb); try ((exfalso; omega); done))))) | (((refine aw_region (id := 6) ?_)); (all_goals (refine vc_v (by exact fs_lss rfl rfl) rfl ?_))) | (((refine aw_region (id := 7) ?_)); (all_goals (refine vm rfl rfl ?_)); (all_goals (refine va rfl rfl ?_))) | (((refine aw_region (id := 8) ?_)); (all_goals (refine vc_v (by exact fs_load T rfl rfl rfl rfl) rfl ?_)); (all_goals (refine vm rfl rfl ?_)); (all_goals (refine vm rfl rfl ?_)); (all_goals (refine vc_v (by exact fs_call0 rfl rfl (hn) rfl rfl rfl) rfl ?_)); (all_goals (refine vm rfl rfl ?_)); (all_goals (refine vc_v (by exact fs_extract rfl rfl) rfl ?_)); (all_goals (refine vc_v (by exact fs_extract rfl rfl) rfl ?_)); (all_goals (refine va rfl rfl ?_)); (all_goals (refine va rfl rfl ?_))) | (((refine aw_region (id := 9) ?_)); (all_goals (refine vm rfl rfl ?_)); (all_goals (refine vm rfl rfl ?_)); (all_goals first | (refine vc_gt rfl rfl ?_ rfl; (refine vm rfl rfl ?_)) | (refine vc_gf rfl rfl ?_ rfl) | (refine vc_gu rfl rfl ?_ rfl) | (refine vc_split rfl rfl (fun hb => ?_) (fun hb => ?_) <;> (first | subst hb | (rw [hb]; (try simp only [nm] at hb); try ((exfalso; omega); done))) <;> first | (refine vc_gt rfl rfl ?_ rfl; (refine vm rfl rfl ?_)) | (refine vc_gf rfl rfl ?_ rfl) | (refine vc_gu rfl rfl ?_ rfl))); (all_goals first | (refine vc_gt rfl rfl ?_ rfl; (refine vm rfl rfl ?_)) | (refine vc_gf rfl rfl ?_ rfl) | (refine vc_gu rfl rfl ?_ rfl)); (all_goals first | (refine vc_gt rfl rfl ?_ rfl; first | (refine vc_v (by first | fail) rfl ?_) | (refine vc_n (by first | fail) rfl ?_)) | (refine vc_gf rfl rfl ?_ rfl) | (refine vc_gu rfl rfl ?_ rfl)); (all_goals first | (refine vc_gt rfl rfl ?_ rfl; (refine vc_v (by exact fs_not rfl) rfl ?_)) | (refine vc_gf rfl rfl ?_ rfl) | (refine vc_gu rfl rfl ?_ rfl)); (all_goals (refine vc_v (by first | exact fs_pickt rfl rfl | exact fs_pickf rfl rfl | exact fs_pick rfl rfl rfl) rfl ?_))) | (((refine aw_region (id := 11) ?_)); (all_goals (refine vc_v (by first | exact fs_addr rfl rfl (by omega) (by omega) | exact fs_add rfl rfl) rfl ?_)); (all_goals (refine vm rfl rfl ?_))) | (refine vc_nilp (by (first | (dsimp only [List.nil_append, List.cons_append, List.append_nil, List.length_cons, List.length_nil, List.set_cons_zero, List.set_cons_succ, List.map_cons, List.map_nil, putAt, putd, allObjs, argEnv, un_v, un_ptr, un_ep, un_pr, un_sl, un_mp, un_row, un_agg, un_tup, un_clo, Nat.zero_add, Nat.add_zero, Nat.reduceAdd, Bool.not_true, Bool.not_false]; first | done | exact rfl) | exact rfl)) ?_))
        all_goals first | (exfalso; omega) | skip
        exact ⟨⟨d + 1, hd6, hstep rfl⟩, by dsimp only; omega, [0, 1], rfl, by (repeat (first | exact trivial | refine ⟨rfl, ?_⟩)), ⟨.inr (sub_arr rfl rfl (ints_idf _)), .inr rfl, trivial⟩, by decide, fun i hi => absurd hi (Nat.not_lt_zero _)⟩
      | some x =>
        rw [hnx] at hn hstep hyes
        have hh := rhas_c r x hr hrl
        by_cases hxr : x ∈ r
        · rw [decide_eq_true hxr] at hh
          repeat' (first | (first | (refine aw_seq ?_) | (refine aw_block ?_) | (refine aw_skip ?_) | (refine aw_ret ?_) | (refine aw_exit ?_)) | (first | (refine aw_condt rfl ?_) | (refine aw_condf rfl ?_) | (refine aw_cond rfl (fun hb => ?_) (fun hb => ?_) <;> (first | subst hb | ((try simp only [nm] at hb); try ((exfalso; omega); done))))) | (((refine aw_region (id := 6) ?_)); (all_goals (refine vc_v (by exact fs_lss rfl rfl) rfl ?_))) | (((refine aw_region (id := 7) ?_)); (all_goals (refine vm rfl rfl ?_)); (all_goals (refine va rfl rfl ?_))) | (((refine aw_region (id := 8) ?_)); (all_goals (refine vc_v (by exact fs_load T rfl rfl rfl rfl) rfl ?_)); (all_goals (refine vm rfl rfl ?_)); (all_goals (refine vm rfl rfl ?_)); (all_goals (refine vc_v (by exact fs_call0 rfl rfl (hn) rfl rfl rfl) rfl ?_)); (all_goals (refine vm rfl rfl ?_)); (all_goals (refine vc_v (by exact fs_extract rfl rfl) rfl ?_)); (all_goals (refine vc_v (by exact fs_extract rfl rfl) rfl ?_)); (all_goals (refine va rfl rfl ?_)); (all_goals (refine va rfl rfl ?_))) | (((refine aw_region (id := 9) ?_)); (all_goals (refine vm rfl rfl ?_)); (all_goals (refine vm rfl rfl ?_)); (all_goals first | (refine vc_gt rfl rfl ?_ rfl; (refine vm rfl rfl ?_)) | (refine vc_gf rfl rfl ?_ rfl) | (refine vc_gu rfl rfl ?_ rfl) | (refine vc_split rfl rfl (fun hb => ?_) (fun hb => ?_) <;> (first | subst hb | (rw [hb]; (try simp only [nm] at hb); try ((exfalso; omega); done))) <;> first | (refine vc_gt rfl rfl ?_ rfl; (refine vm rfl rfl ?_)) | (refine vc_gf rfl rfl ?_ rfl) | (refine vc_gu rfl rfl ?_ rfl))); (all_goals first | (refine vc_gt rfl rfl ?_ rfl; (refine vm rfl rfl ?_)) | (refine vc_gf rfl rfl ?_ rfl) | (refine vc_gu rfl rfl ?_ rfl)); (all_goals first | (refine vc_gt rfl rfl ?_ rfl; (refine vc_v (by exact fs_call0 rfl rfl (hh) rfl rfl rfl) rfl ?_)) | (refine vc_gf rfl rfl ?_ rfl) | (refine vc_gu rfl rfl ?_ rfl)); (all_goals first | (refine vc_gt rfl rfl ?_ rfl; (refine vc_v (by exact fs_not rfl) rfl ?_)) | (refine vc_gf rfl rfl ?_ rfl) | (refine vc_gu rfl rfl ?_ rfl)); (all_goals (refine vc_v (by first | exact fs_pickt rfl rfl | exact fs_pickf rfl rfl | exact fs_pick rfl rfl rfl) rfl ?_))) | (((refine aw_region (id := 11) ?_)); (all_goals (refine vc_v (by first | exact fs_addr rfl rfl (by omega) (by omega) | exact fs_add rfl rfl) rfl ?_)); (all_goals (refine vm rfl rfl ?_))) | (refine vc_nilp (by (first | (dsimp only [List.nil_append, List.cons_append, List.append_nil, List.length_cons, List.length_nil, List.set_cons_zero, List.set_cons_succ, List.map_cons, List.map_nil, putAt, putd, allObjs, argEnv, un_v, un_ptr, un_ep, un_pr, un_sl, un_mp, un_row, un_agg, un_tup, un_clo, Nat.zero_add, Nat.add_zero, Nat.reduceAdd, Bool.not_true, Bool.not_false]; first | done | exact rfl) | exact rfl)) ?_))
          all_goals first | (exfalso; omega) | skip
          exact ⟨⟨d + 1, hd6, hstep (by simpa using hxr)⟩, by dsimp only; omega, [0, 1], rfl, by (repeat (first | exact trivial | refine ⟨rfl, ?_⟩)), ⟨.inr (sub_arr rfl rfl (ints_idf _)), .inr rfl, trivial⟩, by decide, fun i hi => absurd hi (Nat.not_lt_zero _)⟩
        · rw [decide_eq_false hxr] at hh
          rw [if_pos (hyes (by simpa using hxr))] at hts
          repeat' (first | (first | (refine aw_seq ?_) | (refine aw_block ?_) | (refine aw_skip ?_) | (refine aw_ret ?_) | (refine aw_exit ?_)) | (first | (refine aw_condt rfl ?_) | (refine aw_condf rfl ?_) | (refine aw_cond rfl (fun hb => ?_) (fun hb => ?_) <;> (first | subst hb | ((try simp only [nm] at hb); try ((exfalso; omega); done))))) | (((refine aw_region (id := 6) ?_)); (all_goals (refine vc_v (by exact fs_lss rfl rfl) rfl ?_))) | (((refine aw_region (id := 7) ?_)); (all_goals (refine vm rfl rfl ?_)); (all_goals (refine va rfl rfl ?_))) | (((refine aw_region (id := 8) ?_)); (all_goals (refine vc_v (by exact fs_load T rfl rfl rfl rfl) rfl ?_)); (all_goals (refine vm rfl rfl ?_)); (all_goals (refine vm rfl rfl ?_)); (all_goals (refine vc_v (by exact fs_call0 rfl rfl (hn) rfl rfl rfl) rfl ?_)); (all_goals (refine vm rfl rfl ?_)); (all_goals (refine vc_v (by exact fs_extract rfl rfl) rfl ?_)); (all_goals (refine vc_v (by exact fs_extract rfl rfl) rfl ?_)); (all_goals (refine va rfl rfl ?_)); (all_goals (refine va rfl rfl ?_))) | (((refine aw_region (id := 9) ?_)); (all_goals (refine vm rfl rfl ?_)); (all_goals (refine vm rfl rfl ?_)); (all_goals first | (refine vc_gt rfl rfl ?_ rfl; (refine vm rfl rfl ?_)) | (refine vc_gf rfl rfl ?_ rfl) | (refine vc_gu rfl rfl ?_ rfl) | (refine vc_split rfl rfl (fun hb => ?_) (fun hb => ?_) <;> (first | subst hb | (rw [hb]; (try simp only [nm] at hb); try ((exfalso; omega); done))) <;> first | (refine vc_gt rfl rfl ?_ rfl; (refine vm rfl rfl ?_)) | (refine vc_gf rfl rfl ?_ rfl) | (refine vc_gu rfl rfl ?_ rfl))); (all_goals first | (refine vc_gt rfl rfl ?_ rfl; (refine vm rfl rfl ?_)) | (refine vc_gf rfl rfl ?_ rfl) | (refine vc_gu rfl rfl ?_ rfl)); (all_goals first | (refine vc_gt rfl rfl ?_ rfl; (refine vc_v (by exact fs_call0 rfl rfl (hh) rfl rfl rfl) rfl ?_)) | (refine vc_gf rfl rfl ?_ rfl) | (refine vc_gu rfl rfl ?_ rfl)); (all_goals first | (refine vc_gt rfl rfl ?_ rfl; (refine vc_v (by exact fs_not rfl) rfl ?_)) | (refine vc_gf rfl rfl ?_ rfl) | (refine vc_gu rfl rfl ?_ rfl)); (all_goals (refine vc_v (by first | exact fs_pickt rfl rfl | exact fs_pickf rfl rfl | exact fs_pick rfl rfl rfl) rfl ?_))) | (((refine aw_region (id := 10) ?_)); (all_goals (refine vm rfl rfl ?_)); (all_goals (refine vm rfl rfl ?_)); (all_goals (refine vc_n (by exact fs_buildSlice T rfl rfl (by decide) (by decide) rfl rfl rfl) rfl ?_)); (all_goals (refine vc_append T rfl rfl rfl rfl rfl rfl (by simp) (Elems.whole rfl rfl) rfl (by simp; omega) (by simp; omega) rfl ?_)); (all_goals (refine va rfl rfl ?_))) | (((refine aw_region (id := 12) ?_)); (all_goals (refine vc_v (by first | exact fs_addr rfl rfl (by omega) (by omega) | exact fs_add rfl rfl) rfl ?_)); (all_goals (refine vm rfl rfl ?_))) | (refine vc_nilp (by (first | (dsimp only [List.nil_append, List.cons_append, List.append_nil, List.length_cons, List.length_nil, List.set_cons_zero, List.set_cons_succ, List.map_cons, List.map_nil, putAt, putd, allObjs, argEnv, un_v, un_ptr, un_ep, un_pr, un_sl, un_mp, un_row, un_agg, un_tup, un_clo, Nat.zero_add, Nat.add_zero, Nat.reduceAdd, Bool.not_true, Bool.not_false]; first | done | exact rfl) | exact rfl)) ?_))
          all_goals first | (exfalso; omega) | skip
          exact ⟨⟨k + 1, hlt⟩, by dsimp only; omega, [3, 1], rfl, ⟨rfl, rfl, by rw [hts]; simp only [List.length_append]; rfl, rfl, rfl, rfl, trivial⟩, ⟨.inr (sub_arr rfl (by rw [hts]; simp; exact List.take_of_length_le (by simp)) (ints_idf _)), .inr rfl, trivial⟩, by decide, fun i hi => absurd hi (Nat.not_lt_zero _)⟩
    · obtain rfl : d = 6 := by omega
      have hl : leavesM f r c = false := by
        unfold leavesM
        rw [List.any_eq_false]
        intro j hj
        rw [hno j (List.mem_range.1 hj)]; simp
      rw [hl, if_neg (by simp), List.append_nil] at hts
      repeat' (first | (first | (refine aw_seq ?_) | (refine aw_block ?_) | (refine aw_skip ?_) | (refine aw_ret ?_) | (refine aw_exit ?_)) | (first | (refine aw_condt rfl ?_) | (refine aw_condf rfl ?_) | (refine aw_cond rfl (fun hb => ?_) (fun hb => ?_) <;> (first | subst hb | ((try simp only [nm] at hb); try ((exfalso; omega); done))))) | (((refine aw_region (id := 6) ?_)); (all_goals (refine vc_v (by exact fs_lss rfl rfl) rfl ?_))) | (((refine aw_region (id := 12) ?_)); (all_goals (refine vc_v (by first | exact fs_addr rfl rfl (by omega) (by omega) | exact fs_add rfl rfl) rfl ?_)); (all_goals (refine vm rfl rfl ?_))) | (refine vc_nilp (by (first | (dsimp only [List.nil_append, List.cons_append, List.append_nil, List.length_cons, List.length_nil, List.set_cons_zero, List.set_cons_succ, List.map_cons, List.map_nil, putAt, putd, allObjs, argEnv, un_v, un_ptr, un_ep, un_pr, un_sl, un_mp, un_row, un_agg, un_tup, un_clo, Nat.zero_add, Nat.add_zero, Nat.reduceAdd, Bool.not_true, Bool.not_false]; first | done | exact rfl) | exact rfl)) ?_))
      all_goals first | (exfalso; omega) | skip
      exact ⟨⟨k + 1, hlt⟩, by dsimp only; omega, [0, 1], rfl, ⟨rfl, rfl, by rw [hts]; rfl, rfl, rfl, rfl, trivial⟩, ⟨.inr (sub_arr rfl (by rw [hts]) (ints_idf _)), .inr rfl, trivial⟩, by decide, fun i hi => absurd hi (Nat.not_lt_zero _)⟩
  · obtain rfl : k = r.length := by omega
    repeat' (first | (first | (refine aw_seq ?_) | (refine aw_block ?_) | (refine aw_skip ?_) | (refine aw_ret ?_) | (refine aw_exit ?_)) | (first | (refine aw_condt rfl ?_) | (refine aw_condf rfl ?_) | (refine aw_cond rfl (fun hb => ?_) (fun hb => ?_) <;> (first | subst hb | ((try simp only [nm] at hb); try ((exfalso; omega); done))))) | (((refine aw_region (id := 3) ?_)); (all_goals (refine vc_v (by exact fs_lss rfl rfl) rfl ?_))) | (((refine aw_region (id := 13) ?_)); (all_goals (refine vm rfl rfl ?_)); (all_goals (refine va rfl rfl ?_))) | (refine vc_nilp (by (first | (dsimp only [List.nil_append, List.cons_append, List.append_nil, List.length_cons, List.length_nil, List.set_cons_zero, List.set_cons_succ, List.map_cons, List.map_nil, putAt, putd, allObjs, argEnv, un_v, un_ptr, un_ep, un_pr, un_sl, un_mp, un_row, un_agg, un_tup, un_clo, Nat.zero_add, Nat.add_zero, Nat.reduceAdd, Bool.not_true, Bool.not_false]; first | done | exact rfl) | exact rfl)) ?_))
    exact ⟨.inl rfl, [0], _, rfl, rfl, rfl, ⟨.inr (sub_arr rfl rfl (ints_idf _)), trivial⟩, by decide, fun i hi => absurd hi (Nat.not_lt_zero _)⟩
end
end Go.Proofs.Ytlpffgndackglaa
