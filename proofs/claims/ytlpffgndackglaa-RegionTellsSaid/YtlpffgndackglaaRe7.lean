/-
  Layer 8: the search within a region.
-/
import Derived.Test.YtlpffgndackglaaRe6
namespace Go.Proofs.Ytlpffgndackglaa
open Go Go.Ab Go.Fl Go.Re
set_option linter.unusedVariables false
set_option linter.unusedSimpArgs false
attribute [local irreducible] VC AW FStep ACall
set_option maxHeartbeats 4000000

/-- A cell of the region that is no wall. -/
def okR (f : Flo) (r : List Int) (c : Nat) : Bool := decide (f.k.getD c 0 ≠ 0) && decide ((c : Int) ∈ r)
abbrev rsH (f : Flo) (r : List Int) (x : SH) (pre : List Nat) : Hp := [.cells [.i f.w, .i f.h, .i f.d, .rowE (ints f.k) 1, .rowE (ints f.o) 1], .cells [.rowE (ints r) 1], .mapO (keysA x.2) (valsA x.1.out x.2), .cells [.mp 2], .cells [.sl 5 pre.length x.1.q.length 1], .arr (nats (pre ++ x.1.q)) 1]
theorem fromH_inv {N : Nat} {mv : MV} {ok : Nat → Bool} : ∀ (k : Nat) (l : List Nat), l.length = k → (∀ c, c ∈ l → c < N) → HInv N (fromH l (startH N ok)) := by
  intro k
  induction k with
  | zero =>
    intro l h _
    obtain rfl : l = [] := List.eq_nil_of_length_eq_zero h
    refine ⟨List.nodup_nil, (fun c hc => by cases hc), fun c hc => ?_⟩
    show c ∈ ([] : List Nat) ↔ 0 ≤ (List.replicate N (-1 : Int)).getD c (-1)
    simp [List.getD_eq_getElem?_getD, List.getElem?_replicate, hc]
  | succ k ih =>
    intro l h hl
    obtain ⟨l', c, rfl⟩ : ∃ l' c, l = l' ++ [c] := ⟨l.dropLast, l.getLast (by intro e; rw [e] at h; cases h), (List.dropLast_concat_getLast _).symm⟩
    rw [fromH_snoc]
    have hl' : ∀ x, x ∈ l' → x < N := fun x hx => hl x (by simp [hx])
    have h1 := ih l' (by simpa using h) hl'
    obtain ⟨s1, _, _⟩ := start_srch (N := N) (mv := mv) (ok := ok) l' hl'
    have e : (fromH l' (startH N ok)).1 = fromM l' (startS N ok) := fromH_1 _ _
    have hc := hl c (by simp)
    exact h1.reach hc (by rw [e]; exact s1.inv.lu) (Int.le_refl _) (fun ho => by rw [e] at ho ⊢; exact ((s1.inv.opn c hc).1 ho).2)
section
variable {f : Flo}
theorem rspread_c (g : Fine f) (r fr : List Int) (ha : Asc r) (hrl : r.length ≤ 1000000) (hfr : fr.length ≤ 1000) (mvF : FuncId) (mv : MV)
    (hmv : ∀ c d n, c < f.k.length → mv c d = some n → n < f.k.length) (hwall : ∀ c d n, mv c d = some n → f.k.getD n 0 ≠ 0)
    (hcall : ∀ c d : Nat, c < f.k.length → d < 6 → ACall Try.prog mvF [floorA f, .i (c : Int), .i (d : Int)] [] (optA ((mv c d).map Int.ofNat)) []) :
    ACall Try.prog 39 [floorA f, .rowE (ints r) 1, .rowE (ints fr) 1, .clo (.func mvF) [] []] [] (.mp 0) [.mapO (keysA (spreadH f.k.length mv (okR f r) (cellsF f fr)).2) (valsA (spreadM f.k.length mv (okR f r) (cellsF f fr)).out (spreadH f.k.length mv (okR f r) (cellsF f fr)).2)] ∧ HInv f.k.length (spreadH f.k.length mv (okR f r) (cellsF f fr)) := by
  have hb := g.bounds
  have hN := g.le
  have hk : f.size = f.k.length := size_eq g
  have hkl : (ints f.k).length = f.k.length := by simp
  have hfl : (ints fr).length = fr.length := by simp
  have hokw : ∀ c, f.k.getD c 0 = 0 → okR f r c = false := fun c h => by
    unfold okR
    rw [h]; rfl
  have hokr : ∀ c, f.k.getD c 0 ≠ 0 → (okR f r c = true ↔ (c : Int) ∈ r) := fun c h => by
    unfold okR
    rw [decide_eq_true h, Bool.true_and, decide_eq_true_eq]
  generalize hNN : f.k.length = N at *
  have hroom : ∀ l, roomS (fromM l (startS N (okR f r))) ≤ N := fun l => by
    rw [room_from]
    unfold roomS startS
    have := List.countP_le_length (p := fun b : Bool => decide (b = true)) (l := (List.range N).map (okR f r))
    simp at this ⊢
    exact this
  -- the end's order
  have hend : ∃ F : SH, spreadH N mv (okR f r) (cellsF f fr) = F ∧ F.1 = spreadM N mv (okR f r) (cellsF f fr) := ⟨_, rfl, spreadH_1 _ _ _ _⟩
  obtain ⟨F, hF, hF1⟩ := hend
  rw [hF, ← hF1]
  -- that the order is one: by the search itself
  have hinv : HInv N F := by
    rw [← hF]
    obtain ⟨g1, g2, _⟩ := start_srch (N := N) (mv := mv) (ok := okR f r) (cellsF f fr) (cells_lt hk)
    have h0 : HInv N (fromH (cellsF f fr) (startH N (okR f r))) := fromH_inv (mv := mv) _ _ rfl (cells_lt hk)
    have e0 : (fromH (cellsF f fr) (startH N (okR f r))).1 = fromM (cellsF f fr) (startS N (okR f r)) := fromH_1 _ _
    rw [← e0] at g1
    unfold spreadH
    generalize fromH (cellsF f fr) (startH N (okR f r)) = x at h0 g1
    clear g2 e0 hroom hF hF1
    suffices ∀ k (x : SH), HInv N x → Srch N mv (okR f r) (· ∈ cellsF f fr) x.1 → HInv N (bfsH mv k x) from this N x h0 g1
    intro k
    induction k with
    | zero => intro x h _; exact h
    | succ k ih =>
      intro x h s
      unfold bfsH
      cases hq : x.1.q with
      | nil => exact h
      | cons c r' =>
        simp only
        have m0 := s.pop hq
        have key : ∀ (j d : Nat) (y : SH), d + j = 6 → Mid N mv (okR f r) (· ∈ cellsF f fr) c d y.1 → HInv N y → HInv N ((List.range' d j).foldl (tryH mv c) y) ∧ Mid N mv (okR f r) (· ∈ cellsF f fr) c 6 ((List.range' d j).foldl (tryH mv c) y).1 := by
          intro j
          induction j with
          | zero =>
            intro d y hd m hy
            obtain rfl : d = 6 := by omega
            exact ⟨hy, m⟩
          | succ j ihj =>
            intro d y hd m hy
            rw [List.range'_succ, List.foldl_cons]
            refine ihj (d + 1) _ (by omega) (by rw [tryH_1]; exact m.next hmv (by omega)) ?_
            unfold tryH
            cases hm : mv c d with
            | none => exact hy
            | some n =>
              have hn := hmv c d n m.hc hm
              exact hy.reach hn m.inv.lu (by have := m.h0; omega) (fun ho => ((m.inv.opn n hn).1 ho).2)
        obtain ⟨k1, k2⟩ := key 6 0 (⟨x.1.op, x.1.out, r'⟩, x.2) rfl m0 ⟨h.nd, h.lt, h.mem⟩
        have e6 : expandH mv c (⟨x.1.op, x.1.out, r'⟩, x.2) = (List.range' 0 6).foldl (tryH mv c) (⟨x.1.op, x.1.out, r'⟩, x.2) := by unfold expandH; rw [List.range_eq_range']
        rw [e6]
        exact ih _ k1 k2.end
  refine ⟨?_, hinv⟩
  clear hinv
  refine acall T Try.func39 rfl rfl rfl rfl ?_
  repeat' (first | (first | (refine aw_seq ?_) | (refine aw_block ?_) | (refine aw_skip ?_) | (refine aw_ret ?_) | (refine aw_exit ?_)) | (first | (refine aw_condt rfl ?_) | (refine aw_condf rfl ?_) | (refine aw_cond rfl (fun hb => ?_) (fun hb => ?_) <;> (first | subst hb | ((try simp only [nm] at hb); try ((exfalso; omega); done))))) | (((refine aw_region (id := 0) ?_)); (all_goals (refine vc_n (by exact fs_box rfl rfl) rfl ?_)); (all_goals (refine vc_n (by exact fs_box rfl rfl) rfl ?_)); (all_goals (refine va rfl rfl ?_))) | (((refine aw_region (id := 1) ?_)); (all_goals (refine vc_n (by exact fs_mapNew) rfl ?_)); (all_goals (refine vc_n (by exact fs_alloc T rfl) rfl ?_)); (all_goals (refine vc_store T rfl rfl rfl rfl rfl rfl (by decide) rfl ?_))) | (((refine aw_region (id := 2) ?_)); (all_goals (refine vc_n (by exact fs_alloc T rfl) rfl ?_))) | (((refine aw_region (id := 3) ?_)); (all_goals (refine vc_v (by exact fs_makeFunc rfl rfl) rfl ?_)); (all_goals (refine va rfl rfl ?_))) | (((refine aw_region (id := 4) ?_)); (all_goals (refine vm rfl rfl ?_)); (all_goals (refine vc_v (by first | exact fs_lenOwn T rfl rfl | exact fs_lenRow T rfl rfl | exact fs_lenNil T rfl rfl) rfl ?_)); (all_goals (refine vm rfl rfl ?_))) | (refine vc_nilp (by (first | (dsimp only [List.nil_append, List.cons_append, List.append_nil, List.length_cons, List.length_nil, List.set_cons_zero, List.set_cons_succ, List.map_cons, List.map_nil, putAt, putd, allObjs, argEnv, un_v, un_ptr, un_ep, un_pr, un_sl, un_mp, un_row, un_agg, un_tup, un_clo, Nat.zero_add, Nat.add_zero, Nat.reduceAdd, Bool.not_true, Bool.not_false]; first | done | exact rfl) | exact rfl)) ?_))
  refine aw_ownC 4 0 1 rfl rfl (by decide) ?_
  -- the cells from which it goes on
  refine aw_loop (X := {j : Nat // j ≤ fr.length}) (fun j => [(3, .clo (.func mvF) [] []), (4, .ptr 0 0), (9, .ptr 3 0), (10, .ptr 4 0), (11, .clo (.func 58) [] [.ptr 3 0, .ptr 1 0, .ptr 4 0]), (20, .rowE (ints fr) 1), (21, .i ((ints fr).length : Int)), (22, .i j.1)])
    (fun j => rsH f r (fromH (cellsF f (fr.take j.1)) (startH N (okR f r))) []) (fun j => fr.length - j.1) ⟨0, by omega⟩ ?_ ?_
  · exact ⟨[0, 1, 2, 3, 4, 5], rfl, by (repeat (first | exact trivial | refine ⟨rfl, ?_⟩)), ⟨.inr rfl, .inr rfl, .inr (sub_map rfl rfl rfl rfl), .inr rfl, .inr rfl, .inr (sub_arr rfl rfl (nats_idf _)), trivial⟩, by decide, fun i hi => absurd hi (Nat.not_lt_zero _)⟩
  rintro ⟨j, hj⟩
  dsimp only
  by_cases hjl : j < fr.length
  · have hx := ints_getI (l := fr) (j := (j : Int)) (by omega) (by omega)
    have hx' : (j : Int).toNat = j := Int.toNat_natCast j
    simp only [hx'] at hx
    have tk := cells_take (f := f) hjl
    have hcl : ∀ c, c ∈ cellsF f (fr.take j) → c < N := cells_lt hk
    obtain ⟨g1, _, _⟩ := start_srch (N := N) (mv := mv) (ok := okR f r) (cellsF f (fr.take j)) hcl
    have hi := fromH_inv (N := N) (mv := mv) (ok := okR f r) _ (cellsF f (fr.take j)) rfl hcl
    have l3 := hroom (cellsF f (fr.take j))
    rw [show fromM (cellsF f (fr.take j)) (startS N (okR f r)) = (fromH (cellsF f (fr.take j)) (startH N (okR f r))).1 from (fromH_1 (cellsF f (fr.take j)) (startH N (okR f r))).symm] at g1 l3
    generalize fr[j] = x at *
    by_cases hr : 0 ≤ x ∧ x < f.size
    · rw [if_pos hr] at tk
      obtain ⟨c, rfl⟩ := Int.eq_ofNat_of_zero_le hr.1
      rw [Int.toNat_natCast] at tk
      have hc : c < N := by omega
      have hkc := ints_getD (l := f.k) (j := (c : Int)) (by omega) (by omega)
      rw [Int.toNat_natCast] at hkc
      have hst : fromH (cellsF f (fr.take (j + 1))) (startH N (okR f r)) = reachH c 0 (fromH (cellsF f (fr.take j)) (startH N (okR f r))) := by rw [tk, fromH_snoc]
      generalize fromH (cellsF f (fr.take j)) (startH N (okR f r)) = s at *
      have hopn := g1.inv.opn c hc
      have hlu := g1.inv.lu
      obtain ⟨⟨op, out, q⟩, hist⟩ := s
      have hmem := hi.mem c hc
      have hnd := hi.nd
      have hq : q.length ≤ 300 := by unfold roomS at l3; simp only at l3; omega
      simp only at hopn hlu hmem hnd hst ⊢
      by_cases hw : f.k.getD c 0 = 0
      · have hst : fromH (cellsF f (fr.take (j + 1))) (startH N (okR f r)) = (⟨op, out, q⟩, hist) := by
          rw [hst]; unfold reachH
          rw [if_neg (by simp only; rw [hopn, hokw c hw]; simp)]
        repeat' (first | (first | (refine aw_seq ?_) | (refine aw_block ?_) | (refine aw_skip ?_) | (refine aw_ret ?_) | (refine aw_exit ?_)) | (first | (refine aw_condt rfl ?_) | (refine aw_condf rfl ?_) | (refine aw_cond rfl (fun hb => ?_) (fun hb => ?_) <;> (first | subst hb | ((try simp only [nm] at hb); try ((exfalso; omega); done))))) | (((refine aw_region (id := 5) ?_)); (all_goals (refine vc_v (by exact fs_lss rfl rfl) rfl ?_))) | (((refine aw_region (id := 6) ?_)); (all_goals (refine vc_v (by first | exact fs_indexRowE T rfl rfl rfl rfl rfl (by omega) (ints_len fr) hx | exact fs_indexRowE T rfl rfl rfl rfl rfl (by omega) (ints_len f.k) hkc) rfl ?_)); (all_goals (refine vc_v (by exact fs_load T rfl rfl rfl rfl) rfl ?_)); (all_goals (refine va rfl rfl ?_))) | (((refine aw_region (id := 7) ?_)); (all_goals (refine vm rfl rfl ?_)); (all_goals (refine vc_v (by exact fs_geq rfl rfl) rfl ?_)); (all_goals (refine vm rfl rfl ?_)); (all_goals first | (refine vc_gt rfl rfl ?_ rfl; (refine vm rfl rfl ?_)) | (refine vc_gf rfl rfl ?_ rfl) | (refine vc_gu rfl rfl ?_ rfl) | (refine vc_split rfl rfl (fun hb => ?_) (fun hb => ?_) <;> (first | subst hb | (rw [hb]; (try simp only [nm] at hb); try ((exfalso; omega); done))) <;> first | (refine vc_gt rfl rfl ?_ rfl; (refine vm rfl rfl ?_)) | (refine vc_gf rfl rfl ?_ rfl) | (refine vc_gu rfl rfl ?_ rfl))); (all_goals first | (refine vc_gt rfl rfl ?_ rfl; (refine vc_v (by exact fs_fieldAddr T rfl rfl rfl) rfl ?_)) | (refine vc_gf rfl rfl ?_ rfl) | (refine vc_gu rfl rfl ?_ rfl)); (all_goals first | (refine vc_gt rfl rfl ?_ rfl; (refine vc_v (by exact fs_load T rfl rfl rfl rfl) rfl ?_)) | (refine vc_gf rfl rfl ?_ rfl) | (refine vc_gu rfl rfl ?_ rfl)); (all_goals first | (refine vc_gt rfl rfl ?_ rfl; (refine vc_v (by first | exact fs_lenOwn T rfl rfl | exact fs_lenRow T rfl rfl | exact fs_lenNil T rfl rfl) rfl ?_)) | (refine vc_gf rfl rfl ?_ rfl) | (refine vc_gu rfl rfl ?_ rfl)); (all_goals first | (refine vc_gt rfl rfl ?_ rfl; (refine vc_v (by exact fs_lss rfl rfl) rfl ?_)) | (refine vc_gf rfl rfl ?_ rfl) | (refine vc_gu rfl rfl ?_ rfl)); (all_goals (refine vc_v (by first | exact fs_pickt rfl rfl | exact fs_pickf rfl rfl | exact fs_pick rfl rfl rfl) rfl ?_)); (all_goals (refine vm rfl rfl ?_)); (all_goals first | (refine vc_gt rfl rfl ?_ rfl; (refine vc_v (by exact fs_fieldAddr T rfl rfl rfl) rfl ?_)) | (refine vc_gf rfl rfl ?_ rfl) | (refine vc_gu rfl rfl ?_ rfl) | (refine vc_split rfl rfl (fun hb => ?_) (fun hb => ?_) <;> (first | subst hb | (rw [hb]; (try simp only [nm] at hb); try ((exfalso; omega); done))) <;> first | (refine vc_gt rfl rfl ?_ rfl; (refine vc_v (by exact fs_fieldAddr T rfl rfl rfl) rfl ?_)) | (refine vc_gf rfl rfl ?_ rfl) | (refine vc_gu rfl rfl ?_ rfl))); (all_goals first | (refine vc_gt rfl rfl ?_ rfl; (refine vc_v (by exact fs_load T rfl rfl rfl rfl) rfl ?_)) | (refine vc_gf rfl rfl ?_ rfl) | (refine vc_gu rfl rfl ?_ rfl)); (all_goals first | (refine vc_gt rfl rfl ?_ rfl; (refine vm rfl rfl ?_)) | (refine vc_gf rfl rfl ?_ rfl) | (refine vc_gu rfl rfl ?_ rfl)); (all_goals first | (refine vc_gt rfl rfl ?_ rfl; (refine vc_v (by first | exact fs_indexRowE T rfl rfl rfl rfl rfl (by omega) (ints_len fr) hx | exact fs_indexRowE T rfl rfl rfl rfl rfl (by omega) (ints_len f.k) hkc) rfl ?_)) | (refine vc_gf rfl rfl ?_ rfl) | (refine vc_gu rfl rfl ?_ rfl)); (all_goals first | (refine vc_gt rfl rfl ?_ rfl; (refine vc_v (by exact fs_load T rfl rfl rfl rfl) rfl ?_)) | (refine vc_gf rfl rfl ?_ rfl) | (refine vc_gu rfl rfl ?_ rfl)); (all_goals first | (refine vc_gt rfl rfl ?_ rfl; (refine vc_v (by exact fs_neq rfl rfl) rfl ?_)) | (refine vc_gf rfl rfl ?_ rfl) | (refine vc_gu rfl rfl ?_ rfl)); (all_goals (refine vc_v (by first | exact fs_pickt rfl rfl | exact fs_pickf rfl rfl | exact fs_pick rfl rfl rfl) rfl ?_))) | (((refine aw_region (id := 9) ?_)); (all_goals (refine vc_v (by first | exact fs_addr rfl rfl (by omega) (by omega) | exact fs_add rfl rfl) rfl ?_)); (all_goals (refine vm rfl rfl ?_))) | (refine vc_nilp (by (first | (dsimp only [List.nil_append, List.cons_append, List.append_nil, List.length_cons, List.length_nil, List.set_cons_zero, List.set_cons_succ, List.map_cons, List.map_nil, putAt, putd, allObjs, argEnv, un_v, un_ptr, un_ep, un_pr, un_sl, un_mp, un_row, un_agg, un_tup, un_clo, Nat.zero_add, Nat.add_zero, Nat.reduceAdd, Bool.not_true, Bool.not_false]; first | done | exact rfl) | exact rfl)) ?_))
        all_goals first | (exfalso; omega) | skip
        refine ⟨⟨j + 1, hjl⟩, by dsimp only; omega, ?_⟩
        dsimp only
        rw [hst]
        exact ⟨[0, 1, 2, 3, 4, 5], rfl, by (repeat (first | exact trivial | refine ⟨rfl, ?_⟩)), ⟨.inr rfl, .inr rfl, .inr (sub_map rfl rfl rfl (valsA_idf _ _)), .inr rfl, .inr rfl, .inr (sub_arr rfl rfl (nats_idf _)), trivial⟩, by decide, fun i hi => absurd hi (Nat.not_lt_zero _)⟩
      · have hokc := hokr c hw
        cases hop : op.getD c false
        · have hno : c ∈ hist ∨ (c : Int) ∉ r := by
            by_cases hm : c ∈ hist
            · exact .inl hm
            · right
              intro hcr
              have h1 : ¬ 0 ≤ out.getD c (-1) := fun h => hm (hmem.2 h)
              have := hopn.2 ⟨hokc.2 hcr, by omega⟩
              rw [hop] at this; cases this
          have hst : fromH (cellsF f (fr.take (j + 1))) (startH N (okR f r)) = (⟨op, out, q⟩, hist) := by rw [hst]; unfold reachH; rw [if_neg (by simp only; rw [hop]; decide)]
          repeat' (first | (first | (refine aw_seq ?_) | (refine aw_block ?_) | (refine aw_skip ?_) | (refine aw_ret ?_) | (refine aw_exit ?_)) | (first | (refine aw_condt rfl ?_) | (refine aw_condf rfl ?_) | (refine aw_cond rfl (fun hb => ?_) (fun hb => ?_) <;> (first | subst hb | ((try simp only [nm] at hb); try ((exfalso; omega); done))))) | (((refine aw_region (id := 5) ?_)); (all_goals (refine vc_v (by exact fs_lss rfl rfl) rfl ?_))) | (((refine aw_region (id := 6) ?_)); (all_goals (refine vc_v (by first | exact fs_indexRowE T rfl rfl rfl rfl rfl (by omega) (ints_len fr) hx | exact fs_indexRowE T rfl rfl rfl rfl rfl (by omega) (ints_len f.k) hkc) rfl ?_)); (all_goals (refine vc_v (by exact fs_load T rfl rfl rfl rfl) rfl ?_)); (all_goals (refine va rfl rfl ?_))) | (((refine aw_region (id := 7) ?_)); (all_goals (refine vm rfl rfl ?_)); (all_goals (refine vc_v (by exact fs_geq rfl rfl) rfl ?_)); (all_goals (refine vm rfl rfl ?_)); (all_goals first | (refine vc_gt rfl rfl ?_ rfl; (refine vm rfl rfl ?_)) | (refine vc_gf rfl rfl ?_ rfl) | (refine vc_gu rfl rfl ?_ rfl) | (refine vc_split rfl rfl (fun hb => ?_) (fun hb => ?_) <;> (first | subst hb | (rw [hb]; (try simp only [nm] at hb); try ((exfalso; omega); done))) <;> first | (refine vc_gt rfl rfl ?_ rfl; (refine vm rfl rfl ?_)) | (refine vc_gf rfl rfl ?_ rfl) | (refine vc_gu rfl rfl ?_ rfl))); (all_goals first | (refine vc_gt rfl rfl ?_ rfl; (refine vc_v (by exact fs_fieldAddr T rfl rfl rfl) rfl ?_)) | (refine vc_gf rfl rfl ?_ rfl) | (refine vc_gu rfl rfl ?_ rfl)); (all_goals first | (refine vc_gt rfl rfl ?_ rfl; (refine vc_v (by exact fs_load T rfl rfl rfl rfl) rfl ?_)) | (refine vc_gf rfl rfl ?_ rfl) | (refine vc_gu rfl rfl ?_ rfl)); (all_goals first | (refine vc_gt rfl rfl ?_ rfl; (refine vc_v (by first | exact fs_lenOwn T rfl rfl | exact fs_lenRow T rfl rfl | exact fs_lenNil T rfl rfl) rfl ?_)) | (refine vc_gf rfl rfl ?_ rfl) | (refine vc_gu rfl rfl ?_ rfl)); (all_goals first | (refine vc_gt rfl rfl ?_ rfl; (refine vc_v (by exact fs_lss rfl rfl) rfl ?_)) | (refine vc_gf rfl rfl ?_ rfl) | (refine vc_gu rfl rfl ?_ rfl)); (all_goals (refine vc_v (by first | exact fs_pickt rfl rfl | exact fs_pickf rfl rfl | exact fs_pick rfl rfl rfl) rfl ?_)); (all_goals (refine vm rfl rfl ?_)); (all_goals first | (refine vc_gt rfl rfl ?_ rfl; (refine vc_v (by exact fs_fieldAddr T rfl rfl rfl) rfl ?_)) | (refine vc_gf rfl rfl ?_ rfl) | (refine vc_gu rfl rfl ?_ rfl) | (refine vc_split rfl rfl (fun hb => ?_) (fun hb => ?_) <;> (first | subst hb | (rw [hb]; (try simp only [nm] at hb); try ((exfalso; omega); done))) <;> first | (refine vc_gt rfl rfl ?_ rfl; (refine vc_v (by exact fs_fieldAddr T rfl rfl rfl) rfl ?_)) | (refine vc_gf rfl rfl ?_ rfl) | (refine vc_gu rfl rfl ?_ rfl))); (all_goals first | (refine vc_gt rfl rfl ?_ rfl; (refine vc_v (by exact fs_load T rfl rfl rfl rfl) rfl ?_)) | (refine vc_gf rfl rfl ?_ rfl) | (refine vc_gu rfl rfl ?_ rfl)); (all_goals first | (refine vc_gt rfl rfl ?_ rfl; (refine vm rfl rfl ?_)) | (refine vc_gf rfl rfl ?_ rfl) | (refine vc_gu rfl rfl ?_ rfl)); (all_goals first | (refine vc_gt rfl rfl ?_ rfl; (refine vc_v (by first | exact fs_indexRowE T rfl rfl rfl rfl rfl (by omega) (ints_len fr) hx | exact fs_indexRowE T rfl rfl rfl rfl rfl (by omega) (ints_len f.k) hkc) rfl ?_)) | (refine vc_gf rfl rfl ?_ rfl) | (refine vc_gu rfl rfl ?_ rfl)); (all_goals first | (refine vc_gt rfl rfl ?_ rfl; (refine vc_v (by exact fs_load T rfl rfl rfl rfl) rfl ?_)) | (refine vc_gf rfl rfl ?_ rfl) | (refine vc_gu rfl rfl ?_ rfl)); (all_goals first | (refine vc_gt rfl rfl ?_ rfl; (refine vc_v (by exact fs_neq rfl rfl) rfl ?_)) | (refine vc_gf rfl rfl ?_ rfl) | (refine vc_gu rfl rfl ?_ rfl)); (all_goals (refine vc_v (by first | exact fs_pickt rfl rfl | exact fs_pickf rfl rfl | exact fs_pick rfl rfl rfl) rfl ?_))) | (((refine aw_region (id := 8) ?_)); (all_goals (refine vm rfl rfl ?_)); (all_goals (refine vm rfl rfl ?_)); (all_goals first | (refine vc_callw [3, 1, 4, 2, 5] rfl rfl (rreach_no (c := c) (n := 0) (out := out) (off := 0) (len := q.length) ha hrl hnd hno (nats_idf q)) rfl rfl (by decide) ⟨.inr rfl, .inr rfl, .inr rfl, .inr (sub_map rfl rfl rfl (valsA_idf _ _)), .inr (sub_arr rfl rfl (nats_idf _)), trivial⟩ (by simp) rfl ?_) | (refine vc_v (by first | fail) rfl ?_) | (refine vc_n (by first | fail) rfl ?_))) | (((refine aw_region (id := 9) ?_)); (all_goals (refine vc_v (by first | exact fs_addr rfl rfl (by omega) (by omega) | exact fs_add rfl rfl) rfl ?_)); (all_goals (refine vm rfl rfl ?_))) | (refine vc_nilp (by (first | (dsimp only [List.nil_append, List.cons_append, List.append_nil, List.length_cons, List.length_nil, List.set_cons_zero, List.set_cons_succ, List.map_cons, List.map_nil, putAt, putd, allObjs, argEnv, un_v, un_ptr, un_ep, un_pr, un_sl, un_mp, un_row, un_agg, un_tup, un_clo, Nat.zero_add, Nat.add_zero, Nat.reduceAdd, Bool.not_true, Bool.not_false]; first | done | exact rfl) | exact rfl)) ?_))
          all_goals first | (exfalso; omega) | skip
          refine ⟨⟨j + 1, hjl⟩, by dsimp only; omega, ?_⟩
          dsimp only
          rw [hst]
          exact ⟨[0, 1, 2, 3, 4, 5], rfl, by (repeat (first | exact trivial | refine ⟨rfl, ?_⟩)), ⟨.inr rfl, .inr rfl, .inr (sub_map rfl rfl (mapL_idf _ _ (valsA_idf _ _)) (valsA_idf _ _)), .inr rfl, .inr rfl, .inr (sub_arr rfl (mapL_idfs _ (nats_idf _)) (nats_idf _)), trivial⟩, by decide, fun i hi => absurd hi (Nat.not_lt_zero _)⟩
        · obtain ⟨hk1, hk2⟩ := hopn.1 hop
          have hni : c ∉ hist := fun h => by have := hmem.1 h; omega
          have hst : fromH (cellsF f (fr.take (j + 1))) (startH N (okR f r)) = (⟨op.set c false, out.set c 0, q ++ [c]⟩, hist ++ [c]) := by rw [hst]; unfold reachH; rw [if_pos hop]
          repeat' (first | (first | (refine aw_seq ?_) | (refine aw_block ?_) | (refine aw_skip ?_) | (refine aw_ret ?_) | (refine aw_exit ?_)) | (first | (refine aw_condt rfl ?_) | (refine aw_condf rfl ?_) | (refine aw_cond rfl (fun hb => ?_) (fun hb => ?_) <;> (first | subst hb | ((try simp only [nm] at hb); try ((exfalso; omega); done))))) | (((refine aw_region (id := 5) ?_)); (all_goals (refine vc_v (by exact fs_lss rfl rfl) rfl ?_))) | (((refine aw_region (id := 6) ?_)); (all_goals (refine vc_v (by first | exact fs_indexRowE T rfl rfl rfl rfl rfl (by omega) (ints_len fr) hx | exact fs_indexRowE T rfl rfl rfl rfl rfl (by omega) (ints_len f.k) hkc) rfl ?_)); (all_goals (refine vc_v (by exact fs_load T rfl rfl rfl rfl) rfl ?_)); (all_goals (refine va rfl rfl ?_))) | (((refine aw_region (id := 7) ?_)); (all_goals (refine vm rfl rfl ?_)); (all_goals (refine vc_v (by exact fs_geq rfl rfl) rfl ?_)); (all_goals (refine vm rfl rfl ?_)); (all_goals first | (refine vc_gt rfl rfl ?_ rfl; (refine vm rfl rfl ?_)) | (refine vc_gf rfl rfl ?_ rfl) | (refine vc_gu rfl rfl ?_ rfl) | (refine vc_split rfl rfl (fun hb => ?_) (fun hb => ?_) <;> (first | subst hb | (rw [hb]; (try simp only [nm] at hb); try ((exfalso; omega); done))) <;> first | (refine vc_gt rfl rfl ?_ rfl; (refine vm rfl rfl ?_)) | (refine vc_gf rfl rfl ?_ rfl) | (refine vc_gu rfl rfl ?_ rfl))); (all_goals first | (refine vc_gt rfl rfl ?_ rfl; (refine vc_v (by exact fs_fieldAddr T rfl rfl rfl) rfl ?_)) | (refine vc_gf rfl rfl ?_ rfl) | (refine vc_gu rfl rfl ?_ rfl)); (all_goals first | (refine vc_gt rfl rfl ?_ rfl; (refine vc_v (by exact fs_load T rfl rfl rfl rfl) rfl ?_)) | (refine vc_gf rfl rfl ?_ rfl) | (refine vc_gu rfl rfl ?_ rfl)); (all_goals first | (refine vc_gt rfl rfl ?_ rfl; (refine vc_v (by first | exact fs_lenOwn T rfl rfl | exact fs_lenRow T rfl rfl | exact fs_lenNil T rfl rfl) rfl ?_)) | (refine vc_gf rfl rfl ?_ rfl) | (refine vc_gu rfl rfl ?_ rfl)); (all_goals first | (refine vc_gt rfl rfl ?_ rfl; (refine vc_v (by exact fs_lss rfl rfl) rfl ?_)) | (refine vc_gf rfl rfl ?_ rfl) | (refine vc_gu rfl rfl ?_ rfl)); (all_goals (refine vc_v (by first | exact fs_pickt rfl rfl | exact fs_pickf rfl rfl | exact fs_pick rfl rfl rfl) rfl ?_)); (all_goals (refine vm rfl rfl ?_)); (all_goals first | (refine vc_gt rfl rfl ?_ rfl; (refine vc_v (by exact fs_fieldAddr T rfl rfl rfl) rfl ?_)) | (refine vc_gf rfl rfl ?_ rfl) | (refine vc_gu rfl rfl ?_ rfl) | (refine vc_split rfl rfl (fun hb => ?_) (fun hb => ?_) <;> (first | subst hb | (rw [hb]; (try simp only [nm] at hb); try ((exfalso; omega); done))) <;> first | (refine vc_gt rfl rfl ?_ rfl; (refine vc_v (by exact fs_fieldAddr T rfl rfl rfl) rfl ?_)) | (refine vc_gf rfl rfl ?_ rfl) | (refine vc_gu rfl rfl ?_ rfl))); (all_goals first | (refine vc_gt rfl rfl ?_ rfl; (refine vc_v (by exact fs_load T rfl rfl rfl rfl) rfl ?_)) | (refine vc_gf rfl rfl ?_ rfl) | (refine vc_gu rfl rfl ?_ rfl)); (all_goals first | (refine vc_gt rfl rfl ?_ rfl; (refine vm rfl rfl ?_)) | (refine vc_gf rfl rfl ?_ rfl) | (refine vc_gu rfl rfl ?_ rfl)); (all_goals first | (refine vc_gt rfl rfl ?_ rfl; (refine vc_v (by first | exact fs_indexRowE T rfl rfl rfl rfl rfl (by omega) (ints_len fr) hx | exact fs_indexRowE T rfl rfl rfl rfl rfl (by omega) (ints_len f.k) hkc) rfl ?_)) | (refine vc_gf rfl rfl ?_ rfl) | (refine vc_gu rfl rfl ?_ rfl)); (all_goals first | (refine vc_gt rfl rfl ?_ rfl; (refine vc_v (by exact fs_load T rfl rfl rfl rfl) rfl ?_)) | (refine vc_gf rfl rfl ?_ rfl) | (refine vc_gu rfl rfl ?_ rfl)); (all_goals first | (refine vc_gt rfl rfl ?_ rfl; (refine vc_v (by exact fs_neq rfl rfl) rfl ?_)) | (refine vc_gf rfl rfl ?_ rfl) | (refine vc_gu rfl rfl ?_ rfl)); (all_goals (refine vc_v (by first | exact fs_pickt rfl rfl | exact fs_pickf rfl rfl | exact fs_pick rfl rfl rfl) rfl ?_))) | (((refine aw_region (id := 8) ?_)); (all_goals (refine vm rfl rfl ?_)); (all_goals (refine vm rfl rfl ?_)); (all_goals first | (refine vc_callw [3, 1, 4, 2, 5] rfl rfl (rreach_yes (pre := []) (q := q) (out := out) (n := 0) (c := c) ha hrl hni (hokc.1 hk1) (by omega) hq) rfl rfl (by decide) ⟨.inr rfl, .inr rfl, .inr rfl, .inr (sub_map rfl rfl rfl (valsA_idf _ _)), .inr (sub_arr rfl rfl (nats_idf _)), trivial⟩ (by simp) rfl ?_) | (refine vc_v (by first | fail) rfl ?_) | (refine vc_n (by first | fail) rfl ?_))) | (((refine aw_region (id := 9) ?_)); (all_goals (refine vc_v (by first | exact fs_addr rfl rfl (by omega) (by omega) | exact fs_add rfl rfl) rfl ?_)); (all_goals (refine vm rfl rfl ?_))) | (refine vc_nilp (by (first | (dsimp only [List.nil_append, List.cons_append, List.append_nil, List.length_cons, List.length_nil, List.set_cons_zero, List.set_cons_succ, List.map_cons, List.map_nil, putAt, putd, allObjs, argEnv, un_v, un_ptr, un_ep, un_pr, un_sl, un_mp, un_row, un_agg, un_tup, un_clo, Nat.zero_add, Nat.add_zero, Nat.reduceAdd, Bool.not_true, Bool.not_false]; first | done | exact rfl) | exact rfl)) ?_))
          all_goals first | (exfalso; omega) | skip
          refine ⟨⟨j + 1, hjl⟩, by dsimp only; omega, ?_⟩
          dsimp only
          rw [hst]
          exact ⟨[0, 1, 2, 3, 4, 6], rfl, by (repeat (first | exact trivial | refine ⟨rfl, ?_⟩)), ⟨.inr rfl, .inr rfl, .inr (sub_map rfl rfl (mapL_idf _ _ (valsA_idf _ _)) (valsA_idf _ _)), .inr rfl, .inr (sub_cells rfl (by simp only [List.length_append, List.length_singleton]; rfl)), .inr (sub_arr rfl (mapL_idfs _ (nats_idf _)) (nats_idf _)), trivial⟩, by decide, fun i hi => absurd hi (Nat.not_lt_zero _)⟩
    · rw [if_neg hr, List.append_nil] at tk
      repeat' (first | (first | (refine aw_seq ?_) | (refine aw_block ?_) | (refine aw_skip ?_) | (refine aw_ret ?_) | (refine aw_exit ?_)) | (first | (refine aw_condt rfl ?_) | (refine aw_condf rfl ?_) | (refine aw_cond rfl (fun hb => ?_) (fun hb => ?_) <;> (first | subst hb | ((try simp only [nm] at hb); try ((exfalso; omega); done))))) | (((refine aw_region (id := 5) ?_)); (all_goals (refine vc_v (by exact fs_lss rfl rfl) rfl ?_))) | (((refine aw_region (id := 6) ?_)); (all_goals (refine vc_v (by exact fs_indexRowE T rfl rfl rfl rfl rfl (by omega) (ints_len fr) hx) rfl ?_)); (all_goals (refine vc_v (by exact fs_load T rfl rfl rfl rfl) rfl ?_)); (all_goals (refine va rfl rfl ?_))) | (((refine aw_region (id := 7) ?_)); (all_goals (refine vm rfl rfl ?_)); (all_goals (refine vc_v (by exact fs_geq rfl rfl) rfl ?_)); (all_goals (refine vm rfl rfl ?_)); (all_goals first | (refine vc_gt rfl rfl ?_ rfl; (refine vm rfl rfl ?_)) | (refine vc_gf rfl rfl ?_ rfl) | (refine vc_gu rfl rfl ?_ rfl) | (refine vc_split rfl rfl (fun hb => ?_) (fun hb => ?_) <;> (first | subst hb | (rw [hb]; (try simp only [nm] at hb); try ((exfalso; omega); done))) <;> first | (refine vc_gt rfl rfl ?_ rfl; (refine vm rfl rfl ?_)) | (refine vc_gf rfl rfl ?_ rfl) | (refine vc_gu rfl rfl ?_ rfl))); (all_goals first | (refine vc_gt rfl rfl ?_ rfl; (refine vc_v (by exact fs_fieldAddr T rfl rfl rfl) rfl ?_)) | (refine vc_gf rfl rfl ?_ rfl) | (refine vc_gu rfl rfl ?_ rfl)); (all_goals first | (refine vc_gt rfl rfl ?_ rfl; (refine vc_v (by exact fs_load T rfl rfl rfl rfl) rfl ?_)) | (refine vc_gf rfl rfl ?_ rfl) | (refine vc_gu rfl rfl ?_ rfl)); (all_goals first | (refine vc_gt rfl rfl ?_ rfl; (refine vc_v (by first | exact fs_lenOwn T rfl rfl | exact fs_lenRow T rfl rfl | exact fs_lenNil T rfl rfl) rfl ?_)) | (refine vc_gf rfl rfl ?_ rfl) | (refine vc_gu rfl rfl ?_ rfl)); (all_goals first | (refine vc_gt rfl rfl ?_ rfl; (refine vc_v (by exact fs_lss rfl rfl) rfl ?_)) | (refine vc_gf rfl rfl ?_ rfl) | (refine vc_gu rfl rfl ?_ rfl)); (all_goals (refine vc_v (by first | exact fs_pickt rfl rfl | exact fs_pickf rfl rfl | exact fs_pick rfl rfl rfl) rfl ?_)); (all_goals (refine vm rfl rfl ?_)); (all_goals first | (refine vc_gt rfl rfl ?_ rfl; (refine vc_v (by exact fs_fieldAddr T rfl rfl rfl) rfl ?_)) | (refine vc_gf rfl rfl ?_ rfl) | (refine vc_gu rfl rfl ?_ rfl) | (refine vc_split rfl rfl (fun hb => ?_) (fun hb => ?_) <;> (first | subst hb | (rw [hb]; (try simp only [nm] at hb); try ((exfalso; omega); done))) <;> first | (refine vc_gt rfl rfl ?_ rfl; (refine vc_v (by exact fs_fieldAddr T rfl rfl rfl) rfl ?_)) | (refine vc_gf rfl rfl ?_ rfl) | (refine vc_gu rfl rfl ?_ rfl))); (all_goals first | (refine vc_gt rfl rfl ?_ rfl; (refine vc_v (by exact fs_load T rfl rfl rfl rfl) rfl ?_)) | (refine vc_gf rfl rfl ?_ rfl) | (refine vc_gu rfl rfl ?_ rfl)); (all_goals first | (refine vc_gt rfl rfl ?_ rfl; (refine vm rfl rfl ?_)) | (refine vc_gf rfl rfl ?_ rfl) | (refine vc_gu rfl rfl ?_ rfl)); (all_goals first | (refine vc_gt rfl rfl ?_ rfl; (refine vc_v (by exact fs_indexRowE T rfl rfl rfl rfl rfl (by omega) (ints_len fr) hx) rfl ?_)) | (refine vc_gf rfl rfl ?_ rfl) | (refine vc_gu rfl rfl ?_ rfl)); (all_goals first | (refine vc_gt rfl rfl ?_ rfl; (refine vc_v (by exact fs_load T rfl rfl rfl rfl) rfl ?_)) | (refine vc_gf rfl rfl ?_ rfl) | (refine vc_gu rfl rfl ?_ rfl)); (all_goals first | (refine vc_gt rfl rfl ?_ rfl; (refine vc_v (by exact fs_neq rfl rfl) rfl ?_)) | (refine vc_gf rfl rfl ?_ rfl) | (refine vc_gu rfl rfl ?_ rfl)); (all_goals (refine vc_v (by first | exact fs_pickt rfl rfl | exact fs_pickf rfl rfl | exact fs_pick rfl rfl rfl) rfl ?_))) | (((refine aw_region (id := 9) ?_)); (all_goals (refine vc_v (by first | exact fs_addr rfl rfl (by omega) (by omega) | exact fs_add rfl rfl) rfl ?_)); (all_goals (refine vm rfl rfl ?_))) | (refine vc_nilp (by (first | (dsimp only [List.nil_append, List.cons_append, List.append_nil, List.length_cons, List.length_nil, List.set_cons_zero, List.set_cons_succ, List.map_cons, List.map_nil, putAt, putd, allObjs, argEnv, un_v, un_ptr, un_ep, un_pr, un_sl, un_mp, un_row, un_agg, un_tup, un_clo, Nat.zero_add, Nat.add_zero, Nat.reduceAdd, Bool.not_true, Bool.not_false]; first | done | exact rfl) | exact rfl)) ?_))
      all_goals first | (exfalso; omega) | skip
      all_goals
        refine ⟨⟨j + 1, hjl⟩, by dsimp only; omega, ?_⟩
        simp only [tk]
        exact ⟨[0, 1, 2, 3, 4, 5], rfl, by (repeat (first | exact trivial | refine ⟨rfl, ?_⟩)), ⟨.inr rfl, .inr rfl, .inr (sub_map rfl rfl rfl (valsA_idf _ _)), .inr rfl, .inr rfl, .inr (sub_arr rfl rfl (nats_idf _)), trivial⟩, by decide, fun i hi => absurd hi (Nat.not_lt_zero _)⟩
  rw [List.take_of_length_le (by omega)]
  repeat' (first | (first | (refine aw_seq ?_) | (refine aw_block ?_) | (refine aw_skip ?_) | (refine aw_ret ?_) | (refine aw_exit ?_)) | (first | (refine aw_condt rfl ?_) | (refine aw_condf rfl ?_) | (refine aw_cond rfl (fun hb => ?_) (fun hb => ?_) <;> (first | subst hb | ((try simp only [nm] at hb); try ((exfalso; omega); done))))) | (((refine aw_region (id := 5) ?_)); (all_goals (refine vc_v (by exact fs_lss rfl rfl) rfl ?_))) | (refine vc_nilp (by (first | (dsimp only [List.nil_append, List.cons_append, List.append_nil, List.length_cons, List.length_nil, List.set_cons_zero, List.set_cons_succ, List.map_cons, List.map_nil, putAt, putd, allObjs, argEnv, un_v, un_ptr, un_ep, un_pr, un_sl, un_mp, un_row, un_agg, un_tup, un_clo, Nat.zero_add, Nat.add_zero, Nat.reduceAdd, Bool.not_true, Bool.not_false]; first | done | exact rfl) | exact rfl)) ?_))
  clear hroom
  -- the search
  obtain ⟨g1, g2, g3⟩ := start_srch (N := N) (mv := mv) (ok := okR f r) (cellsF f fr) (cells_lt hk)
  have hi0 := fromH_inv (N := N) (mv := mv) (ok := okR f r) _ (cellsF f fr) rfl (cells_lt hk)
  have e0 : (fromH (cellsF f fr) (startH N (okR f r))).1 = fromM (cellsF f fr) (startS N (okR f r)) := fromH_1 _ _
  rw [← e0] at g1 g2 g3
  have hF0 : bfsH mv N (fromH (cellsF f fr) (startH N (okR f r))) = F := hF
  generalize fromH (cellsF f fr) (startH N (okR f r)) = x0 at *
  refine aw_loop (X := {x : SH × List Nat × Nat // Srch N mv (okR f r) (· ∈ cellsF f fr) x.1.1 ∧ HInv N x.1 ∧ roomS x.1.1 ≤ x.2.2 ∧ x.2.2 ≤ N ∧ bfsH mv x.2.2 x.1 = F ∧ ∀ k, k < N → x.1.1.out.getD k (-1) + x.2.2 ≤ N})
    (fun _ => [(3, .clo (.func mvF) [] []), (4, .ptr 0 0), (9, .ptr 3 0), (10, .ptr 4 0), (11, .clo (.func 58) [] [.ptr 3 0, .ptr 1 0, .ptr 4 0])])
    (fun x => rsH f r x.1.1 x.1.2.1) (fun x => x.1.2.2) ⟨(x0, [], N), g1, hi0, g2, Nat.le_refl _, hF0, fun k hk => by have := g3 k hk; dsimp only; omega⟩ ?_ ?_
  · exact ⟨[0, 1, 2, 3, 4, 5], rfl, by (repeat (first | exact trivial | refine ⟨rfl, ?_⟩)), ⟨.inr rfl, .inr rfl, .inr (sub_map rfl rfl rfl (valsA_idf _ _)), .inr rfl, .inr rfl, .inr (sub_arr rfl rfl (nats_idf _)), trivial⟩, by decide, fun i hi => absurd hi (Nat.not_lt_zero _)⟩
  rintro ⟨⟨⟨⟨op, out, q⟩, hist⟩, pre, fuel⟩, h1, hh1, h2, h3, h4, h5⟩
  simp only at h1 h2 h3 h4 h5
  dsimp only
  have lu : out.length = N := h1.inv.lu
  cases q with
  | nil =>
    have e : F = (⟨op, out, []⟩, hist) := by rw [← h4]; cases fuel <;> rfl
    rw [e]
    repeat' (first | (first | (refine aw_seq ?_) | (refine aw_block ?_) | (refine aw_skip ?_) | (refine aw_ret ?_) | (refine aw_exit ?_)) | (first | (refine aw_condt rfl ?_) | (refine aw_condf rfl ?_) | (refine aw_cond rfl (fun hb => ?_) (fun hb => ?_) <;> (first | subst hb | ((try simp only [nm] at hb); try ((exfalso; omega); done))))) | (((refine aw_region (id := 10) ?_)); (all_goals (refine vc_v (by exact fs_load T rfl rfl rfl rfl) rfl ?_)); (all_goals (refine vc_v (by first | exact fs_lenOwn T rfl rfl | exact fs_lenRow T rfl rfl | exact fs_lenNil T rfl rfl) rfl ?_)); (all_goals (refine vc_v (by exact fs_gtr rfl rfl) rfl ?_))) | (((refine aw_region (id := 20) ?_)); (all_goals (refine vc_v (by exact fs_load T rfl rfl rfl rfl) rfl ?_)); (all_goals (refine va rfl rfl ?_))) | (refine vc_nilp (by (first | (dsimp only [List.nil_append, List.cons_append, List.append_nil, List.length_cons, List.length_nil, List.set_cons_zero, List.set_cons_succ, List.map_cons, List.map_nil, putAt, putd, allObjs, argEnv, un_v, un_ptr, un_ep, un_pr, un_sl, un_mp, un_row, un_agg, un_tup, un_clo, Nat.zero_add, Nat.add_zero, Nat.reduceAdd, Bool.not_true, Bool.not_false]; first | done | exact rfl) | exact rfl)) ?_))
    all_goals first | (exfalso; omega) | exact ⟨.inl rfl, [2], _, rfl, rfl, rfl, ⟨.inr (sub_map rfl rfl rfl (valsA_idf _ _)), trivial⟩, by decide, fun i hi => absurd hi (Nat.not_lt_zero _)⟩
  | cons c r' =>
    have hcr : (c :: r').length = r'.length + 1 := rfl
    have hrm : roomS ⟨op, out, c :: r'⟩ = roomS ⟨op, out, r'⟩ + 1 := by unfold roomS; simp; omega
    obtain ⟨k, rfl⟩ : ∃ k, fuel = k + 1 := ⟨fuel - 1, by omega⟩
    have m0 := h1.pop rfl
    have hc := m0.hc
    have e1 : (nats (pre ++ c :: r'))[pre.length + (0 : Int).toNat]? = some [AV.i (c : Int)] := by simp
    repeat' (first | (first | (refine aw_seq ?_) | (refine aw_block ?_) | (refine aw_skip ?_) | (refine aw_ret ?_) | (refine aw_exit ?_)) | (first | (refine aw_condt rfl ?_) | (refine aw_condf rfl ?_) | (refine aw_cond rfl (fun hb => ?_) (fun hb => ?_) <;> (first | subst hb | ((try simp only [nm] at hb); try ((exfalso; omega); done))))) | (((refine aw_region (id := 10) ?_)); (all_goals (refine vc_v (by first | exact fs_load T rfl rfl rfl rfl | exact fs_load T rfl rfl (behind_ep rfl e1) rfl) rfl ?_)); (all_goals (refine vc_v (by first | exact fs_lenOwn T rfl rfl | exact fs_lenRow T rfl rfl | exact fs_lenNil T rfl rfl) rfl ?_)); (all_goals (refine vc_v (by exact fs_gtr rfl rfl) rfl ?_))) | (((refine aw_region (id := 11) ?_)); (all_goals (refine vc_v (by first | exact fs_load T rfl rfl rfl rfl | exact fs_load T rfl rfl (behind_ep rfl e1) rfl) rfl ?_)); (all_goals (refine vc_v (by exact fs_indexOwn T rfl rfl rfl rfl rfl (by omega) (by omega)) rfl ?_)); (all_goals (refine vc_v (by first | exact fs_load T rfl rfl rfl rfl | exact fs_load T rfl rfl (behind_ep rfl e1) rfl) rfl ?_)); (all_goals (refine va rfl rfl ?_))) | (((refine aw_region (id := 12) ?_)); (all_goals (refine vc_v (by first | exact fs_load T rfl rfl rfl rfl | exact fs_load T rfl rfl (behind_ep rfl e1) rfl) rfl ?_)); (all_goals (refine vc_v (by exact fs_sliceOwn T rfl rfl rfl rfl rfl rfl (by omega) (by dsimp only; omega) (by omega)) rfl ?_)); (all_goals (refine vc_store T rfl rfl rfl rfl rfl rfl (by decide) rfl ?_))) | (((refine aw_region (id := 13) ?_)); (all_goals (refine vm rfl rfl ?_))) | (refine vc_nilp (by (first | (dsimp only [List.nil_append, List.cons_append, List.append_nil, List.length_cons, List.length_nil, List.set_cons_zero, List.set_cons_succ, List.map_cons, List.map_nil, putAt, putd, allObjs, argEnv, un_v, un_ptr, un_ep, un_pr, un_sl, un_mp, un_row, un_agg, un_tup, un_clo, Nat.zero_add, Nat.add_zero, Nat.reduceAdd, Bool.not_true, Bool.not_false]; first | done | exact rfl) | exact rfl)) ?_))
    all_goals first | (exfalso; omega) | skip
    refine aw_loop (X := {x : SH × List Nat × Nat // Mid N mv (okR f r) (· ∈ cellsF f fr) c x.2.2 x.1.1 ∧ HInv N x.1 ∧ x.2.2 ≤ 6 ∧ (List.range' x.2.2 (6 - x.2.2)).foldl (tryH mv c) x.1 = expandH mv c (⟨op, out, r'⟩, hist) ∧ roomS x.1.1 ≤ k ∧ (∀ y, y < N → x.1.1.out.getD y (-1) ≤ N - k) ∧ x.1.1.out.getD c (-1) + 1 ≤ N - k})
      (fun x => [(3, .clo (.func mvF) [] []), (4, .ptr 0 0), (9, .ptr 3 0), (10, .ptr 4 0), (11, .clo (.func 58) [] [.ptr 3 0, .ptr 1 0, .ptr 4 0]), (14, .i (c : Int)), (55, .i x.1.2.2)])
      (fun x => rsH f r x.1.1 x.1.2.1) (fun x => 6 - x.1.2.2) ⟨((⟨op, out, r'⟩, hist), pre ++ [c], 0), m0, ⟨hh1.nd, hh1.lt, hh1.mem⟩, Nat.zero_le _, by unfold expandH; rw [List.range_eq_range'] <;> rfl, by dsimp only; omega, fun y hy => by have := h5 y hy; dsimp only; omega, by have := h5 c hc; dsimp only; omega⟩ ?_ ?_
    · exact ⟨[0, 1, 2, 3, 4, 5], rfl, by (repeat (first | exact trivial | refine ⟨rfl, ?_⟩)), ⟨.inr rfl, .inr rfl, .inr (sub_map rfl rfl rfl (valsA_idf _ _)), .inr rfl, .inr (sub_cells rfl (by simp [AV.mapL, AV.map, th])), .inr (sub_arr rfl (by simp) (nats_idf _)), trivial⟩, by decide, fun i hi => absurd hi (Nat.not_lt_zero _)⟩
    rintro ⟨⟨⟨⟨op', out', q'⟩, hist'⟩, pre', d⟩, m1, hm1, m2, m3, m4, m5, m6⟩
    simp only at m1 m2 m3 m4 m5 m6
    dsimp only
    have lu' : out'.length = N := m1.inv.lu
    have m0' : 0 ≤ out'.getD c (-1) := m1.h0
    have hq : q'.length ≤ 300 := by unfold roomS at m4; simp only at m4; omega
    have hnd' := hm1.nd
    by_cases hd : d < 6
    · have hcm := hcall c d hc hd
      obtain ⟨ic, hic, hiv⟩ := keys_at (out := out') ((hm1.mem c hc).2 m0')
      have n1 := m1.next hmv hd
      obtain ⟨n2, n3⟩ := m1.bound hmv m5 m6
      have n4 : (List.range' (d + 1) (6 - (d + 1))).foldl (tryH mv c) (tryH mv c (⟨op', out', q'⟩, hist') d) = expandH mv c (⟨op, out, r'⟩, hist) := by
        rw [← m3, show 6 - d = (6 - (d + 1)) + 1 by omega, List.range'_succ, List.foldl_cons]
      have n5 : roomS (tryM mv c ⟨op', out', q'⟩ d) ≤ k := by rw [room_try]; exact m4
      have n6 : (tryM mv c ⟨op', out', q'⟩ d).out.getD c (-1) + 1 ≤ N - k := by rw [n3]; exact m6
      have nh : HInv N (tryH mv c (⟨op', out', q'⟩, hist') d) := by
        unfold tryH
        cases hm : mv c d with
        | none => exact hm1
        | some n =>
          have hn := hmv c d n hc hm
          exact hm1.reach hn lu' (by dsimp only; omega) (fun ho => ((m1.inv.opn n hn).1 ho).2)
      have nx : ∀ s', tryH mv c (⟨op', out', q'⟩, hist') d = s' → Mid N mv (okR f r) (· ∈ cellsF f fr) c (d + 1) s'.1 ∧ HInv N s' ∧ d + 1 ≤ 6 ∧ (List.range' (d + 1) (6 - (d + 1))).foldl (tryH mv c) s' = expandH mv c (⟨op, out, r'⟩, hist) ∧ roomS s'.1 ≤ k ∧ (∀ y, y < N → s'.1.out.getD y (-1) ≤ N - k) ∧ s'.1.out.getD c (-1) + 1 ≤ N - k := by
        rintro s' rfl
        have e : (tryH mv c (⟨op', out', q'⟩, hist') d).1 = tryM mv c ⟨op', out', q'⟩ d := tryH_1
        rw [e]
        exact ⟨n1, nh, hd, n4, n5, n2, n6⟩
      clear nh n1 n2 n3 n4 n5 n6
      unfold tryH at nx
      cases hm : mv c d with
      | none =>
        rw [hm] at hcm nx
        repeat' (first | (first | (refine aw_seq ?_) | (refine aw_block ?_) | (refine aw_skip ?_) | (refine aw_ret ?_) | (refine aw_exit ?_)) | (first | (refine aw_condt rfl ?_) | (refine aw_condf rfl ?_) | (refine aw_cond rfl (fun hb => ?_) (fun hb => ?_) <;> (first | subst hb | ((try simp only [nm] at hb); try ((exfalso; omega); done))))) | (((refine aw_region (id := 14) ?_)); (all_goals (refine vc_v (by exact fs_lss rfl rfl) rfl ?_))) | (((refine aw_region (id := 15) ?_)); (all_goals (refine vm rfl rfl ?_)); (all_goals (refine va rfl rfl ?_))) | (((refine aw_region (id := 16) ?_)); (all_goals (refine vm rfl rfl ?_)); (all_goals (refine vc_v (by exact fs_load T rfl rfl rfl rfl) rfl ?_)); (all_goals (refine vm rfl rfl ?_)); (all_goals (refine vm rfl rfl ?_)); (all_goals (refine vc_v (by exact fs_call0 rfl rfl (hcm) rfl rfl rfl) rfl ?_)); (all_goals (refine vm rfl rfl ?_)); (all_goals (refine vc_v (by exact fs_extract rfl rfl) rfl ?_)); (all_goals (refine vc_v (by exact fs_extract rfl rfl) rfl ?_)); (all_goals (refine va rfl rfl ?_)); (all_goals (refine va rfl rfl ?_))) | (((refine aw_region (id := 17) ?_)); (all_goals (refine vm rfl rfl ?_))) | (((refine aw_region (id := 19) ?_)); (all_goals (refine vc_v (by first | exact fs_addr rfl rfl (by omega) (by omega) | exact fs_add rfl rfl) rfl ?_)); (all_goals (refine vm rfl rfl ?_))) | (refine vc_nilp (by (first | (dsimp only [List.nil_append, List.cons_append, List.append_nil, List.length_cons, List.length_nil, List.set_cons_zero, List.set_cons_succ, List.map_cons, List.map_nil, putAt, putd, allObjs, argEnv, un_v, un_ptr, un_ep, un_pr, un_sl, un_mp, un_row, un_agg, un_tup, un_clo, Nat.zero_add, Nat.add_zero, Nat.reduceAdd, Bool.not_true, Bool.not_false]; first | done | exact rfl) | exact rfl)) ?_))
        exact ⟨⟨((⟨op', out', q'⟩, hist'), pre', d + 1), nx _ rfl⟩, by dsimp only; omega, ⟨[0, 1, 2, 3, 4, 5], rfl, by (repeat (first | exact trivial | refine ⟨rfl, ?_⟩)), ⟨.inr rfl, .inr rfl, .inr (sub_map rfl rfl rfl (valsA_idf _ _)), .inr rfl, .inr rfl, .inr (sub_arr rfl rfl (nats_idf _)), trivial⟩, by decide, fun i hi => absurd hi (Nat.not_lt_zero _)⟩⟩
      | some n =>
        have hn := hmv c d n hc hm
        have hokn := hokr n (hwall c d n hm)
        have hopn := m1.inv.opn n hn
        have hmemn := hm1.mem n hn
        simp only at hopn hmemn
        rw [hm] at hcm nx
        simp only at nx
        unfold reachH at nx
        cases hop : op'.getD n false
        · rw [if_neg (by simp only; rw [hop]; decide)] at nx
          have hno : n ∈ hist' ∨ (n : Int) ∉ r := by
            by_cases hmm : n ∈ hist'
            · exact .inl hmm
            · right
              intro hcr
              have h1 : ¬ 0 ≤ out'.getD n (-1) := fun h => hmm (hmemn.2 h)
              have := hopn.2 ⟨hokn.2 hcr, by omega⟩
              rw [hop] at this; cases this
          repeat' (first | (first | (refine aw_seq ?_) | (refine aw_block ?_) | (refine aw_skip ?_) | (refine aw_ret ?_) | (refine aw_exit ?_)) | (first | (refine aw_condt rfl ?_) | (refine aw_condf rfl ?_) | (refine aw_cond rfl (fun hb => ?_) (fun hb => ?_) <;> (first | subst hb | ((try simp only [nm] at hb); try ((exfalso; omega); done))))) | (((refine aw_region (id := 14) ?_)); (all_goals (refine vc_v (by exact fs_lss rfl rfl) rfl ?_))) | (((refine aw_region (id := 15) ?_)); (all_goals (refine vm rfl rfl ?_)); (all_goals (refine va rfl rfl ?_))) | (((refine aw_region (id := 16) ?_)); (all_goals (refine vm rfl rfl ?_)); (all_goals (refine vc_v (by exact fs_load T rfl rfl rfl rfl) rfl ?_)); (all_goals (refine vm rfl rfl ?_)); (all_goals (refine vm rfl rfl ?_)); (all_goals first | (refine vc_callw [3, 1, 4, 2, 5] rfl rfl (rreach_no (c := n) (n := out'.getD c (-1) + 1) (out := out') (off := pre'.length) (len := q'.length) ha hrl hnd' hno (nats_idf (pre' ++ q'))) rfl rfl (by decide) ⟨.inr rfl, .inr rfl, .inr rfl, .inr (sub_map rfl rfl rfl (valsA_idf _ _)), .inr (sub_arr rfl rfl (nats_idf _)), trivial⟩ (by simp) rfl ?_) | (refine vc_v (by exact fs_call0 rfl rfl (hcm) rfl rfl rfl) rfl ?_)); (all_goals (refine vm rfl rfl ?_)); (all_goals (refine vc_v (by exact fs_extract rfl rfl) rfl ?_)); (all_goals (refine vc_v (by exact fs_extract rfl rfl) rfl ?_)); (all_goals (refine va rfl rfl ?_)); (all_goals (refine va rfl rfl ?_))) | (((refine aw_region (id := 17) ?_)); (all_goals (refine vm rfl rfl ?_))) | (((refine aw_region (id := 18) ?_)); (all_goals (refine vm rfl rfl ?_)); (all_goals (refine vm rfl rfl ?_)); (all_goals (refine vc_v (by exact fs_load T rfl rfl rfl rfl) rfl ?_)); (all_goals (refine vm rfl rfl ?_)); (all_goals (refine vc_v (by exact fs_mapGet1 mapT intKey rfl rfl (isv_i _) rfl (keys_good _) (good_i _) (keys_nd hnd') hic hiv) rfl ?_)); (all_goals (refine vc_v (by first | exact fs_addr rfl rfl (by omega) (by omega) | exact fs_add rfl rfl) rfl ?_)); (all_goals first | (refine vc_callw [3, 1, 4, 2, 5] rfl rfl (rreach_no (c := n) (n := out'.getD c (-1) + 1) (out := out') (off := pre'.length) (len := q'.length) ha hrl hnd' hno (nats_idf (pre' ++ q'))) rfl rfl (by decide) ⟨.inr rfl, .inr rfl, .inr rfl, .inr (sub_map rfl rfl rfl (valsA_idf _ _)), .inr (sub_arr rfl rfl (nats_idf _)), trivial⟩ (by simp) rfl ?_) | (refine vc_v (by exact fs_call0 rfl rfl (hcm) rfl rfl rfl) rfl ?_))) | (((refine aw_region (id := 19) ?_)); (all_goals (refine vc_v (by first | exact fs_addr rfl rfl (by omega) (by omega) | exact fs_add rfl rfl) rfl ?_)); (all_goals (refine vm rfl rfl ?_))) | (refine vc_nilp (by (first | (dsimp only [List.nil_append, List.cons_append, List.append_nil, List.length_cons, List.length_nil, List.set_cons_zero, List.set_cons_succ, List.map_cons, List.map_nil, putAt, putd, allObjs, argEnv, un_v, un_ptr, un_ep, un_pr, un_sl, un_mp, un_row, un_agg, un_tup, un_clo, Nat.zero_add, Nat.add_zero, Nat.reduceAdd, Bool.not_true, Bool.not_false]; first | done | exact rfl) | exact rfl)) ?_))
          exact ⟨⟨((⟨op', out', q'⟩, hist'), pre', d + 1), nx _ rfl⟩, by dsimp only; omega, ⟨[0, 1, 2, 3, 4, 5], rfl, by (repeat (first | exact trivial | refine ⟨rfl, ?_⟩)), ⟨.inr rfl, .inr rfl, .inr (sub_map rfl rfl (mapL_idf _ _ (valsA_idf _ _)) (valsA_idf _ _)), .inr rfl, .inr rfl, .inr (sub_arr rfl (mapL_idfs _ (nats_idf _)) (nats_idf _)), trivial⟩, by decide, fun i hi => absurd hi (Nat.not_lt_zero _)⟩⟩
        · rw [if_pos hop] at nx
          obtain ⟨hk1, hk2⟩ := hopn.1 hop
          have hni : n ∉ hist' := fun h => by have := hmemn.1 h; omega
          have hyes := rreach_yes (pre := pre') (q := q') (out := out') (n := out'.getD c (-1) + 1) (c := n) ha hrl hni (hokn.1 hk1) (by omega) hq
          repeat' (first | (first | (refine aw_seq ?_) | (refine aw_block ?_) | (refine aw_skip ?_) | (refine aw_ret ?_) | (refine aw_exit ?_)) | (first | (refine aw_condt rfl ?_) | (refine aw_condf rfl ?_) | (refine aw_cond rfl (fun hb => ?_) (fun hb => ?_) <;> (first | subst hb | ((try simp only [nm] at hb); try ((exfalso; omega); done))))) | (((refine aw_region (id := 14) ?_)); (all_goals (refine vc_v (by exact fs_lss rfl rfl) rfl ?_))) | (((refine aw_region (id := 15) ?_)); (all_goals (refine vm rfl rfl ?_)); (all_goals (refine va rfl rfl ?_))) | (((refine aw_region (id := 16) ?_)); (all_goals (refine vm rfl rfl ?_)); (all_goals (refine vc_v (by exact fs_load T rfl rfl rfl rfl) rfl ?_)); (all_goals (refine vm rfl rfl ?_)); (all_goals (refine vm rfl rfl ?_)); (all_goals first | (refine vc_callw [3, 1, 4, 2, 5] rfl rfl hyes rfl rfl (by decide) ⟨.inr rfl, .inr rfl, .inr rfl, .inr (sub_map rfl rfl rfl (valsA_idf _ _)), .inr (sub_arr rfl rfl (nats_idf _)), trivial⟩ (by simp) rfl ?_) | (refine vc_v (by exact fs_call0 rfl rfl (hcm) rfl rfl rfl) rfl ?_)); (all_goals (refine vm rfl rfl ?_)); (all_goals (refine vc_v (by exact fs_extract rfl rfl) rfl ?_)); (all_goals (refine vc_v (by exact fs_extract rfl rfl) rfl ?_)); (all_goals (refine va rfl rfl ?_)); (all_goals (refine va rfl rfl ?_))) | (((refine aw_region (id := 17) ?_)); (all_goals (refine vm rfl rfl ?_))) | (((refine aw_region (id := 18) ?_)); (all_goals (refine vm rfl rfl ?_)); (all_goals (refine vm rfl rfl ?_)); (all_goals (refine vc_v (by exact fs_load T rfl rfl rfl rfl) rfl ?_)); (all_goals (refine vm rfl rfl ?_)); (all_goals (refine vc_v (by exact fs_mapGet1 mapT intKey rfl rfl (isv_i _) rfl (keys_good _) (good_i _) (keys_nd hnd') hic hiv) rfl ?_)); (all_goals (refine vc_v (by first | exact fs_addr rfl rfl (by omega) (by omega) | exact fs_add rfl rfl) rfl ?_)); (all_goals first | (refine vc_callw [3, 1, 4, 2, 5] rfl rfl hyes rfl rfl (by decide) ⟨.inr rfl, .inr rfl, .inr rfl, .inr (sub_map rfl rfl rfl (valsA_idf _ _)), .inr (sub_arr rfl rfl (nats_idf _)), trivial⟩ (by simp) rfl ?_) | (refine vc_v (by exact fs_call0 rfl rfl (hcm) rfl rfl rfl) rfl ?_))) | (((refine aw_region (id := 19) ?_)); (all_goals (refine vc_v (by first | exact fs_addr rfl rfl (by omega) (by omega) | exact fs_add rfl rfl) rfl ?_)); (all_goals (refine vm rfl rfl ?_))) | (refine vc_nilp (by (first | (dsimp only [List.nil_append, List.cons_append, List.append_nil, List.length_cons, List.length_nil, List.set_cons_zero, List.set_cons_succ, List.map_cons, List.map_nil, putAt, putd, allObjs, argEnv, un_v, un_ptr, un_ep, un_pr, un_sl, un_mp, un_row, un_agg, un_tup, un_clo, Nat.zero_add, Nat.add_zero, Nat.reduceAdd, Bool.not_true, Bool.not_false]; first | done | exact rfl) | exact rfl)) ?_))
          exact ⟨⟨((⟨op'.set n false, out'.set n (out'.getD c (-1) + 1), q' ++ [n]⟩, hist' ++ [n]), [], d + 1), nx _ rfl⟩, by dsimp only; omega, ⟨[0, 1, 2, 3, 4, 6], rfl, by (repeat (first | exact trivial | refine ⟨rfl, ?_⟩)), ⟨.inr rfl, .inr rfl, .inr (sub_map rfl rfl (mapL_idf _ _ (valsA_idf _ _)) (valsA_idf _ _)), .inr rfl, .inr (sub_cells rfl (by simp only [List.length_append, List.length_singleton]; rfl)), .inr (sub_arr rfl (mapL_idfs _ (nats_idf _)) (nats_idf _)), trivial⟩, by decide, fun i hi => absurd hi (Nat.not_lt_zero _)⟩⟩
    · obtain rfl : d = 6 := by omega
      have m3 : ((⟨op', out', q'⟩, hist') : SH) = expandH mv c (⟨op, out, r'⟩, hist) := m3
      have h4 : bfsH mv k (expandH mv c (⟨op, out, r'⟩, hist)) = F := h4
      repeat' (first | (first | (refine aw_seq ?_) | (refine aw_block ?_) | (refine aw_skip ?_) | (refine aw_ret ?_) | (refine aw_exit ?_)) | (first | (refine aw_condt rfl ?_) | (refine aw_condf rfl ?_) | (refine aw_cond rfl (fun hb => ?_) (fun hb => ?_) <;> (first | subst hb | ((try simp only [nm] at hb); try ((exfalso; omega); done))))) | (((refine aw_region (id := 14) ?_)); (all_goals (refine vc_v (by exact fs_lss rfl rfl) rfl ?_))) | (refine vc_nilp (by (first | (dsimp only [List.nil_append, List.cons_append, List.append_nil, List.length_cons, List.length_nil, List.set_cons_zero, List.set_cons_succ, List.map_cons, List.map_nil, putAt, putd, allObjs, argEnv, un_v, un_ptr, un_ep, un_pr, un_sl, un_mp, un_row, un_agg, un_tup, un_clo, Nat.zero_add, Nat.add_zero, Nat.reduceAdd, Bool.not_true, Bool.not_false]; first | done | exact rfl) | exact rfl)) ?_))
      exact ⟨⟨((⟨op', out', q'⟩, hist'), pre', k), m1.end, hm1, m4, by dsimp only; omega, by dsimp only; rw [m3]; exact h4, fun y hy => by have := m5 y hy; dsimp only; omega⟩, by dsimp only; omega, ⟨[0, 1, 2, 3, 4, 5], rfl, by (repeat (first | exact trivial | refine ⟨rfl, ?_⟩)), ⟨.inr rfl, .inr rfl, .inr (sub_map rfl rfl rfl (valsA_idf _ _)), .inr rfl, .inr rfl, .inr (sub_arr rfl rfl (nats_idf _)), trivial⟩, by decide, fun i hi => absurd hi (Nat.not_lt_zero _)⟩⟩
end
end Go.Proofs.Ytlpffgndackglaa
