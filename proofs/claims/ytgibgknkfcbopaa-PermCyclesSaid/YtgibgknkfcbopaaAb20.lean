/-
  A logic of values for the walk, twentieth part: shifts, masks, elements of arrays that are values, nil slices inside variables, slices inside a structure that nobody writes any more.
-/
import Derived.Test.YtgibgknkfcbopaaAb19
namespace Go.Ab
open Go
set_option linter.unusedVariables false
set_option linter.unusedSimpArgs false

section
variable {P : Program} {env : Env} {h : Hp}
variable {d : Option Nat} {ty : TypeId} {pos : String} {af : Array Edge} {g : Option (Nat × Bool)}
theorem fs_shrF {t t2 : TypeId} {x y : Operand} {k k' : IntKind} {a b : Int} (hx : evu env x = some (.v (.int k a))) (hy : evu env y = some (.v (.int k' b))) (h0 : 0 ≤ b) (h1 : b.toNat ≤ k.bits) :
    FStep P ⟨d, .binOp .shr t x y t2, ty, pos, af, g⟩ env h 0 (fun _ => .v (.int k (a / 2 ^ b.toNat))) (fun _ => []) := by
  refine fs_val fun ρ S ac w p => ?_
  have h1' := R_v (p.evu hx)
  have h2 := R_v (p.evu hy)
  refine ⟨.int k (a / 2 ^ b.toNat), ?_, R_v_mk _⟩
  have hg : (eqGuard .shr t x y (.int k a) (.int k' b)).run P w = .ok () w := rfl
  have e : a.fdiv (2 ^ b.toNat) = a / 2 ^ b.toNat := Int.fdiv_eq_ediv_of_nonneg _ (by exact Int.le_of_lt (Int.pow_pos (by omega)))
  simp [execOp, h1', h2, hg, binOp, Op.shift, Int.not_lt.2 h0, Nat.min_eq_left h1, e]
theorem fs_and1 {t t2 : TypeId} {x y : Operand} {a : Int} (hx : evu env x = some (.i a)) (hy : evu env y = some (.i 1)) (h0 : 0 ≤ a) (h1 : a < 9223372036854775808) :
    FStep P ⟨d, .binOp .and t x y t2, ty, pos, af, g⟩ env h 0 (fun _ => .i (a % 2)) (fun _ => []) := by
  refine fs_bin hx hy fun w => ?_
  obtain ⟨n, rfl⟩ := Int.eq_ofNat_of_zero_le h0
  have hn : n < 18446744073709551616 := by omega
  have e : (BitVec.ofInt 64 (n : Int) &&& BitVec.ofInt 64 1).toNat = n % 2 := by
    rw [BitVec.toNat_and, BitVec.toNat_ofInt, BitVec.toNat_ofInt]
    have e1 : ((n : Int) % ((2 ^ 64 : Nat) : Int)).toNat = n := by
      have : ((2 ^ 64 : Nat) : Int) = 18446744073709551616 := by decide
      rw [this]
      omega
    rw [e1, show ((1 : Int) % ((2 ^ 64 : Nat) : Int)).toNat = 1 by decide, Nat.and_one_is_mod]
  have e3 : IntKind.i64.wrap ((n % 2 : Nat) : Int) = ((n % 2 : Nat) : Int) := IntWalk.i64_in _ (by omega)
  have hb : IntKind.i64.bits = 64 := rfl
  show (Op.intBits .and .i64 (n : Int) 1).run P w = _
  simp only [Op.intBits]
  show Result.ok (Value.int .i64 (IntKind.i64.wrap ((BitVec.ofInt 64 (n : Int) &&& BitVec.ofInt 64 1).toNat : Int))) w = _
  rw [e, e3]
  simp
theorem fs_min3 {ts : Array TypeId} {x y z : Operand} {k : IntKind} {a b c : Int} (hx : evu env x = some (.v (.int k a))) (hy : evu env y = some (.v (.int k b))) (hz : evu env z = some (.v (.int k c))) :
    FStep P ⟨d, .call { callee := .builtin .min, args := #[x, y, z], argTypes := ts }, ty, pos, af, g⟩ env h 0 (fun _ => .v (.int k (min (min a b) c))) (fun _ => []) := by
  refine fs_val fun ρ S ac w p => ⟨.int k (min (min a b) c), ?_, R_v_mk _⟩
  have h1 := R_v (p.evu hx)
  have h2 := R_v (p.evu hy)
  have h3 := R_v (p.evu hz)
  have m2 : ∀ a b : Int, (if b < a then b else a) = min a b := fun a b => by split <;> omega
  have e2 := fun (a b : Int) => run_min_int2 (P := P) (w := w) #[] 0 k k a b
  simp only [Builtin.min_, List.foldlM_cons, List.foldlM_nil] at e2
  simp only [bind_pure] at e2
  simp [execOp, resolve, invoke, builtin, h1, h2, h3, Builtin.min_, e2, m2]

theorem fs_makeFunc {fn : Fn} {l1 l2 : List Operand} {us vs : List AV} (ha : evL env l1 = some us) (hb : evL env l2 = some vs) : FStep P ⟨d, .makeFunc fn l1.toArray l2.toArray, ty, pos, af, g⟩ env h 0 (fun _ => .clo fn us vs) (fun _ => []) := by
  refine fs_val fun ρ S a w p => ⟨.func fn (l1.map a.eval).toArray (l2.map a.eval).toArray, ?_, ?_⟩
  · simp [execOp, Instr.makeFunc]
  · simp only [R]
    exact ⟨_, _, rfl, by simpa using evL_val p ha, by simpa using evL_val p hb⟩

theorem fs_convII {s t : TypeId} {x : Operand} {ks k kk : IntKind} {n : Int} (hs : P.underlying s = some (.int ks)) (ht : P.underlying t = some (.int k)) (hx : evu env x = some (.v (.int kk n))) (hn : k.wrap n = n) :
    FStep P ⟨d, .convert s t x, ty, pos, af, g⟩ env h 0 (fun _ => .v (.int k n)) (fun _ => []) := by
  refine fs_val fun ρ S a w p => ⟨.int k n, ?_, R_v_mk _⟩
  have h1 := R_v (p.evu hx)
  simp [execOp, h1, convert, run_underlying hs, run_underlying ht, Conv.intToInt, hn]
theorem grab_take {n : Nat} {cs : List AV} {off : Nat} {zs : List AV} (hg : grab cs off n = some zs) : zs = (cs.drop off).take n := by
  obtain ⟨h1, h2⟩ := grab_get hg
  apply List.ext_getElem?
  intro j
  rw [List.getElem?_take]
  by_cases hj : j < n
  · rw [if_pos hj, List.getElem?_drop, h2 j hj]
  · rw [if_neg hj, List.getElem?_eq_none (by omega)]
/-- An element of an array that is a value. -/
theorem fs_indexV (T : Tab P) {t n e : Nat} {i : TI} {x y : Operand} {cs : List AV} {z : AV} {k : IntKind} {j : Int} (hx : evu env x = some (.agg cs)) (hy : evu env y = some (.v (.int k j))) (ha : T.arr t = some (n, e)) (he : T.ti e = some i) (h0 : 0 ≤ j) (h1 : j < n) (hz : loadAV i cs (j.toNat * i.size) = some z) :
    FStep P ⟨d, .index t x y, ty, pos, af, g⟩ env h 0 (fun _ => z) (fun _ => []) := by
  refine fs_val fun ρ S a w p => ?_
  have h3 := p.evu hx
  simp only [R] at h3
  obtain ⟨ys, h4, h5⟩ := h3
  have h6 := R_v (p.evu hy)
  have hlen := RL_length h5
  have hpart : ∃ v, (part e ys (j.toNat * i.size)).run P w = .ok v w ∧ R S w z ρ v := by
    unfold loadAV at hz
    split at hz
    · rename_i hagg
      split at hz
      · rename_i zs hg
        simp only [Option.some.injEq] at hz
        subst hz
        refine ⟨.agg (ys.extract (j.toNat * i.size) (j.toNat * i.size + i.size)), by simp [part, T.agg he, hagg, T.sizeOf he], ?_⟩
        rw [grab_take hg]
        simp only [R]
        refine ⟨_, rfl, ?_⟩
        have := RL_take (RL_drop h5 (j.toNat * i.size)) i.size
        simpa [Array.toList_extract, List.extract_eq_take_drop] using this
      · cases hz
    · rename_i hagg
      obtain ⟨v, h7, h8⟩ := RL_get h5 _ _ hz
      have h9 : ys[j.toNat * i.size]? = some v := by simpa using h7
      exact ⟨v, by simp [part, T.agg he, hagg, h9], h8⟩
  obtain ⟨v, h7, h8⟩ := hpart
  refine ⟨v, ?_, h8⟩
  simp [execOp, h4, h6, Instr.index, asIntOf, run_underlying (T.arrOk t n e ha), h0, h1, T.sizeOf he, h7]
end

theorem RL_setv {S : Nat → Prop} {w : World} {ρ : Pl} {z : AV} : ∀ {cs : List AV} {ys : List Value} {i : Nat}, RL S w cs ρ ys → (∀ y, ys[i]? = some y → R S w z ρ y) → RL S w (cs.set i z) ρ ys
  | [], ys, i, h, _ => by simpa using h
  | c :: cs, ys, i, h, hz => by
    simp only [RL] at h
    obtain ⟨y, ys', rfl, h1, h2⟩ := h
    cases i with
    | zero => simp only [List.set_cons_zero, RL]; exact ⟨y, ys', rfl, hz y rfl, h2⟩
    | succ i => simp only [List.set_cons_succ, RL]; exact ⟨y, ys', rfl, h1, RL_setv h2 (fun y' hy' => hz y' (by simpa using hy'))⟩

theorem HS.alter {c : Ctx} {ρ : Pl} {S : Nat → Prop} {h : Hp} {w : World} {k : Nat} {b0 b1 : AB} (s : HS c ρ S h w) (hk : h[k]? = some b0) (hb : RB S w ρ (ρ k) b0 → RB S w ρ (ρ k) b1) (hg : b0 ≠ .gone) : HS c ρ S (h.set k b1) w := by
  have hlt := (List.getElem?_eq_some_iff.1 hk).1
  have get : ∀ {j : Nat} {b : AB}, (h.set k b1)[j]? = some b → (j = k ∧ b = b1) ∨ (j ≠ k ∧ h[j]? = some b) := fun {j b} hj => by
    rw [List.getElem?_set] at hj
    split at hj
    · rename_i e
      exact .inl ⟨e.symm, by simpa using hj.symm⟩
    · rename_i e; exact .inr ⟨fun e' => e e'.symm, hj⟩
  have old : ∀ {j : Nat} {b : AB}, (h.set k b1)[j]? = some b → b ≠ .gone → ∃ b', h[j]? = some b' ∧ b' ≠ .gone := fun {j b} hj hg' => by
    rcases get hj with ⟨rfl, _⟩ | ⟨_, h2⟩
    · exact ⟨b0, hk, hg⟩
    · exact ⟨b, h2, hg'⟩
  refine ⟨fun j hj => s.dom j (by simpa using hj), s.rng, fun j b hj => ?_, fun j b p hj hg' hp => ?_, fun j j' b b' p p' hj hj' hg1 hg2 hp hp' e => ?_, s.stab, s.ext, s.st0, s.st1, by simpa using s.mle, s.keep⟩
  · rcases get hj with ⟨rfl, rfl⟩ | ⟨_, h2⟩
    · exact hb (s.blk _ _ hk)
    · exact s.blk j b h2
  · obtain ⟨b', h2, h3⟩ := old hj hg'
    exact s.live j b' p h2 h3 hp
  · obtain ⟨b1', h2, h3⟩ := old hj hg1
    obtain ⟨b2', h4, h5⟩ := old hj' hg2
    exact s.inj j j' b1' b2' p p' h2 h4 h3 h5 hp hp' e

theorem RL_split {S : Nat → Prop} {w : World} {ρ : Pl} : ∀ {xs xs' : List AV} {ys : List Value}, RL S w (xs ++ xs') ρ ys → ∃ y1 y2, ys = y1 ++ y2 ∧ RL S w xs ρ y1 ∧ RL S w xs' ρ y2
  | [], _, ys, h => ⟨[], ys, rfl, by simp [RL], by simpa using h⟩
  | x :: xs, _, ys, h => by
    simp only [List.cons_append, RL] at h
    obtain ⟨y, r, rfl, h1, h2⟩ := h
    obtain ⟨y1, y2, rfl, h3, h4⟩ := RL_split h2
    exact ⟨y :: y1, y2, rfl, by simp only [RL]; exact ⟨y, y1, rfl, h1, h3⟩, h4⟩

section
variable {P : Program} {n : Nat × Nat} {ops : Array Oper} {env : Env} {h : Hp} {K : Env → Hp → Prop} {rest : List Oper} {Q : Exit → Env → Hp → Prop} {code : Code}
/-- A nil slice in a variable is an empty slice of one's own. -/
theorem aw_ownC (k j sz : Nat) {cs : List AV} (hk : h[k]? = some (.cells cs)) (hj : cs[j]? = some .nils) (hs : 0 < sz) (hv : AW P n code env (h.set k (.cells (cs.set j (.sl h.length 0 0 sz))) ++ [.arr [] sz]) Q) : AW P n code env h Q := by
  intro c ρ S a w QQ s hQ
  refine hv c ρ S a w QQ ⟨s.size, s.defers, s.env, ?_, s.cm⟩ hQ
  have h1 := s.hs.alter (b1 := .cells (cs.set j (.sl h.length 0 0 sz))) hk (fun hb => by
    simp only [RB] at hb ⊢
    obtain ⟨b, o, ys, h2, h3, h4⟩ := hb
    refine ⟨b, o, ys, h2, h3, RL_setv h4 fun y hy => ?_⟩
    obtain ⟨y', h5, h6⟩ := RL_get h4 _ _ hj
    rw [hy] at h5; cases h5
    rw [R_v h6]
    simp only [R]
    exact ⟨none, 0, rfl, Nat.zero_le _, .inl ⟨trivial, rfl⟩⟩) (by simp)
  have hd := h1.dom h.length (by simp)
  generalize hh : h.set k (.cells (cs.set j (.sl h.length 0 0 sz))) = h' at h1 ⊢
  have hl : h.length = h'.length := by rw [← hh]; simp
  rw [hl] at hd
  have get : ∀ {j : Nat} {b : AB}, (h' ++ [.arr [] sz])[j]? = some b → h'[j]? = some b ∨ (j = h'.length ∧ b = .arr [] sz) := fun {j b} hj => by
    by_cases hlt : j < h'.length
    · rw [List.getElem?_append_left hlt] at hj; exact .inl hj
    · have := (List.getElem?_eq_some_iff.1 hj).1
      simp at this
      have e : j = h'.length := by omega
      subst e
      simp at hj
      exact .inr ⟨rfl, hj.symm⟩
  refine ⟨fun k hk => h1.dom k (by simp at hk; omega), h1.rng, fun k b hb => ?_, fun k b p hb hg hp => ?_, fun k k' b b' p p' hb hb' hg hg' hp hp' e => ?_, h1.stab, h1.ext, h1.st0, h1.st1, by simp; exact Nat.le_succ_of_le h1.mle, h1.keep⟩
  · rcases get hb with hb | ⟨rfl, rfl⟩
    · exact h1.blk k b hb
    · simp only [RB]; exact ⟨(fun e he => by cases he), hs, .inl trivial⟩
  · rcases get hb with hb | ⟨rfl, rfl⟩
    · exact h1.live k b p hb hg hp
    · rw [hd] at hp; cases hp
  · rcases get hb with hb | ⟨rfl, rfl⟩
    · rcases get hb' with hb' | ⟨rfl, rfl⟩
      · exact h1.inj k k' b b' p p' hb hb' hg hg' hp hp' e
      · rw [hd] at hp'; cases hp'
    · rw [hd] at hp; cases hp

/-- Two slices at the end of a structure that is handed back, and that nobody writes any more. -/
theorem acall_frzA2 {f : FuncId} {args xs : List AV} {e1 e2 : List (List AV)} {l1 l2 s1 s2 : Nat} (hn1 : l1 = e1.length) (hn2 : l2 = e2.length) (hi1 : AV.idfL e1.flatten = true) (hi2 : AV.idfL e2.flatten = true) (hx : AV.idfL xs = true)
    (h : ACall P f args [] (.agg (xs ++ [.sl 0 0 l1 s1, .sl 1 0 l2 s2])) [.arr e1 s1, .arr e2 s2]) : ACall P f args [] (.agg (xs ++ [.rowE e1 s1, .rowE e2 s2])) [] := by
  refine ⟨h.1, fun ρ S w vs hs ha => (h.2 ρ S w vs hs ha).mono ?_⟩
  rintro e w' ⟨y, ρ', S', rfl, h2, h3⟩
  rw [hn1, hn2] at h3
  have f1 := h2.freeze (k := 0) rfl
  have f2 := f1.freeze (k := 1) rfl
  refine ⟨y, _, _, rfl, f2.none rfl, ?_⟩
  simp only [R] at h3 ⊢
  obtain ⟨ys, rfl, h4⟩ := h3
  refine ⟨ys, rfl, ?_⟩
  obtain ⟨y1, y2, h5, h6, h7⟩ := RL_split h4
  rw [h5]
  refine RL_append (RL_st (fun _ h => .inl (.inl h)) (RL_idf ρ' _ _ _ hx h6)) ?_
  simp only [RL] at h7 ⊢
  obtain ⟨z1, q1, rfl, g1, z2, q2, rfl, g2, rfl⟩ := h7
  refine ⟨z1, _, rfl, ?_, z2, _, rfl, ?_, rfl⟩
  · exact R_st (fun _ h => .inl h) (R_idf ρ' _ _ _ rfl (frz_val hi1 (h2.blk 0 _ rfl) g1))
  · exact R_idf ρ' _ _ _ rfl (frz_val hi2 (f1.blk 1 _ rfl) (R_st (fun _ h => .inl h) g2))
end

section
variable {P : Program} {n : Nat × Nat} {env : Env} {h : Hp}
/-- A region that draws its order; the number of slots is given. -/
theorem aw_draw2k {Q : Exit → Env → Hp → Prop} {id : Nat} {l : List Oper} (k : Nat) (pres : List (List Nat)) (ds : List Nat) (bads : List (List Nat)) (hm : P.follows .mixedOrders = true) (hn : n.1 = k) (hok : chkDraw l pres ds bads k = true)
    (hv : DW P n l pres ds bads (dropE ds env) h 0 (dropE ds env) [] (fun v h => Q .normal v h)) (hndf : noDef l = true := by rfl) : AW P n (.region id l.toArray true) env h Q := aw_draw2 pres ds bads hm (by rw [hn]; exact hok) hv hndf
theorem aw_draw3k {Q : Exit → Env → Hp → Prop} {id : Nat} {l : List Oper} (k : Nat) (pres : List (List Nat)) (ds : List Nat) (bads : List (List Nat)) (ss : List (Nat × Nat)) (hm : P.follows .mixedOrders = true) (hn : n.1 = k) (hok : chkDrawS l pres ds bads ss k = true)
    (hv : DWS P n l pres ds bads ss (dropE ds env) h 0 (dropE ds env) [] [] (fun v h => Q .normal v h)) (hndf : noDef l = true := by rfl) : AW P n (.region id l.toArray true) env h Q := aw_draw3 pres ds bads ss hm (by rw [hn]; exact hok) hv hndf
end
theorem acall_nils {P : Program} {f : FuncId} {args : List AV} {sz : Nat} (h : ACall P f args [] .nils []) : ACall P f args [] (.rowE [] sz) [] := by
  refine ⟨h.1, fun ρ S w vs hs ha => (h.2 ρ S w vs hs ha).mono ?_⟩
  rintro e w' ⟨y, ρ', S', rfl, h2, h3⟩
  refine ⟨y, ρ', S', rfl, h2, ?_⟩
  rw [R_v h3]
  simp only [R]
  exact ⟨none, 0, rfl, Nat.le_refl _, fun _ => rfl, by simp [maxLen], by simp, .inl rfl⟩

theorem R_nils_row {S : Nat → Prop} {w : World} {ρ : Pl} {y : Value} {sz : Nat} (h : R S w .nils ρ y) : R S w (.rowE [] sz) ρ y := by
  rw [R_v h]
  simp only [R]
  exact ⟨none, 0, rfl, Nat.le_refl _, fun _ => rfl, by simp [maxLen], by simp, .inl rfl⟩
theorem acall_arg {P : Program} {f : FuncId} {args args' : List AV} {res : AV} {hin hout : Hp} (h : ACall P f args hin res hout) (ha : ∀ (S : Nat → Prop) w ρ ys, RL S w args' ρ ys → RL S w args ρ ys) : ACall P f args' hin res hout :=
  ⟨h.1, fun ρ S w vs hs hv => h.2 ρ S w vs hs (ha S w ρ vs hv)⟩
theorem RL_cons_mono {S : Nat → Prop} {w : World} {ρ : Pl} {x x' : AV} {xs xs' : List AV} {ys : List Value} (h1 : ∀ y, R S w x' ρ y → R S w x ρ y) (h2 : ∀ ys, RL S w xs' ρ ys → RL S w xs ρ ys) (h : RL S w (x' :: xs') ρ ys) : RL S w (x :: xs) ρ ys := by
  simp only [RL] at h ⊢
  obtain ⟨y, r, rfl, h3, h4⟩ := h
  exact ⟨y, r, rfl, h1 y h3, h2 r h4⟩
end Go.Ab
