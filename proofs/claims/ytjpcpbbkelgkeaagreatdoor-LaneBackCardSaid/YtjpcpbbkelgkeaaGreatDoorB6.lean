/-
  Texts of the logic and of the layer, in one module (part 6).
-/
import Derived.Test.YtjpcpbbkelgkeaaGreatDoorB5
import Derived.Shelf.Small.Strs
import Derived.Shelf.Small.Wraps
import Derived.Laws.IdiomStrings
set_option linter.unusedVariables false
set_option linter.unusedSimpArgs false
namespace Go.Proofs.YtjpcpbbkelgkeaaGreatDoor
open Go Go.Ab Go.Shelf Go.Proofs Go.Wr
shelf_lay Lays.n137 Nm 137 at Tryz as laysIdxW
shelf_lay Lays.n103 Nm 103 at Tryz as laysCut
shelf_lay LaysC.n172 Nm 172 at Tryz as laysAtoi
theorem acall_keptW {P : Program} {f : FuncId} {xs : List AV} {res : AV} (hfn : ∃ fn, P.funcs[f]? = some fn ∧ (fn.name == "runtime.NumGoroutine") = false ∧ fn.body.isNone = false)
    (hs : ∀ (ρ : Pl) S w vs, GlobOk S w → RL S w xs ρ vs → Calls P f vs.toArray w fun e w' => ∃ y, e = .returned y ∧ RowKit.Below w.heap.size w w' ∧ ∀ S' ρ', R S' w' res ρ' y) : ACall P f xs [] res [] := by
  refine ⟨hfn, fun ρ S w vs s ha => (hs ρ S w vs s.glob ha).mono fun e w' ⟨y, he, hb, hR⟩ => ?_⟩
  exact ⟨y, ρ, S, he, s.kept (ext_below hb), hR S ρ⟩
theorem idxW_c (l : List UInt8) (e : UInt8) : ACall Tryz.prog 60 [.s l, .v (.int .u8 e.toNat)] [] (.i (Lib.indexByte l e)) [] :=
  acall_keptW ⟨_, Tryz.func60, by kernel_rfl, by kernel_rfl⟩ fun ρ S w vs _ ha => by
    simp only [RL, R] at ha
    obtain ⟨y, ys, rfl, rfl, z, zs, rfl, rfl, rfl⟩ := ha
    refine (Any.strings_IndexByte laysIdxW ⟨l.toArray⟩ (e.toNat : Int) w).mono fun e' w' ⟨h1, h2⟩ => ⟨_, h1, by rw [h2]; exact RowKit.Below.refl _ _, fun S' ρ' => ?_⟩
    simp [R]
theorem cut_c (l p : List UInt8) : ACall Tryz.prog 80 [.s l, .s p] [] (.tup [.s (Lib.trimPrefix l p), .b (Lib.hasPrefix l p)]) [] :=
  acall_keptW ⟨_, Tryz.func80, by kernel_rfl, by kernel_rfl⟩ fun ρ S w vs _ ha => by
    simp only [RL, R] at ha
    obtain ⟨y, ys, rfl, rfl, z, zs, rfl, rfl, rfl⟩ := ha
    refine (Any.strings_CutPrefix laysCut ⟨l.toArray⟩ ⟨p.toArray⟩ w).mono fun e' w' ⟨h1, h2⟩ => ⟨_, h1, by rw [h2]; exact RowKit.Below.refl _ _, fun S' ρ' => ?_⟩
    simp only [R, RL]
    exact ⟨_, rfl, _, _, rfl, rfl, _, _, rfl, rfl, rfl⟩
theorem atoi_ok {l : List UInt8} {n : Int} (h : Lib.atoiAll l = .ok n) (hl : l.length ≤ 1000000) : ACall Tryz.prog 62 [.s l] [] (.tup [.i n, .v .nilIface]) [] :=
  acall_keptW ⟨_, Tryz.func62, by kernel_rfl, by kernel_rfl⟩ fun ρ S w vs _ ha => by
    simp only [RL, R] at ha
    obtain ⟨y, ys, rfl, rfl, rfl⟩ := ha
    refine (Any.strconv_Atoi_ok laysAtoi ⟨l.toArray⟩ (by show l.toArray.size ≤ _; simp; omega) n (by simpa using h) w).mono fun e' w' ⟨h1, h2⟩ => ⟨_, h1, ?_, fun S' ρ' => ?_⟩
    · rcases h2 with rfl | ⟨t, rfl⟩
      · exact RowKit.Below.refl _ _
      · exact Lib.bytesWorld_below _ _ _
    · simp only [R, RL]
      exact ⟨_, rfl, _, _, rfl, rfl, _, _, rfl, rfl, rfl⟩
theorem errVar {S : Nat → Prop} {w : World} {name : String} {gi : Nat} (hg : Tryz.prog.globalNamed name = some gi) (hm : (gi, [AV.ifc 183 .any]) ∈ globTab) (h : GlobOk S w) : ∃ p, w.var? Tryz.prog name = some #[.iface 183 p] := by
  obtain ⟨_, ys, t, fz, g1, g2⟩ := h gi _ hm
  simp only [RL, R] at g2
  obtain ⟨y, zs, g3, ⟨z, rfl, _⟩, rfl⟩ := g2
  refine ⟨z, ?_⟩
  have e : ys = #[.iface 183 z] := Array.toList_inj.1 g3
  unfold World.var?
  rw [hg]
  simp only [Option.bind_some, g1]
  rw [e]
theorem atoi_bad {l : List UInt8} (h : ∀ n, Lib.atoiAll l ≠ .ok n) (hl : l.length ≤ 1000000) : ACall Tryz.prog 62 [.s l] [] (.tup [.any, .ifc 152 .any]) [] :=
  acall_keptW ⟨_, Tryz.func62, by kernel_rfl, by kernel_rfl⟩ fun ρ S w vs hg ha => by
    simp only [RL, R] at ha
    obtain ⟨y, ys, rfl, rfl, rfl⟩ := ha
    obtain ⟨p1, hv1⟩ := errVar (name := "strconv.ErrSyntax") (gi := 1) (by kernel_rfl) (by unfold globTab; simp) hg
    obtain ⟨p2, hv2⟩ := errVar (name := "strconv.ErrRange") (gi := 2) (by kernel_rfl) (by unfold globTab; simp) hg
    have hsz : (⟨l.toArray⟩ : ByteArray).size ≤ 281474976710656 := by show l.toArray.size ≤ _; simp; omega
    rcases ha : Lib.atoiAll l with n | _ | _
    · exact absurd ha (h n)
    · skip
      refine (Any.strconv_Atoi_syntax_var laysAtoi ⟨l.toArray⟩ hsz (by simpa using ha) _ p1 w hv1).mono fun e' w' ⟨N, h1, _, _, h2⟩ => ⟨_, h1, h2, fun S' ρ' => ?_⟩
      simp only [R, RL]
      exact ⟨_, rfl, _, _, rfl, trivial, _, _, rfl, ⟨_, rfl, trivial⟩, rfl⟩
    · skip
      refine (Any.strconv_Atoi_range_var laysAtoi ⟨l.toArray⟩ hsz (by simpa using ha) _ p2 w hv2).mono fun e' w' ⟨N, h1, _, _, h2⟩ => ⟨_, h1, h2, fun S' ρ' => ?_⟩
      simp only [R, RL]
      exact ⟨_, rfl, _, _, rfl, trivial, _, _, rfl, ⟨_, rfl, trivial⟩, rfl⟩
theorem neqIfc (u : TypeId) (v : Value) (W : World) : (binOp .neq 100 (.iface u v) .nilIface).run Tryz.prog W = .ok (.bool true) W := by kernel_rfl
theorem neqNil (W : World) : (binOp .neq 100 .nilIface .nilIface).run Tryz.prog W = .ok (.bool false) W := by kernel_rfl
section
variable {env : Env} {h : Hp} {d : Option Nat} {ty : TypeId} {pos : String} {af : Array Edge} {g : Option (Nat × Bool)}
theorem fs_neqIfc {t2 u : TypeId} {x y : Operand} {z : AV} (hx : evu env x = some (.ifc u z)) (hy : evu env y = some (.v .nilIface)) : FStep Tryz.prog ⟨d, .binOp .neq 100 x y t2, ty, pos, af, g⟩ env h 0 (fun _ => .b true) (fun _ => []) := by
  refine fs_val fun ρ S a w p => ⟨.bool true, ?_, by simp [R]⟩
  have h1 := p.evu hx
  simp only [R] at h1
  obtain ⟨z', h1, _⟩ := h1
  have h2 := R_v (p.evu hy)
  have hq : eqGuard .neq 100 x y (.iface u z') .nilIface = pure () := by rfl
  simp [execOp, h1, h2, hq, neqIfc]
theorem fs_neqNilI {t2 : TypeId} {x : Operand} (hx : evu env x = some (.v .nilIface)) : FStep Tryz.prog ⟨d, .binOp .neq 100 x (.const .nilIface) t2, ty, pos, af, g⟩ env h 0 (fun _ => .b false) (fun _ => []) := by
  refine fs_val fun ρ S a w p => ⟨.bool false, ?_, by simp [R]⟩
  have h1 := R_v (p.evu hx)
  have hq : eqGuard .neq 100 x (.const .nilIface) .nilIface .nilIface = pure () := by cases x <;> rfl
  have h2 : a.eval (.const .nilIface) = .nilIface := rfl
  simp [execOp, h1, h2, hq, neqNil]
theorem fs_sliceSe {P : Program} {t : TypeId} {x : Operand} {a b : List UInt8} {lo hi : Option Operand} {l r : Int} (ht : StrT P t) (hx : evu env x = some (.s a)) (hlo : evB env lo 0 = some l) (hhi : evB env hi a.length = some r) (h0 : 0 ≤ l) (h1 : l ≤ r) (h2 : r ≤ a.length) (e : (a.take r.toNat).drop l.toNat = b) : FStep P ⟨d, .slice t x lo hi none, ty, pos, af, g⟩ env h 0 (fun _ => .s b) (fun _ => []) := by
  subst e
  exact fs_sliceS ht hx hlo hhi h0 h1 h2
theorem fs_eqlST {P : Program} {t t2 : TypeId} {x y : Operand} {a b : List UInt8} (hx : evu env x = some (.s a)) (hy : evu env y = some (.s b)) (e : a = b) : FStep P ⟨d, .binOp .eql t x y t2, ty, pos, af, g⟩ env h 0 (fun _ => .b true) (fun _ => []) := by
  have := fs_eqlS (P := P) (d := d) (ty := ty) (pos := pos) (af := af) (g := g) (h := h) (t := t) (t2 := t2) hx hy
  simpa [e] using this
theorem fs_eqlSF {P : Program} {t t2 : TypeId} {x y : Operand} {a b : List UInt8} (hx : evu env x = some (.s a)) (hy : evu env y = some (.s b)) (e : a ≠ b) : FStep P ⟨d, .binOp .eql t x y t2, ty, pos, af, g⟩ env h 0 (fun _ => .b false) (fun _ => []) := by
  have := fs_eqlS (P := P) (d := d) (ty := ty) (pos := pos) (af := af) (g := g) (h := h) (t := t) (t2 := t2) hx hy
  simpa [e] using this
theorem fs_neqST {P : Program} {t t2 : TypeId} {x y : Operand} {a b : List UInt8} (hx : evu env x = some (.s a)) (hy : evu env y = some (.s b)) (e : a ≠ b) : FStep P ⟨d, .binOp .neq t x y t2, ty, pos, af, g⟩ env h 0 (fun _ => .b true) (fun _ => []) := by
  have := fs_neqS (P := P) (d := d) (ty := ty) (pos := pos) (af := af) (g := g) (h := h) (t := t) (t2 := t2) hx hy
  simpa [e] using this
theorem fs_neqSF {P : Program} {t t2 : TypeId} {x y : Operand} {a b : List UInt8} (hx : evu env x = some (.s a)) (hy : evu env y = some (.s b)) (e : a = b) : FStep P ⟨d, .binOp .neq t x y t2, ty, pos, af, g⟩ env h 0 (fun _ => .b false) (fun _ => []) := by
  have := fs_neqS (P := P) (d := d) (ty := ty) (pos := pos) (af := af) (g := g) (h := h) (t := t) (t2 := t2) hx hy
  simpa [e] using this
end
attribute [local irreducible] VC AW FStep ACall
set_option maxHeartbeats 4000000
theorem open_c (l : List UInt8) : ACall Tryz.prog 16 [.s l] [] (.ptr 0 0) (rdH (some l)) := by
  refine acall T Tryz.func16 rfl rfl rfl rfl ?_
  repeat' (first|refine wS ?_|refine wB ?_|refine wK ?_|refine wR ?_|refine wE ?_|refine wT ?_|refine wU ?_|(refine wC rfl (fun hb=>?_) (fun hb=>?_)<;>(first|subst hb|((try simp only [nm] at hb);try (exfalso;omega))))|(refine rg 0 ?_;refine aV ?_)|(refine rg 1 ?_;refine mV ?_;refine vV (by exact fs_build T rfl rfl rfl rfl) ?_;refine vc_n (by exact fs_box rfl rfl) rfl ?_;refine aV ?_)|refine nZ ?_)
  all_goals exact ⟨.inl rfl, [0], _, rfl, rfl, rfl, ⟨.inr rfl, trivial⟩, by decide, fun _ hi => absurd hi (Nat.not_lt_zero _)⟩
theorem fail_c (r : List UInt8) (b : Bool) : ACall Tryz.prog 61 [.ptr 0 0] [.cells [.s r, .b b]] (.tup []) [.cells [.s [], .b true]] := by
  refine acall T Tryz.func61 rfl rfl rfl rfl ?_
  repeat' (first|refine wS ?_|refine wB ?_|refine wK ?_|refine wR ?_|refine wE ?_|refine wT ?_|refine wU ?_|(refine wC rfl (fun hb=>?_) (fun hb=>?_)<;>(first|subst hb|((try simp only [nm] at hb);try (exfalso;omega))))|(refine rg 0 ?_;refine mV ?_;refine mV ?_;refine nV ?_;refine fV T ?_;refine vc_store T rfl rfl rfl rfl rfl rfl (by decide) rfl ?_;refine nV ?_;refine fV T ?_;refine vc_store T rfl rfl rfl rfl rfl rfl (by decide) rfl ?_)|refine nZ ?_)
  all_goals exact ⟨.inr rfl, [0], _, rfl, rfl, rfl, ⟨.inr rfl, trivial⟩, by decide, lt1z⟩
theorem number1_c (r : List UInt8) (b : Bool) (e : UInt8) (lo : Int) (hl : r.length ≤ 1000000000) (h : numP r e lo = none) :
    ACall Tryz.prog 43 [.ptr 0 0, .v (.int .u8 e.toNat), .i lo] [.cells [.s r, .b b]] (.i 0) [.cells [.s [], .b true]] := by
  have hf := fail_c r b
  have hi := idxW_c (r.take 21) e
  have e1 : ((r.take (min (r.length : Int) 21).toNat).drop (0 : Int).toNat) = r.take 21 := by
    rw [Int.toNat_zero, List.drop_zero]
    by_cases h21 : r.length ≤ 21
    · rw [List.take_of_length_le (by omega), List.take_of_length_le h21]
    · rw [show (min (r.length : Int) 21).toNat = 21 by omega]
  refine acall T Tryz.func43 rfl rfl rfl rfl ?_
  unfold numP at h
  by_cases h0 : Lib.indexByte (r.take 21) e < 0
  · repeat' (first | refine wS ?_ | refine wB ?_ | refine wK ?_ | refine wR ?_ | refine wE ?_ | refine aw_condt rfl ?_ | refine aw_condf rfl ?_ | (refine wC rfl (fun hb => ?_) (fun hb => ?_) <;> (first | subst hb | ((try simp only [nm] at hb); try (exfalso; omega)))) | (((refine rg 0 ?_)); (all_goals (refine aV ?_))) | (((refine aw_draw2k (id := 1) 64 [[], [0], [0, 1], [0, 1, 2], [], [4], [4, 5], [4, 5, 6], [4, 5, 6, 7], [4, 5, 6, 7, 8], [0, 1, 2, 3, 4, 5, 6, 7, 8, 9]] [11, 12, 13, 14, 15, 16, 17, 18, 19, 20, 21] [[], [], [], [], [11, 12, 13, 14], [11, 12, 13, 14], [11, 12, 13, 14], [11, 12, 13, 14], [11, 12, 13, 14], [11, 12, 13, 14], []] mixedP rfl (by decide +kernel) ?_)); (all_goals first | (refine dV rfl (by exact fs_move rfl) ?_)); (all_goals first | (refine dV rfl (by exact fs_nilCheck rfl rfl) ?_)); (all_goals first | (refine dV rfl (by exact fs_fieldAddr T rfl rfl rfl) ?_)); (all_goals first | (refine dV rfl (by exact fs_load T rfl rfl rfl rfl) ?_)); (all_goals first | (refine dV rfl (by exact fs_move rfl) ?_)); (all_goals first | (refine dV rfl (by exact fs_nilCheck rfl rfl) ?_)); (all_goals first | (refine dV rfl (by exact fs_fieldAddr T rfl rfl rfl) ?_)); (all_goals first | (refine dV rfl (by exact fs_load T rfl rfl rfl rfl) ?_)); (all_goals first | (refine dV rfl (by first | exact fs_lenOwn T rfl rfl | exact fs_lenRow T rfl rfl | exact fs_lenNil T rfl rfl | exact fs_lenS strTW rfl) ?_)); (all_goals first | (refine dV rfl (by exact fs_min rfl rfl) ?_)); (all_goals first | (refine dV rfl (by first | exact fs_sliceSe strTW rfl rfl rfl (by decide) (by omega) (by omega) e1) ?_)); (all_goals (refine dw_fin rfl rfl (by (first | (dsimp only [ln1, ln2, List.append_nil, ln4, ln5, ln6, ln7, ln8, ln9, putAt, putd, allObjs, argEnv, un_v, un_ptr, un_ep, un_pr, un_sl, un_mp, un_row, un_agg, un_tup, un_clo, Nat.zero_add, lnb, Nat.reduceAdd, lnc, lnd]; first | done | exact rfl) | exact rfl)) ?_; refine aV ?_))) | (((refine rg 2 ?_)); (all_goals (refine mV ?_; refine mV ?_; refine vV (by exact kC (hi)) ?_; refine aV ?_))) | (((refine rg 3 ?_)); (all_goals (refine mV ?_; refine vV (by exact fs_lss rfl rfl) ?_))) | (((refine rg 4 ?_)); (all_goals (refine mV ?_; refine vc_callw [0] rfl rfl hf rfl rfl (by decide) ⟨.inr rfl, trivial⟩ (by simp) rfl ?_))) | (((refine rg 5 ?_)); (all_goals (refine aV ?_))) | (refine vc_nilp (by (first | (dsimp only [ln1, ln2, List.append_nil, ln4, ln5, ln6, ln7, ln8, ln9, putAt, putd, allObjs, argEnv, un_v, un_ptr, un_ep, un_pr, un_sl, un_mp, un_row, un_agg, un_tup, un_clo, Nat.zero_add, lnb, Nat.reduceAdd, lnc, lnd]; first | done | exact rfl) | exact rfl)) ?_))
    all_goals first | (exfalso; omega) | exact ⟨.inl rfl, [0], _, rfl, rfl, rfl, ⟨.inr rfl, trivial⟩, by decide, lt1z⟩
  · rw [if_neg h0] at h
    obtain ⟨k1, k2⟩ := index_le (Int.not_lt.1 h0)
    have e2 : (((r.take 21).take (Lib.indexByte (r.take 21) e).toNat).drop (0 : Int).toNat) = r.take (Lib.indexByte (r.take 21) e).toNat := by
      rw [Int.toNat_zero, List.drop_zero, List.take_take, Nat.min_eq_left (by omega)]
    have hk : (Lib.indexByte (r.take 21) e).toNat ≤ (r.take 21).length := by rw [List.length_take]; omega
    have hsl : (r.take (Lib.indexByte (r.take 21) e).toNat).length ≤ 1000000 := by rw [List.length_take]; omega
    generalize Lib.indexByte (r.take 21) e = at_ at *
    generalize r.take at_.toNat = s at *
    rcases ha : Lib.atoiAll s with n | _ | _
    · skip
      rw [ha] at h
      have hA := atoi_ok ha hsl
      have hb := Lib.atoiAll_bounds ha
      have hI := itoa_c (n := n) ⟨hb.1, hb.2⟩
      by_cases hc : Lib.itoa n = s
      · have hlo : n < lo := by
          by_cases hh : n < lo
          · exact hh
          · dsimp only at h; rw [if_pos ⟨hc, by omega⟩] at h; cases h
        repeat' (first|refine wS ?_|refine wB ?_|refine wK ?_|refine wR ?_|refine wE ?_|refine wT ?_|refine wU ?_|(refine wC rfl (fun hb=>?_) (fun hb=>?_)<;>(first|subst hb|((try simp only [nm] at hb);try (exfalso;omega))))|(refine rg 0 ?_;refine aV ?_)|(((refine aw_draw2k (id := 1) 64 [[],[0],[0,1],[0,1,2],[],[4],[4,5],[4,5,6],[4,5,6,7],[4,5,6,7,8],[0,1,2,3,4,5,6,7,8,9]] [11,12,13,14,15,16,17,18,19,20,21] [[],[],[],[],[11,12,13,14],[11,12,13,14],[11,12,13,14],[11,12,13,14],[11,12,13,14],[11,12,13,14],[]] mixedP rfl (by decide +kernel) ?_));(all_goals first|(refine dV rfl (by exact fs_move rfl) ?_));(all_goals first|(refine dV rfl (by exact fs_nilCheck rfl rfl) ?_));(all_goals first|(refine dV rfl (by exact fs_fieldAddr T rfl rfl rfl) ?_));(all_goals first|(refine dV rfl (by exact fs_load T rfl rfl rfl rfl) ?_));(all_goals first|(refine dV rfl (by exact fs_move rfl) ?_));(all_goals first|(refine dV rfl (by exact fs_nilCheck rfl rfl) ?_));(all_goals first|(refine dV rfl (by exact fs_fieldAddr T rfl rfl rfl) ?_));(all_goals first|(refine dV rfl (by exact fs_load T rfl rfl rfl rfl) ?_));(all_goals first|(refine dV rfl (by first|exact fs_lenOwn T rfl rfl|exact fs_lenRow T rfl rfl|exact fs_lenNil T rfl rfl|exact fs_lenS strTW rfl) ?_));(all_goals first|(refine dV rfl (by exact fs_min rfl rfl) ?_));(all_goals first|(refine dV rfl (by first|exact fs_sliceSe strTW rfl rfl rfl (by decide) (by omega) (by omega) e1|exact fs_sliceSe strTW rfl rfl rfl (by decide) (by omega) (by omega) e2) ?_));(all_goals (refine dw_fin rfl rfl (by (first|(dsimp only [ln1,ln2,List.append_nil,ln4,ln5,ln6,ln7,ln8,ln9,putAt,putd,allObjs,argEnv,un_v,un_ptr,un_ep,un_pr,un_sl,un_mp,un_row,un_agg,un_tup,un_clo,Nat.zero_add,lnb,Nat.reduceAdd,lnc,lnd];first|done|exact rfl)|exact rfl)) ?_;refine aV ?_)))|(refine rg 2 ?_;refine mV ?_;refine mV ?_;refine vV (by exact kC (hi)) ?_;refine aV ?_)|(refine rg 3 ?_;refine mV ?_;refine vV (by exact fs_lss rfl rfl) ?_)|(refine rg 6 ?_;refine mV ?_;refine mV ?_;refine vV (by first|exact fs_sliceSe strTW rfl rfl rfl (by decide) (by omega) (by omega) e1|exact fs_sliceSe strTW rfl rfl rfl (by decide) (by omega) (by omega) e2) ?_;refine vV (by exact kC (hA)) ?_;refine mV ?_;refine xV ?_;refine xV ?_;refine aV ?_;refine aV ?_)|(((refine aw_draw2k (id := 7) 64 [[],[0],[0,1],[0,1,2],[0,1,2,3],[0,1,2],[0,1,2],[0,1,2,5,6],[0,1,2,3,4,5,6,7],[0,1,2,3,4,5,6,7,8],[0,1,2,3,4,5,6,7,8,9],[0,1,2,3,4,5,6,7,8,9,10],[0,1,2,3,4,5,6,7,8,9,10],[0,1,2,3,4,5,6,7,8,9,10,11,12],[0,1,2,3,4,5,6,7,8,9,10,11,12,13]] [36,37,38,39,40,41,42,43,44,45,46,47,48,49,50] [[],[],[],[],[],[39,40],[39,40,41],[39,40],[],[],[],[],[47],[],[]] mixedP rfl (by decide +kernel) ?_));(all_goals first|(refine dV rfl (by exact fs_move rfl) ?_));(all_goals first|(refine dV rfl (by first|exact fs_neq rfl rfl|exact fs_neqNilI rfl|exact fs_neqSF rfl rfl hc) ?_));(all_goals first|(refine dV rfl (by exact fs_move rfl) ?_));(all_goals first|(refine dT rfl (by exact fs_move rfl) ?_)|(refine dG ?_)|(refine dH ?_)|(refine dw_split rfl rfl rfl rfl (fun hb=>?_) (fun hb=>?_)<;>(first|subst hb|(rw [hb];(try simp only [nm] at hb);try ((exfalso;omega);done)))<;>first|(refine dT rfl (by exact fs_move rfl) ?_)|(refine dG ?_)|(refine dH ?_)));(all_goals first|(refine dT rfl (by first|exact kC (hI)) ?_)|(refine dw_gn rfl rfl rfl rfl rfl (by first|exact kC (hI)) rfl ?_)|(refine dG ?_)|(refine dH ?_));(all_goals first|(refine dT rfl (by exact fs_move rfl) ?_)|(refine dG ?_)|(refine dH ?_));(all_goals first|(refine dT rfl (by exact fs_move rfl) ?_)|(refine dG ?_)|(refine dH ?_));(all_goals first|(refine dT rfl (by first|exact fs_sliceSe strTW rfl rfl rfl (by decide) (by omega) (by omega) e1|exact fs_sliceSe strTW rfl rfl rfl (by decide) (by omega) (by omega) e2) ?_)|(refine dG ?_)|(refine dH ?_));(all_goals first|(refine dT rfl (by first|exact fs_neq rfl rfl|exact fs_neqNilI rfl|exact fs_neqSF rfl rfl hc) ?_)|(refine dG ?_)|(refine dH ?_));(all_goals first|(refine dV rfl (by first|exact fs_pickt rfl rfl|exact fs_pickf rfl rfl|exact fs_pick rfl rfl rfl) ?_));(all_goals first|(refine dV rfl (by exact fs_move rfl) ?_));(all_goals first|(refine dT rfl (by exact fs_move rfl) ?_)|(refine dG ?_)|(refine dH ?_)|(refine dw_split rfl rfl rfl rfl (fun hb=>?_) (fun hb=>?_)<;>(first|subst hb|(rw [hb];(try simp only [nm] at hb);try ((exfalso;omega);done)))<;>first|(refine dT rfl (by exact fs_move rfl) ?_)|(refine dG ?_)|(refine dH ?_)));(all_goals first|(refine dT rfl (by exact fs_move rfl) ?_)|(refine dG ?_)|(refine dH ?_));(all_goals first|(refine dT rfl (by exact fs_lss rfl rfl) ?_)|(refine dG ?_)|(refine dH ?_));(all_goals first|(refine dV rfl (by first|exact fs_pickt rfl rfl|exact fs_pickf rfl rfl|exact fs_pick rfl rfl rfl) ?_));(all_goals (refine dw_fin rfl rfl (by (first|(dsimp only [ln1,ln2,List.append_nil,ln4,ln5,ln6,ln7,ln8,ln9,putAt,putd,allObjs,argEnv,un_v,un_ptr,un_ep,un_pr,un_sl,un_mp,un_row,un_agg,un_tup,un_clo,Nat.zero_add,lnb,Nat.reduceAdd,lnc,lnd];first|done|exact rfl)|exact rfl)) ?_)))|(refine rg 8 ?_;refine mV ?_;refine vc_callw [0] rfl rfl hf rfl rfl (by decide) ⟨.inr rfl,trivial⟩ (by simp) rfl ?_)|(refine rg 9 ?_;refine aV ?_)|refine nZ ?_)
        all_goals first | (exfalso; omega) | exact ⟨.inl rfl, [0], _, rfl, rfl, rfl, ⟨.inr rfl, trivial⟩, by decide, lt1z⟩
      · repeat' (first | refine wS ?_ | refine wB ?_ | refine wK ?_ | refine wR ?_ | refine wE ?_ | refine aw_condt rfl ?_ | refine aw_condf rfl ?_ | (refine wC rfl (fun hb => ?_) (fun hb => ?_) <;> (first | subst hb | ((try simp only [nm] at hb); try (exfalso; omega)))) | (((refine rg 0 ?_)); (all_goals (refine aV ?_))) | (((refine aw_draw2k (id := 1) 64 [[], [0], [0, 1], [0, 1, 2], [], [4], [4, 5], [4, 5, 6], [4, 5, 6, 7], [4, 5, 6, 7, 8], [0, 1, 2, 3, 4, 5, 6, 7, 8, 9]] [11, 12, 13, 14, 15, 16, 17, 18, 19, 20, 21] [[], [], [], [], [11, 12, 13, 14], [11, 12, 13, 14], [11, 12, 13, 14], [11, 12, 13, 14], [11, 12, 13, 14], [11, 12, 13, 14], []] mixedP rfl (by decide +kernel) ?_)); (all_goals first | (refine dV rfl (by exact fs_move rfl) ?_)); (all_goals first | (refine dV rfl (by exact fs_nilCheck rfl rfl) ?_)); (all_goals first | (refine dV rfl (by exact fs_fieldAddr T rfl rfl rfl) ?_)); (all_goals first | (refine dV rfl (by exact fs_load T rfl rfl rfl rfl) ?_)); (all_goals first | (refine dV rfl (by exact fs_move rfl) ?_)); (all_goals first | (refine dV rfl (by exact fs_nilCheck rfl rfl) ?_)); (all_goals first | (refine dV rfl (by exact fs_fieldAddr T rfl rfl rfl) ?_)); (all_goals first | (refine dV rfl (by exact fs_load T rfl rfl rfl rfl) ?_)); (all_goals first | (refine dV rfl (by first | exact fs_lenOwn T rfl rfl | exact fs_lenRow T rfl rfl | exact fs_lenNil T rfl rfl | exact fs_lenS strTW rfl) ?_)); (all_goals first | (refine dV rfl (by exact fs_min rfl rfl) ?_)); (all_goals first | (refine dV rfl (by first | exact fs_sliceSe strTW rfl rfl rfl (by decide) (by omega) (by omega) e1 | exact fs_sliceSe strTW rfl rfl rfl (by decide) (by omega) (by omega) e2) ?_)); (all_goals (refine dw_fin rfl rfl (by (first | (dsimp only [ln1, ln2, List.append_nil, ln4, ln5, ln6, ln7, ln8, ln9, putAt, putd, allObjs, argEnv, un_v, un_ptr, un_ep, un_pr, un_sl, un_mp, un_row, un_agg, un_tup, un_clo, Nat.zero_add, lnb, Nat.reduceAdd, lnc, lnd]; first | done | exact rfl) | exact rfl)) ?_; refine aV ?_))) | (((refine rg 2 ?_)); (all_goals (refine mV ?_; refine mV ?_; refine vV (by exact kC (hi)) ?_; refine aV ?_))) | (((refine rg 3 ?_)); (all_goals (refine mV ?_; refine vV (by exact fs_lss rfl rfl) ?_))) | (((refine rg 6 ?_)); (all_goals (refine mV ?_; refine mV ?_; refine vV (by first | exact fs_sliceSe strTW rfl rfl rfl (by decide) (by omega) (by omega) e1 | exact fs_sliceSe strTW rfl rfl rfl (by decide) (by omega) (by omega) e2) ?_; refine vV (by exact kC (hA)) ?_; refine mV ?_; refine xV ?_; refine xV ?_; refine aV ?_; refine aV ?_))) | (((refine aw_draw2k (id := 7) 64 [[], [0], [0, 1], [0, 1, 2], [0, 1, 2, 3], [0, 1, 2], [0, 1, 2], [0, 1, 2, 5, 6], [0, 1, 2, 3, 4, 5, 6, 7], [0, 1, 2, 3, 4, 5, 6, 7, 8], [0, 1, 2, 3, 4, 5, 6, 7, 8, 9], [0, 1, 2, 3, 4, 5, 6, 7, 8, 9, 10], [0, 1, 2, 3, 4, 5, 6, 7, 8, 9, 10], [0, 1, 2, 3, 4, 5, 6, 7, 8, 9, 10, 11, 12], [0, 1, 2, 3, 4, 5, 6, 7, 8, 9, 10, 11, 12, 13]] [36, 37, 38, 39, 40, 41, 42, 43, 44, 45, 46, 47, 48, 49, 50] [[], [], [], [], [], [39, 40], [39, 40, 41], [39, 40], [], [], [], [], [47], [], []] mixedP rfl (by decide +kernel) ?_)); (all_goals first | (refine dV rfl (by exact fs_move rfl) ?_)); (all_goals first | (refine dV rfl (by first | exact fs_neq rfl rfl | exact fs_neqNilI rfl | exact fs_neqST rfl rfl hc) ?_)); (all_goals first | (refine dV rfl (by exact fs_move rfl) ?_)); (all_goals first | (refine dT rfl (by exact fs_move rfl) ?_) | (refine dG ?_) | (refine dH ?_) | (refine dw_split rfl rfl rfl rfl (fun hb => ?_) (fun hb => ?_) <;> (first | subst hb | (rw [hb]; (try simp only [nm] at hb); try ((exfalso; omega); done))) <;> first | (refine dT rfl (by exact fs_move rfl) ?_) | (refine dG ?_) | (refine dH ?_))); (all_goals first | (refine dT rfl (by first | exact kC (hI)) ?_) | (refine dw_gn rfl rfl rfl rfl rfl (by first | exact kC (hI)) rfl ?_) | (refine dG ?_) | (refine dH ?_)); (all_goals first | (refine dT rfl (by exact fs_move rfl) ?_) | (refine dG ?_) | (refine dH ?_)); (all_goals first | (refine dT rfl (by exact fs_move rfl) ?_) | (refine dG ?_) | (refine dH ?_)); (all_goals first | (refine dT rfl (by first | exact fs_sliceSe strTW rfl rfl rfl (by decide) (by omega) (by omega) e1 | exact fs_sliceSe strTW rfl rfl rfl (by decide) (by omega) (by omega) e2) ?_) | (refine dG ?_) | (refine dH ?_)); (all_goals first | (refine dT rfl (by first | exact fs_neq rfl rfl | exact fs_neqNilI rfl | exact fs_neqST rfl rfl hc) ?_) | (refine dG ?_) | (refine dH ?_)); (all_goals first | (refine dV rfl (by first | exact fs_pickt rfl rfl | exact fs_pickf rfl rfl | exact fs_pick rfl rfl rfl) ?_)); (all_goals first | (refine dV rfl (by exact fs_move rfl) ?_)); (all_goals first | (refine dT rfl (by exact fs_move rfl) ?_) | (refine dG ?_) | (refine dH ?_) | (refine dw_split rfl rfl rfl rfl (fun hb => ?_) (fun hb => ?_) <;> (first | subst hb | (rw [hb]; (try simp only [nm] at hb); try ((exfalso; omega); done))) <;> first | (refine dT rfl (by exact fs_move rfl) ?_) | (refine dG ?_) | (refine dH ?_))); (all_goals first | (refine dT rfl (by exact fs_move rfl) ?_) | (refine dG ?_) | (refine dH ?_)); (all_goals first | (refine dT rfl (by exact fs_lss rfl rfl) ?_) | (refine dG ?_) | (refine dH ?_)); (all_goals first | (refine dV rfl (by first | exact fs_pickt rfl rfl | exact fs_pickf rfl rfl | exact fs_pick rfl rfl rfl) ?_)); (all_goals (refine dw_fin rfl rfl (by (first | (dsimp only [ln1, ln2, List.append_nil, ln4, ln5, ln6, ln7, ln8, ln9, putAt, putd, allObjs, argEnv, un_v, un_ptr, un_ep, un_pr, un_sl, un_mp, un_row, un_agg, un_tup, un_clo, Nat.zero_add, lnb, Nat.reduceAdd, lnc, lnd]; first | done | exact rfl) | exact rfl)) ?_))) | (((refine rg 8 ?_)); (all_goals (refine mV ?_; refine vc_callw [0] rfl rfl hf rfl rfl (by decide) ⟨.inr rfl, trivial⟩ (by simp) rfl ?_))) | (((refine rg 9 ?_)); (all_goals (refine aV ?_))) | (refine vc_nilp (by (first | (dsimp only [ln1, ln2, List.append_nil, ln4, ln5, ln6, ln7, ln8, ln9, putAt, putd, allObjs, argEnv, un_v, un_ptr, un_ep, un_pr, un_sl, un_mp, un_row, un_agg, un_tup, un_clo, Nat.zero_add, lnb, Nat.reduceAdd, lnc, lnd]; first | done | exact rfl) | exact rfl)) ?_))
        all_goals first | (exfalso; omega) | exact ⟨.inl rfl, [0], _, rfl, rfl, rfl, ⟨.inr rfl, trivial⟩, by decide, lt1z⟩
    · skip
      have hA := atoi_bad (l := s) (fun n => by rw [ha]; exact fun h => by cases h) hsl
      repeat' (first|refine wS ?_|refine wB ?_|refine wK ?_|refine wR ?_|refine wE ?_|refine wT ?_|refine wU ?_|(refine wC rfl (fun hb=>?_) (fun hb=>?_)<;>(first|subst hb|((try simp only [nm] at hb);try (exfalso;omega))))|(refine rg 0 ?_;refine aV ?_)|(((refine aw_draw2k (id := 1) 64 [[],[0],[0,1],[0,1,2],[],[4],[4,5],[4,5,6],[4,5,6,7],[4,5,6,7,8],[0,1,2,3,4,5,6,7,8,9]] [11,12,13,14,15,16,17,18,19,20,21] [[],[],[],[],[11,12,13,14],[11,12,13,14],[11,12,13,14],[11,12,13,14],[11,12,13,14],[11,12,13,14],[]] mixedP rfl (by decide +kernel) ?_));(all_goals first|(refine dV rfl (by exact fs_move rfl) ?_));(all_goals first|(refine dV rfl (by exact fs_nilCheck rfl rfl) ?_));(all_goals first|(refine dV rfl (by exact fs_fieldAddr T rfl rfl rfl) ?_));(all_goals first|(refine dV rfl (by exact fs_load T rfl rfl rfl rfl) ?_));(all_goals first|(refine dV rfl (by exact fs_move rfl) ?_));(all_goals first|(refine dV rfl (by exact fs_nilCheck rfl rfl) ?_));(all_goals first|(refine dV rfl (by exact fs_fieldAddr T rfl rfl rfl) ?_));(all_goals first|(refine dV rfl (by exact fs_load T rfl rfl rfl rfl) ?_));(all_goals first|(refine dV rfl (by first|exact fs_lenOwn T rfl rfl|exact fs_lenRow T rfl rfl|exact fs_lenNil T rfl rfl|exact fs_lenS strTW rfl) ?_));(all_goals first|(refine dV rfl (by exact fs_min rfl rfl) ?_));(all_goals first|(refine dV rfl (by first|exact fs_sliceSe strTW rfl rfl rfl (by decide) (by omega) (by omega) e1|exact fs_sliceSe strTW rfl rfl rfl (by decide) (by omega) (by omega) e2) ?_));(all_goals (refine dw_fin rfl rfl (by (first|(dsimp only [ln1,ln2,List.append_nil,ln4,ln5,ln6,ln7,ln8,ln9,putAt,putd,allObjs,argEnv,un_v,un_ptr,un_ep,un_pr,un_sl,un_mp,un_row,un_agg,un_tup,un_clo,Nat.zero_add,lnb,Nat.reduceAdd,lnc,lnd];first|done|exact rfl)|exact rfl)) ?_;refine aV ?_)))|(refine rg 2 ?_;refine mV ?_;refine mV ?_;refine vV (by exact kC (hi)) ?_;refine aV ?_)|(refine rg 3 ?_;refine mV ?_;refine vV (by exact fs_lss rfl rfl) ?_)|(refine rg 6 ?_;refine mV ?_;refine mV ?_;refine vV (by first|exact fs_sliceSe strTW rfl rfl rfl (by decide) (by omega) (by omega) e1|exact fs_sliceSe strTW rfl rfl rfl (by decide) (by omega) (by omega) e2) ?_;refine vV (by exact kC (hA)) ?_;refine mV ?_;refine xV ?_;refine xV ?_;refine aV ?_;refine aV ?_)|(((refine aw_draw2k (id := 7) 64 [[],[0],[0,1],[0,1,2],[0,1,2,3],[0,1,2],[0,1,2],[0,1,2,5,6],[0,1,2,3,4,5,6,7],[0,1,2,3,4,5,6,7,8],[0,1,2,3,4,5,6,7,8,9],[0,1,2,3,4,5,6,7,8,9,10],[0,1,2,3,4,5,6,7,8,9,10],[0,1,2,3,4,5,6,7,8,9,10,11,12],[0,1,2,3,4,5,6,7,8,9,10,11,12,13]] [36,37,38,39,40,41,42,43,44,45,46,47,48,49,50] [[],[],[],[],[],[39,40],[39,40,41],[39,40],[],[],[],[],[47],[],[]] mixedP rfl (by decide +kernel) ?_));(all_goals first|(refine dV rfl (by exact fs_move rfl) ?_));(all_goals first|(refine dV rfl (by first|exact fs_neq rfl rfl|exact fs_neqIfc rfl rfl) ?_));(all_goals first|(refine dV rfl (by exact fs_move rfl) ?_));(all_goals first|(refine dT rfl (by exact fs_move rfl) ?_)|(refine dG ?_)|(refine dH ?_)|(refine dw_split rfl rfl rfl rfl (fun hb=>?_) (fun hb=>?_)<;>(first|subst hb|(rw [hb];(try simp only [nm] at hb);try ((exfalso;omega);done)))<;>first|(refine dT rfl (by exact fs_move rfl) ?_)|(refine dG ?_)|(refine dH ?_)));(all_goals first|(refine dT rfl (by first|fail) ?_)|(refine dw_gn rfl rfl rfl rfl rfl (by first|fail) rfl ?_)|(refine dG ?_)|(refine dH ?_));(all_goals first|(refine dT rfl (by exact fs_move rfl) ?_)|(refine dG ?_)|(refine dH ?_));(all_goals first|(refine dT rfl (by exact fs_move rfl) ?_)|(refine dG ?_)|(refine dH ?_));(all_goals first|(refine dT rfl (by first|exact fs_sliceSe strTW rfl rfl rfl (by decide) (by omega) (by omega) e1|exact fs_sliceSe strTW rfl rfl rfl (by decide) (by omega) (by omega) e2) ?_)|(refine dG ?_)|(refine dH ?_));(all_goals first|(refine dT rfl (by first|exact fs_neq rfl rfl|exact fs_neqIfc rfl rfl) ?_)|(refine dG ?_)|(refine dH ?_));(all_goals first|(refine dV rfl (by first|exact fs_pickt rfl rfl|exact fs_pickf rfl rfl|exact fs_pick rfl rfl rfl) ?_));(all_goals first|(refine dV rfl (by exact fs_move rfl) ?_));(all_goals first|(refine dT rfl (by exact fs_move rfl) ?_)|(refine dG ?_)|(refine dH ?_)|(refine dw_split rfl rfl rfl rfl (fun hb=>?_) (fun hb=>?_)<;>(first|subst hb|(rw [hb];(try simp only [nm] at hb);try ((exfalso;omega);done)))<;>first|(refine dT rfl (by exact fs_move rfl) ?_)|(refine dG ?_)|(refine dH ?_)));(all_goals first|(refine dT rfl (by exact fs_move rfl) ?_)|(refine dG ?_)|(refine dH ?_));(all_goals first|(refine dT rfl (by exact fs_lss rfl rfl) ?_)|(refine dG ?_)|(refine dH ?_));(all_goals first|(refine dV rfl (by first|exact fs_pickt rfl rfl|exact fs_pickf rfl rfl|exact fs_pick rfl rfl rfl) ?_));(all_goals (refine dw_fin rfl rfl (by (first|(dsimp only [ln1,ln2,List.append_nil,ln4,ln5,ln6,ln7,ln8,ln9,putAt,putd,allObjs,argEnv,un_v,un_ptr,un_ep,un_pr,un_sl,un_mp,un_row,un_agg,un_tup,un_clo,Nat.zero_add,lnb,Nat.reduceAdd,lnc,lnd];first|done|exact rfl)|exact rfl)) ?_)))|(refine rg 8 ?_;refine mV ?_;refine vc_callw [0] rfl rfl hf rfl rfl (by decide) ⟨.inr rfl,trivial⟩ (by simp) rfl ?_)|(refine rg 9 ?_;refine aV ?_)|refine nZ ?_)
      all_goals first | (exfalso; omega) | exact ⟨.inl rfl, [0], _, rfl, rfl, rfl, ⟨.inr rfl, trivial⟩, by decide, lt1z⟩
    · skip
      have hA := atoi_bad (l := s) (fun n => by rw [ha]; exact fun h => by cases h) hsl
      repeat' (first|refine wS ?_|refine wB ?_|refine wK ?_|refine wR ?_|refine wE ?_|refine wT ?_|refine wU ?_|(refine wC rfl (fun hb=>?_) (fun hb=>?_)<;>(first|subst hb|((try simp only [nm] at hb);try (exfalso;omega))))|(refine rg 0 ?_;refine aV ?_)|(((refine aw_draw2k (id := 1) 64 [[],[0],[0,1],[0,1,2],[],[4],[4,5],[4,5,6],[4,5,6,7],[4,5,6,7,8],[0,1,2,3,4,5,6,7,8,9]] [11,12,13,14,15,16,17,18,19,20,21] [[],[],[],[],[11,12,13,14],[11,12,13,14],[11,12,13,14],[11,12,13,14],[11,12,13,14],[11,12,13,14],[]] mixedP rfl (by decide +kernel) ?_));(all_goals first|(refine dV rfl (by exact fs_move rfl) ?_));(all_goals first|(refine dV rfl (by exact fs_nilCheck rfl rfl) ?_));(all_goals first|(refine dV rfl (by exact fs_fieldAddr T rfl rfl rfl) ?_));(all_goals first|(refine dV rfl (by exact fs_load T rfl rfl rfl rfl) ?_));(all_goals first|(refine dV rfl (by exact fs_move rfl) ?_));(all_goals first|(refine dV rfl (by exact fs_nilCheck rfl rfl) ?_));(all_goals first|(refine dV rfl (by exact fs_fieldAddr T rfl rfl rfl) ?_));(all_goals first|(refine dV rfl (by exact fs_load T rfl rfl rfl rfl) ?_));(all_goals first|(refine dV rfl (by first|exact fs_lenOwn T rfl rfl|exact fs_lenRow T rfl rfl|exact fs_lenNil T rfl rfl|exact fs_lenS strTW rfl) ?_));(all_goals first|(refine dV rfl (by exact fs_min rfl rfl) ?_));(all_goals first|(refine dV rfl (by first|exact fs_sliceSe strTW rfl rfl rfl (by decide) (by omega) (by omega) e1|exact fs_sliceSe strTW rfl rfl rfl (by decide) (by omega) (by omega) e2) ?_));(all_goals (refine dw_fin rfl rfl (by (first|(dsimp only [ln1,ln2,List.append_nil,ln4,ln5,ln6,ln7,ln8,ln9,putAt,putd,allObjs,argEnv,un_v,un_ptr,un_ep,un_pr,un_sl,un_mp,un_row,un_agg,un_tup,un_clo,Nat.zero_add,lnb,Nat.reduceAdd,lnc,lnd];first|done|exact rfl)|exact rfl)) ?_;refine aV ?_)))|(refine rg 2 ?_;refine mV ?_;refine mV ?_;refine vV (by exact kC (hi)) ?_;refine aV ?_)|(refine rg 3 ?_;refine mV ?_;refine vV (by exact fs_lss rfl rfl) ?_)|(refine rg 6 ?_;refine mV ?_;refine mV ?_;refine vV (by first|exact fs_sliceSe strTW rfl rfl rfl (by decide) (by omega) (by omega) e1|exact fs_sliceSe strTW rfl rfl rfl (by decide) (by omega) (by omega) e2) ?_;refine vV (by exact kC (hA)) ?_;refine mV ?_;refine xV ?_;refine xV ?_;refine aV ?_;refine aV ?_)|(((refine aw_draw2k (id := 7) 64 [[],[0],[0,1],[0,1,2],[0,1,2,3],[0,1,2],[0,1,2],[0,1,2,5,6],[0,1,2,3,4,5,6,7],[0,1,2,3,4,5,6,7,8],[0,1,2,3,4,5,6,7,8,9],[0,1,2,3,4,5,6,7,8,9,10],[0,1,2,3,4,5,6,7,8,9,10],[0,1,2,3,4,5,6,7,8,9,10,11,12],[0,1,2,3,4,5,6,7,8,9,10,11,12,13]] [36,37,38,39,40,41,42,43,44,45,46,47,48,49,50] [[],[],[],[],[],[39,40],[39,40,41],[39,40],[],[],[],[],[47],[],[]] mixedP rfl (by decide +kernel) ?_));(all_goals first|(refine dV rfl (by exact fs_move rfl) ?_));(all_goals first|(refine dV rfl (by first|exact fs_neq rfl rfl|exact fs_neqIfc rfl rfl) ?_));(all_goals first|(refine dV rfl (by exact fs_move rfl) ?_));(all_goals first|(refine dT rfl (by exact fs_move rfl) ?_)|(refine dG ?_)|(refine dH ?_)|(refine dw_split rfl rfl rfl rfl (fun hb=>?_) (fun hb=>?_)<;>(first|subst hb|(rw [hb];(try simp only [nm] at hb);try ((exfalso;omega);done)))<;>first|(refine dT rfl (by exact fs_move rfl) ?_)|(refine dG ?_)|(refine dH ?_)));(all_goals first|(refine dT rfl (by first|fail) ?_)|(refine dw_gn rfl rfl rfl rfl rfl (by first|fail) rfl ?_)|(refine dG ?_)|(refine dH ?_));(all_goals first|(refine dT rfl (by exact fs_move rfl) ?_)|(refine dG ?_)|(refine dH ?_));(all_goals first|(refine dT rfl (by exact fs_move rfl) ?_)|(refine dG ?_)|(refine dH ?_));(all_goals first|(refine dT rfl (by first|exact fs_sliceSe strTW rfl rfl rfl (by decide) (by omega) (by omega) e1|exact fs_sliceSe strTW rfl rfl rfl (by decide) (by omega) (by omega) e2) ?_)|(refine dG ?_)|(refine dH ?_));(all_goals first|(refine dT rfl (by first|exact fs_neq rfl rfl|exact fs_neqIfc rfl rfl) ?_)|(refine dG ?_)|(refine dH ?_));(all_goals first|(refine dV rfl (by first|exact fs_pickt rfl rfl|exact fs_pickf rfl rfl|exact fs_pick rfl rfl rfl) ?_));(all_goals first|(refine dV rfl (by exact fs_move rfl) ?_));(all_goals first|(refine dT rfl (by exact fs_move rfl) ?_)|(refine dG ?_)|(refine dH ?_)|(refine dw_split rfl rfl rfl rfl (fun hb=>?_) (fun hb=>?_)<;>(first|subst hb|(rw [hb];(try simp only [nm] at hb);try ((exfalso;omega);done)))<;>first|(refine dT rfl (by exact fs_move rfl) ?_)|(refine dG ?_)|(refine dH ?_)));(all_goals first|(refine dT rfl (by exact fs_move rfl) ?_)|(refine dG ?_)|(refine dH ?_));(all_goals first|(refine dT rfl (by exact fs_lss rfl rfl) ?_)|(refine dG ?_)|(refine dH ?_));(all_goals first|(refine dV rfl (by first|exact fs_pickt rfl rfl|exact fs_pickf rfl rfl|exact fs_pick rfl rfl rfl) ?_));(all_goals (refine dw_fin rfl rfl (by (first|(dsimp only [ln1,ln2,List.append_nil,ln4,ln5,ln6,ln7,ln8,ln9,putAt,putd,allObjs,argEnv,un_v,un_ptr,un_ep,un_pr,un_sl,un_mp,un_row,un_agg,un_tup,un_clo,Nat.zero_add,lnb,Nat.reduceAdd,lnc,lnd];first|done|exact rfl)|exact rfl)) ?_)))|(refine rg 8 ?_;refine mV ?_;refine vc_callw [0] rfl rfl hf rfl rfl (by decide) ⟨.inr rfl,trivial⟩ (by simp) rfl ?_)|(refine rg 9 ?_;refine aV ?_)|refine nZ ?_)
      all_goals first | (exfalso; omega) | exact ⟨.inl rfl, [0], _, rfl, rfl, rfl, ⟨.inr rfl, trivial⟩, by decide, lt1z⟩
theorem number2_c (r r' : List UInt8) (b : Bool) (e : UInt8) (lo n : Int) (hl : r.length ≤ 1000000000) (h : numP r e lo = some (n, r')) :
    ACall Tryz.prog 43 [.ptr 0 0, .v (.int .u8 e.toNat), .i lo] [.cells [.s r, .b b]] (.i n) [.cells [.s r', .b b]] := by
  have hi := idxW_c (r.take 21) e
  have e1 : ((r.take (min (r.length : Int) 21).toNat).drop (0 : Int).toNat) = r.take 21 := by
    rw [Int.toNat_zero, List.drop_zero]
    by_cases h21 : r.length ≤ 21
    · rw [List.take_of_length_le (by omega), List.take_of_length_le h21]
    · rw [show (min (r.length : Int) 21).toNat = 21 by omega]
  unfold numP at h
  by_cases h0 : Lib.indexByte (r.take 21) e < 0
  · rw [if_pos h0] at h; cases h
  rw [if_neg h0] at h
  obtain ⟨k1, k2⟩ := index_le (Int.not_lt.1 h0)
  have e2 : (((r.take 21).take (Lib.indexByte (r.take 21) e).toNat).drop (0 : Int).toNat) = r.take (Lib.indexByte (r.take 21) e).toNat := by
    rw [Int.toNat_zero, List.drop_zero, List.take_take, Nat.min_eq_left (by omega)]
  have e3 : (r.take ((r.length : Int)).toNat).drop (Lib.indexByte (r.take 21) e + 1).toNat = r.drop ((Lib.indexByte (r.take 21) e).toNat + 1) := by
    rw [Int.toNat_natCast, List.take_length, show (Lib.indexByte (r.take 21) e + 1).toNat = (Lib.indexByte (r.take 21) e).toNat + 1 by omega]
  have hk : (Lib.indexByte (r.take 21) e).toNat ≤ (r.take 21).length := by rw [List.length_take]; omega
  have hsl : (r.take (Lib.indexByte (r.take 21) e).toNat).length ≤ 1000000 := by rw [List.length_take]; omega
  generalize Lib.indexByte (r.take 21) e = at_ at *
  generalize r.take at_.toNat = s at *
  rcases ha : Lib.atoiAll s with n' | _ | _
  · skip
    rw [ha] at h
    dsimp only at h
    split at h
    · rename_i hc
      simp only [Option.some.injEq, Prod.mk.injEq] at h
      obtain ⟨rfl, rfl⟩ := h
      have hA := atoi_ok ha hsl
      have hb := Lib.atoiAll_bounds ha
      have hI := itoa_c (n := n') ⟨hb.1, hb.2⟩
      obtain ⟨hc, hlo⟩ := hc
      generalize r.drop (at_.toNat + 1) = r' at *
      refine acall T Tryz.func43 rfl rfl rfl rfl ?_
      repeat' (first|refine wS ?_|refine wB ?_|refine wK ?_|refine wR ?_|refine wE ?_|refine wT ?_|refine wU ?_|(refine wC rfl (fun hb=>?_) (fun hb=>?_)<;>(first|subst hb|((try simp only [nm] at hb);try (exfalso;omega))))|(refine rg 0 ?_;refine aV ?_)|(((refine aw_draw2k (id := 1) 64 [[],[0],[0,1],[0,1,2],[],[4],[4,5],[4,5,6],[4,5,6,7],[4,5,6,7,8],[0,1,2,3,4,5,6,7,8,9]] [11,12,13,14,15,16,17,18,19,20,21] [[],[],[],[],[11,12,13,14],[11,12,13,14],[11,12,13,14],[11,12,13,14],[11,12,13,14],[11,12,13,14],[]] mixedP rfl (by decide +kernel) ?_));(all_goals first|(refine dV rfl (by exact fs_move rfl) ?_));(all_goals first|(refine dV rfl (by exact fs_nilCheck rfl rfl) ?_));(all_goals first|(refine dV rfl (by exact fs_fieldAddr T rfl rfl rfl) ?_));(all_goals first|(refine dV rfl (by exact fs_load T rfl rfl rfl rfl) ?_));(all_goals first|(refine dV rfl (by exact fs_move rfl) ?_));(all_goals first|(refine dV rfl (by exact fs_nilCheck rfl rfl) ?_));(all_goals first|(refine dV rfl (by exact fs_fieldAddr T rfl rfl rfl) ?_));(all_goals first|(refine dV rfl (by exact fs_load T rfl rfl rfl rfl) ?_));(all_goals first|(refine dV rfl (by first|exact fs_lenOwn T rfl rfl|exact fs_lenRow T rfl rfl|exact fs_lenNil T rfl rfl|exact fs_lenS strTW rfl) ?_));(all_goals first|(refine dV rfl (by exact fs_min rfl rfl) ?_));(all_goals first|(refine dV rfl (by first|exact fs_sliceSe strTW rfl rfl rfl (by decide) (by omega) (by omega) e1|exact fs_sliceSe strTW rfl rfl rfl (by decide) (by omega) (by omega) e2|exact fs_sliceSe strTW rfl rfl rfl (by omega) (by omega) (by omega) e3) ?_));(all_goals (refine dw_fin rfl rfl (by (first|(dsimp only [ln1,ln2,List.append_nil,ln4,ln5,ln6,ln7,ln8,ln9,putAt,putd,allObjs,argEnv,un_v,un_ptr,un_ep,un_pr,un_sl,un_mp,un_row,un_agg,un_tup,un_clo,Nat.zero_add,lnb,Nat.reduceAdd,lnc,lnd];first|done|exact rfl)|exact rfl)) ?_;refine aV ?_)))|(refine rg 2 ?_;refine mV ?_;refine mV ?_;refine vV (by exact kC (hi)) ?_;refine aV ?_)|(refine rg 3 ?_;refine mV ?_;refine vV (by exact fs_lss rfl rfl) ?_)|(refine rg 6 ?_;refine mV ?_;refine mV ?_;refine vV (by first|exact fs_sliceSe strTW rfl rfl rfl (by decide) (by omega) (by omega) e1|exact fs_sliceSe strTW rfl rfl rfl (by decide) (by omega) (by omega) e2|exact fs_sliceSe strTW rfl rfl rfl (by omega) (by omega) (by omega) e3) ?_;refine vV (by exact kC (hA)) ?_;refine mV ?_;refine xV ?_;refine xV ?_;refine aV ?_;refine aV ?_)|(((refine aw_draw2k (id := 7) 64 [[],[0],[0,1],[0,1,2],[0,1,2,3],[0,1,2],[0,1,2],[0,1,2,5,6],[0,1,2,3,4,5,6,7],[0,1,2,3,4,5,6,7,8],[0,1,2,3,4,5,6,7,8,9],[0,1,2,3,4,5,6,7,8,9,10],[0,1,2,3,4,5,6,7,8,9,10],[0,1,2,3,4,5,6,7,8,9,10,11,12],[0,1,2,3,4,5,6,7,8,9,10,11,12,13]] [36,37,38,39,40,41,42,43,44,45,46,47,48,49,50] [[],[],[],[],[],[39,40],[39,40,41],[39,40],[],[],[],[],[47],[],[]] mixedP rfl (by decide +kernel) ?_));(all_goals first|(refine dV rfl (by exact fs_move rfl) ?_));(all_goals first|(refine dV rfl (by first|exact fs_neq rfl rfl|exact fs_neqNilI rfl|exact fs_neqSF rfl rfl hc) ?_));(all_goals first|(refine dV rfl (by exact fs_move rfl) ?_));(all_goals first|(refine dT rfl (by exact fs_move rfl) ?_)|(refine dG ?_)|(refine dH ?_)|(refine dw_split rfl rfl rfl rfl (fun hb=>?_) (fun hb=>?_)<;>(first|subst hb|(rw [hb];(try simp only [nm] at hb);try ((exfalso;omega);done)))<;>first|(refine dT rfl (by exact fs_move rfl) ?_)|(refine dG ?_)|(refine dH ?_)));(all_goals first|(refine dT rfl (by first|exact kC (hI)) ?_)|(refine dw_gn rfl rfl rfl rfl rfl (by first|exact kC (hI)) rfl ?_)|(refine dG ?_)|(refine dH ?_));(all_goals first|(refine dT rfl (by exact fs_move rfl) ?_)|(refine dG ?_)|(refine dH ?_));(all_goals first|(refine dT rfl (by exact fs_move rfl) ?_)|(refine dG ?_)|(refine dH ?_));(all_goals first|(refine dT rfl (by first|exact fs_sliceSe strTW rfl rfl rfl (by decide) (by omega) (by omega) e1|exact fs_sliceSe strTW rfl rfl rfl (by decide) (by omega) (by omega) e2|exact fs_sliceSe strTW rfl rfl rfl (by omega) (by omega) (by omega) e3) ?_)|(refine dG ?_)|(refine dH ?_));(all_goals first|(refine dT rfl (by first|exact fs_neq rfl rfl|exact fs_neqNilI rfl|exact fs_neqSF rfl rfl hc) ?_)|(refine dG ?_)|(refine dH ?_));(all_goals first|(refine dV rfl (by first|exact fs_pickt rfl rfl|exact fs_pickf rfl rfl|exact fs_pick rfl rfl rfl) ?_));(all_goals first|(refine dV rfl (by exact fs_move rfl) ?_));(all_goals first|(refine dT rfl (by exact fs_move rfl) ?_)|(refine dG ?_)|(refine dH ?_)|(refine dw_split rfl rfl rfl rfl (fun hb=>?_) (fun hb=>?_)<;>(first|subst hb|(rw [hb];(try simp only [nm] at hb);try ((exfalso;omega);done)))<;>first|(refine dT rfl (by exact fs_move rfl) ?_)|(refine dG ?_)|(refine dH ?_)));(all_goals first|(refine dT rfl (by exact fs_move rfl) ?_)|(refine dG ?_)|(refine dH ?_));(all_goals first|(refine dT rfl (by exact fs_lss rfl rfl) ?_)|(refine dG ?_)|(refine dH ?_));(all_goals first|(refine dV rfl (by first|exact fs_pickt rfl rfl|exact fs_pickf rfl rfl|exact fs_pick rfl rfl rfl) ?_));(all_goals (refine dw_fin rfl rfl (by (first|(dsimp only [ln1,ln2,List.append_nil,ln4,ln5,ln6,ln7,ln8,ln9,putAt,putd,allObjs,argEnv,un_v,un_ptr,un_ep,un_pr,un_sl,un_mp,un_row,un_agg,un_tup,un_clo,Nat.zero_add,lnb,Nat.reduceAdd,lnc,lnd];first|done|exact rfl)|exact rfl)) ?_)))|(refine rg 10 ?_;refine mV ?_;refine mV ?_;refine nV ?_;refine fV T ?_;refine lV T ?_;refine mV ?_;refine vV (by first|exact fs_addr rfl rfl (by omega) (by omega)|exact fs_add rfl rfl) ?_;refine vV (by first|exact fs_sliceSe strTW rfl rfl rfl (by decide) (by omega) (by omega) e1|exact fs_sliceSe strTW rfl rfl rfl (by decide) (by omega) (by omega) e2|exact fs_sliceSe strTW rfl rfl rfl (by omega) (by omega) (by omega) e3) ?_;refine nV ?_;refine fV T ?_;refine vc_store T rfl rfl rfl rfl rfl rfl (by decide) rfl ?_)|(refine rg 11 ?_;refine mV ?_;refine aV ?_)|refine nZ ?_)
      all_goals first | (exfalso; omega) | exact ⟨.inl rfl, [0], _, rfl, rfl, rfl, ⟨.inr rfl, trivial⟩, by decide, lt1z⟩
    · cases h
  · rw [ha] at h; cases h
  · rw [ha] at h; cases h
theorem number_c (s : St) (e : UInt8) (lo : Int) (hl : (s.getD []).length ≤ 1000000000) :
    ACall Tryz.prog 43 [.ptr 0 0, .v (.int .u8 e.toNat), .i lo] (rdH s) (.i (numS s e lo).1) (rdH (numS s e lo).2) := by
  cases s with
  | none => rw [numS_none]; exact number1_c [] true e lo hl (numP_nil e lo)
  | some r =>
    cases hp : numP r e lo with
    | none => rw [numS_fail hp]; exact number1_c r false e lo hl hp
    | some p => rw [numS_some hp]; exact number2_c r p.2 false e lo p.1 hl hp
end Go.Proofs.YtjpcpbbkelgkeaaGreatDoor
namespace Go.Proofs.YtjpcpbbkelgkeaaGreatDoor
open Go Go.Ab Go.Wr
attribute [local irreducible] VC AW FStep ACall
set_option maxHeartbeats 4000000
theorem cut_some {c e : UInt8} {r : List UInt8} (h : c = e) : Lib.hasPrefix (c :: r) [e] = true ∧ Lib.trimPrefix (c :: r) [e] = r := by
  subst h
  simp [Lib.hasPrefix, Lib.trimPrefix, List.isPrefixOf]
theorem cut_none {r : List UInt8} {e : UInt8} (h : ∀ r', r ≠ e :: r') : Lib.hasPrefix r [e] = false ∧ Lib.trimPrefix r [e] = r := by
  have h1 : Lib.hasPrefix r [e] = false := by
    cases r with
    | nil => rfl
    | cons c r =>
      have : e ≠ c := fun q => h r (by rw [q])
      simp [Lib.hasPrefix, List.isPrefixOf, this]
  exact ⟨h1, by simp [Lib.trimPrefix, h1]⟩
theorem closeT_c (c : UInt8) (r : List UInt8) (b : Bool) : ACall Tryz.prog 63 [.ptr 0 0, .s [c]] [.cells [.s (c :: r), .b b]] (.tup []) [.cells [.s r, .b b]] := by
  obtain ⟨h1, h2⟩ := cut_some (c := c) (e := c) (r := r) rfl
  have hc := cut_c (c :: r) [c]
  rw [h1, h2] at hc
  refine acall T Tryz.func63 rfl rfl rfl rfl ?_
  repeat' (first|refine wS ?_|refine wB ?_|refine wK ?_|refine wR ?_|refine wE ?_|refine wT ?_|refine wU ?_|(refine wC rfl (fun hb=>?_) (fun hb=>?_)<;>(first|subst hb|((try simp only [nm] at hb);try (exfalso;omega))))|(refine rg 0 ?_;refine mV ?_;refine nV ?_;refine fV T ?_;refine lV T ?_;refine mV ?_;refine vV (by exact kC (hc)) ?_;refine mV ?_;refine xV ?_;refine xV ?_;refine aV ?_;refine aV ?_)|(refine rg 1 ?_;refine mV ?_;refine mV ?_;refine nV ?_;refine fV T ?_;refine vc_store T rfl rfl rfl rfl rfl rfl (by decide) rfl ?_)|(refine rg 2 ?_;refine mV ?_;refine vV (by exact fs_not rfl) ?_)|refine nZ ?_)
  all_goals exact ⟨.inr rfl, [0], _, rfl, rfl, rfl, ⟨.inr rfl, trivial⟩, by decide, lt1z⟩
theorem closeF_c (r : List UInt8) (b : Bool) (e : UInt8) (h : ∀ r', r ≠ e :: r') : ACall Tryz.prog 63 [.ptr 0 0, .s [e]] [.cells [.s r, .b b]] (.tup []) [.cells [.s [], .b true]] := by
  obtain ⟨h1, h2⟩ := cut_none h
  have hc := cut_c r [e]
  rw [h1, h2] at hc
  have hf := fail_c r b
  refine acall T Tryz.func63 rfl rfl rfl rfl ?_
  repeat' (first|refine wS ?_|refine wB ?_|refine wK ?_|refine wR ?_|refine wE ?_|refine wT ?_|refine wU ?_|(refine wC rfl (fun hb=>?_) (fun hb=>?_)<;>(first|subst hb|((try simp only [nm] at hb);try (exfalso;omega))))|(refine rg 0 ?_;refine mV ?_;refine nV ?_;refine fV T ?_;refine lV T ?_;refine mV ?_;refine vV (by exact kC (hc)) ?_;refine mV ?_;refine xV ?_;refine xV ?_;refine aV ?_;refine aV ?_)|(refine rg 1 ?_;refine mV ?_;refine mV ?_;refine nV ?_;refine fV T ?_;refine vc_store T rfl rfl rfl rfl rfl rfl (by decide) rfl ?_)|(refine rg 2 ?_;refine mV ?_;refine vV (by exact fs_not rfl) ?_)|(refine rg 3 ?_;refine mV ?_;refine vc_callw [0] rfl rfl hf rfl rfl (by decide) ⟨.inr rfl,trivial⟩ (by simp) rfl ?_)|refine nZ ?_)
  all_goals exact ⟨.inr rfl, [0], _, rfl, rfl, rfl, ⟨.inr rfl, trivial⟩, by decide, lt1z⟩
theorem close_c (s : St) (e : UInt8) : ACall Tryz.prog 63 [.ptr 0 0, .s [e]] (rdH s) (.tup []) (rdH (closeS s e)) := by
  match s with
  | none => exact closeF_c [] true e (fun r' h => by cases h)
  | some [] => exact closeF_c [] false e (fun r' h => by cases h)
  | some (c :: r) =>
    by_cases h : c = e
    · subst h
      have := closeT_c c r false
      rw [show closeS (some (c :: r)) c = some r from if_pos rfl]
      exact this
    · have := closeF_c (c :: r) false e (fun r' q => h (by cases q; rfl))
      rw [show closeS (some (c :: r)) e = none from if_neg h]
      exact this
theorem int_c (s : St) (hl : (s.getD []).length ≤ 1000000000) : ACall Tryz.prog 17 [.ptr 0 0] (rdH s) (.i (intS s).1) (rdH (intS s).2) := by
  have hc := number_c s 59 (-9223372036854775808) hl
  refine acall T Tryz.func17 rfl rfl rfl rfl ?_
  repeat' (first|refine wS ?_|refine wB ?_|refine wK ?_|refine wR ?_|refine wE ?_|refine wT ?_|refine wU ?_|(refine wC rfl (fun hb=>?_) (fun hb=>?_)<;>(first|subst hb|((try simp only [nm] at hb);try (exfalso;omega))))|(refine rg 0 ?_;refine aV ?_)|(refine rg 1 ?_;refine mV ?_;refine vc_callw [0] rfl rfl hc rfl rfl (by decide) ⟨.inr rfl,trivial⟩ (by simp) rfl ?_;refine aV ?_)|refine nZ ?_)
  all_goals exact ⟨.inl rfl, [0], _, rfl, rfl, rfl, ⟨.inr rfl, trivial⟩, by decide, lt1z⟩
theorem num_c (s : St) (hl : (s.getD []).length ≤ 1000000000) : ACall Tryz.prog 18 [.ptr 0 0] (rdH s) (.i (numS s 59 0).1) (rdH (numS s 59 0).2) := by
  have hc := number_c s 59 0 hl
  refine acall T Tryz.func18 rfl rfl rfl rfl ?_
  repeat' (first|refine wS ?_|refine wB ?_|refine wK ?_|refine wR ?_|refine wE ?_|refine wT ?_|refine wU ?_|(refine wC rfl (fun hb=>?_) (fun hb=>?_)<;>(first|subst hb|((try simp only [nm] at hb);try (exfalso;omega))))|(refine rg 0 ?_;refine aV ?_)|(refine rg 1 ?_;refine mV ?_;refine vc_callw [0] rfl rfl hc rfl rfl (by decide) ⟨.inr rfl,trivial⟩ (by simp) rfl ?_;refine aV ?_)|refine nZ ?_)
  all_goals exact ⟨.inl rfl, [0], _, rfl, rfl, rfl, ⟨.inr rfl, trivial⟩, by decide, lt1z⟩
theorem left_c (s : St) : ACall Tryz.prog 19 [.ptr 0 0] (rdH s) (.i (s.getD []).length) (rdH s) := by
  refine acall T Tryz.func19 rfl rfl rfl rfl ?_
  repeat' (first|refine wS ?_|refine wB ?_|refine wK ?_|refine wR ?_|refine wE ?_|refine wT ?_|refine wU ?_|(refine wC rfl (fun hb=>?_) (fun hb=>?_)<;>(first|subst hb|((try simp only [nm] at hb);try (exfalso;omega))))|(refine rg 0 ?_;refine aV ?_)|(refine rg 1 ?_;refine mV ?_;refine nV ?_;refine fV T ?_;refine lV T ?_;refine vV (by first|exact fs_lenOwn T rfl rfl|exact fs_lenRow T rfl rfl|exact fs_lenNil T rfl rfl|exact fs_lenS strTW rfl) ?_;refine aV ?_)|refine nZ ?_)
  all_goals exact ⟨.inl rfl, [0], _, rfl, rfl, rfl, ⟨.inr rfl, trivial⟩, by decide, lt1z⟩
theorem done_c (s : St) : ACall Tryz.prog 21 [.ptr 0 0] (rdH s) (.b (decide (s = some []))) (rdH s) := by
  refine acall T Tryz.func21 rfl rfl rfl rfl ?_
  match s with
  | none =>
    repeat' (first|refine wS ?_|refine wB ?_|refine wK ?_|refine wR ?_|refine wE ?_|refine wT ?_|refine wU ?_|(refine wC rfl (fun hb=>?_) (fun hb=>?_)<;>(first|subst hb|((try simp only [nm] at hb);try (exfalso;omega))))|(refine rg 0 ?_;refine aV ?_)|(refine rg 1 ?_;(all_goals (refine mV ?_;refine nV ?_;refine fV T ?_;refine lV T ?_;refine vV (by exact fs_not rfl) ?_;refine mV ?_));(all_goals first|(refine gK ?_)|(refine vc_split rfl rfl (fun hb=>?_) (fun hb=>?_)<;>(first|subst hb|(rw [hb];(try simp only [nm] at hb);try ((exfalso;omega);done)))));(all_goals first|(refine gT ?_;(refine mV ?_);refine gT ?_;(refine nV ?_);refine gT ?_;(refine fV T ?_);refine gT ?_;(refine lV T ?_);refine gT ?_;(refine vV (by exact fs_eql rfl rfl) ?_))|(iterate 5 first|refine gF ?_|refine gU ?_));(all_goals ((first|refine pV ?_|refine vV (by exact fs_pick rfl rfl rfl) ?_);refine aV ?_)))|refine nZ ?_)
    all_goals exact ⟨.inl rfl, [0], _, rfl, rfl, rfl, ⟨.inr rfl, trivial⟩, by decide, lt1z⟩
  | some r =>
    rw [show decide ((some r : St) = some []) = decide (r = []) from by simp]
    repeat' (first|refine wS ?_|refine wB ?_|refine wK ?_|refine wR ?_|refine wE ?_|refine wT ?_|refine wU ?_|(refine wC rfl (fun hb=>?_) (fun hb=>?_)<;>(first|subst hb|((try simp only [nm] at hb);try (exfalso;omega))))|(refine rg 0 ?_;refine aV ?_)|(refine rg 1 ?_;(all_goals (refine mV ?_;refine nV ?_;refine fV T ?_;refine lV T ?_;refine vV (by exact fs_not rfl) ?_;refine mV ?_));(all_goals first|(refine gK ?_)|(refine vc_split rfl rfl (fun hb=>?_) (fun hb=>?_)<;>(first|subst hb|(rw [hb];(try simp only [nm] at hb);try ((exfalso;omega);done)))));(all_goals first|(refine gT ?_;(refine mV ?_);refine gT ?_;(refine nV ?_);refine gT ?_;(refine fV T ?_);refine gT ?_;(refine lV T ?_);refine gT ?_;(refine vV (by first|exact fs_eql rfl rfl|exact fs_eqlS (a := r) (b := []) rfl rfl) ?_))|(iterate 5 first|refine gF ?_|refine gU ?_));(all_goals ((first|refine pV ?_|refine vV (by exact fs_pick rfl rfl rfl) ?_);refine aV ?_)))|refine nZ ?_)
    all_goals exact ⟨.inl rfl, [0], _, rfl, rfl, rfl, ⟨.inr rfl, trivial⟩, by decide, lt1z⟩
theorem lt1qW : ∀ i : Nat, i < 1 → ([0, 1] : List Nat)[i]? = some i := by decide
theorem lt1z2 : ∀ i : Nat, i < 1 → ([0, 2] : List Nat)[i]? = some i := by decide
theorem lt1z3 : ∀ i : Nat, i < 1 → ([0, 3] : List Nat)[i]? = some i := by decide
theorem intS_len (r : List UInt8) : (intS (some r)).2 = none ∨ ∃ r', (intS (some r)).2 = some r' ∧ r'.length + 2 ≤ r.length := by
  cases h : (intS (some r)).2 with
  | none => exact .inl rfl
  | some r' =>
    obtain ⟨r0, e, _, h3⟩ := numS_len h
    cases e
    exact .inr ⟨r', rfl, h3⟩
theorem itemsL_len : ∀ (k : Nat) (s : St), 2 * (itemsL k s).1.length + ((itemsL k s).2.getD []).length ≤ (s.getD []).length + 2
  | 0, s => by simp [itemsL]
  | k + 1, none => by simp [itemsL]
  | k + 1, some r => by
    have ih := itemsL_len k (intS (some r)).2
    show 2 * ((intS (some r)).1 :: (itemsL k (intS (some r)).2).1).length + ((itemsL k (intS (some r)).2).2.getD []).length ≤ r.length + 2
    rw [List.length_cons]
    rcases intS_len r with h | ⟨r', h, hl⟩
    · rw [h, itemsL_none]
      simp
    · rw [h] at ih ⊢
      have e : ((some r' : St).getD []).length = r'.length := rfl
      omega
theorem numS_lenLe {s : St} {e : UInt8} {lo : Int} : (numS s e lo).2 = none ∨ ((numS s e lo).2.getD []).length + 2 ≤ (s.getD []).length := by
  cases h : (numS s e lo).2 with
  | none => exact .inl rfl
  | some r =>
    obtain ⟨r0, rfl, _, h3⟩ := numS_len h
    exact .inr h3
theorem numsS_len (s : St) : 2 * (numsS s).1.length + ((numsS s).2.getD []).length ≤ (s.getD []).length := by
  unfold numsS
  dsimp only
  split
  · simp
  · rename_i ht
    have hi := itemsL_len (numS s 91 0).1.toNat (numS s 91 0).2
    have hc : ∀ t : St, ((closeS t 93).getD []).length ≤ (t.getD []).length := fun t => by
      match t with
      | none => simp [closeS]
      | some [] => simp [closeS]
      | some (c :: r) =>
        unfold closeS
        dsimp only
        split <;> simp
    have h2 := hc (itemsL (numS s 91 0).1.toNat (numS s 91 0).2).2
    rcases numS_lenLe (s := s) (e := 91) (lo := 0) with h | h
    · exfalso
      rw [h, itemsL_none] at ht
      exact ht rfl
    · dsimp only
      omega
theorem numS_ge (s : St) (e : UInt8) : 0 ≤ (numS s e 0).1 := by
  unfold numS
  split
  · rename_i n r h
    have := (numP_some h).2.1
    split <;> simp <;> omega
  · simp
theorem items_c (s : St) (hl : (s.getD []).length ≤ 100000000) :
    ACall Tryz.prog 44 [.ptr 0 0, .clo (.func 17) [.ptr 0 0] []] (rdH s) (.sl 1 0 (numsS s).1.length 1) (rdH (numsS s).2 ++ [.arr (ints (numsS s).1) 1]) := by
  have hc := number_c s 91 0 (by omega)
  have hn0 := numS_ge s 91
  have hn1 := (numS_I64 s 91 0).2
  have hlen := numS_getD s 91 0
  have htot : numsS s = (if (closeS (itemsL (numS s 91 0).1.toNat (numS s 91 0).2).2 93).isNone then ([], none) else ((itemsL (numS s 91 0).1.toNat (numS s 91 0).2).1, closeS (itemsL (numS s 91 0).1.toNat (numS s 91 0).2).2 93)) := rfl
  rw [htot]
  clear htot
  generalize (numS s 91 0).1 = n at *
  generalize (numS s 91 0).2 = s1 at *
  have hil := itemsL_len n.toNat s1
  refine acall T Tryz.func44 rfl rfl rfl rfl ?_
  repeat' (first|refine wS ?_|refine wB ?_|refine wK ?_|refine wR ?_|refine wE ?_|refine wT ?_|refine wU ?_|(refine wC rfl (fun hb=>?_) (fun hb=>?_)<;>(first|subst hb|((try simp only [nm] at hb);try (exfalso;omega))))|(refine rg 0 ?_;refine aV ?_)|(refine rg 1 ?_;refine aV ?_)|(refine rg 2 ?_;refine mV ?_;refine vc_callw [0] rfl rfl hc rfl rfl (by decide) ⟨.inr rfl,trivial⟩ (by simp) rfl ?_;refine aV ?_)|refine nZ ?_)
  refine aw_own 5 1 rfl (by decide) ?_
  refine aw_loop (X := {p : List Int × Nat × St // itemsL n.toNat s1 = (p.1 ++ (itemsL p.2.1 p.2.2).1, (itemsL p.2.1 p.2.2).2) ∧ p.2.1 ≤ n.toNat ∧ (p.2.2.getD []).length ≤ (s1.getD []).length}) (fun p => [(0, .ptr 0 0), (1, .clo (.func 17) [.ptr 0 0] []), (5, .sl 1 0 p.1.1.length 1), (6, .i (p.1.2.1 : Int))]) (fun p => [.cells [.s (p.1.2.2.getD []), .b p.1.2.2.isNone], .arr (ints p.1.1) 1]) (fun p => p.1.2.1) ⟨([], n.toNat, s1), by simp, Nat.le_refl _, Nat.le_refl _⟩ ⟨[0, 1], rfl, (by dsimp only; rw [Int.toNat_of_nonneg hn0]; (repeat (first | exact trivial | refine ⟨rfl, ?_⟩))), ⟨.inr rfl, .inr rfl, trivial⟩, by decide, lt1qW⟩ ?_
  rintro ⟨⟨out, k, t⟩, h1, h2, h3⟩
  dsimp only at h1 h2 h3 ⊢
  have hend : (k = 0 ∨ t = none) → itemsL n.toNat s1 = (out, t) := fun h => by
    rw [h1]
    rcases h with h | h
    · subst h; simp [itemsL]
    · subst h; rw [itemsL_none]; simp
  cases t with
  | none =>
    have he := hend (.inr rfl)
    rw [he]
    have cC := close_c none 93
    by_cases hk : 0 < (k : Int)
    · repeat' (first | refine wS ?_ | refine wB ?_ | refine wK ?_ | refine wR ?_ | refine wE ?_ | refine aw_condt rfl ?_ | refine aw_condf rfl ?_ | (refine wC rfl (fun hb => ?_) (fun hb => ?_) <;> (first | subst hb | ((try simp only [nm] at hb); try (exfalso; omega)))) | (((refine rg 3 ?_)); (all_goals (refine mV ?_; refine vV (by exact fs_gtr rfl rfl) ?_; refine mV ?_)); (all_goals first | (refine gK ?_) | (refine vc_split rfl rfl (fun hb => ?_) (fun hb => ?_) <;> (first | subst hb | (rw [hb]; (try simp only [nm] at hb); try ((exfalso; omega); done))))); (all_goals first | (refine gT ?_; (refine mV ?_); refine gT ?_; (refine nV ?_); refine gT ?_; (refine fV T ?_); refine gT ?_; (refine lV T ?_); refine gT ?_; (refine vV (by exact fs_not rfl) ?_)) | (iterate 5 first | refine gF ?_ | refine gU ?_)); (all_goals (first|refine pV ?_|refine vV (by exact fs_pick rfl rfl rfl) ?_))) | (((refine rg 6 ?_)); (all_goals (refine mV ?_; refine vc_callw [0] rfl rfl cC rfl rfl (by decide) ⟨.inr rfl, trivial⟩ (by simp) rfl ?_))) | (((refine rg 7 ?_)); (all_goals (refine mV ?_; refine nV ?_; refine fV T ?_; refine lV T ?_))) | (refine vc_nilp (by (first | (dsimp only [ln1, ln2, List.append_nil, ln4, ln5, ln6, ln7, ln8, ln9, putAt, putd, allObjs, argEnv, un_v, un_ptr, un_ep, un_pr, un_sl, un_mp, un_row, un_agg, un_tup, un_clo, Nat.zero_add, lnb, Nat.reduceAdd, lnc, lnd]; first | done | exact rfl) | exact rfl)) ?_))
      all_goals try (exfalso; omega)
      all_goals (refine aw_region (id := 8) ?_; refine vV (by exact fs_assign rfl) ?_; refine vc_own 4 1 rfl (by decide) ?_; refine vc_nil ?_)
      all_goals repeat' (first | (refine aw_seq ?_) | (refine aw_block ?_) | (refine aw_skip ?_) | (refine aw_ret ?_) | (refine aw_exit ?_))
      all_goals exact ⟨.inl rfl, [0, 2], _, rfl, rfl, rfl, ⟨.inr rfl, .inr rfl, trivial⟩, by decide, lt1z2⟩
    · repeat' (first | refine wS ?_ | refine wB ?_ | refine wK ?_ | refine wR ?_ | refine wE ?_ | refine aw_condt rfl ?_ | refine aw_condf rfl ?_ | (refine wC rfl (fun hb => ?_) (fun hb => ?_) <;> (first | subst hb | ((try simp only [nm] at hb); try (exfalso; omega)))) | (((refine rg 3 ?_)); (all_goals (refine mV ?_; refine vV (by exact fs_gtr rfl rfl) ?_; refine mV ?_)); (all_goals first | (refine gK ?_) | (refine vc_split rfl rfl (fun hb => ?_) (fun hb => ?_) <;> (first | subst hb | (rw [hb]; (try simp only [nm] at hb); try ((exfalso; omega); done))))); (all_goals first | (refine gT ?_; (refine mV ?_); refine gT ?_; (refine nV ?_); refine gT ?_; (refine fV T ?_); refine gT ?_; (refine lV T ?_); refine gT ?_; (refine vV (by exact fs_not rfl) ?_)) | (iterate 5 first | refine gF ?_ | refine gU ?_)); (all_goals (first|refine pV ?_|refine vV (by exact fs_pick rfl rfl rfl) ?_))) | (((refine rg 6 ?_)); (all_goals (refine mV ?_; refine vc_callw [0] rfl rfl cC rfl rfl (by decide) ⟨.inr rfl, trivial⟩ (by simp) rfl ?_))) | (((refine rg 7 ?_)); (all_goals (refine mV ?_; refine nV ?_; refine fV T ?_; refine lV T ?_))) | (refine vc_nilp (by (first | (dsimp only [ln1, ln2, List.append_nil, ln4, ln5, ln6, ln7, ln8, ln9, putAt, putd, allObjs, argEnv, un_v, un_ptr, un_ep, un_pr, un_sl, un_mp, un_row, un_agg, un_tup, un_clo, Nat.zero_add, lnb, Nat.reduceAdd, lnc, lnd]; first | done | exact rfl) | exact rfl)) ?_))
      all_goals try (exfalso; omega)
      all_goals (refine aw_region (id := 8) ?_; refine vV (by exact fs_assign rfl) ?_; refine vc_own 4 1 rfl (by decide) ?_; refine vc_nil ?_)
      all_goals repeat' (first | (refine aw_seq ?_) | (refine aw_block ?_) | (refine aw_skip ?_) | (refine aw_ret ?_) | (refine aw_exit ?_))
      all_goals exact ⟨.inl rfl, [0, 2], _, rfl, rfl, rfl, ⟨.inr rfl, .inr rfl, trivial⟩, by decide, lt1z2⟩
  | some r =>
    cases k with
    | succ k =>
      have hi := int_c (some r) (by have : ((some r : St).getD []).length = r.length := rfl; omega)
      have hs : itemsL (k + 1) (some r) = ((intS (some r)).1 :: (itemsL k (intS (some r)).2).1, (itemsL k (intS (some r)).2).2) := rfl
      rw [hs] at h1
      have hle := numS_getD (some r) 59 (-9223372036854775808)
      change ((intS (some r)).2.getD []).length ≤ _ at hle
      have hol : out.length ≤ 100000000 := by
        have := hil
        rw [h1] at this
        simp only [List.length_append] at this
        omega
      generalize (intS (some r)).1 = v at *
      generalize (intS (some r)).2 = t' at *
      repeat' (first|refine wS ?_|refine wB ?_|refine wK ?_|refine wR ?_|refine wE ?_|refine wT ?_|refine wU ?_|(refine wC rfl (fun hb=>?_) (fun hb=>?_)<;>(first|subst hb|((try simp only [nm] at hb);try (exfalso;omega))))|(refine rg 3 ?_;(all_goals (refine mV ?_;refine vV (by exact fs_gtr rfl rfl) ?_;refine mV ?_));(all_goals first|(refine gK ?_)|(refine vc_split rfl rfl (fun hb=>?_) (fun hb=>?_)<;>(first|subst hb|(rw [hb];(try simp only [nm] at hb);try ((exfalso;omega);done)))));(all_goals first|(refine gT ?_;(refine mV ?_);refine gT ?_;(refine nV ?_);refine gT ?_;(refine fV T ?_);refine gT ?_;(refine lV T ?_);refine gT ?_;(refine vV (by exact fs_not rfl) ?_))|(iterate 5 first|refine gF ?_|refine gU ?_));(all_goals (first|refine pV ?_|refine vV (by exact fs_pick rfl rfl rfl) ?_)))|(refine rg 5 ?_;refine mV ?_;refine mV ?_;refine vc_callw [0] rfl rfl hi rfl rfl (by decide) ⟨.inr rfl,trivial⟩ (by simp) rfl ?_;refine vc_n (by exact fs_buildSlice T rfl rfl (by decide) (by decide) rfl rfl rfl) rfl ?_;refine vc_append T rfl rfl rfl rfl rfl rfl (by simp) (Elems.whole rfl rfl) rfl (by simp;omega) (by simp;omega) rfl ?_;refine aV ?_)|(refine rg 4 ?_;refine mV ?_;refine vV (by first|exact fs_subr rfl rfl (by omega) (by omega)|exact fs_sub rfl rfl) ?_;refine aV ?_)|refine nZ ?_)
      all_goals first | (exfalso; omega) | exact ⟨⟨(out ++ [v], k, t'), by rw [h1]; simp, by dsimp only; omega, by dsimp only; omega⟩, by dsimp only; omega, [0, 3], rfl, ⟨rfl, rfl, by dsimp only; rw [show (out ++ [v]).length = out.length + 1 by simp]; rfl, congrArg (fun x => some (AV.i x)) (show ((k + 1 : Nat) : Int) - 1 = (k : Int) by omega), trivial⟩, ⟨.inr rfl, .inr (sub_arr rfl ((app_one (by simp)).trans (by dsimp only; exact ints_snoc _ _)) (ints_idf _)), trivial⟩, by decide, lt1z3⟩
    | zero =>
      have he := hend (.inl rfl)
      rw [he]
      have cC := close_c (some r) 93
      have hk : ¬ 0 < ((0 : Nat) : Int) := by decide
      dsimp only
      cases hcl : closeS (some r) 93 with
      | none =>
        rw [hcl] at cC
        repeat' (first|refine wS ?_|refine wB ?_|refine wK ?_|refine wR ?_|refine wE ?_|refine wT ?_|refine wU ?_|(refine wC rfl (fun hb=>?_) (fun hb=>?_)<;>(first|subst hb|((try simp only [nm] at hb);try (exfalso;omega))))|(refine rg 3 ?_;(all_goals (refine mV ?_;refine vV (by exact fs_gtr rfl rfl) ?_;refine mV ?_));(all_goals first|(refine gK ?_)|(refine vc_split rfl rfl (fun hb=>?_) (fun hb=>?_)<;>(first|subst hb|(rw [hb];(try simp only [nm] at hb);try ((exfalso;omega);done)))));(all_goals first|(refine gT ?_;(refine mV ?_);refine gT ?_;(refine nV ?_);refine gT ?_;(refine fV T ?_);refine gT ?_;(refine lV T ?_);refine gT ?_;(refine vV (by exact fs_not rfl) ?_))|(iterate 5 first|refine gF ?_|refine gU ?_));(all_goals (first|refine pV ?_|refine vV (by exact fs_pick rfl rfl rfl) ?_)))|(refine rg 6 ?_;refine mV ?_;refine vc_callw [0] rfl rfl cC rfl rfl (by decide) ⟨.inr rfl,trivial⟩ (by simp) rfl ?_)|(refine rg 7 ?_;refine mV ?_;refine nV ?_;refine fV T ?_;refine lV T ?_)|refine nZ ?_)
        all_goals try (exfalso; omega)
        all_goals (refine aw_region (id := 8) ?_; refine vV (by exact fs_assign rfl) ?_; refine vc_own 4 1 rfl (by decide) ?_; refine vc_nil ?_)
        all_goals repeat' (first | (refine aw_seq ?_) | (refine aw_block ?_) | (refine aw_skip ?_) | (refine aw_ret ?_) | (refine aw_exit ?_))
        all_goals exact ⟨.inl rfl, [0, 2], _, rfl, rfl, rfl, ⟨.inr rfl, .inr rfl, trivial⟩, by decide, lt1z2⟩
      | some r' =>
        rw [hcl] at cC
        repeat' (first|refine wS ?_|refine wB ?_|refine wK ?_|refine wR ?_|refine wE ?_|refine wT ?_|refine wU ?_|(refine wC rfl (fun hb=>?_) (fun hb=>?_)<;>(first|subst hb|((try simp only [nm] at hb);try (exfalso;omega))))|(refine rg 3 ?_;(all_goals (refine mV ?_;refine vV (by exact fs_gtr rfl rfl) ?_;refine mV ?_));(all_goals first|(refine gK ?_)|(refine vc_split rfl rfl (fun hb=>?_) (fun hb=>?_)<;>(first|subst hb|(rw [hb];(try simp only [nm] at hb);try ((exfalso;omega);done)))));(all_goals first|(refine gT ?_;(refine mV ?_);refine gT ?_;(refine nV ?_);refine gT ?_;(refine fV T ?_);refine gT ?_;(refine lV T ?_);refine gT ?_;(refine vV (by exact fs_not rfl) ?_))|(iterate 5 first|refine gF ?_|refine gU ?_));(all_goals (first|refine pV ?_|refine vV (by exact fs_pick rfl rfl rfl) ?_)))|(refine rg 6 ?_;refine mV ?_;refine vc_callw [0] rfl rfl cC rfl rfl (by decide) ⟨.inr rfl,trivial⟩ (by simp) rfl ?_)|(refine rg 7 ?_;refine mV ?_;refine nV ?_;refine fV T ?_;refine lV T ?_)|(refine rg 9 ?_;refine mV ?_;refine aV ?_)|refine nZ ?_)
        all_goals try (exfalso; omega)
        all_goals exact ⟨.inl rfl, [0, 1], _, rfl, rfl, rfl, ⟨.inr rfl, .inr (sub_arr rfl rfl (ints_idf _)), trivial⟩, by decide, lt1qW⟩
theorem rnums_c (s : St) (hl : (s.getD []).length ≤ 100000000) :
    ACall Tryz.prog 20 [.ptr 0 0] (rdH s) (.sl 1 0 (numsS s).1.length 1) (rdH (numsS s).2 ++ [.arr (ints (numsS s).1) 1]) := by
  have hc := items_c s hl
  refine acall T Tryz.func20 rfl rfl rfl rfl ?_
  repeat' (first|refine wS ?_|refine wB ?_|refine wK ?_|refine wR ?_|refine wE ?_|refine wT ?_|refine wU ?_|(refine wC rfl (fun hb=>?_) (fun hb=>?_)<;>(first|subst hb|((try simp only [nm] at hb);try (exfalso;omega))))|(refine rg 0 ?_;refine aV ?_)|(refine rg 1 ?_;refine mV ?_;refine mV ?_;refine vV (by exact fs_makeFunc rfl rfl) ?_;refine vc_callw [0] rfl rfl hc rfl rfl (by decide) ⟨.inr rfl,trivial⟩ (by simp) rfl ?_;refine aV ?_)|refine nZ ?_)
  all_goals exact ⟨.inl rfl, [0, 1], _, rfl, rfl, rfl, ⟨.inr rfl, .inr (sub_arr rfl (mapL_idfs _ (ints_idf _)) (ints_idf _)), trivial⟩, by decide, lt1qW⟩
end Go.Proofs.YtjpcpbbkelgkeaaGreatDoor
namespace Go.Proofs.YtjpcpbbkelgkeaaGreatDoor
open Go Go.Ab Go.Wr
def SlT (P : Program) (t e : TypeId) : Prop := P.underlying t = some (.slice e)
theorem slB : SlT Tryz.prog 105 5 := by unfold SlT; kernel_rfl
theorem intU8 : IntT Tryz.prog 5 .u8 := by unfold IntT; kernel_rfl
theorem intI64 : IntT Tryz.prog 3 .i64 := by unfold IntT; kernel_rfl
section
variable {P : Program} {env : Env} {h : Hp} {d : Option Nat} {ty : TypeId} {pos : String} {af : Array Edge} {g : Option (Nat × Bool)}
theorem fs_convB {src dst e : TypeId} {x : Operand} {k n : Nat} {l : List UInt8} (hs : SlT P src e) (he : IntT P e .u8) (hd : StrT P dst) (hx : evu env x = some (.sl k 0 n 1)) (hk : h[k]? = some (.arr (bytesA l) 1)) (hn : n = l.length) (h0 : l ≠ []) :
    FStep P ⟨d, .convert src dst x, ty, pos, af, g⟩ env h 0 (fun _ => .s l) (fun _ => []) := by
  subst hn
  refine fs_val fun ρ S a w p => ⟨.string ⟨l.toArray⟩, ?_, by simp [R]⟩
  have h1 := p.evu hx
  simp only [R] at h1
  obtain ⟨ad, cap, h2, h3, h4⟩ := h1
  have hl : 0 < l.length := List.length_pos_iff.2 h0
  have hB := p.blk k _ hk
  obtain ⟨_, _, hB⟩ := hB
  rcases h4 with h4 | ⟨b, o, h5, h6, _, _⟩
  · omega
  rcases hB with hB | ⟨b', o', ys, g1, ⟨c, et, g2, g3⟩, g4⟩
  · have := congrArg List.length hB.1
    rw [bytesA_length] at this
    simp at this
    exact absurd this h0
  rw [h5] at g1
  obtain ⟨rfl, rfl⟩ : b = b' ∧ o = o' := by simpa using g1
  have hys : ys = l.map fun b => Value.int .u8 (b.toNat : Int) := by
    have e : (bytesA l).flatten = (l.map fun b => Value.int .u8 (b.toNat : Int)).map AV.v := by
      unfold bytesA
      rw [List.flatten_eq_flatMap, List.flatMap_map, List.map_map]
      exact (List.map_eq_flatMap).symm
    rw [e] at g4
    exact RL_vsEq g4
  subst hys
  have hc : ∀ j (hj : j < l.length), w.cell? ((⟨b, o, none⟩ : Addr).add j) = some (.int .u8 (l[j].toNat : Int)) := fun j hj => by
    have := g3 j _ (by rw [List.getElem?_map, List.getElem?_eq_getElem hj]; rfl)
    have e : ((⟨b, o, none⟩ : Addr).add j).block = b ∧ ((⟨b, o, none⟩ : Addr).add j).off = o + j ∧ ((⟨b, o, none⟩ : Addr).add j).spot = none := by
      unfold Addr.add; split <;> simp <;> omega
    simp [World.cell?, e.1, e.2.1, e.2.2, g2, this]
  have hr := run_convert_bytes_back (P := P) w src dst e ⟨b, o, none⟩ cap l hs he hd hc
  rw [Nat.zero_mul, Nat.add_zero] at h6
  subst h6
  simp [execOp, h2, hr]
theorem fs_remE {t t2 : TypeId} {x y : Operand} {k : IntKind} {a b r : Int} (hx : evu env x = some (.v (.int k a))) (hy : evu env y = some (.v (.int k b))) (hb : b ≠ 0) (e : a.tmod b = r) : FStep P ⟨d, .binOp .rem t x y t2, ty, pos, af, g⟩ env h 0 (fun _ => .v (.int k r)) (fun _ => []) := by
  subst e; exact fs_rem hx hy hb
theorem fs_quoE {t t2 : TypeId} {x y : Operand} {a b r : Int} (hx : evu env x = some (.i a)) (hy : evu env y = some (.i b)) (hb : b ≠ 0) (e : a.tdiv b = r) (h0 : -9223372036854775808 ≤ r ∧ r ≤ 9223372036854775807) : FStep P ⟨d, .binOp .quo t x y t2, ty, pos, af, g⟩ env h 0 (fun _ => .i r) (fun _ => []) := by
  have := fs_quo (P := P) (d := d) (ty := ty) (pos := pos) (af := af) (g := g) (h := h) (t := t) (t2 := t2) hx hy hb
  rw [e, IntWalk.i64_in _ (by omega)] at this
  exact this
theorem fs_convE {s t : TypeId} {x : Operand} {ks k kk : IntKind} {n m : Int} (hs : IntT P s ks) (ht : IntT P t k) (hx : evu env x = some (.v (.int kk n))) (hn : k.wrap n = n) (e : n = m) :
    FStep P ⟨d, .convert s t x, ty, pos, af, g⟩ env h 0 (fun _ => .v (.int k m)) (fun _ => []) := by
  subst e; exact fs_convT hs ht hx hn
end
theorem wrapU8 {n : Int} (h0 : 0 ≤ n) (h1 : n < 256) : IntKind.u8.wrap n = n := by
  simp [IntKind.wrap, IntKind.signed, IntKind.bits]; omega
theorem wrapI {n : Int} (h0 : -9223372036854775808 ≤ n) (h1 : n ≤ 9223372036854775807) : IntKind.i64.wrap n = n := IntWalk.i64_in _ (by omega)
attribute [local irreducible] VC AW FStep ACall SlT IntT StrT
set_option maxHeartbeats 4000000
theorem digits_c : ∀ u : Nat, u ≤ 9223372036854775808 → ACall Tryz.prog 50 [.i (-(u : Int))] [] (.s (Lib.decDigits u)) [] := by
  intro u
  induction u using Nat.strongRecOn with
  | _ u ih =>
    intro hu
    have e1 : (-(u : Int)).tmod 10 = -((u % 10 : Nat) : Int) := by rw [Int.neg_tmod]; rfl
    have e2 : (-(u : Int)).tdiv 10 = -((u / 10 : Nat) : Int) := by rw [Int.neg_tdiv]; rfl
    have e3 : (48 : Int) - -((u % 10 : Nat) : Int) = ((UInt8.ofNat (48 + u % 10)).toNat : Int) := by
      have : (UInt8.ofNat (48 + u % 10)).toNat = 48 + u % 10 := by simp; omega
      rw [this]; omega
    have hm : u % 10 < 10 := Nat.mod_lt _ (by decide)
    have ih10 := fun h => ih (u / 10) h (by omega)
    have hdl : (Lib.decDigits (u / 10)).length ≤ 20 := by
      rw [Lib.decDigits_length]
      have := nDig_le 18 (u / 10) (by have : (10 : Nat) ^ (18 + 1) = 10000000000000000000 := by decide
                                      omega)
      omega
    have hsm : u < 10 → Lib.decDigits u = [UInt8.ofNat (48 + u % 10)] := fun h => by rw [Lib.decDigits_one h, Nat.mod_eq_of_lt h]
    have hbg : ¬ u < 10 → Lib.decDigits u = Lib.decDigits (u / 10) ++ [UInt8.ofNat (48 + u % 10)] := fun h => by rw [Lib.decDigits, dif_neg h]
    have hq : u / 10 < u ∨ u = 0 := by omega
    have hdv : u / 10 ≤ 9223372036854775807 := by omega
    refine acall T Tryz.func50 rfl rfl rfl rfl ?_
    by_cases h10 : u < 10
    · rw [hsm h10]
      generalize u % 10 = r at *
      generalize UInt8.ofNat (48 + r) = c at *
      repeat' (first|refine wS ?_|refine wB ?_|refine wK ?_|refine wR ?_|refine wE ?_|refine wT ?_|refine wU ?_|(refine wC rfl (fun hb=>?_) (fun hb=>?_)<;>(first|subst hb|((try simp only [nm] at hb);try (exfalso;omega))))|(refine rg 0 ?_;refine aV ?_)|(refine rg 1 ?_;refine mV ?_;refine vV (by first|exact fs_remE rfl rfl (by decide) e1|exact fs_remr rfl rfl (by omega) (by omega)) ?_;refine vV (by first|exact fs_remE rfl rfl (by decide) e1|exact fs_subr rfl rfl (by omega) (by omega)|exact fs_sub rfl rfl) ?_;refine vV (by first|exact fs_convE intI64 intU8 rfl (wrapU8 (by omega) (by omega)) e3|exact fs_convB slB intU8 strTW rfl (l := [c]) rfl rfl (by simp)) ?_;refine vc_n (by exact fs_buildSlice T rfl rfl (by decide) (by decide) rfl rfl rfl) rfl ?_;refine vV (by first|exact fs_convE intI64 intU8 rfl (wrapU8 (by omega) (by omega)) e3|exact fs_convB slB intU8 strTW rfl (l := [c]) rfl rfl (by simp)) ?_;refine aV ?_)|(refine rg 2 ?_;refine mV ?_;refine vV (by first|exact fs_remE rfl rfl (by decide) e1|exact fs_gtr rfl rfl) ?_)|(refine rg 3 ?_;refine mV ?_;refine aV ?_)|refine nZ ?_)
      all_goals first | (exfalso; omega) | exact ret_plain (.inl rfl) rfl rfl
    · rw [hbg h10]
      have hc := ih10 (by omega)
      generalize u % 10 = r at *
      generalize u / 10 = q at *
      generalize UInt8.ofNat (48 + r) = c at *
      repeat' (first|refine wS ?_|refine wB ?_|refine wK ?_|refine wR ?_|refine wE ?_|refine wT ?_|refine wU ?_|(refine wC rfl (fun hb=>?_) (fun hb=>?_)<;>(first|subst hb|((try simp only [nm] at hb);try (exfalso;omega))))|(refine rg 0 ?_;refine aV ?_)|(refine rg 1 ?_;refine mV ?_;refine vV (by first|exact fs_remE rfl rfl (by decide) e1|exact fs_quoE rfl rfl (by decide) e2 (by omega)|exact fs_addS rfl rfl (by simp only [List.length_append,List.length_cons,List.length_nil];omega)|exact fs_remr rfl rfl (by omega) (by omega)) ?_;refine vV (by first|exact fs_remE rfl rfl (by decide) e1|exact fs_quoE rfl rfl (by decide) e2 (by omega)|exact fs_addS rfl rfl (by simp only [List.length_append,List.length_cons,List.length_nil];omega)|exact fs_subr rfl rfl (by omega) (by omega)|exact fs_sub rfl rfl) ?_;refine vV (by first|exact fs_convE intI64 intU8 rfl (wrapU8 (by omega) (by omega)) e3|exact fs_convB slB intU8 strTW rfl (l := [c]) rfl rfl (by simp)) ?_;refine vc_n (by exact fs_buildSlice T rfl rfl (by decide) (by decide) rfl rfl rfl) rfl ?_;refine vV (by first|exact fs_convE intI64 intU8 rfl (wrapU8 (by omega) (by omega)) e3|exact fs_convB slB intU8 strTW rfl (l := [c]) rfl rfl (by simp)) ?_;refine aV ?_)|(refine rg 2 ?_;refine mV ?_;refine vV (by first|exact fs_remE rfl rfl (by decide) e1|exact fs_quoE rfl rfl (by decide) e2 (by omega)|exact fs_addS rfl rfl (by simp only [List.length_append,List.length_cons,List.length_nil];omega)|exact fs_gtr rfl rfl) ?_)|(refine rg 4 ?_;refine mV ?_;refine vV (by first|exact fs_remE rfl rfl (by decide) e1|exact fs_quoE rfl rfl (by decide) e2 (by omega)|exact fs_addS rfl rfl (by simp only [List.length_append,List.length_cons,List.length_nil];omega)|exact fs_quor rfl rfl (by omega) (by omega) (by omega)) ?_;refine vV (by exact kC (hc)) ?_;refine mV ?_;refine vV (by first|exact fs_remE rfl rfl (by decide) e1|exact fs_quoE rfl rfl (by decide) e2 (by omega)|exact fs_addS rfl rfl (by simp only [List.length_append,List.length_cons,List.length_nil];omega)|exact fs_addr rfl rfl (by omega) (by omega)|exact fs_add rfl rfl) ?_;refine aV ?_)|refine nZ ?_)
      all_goals first | (exfalso; omega) | exact ret_plain (.inl rfl) rfl rfl
theorem qint_c {n : Int} (h : I64 n) : ACall Tryz.prog 31 [.i n] [] (.s (intB n)) [] := by
  obtain ⟨h1, h2⟩ := h
  refine acall T Tryz.func31 rfl rfl rfl rfl ?_
  have hl20 := itoa_le20 ⟨h1, h2⟩
  by_cases h0 : n < 0
  · have hc := digits_c n.natAbs (by omega)
    rw [show -((n.natAbs : Nat) : Int) = n by omega] at hc
    have e : intB n = [45] ++ Lib.decDigits n.natAbs ++ [59] := by unfold intB Lib.itoa; rw [if_pos h0]; rfl
    have hl : (Lib.decDigits n.natAbs).length ≤ 20 := by unfold Lib.itoa at hl20; rw [if_pos h0, List.length_cons] at hl20; omega
    rw [e]
    generalize Lib.decDigits n.natAbs = s at *
    repeat' (first|refine wS ?_|refine wB ?_|refine wK ?_|refine wR ?_|refine wE ?_|refine wT ?_|refine wU ?_|(refine wC rfl (fun hb=>?_) (fun hb=>?_)<;>(first|subst hb|((try simp only [nm] at hb);try (exfalso;omega))))|(refine rg 0 ?_;refine aV ?_)|(refine rg 1 ?_;refine mV ?_;refine vV (by first|exact fs_addS rfl rfl (by simp only [List.length_append,List.length_cons,List.length_nil];omega)|exact fs_lssTW rfl rfl h0|exact fs_lss rfl rfl) ?_)|(refine rg 2 ?_;refine mV ?_;refine vV (by exact kC (hc)) ?_;refine vV (by first|exact fs_addS rfl rfl (by simp only [List.length_append,List.length_cons,List.length_nil];omega)|exact fs_lssTW rfl rfl h0|exact fs_addr rfl rfl (by omega) (by omega)|exact fs_add rfl rfl) ?_;refine vV (by first|exact fs_addS rfl rfl (by simp only [List.length_append,List.length_cons,List.length_nil];omega)|exact fs_lssTW rfl rfl h0|exact fs_addr rfl rfl (by omega) (by omega)|exact fs_add rfl rfl) ?_;refine aV ?_)|refine nZ ?_)
    all_goals first | (exfalso; omega) | exact ret_plain (.inl rfl) rfl rfl
  · have hc := digits_c n.toNat (by omega)
    rw [show -((n.toNat : Nat) : Int) = -n by omega] at hc
    have e : intB n = Lib.decDigits n.toNat ++ [59] := by unfold intB Lib.itoa; rw [if_neg h0]
    have hl : (Lib.decDigits n.toNat).length ≤ 20 := by unfold Lib.itoa at hl20; rw [if_neg h0] at hl20; omega
    rw [e]
    generalize Lib.decDigits n.toNat = s at *
    repeat' (first|refine wS ?_|refine wB ?_|refine wK ?_|refine wR ?_|refine wE ?_|refine wT ?_|refine wU ?_|(refine wC rfl (fun hb=>?_) (fun hb=>?_)<;>(first|subst hb|((try simp only [nm] at hb);try (exfalso;omega))))|(refine rg 0 ?_;refine aV ?_)|(refine rg 1 ?_;refine mV ?_;refine vV (by first|exact fs_addS rfl rfl (by simp only [List.length_append,List.length_cons,List.length_nil];omega)|exact fs_lssFW rfl rfl (by omega)|exact fs_lss rfl rfl) ?_)|(refine rg 3 ?_;refine mV ?_;refine vV (by first|exact fs_addS rfl rfl (by simp only [List.length_append,List.length_cons,List.length_nil];omega)|exact fs_lssFW rfl rfl (by omega)|exact fs_negr rfl (by omega) (by omega)|exact fs_neg rfl) ?_;refine vV (by exact kC (hc)) ?_;refine vV (by first|exact fs_addS rfl rfl (by simp only [List.length_append,List.length_cons,List.length_nil];omega)|exact fs_lssFW rfl rfl (by omega)|exact fs_addr rfl rfl (by omega) (by omega)|exact fs_add rfl rfl) ?_;refine aV ?_)|refine nZ ?_)
    all_goals first | (exfalso; omega) | exact ret_plain (.inl rfl) rfl rfl
theorem qnum_c {n : Int} (h : I64 n) (h0 : 0 ≤ n) : ACall Tryz.prog 32 [.i n] [] (.s (intB n)) [] := by
  have hc := qint_c h
  refine acall T Tryz.func32 rfl rfl rfl rfl ?_
  repeat' (first|refine wS ?_|refine wB ?_|refine wK ?_|refine wR ?_|refine wE ?_|refine wT ?_|refine wU ?_|(refine wC rfl (fun hb=>?_) (fun hb=>?_)<;>(first|subst hb|((try simp only [nm] at hb);try (exfalso;omega))))|(refine rg 0 ?_;refine aV ?_)|(refine rg 1 ?_;refine mV ?_;refine vV (by first|exact fs_lssFW rfl rfl h0|exact fs_lss rfl rfl) ?_)|(refine rg 2 ?_;refine aV ?_)|(refine rg 3 ?_;refine mV ?_;refine vV (by exact kC (hc)) ?_;refine aV ?_)|refine nZ ?_)
  all_goals first | (exfalso; omega) | exact ret_plain (.inl rfl) rfl rfl
theorem qnums_c {l : List Int} (hw : ∀ x, x ∈ l → I64 x) (hl : l.length ≤ 1000000) : ACall Tryz.prog 33 [.rowE (ints l) 1] [] (.s (numsB l)) [] := by
  have hlen : (ints l).length = l.length := ints_length l
  have hc := digits_c l.length (by omega)
  have hit : Lib.itoa (l.length : Int) = Lib.decDigits l.length := Lib.itoa_nonneg _
  have hbl := accB_len hw hl
  have h00 : accB l 0 = Lib.decDigits l.length ++ [91] := by simp [accB, hit]
  have h01 := hbl 0
  rw [h00, List.length_append, List.length_singleton] at h01
  refine acall T Tryz.func33 rfl rfl rfl rfl ?_
  rw [show -((l.length : Nat) : Int) = -((ints l).length : Int) by rw [hlen]] at hc
  repeat' (first|refine wS ?_|refine wB ?_|refine wK ?_|refine wR ?_|refine wE ?_|refine wT ?_|refine wU ?_|(refine wC rfl (fun hb=>?_) (fun hb=>?_)<;>(first|subst hb|((try simp only [nm] at hb);try (exfalso;omega))))|(refine rg 0 ?_;refine aV ?_)|(refine rg 1 ?_;refine mV ?_;(first|refine qV T ?_|refine vV (by exact fs_lenNil T rfl rfl) ?_);refine vV (by first|exact fs_addS rfl rfl (by simp only [List.length_append,List.length_cons,List.length_nil];omega)|exact fs_negr rfl (by omega) (by omega)|exact fs_neg rfl) ?_;refine vV (by exact kC (hc)) ?_;refine vV (by first|exact fs_addS rfl rfl (by simp only [List.length_append,List.length_cons,List.length_nil];omega)|exact fs_addr rfl rfl (by omega) (by omega)|exact fs_add rfl rfl) ?_;refine aV ?_)|(refine rg 2 ?_;refine aV ?_)|refine nZ ?_)
  refine aw_loop (X := {k : Nat // k ≤ l.length}) (fun k => [(0, .rowE (ints l) 1), (3, .s (accB l k.1)), (4, .i k.1)]) (fun _ => []) (fun k => l.length - k.1) ⟨0, by omega⟩ ⟨[], rfl, (by dsimp only; rw [h00]; (repeat (first | exact trivial | refine ⟨rfl, ?_⟩))), trivial, List.nodup_nil, fun _ h => absurd h (Nat.not_lt_zero _)⟩ ?_
  rintro ⟨k, hk⟩
  dsimp only
  have hbk := hbl k
  by_cases hlt : k < l.length
  · have hIx := hw _ (List.getElem_mem hlt)
    have hcx := qint_c hIx
    have hlx := intB_len hIx
    have hnx := accB_next hlt
    have hg := ints_getW hlt
    generalize l[k] = x at *
    generalize accB l k = s at *
    repeat' (first|refine wS ?_|refine wB ?_|refine wK ?_|refine wR ?_|refine wE ?_|refine wT ?_|refine wU ?_|(refine wC rfl (fun hb=>?_) (fun hb=>?_)<;>(first|subst hb|((try simp only [nm] at hb);try (exfalso;omega))))|(refine rg 3 ?_;refine mV ?_;refine mV ?_;(first|refine qV T ?_|refine vV (by exact fs_lenNil T rfl rfl) ?_);refine vV (by first|exact fs_addS rfl rfl (by omega)|exact fs_lss rfl rfl) ?_)|(refine rg 5 ?_;refine mV ?_;refine mV ?_;refine mV ?_;refine vV (by exact fs_indexRowE T rfl rfl rfl rfl rfl (by omega) (ints_len _) hg) ?_;refine lV T ?_;refine vV (by exact kC (hcx)) ?_;refine vV (by first|exact fs_addS rfl rfl (by omega)|exact fs_addr rfl rfl (by omega) (by omega)|exact fs_add rfl rfl) ?_;refine aV ?_)|(refine rg 4 ?_;refine mV ?_;refine vV (by first|exact fs_addS rfl rfl (by omega)|exact fs_addr rfl rfl (by omega) (by omega)|exact fs_add rfl rfl) ?_;refine aV ?_)|refine nZ ?_)
    all_goals first | (exfalso; omega) | exact ⟨⟨k + 1, hlt⟩, by dsimp only; omega, ⟨[], rfl, (by dsimp only; rw [hnx]; (repeat (first | exact trivial | refine ⟨rfl, ?_⟩))), trivial, List.nodup_nil, fun _ h => absurd h (Nat.not_lt_zero _)⟩⟩
  · have hkl : k = l.length := by omega
    subst hkl
    unfold numsB
    generalize accB l l.length = s at *
    repeat' (first|refine wS ?_|refine wB ?_|refine wK ?_|refine wR ?_|refine wE ?_|refine wT ?_|refine wU ?_|(refine wC rfl (fun hb=>?_) (fun hb=>?_)<;>(first|subst hb|((try simp only [nm] at hb);try (exfalso;omega))))|(refine rg 3 ?_;refine mV ?_;refine mV ?_;(first|refine qV T ?_|refine vV (by exact fs_lenNil T rfl rfl) ?_);refine vV (by first|exact fs_addS rfl rfl (by simp only [List.length_cons,List.length_nil];omega)|exact fs_lss rfl rfl) ?_)|(refine rg 6 ?_;refine mV ?_;refine vV (by first|exact fs_addS rfl rfl (by simp only [List.length_cons,List.length_nil];omega)|exact fs_addr rfl rfl (by omega) (by omega)|exact fs_add rfl rfl) ?_;refine aV ?_)|refine nZ ?_)
    all_goals first | (exfalso; omega) | exact ret_plain (.inl rfl) rfl rfl
end Go.Proofs.YtjpcpbbkelgkeaaGreatDoor
namespace Go.Proofs.YtjpcpbbkelgkeaaGreatDoor
open Go Go.Ab Go.Wr
def valD (l : List UInt8) (k : Nat) : Nat := (l.take k).foldl (fun a c => 10 * a + (c.toNat - 48)) 0
theorem foldD_ge (l : List UInt8) : ∀ a : Nat, a ≤ l.foldl (fun a c => 10 * a + (c.toNat - 48)) a := by
  induction l with
  | nil => intro a; exact Nat.le_refl _
  | cons c l ih => intro a; exact Nat.le_trans (by omega) (ih (10 * a + (c.toNat - 48)))
theorem valD_next {l : List UInt8} {k : Nat} (h : k < l.length) : valD l (k + 1) = 10 * valD l k + (l[k].toNat - 48) := by
  unfold valD
  rw [List.take_succ_eq_append_getElem h, List.foldl_append]
  rfl
theorem valD_le (l : List UInt8) (k : Nat) : valD l k ≤ valD l l.length := by
  unfold valD
  rw [List.take_length]
  conv => rhs; rw [← List.take_append_drop k l, List.foldl_append]
  exact foldD_ge _ _
theorem valD_dec : ∀ u : Nat, valD (Lib.decDigits u) (Lib.decDigits u).length = u := by
  intro u
  unfold valD
  rw [List.take_length]
  induction u using Nat.strongRecOn with
  | _ u ih =>
    rw [Lib.decDigits]
    split
    · rename_i h
      have e : (UInt8.ofNat (48 + u)).toNat = 48 + u := by simp; omega
      simp only [List.foldl_cons, List.foldl_nil, e]
      omega
    · rename_i h
      have e : (UInt8.ofNat (48 + u % 10)).toNat = 48 + u % 10 := by simp; omega
      rw [List.foldl_append, ih (u / 10) (by omega)]
      simp only [List.foldl_cons, List.foldl_nil, e]
      omega
section
variable {P : Program} {env : Env} {h : Hp} {d : Option Nat} {ty : TypeId} {pos : String} {af : Array Edge} {g : Option (Nat × Bool)}
theorem fs_lssKT {t t2 : TypeId} {x y : Operand} {k : IntKind} {a b : Int} (hx : evu env x = some (.v (.int k a))) (hy : evu env y = some (.v (.int k b))) (e : a < b) : FStep P ⟨d, .binOp .lss t x y t2, ty, pos, af, g⟩ env h 0 (fun _ => .b true) (fun _ => []) := by
  have := fs_lss (P := P) (d := d) (ty := ty) (pos := pos) (af := af) (g := g) (h := h) (t := t) (t2 := t2) hx hy
  simpa [e] using this
theorem fs_lssKF {t t2 : TypeId} {x y : Operand} {k : IntKind} {a b : Int} (hx : evu env x = some (.v (.int k a))) (hy : evu env y = some (.v (.int k b))) (e : b ≤ a) : FStep P ⟨d, .binOp .lss t x y t2, ty, pos, af, g⟩ env h 0 (fun _ => .b false) (fun _ => []) := by
  have := fs_lss (P := P) (d := d) (ty := ty) (pos := pos) (af := af) (g := g) (h := h) (t := t) (t2 := t2) hx hy
  simpa [show decide (a < b) = false from decide_eq_false (by omega)] using this
theorem fs_gtrKT {t t2 : TypeId} {x y : Operand} {k : IntKind} {a b : Int} (hx : evu env x = some (.v (.int k a))) (hy : evu env y = some (.v (.int k b))) (e : b < a) : FStep P ⟨d, .binOp .gtr t x y t2, ty, pos, af, g⟩ env h 0 (fun _ => .b true) (fun _ => []) := by
  have := fs_gtr (P := P) (d := d) (ty := ty) (pos := pos) (af := af) (g := g) (h := h) (t := t) (t2 := t2) hx hy
  simpa [show decide (a > b) = true from decide_eq_true (by omega)] using this
theorem fs_gtrKF {t t2 : TypeId} {x y : Operand} {k : IntKind} {a b : Int} (hx : evu env x = some (.v (.int k a))) (hy : evu env y = some (.v (.int k b))) (e : a ≤ b) : FStep P ⟨d, .binOp .gtr t x y t2, ty, pos, af, g⟩ env h 0 (fun _ => .b false) (fun _ => []) := by
  have := fs_gtr (P := P) (d := d) (ty := ty) (pos := pos) (af := af) (g := g) (h := h) (t := t) (t2 := t2) hx hy
  simpa [show decide (a > b) = false from decide_eq_false (by omega)] using this
theorem fs_eqlKT {t t2 : TypeId} {x y : Operand} {k : IntKind} {a b : Int} (hx : evu env x = some (.v (.int k a))) (hy : evu env y = some (.v (.int k b))) (e : a = b) : FStep P ⟨d, .binOp .eql t x y t2, ty, pos, af, g⟩ env h 0 (fun _ => .b true) (fun _ => []) := by
  have := fs_eql (P := P) (d := d) (ty := ty) (pos := pos) (af := af) (g := g) (h := h) (t := t) (t2 := t2) hx hy
  simpa [e] using this
theorem fs_eqlKF {t t2 : TypeId} {x y : Operand} {k : IntKind} {a b : Int} (hx : evu env x = some (.v (.int k a))) (hy : evu env y = some (.v (.int k b))) (e : a ≠ b) : FStep P ⟨d, .binOp .eql t x y t2, ty, pos, af, g⟩ env h 0 (fun _ => .b false) (fun _ => []) := by
  have := fs_eql (P := P) (d := d) (ty := ty) (pos := pos) (af := af) (g := g) (h := h) (t := t) (t2 := t2) hx hy
  simpa [e] using this
theorem fs_neqKT {t t2 : TypeId} {x y : Operand} {k : IntKind} {a b : Int} (hx : evu env x = some (.v (.int k a))) (hy : evu env y = some (.v (.int k b))) (e : a ≠ b) : FStep P ⟨d, .binOp .neq t x y t2, ty, pos, af, g⟩ env h 0 (fun _ => .b true) (fun _ => []) := by
  have := fs_neq (P := P) (d := d) (ty := ty) (pos := pos) (af := af) (g := g) (h := h) (t := t) (t2 := t2) hx hy
  simpa [e] using this
theorem fs_neqKF {t t2 : TypeId} {x y : Operand} {k : IntKind} {a b : Int} (hx : evu env x = some (.v (.int k a))) (hy : evu env y = some (.v (.int k b))) (e : a = b) : FStep P ⟨d, .binOp .neq t x y t2, ty, pos, af, g⟩ env h 0 (fun _ => .b false) (fun _ => []) := by
  have := fs_neq (P := P) (d := d) (ty := ty) (pos := pos) (af := af) (g := g) (h := h) (t := t) (t2 := t2) hx hy
  simpa [e] using this
theorem fs_subKE {t t2 : TypeId} {x y : Operand} {k : IntKind} {a b r : Int} (hx : evu env x = some (.v (.int k a))) (hy : evu env y = some (.v (.int k b))) (e : a - b = r) (hn : k.wrap r = r) : FStep P ⟨d, .binOp .sub t x y t2, ty, pos, af, g⟩ env h 0 (fun _ => .v (.int k r)) (fun _ => []) := by
  have := fs_sub (P := P) (d := d) (ty := ty) (pos := pos) (af := af) (g := g) (h := h) (t := t) (t2 := t2) hx hy
  rw [e, hn] at this
  exact this
theorem fs_mulE {t t2 : TypeId} {x y : Operand} {a b r : Int} (hx : evu env x = some (.i a)) (hy : evu env y = some (.i b)) (e : IntKind.i64.wrap (a * b) = r) : FStep P ⟨d, .binOp .mul t x y t2, ty, pos, af, g⟩ env h 0 (fun _ => .i r) (fun _ => []) := by
  have := fs_mul (P := P) (d := d) (ty := ty) (pos := pos) (af := af) (g := g) (h := h) (t := t) (t2 := t2) hx hy
  rw [e] at this
  exact this
theorem fs_subE {t t2 : TypeId} {x y : Operand} {a b r : Int} (hx : evu env x = some (.i a)) (hy : evu env y = some (.i b)) (e : IntKind.i64.wrap (a - b) = r) : FStep P ⟨d, .binOp .sub t x y t2, ty, pos, af, g⟩ env h 0 (fun _ => .i r) (fun _ => []) := by
  have := fs_sub (P := P) (d := d) (ty := ty) (pos := pos) (af := af) (g := g) (h := h) (t := t) (t2 := t2) hx hy
  rw [e] at this
  exact this
end
theorem fs_negE {P : Program} {env : Env} {h : Hp} {d : Option Nat} {ty : TypeId} {pos : String} {af : Array Edge} {g : Option (Nat × Bool)} {t : TypeId} {x : Operand} {a r : Int} (hx : evu env x = some (.i a)) (e : -a = r) (hr : I64 r) : FStep P ⟨d, .unOp .neg t x, ty, pos, af, g⟩ env h 0 (fun _ => .i r) (fun _ => []) := by
  subst e
  obtain ⟨h1, h2⟩ := hr
  exact fs_negr hx (by omega) (by omega)
theorem wrap_I64 (n : Int) : I64 (IntKind.i64.wrap n) := by
  unfold I64
  simp only [IntKind.wrap, IntKind.signed, IntKind.bits]
  simp
  split <;> omega
attribute [local irreducible] VC AW FStep ACall SlT IntT StrT
set_option maxHeartbeats 4000000
theorem backOk_c (pre : List UInt8) (u : Nat) (n : Int) (hn : I64 n) (hs : Lib.itoa n = pre ++ Lib.decDigits u) (hp : (pre = [] ∧ n = u) ∨ (pre = [45] ∧ n = -(u : Int) ∧ n < 0)) :
    ACall Tryz.prog 68 [.s (Lib.itoa n)] [] (.tup [.i n, .b true]) [] := by
  have hl20 := itoa_le20 hn
  have hc := qint_c hn
  have hval := valD_dec u
  have hle := valD_le (Lib.decDigits u)
  have hch := dec_chars u
  have hne := dec_ne u
  have hib : intB n = Lib.itoa n ++ [59] := rfl
  rw [hib] at hc
  obtain ⟨n1, n2⟩ := hn
  rw [hs] at hl20 hc ⊢
  have hpl : pre.length ≤ 1 := by rcases hp with ⟨rfl, _⟩ | ⟨rfl, _⟩ <;> simp
  generalize Lib.decDigits u = ds at *
  have hdl : 0 < ds.length := List.length_pos_iff.2 hne
  have hle2 : (pre ++ ds).length = pre.length + ds.length := List.length_append
  have hfrom : ∀ k, k < ds.length → (pre ++ ds)[pre.length + k]? = ds[k]? := fun k hk => by rw [List.getElem?_append_right (by omega), Nat.add_sub_cancel_left]
  refine acall T Tryz.func68 rfl rfl rfl rfl ?_
  apply cutT
  · intro rest
    rcases hp with ⟨hp1, hnu⟩ | ⟨hp1, hnu, _⟩
    · have h0 : (pre ++ ds)[(0 : Int).toNat]? = some (ds.getD 0 0) := by
        rw [hp1, List.nil_append, Int.toNat_zero, List.getD_eq_getElem?_getD, List.getElem?_eq_getElem hdl]; rfl
      have hd0 : ds.getD 0 0 ∈ ds := by rw [List.getD_eq_getElem?_getD, List.getElem?_eq_getElem hdl]; exact List.getElem_mem hdl
      have hd1 := hch _ hd0
      have hp0 : (0 : Int) = (pre.length : Int) := by rw [hp1]; rfl
      generalize ds.getD 0 0 = c at *
      repeat' (first|refine wS ?_|refine wB ?_|refine wK ?_|refine wR ?_|refine wE ?_|refine wT ?_|refine wU ?_|(refine wC rfl (fun hb=>?_) (fun hb=>?_)<;>(first|subst hb|((try simp only [nm] at hb);try (exfalso;omega))))|(refine rg 0 ?_;refine aV ?_;refine aV ?_)|(refine rg 1 ?_;refine aV ?_)|(refine rg 2 ?_;(all_goals (refine mV ?_;refine vV (by first|exact fs_lenOwn T rfl rfl|exact fs_lenRow T rfl rfl|exact fs_lenNil T rfl rfl|exact fs_lenS strTW rfl) ?_;refine vV (by first|exact fs_gtrKT rfl rfl (by omega)|exact fs_gtr rfl rfl) ?_;refine mV ?_));(all_goals first|(refine gK ?_)|(refine vc_split rfl rfl (fun hb=>?_) (fun hb=>?_)<;>(first|subst hb|(rw [hb];(try simp only [nm] at hb);try ((exfalso;omega);done)))));(all_goals first|(refine gT ?_;(refine mV ?_);refine gT ?_;(refine vV (by exact fs_indexS strTW rfl rfl (by decide) h0) ?_);refine gT ?_;(refine vV (by first|exact fs_gtrKT rfl rfl (by omega)|exact fs_eqlKF rfl rfl (by omega)|exact fs_eql rfl rfl) ?_))|(iterate 3 first|refine gF ?_|refine gU ?_));(all_goals (first|refine pV ?_|refine vV (by exact fs_pick rfl rfl rfl) ?_)))|(refine rg 4 ?_;refine aV ?_)|(refine rg 5 ?_;refine mV ?_;refine aV ?_)|refine nZ ?_)
      all_goals exact aw_keep [(0, .s (pre ++ ds)), (4, .i (pre.length : Int)), (5, .i (-((valD ds 0 : Nat) : Int))), (6, .i (pre.length : Int))] [] ⟨[], rfl, ⟨rfl, congrArg (fun x => some (AV.i x)) hp0, rfl, congrArg (fun x => some (AV.i x)) hp0, trivial⟩, trivial, List.nodup_nil, fun _ h => absurd h (Nat.not_lt_zero _)⟩ rest.get
    · have h0 : (pre ++ ds)[(0 : Int).toNat]? = some 45 := by rw [hp1]; rfl
      have hp0 : (1 : Int) = (pre.length : Int) := by rw [hp1]; rfl
      repeat' (first|refine wS ?_|refine wB ?_|refine wK ?_|refine wR ?_|refine wE ?_|refine wT ?_|refine wU ?_|(refine wC rfl (fun hb=>?_) (fun hb=>?_)<;>(first|subst hb|((try simp only [nm] at hb);try (exfalso;omega))))|(refine rg 0 ?_;refine aV ?_;refine aV ?_)|(refine rg 1 ?_;refine aV ?_)|(refine rg 2 ?_;(all_goals (refine mV ?_;refine vV (by first|exact fs_lenOwn T rfl rfl|exact fs_lenRow T rfl rfl|exact fs_lenNil T rfl rfl|exact fs_lenS strTW rfl) ?_;refine vV (by first|exact fs_gtrKT rfl rfl (by omega)|exact fs_gtr rfl rfl) ?_;refine mV ?_));(all_goals first|(refine gK ?_)|(refine vc_split rfl rfl (fun hb=>?_) (fun hb=>?_)<;>(first|subst hb|(rw [hb];(try simp only [nm] at hb);try ((exfalso;omega);done)))));(all_goals first|(refine gT ?_;(refine mV ?_);refine gT ?_;(refine vV (by exact fs_indexS strTW rfl rfl (by decide) h0) ?_);refine gT ?_;(refine vV (by first|exact fs_gtrKT rfl rfl (by omega)|exact fs_eqlKT rfl rfl rfl|exact fs_eql rfl rfl) ?_))|(iterate 3 first|refine gF ?_|refine gU ?_));(all_goals (first|refine pV ?_|refine vV (by exact fs_pick rfl rfl rfl) ?_)))|(refine rg 3 ?_;refine aV ?_)|(refine rg 4 ?_;refine aV ?_)|(refine rg 5 ?_;refine mV ?_;refine aV ?_)|refine nZ ?_)
      all_goals exact aw_keep [(0, .s (pre ++ ds)), (4, .i (pre.length : Int)), (5, .i (-((valD ds 0 : Nat) : Int))), (6, .i (pre.length : Int))] [] ⟨[], rfl, ⟨rfl, congrArg (fun x => some (AV.i x)) hp0, rfl, congrArg (fun x => some (AV.i x)) hp0, trivial⟩, trivial, List.nodup_nil, fun _ h => absurd h (Nat.not_lt_zero _)⟩ rest.get
  · have hu : valD ds ds.length ≤ 9223372036854775808 := by
      rw [hval]
      rcases hp with ⟨_, hnu⟩ | ⟨_, hnu, _⟩ <;> omega
    refine aw_loop (X := {k : Nat // k ≤ ds.length}) (fun k => [(0, .s (pre ++ ds)), (4, .i (pre.length : Int)), (5, .i (-((valD ds k.1 : Nat) : Int))), (6, .i ((pre.length + k.1 : Nat) : Int))]) (fun _ => []) (fun k => ds.length - k.1) ⟨0, by omega⟩ (by (refine ⟨[], rfl, ?_, trivial, List.nodup_nil, fun _ h => absurd h (Nat.not_lt_zero _)⟩; (repeat (first | exact trivial | refine ⟨rfl, ?_⟩)))) ?_
    rintro ⟨k, hk⟩
    dsimp only
    by_cases hlt : k < ds.length
    · have h1 : (pre ++ ds)[(((pre.length + k : Nat) : Int)).toNat]? = some ds[k] := by rw [Int.toNat_natCast, hfrom k hlt, List.getElem?_eq_getElem hlt]
      have hd := hch _ (List.getElem_mem hlt)
      have hnx := valD_next hlt
      have hl1 := hle (k + 1)
      have hl2 := hle k
      rw [hnx] at hl1
      generalize ds[k] = c at *
      generalize valD ds k = v at *
      generalize valD ds ds.length = vv at *
      have e1 : IntKind.i64.wrap (10 * -(v : Int)) = -((10 * v : Nat) : Int) := by rw [show (10 : Int) * -(v : Int) = -((10 * v : Nat) : Int) by omega]; exact wrapI (by omega) (by omega)
      have e2 : ((c.toNat : Int) - 48) = ((c.toNat - 48 : Nat) : Int) := by omega
      have e3 : IntKind.i64.wrap (-((10 * v : Nat) : Int) - ((c.toNat - 48 : Nat) : Int)) = -((10 * v + (c.toNat - 48) : Nat) : Int) := by rw [show -((10 * v : Nat) : Int) - ((c.toNat - 48 : Nat) : Int) = -((10 * v + (c.toNat - 48) : Nat) : Int) by omega]; exact wrapI (by omega) (by omega)
      repeat' (first|refine wS ?_|refine wB ?_|refine wK ?_|refine wR ?_|refine wE ?_|refine wT ?_|refine wU ?_|(refine wC rfl (fun hb=>?_) (fun hb=>?_)<;>(first|subst hb|((try simp only [nm] at hb);try (exfalso;omega))))|(refine rg 6 ?_;refine mV ?_;refine mV ?_;refine vV (by first|exact fs_lenOwn T rfl rfl|exact fs_lenRow T rfl rfl|exact fs_lenNil T rfl rfl|exact fs_lenS strTW rfl) ?_;refine vV (by first|exact fs_lssKT rfl rfl (by omega)|exact fs_lssKF rfl rfl (by omega)|exact fs_gtrKF rfl rfl (by omega)|exact fs_mulE rfl rfl e1|exact fs_subKE rfl rfl e2 (wrapU8 (by omega) (by omega))|exact fs_subE rfl rfl e3|exact fs_lss rfl rfl) ?_)|(refine rg 8 ?_;(all_goals (refine mV ?_;refine mV ?_;refine vV (by exact fs_indexS strTW rfl rfl (by omega) h1) ?_;refine vV (by first|exact fs_lssKT rfl rfl (by omega)|exact fs_lssKF rfl rfl (by omega)|exact fs_gtrKF rfl rfl (by omega)|exact fs_mulE rfl rfl e1|exact fs_subKE rfl rfl e2 (wrapU8 (by omega) (by omega))|exact fs_subE rfl rfl e3|exact fs_lss rfl rfl) ?_;refine mV ?_));(all_goals first|(refine gK ?_)|(refine vc_split rfl rfl (fun hb=>?_) (fun hb=>?_)<;>(first|subst hb|(rw [hb];(try simp only [nm] at hb);try ((exfalso;omega);done)))));(all_goals first|(refine gT ?_;(refine mV ?_);refine gT ?_;(refine mV ?_);refine gT ?_;(refine vV (by exact fs_indexS strTW rfl rfl (by omega) h1) ?_);refine gT ?_;(refine vV (by first|exact fs_lssKT rfl rfl (by omega)|exact fs_lssKF rfl rfl (by omega)|exact fs_gtrKF rfl rfl (by omega)|exact fs_mulE rfl rfl e1|exact fs_subKE rfl rfl e2 (wrapU8 (by omega) (by omega))|exact fs_subE rfl rfl e3|exact fs_gtr rfl rfl) ?_))|(iterate 4 first|refine gF ?_|refine gU ?_));(all_goals ((first|refine pV ?_|refine vV (by exact fs_pick rfl rfl rfl) ?_);refine mV ?_));(all_goals first|(refine gK ?_)|(refine vc_split rfl rfl (fun hb=>?_) (fun hb=>?_)<;>(first|subst hb|(rw [hb];(try simp only [nm] at hb);try ((exfalso;omega);done)))));(all_goals first|(refine gT ?_;(refine mV ?_);refine gT ?_;(refine vV (by first|exact fs_lssKT rfl rfl (by omega)|exact fs_lssKF rfl rfl (by omega)|exact fs_gtrKF rfl rfl (by omega)|exact fs_mulE rfl rfl e1|exact fs_subKE rfl rfl e2 (wrapU8 (by omega) (by omega))|exact fs_subE rfl rfl e3|exact fs_gtr rfl rfl) ?_))|(iterate 2 first|refine gF ?_|refine gU ?_));(all_goals (first|refine pV ?_|refine vV (by exact fs_pick rfl rfl rfl) ?_)))|(refine rg 10 ?_;refine mV ?_;refine vV (by first|exact fs_lssKT rfl rfl (by omega)|exact fs_lssKF rfl rfl (by omega)|exact fs_gtrKF rfl rfl (by omega)|exact fs_mulE rfl rfl e1|exact fs_subKE rfl rfl e2 (wrapU8 (by omega) (by omega))|exact fs_subE rfl rfl e3|exact fs_mulr rfl rfl (by omega) (by omega)|exact fs_mul rfl rfl) ?_;refine mV ?_;refine mV ?_;refine vV (by exact fs_indexS strTW rfl rfl (by omega) h1) ?_;refine vV (by first|exact fs_lssKT rfl rfl (by omega)|exact fs_lssKF rfl rfl (by omega)|exact fs_gtrKF rfl rfl (by omega)|exact fs_mulE rfl rfl e1|exact fs_subKE rfl rfl e2 (wrapU8 (by omega) (by omega))|exact fs_subE rfl rfl e3|exact fs_subr rfl rfl (by omega) (by omega)|exact fs_sub rfl rfl) ?_;refine vV (by exact fs_convT intU8 intI64 rfl (wrapI (by omega) (by omega))) ?_;refine vV (by first|exact fs_lssKT rfl rfl (by omega)|exact fs_lssKF rfl rfl (by omega)|exact fs_gtrKF rfl rfl (by omega)|exact fs_mulE rfl rfl e1|exact fs_subKE rfl rfl e2 (wrapU8 (by omega) (by omega))|exact fs_subE rfl rfl e3|exact fs_subr rfl rfl (by omega) (by omega)|exact fs_sub rfl rfl) ?_;refine aV ?_)|(refine rg 7 ?_;refine mV ?_;refine vV (by first|exact fs_lssKT rfl rfl (by omega)|exact fs_lssKF rfl rfl (by omega)|exact fs_gtrKF rfl rfl (by omega)|exact fs_mulE rfl rfl e1|exact fs_subKE rfl rfl e2 (wrapU8 (by omega) (by omega))|exact fs_subE rfl rfl e3|exact fs_addr rfl rfl (by omega) (by omega)|exact fs_add rfl rfl) ?_;refine aV ?_)|refine nZ ?_)
      all_goals first | (exfalso; omega) | exact ⟨⟨k + 1, hlt⟩, by dsimp only; omega, ⟨[], rfl, ⟨rfl, rfl, by dsimp only; rw [hnx]; rfl, congrArg (fun x => some (AV.i x)) (show ((pre.length + k : Nat) : Int) + 1 = ((pre.length + (k + 1) : Nat) : Int) by omega), trivial⟩, trivial, List.nodup_nil, fun _ h => absurd h (Nat.not_lt_zero _)⟩⟩
    · obtain rfl : k = ds.length := by omega
      rw [hval] at hu ⊢
      rcases hp with ⟨hp1, hnu⟩ | ⟨hp1, hnu, hng⟩
      · have hp0 : (pre.length : Int) = 0 := by rw [hp1]; rfl
        have hneg : -(-(u : Int)) = n := by omega
        repeat' (first|refine wS ?_|refine wB ?_|refine wK ?_|refine wR ?_|refine wE ?_|refine wT ?_|refine wU ?_|(refine wC rfl (fun hb=>?_) (fun hb=>?_)<;>(first|subst hb|((try simp only [nm] at hb);try (exfalso;omega))))|(refine rg 6 ?_;refine mV ?_;refine mV ?_;refine vV (by first|exact fs_lenOwn T rfl rfl|exact fs_lenRow T rfl rfl|exact fs_lenNil T rfl rfl|exact fs_lenS strTW rfl) ?_;refine vV (by first|exact fs_lssKF rfl rfl (by omega)|exact fs_negE rfl hneg ⟨n1,n2⟩|exact fs_addS rfl rfl (by simp only [List.length_append,List.length_cons,List.length_nil] at *;omega)|exact fs_lss rfl rfl) ?_)|(refine rg 11 ?_;refine mV ?_;refine vV (by first|exact fs_lssKF rfl rfl (by omega)|exact fs_negE rfl hneg ⟨n1,n2⟩|exact fs_addS rfl rfl (by simp only [List.length_append,List.length_cons,List.length_nil] at *;omega)|exact fs_eqlKT rfl rfl hp0|exact fs_eql rfl rfl|exact fs_eqlST rfl rfl rfl) ?_)|(refine rg 12 ?_;refine mV ?_;refine vV (by first|exact fs_lssKF rfl rfl (by omega)|exact fs_negE rfl hneg ⟨n1,n2⟩|exact fs_addS rfl rfl (by simp only [List.length_append,List.length_cons,List.length_nil] at *;omega)|exact fs_negr rfl (by omega) (by omega)|exact fs_neg rfl) ?_;refine aV ?_)|(refine rg 13 ?_;refine mV ?_;refine mV ?_;refine vV (by exact kC (hc)) ?_;refine mV ?_;refine vV (by first|exact fs_lssKF rfl rfl (by omega)|exact fs_negE rfl hneg ⟨n1,n2⟩|exact fs_addS rfl rfl (by simp only [List.length_append,List.length_cons,List.length_nil] at *;omega)|exact fs_addr rfl rfl (by omega) (by omega)|exact fs_add rfl rfl) ?_;refine vV (by first|exact fs_lssKF rfl rfl (by omega)|exact fs_negE rfl hneg ⟨n1,n2⟩|exact fs_addS rfl rfl (by simp only [List.length_append,List.length_cons,List.length_nil] at *;omega)|exact fs_eqlKT rfl rfl hp0|exact fs_eql rfl rfl|exact fs_eqlST rfl rfl rfl) ?_;refine aV ?_;refine aV ?_)|refine nZ ?_)
        all_goals first | (exfalso; omega) | exact ⟨.inl rfl, [], _, rfl, rfl, rfl, trivial, by decide, fun _ hi => absurd hi (Nat.not_lt_zero _)⟩
      · have hp0 : (pre.length : Int) = 1 := by rw [hp1]; rfl
        have hcn : (-(u : Int)) = n := hnu.symm
        rw [hcn]
        repeat' (first|refine wS ?_|refine wB ?_|refine wK ?_|refine wR ?_|refine wE ?_|refine wT ?_|refine wU ?_|(refine wC rfl (fun hb=>?_) (fun hb=>?_)<;>(first|subst hb|((try simp only [nm] at hb);try (exfalso;omega))))|(refine rg 6 ?_;refine mV ?_;refine mV ?_;refine vV (by first|exact fs_lenOwn T rfl rfl|exact fs_lenRow T rfl rfl|exact fs_lenNil T rfl rfl|exact fs_lenS strTW rfl) ?_;refine vV (by first|exact fs_lssKF rfl rfl (by omega)|exact fs_addS rfl rfl (by simp only [List.length_append,List.length_cons,List.length_nil] at *;omega)|exact fs_lss rfl rfl) ?_)|(refine rg 11 ?_;refine mV ?_;refine vV (by first|exact fs_lssKF rfl rfl (by omega)|exact fs_addS rfl rfl (by simp only [List.length_append,List.length_cons,List.length_nil] at *;omega)|exact fs_eqlKF rfl rfl (by omega)|exact fs_eql rfl rfl|exact fs_eqlST rfl rfl rfl) ?_)|(refine rg 13 ?_;refine mV ?_;refine mV ?_;refine vV (by exact kC (hc)) ?_;refine mV ?_;refine vV (by first|exact fs_lssKF rfl rfl (by omega)|exact fs_addS rfl rfl (by simp only [List.length_append,List.length_cons,List.length_nil] at *;omega)|exact fs_addr rfl rfl (by omega) (by omega)|exact fs_add rfl rfl) ?_;refine vV (by first|exact fs_lssKF rfl rfl (by omega)|exact fs_addS rfl rfl (by simp only [List.length_append,List.length_cons,List.length_nil] at *;omega)|exact fs_eqlKF rfl rfl (by omega)|exact fs_eql rfl rfl|exact fs_eqlST rfl rfl rfl) ?_;refine aV ?_;refine aV ?_)|refine nZ ?_)
        all_goals first | (exfalso; omega) | exact ⟨.inl rfl, [], _, rfl, rfl, rfl, trivial, by decide, fun _ hi => absurd hi (Nat.not_lt_zero _)⟩
end Go.Proofs.YtjpcpbbkelgkeaaGreatDoor
namespace Go.Proofs.YtjpcpbbkelgkeaaGreatDoor
open Go Go.Ab Go.Wr
theorem fs_assignI {P : Program} {env : Env} {h : Hp} {d : Option Nat} {ty : TypeId} {pos : String} {af : Array Edge} {g : Option (Nat × Bool)} {x : Operand} {a : Int} (hx : evu env x = some (.i a)) : FStep P ⟨d, .assign x, ty, pos, af, g⟩ env h 0 (fun _ => .any) (fun _ => []) := by
  refine fs_val fun ρ S ac w p => ⟨.int .i64 a, ?_, by simp [R]⟩
  have h1 := R_v (p.evu hx)
  simp [execOp, h1]
theorem fs_negW {P : Program} {env : Env} {h : Hp} {d : Option Nat} {ty : TypeId} {pos : String} {af : Array Edge} {g : Option (Nat × Bool)} {t : TypeId} {x : Operand} {a r : Int} (hx : evu env x = some (.i a)) (e : IntKind.i64.wrap (-a) = r) : FStep P ⟨d, .unOp .neg t x, ty, pos, af, g⟩ env h 0 (fun _ => .i r) (fun _ => []) := by
  have := fs_neg (P := P) (h := h) (d := d) (ty := ty) (pos := pos) (af := af) (g := g) (t := t) hx
  rw [e] at this
  exact this
attribute [local irreducible] VC AW FStep ACall SlT IntT StrT
set_option maxHeartbeats 4000000
theorem backNo_c (s : List UInt8) (hs : ∀ n, I64 n → Lib.itoa n ≠ s) (hl : s.length ≤ 1000) : ACall Tryz.prog 68 [.s s] [] (.tup [.any, .b false]) [] := by
  refine acall T Tryz.func68 rfl rfl rfl rfl ?_
  have hf : ∃ f : Nat, (f = 1 ∧ ∃ r, s = 45 :: r) ∨ (f = 0 ∧ (s = [] ∨ ∃ c r, s = c :: r ∧ c.toNat ≠ 45)) := by
    cases s with
    | nil => exact ⟨0, .inr ⟨rfl, .inl rfl⟩⟩
    | cons c r =>
      by_cases h : c.toNat = 45
      · exact ⟨1, .inl ⟨rfl, r, by rw [show c = 45 from UInt8.toNat_inj.1 h]⟩⟩
      · exact ⟨0, .inr ⟨rfl, .inr ⟨c, r, rfl, h⟩⟩⟩
  obtain ⟨f, hf⟩ := hf
  have hf1 : f ≤ 1 := by rcases hf with ⟨h, _⟩ | ⟨h, _⟩ <;> omega
  apply cutT
  · intro rest
    rcases hf with ⟨hf0, r, hr⟩ | ⟨hf0, hr | ⟨c, r, hr, hc⟩⟩
    · have h0 : s[(0 : Int).toNat]? = some 45 := by rw [hr]; rfl
      have hp : 0 < s.length := by rw [hr]; simp
      repeat' (first|refine wS ?_|refine wB ?_|refine wK ?_|refine wR ?_|refine wE ?_|refine wT ?_|refine wU ?_|(refine wC rfl (fun hb=>?_) (fun hb=>?_)<;>(first|subst hb|((try simp only [nm] at hb);try (exfalso;omega))))|(refine rg 0 ?_;refine aV ?_;refine aV ?_)|(refine rg 1 ?_;refine aV ?_)|(refine rg 2 ?_;(all_goals (refine mV ?_;refine vV (by first|exact fs_lenOwn T rfl rfl|exact fs_lenRow T rfl rfl|exact fs_lenNil T rfl rfl|exact fs_lenS strTW rfl) ?_;refine vV (by first|exact fs_gtrKT rfl rfl (by omega)|exact fs_gtr rfl rfl) ?_;refine mV ?_));(all_goals first|(refine gK ?_)|(refine vc_split rfl rfl (fun hb=>?_) (fun hb=>?_)<;>(first|subst hb|(rw [hb];(try simp only [nm] at hb);try ((exfalso;omega);done)))));(all_goals first|(refine gT ?_;(refine mV ?_);refine gT ?_;(refine vV (by exact fs_indexS strTW rfl rfl (by decide) h0) ?_);refine gT ?_;(refine vV (by first|exact fs_gtrKT rfl rfl (by omega)|exact fs_eqlKT rfl rfl rfl|exact fs_eql rfl rfl) ?_))|(iterate 3 first|refine gF ?_|refine gU ?_));(all_goals (first|refine pV ?_|refine vV (by exact fs_pick rfl rfl rfl) ?_)))|(refine rg 3 ?_;refine aV ?_)|(refine rg 4 ?_;refine aV ?_)|(refine rg 5 ?_;refine mV ?_;refine aV ?_)|refine nZ ?_)
      all_goals exact aw_keep [(0, .s s), (4, .i (f : Int)), (5, .i 0), (6, .i (f : Int))] [] ⟨[], rfl, ⟨rfl, congrArg (fun x => some (AV.i x)) (show (1 : Int) = (f : Int) by omega), rfl, congrArg (fun x => some (AV.i x)) (show (1 : Int) = (f : Int) by omega), trivial⟩, trivial, List.nodup_nil, fun _ h => absurd h (Nat.not_lt_zero _)⟩ rest.get
    · have hp : s.length = 0 := by rw [hr]; rfl
      repeat' (first|refine wS ?_|refine wB ?_|refine wK ?_|refine wR ?_|refine wE ?_|refine wT ?_|refine wU ?_|(refine wC rfl (fun hb=>?_) (fun hb=>?_)<;>(first|subst hb|((try simp only [nm] at hb);try (exfalso;omega))))|(refine rg 0 ?_;refine aV ?_;refine aV ?_)|(refine rg 1 ?_;refine aV ?_)|(refine rg 2 ?_;(all_goals (refine mV ?_;refine vV (by first|exact fs_lenOwn T rfl rfl|exact fs_lenRow T rfl rfl|exact fs_lenNil T rfl rfl|exact fs_lenS strTW rfl) ?_;refine vV (by first|exact fs_gtrKF rfl rfl (by omega)|exact fs_gtr rfl rfl) ?_;refine mV ?_));(all_goals first|(refine gK ?_)|(refine vc_split rfl rfl (fun hb=>?_) (fun hb=>?_)<;>(first|subst hb|(rw [hb];(try simp only [nm] at hb);try ((exfalso;omega);done)))));(all_goals first|(refine gT ?_;(refine mV ?_);refine gT ?_;(refine vV (by fail) ?_);refine gT ?_;(refine vV (by first|exact fs_gtrKF rfl rfl (by omega)|exact fs_eql rfl rfl) ?_))|(iterate 3 first|refine gF ?_|refine gU ?_));(all_goals (first|refine pV ?_|refine vV (by exact fs_pick rfl rfl rfl) ?_)))|(refine rg 4 ?_;refine aV ?_)|(refine rg 5 ?_;refine mV ?_;refine aV ?_)|refine nZ ?_)
      all_goals exact aw_keep [(0, .s s), (4, .i (f : Int)), (5, .i 0), (6, .i (f : Int))] [] ⟨[], rfl, ⟨rfl, congrArg (fun x => some (AV.i x)) (show (0 : Int) = (f : Int) by omega), rfl, congrArg (fun x => some (AV.i x)) (show (0 : Int) = (f : Int) by omega), trivial⟩, trivial, List.nodup_nil, fun _ h => absurd h (Nat.not_lt_zero _)⟩ rest.get
    · have h0 : s[(0 : Int).toNat]? = some c := by rw [hr]; rfl
      have hp : 0 < s.length := by rw [hr]; simp
      repeat' (first|refine wS ?_|refine wB ?_|refine wK ?_|refine wR ?_|refine wE ?_|refine wT ?_|refine wU ?_|(refine wC rfl (fun hb=>?_) (fun hb=>?_)<;>(first|subst hb|((try simp only [nm] at hb);try (exfalso;omega))))|(refine rg 0 ?_;refine aV ?_;refine aV ?_)|(refine rg 1 ?_;refine aV ?_)|(refine rg 2 ?_;(all_goals (refine mV ?_;refine vV (by first|exact fs_lenOwn T rfl rfl|exact fs_lenRow T rfl rfl|exact fs_lenNil T rfl rfl|exact fs_lenS strTW rfl) ?_;refine vV (by first|exact fs_gtrKT rfl rfl (by omega)|exact fs_gtr rfl rfl) ?_;refine mV ?_));(all_goals first|(refine gK ?_)|(refine vc_split rfl rfl (fun hb=>?_) (fun hb=>?_)<;>(first|subst hb|(rw [hb];(try simp only [nm] at hb);try ((exfalso;omega);done)))));(all_goals first|(refine gT ?_;(refine mV ?_);refine gT ?_;(refine vV (by exact fs_indexS strTW rfl rfl (by decide) h0) ?_);refine gT ?_;(refine vV (by first|exact fs_gtrKT rfl rfl (by omega)|exact fs_eqlKF rfl rfl (by omega)|exact fs_eql rfl rfl) ?_))|(iterate 3 first|refine gF ?_|refine gU ?_));(all_goals (first|refine pV ?_|refine vV (by exact fs_pick rfl rfl rfl) ?_)))|(refine rg 4 ?_;refine aV ?_)|(refine rg 5 ?_;refine mV ?_;refine aV ?_)|refine nZ ?_)
      all_goals exact aw_keep [(0, .s s), (4, .i (f : Int)), (5, .i 0), (6, .i (f : Int))] [] ⟨[], rfl, ⟨rfl, congrArg (fun x => some (AV.i x)) (show (0 : Int) = (f : Int) by omega), rfl, congrArg (fun x => some (AV.i x)) (show (0 : Int) = (f : Int) by omega), trivial⟩, trivial, List.nodup_nil, fun _ h => absurd h (Nat.not_lt_zero _)⟩ rest.get
  · refine aw_loop (X := {p : Nat × Int // I64 p.2}) (fun p => [(0, .s s), (4, .i (f : Int)), (5, .i p.1.2), (6, .i (p.1.1 : Int))]) (fun _ => []) (fun p => s.length - p.1.1) ⟨(f, 0), by unfold I64; omega⟩ (by (refine ⟨[], rfl, ?_, trivial, List.nodup_nil, fun _ h => absurd h (Nat.not_lt_zero _)⟩; (repeat (first | exact trivial | refine ⟨rfl, ?_⟩)))) ?_
    rintro ⟨⟨i, n⟩, hn⟩
    dsimp only at hn ⊢
    by_cases hlt : i < s.length
    · have h1 : s[((i : Int)).toNat]? = some s[i] := by rw [Int.toNat_natCast, List.getElem?_eq_getElem hlt]
      generalize s[i] = c at *
      by_cases hb : 48 ≤ c.toNat ∧ c.toNat ≤ 57 ∧ i ≤ 20
      · have hw := wrap_I64 (IntKind.i64.wrap (10 * n) - ((c.toNat - 48 : Nat) : Int))
        have e2 : ((c.toNat : Int) - 48) = ((c.toNat - 48 : Nat) : Int) := by omega
        generalize hz : IntKind.i64.wrap (IntKind.i64.wrap (10 * n) - ((c.toNat - 48 : Nat) : Int)) = z at *
        generalize e1 : IntKind.i64.wrap (10 * n) = y at *
        repeat' (first|refine wS ?_|refine wB ?_|refine wK ?_|refine wR ?_|refine wE ?_|refine wT ?_|refine wU ?_|(refine wC rfl (fun hb=>?_) (fun hb=>?_)<;>(first|subst hb|((try simp only [nm] at hb);try (exfalso;omega))))|(refine rg 6 ?_;refine mV ?_;refine mV ?_;refine vV (by first|exact fs_lenOwn T rfl rfl|exact fs_lenRow T rfl rfl|exact fs_lenNil T rfl rfl|exact fs_lenS strTW rfl) ?_;refine vV (by first|exact fs_lssKT rfl rfl (by omega)|exact fs_lssKF rfl rfl (by omega)|exact fs_gtrKF rfl rfl (by omega)|exact fs_mulE rfl rfl e1|exact fs_subKE rfl rfl e2 (wrapU8 (by omega) (by omega))|exact fs_subE rfl rfl hz|exact fs_lss rfl rfl) ?_)|(refine rg 8 ?_;(all_goals (refine mV ?_;refine mV ?_;refine vV (by exact fs_indexS strTW rfl rfl (by omega) h1) ?_;refine vV (by first|exact fs_lssKT rfl rfl (by omega)|exact fs_lssKF rfl rfl (by omega)|exact fs_gtrKF rfl rfl (by omega)|exact fs_mulE rfl rfl e1|exact fs_subKE rfl rfl e2 (wrapU8 (by omega) (by omega))|exact fs_subE rfl rfl hz|exact fs_lss rfl rfl) ?_;refine mV ?_));(all_goals first|(refine gK ?_)|(refine vc_split rfl rfl (fun hb=>?_) (fun hb=>?_)<;>(first|subst hb|(rw [hb];(try simp only [nm] at hb);try ((exfalso;omega);done)))));(all_goals first|(refine gT ?_;(refine mV ?_);refine gT ?_;(refine mV ?_);refine gT ?_;(refine vV (by exact fs_indexS strTW rfl rfl (by omega) h1) ?_);refine gT ?_;(refine vV (by first|exact fs_lssKT rfl rfl (by omega)|exact fs_lssKF rfl rfl (by omega)|exact fs_gtrKF rfl rfl (by omega)|exact fs_mulE rfl rfl e1|exact fs_subKE rfl rfl e2 (wrapU8 (by omega) (by omega))|exact fs_subE rfl rfl hz|exact fs_gtr rfl rfl) ?_))|(iterate 4 first|refine gF ?_|refine gU ?_));(all_goals ((first|refine pV ?_|refine vV (by exact fs_pick rfl rfl rfl) ?_);refine mV ?_));(all_goals first|(refine gK ?_)|(refine vc_split rfl rfl (fun hb=>?_) (fun hb=>?_)<;>(first|subst hb|(rw [hb];(try simp only [nm] at hb);try ((exfalso;omega);done)))));(all_goals first|(refine gT ?_;(refine mV ?_);refine gT ?_;(refine vV (by first|exact fs_lssKT rfl rfl (by omega)|exact fs_lssKF rfl rfl (by omega)|exact fs_gtrKF rfl rfl (by omega)|exact fs_mulE rfl rfl e1|exact fs_subKE rfl rfl e2 (wrapU8 (by omega) (by omega))|exact fs_subE rfl rfl hz|exact fs_gtr rfl rfl) ?_))|(iterate 2 first|refine gF ?_|refine gU ?_));(all_goals (first|refine pV ?_|refine vV (by exact fs_pick rfl rfl rfl) ?_)))|(refine rg 10 ?_;refine mV ?_;refine vV (by first|exact fs_lssKT rfl rfl (by omega)|exact fs_lssKF rfl rfl (by omega)|exact fs_gtrKF rfl rfl (by omega)|exact fs_mulE rfl rfl e1|exact fs_subKE rfl rfl e2 (wrapU8 (by omega) (by omega))|exact fs_subE rfl rfl hz|exact fs_mulr rfl rfl (by omega) (by omega)|exact fs_mul rfl rfl) ?_;refine mV ?_;refine mV ?_;refine vV (by exact fs_indexS strTW rfl rfl (by omega) h1) ?_;refine vV (by first|exact fs_lssKT rfl rfl (by omega)|exact fs_lssKF rfl rfl (by omega)|exact fs_gtrKF rfl rfl (by omega)|exact fs_mulE rfl rfl e1|exact fs_subKE rfl rfl e2 (wrapU8 (by omega) (by omega))|exact fs_subE rfl rfl hz|exact fs_subr rfl rfl (by omega) (by omega)|exact fs_sub rfl rfl) ?_;refine vV (by exact fs_convT intU8 intI64 rfl (wrapI (by omega) (by omega))) ?_;refine vV (by first|exact fs_lssKT rfl rfl (by omega)|exact fs_lssKF rfl rfl (by omega)|exact fs_gtrKF rfl rfl (by omega)|exact fs_mulE rfl rfl e1|exact fs_subKE rfl rfl e2 (wrapU8 (by omega) (by omega))|exact fs_subE rfl rfl hz|exact fs_subr rfl rfl (by omega) (by omega)|exact fs_sub rfl rfl) ?_;refine aV ?_)|(refine rg 7 ?_;refine mV ?_;refine vV (by first|exact fs_lssKT rfl rfl (by omega)|exact fs_lssKF rfl rfl (by omega)|exact fs_gtrKF rfl rfl (by omega)|exact fs_mulE rfl rfl e1|exact fs_subKE rfl rfl e2 (wrapU8 (by omega) (by omega))|exact fs_subE rfl rfl hz|exact fs_addr rfl rfl (by omega) (by omega)|exact fs_add rfl rfl) ?_;refine aV ?_)|refine nZ ?_)
        all_goals first | (exfalso; omega) | exact ⟨⟨(i + 1, z), hw⟩, by dsimp only; omega, [], rfl, ⟨rfl, rfl, rfl, rfl, trivial⟩, trivial, List.nodup_nil, fun _ h => absurd h (Nat.not_lt_zero _)⟩
      · repeat' (first | refine wS ?_ | refine wB ?_ | refine wK ?_ | refine wR ?_ | refine wE ?_ | refine aw_condt rfl ?_ | refine aw_condf rfl ?_ | (refine wC rfl (fun hb => ?_) (fun hb => ?_) <;> (first | subst hb | ((try simp only [nm] at hb); try (exfalso; omega)))) | (((refine rg 6 ?_)); (all_goals (refine mV ?_; refine mV ?_; refine vV (by first | exact fs_lenOwn T rfl rfl | exact fs_lenRow T rfl rfl | exact fs_lenNil T rfl rfl | exact fs_lenS strTW rfl) ?_; refine vV (by first | exact fs_lssKT rfl rfl (by omega) | exact fs_lssKF rfl rfl (by omega) | exact fs_gtrKF rfl rfl (by omega) | exact fs_gtrKT rfl rfl (by omega) | exact fs_lss rfl rfl) ?_))) | (((refine rg 8 ?_)); (all_goals (refine mV ?_; refine mV ?_; refine vV (by exact fs_indexS strTW rfl rfl (by omega) h1) ?_; refine vV (by first | exact fs_lssKT rfl rfl (by omega) | exact fs_lssKF rfl rfl (by omega) | exact fs_gtrKF rfl rfl (by omega) | exact fs_gtrKT rfl rfl (by omega) | exact fs_lss rfl rfl) ?_; refine mV ?_)); (all_goals first | (refine gK ?_) | (refine vc_split rfl rfl (fun hb => ?_) (fun hb => ?_) <;> (first | subst hb | (rw [hb]; (try simp only [nm] at hb); try ((exfalso; omega); done))))); (all_goals first | (refine gT ?_; (refine mV ?_); refine gT ?_; (refine mV ?_); refine gT ?_; (refine vV (by exact fs_indexS strTW rfl rfl (by omega) h1) ?_); refine gT ?_; (refine vV (by first | exact fs_lssKT rfl rfl (by omega) | exact fs_lssKF rfl rfl (by omega) | exact fs_gtrKF rfl rfl (by omega) | exact fs_gtrKT rfl rfl (by omega) | exact fs_gtr rfl rfl) ?_)) | (iterate 4 first | refine gF ?_ | refine gU ?_)); (all_goals ((first|refine pV ?_|refine vV (by exact fs_pick rfl rfl rfl) ?_); refine mV ?_)); (all_goals first | (refine gK ?_) | (refine vc_split rfl rfl (fun hb => ?_) (fun hb => ?_) <;> (first | subst hb | (rw [hb]; (try simp only [nm] at hb); try ((exfalso; omega); done))))); (all_goals first | (refine gT ?_; (refine mV ?_); refine gT ?_; (refine vV (by first | exact fs_lssKT rfl rfl (by omega) | exact fs_lssKF rfl rfl (by omega) | exact fs_gtrKF rfl rfl (by omega) | exact fs_gtrKT rfl rfl (by omega) | exact fs_gtr rfl rfl) ?_)) | (iterate 2 first | refine gF ?_ | refine gU ?_)); (all_goals (first|refine pV ?_|refine vV (by exact fs_pick rfl rfl rfl) ?_))) | (refine vc_nilp (by (first | (dsimp only [ln1, ln2, List.append_nil, ln4, ln5, ln6, ln7, ln8, ln9, putAt, putd, allObjs, argEnv, un_v, un_ptr, un_ep, un_pr, un_sl, un_mp, un_row, un_agg, un_tup, un_clo, Nat.zero_add, lnb, Nat.reduceAdd, lnc, lnd]; first | done | exact rfl) | exact rfl)) ?_))
        all_goals try (exfalso; omega)
        all_goals repeat' (first | refine wS ?_ | refine wB ?_ | refine wK ?_ | refine wR ?_ | refine wE ?_ | refine aw_condt rfl ?_ | refine aw_condf rfl ?_ | (refine wC rfl (fun hb => ?_) (fun hb => ?_) <;> (first | subst hb | ((try simp only [nm] at hb); try (exfalso; omega)))) | (((refine rg 9 ?_)); (all_goals (refine vV (by first | exact fs_assignI rfl | exact fs_assign rfl) ?_; refine vV (by first | exact fs_assignI rfl | exact fs_assign rfl) ?_))) | (refine vc_nilp (by (first | (dsimp only [ln1, ln2, List.append_nil, ln4, ln5, ln6, ln7, ln8, ln9, putAt, putd, allObjs, argEnv, un_v, un_ptr, un_ep, un_pr, un_sl, un_mp, un_row, un_agg, un_tup, un_clo, Nat.zero_add, lnb, Nat.reduceAdd, lnc, lnd]; first | done | exact rfl) | exact rfl)) ?_))
        all_goals exact ⟨.inl rfl, [], _, rfl, rfl, rfl, trivial, by decide, fun _ hi => absurd hi (Nat.not_lt_zero _)⟩
    · by_cases hf0 : (f : Int) = 0
      · have hn2 : I64 (IntKind.i64.wrap (-n)) := wrap_I64 _
        have hc := qint_c hn2
        have hne : intB (IntKind.i64.wrap (-n)) ≠ s ++ [59] := fun q => hs _ hn2 (List.append_cancel_right q)
        generalize hz : IntKind.i64.wrap (-n) = z at *
        repeat' (first|refine wS ?_|refine wB ?_|refine wK ?_|refine wR ?_|refine wE ?_|refine wT ?_|refine wU ?_|(refine wC rfl (fun hb=>?_) (fun hb=>?_)<;>(first|subst hb|((try simp only [nm] at hb);try (exfalso;omega))))|(refine rg 6 ?_;refine mV ?_;refine mV ?_;refine vV (by first|exact fs_lenOwn T rfl rfl|exact fs_lenRow T rfl rfl|exact fs_lenNil T rfl rfl|exact fs_lenS strTW rfl) ?_;refine vV (by first|exact fs_lssKF rfl rfl (by omega)|exact fs_negW rfl hz|exact fs_lss rfl rfl) ?_)|(refine rg 11 ?_;refine mV ?_;refine vV (by first|exact fs_lssKF rfl rfl (by omega)|exact fs_negW rfl hz|exact fs_eqlKT rfl rfl hf0|exact fs_eql rfl rfl) ?_)|(refine rg 12 ?_;refine mV ?_;refine vV (by first|exact fs_lssKF rfl rfl (by omega)|exact fs_negW rfl hz|exact fs_negr rfl (by omega) (by omega)|exact fs_neg rfl) ?_;refine aV ?_)|refine nZ ?_)
        all_goals try (exfalso; omega)
        all_goals repeat' (first | refine wS ?_ | refine wB ?_ | refine wK ?_ | refine wR ?_ | refine wE ?_ | refine aw_condt rfl ?_ | refine aw_condf rfl ?_ | (refine wC rfl (fun hb => ?_) (fun hb => ?_) <;> (first | subst hb | ((try simp only [nm] at hb); try (exfalso; omega)))) | (((refine rg 13 ?_)); (all_goals (refine mV ?_; refine mV ?_; refine vV (by exact kC (hc)) ?_; refine mV ?_; refine vV (by first | exact fs_addS rfl rfl (by simp only [List.length_append, List.length_cons, List.length_nil] at *; omega) | exact fs_addr rfl rfl (by omega) (by omega) | exact fs_add rfl rfl) ?_; refine vV (by first | exact fs_addS rfl rfl (by simp only [List.length_append, List.length_cons, List.length_nil] at *; omega) | exact fs_eql rfl rfl | exact fs_eqlSF rfl rfl hne) ?_; refine vV (by first | exact fs_assignI rfl | exact fs_assign rfl) ?_; refine vV (by first | exact fs_assignI rfl | exact fs_assign rfl) ?_))) | (refine vc_nilp (by (first | (dsimp only [ln1, ln2, List.append_nil, ln4, ln5, ln6, ln7, ln8, ln9, putAt, putd, allObjs, argEnv, un_v, un_ptr, un_ep, un_pr, un_sl, un_mp, un_row, un_agg, un_tup, un_clo, Nat.zero_add, lnb, Nat.reduceAdd, lnc, lnd]; first | done | exact rfl) | exact rfl)) ?_))
        all_goals exact ⟨.inl rfl, [], _, rfl, rfl, rfl, trivial, by decide, fun _ hi => absurd hi (Nat.not_lt_zero _)⟩
      · have hc := qint_c hn
        have hne : intB n ≠ s ++ [59] := fun q => hs _ hn (List.append_cancel_right q)
        repeat' (first|refine wS ?_|refine wB ?_|refine wK ?_|refine wR ?_|refine wE ?_|refine wT ?_|refine wU ?_|(refine wC rfl (fun hb=>?_) (fun hb=>?_)<;>(first|subst hb|((try simp only [nm] at hb);try (exfalso;omega))))|(refine rg 6 ?_;refine mV ?_;refine mV ?_;refine vV (by first|exact fs_lenOwn T rfl rfl|exact fs_lenRow T rfl rfl|exact fs_lenNil T rfl rfl|exact fs_lenS strTW rfl) ?_;refine vV (by first|exact fs_lssKF rfl rfl (by omega)|exact fs_lss rfl rfl) ?_)|(refine rg 11 ?_;refine mV ?_;refine vV (by first|exact fs_lssKF rfl rfl (by omega)|exact fs_eqlKF rfl rfl hf0|exact fs_eql rfl rfl) ?_)|refine nZ ?_)
        all_goals try (exfalso; omega)
        all_goals repeat' (first | refine wS ?_ | refine wB ?_ | refine wK ?_ | refine wR ?_ | refine wE ?_ | refine aw_condt rfl ?_ | refine aw_condf rfl ?_ | (refine wC rfl (fun hb => ?_) (fun hb => ?_) <;> (first | subst hb | ((try simp only [nm] at hb); try (exfalso; omega)))) | (((refine rg 13 ?_)); (all_goals (refine mV ?_; refine mV ?_; refine vV (by exact kC (hc)) ?_; refine mV ?_; refine vV (by first | exact fs_addS rfl rfl (by simp only [List.length_append, List.length_cons, List.length_nil] at *; omega) | exact fs_addr rfl rfl (by omega) (by omega) | exact fs_add rfl rfl) ?_; refine vV (by first | exact fs_addS rfl rfl (by simp only [List.length_append, List.length_cons, List.length_nil] at *; omega) | exact fs_eql rfl rfl | exact fs_eqlSF rfl rfl hne) ?_; refine vV (by first | exact fs_assignI rfl | exact fs_assign rfl) ?_; refine vV (by first | exact fs_assignI rfl | exact fs_assign rfl) ?_))) | (refine vc_nilp (by (first | (dsimp only [ln1, ln2, List.append_nil, ln4, ln5, ln6, ln7, ln8, ln9, putAt, putd, allObjs, argEnv, un_v, un_ptr, un_ep, un_pr, un_sl, un_mp, un_row, un_agg, un_tup, un_clo, Nat.zero_add, lnb, Nat.reduceAdd, lnc, lnd]; first | done | exact rfl) | exact rfl)) ?_))
        all_goals exact ⟨.inl rfl, [], _, rfl, rfl, rfl, trivial, by decide, fun _ hi => absurd hi (Nat.not_lt_zero _)⟩
theorem backYes_c (n : Int) (hn : I64 n) : ACall Tryz.prog 68 [.s (Lib.itoa n)] [] (.tup [.i n, .b true]) [] := by
  by_cases h : n < 0
  · exact backOk_c [45] n.natAbs n hn (by unfold Lib.itoa; rw [if_pos h]; rfl) (.inr ⟨rfl, by omega, h⟩)
  · exact backOk_c [] n.toNat n hn (by unfold Lib.itoa; rw [if_neg h]; rfl) (.inl ⟨rfl, by omega⟩)
theorem qopen_c (l : List UInt8) : ACall Tryz.prog 25 [.s l] [] (.ptr 0 0) (rdH (some l)) := by
  refine acall T Tryz.func25 rfl rfl rfl rfl ?_
  repeat' (first|refine wS ?_|refine wB ?_|refine wK ?_|refine wR ?_|refine wE ?_|refine wT ?_|refine wU ?_|(refine wC rfl (fun hb=>?_) (fun hb=>?_)<;>(first|subst hb|((try simp only [nm] at hb);try (exfalso;omega))))|(refine rg 0 ?_;refine aV ?_)|(refine rg 1 ?_;refine mV ?_;refine vV (by exact fs_build T rfl rfl rfl rfl) ?_;refine vc_n (by exact fs_box rfl rfl) rfl ?_;refine aV ?_)|refine nZ ?_)
  all_goals exact ⟨.inl rfl, [0], _, rfl, rfl, rfl, ⟨.inr rfl, trivial⟩, by decide, fun _ hi => absurd hi (Nat.not_lt_zero _)⟩
theorem qfail_c (r : List UInt8) (b : Bool) : ACall Tryz.prog 67 [.ptr 0 0] [.cells [.s r, .b b]] (.i 0) [.cells [.s [], .b true]] := by
  refine acall T Tryz.func67 rfl rfl rfl rfl ?_
  repeat' (first|refine wS ?_|refine wB ?_|refine wK ?_|refine wR ?_|refine wE ?_|refine wT ?_|refine wU ?_|(refine wC rfl (fun hb=>?_) (fun hb=>?_)<;>(first|subst hb|((try simp only [nm] at hb);try (exfalso;omega))))|(refine rg 0 ?_;refine aV ?_)|(refine rg 1 ?_;refine mV ?_;refine nV ?_;refine fV T ?_;refine vc_store T rfl rfl rfl rfl rfl rfl (by decide) rfl ?_)|(refine rg 2 ?_;refine mV ?_;refine nV ?_;refine fV T ?_;refine vc_store T rfl rfl rfl rfl rfl rfl (by decide) rfl ?_)|(refine rg 3 ?_;refine aV ?_)|refine nZ ?_)
  all_goals exact ⟨.inl rfl, [0], _, rfl, rfl, rfl, ⟨.inr rfl, trivial⟩, by decide, lt1z⟩
structure Ahd (r : List UInt8) (e : UInt8) (k : Nat) : Prop where
  le : k ≤ r.length ∧ k ≤ 21
  no : ∀ j, j < k → r[j]? ≠ some e
theorem numP_no {r : List UInt8} {e : UInt8} {lo : Int} (h : ∀ j, j < 21 → r[j]? ≠ some e) : numP r e lo = none := by
  unfold numP
  rw [if_pos]
  by_cases h0 : Lib.indexByte (r.take 21) e < 0
  · exact h0
  · exfalso
    have hi := index_le (r := r) (e := e) (Int.not_lt.1 h0)
    have h1 := (Lib.indexByte_some (l := r.take 21) (c := e) (o := (Lib.indexByte (r.take 21) e).toNat) (by omega)).1
    rw [List.getElem?_take, if_pos hi.2] at h1
    exact h _ hi.2 h1
theorem numP_at {r : List UInt8} {e : UInt8} {lo : Int} {k : Nat} (hk : k < r.length) (h21 : k < 21) (hn : ∀ j, j < k → r[j]? ≠ some e) (he : r[k]? = some e) :
    (∀ n, Lib.itoa n = r.take k → I64 n → lo ≤ n → numP r e lo = some (n, r.drop (k + 1))) ∧ ((∀ n, I64 n → Lib.itoa n ≠ r.take k) → numP r e lo = none) := by
  have hi : Lib.indexByte (r.take 21) e = k := by
    have hs : r.take 21 = r.take k ++ e :: (r.take 21).drop (k + 1) := by
      have hkl : k < (r.take 21).length := by rw [List.length_take]; omega
      conv => lhs; rw [← List.take_append_drop k (r.take 21)]
      rw [List.drop_eq_getElem_cons hkl, List.take_take, Nat.min_eq_left (by omega)]
      congr 1
      have : (r.take 21)[k]? = some e := by rw [List.getElem?_take, if_pos h21]; exact he
      rw [List.getElem?_eq_getElem hkl] at this
      rw [Option.some.inj this]
    rw [hs]
    have hni : e ∉ r.take k := fun hm => by
      obtain ⟨j, hj, q⟩ := List.mem_take_iff_getElem.1 hm
      exact hn j (by omega) (by rw [List.getElem?_eq_getElem (by omega), q])
    rw [index_at hni, List.length_take, Nat.min_eq_left (by omega)]
  unfold numP
  rw [hi, if_neg (by omega), Int.toNat_natCast]
  constructor
  · intro n h1 h2 h3
    rw [← h1, atoi_itoa h2]
    dsimp only
    rw [if_pos ⟨rfl, h3⟩]
  · intro h
    cases ha : Lib.atoiAll (r.take k) with
    | ok n =>
      dsimp only
      have hb := Lib.atoiAll_bounds ha
      rw [if_neg (fun q => h n ⟨hb.1, hb.2⟩ q.1)]
    | _ => rfl
theorem ahead_c (r : List UInt8) (b : Bool) (e : UInt8) (hl : r.length ≤ 100000000) :
    ACall Tryz.prog 47 [.ptr 0 0, .v (.int .u8 e.toNat)] [.cells [.s r, .b b]] (.i (((numP r e (-9223372036854775808)).map (·.1)).getD 0)) [.cells [.s (((numP r e (-9223372036854775808)).map (·.2)).getD []), .b (if (numP r e (-9223372036854775808)).isNone then true else b)]] := by
  have hf := qfail_c r b
  refine acall T Tryz.func47 rfl rfl rfl rfl ?_
  repeat' (first|refine wS ?_|refine wB ?_|refine wK ?_|refine wR ?_|refine wE ?_|refine wT ?_|refine wU ?_|(refine wC rfl (fun hb=>?_) (fun hb=>?_)<;>(first|subst hb|((try simp only [nm] at hb);try (exfalso;omega))))|(refine rg 0 ?_;refine aV ?_)|(refine rg 1 ?_;refine aV ?_)|refine nZ ?_)
  refine aw_loop (X := {k : Nat // Ahd r e k}) (fun k => [(0, .ptr 0 0), (1, .v (.int .u8 e.toNat)), (5, .i (k.1 : Int))]) (fun _ => [.cells [.s r, .b b]]) (fun k => r.length - k.1) ⟨0, ⟨by omega, by omega⟩, fun j hj => by omega⟩ ⟨[0], rfl, (by (repeat (first | exact trivial | refine ⟨rfl, ?_⟩))), ⟨.inr rfl, trivial⟩, by decide, lt1z⟩ ?_
  rintro ⟨k, hA⟩
  dsimp only
  obtain ⟨⟨hk1, hk2⟩, hno⟩ := hA
  by_cases hkl : k < r.length
  · have h1 : r[((k : Int)).toNat]? = some r[k] := by rw [Int.toNat_natCast, List.getElem?_eq_getElem hkl]
    have h1' : r[k]? = some r[k] := List.getElem?_eq_getElem hkl
    generalize r[k] = c at *
    by_cases h21 : k < 21
    · by_cases hce : c = e
      · subst hce
        obtain ⟨g1, g2⟩ := numP_at (lo := -9223372036854775808) hkl h21 hno h1'
        have e2 : ((r.take ((k : Int)).toNat).drop (0 : Int).toNat) = r.take k := by rw [Int.toNat_zero, List.drop_zero, Int.toNat_natCast]
        have e3 : (r.take ((r.length : Int)).toNat).drop ((k : Int) + 1).toNat = r.drop (k + 1) := by rw [Int.toNat_natCast, List.take_length, show ((k : Int) + 1).toNat = k + 1 by omega]
        have htl : (r.take k).length ≤ 1000 := by rw [List.length_take]; omega
        by_cases hn : ∃ n, I64 n ∧ Lib.itoa n = r.take k
        · obtain ⟨n, hn1, hn2⟩ := hn
          have hB := backYes_c n hn1
          rw [hn2] at hB
          rw [g1 n hn2 hn1 hn1.1]
          generalize r.take k = s at *
          generalize r.drop (k + 1) = r' at *
          repeat' (first|refine wS ?_|refine wB ?_|refine wK ?_|refine wR ?_|refine wE ?_|refine wT ?_|refine wU ?_|(refine wC rfl (fun hb=>?_) (fun hb=>?_)<;>(first|subst hb|((try simp only [nm] at hb);try (exfalso;omega))))|(refine rg 2 ?_;(all_goals (refine mV ?_;refine mV ?_;refine nV ?_;refine fV T ?_;refine lV T ?_;refine vV (by first|exact fs_lenOwn T rfl rfl|exact fs_lenRow T rfl rfl|exact fs_lenNil T rfl rfl|exact fs_lenS strTW rfl) ?_;refine vV (by first|exact fs_lssKT rfl rfl (by omega)|exact fs_geqFW rfl rfl (by omega)|exact fs_lss rfl rfl) ?_;refine mV ?_));(all_goals first|(refine gK ?_)|(refine vc_split rfl rfl (fun hb=>?_) (fun hb=>?_)<;>(first|subst hb|(rw [hb];(try simp only [nm] at hb);try ((exfalso;omega);done)))));(all_goals first|(refine gT ?_;(refine mV ?_);refine gT ?_;(refine vV (by first|exact fs_lssKT rfl rfl (by omega)|exact fs_geqFW rfl rfl (by omega)|exact fs_lss rfl rfl) ?_))|(iterate 2 first|refine gF ?_|refine gU ?_));(all_goals ((first|refine pV ?_|refine vV (by exact fs_pick rfl rfl rfl) ?_);refine mV ?_));(all_goals first|(refine gK ?_)|(refine vc_split rfl rfl (fun hb=>?_) (fun hb=>?_)<;>(first|subst hb|(rw [hb];(try simp only [nm] at hb);try ((exfalso;omega);done)))));(all_goals first|(refine gT ?_;(refine mV ?_);refine gT ?_;(refine nV ?_);refine gT ?_;(refine fV T ?_);refine gT ?_;(refine lV T ?_);refine gT ?_;(refine mV ?_);refine gT ?_;(refine vV (by exact fs_indexS strTW rfl rfl (by omega) h1) ?_);refine gT ?_;(refine mV ?_);refine gT ?_;(refine vV (by first|exact fs_lssKT rfl rfl (by omega)|exact fs_geqFW rfl rfl (by omega)|exact fs_neqKF rfl rfl rfl|exact fs_neq rfl rfl) ?_))|(iterate 8 first|refine gF ?_|refine gU ?_));(all_goals (first|refine pV ?_|refine vV (by exact fs_pick rfl rfl rfl) ?_)))|(refine rg 4 ?_;refine mV ?_;refine mV ?_;refine nV ?_;refine fV T ?_;refine lV T ?_;refine vV (by first|exact fs_lenOwn T rfl rfl|exact fs_lenRow T rfl rfl|exact fs_lenNil T rfl rfl|exact fs_lenS strTW rfl) ?_;refine vV (by first|exact fs_lssKT rfl rfl (by omega)|exact fs_geqFW rfl rfl (by omega)|exact fs_geq rfl rfl) ?_)|(refine rg 6 ?_;refine mV ?_;refine nV ?_;refine fV T ?_;refine lV T ?_;refine mV ?_;refine vV (by exact fs_indexS strTW rfl rfl (by omega) h1) ?_;refine mV ?_;refine vV (by first|exact fs_lssKT rfl rfl (by omega)|exact fs_geqFW rfl rfl (by omega)|exact fs_neqKF rfl rfl rfl|exact fs_neq rfl rfl) ?_)|(refine rg 8 ?_;refine mV ?_;refine nV ?_;refine fV T ?_;refine lV T ?_;refine mV ?_;refine vV (by first|exact fs_sliceSe strTW rfl rfl rfl (by decide) (by omega) (by omega) e2|exact fs_sliceSe strTW rfl rfl rfl (by omega) (by omega) (by omega) e3) ?_;refine vV (by exact kC (hB)) ?_;refine mV ?_;refine xV ?_;refine xV ?_;refine aV ?_;refine aV ?_)|(refine rg 9 ?_;refine mV ?_;refine vV (by first|exact fs_lssKT rfl rfl (by omega)|exact fs_geqFW rfl rfl (by omega)|exact fs_not rfl) ?_)|(refine rg 11 ?_;refine mV ?_;refine mV ?_;refine nV ?_;refine fV T ?_;refine lV T ?_;refine mV ?_;refine vV (by first|exact fs_lssKT rfl rfl (by omega)|exact fs_geqFW rfl rfl (by omega)|exact fs_addr rfl rfl (by omega) (by omega)|exact fs_add rfl rfl) ?_;refine vV (by first|exact fs_sliceSe strTW rfl rfl rfl (by decide) (by omega) (by omega) e2|exact fs_sliceSe strTW rfl rfl rfl (by omega) (by omega) (by omega) e3) ?_;refine nV ?_;refine fV T ?_;refine vc_store T rfl rfl rfl rfl rfl rfl (by decide) rfl ?_)|(refine rg 12 ?_;refine mV ?_;refine aV ?_)|refine nZ ?_)
          all_goals first | (exfalso; omega) | exact ⟨.inl rfl, [0], _, rfl, rfl, rfl, ⟨.inr rfl, trivial⟩, by decide, lt1z⟩
        · have hn' : ∀ n, I64 n → Lib.itoa n ≠ r.take k := fun n h q => hn ⟨n, h, q⟩
          have hB := backNo_c _ hn' htl
          rw [g2 hn']
          generalize r.take k = s at *
          repeat' (first|refine wS ?_|refine wB ?_|refine wK ?_|refine wR ?_|refine wE ?_|refine wT ?_|refine wU ?_|(refine wC rfl (fun hb=>?_) (fun hb=>?_)<;>(first|subst hb|((try simp only [nm] at hb);try (exfalso;omega))))|(refine rg 2 ?_;(all_goals (refine mV ?_;refine mV ?_;refine nV ?_;refine fV T ?_;refine lV T ?_;refine vV (by first|exact fs_lenOwn T rfl rfl|exact fs_lenRow T rfl rfl|exact fs_lenNil T rfl rfl|exact fs_lenS strTW rfl) ?_;refine vV (by first|exact fs_lssKT rfl rfl (by omega)|exact fs_geqFW rfl rfl (by omega)|exact fs_lss rfl rfl) ?_;refine mV ?_));(all_goals first|(refine gK ?_)|(refine vc_split rfl rfl (fun hb=>?_) (fun hb=>?_)<;>(first|subst hb|(rw [hb];(try simp only [nm] at hb);try ((exfalso;omega);done)))));(all_goals first|(refine gT ?_;(refine mV ?_);refine gT ?_;(refine vV (by first|exact fs_lssKT rfl rfl (by omega)|exact fs_geqFW rfl rfl (by omega)|exact fs_lss rfl rfl) ?_))|(iterate 2 first|refine gF ?_|refine gU ?_));(all_goals ((first|refine pV ?_|refine vV (by exact fs_pick rfl rfl rfl) ?_);refine mV ?_));(all_goals first|(refine gK ?_)|(refine vc_split rfl rfl (fun hb=>?_) (fun hb=>?_)<;>(first|subst hb|(rw [hb];(try simp only [nm] at hb);try ((exfalso;omega);done)))));(all_goals first|(refine gT ?_;(refine mV ?_);refine gT ?_;(refine nV ?_);refine gT ?_;(refine fV T ?_);refine gT ?_;(refine lV T ?_);refine gT ?_;(refine mV ?_);refine gT ?_;(refine vV (by exact fs_indexS strTW rfl rfl (by omega) h1) ?_);refine gT ?_;(refine mV ?_);refine gT ?_;(refine vV (by first|exact fs_lssKT rfl rfl (by omega)|exact fs_geqFW rfl rfl (by omega)|exact fs_neqKF rfl rfl rfl|exact fs_neq rfl rfl) ?_))|(iterate 8 first|refine gF ?_|refine gU ?_));(all_goals (first|refine pV ?_|refine vV (by exact fs_pick rfl rfl rfl) ?_)))|(refine rg 4 ?_;refine mV ?_;refine mV ?_;refine nV ?_;refine fV T ?_;refine lV T ?_;refine vV (by first|exact fs_lenOwn T rfl rfl|exact fs_lenRow T rfl rfl|exact fs_lenNil T rfl rfl|exact fs_lenS strTW rfl) ?_;refine vV (by first|exact fs_lssKT rfl rfl (by omega)|exact fs_geqFW rfl rfl (by omega)|exact fs_geq rfl rfl) ?_)|(refine rg 6 ?_;refine mV ?_;refine nV ?_;refine fV T ?_;refine lV T ?_;refine mV ?_;refine vV (by exact fs_indexS strTW rfl rfl (by omega) h1) ?_;refine mV ?_;refine vV (by first|exact fs_lssKT rfl rfl (by omega)|exact fs_geqFW rfl rfl (by omega)|exact fs_neqKF rfl rfl rfl|exact fs_neq rfl rfl) ?_)|(refine rg 8 ?_;refine mV ?_;refine nV ?_;refine fV T ?_;refine lV T ?_;refine mV ?_;refine vV (by exact fs_sliceSe strTW rfl rfl rfl (by decide) (by omega) (by omega) e2) ?_;refine vV (by exact kC (hB)) ?_;refine mV ?_;refine xV ?_;refine xV ?_;refine aV ?_;refine aV ?_)|(refine rg 9 ?_;refine mV ?_;refine vV (by first|exact fs_lssKT rfl rfl (by omega)|exact fs_geqFW rfl rfl (by omega)|exact fs_not rfl) ?_)|(refine rg 10 ?_;refine mV ?_;refine vc_callw [0] rfl rfl hf rfl rfl (by decide) ⟨.inr rfl,trivial⟩ (by simp) rfl ?_;refine aV ?_)|refine nZ ?_)
          all_goals first | (exfalso; omega) | exact ⟨.inl rfl, [0], _, rfl, rfl, rfl, ⟨.inr rfl, trivial⟩, by decide, lt1z⟩
      · have hne : (c.toNat : Int) ≠ (e.toNat : Int) := fun q => hce (UInt8.toNat_inj.1 (by omega))
        repeat' (first|refine wS ?_|refine wB ?_|refine wK ?_|refine wR ?_|refine wE ?_|refine wT ?_|refine wU ?_|(refine wC rfl (fun hb=>?_) (fun hb=>?_)<;>(first|subst hb|((try simp only [nm] at hb);try (exfalso;omega))))|(refine rg 2 ?_;(all_goals (refine mV ?_;refine mV ?_;refine nV ?_;refine fV T ?_;refine lV T ?_;refine vV (by first|exact fs_lenOwn T rfl rfl|exact fs_lenRow T rfl rfl|exact fs_lenNil T rfl rfl|exact fs_lenS strTW rfl) ?_;refine vV (by first|exact fs_lssKT rfl rfl (by omega)|exact fs_lss rfl rfl) ?_;refine mV ?_));(all_goals first|(refine gK ?_)|(refine vc_split rfl rfl (fun hb=>?_) (fun hb=>?_)<;>(first|subst hb|(rw [hb];(try simp only [nm] at hb);try ((exfalso;omega);done)))));(all_goals first|(refine gT ?_;(refine mV ?_);refine gT ?_;(refine vV (by first|exact fs_lssKT rfl rfl (by omega)|exact fs_lss rfl rfl) ?_))|(iterate 2 first|refine gF ?_|refine gU ?_));(all_goals ((first|refine pV ?_|refine vV (by exact fs_pick rfl rfl rfl) ?_);refine mV ?_));(all_goals first|(refine gK ?_)|(refine vc_split rfl rfl (fun hb=>?_) (fun hb=>?_)<;>(first|subst hb|(rw [hb];(try simp only [nm] at hb);try ((exfalso;omega);done)))));(all_goals first|(refine gT ?_;(refine mV ?_);refine gT ?_;(refine nV ?_);refine gT ?_;(refine fV T ?_);refine gT ?_;(refine lV T ?_);refine gT ?_;(refine mV ?_);refine gT ?_;(refine vV (by exact fs_indexS strTW rfl rfl (by omega) h1) ?_);refine gT ?_;(refine mV ?_);refine gT ?_;(refine vV (by first|exact fs_lssKT rfl rfl (by omega)|exact fs_neqKT rfl rfl hne|exact fs_neq rfl rfl) ?_))|(iterate 8 first|refine gF ?_|refine gU ?_));(all_goals (first|refine pV ?_|refine vV (by exact fs_pick rfl rfl rfl) ?_)))|(refine rg 3 ?_;refine mV ?_;refine vV (by first|exact fs_lssKT rfl rfl (by omega)|exact fs_addr rfl rfl (by omega) (by omega)|exact fs_add rfl rfl) ?_;refine aV ?_)|refine nZ ?_)
        all_goals first | (exfalso; omega) | exact ⟨⟨k + 1, ⟨by omega, by omega⟩, fun j hj => by
          by_cases q : j = k
          · rw [q, h1']; exact fun w => hce (Option.some.inj w)
          · exact hno j (by omega)⟩, by dsimp only; omega, [0], rfl, (by (repeat (first | exact trivial | refine ⟨rfl, ?_⟩))), ⟨.inr rfl, trivial⟩, by decide, lt1z⟩
    · obtain rfl : k = 21 := by omega
      rw [numP_no hno]
      by_cases hce : c = e
      · subst hce
        have e2 : ((r.take ((21 : Nat) : Int).toNat).drop (0 : Int).toNat) = r.take 21 := by rw [Int.toNat_zero, List.drop_zero, Int.toNat_natCast]
        have hn' : ∀ n, I64 n → Lib.itoa n ≠ r.take 21 := fun n h q => by
          have h2 := itoa_le20 h
          rw [q, List.length_take] at h2
          omega
        have hB := backNo_c _ hn' (by rw [List.length_take]; omega)
        generalize r.take 21 = s at *
        repeat' (first|refine wS ?_|refine wB ?_|refine wK ?_|refine wR ?_|refine wE ?_|refine wT ?_|refine wU ?_|(refine wC rfl (fun hb=>?_) (fun hb=>?_)<;>(first|subst hb|((try simp only [nm] at hb);try (exfalso;omega))))|(refine rg 2 ?_;(all_goals (refine mV ?_;refine mV ?_;refine nV ?_;refine fV T ?_;refine lV T ?_;refine vV (by first|exact fs_lenOwn T rfl rfl|exact fs_lenRow T rfl rfl|exact fs_lenNil T rfl rfl|exact fs_lenS strTW rfl) ?_;refine vV (by first|exact fs_lssKT rfl rfl (by omega)|exact fs_lssKF rfl rfl (by omega)|exact fs_geqFW rfl rfl (by omega)|exact fs_lss rfl rfl) ?_;refine mV ?_));(all_goals first|(refine gK ?_)|(refine vc_split rfl rfl (fun hb=>?_) (fun hb=>?_)<;>(first|subst hb|(rw [hb];(try simp only [nm] at hb);try ((exfalso;omega);done)))));(all_goals first|(refine gT ?_;(refine mV ?_);refine gT ?_;(refine vV (by first|exact fs_lssKT rfl rfl (by omega)|exact fs_lssKF rfl rfl (by omega)|exact fs_geqFW rfl rfl (by omega)|exact fs_lss rfl rfl) ?_))|(iterate 2 first|refine gF ?_|refine gU ?_));(all_goals ((first|refine pV ?_|refine vV (by exact fs_pick rfl rfl rfl) ?_);refine mV ?_));(all_goals first|(refine gK ?_)|(refine vc_split rfl rfl (fun hb=>?_) (fun hb=>?_)<;>(first|subst hb|(rw [hb];(try simp only [nm] at hb);try ((exfalso;omega);done)))));(all_goals first|(refine gT ?_;(refine mV ?_);refine gT ?_;(refine nV ?_);refine gT ?_;(refine fV T ?_);refine gT ?_;(refine lV T ?_);refine gT ?_;(refine mV ?_);refine gT ?_;(refine vV (by exact fs_indexS strTW rfl rfl (by omega) h1) ?_);refine gT ?_;(refine mV ?_);refine gT ?_;(refine vV (by first|exact fs_lssKT rfl rfl (by omega)|exact fs_lssKF rfl rfl (by omega)|exact fs_geqFW rfl rfl (by omega)|exact fs_neqKF rfl rfl rfl|exact fs_neq rfl rfl) ?_))|(iterate 8 first|refine gF ?_|refine gU ?_));(all_goals (first|refine pV ?_|refine vV (by exact fs_pick rfl rfl rfl) ?_)))|(refine rg 4 ?_;refine mV ?_;refine mV ?_;refine nV ?_;refine fV T ?_;refine lV T ?_;refine vV (by first|exact fs_lenOwn T rfl rfl|exact fs_lenRow T rfl rfl|exact fs_lenNil T rfl rfl|exact fs_lenS strTW rfl) ?_;refine vV (by first|exact fs_lssKT rfl rfl (by omega)|exact fs_lssKF rfl rfl (by omega)|exact fs_geqFW rfl rfl (by omega)|exact fs_geq rfl rfl) ?_)|(refine rg 6 ?_;refine mV ?_;refine nV ?_;refine fV T ?_;refine lV T ?_;refine mV ?_;refine vV (by exact fs_indexS strTW rfl rfl (by omega) h1) ?_;refine mV ?_;refine vV (by first|exact fs_lssKT rfl rfl (by omega)|exact fs_lssKF rfl rfl (by omega)|exact fs_geqFW rfl rfl (by omega)|exact fs_neqKF rfl rfl rfl|exact fs_neq rfl rfl) ?_)|(refine rg 8 ?_;refine mV ?_;refine nV ?_;refine fV T ?_;refine lV T ?_;refine mV ?_;refine vV (by exact fs_sliceSe strTW rfl rfl rfl (by decide) (by omega) (by omega) e2) ?_;refine vV (by exact kC (hB)) ?_;refine mV ?_;refine xV ?_;refine xV ?_;refine aV ?_;refine aV ?_)|(refine rg 9 ?_;refine mV ?_;refine vV (by first|exact fs_lssKT rfl rfl (by omega)|exact fs_lssKF rfl rfl (by omega)|exact fs_geqFW rfl rfl (by omega)|exact fs_not rfl) ?_)|(refine rg 10 ?_;refine mV ?_;refine vc_callw [0] rfl rfl hf rfl rfl (by decide) ⟨.inr rfl,trivial⟩ (by simp) rfl ?_;refine aV ?_)|refine nZ ?_)
        all_goals first | (exfalso; omega) | exact ⟨.inl rfl, [0], _, rfl, rfl, rfl, ⟨.inr rfl, trivial⟩, by decide, lt1z⟩
      · have hne : (c.toNat : Int) ≠ (e.toNat : Int) := fun q => hce (UInt8.toNat_inj.1 (by omega))
        repeat' (first|refine wS ?_|refine wB ?_|refine wK ?_|refine wR ?_|refine wE ?_|refine wT ?_|refine wU ?_|(refine wC rfl (fun hb=>?_) (fun hb=>?_)<;>(first|subst hb|((try simp only [nm] at hb);try (exfalso;omega))))|(refine rg 2 ?_;(all_goals (refine mV ?_;refine mV ?_;refine nV ?_;refine fV T ?_;refine lV T ?_;refine vV (by first|exact fs_lenOwn T rfl rfl|exact fs_lenRow T rfl rfl|exact fs_lenNil T rfl rfl|exact fs_lenS strTW rfl) ?_;refine vV (by first|exact fs_lssKT rfl rfl (by omega)|exact fs_lssKF rfl rfl (by omega)|exact fs_geqFW rfl rfl (by omega)|exact fs_lss rfl rfl) ?_;refine mV ?_));(all_goals first|(refine gK ?_)|(refine vc_split rfl rfl (fun hb=>?_) (fun hb=>?_)<;>(first|subst hb|(rw [hb];(try simp only [nm] at hb);try ((exfalso;omega);done)))));(all_goals first|(refine gT ?_;(refine mV ?_);refine gT ?_;(refine vV (by first|exact fs_lssKT rfl rfl (by omega)|exact fs_lssKF rfl rfl (by omega)|exact fs_geqFW rfl rfl (by omega)|exact fs_lss rfl rfl) ?_))|(iterate 2 first|refine gF ?_|refine gU ?_));(all_goals ((first|refine pV ?_|refine vV (by exact fs_pick rfl rfl rfl) ?_);refine mV ?_));(all_goals first|(refine gK ?_)|(refine vc_split rfl rfl (fun hb=>?_) (fun hb=>?_)<;>(first|subst hb|(rw [hb];(try simp only [nm] at hb);try ((exfalso;omega);done)))));(all_goals first|(refine gT ?_;(refine mV ?_);refine gT ?_;(refine nV ?_);refine gT ?_;(refine fV T ?_);refine gT ?_;(refine lV T ?_);refine gT ?_;(refine mV ?_);refine gT ?_;(refine vV (by exact fs_indexS strTW rfl rfl (by omega) h1) ?_);refine gT ?_;(refine mV ?_);refine gT ?_;(refine vV (by first|exact fs_lssKT rfl rfl (by omega)|exact fs_lssKF rfl rfl (by omega)|exact fs_geqFW rfl rfl (by omega)|exact fs_neqKT rfl rfl hne|exact fs_neq rfl rfl) ?_))|(iterate 8 first|refine gF ?_|refine gU ?_));(all_goals (first|refine pV ?_|refine vV (by exact fs_pick rfl rfl rfl) ?_)))|(refine rg 4 ?_;refine mV ?_;refine mV ?_;refine nV ?_;refine fV T ?_;refine lV T ?_;refine vV (by first|exact fs_lenOwn T rfl rfl|exact fs_lenRow T rfl rfl|exact fs_lenNil T rfl rfl|exact fs_lenS strTW rfl) ?_;refine vV (by first|exact fs_lssKT rfl rfl (by omega)|exact fs_lssKF rfl rfl (by omega)|exact fs_geqFW rfl rfl (by omega)|exact fs_geq rfl rfl) ?_)|(refine rg 6 ?_;refine mV ?_;refine nV ?_;refine fV T ?_;refine lV T ?_;refine mV ?_;refine vV (by exact fs_indexS strTW rfl rfl (by omega) h1) ?_;refine mV ?_;refine vV (by first|exact fs_lssKT rfl rfl (by omega)|exact fs_lssKF rfl rfl (by omega)|exact fs_geqFW rfl rfl (by omega)|exact fs_neqKT rfl rfl hne|exact fs_neq rfl rfl) ?_)|(refine rg 7 ?_;refine mV ?_;refine vc_callw [0] rfl rfl hf rfl rfl (by decide) ⟨.inr rfl,trivial⟩ (by simp) rfl ?_;refine aV ?_)|refine nZ ?_)
        all_goals first | (exfalso; omega) | exact ⟨.inl rfl, [0], _, rfl, rfl, rfl, ⟨.inr rfl, trivial⟩, by decide, lt1z⟩
  · rw [numP_no (fun j hj => by
      by_cases q : j < k
      · exact hno j q
      · rw [List.getElem?_eq_none (by omega)]; exact fun w => by cases w)]
    repeat' (first|refine wS ?_|refine wB ?_|refine wK ?_|refine wR ?_|refine wE ?_|refine wT ?_|refine wU ?_|(refine wC rfl (fun hb=>?_) (fun hb=>?_)<;>(first|subst hb|((try simp only [nm] at hb);try (exfalso;omega))))|(refine rg 2 ?_;(all_goals (refine mV ?_;refine mV ?_;refine nV ?_;refine fV T ?_;refine lV T ?_;refine vV (by first|exact fs_lenOwn T rfl rfl|exact fs_lenRow T rfl rfl|exact fs_lenNil T rfl rfl|exact fs_lenS strTW rfl) ?_;refine vV (by first|exact fs_lssKF rfl rfl (by omega)|exact fs_geqTW rfl rfl (by omega)|exact fs_lss rfl rfl) ?_;refine mV ?_));(all_goals first|(refine gK ?_)|(refine vc_split rfl rfl (fun hb=>?_) (fun hb=>?_)<;>(first|subst hb|(rw [hb];(try simp only [nm] at hb);try ((exfalso;omega);done)))));(all_goals first|(refine gT ?_;(refine mV ?_);refine gT ?_;(refine vV (by first|exact fs_lssKF rfl rfl (by omega)|exact fs_geqTW rfl rfl (by omega)|exact fs_lss rfl rfl) ?_))|(iterate 2 first|refine gF ?_|refine gU ?_));(all_goals ((first|refine pV ?_|refine vV (by exact fs_pick rfl rfl rfl) ?_);refine mV ?_));(all_goals first|(refine gK ?_)|(refine vc_split rfl rfl (fun hb=>?_) (fun hb=>?_)<;>(first|subst hb|(rw [hb];(try simp only [nm] at hb);try ((exfalso;omega);done)))));(all_goals first|(refine gT ?_;(refine mV ?_);refine gT ?_;(refine nV ?_);refine gT ?_;(refine fV T ?_);refine gT ?_;(refine lV T ?_);refine gT ?_;(refine mV ?_);refine gT ?_;(refine vV (by fail) ?_);refine gT ?_;(refine mV ?_);refine gT ?_;(refine vV (by first|exact fs_lssKF rfl rfl (by omega)|exact fs_geqTW rfl rfl (by omega)|exact fs_neq rfl rfl) ?_))|(iterate 8 first|refine gF ?_|refine gU ?_));(all_goals (first|refine pV ?_|refine vV (by exact fs_pick rfl rfl rfl) ?_)))|(refine rg 4 ?_;refine mV ?_;refine mV ?_;refine nV ?_;refine fV T ?_;refine lV T ?_;refine vV (by first|exact fs_lenOwn T rfl rfl|exact fs_lenRow T rfl rfl|exact fs_lenNil T rfl rfl|exact fs_lenS strTW rfl) ?_;refine vV (by first|exact fs_lssKF rfl rfl (by omega)|exact fs_geqTW rfl rfl (by omega)|exact fs_geq rfl rfl) ?_)|(refine rg 5 ?_;refine mV ?_;refine vc_callw [0] rfl rfl hf rfl rfl (by decide) ⟨.inr rfl,trivial⟩ (by simp) rfl ?_;refine aV ?_)|refine nZ ?_)
    all_goals first | (exfalso; omega) | exact ⟨.inl rfl, [0], _, rfl, rfl, rfl, ⟨.inr rfl, trivial⟩, by decide, lt1z⟩
end Go.Proofs.YtjpcpbbkelgkeaaGreatDoor
namespace Go.Proofs.YtjpcpbbkelgkeaaGreatDoor
open Go Go.Ab Go.Wr
attribute [local irreducible] VC AW FStep ACall SlT IntT StrT
set_option maxHeartbeats 4000000
theorem numP_lo {r : List UInt8} {e : UInt8} (he : e.toNat ≠ 45 ∧ (e.toNat < 48 ∨ 57 < e.toNat)) : numP r e 0 = match numP r e (-9223372036854775808) with
    | some p => if p.1 < 0 then none else some p
    | none => none := by
  cases h : numP r e (-9223372036854775808) with
  | none =>
    cases h2 : numP r e 0 with
    | none => rfl
    | some p =>
      have h3 := numP_some h2
      have h4 := numP_mk (r' := p.2) (e := e) (lo := -9223372036854775808) (n := p.1) h3.2.2 h3.2.2.1 he
      rw [← h3.1, h] at h4
      cases h4
  | some p =>
    have h3 := numP_some h
    by_cases h0 : p.1 < 0
    · simp only [if_pos h0]
      cases h2 : numP r e 0 with
      | none => rfl
      | some q =>
        have h4 := numP_some h2
        have h5 := numP_mk (r' := q.2) (e := e) (lo := -9223372036854775808) (n := q.1) h4.2.2 h4.2.2.1 he
        rw [← h4.1, h] at h5
        cases h5
        have := h4.2.1
        omega
    · simp only [if_neg h0]
      have h4 := numP_mk (r' := p.2) (e := e) (lo := 0) (n := p.1) h3.2.2 (by omega) he
      rw [← h3.1] at h4
      exact h4
theorem qahead_c (s : St) (e : UInt8) (hl : (s.getD []).length ≤ 100000000) :
    ACall Tryz.prog 47 [.ptr 0 0, .v (.int .u8 e.toNat)] (rdH s) (.i (numS s e (-9223372036854775808)).1) (rdH (numS s e (-9223372036854775808)).2) := by
  have h := ahead_c (s.getD []) s.isNone e hl
  cases s with
  | none =>
    rw [numS_none]
    rw [show (none : St).getD [] = [] from rfl, numP_nil] at h
    exact h
  | some r =>
    rw [show (some r : St).getD [] = r from rfl] at h
    cases hp : numP r e (-9223372036854775808) with
    | none => rw [numS_fail hp]; rw [hp] at h; exact h
    | some p => rw [numS_some hp]; rw [hp] at h; exact h
theorem qnumber_c (s : St) (e : UInt8) (he : e.toNat ≠ 45 ∧ (e.toNat < 48 ∨ 57 < e.toNat)) (hl : (s.getD []).length ≤ 100000000) :
    ACall Tryz.prog 48 [.ptr 0 0, .v (.int .u8 e.toNat)] (rdH s) (.i (numS s e 0).1) (rdH (numS s e 0).2) := by
  have hc := qahead_c s e hl
  have hlo := numP_lo (r := s.getD []) he
  have key : numS s e 0 = if (numS s e (-9223372036854775808)).1 < 0 then (0, none) else numS s e (-9223372036854775808) := by
    cases s with
    | none => rw [numS_none, numS_none]; rfl
    | some r =>
      rw [show (some r : St).getD [] = r from rfl] at hlo
      cases hp : numP r e (-9223372036854775808) with
      | none =>
        rw [hp] at hlo
        rw [numS_fail hp, numS_fail hlo]; rfl
      | some p =>
        rw [hp] at hlo
        rw [numS_some hp]
        by_cases h0 : p.1 < 0
        · simp only [if_pos h0] at hlo ⊢
          exact numS_fail hlo
        · simp only [if_neg h0] at hlo ⊢
          exact numS_some hlo
  rw [key]
  generalize numS s e (-9223372036854775808) = q at *
  obtain ⟨n, t⟩ := q
  have hf := qfail_c (t.getD []) t.isNone
  dsimp only at hc ⊢
  refine acall T Tryz.func48 rfl rfl rfl rfl ?_
  by_cases h0 : n < 0
  · rw [if_pos h0]
    repeat' (first|refine wS ?_|refine wB ?_|refine wK ?_|refine wR ?_|refine wE ?_|refine wT ?_|refine wU ?_|(refine wC rfl (fun hb=>?_) (fun hb=>?_)<;>(first|subst hb|((try simp only [nm] at hb);try (exfalso;omega))))|(refine rg 0 ?_;refine aV ?_)|(refine rg 1 ?_;refine mV ?_;refine mV ?_;refine vc_callw [0] rfl rfl hc rfl rfl (by decide) ⟨.inr rfl,trivial⟩ (by simp) rfl ?_;refine aV ?_)|(refine rg 2 ?_;refine mV ?_;refine vV (by first|exact fs_lssTW rfl rfl h0|exact fs_lss rfl rfl) ?_)|(refine rg 3 ?_;refine mV ?_;refine vc_callw [0] rfl rfl hf rfl rfl (by decide) ⟨.inr rfl,trivial⟩ (by simp) rfl ?_;refine aV ?_)|refine nZ ?_)
    all_goals first | (exfalso; omega) | exact ⟨.inl rfl, [0], _, rfl, rfl, rfl, ⟨.inr rfl, trivial⟩, by decide, lt1z⟩
  · rw [if_neg h0]
    repeat' (first|refine wS ?_|refine wB ?_|refine wK ?_|refine wR ?_|refine wE ?_|refine wT ?_|refine wU ?_|(refine wC rfl (fun hb=>?_) (fun hb=>?_)<;>(first|subst hb|((try simp only [nm] at hb);try (exfalso;omega))))|(refine rg 0 ?_;refine aV ?_)|(refine rg 1 ?_;refine mV ?_;refine mV ?_;refine vc_callw [0] rfl rfl hc rfl rfl (by decide) ⟨.inr rfl,trivial⟩ (by simp) rfl ?_;refine aV ?_)|(refine rg 2 ?_;refine mV ?_;refine vV (by first|exact fs_lssFW rfl rfl (by omega)|exact fs_lss rfl rfl) ?_)|(refine rg 4 ?_;refine mV ?_;refine aV ?_)|refine nZ ?_)
    all_goals first | (exfalso; omega) | exact ⟨.inl rfl, [0], _, rfl, rfl, rfl, ⟨.inr rfl, trivial⟩, by decide, lt1z⟩
theorem qrint_c (s : St) (hl : (s.getD []).length ≤ 100000000) : ACall Tryz.prog 26 [.ptr 0 0] (rdH s) (.i (intS s).1) (rdH (intS s).2) := by
  have hc := qahead_c s 59 hl
  refine acall T Tryz.func26 rfl rfl rfl rfl ?_
  repeat' (first|refine wS ?_|refine wB ?_|refine wK ?_|refine wR ?_|refine wE ?_|refine wT ?_|refine wU ?_|(refine wC rfl (fun hb=>?_) (fun hb=>?_)<;>(first|subst hb|((try simp only [nm] at hb);try (exfalso;omega))))|(refine rg 0 ?_;refine aV ?_)|(refine rg 1 ?_;refine mV ?_;refine vc_callw [0] rfl rfl hc rfl rfl (by decide) ⟨.inr rfl,trivial⟩ (by simp) rfl ?_;refine aV ?_)|refine nZ ?_)
  all_goals exact ⟨.inl rfl, [0], _, rfl, rfl, rfl, ⟨.inr rfl, trivial⟩, by decide, lt1z⟩
theorem qrnum_c (s : St) (hl : (s.getD []).length ≤ 100000000) : ACall Tryz.prog 27 [.ptr 0 0] (rdH s) (.i (numS s 59 0).1) (rdH (numS s 59 0).2) := by
  have hc := qnumber_c s 59 (by decide) hl
  refine acall T Tryz.func27 rfl rfl rfl rfl ?_
  repeat' (first|refine wS ?_|refine wB ?_|refine wK ?_|refine wR ?_|refine wE ?_|refine wT ?_|refine wU ?_|(refine wC rfl (fun hb=>?_) (fun hb=>?_)<;>(first|subst hb|((try simp only [nm] at hb);try (exfalso;omega))))|(refine rg 0 ?_;refine aV ?_)|(refine rg 1 ?_;refine mV ?_;refine vc_callw [0] rfl rfl hc rfl rfl (by decide) ⟨.inr rfl,trivial⟩ (by simp) rfl ?_;refine aV ?_)|refine nZ ?_)
  all_goals exact ⟨.inl rfl, [0], _, rfl, rfl, rfl, ⟨.inr rfl, trivial⟩, by decide, lt1z⟩
theorem qleft_c (s : St) : ACall Tryz.prog 28 [.ptr 0 0] (rdH s) (.i (s.getD []).length) (rdH s) := by
  refine acall T Tryz.func28 rfl rfl rfl rfl ?_
  repeat' (first|refine wS ?_|refine wB ?_|refine wK ?_|refine wR ?_|refine wE ?_|refine wT ?_|refine wU ?_|(refine wC rfl (fun hb=>?_) (fun hb=>?_)<;>(first|subst hb|((try simp only [nm] at hb);try (exfalso;omega))))|(refine rg 0 ?_;refine aV ?_)|(refine rg 1 ?_;refine mV ?_;refine nV ?_;refine fV T ?_;refine lV T ?_;refine vV (by first|exact fs_lenOwn T rfl rfl|exact fs_lenRow T rfl rfl|exact fs_lenNil T rfl rfl|exact fs_lenS strTW rfl) ?_;refine aV ?_)|refine nZ ?_)
  all_goals exact ⟨.inl rfl, [0], _, rfl, rfl, rfl, ⟨.inr rfl, trivial⟩, by decide, lt1z⟩
theorem qdone_c (s : St) : ACall Tryz.prog 30 [.ptr 0 0] (rdH s) (.b (decide (s = some []))) (rdH s) := by
  refine acall T Tryz.func30 rfl rfl rfl rfl ?_
  match s with
  | none =>
    repeat' (first|refine wS ?_|refine wB ?_|refine wK ?_|refine wR ?_|refine wE ?_|refine wT ?_|refine wU ?_|(refine wC rfl (fun hb=>?_) (fun hb=>?_)<;>(first|subst hb|((try simp only [nm] at hb);try (exfalso;omega))))|(refine rg 0 ?_;refine aV ?_)|(refine rg 1 ?_;(all_goals (refine mV ?_;refine nV ?_;refine fV T ?_;refine lV T ?_;refine vV (by exact fs_not rfl) ?_;refine mV ?_));(all_goals first|(refine gK ?_)|(refine vc_split rfl rfl (fun hb=>?_) (fun hb=>?_)<;>(first|subst hb|(rw [hb];(try simp only [nm] at hb);try ((exfalso;omega);done)))));(all_goals first|(refine gT ?_;(refine mV ?_);refine gT ?_;(refine nV ?_);refine gT ?_;(refine fV T ?_);refine gT ?_;(refine lV T ?_);refine gT ?_;(refine vV (by exact fs_eql rfl rfl) ?_))|(iterate 5 first|refine gF ?_|refine gU ?_));(all_goals ((first|refine pV ?_|refine vV (by exact fs_pick rfl rfl rfl) ?_);refine aV ?_)))|refine nZ ?_)
    all_goals exact ⟨.inl rfl, [0], _, rfl, rfl, rfl, ⟨.inr rfl, trivial⟩, by decide, lt1z⟩
  | some r =>
    rw [show decide ((some r : St) = some []) = decide (r = []) from by simp]
    repeat' (first|refine wS ?_|refine wB ?_|refine wK ?_|refine wR ?_|refine wE ?_|refine wT ?_|refine wU ?_|(refine wC rfl (fun hb=>?_) (fun hb=>?_)<;>(first|subst hb|((try simp only [nm] at hb);try (exfalso;omega))))|(refine rg 0 ?_;refine aV ?_)|(refine rg 1 ?_;(all_goals (refine mV ?_;refine nV ?_;refine fV T ?_;refine lV T ?_;refine vV (by exact fs_not rfl) ?_;refine mV ?_));(all_goals first|(refine gK ?_)|(refine vc_split rfl rfl (fun hb=>?_) (fun hb=>?_)<;>(first|subst hb|(rw [hb];(try simp only [nm] at hb);try ((exfalso;omega);done)))));(all_goals first|(refine gT ?_;(refine mV ?_);refine gT ?_;(refine nV ?_);refine gT ?_;(refine fV T ?_);refine gT ?_;(refine lV T ?_);refine gT ?_;(refine vV (by first|exact fs_eql rfl rfl|exact fs_eqlS (a := r) (b := []) rfl rfl) ?_))|(iterate 5 first|refine gF ?_|refine gU ?_));(all_goals ((first|refine pV ?_|refine vV (by exact fs_pick rfl rfl rfl) ?_);refine aV ?_)))|refine nZ ?_)
    all_goals exact ⟨.inl rfl, [0], _, rfl, rfl, rfl, ⟨.inr rfl, trivial⟩, by decide, lt1z⟩
theorem qclose_c (s : St) (e : UInt8) (hl : (s.getD []).length ≤ 100000000) : ACall Tryz.prog 49 [.ptr 0 0, .v (.int .u8 e.toNat)] (rdH s) (.b (closeS s e).isSome) (rdH (closeS s e)) := by
  have hf := qfail_c (s.getD []) s.isNone
  refine acall T Tryz.func49 rfl rfl rfl rfl ?_
  match s with
  | none =>
    repeat' (first|refine wS ?_|refine wB ?_|refine wK ?_|refine wR ?_|refine wE ?_|refine wT ?_|refine wU ?_|(refine wC rfl (fun hb=>?_) (fun hb=>?_)<;>(first|subst hb|((try simp only [nm] at hb);try (exfalso;omega))))|(refine rg 0 ?_;refine aV ?_)|(refine rg 1 ?_;refine mV ?_;refine nV ?_;refine fV T ?_;refine lV T ?_;refine vV (by first|exact fs_lenOwn T rfl rfl|exact fs_lenRow T rfl rfl|exact fs_lenNil T rfl rfl|exact fs_lenS strTW rfl) ?_;refine vV (by first|exact fs_eqlT rfl rfl rfl|exact fs_eql rfl rfl) ?_)|(refine rg 2 ?_;refine mV ?_;refine vc_callw [0] rfl rfl hf rfl rfl (by decide) ⟨.inr rfl,trivial⟩ (by simp) rfl ?_)|(refine rg 3 ?_;refine aV ?_)|refine nZ ?_)
    all_goals exact ⟨.inl rfl, [0], _, rfl, rfl, rfl, ⟨.inr rfl, trivial⟩, by decide, lt1z⟩
  | some [] =>
    repeat' (first|refine wS ?_|refine wB ?_|refine wK ?_|refine wR ?_|refine wE ?_|refine wT ?_|refine wU ?_|(refine wC rfl (fun hb=>?_) (fun hb=>?_)<;>(first|subst hb|((try simp only [nm] at hb);try (exfalso;omega))))|(refine rg 0 ?_;refine aV ?_)|(refine rg 1 ?_;refine mV ?_;refine nV ?_;refine fV T ?_;refine lV T ?_;refine vV (by first|exact fs_lenOwn T rfl rfl|exact fs_lenRow T rfl rfl|exact fs_lenNil T rfl rfl|exact fs_lenS strTW rfl) ?_;refine vV (by first|exact fs_eqlT rfl rfl rfl|exact fs_eql rfl rfl) ?_)|(refine rg 2 ?_;refine mV ?_;refine vc_callw [0] rfl rfl hf rfl rfl (by decide) ⟨.inr rfl,trivial⟩ (by simp) rfl ?_)|(refine rg 3 ?_;refine aV ?_)|refine nZ ?_)
    all_goals exact ⟨.inl rfl, [0], _, rfl, rfl, rfl, ⟨.inr rfl, trivial⟩, by decide, lt1z⟩
  | some (c :: r) =>
    have hl0 : ((some (c :: r) : St).getD []).length = r.length + 1 := rfl
    have hn0 : (((c :: r).length : Nat) : Int) ≠ 0 := by simp; omega
    have h1 : (c :: r)[(0 : Int).toNat]? = some c := rfl
    by_cases h : c = e
    · subst h
      rw [show closeS (some (c :: r)) c = some r from if_pos rfl]
      have e3 : ((c :: r).take (((c :: r).length : Nat) : Int).toNat).drop (1 : Int).toNat = r := by rw [Int.toNat_natCast, List.take_length]; rfl
      have hlc : (1 : Int) ≤ (((c :: r).length : Nat) : Int) := by rw [List.length_cons]; omega
      repeat' (first|refine wS ?_|refine wB ?_|refine wK ?_|refine wR ?_|refine wE ?_|refine wT ?_|refine wU ?_|(refine wC rfl (fun hb=>?_) (fun hb=>?_)<;>(first|subst hb|((try simp only [nm] at hb);try (exfalso;omega))))|(refine rg 0 ?_;refine aV ?_)|(refine rg 1 ?_;refine mV ?_;refine nV ?_;refine fV T ?_;refine lV T ?_;refine vV (by first|exact fs_lenOwn T rfl rfl|exact fs_lenRow T rfl rfl|exact fs_lenNil T rfl rfl|exact fs_lenS strTW rfl) ?_;refine vV (by first|exact fs_eqlF rfl rfl hn0|exact fs_neqKF rfl rfl rfl|exact fs_eql rfl rfl) ?_)|(refine rg 4 ?_;refine mV ?_;refine nV ?_;refine fV T ?_;refine lV T ?_;refine vV (by exact fs_indexS strTW rfl rfl (by decide) h1) ?_;refine mV ?_;refine vV (by first|exact fs_neqKF rfl rfl rfl|exact fs_neq rfl rfl) ?_)|(refine rg 7 ?_;refine mV ?_;refine mV ?_;refine nV ?_;refine fV T ?_;refine lV T ?_;refine vV (by exact fs_sliceSe strTW rfl rfl rfl (by decide) hlc (by omega) e3) ?_;refine nV ?_;refine fV T ?_;refine vc_store T rfl rfl rfl rfl rfl rfl (by decide) rfl ?_)|(refine rg 8 ?_;refine aV ?_)|refine nZ ?_)
      all_goals exact ⟨.inl rfl, [0], _, rfl, rfl, rfl, ⟨.inr rfl, trivial⟩, by decide, lt1z⟩
    · rw [show closeS (some (c :: r)) e = none from if_neg h]
      have hne : (c.toNat : Int) ≠ (e.toNat : Int) := fun q => h (UInt8.toNat_inj.1 (by omega))
      repeat' (first|refine wS ?_|refine wB ?_|refine wK ?_|refine wR ?_|refine wE ?_|refine wT ?_|refine wU ?_|(refine wC rfl (fun hb=>?_) (fun hb=>?_)<;>(first|subst hb|((try simp only [nm] at hb);try (exfalso;omega))))|(refine rg 0 ?_;refine aV ?_)|(refine rg 1 ?_;refine mV ?_;refine nV ?_;refine fV T ?_;refine lV T ?_;refine vV (by first|exact fs_lenOwn T rfl rfl|exact fs_lenRow T rfl rfl|exact fs_lenNil T rfl rfl|exact fs_lenS strTW rfl) ?_;refine vV (by first|exact fs_eqlF rfl rfl hn0|exact fs_neqKT rfl rfl hne|exact fs_eql rfl rfl) ?_)|(refine rg 4 ?_;refine mV ?_;refine nV ?_;refine fV T ?_;refine lV T ?_;refine vV (by exact fs_indexS strTW rfl rfl (by decide) h1) ?_;refine mV ?_;refine vV (by first|exact fs_neqKT rfl rfl hne|exact fs_neq rfl rfl) ?_)|(refine rg 5 ?_;refine mV ?_;refine vc_callw [0] rfl rfl hf rfl rfl (by decide) ⟨.inr rfl,trivial⟩ (by simp) rfl ?_)|(refine rg 6 ?_;refine aV ?_)|refine nZ ?_)
      all_goals exact ⟨.inl rfl, [0], _, rfl, rfl, rfl, ⟨.inr rfl, trivial⟩, by decide, lt1z⟩
theorem qrnums_c (s : St) (hl : (s.getD []).length ≤ 100000000) :
    ACall Tryz.prog 29 [.ptr 0 0] (rdH s) (.sl 1 0 (numsS s).1.length 1) (rdH (numsS s).2 ++ [.arr (ints (numsS s).1) 1]) := by
  have hc := qnumber_c s 91 (by decide) hl
  have hn0 := numS_ge s 91
  have hn1 := (numS_I64 s 91 0).2
  have hlen := numS_getD s 91 0
  have htot : numsS s = (if (closeS (itemsL (numS s 91 0).1.toNat (numS s 91 0).2).2 93).isNone then ([], none) else ((itemsL (numS s 91 0).1.toNat (numS s 91 0).2).1, closeS (itemsL (numS s 91 0).1.toNat (numS s 91 0).2).2 93)) := rfl
  rw [htot]
  clear htot
  generalize (numS s 91 0).1 = n at *
  generalize (numS s 91 0).2 = s1 at *
  have hil := itemsL_len n.toNat s1
  refine acall T Tryz.func29 rfl rfl rfl rfl ?_
  repeat' (first|refine wS ?_|refine wB ?_|refine wK ?_|refine wR ?_|refine wE ?_|refine wT ?_|refine wU ?_|(refine wC rfl (fun hb=>?_) (fun hb=>?_)<;>(first|subst hb|((try simp only [nm] at hb);try (exfalso;omega))))|(refine rg 0 ?_;refine aV ?_)|(refine rg 1 ?_;refine mV ?_;refine vc_callw [0] rfl rfl hc rfl rfl (by decide) ⟨.inr rfl,trivial⟩ (by simp) rfl ?_;refine aV ?_)|(refine rg 2 ?_;refine aV ?_)|(refine rg 3 ?_;refine aV ?_)|refine nZ ?_)
  refine aw_own 4 1 rfl (by decide) ?_
  refine aw_loop (X := {p : List Int × Nat × St // itemsL n.toNat s1 = (p.1 ++ (itemsL p.2.1 p.2.2).1, (itemsL p.2.1 p.2.2).2) ∧ p.2.1 ≤ n.toNat ∧ (p.2.2.getD []).length ≤ (s1.getD []).length}) (fun p => [(0, .ptr 0 0), (3, .i n), (4, .sl 1 0 p.1.1.length 1), (5, .i (n - (p.1.2.1 : Int)))]) (fun p => [.cells [.s (p.1.2.2.getD []), .b p.1.2.2.isNone], .arr (ints p.1.1) 1]) (fun p => p.1.2.1) ⟨([], n.toNat, s1), by simp, Nat.le_refl _, Nat.le_refl _⟩ ⟨[0, 1], rfl, ⟨rfl, rfl, rfl, congrArg (fun x => some (AV.i x)) (show (0 : Int) = n - (n.toNat : Int) by omega), trivial⟩, ⟨.inr rfl, .inr rfl, trivial⟩, by decide, lt1qW⟩ ?_
  rintro ⟨⟨out, k, t⟩, h1, h2, h3⟩
  dsimp only at h1 h2 h3 ⊢
  have hend : (k = 0 ∨ t = none) → itemsL n.toNat s1 = (out, t) := fun h => by
    rw [h1]
    rcases h with h | h
    · subst h; simp [itemsL]
    · subst h; rw [itemsL_none]; simp
  cases t with
  | none =>
    have he := hend (.inr rfl)
    rw [he]
    by_cases hk : n - (k : Int) < n
    · repeat' (first | refine wS ?_ | refine wB ?_ | refine wK ?_ | refine wR ?_ | refine wE ?_ | refine aw_condt rfl ?_ | refine aw_condf rfl ?_ | (refine wC rfl (fun hb => ?_) (fun hb => ?_) <;> (first | subst hb | ((try simp only [nm] at hb); try (exfalso; omega)))) | (((refine rg 4 ?_)); (all_goals (refine mV ?_; refine mV ?_; refine vV (by first | exact fs_lssTW rfl rfl hk | exact fs_lss rfl rfl) ?_; refine mV ?_)); (all_goals first | (refine gK ?_) | (refine vc_split rfl rfl (fun hb => ?_) (fun hb => ?_) <;> (first | subst hb | (rw [hb]; (try simp only [nm] at hb); try ((exfalso; omega); done))))); (all_goals first | (refine gT ?_; (refine mV ?_); refine gT ?_; (refine nV ?_); refine gT ?_; (refine fV T ?_); refine gT ?_; (refine lV T ?_); refine gT ?_; (refine vV (by first | exact fs_lssTW rfl rfl hk | exact fs_not rfl) ?_)) | (iterate 5 first | refine gF ?_ | refine gU ?_)); (all_goals (first|refine pV ?_|refine vV (by exact fs_pick rfl rfl rfl) ?_))) | (((refine rg 7 ?_)); (all_goals (refine mV ?_; refine nV ?_; refine fV T ?_; refine lV T ?_; refine mV ?_)); (all_goals first | (refine gK ?_) | (refine vc_split rfl rfl (fun hb => ?_) (fun hb => ?_) <;> (first | subst hb | (rw [hb]; (try simp only [nm] at hb); try ((exfalso; omega); done))))); (all_goals first | (refine gT ?_; (refine mV ?_); refine gT ?_; (first | (refine vV (by first | fail) ?_) | (refine vc_n (by first | fail) rfl ?_)); refine gT ?_; (refine vV (by first | exact fs_lssTW rfl rfl hk | exact fs_not rfl) ?_)) | (iterate 3 first | refine gF ?_ | refine gU ?_)); (all_goals (first|refine pV ?_|refine vV (by exact fs_pick rfl rfl rfl) ?_))) | (refine vc_nilp (by (first | (dsimp only [ln1, ln2, List.append_nil, ln4, ln5, ln6, ln7, ln8, ln9, putAt, putd, allObjs, argEnv, un_v, un_ptr, un_ep, un_pr, un_sl, un_mp, un_row, un_agg, un_tup, un_clo, Nat.zero_add, lnb, Nat.reduceAdd, lnc, lnd]; first | done | exact rfl) | exact rfl)) ?_))
      all_goals try (exfalso; omega)
      all_goals (refine aw_region (id := 8) ?_; refine vV (by exact fs_assign rfl) ?_; refine vc_own 2 1 rfl (by decide) ?_; refine vc_nil ?_)
      all_goals repeat' (first | (refine aw_seq ?_) | (refine aw_block ?_) | (refine aw_skip ?_) | (refine aw_ret ?_) | (refine aw_exit ?_))
      all_goals exact ⟨.inl rfl, [0, 2], _, rfl, rfl, rfl, ⟨.inr rfl, .inr rfl, trivial⟩, by decide, lt1z2⟩
    · repeat' (first | refine wS ?_ | refine wB ?_ | refine wK ?_ | refine wR ?_ | refine wE ?_ | refine aw_condt rfl ?_ | refine aw_condf rfl ?_ | (refine wC rfl (fun hb => ?_) (fun hb => ?_) <;> (first | subst hb | ((try simp only [nm] at hb); try (exfalso; omega)))) | (((refine rg 4 ?_)); (all_goals (refine mV ?_; refine mV ?_; refine vV (by first | exact fs_lssFW rfl rfl (by omega) | exact fs_lss rfl rfl) ?_; refine mV ?_)); (all_goals first | (refine gK ?_) | (refine vc_split rfl rfl (fun hb => ?_) (fun hb => ?_) <;> (first | subst hb | (rw [hb]; (try simp only [nm] at hb); try ((exfalso; omega); done))))); (all_goals first | (refine gT ?_; (refine mV ?_); refine gT ?_; (refine nV ?_); refine gT ?_; (refine fV T ?_); refine gT ?_; (refine lV T ?_); refine gT ?_; (refine vV (by first | exact fs_lssFW rfl rfl (by omega) | exact fs_not rfl) ?_)) | (iterate 5 first | refine gF ?_ | refine gU ?_)); (all_goals (first|refine pV ?_|refine vV (by exact fs_pick rfl rfl rfl) ?_))) | (((refine rg 7 ?_)); (all_goals (refine mV ?_; refine nV ?_; refine fV T ?_; refine lV T ?_; refine mV ?_)); (all_goals first | (refine gK ?_) | (refine vc_split rfl rfl (fun hb => ?_) (fun hb => ?_) <;> (first | subst hb | (rw [hb]; (try simp only [nm] at hb); try ((exfalso; omega); done))))); (all_goals first | (refine gT ?_; (refine mV ?_); refine gT ?_; (first | (refine vV (by first | fail) ?_) | (refine vc_n (by first | fail) rfl ?_)); refine gT ?_; (refine vV (by first | exact fs_lssFW rfl rfl (by omega) | exact fs_not rfl) ?_)) | (iterate 3 first | refine gF ?_ | refine gU ?_)); (all_goals (first|refine pV ?_|refine vV (by exact fs_pick rfl rfl rfl) ?_))) | (refine vc_nilp (by (first | (dsimp only [ln1, ln2, List.append_nil, ln4, ln5, ln6, ln7, ln8, ln9, putAt, putd, allObjs, argEnv, un_v, un_ptr, un_ep, un_pr, un_sl, un_mp, un_row, un_agg, un_tup, un_clo, Nat.zero_add, lnb, Nat.reduceAdd, lnc, lnd]; first | done | exact rfl) | exact rfl)) ?_))
      all_goals try (exfalso; omega)
      all_goals (refine aw_region (id := 8) ?_; refine vV (by exact fs_assign rfl) ?_; refine vc_own 2 1 rfl (by decide) ?_; refine vc_nil ?_)
      all_goals repeat' (first | (refine aw_seq ?_) | (refine aw_block ?_) | (refine aw_skip ?_) | (refine aw_ret ?_) | (refine aw_exit ?_))
      all_goals exact ⟨.inl rfl, [0, 2], _, rfl, rfl, rfl, ⟨.inr rfl, .inr rfl, trivial⟩, by decide, lt1z2⟩
  | some r =>
    have hlr : ((some r : St).getD []).length = r.length := rfl
    cases k with
    | succ k =>
      have hi := qrint_c (some r) (by omega)
      have hs : itemsL (k + 1) (some r) = ((intS (some r)).1 :: (itemsL k (intS (some r)).2).1, (itemsL k (intS (some r)).2).2) := rfl
      rw [hs] at h1
      have hle := numS_getD (some r) 59 (-9223372036854775808)
      change ((intS (some r)).2.getD []).length ≤ _ at hle
      have hol : out.length ≤ 100000000 := by
        have := hil
        rw [h1] at this
        simp only [List.length_append] at this
        omega
      generalize (intS (some r)).1 = v at *
      generalize (intS (some r)).2 = t' at *
      repeat' (first|refine wS ?_|refine wB ?_|refine wK ?_|refine wR ?_|refine wE ?_|refine wT ?_|refine wU ?_|(refine wC rfl (fun hb=>?_) (fun hb=>?_)<;>(first|subst hb|((try simp only [nm] at hb);try (exfalso;omega))))|(refine rg 4 ?_;(all_goals (refine mV ?_;refine mV ?_;refine vV (by first|exact fs_lssTW rfl rfl (by omega)|exact fs_lss rfl rfl) ?_;refine mV ?_));(all_goals first|(refine gK ?_)|(refine vc_split rfl rfl (fun hb=>?_) (fun hb=>?_)<;>(first|subst hb|(rw [hb];(try simp only [nm] at hb);try ((exfalso;omega);done)))));(all_goals first|(refine gT ?_;(refine mV ?_);refine gT ?_;(refine nV ?_);refine gT ?_;(refine fV T ?_);refine gT ?_;(refine lV T ?_);refine gT ?_;(refine vV (by first|exact fs_lssTW rfl rfl (by omega)|exact fs_not rfl) ?_))|(iterate 5 first|refine gF ?_|refine gU ?_));(all_goals (first|refine pV ?_|refine vV (by exact fs_pick rfl rfl rfl) ?_)))|(refine rg 6 ?_;refine mV ?_;refine mV ?_;refine vc_callw [0] rfl rfl hi rfl rfl (by decide) ⟨.inr rfl,trivial⟩ (by simp) rfl ?_;refine vc_n (by exact fs_buildSlice T rfl rfl (by decide) (by decide) rfl rfl rfl) rfl ?_;refine vc_append T rfl rfl rfl rfl rfl rfl (by simp) (Elems.whole rfl rfl) rfl (by simp;omega) (by simp;omega) rfl ?_;refine aV ?_)|(refine rg 5 ?_;refine mV ?_;refine vV (by first|exact fs_lssTW rfl rfl (by omega)|exact fs_addr rfl rfl (by omega) (by omega)|exact fs_add rfl rfl) ?_;refine aV ?_)|refine nZ ?_)
      all_goals first | (exfalso; omega) | exact ⟨⟨(out ++ [v], k, t'), by rw [h1]; simp, by dsimp only; omega, by dsimp only; omega⟩, by dsimp only; omega, [0, 3], rfl, ⟨rfl, rfl, by dsimp only; rw [show (out ++ [v]).length = out.length + 1 by simp]; rfl, congrArg (fun x => some (AV.i x)) (show n - ((k + 1 : Nat) : Int) + 1 = n - (k : Int) by omega), trivial⟩, ⟨.inr rfl, .inr (sub_arr rfl ((app_one (by simp)).trans (by dsimp only; exact ints_snoc _ _)) (ints_idf _)), trivial⟩, by decide, lt1z3⟩
    | zero =>
      have he := hend (.inl rfl)
      rw [he]
      have cC := qclose_c (some r) 93 (by omega)
      dsimp only
      cases hcl : closeS (some r) 93 with
      | none =>
        rw [hcl] at cC
        repeat' (first|refine wS ?_|refine wB ?_|refine wK ?_|refine wR ?_|refine wE ?_|refine wT ?_|refine wU ?_|(refine wC rfl (fun hb=>?_) (fun hb=>?_)<;>(first|subst hb|((try simp only [nm] at hb);try (exfalso;omega))))|(refine rg 4 ?_;(all_goals (refine mV ?_;refine mV ?_;refine vV (by first|exact fs_lssFW rfl rfl (by omega)|exact fs_lss rfl rfl) ?_;refine mV ?_));(all_goals first|(refine gK ?_)|(refine vc_split rfl rfl (fun hb=>?_) (fun hb=>?_)<;>(first|subst hb|(rw [hb];(try simp only [nm] at hb);try ((exfalso;omega);done)))));(all_goals first|(refine gT ?_;(refine mV ?_);refine gT ?_;(refine nV ?_);refine gT ?_;(refine fV T ?_);refine gT ?_;(refine lV T ?_);refine gT ?_;(refine vV (by first|exact fs_lssFW rfl rfl (by omega)|exact fs_not rfl) ?_))|(iterate 5 first|refine gF ?_|refine gU ?_));(all_goals (first|refine pV ?_|refine vV (by exact fs_pick rfl rfl rfl) ?_)))|(refine rg 7 ?_;(all_goals (refine mV ?_;refine nV ?_;refine fV T ?_;refine lV T ?_;refine mV ?_));(all_goals first|(refine gK ?_)|(refine vc_split rfl rfl (fun hb=>?_) (fun hb=>?_)<;>(first|subst hb|(rw [hb];(try simp only [nm] at hb);try ((exfalso;omega);done)))));(all_goals first|(refine gT ?_;(refine mV ?_);refine gT ?_;(refine vc_callw [0] rfl rfl cC rfl rfl (by decide) ⟨.inr rfl,trivial⟩ (by simp) rfl ?_);refine gT ?_;(refine vV (by first|exact fs_lssFW rfl rfl (by omega)|exact fs_not rfl) ?_))|(iterate 3 first|refine gF ?_|refine gU ?_));(all_goals (first|refine pV ?_|refine vV (by exact fs_pick rfl rfl rfl) ?_)))|refine nZ ?_)
        all_goals try (exfalso; omega)
        all_goals (refine aw_region (id := 8) ?_; refine vV (by exact fs_assign rfl) ?_; refine vc_own 2 1 rfl (by decide) ?_; refine vc_nil ?_)
        all_goals repeat' (first | (refine aw_seq ?_) | (refine aw_block ?_) | (refine aw_skip ?_) | (refine aw_ret ?_) | (refine aw_exit ?_))
        all_goals exact ⟨.inl rfl, [0, 2], _, rfl, rfl, rfl, ⟨.inr rfl, .inr rfl, trivial⟩, by decide, lt1z2⟩
      | some r' =>
        rw [hcl] at cC
        repeat' (first|refine wS ?_|refine wB ?_|refine wK ?_|refine wR ?_|refine wE ?_|refine wT ?_|refine wU ?_|(refine wC rfl (fun hb=>?_) (fun hb=>?_)<;>(first|subst hb|((try simp only [nm] at hb);try (exfalso;omega))))|(refine rg 4 ?_;(all_goals (refine mV ?_;refine mV ?_;refine vV (by first|exact fs_lssFW rfl rfl (by omega)|exact fs_lss rfl rfl) ?_;refine mV ?_));(all_goals first|(refine gK ?_)|(refine vc_split rfl rfl (fun hb=>?_) (fun hb=>?_)<;>(first|subst hb|(rw [hb];(try simp only [nm] at hb);try ((exfalso;omega);done)))));(all_goals first|(refine gT ?_;(refine mV ?_);refine gT ?_;(refine nV ?_);refine gT ?_;(refine fV T ?_);refine gT ?_;(refine lV T ?_);refine gT ?_;(refine vV (by first|exact fs_lssFW rfl rfl (by omega)|exact fs_not rfl) ?_))|(iterate 5 first|refine gF ?_|refine gU ?_));(all_goals (first|refine pV ?_|refine vV (by exact fs_pick rfl rfl rfl) ?_)))|(refine rg 7 ?_;(all_goals (refine mV ?_;refine nV ?_;refine fV T ?_;refine lV T ?_;refine mV ?_));(all_goals first|(refine gK ?_)|(refine vc_split rfl rfl (fun hb=>?_) (fun hb=>?_)<;>(first|subst hb|(rw [hb];(try simp only [nm] at hb);try ((exfalso;omega);done)))));(all_goals first|(refine gT ?_;(refine mV ?_);refine gT ?_;(refine vc_callw [0] rfl rfl cC rfl rfl (by decide) ⟨.inr rfl,trivial⟩ (by simp) rfl ?_);refine gT ?_;(refine vV (by first|exact fs_lssFW rfl rfl (by omega)|exact fs_not rfl) ?_))|(iterate 3 first|refine gF ?_|refine gU ?_));(all_goals (first|refine pV ?_|refine vV (by exact fs_pick rfl rfl rfl) ?_)))|(refine rg 9 ?_;refine mV ?_;refine aV ?_)|refine nZ ?_)
        all_goals try (exfalso; omega)
        all_goals exact ⟨.inl rfl, [0, 1], _, rfl, rfl, rfl, ⟨.inr rfl, .inr (sub_arr rfl rfl (ints_idf _)), trivial⟩, by decide, lt1qW⟩
end Go.Proofs.YtjpcpbbkelgkeaaGreatDoor
namespace Go.Proofs.YtjpcpbbkelgkeaaGreatDoor
open Go Go.Ab Go.Ln Go.Wr
theorem int_read {n : Int} (h : I64 n) (r : List UInt8) : intS (some (intB n ++ r)) = (n, some r) := by
  unfold intS intB
  rw [List.append_assoc, List.singleton_append]
  exact numS_some (numP_mk h h.1 (by decide))
theorem num_read {n : Int} (h : I64 n) (h0 : 0 ≤ n) (r : List UInt8) : numS (some (intB n ++ r)) 59 0 = (n, some r) := by
  unfold intB
  rw [List.append_assoc, List.singleton_append]
  exact numS_some (numP_mk h h0 (by decide))
theorem items_read : ∀ (l : List Int) (r : List UInt8), (∀ x, x ∈ l → I64 x) → itemsL l.length (some ((l.map intB).flatten ++ r)) = (l, some r)
  | [], r, _ => rfl
  | x :: l, r, h => by
    have ih := items_read l r fun y hy => h y (List.mem_cons_of_mem _ hy)
    have hi := int_read (h x List.mem_cons_self) ((l.map intB).flatten ++ r)
    rw [List.map_cons, List.flatten_cons, List.append_assoc, List.length_cons]
    show ((intS (some (intB x ++ ((l.map intB).flatten ++ r)))).1 :: (itemsL l.length (intS (some (intB x ++ ((l.map intB).flatten ++ r)))).2).1, (itemsL l.length (intS (some (intB x ++ ((l.map intB).flatten ++ r)))).2).2) = _
    rw [hi]
    dsimp only
    rw [ih]
theorem nums_read {l : List Int} (h : ∀ x, x ∈ l → I64 x) (hl : l.length ≤ 1000000) (r : List UInt8) : numsS (some (numsB l ++ r)) = (l, some r) := by
  have e : numsB l ++ r = Lib.itoa l.length ++ 91 :: ((l.map intB).flatten ++ (93 :: r)) := by
    unfold numsB accB
    rw [List.take_length]
    simp
  have h1 : numS (some (numsB l ++ r)) 91 0 = ((l.length : Int), some ((l.map intB).flatten ++ (93 :: r))) := by
    rw [e]
    exact numS_some (numP_mk ⟨by omega, by omega⟩ (by omega) (by decide))
  unfold numsS
  rw [h1]
  dsimp only
  rw [Int.toNat_natCast, items_read l _ h]
  rfl
theorem int_some {r r' : List UInt8} {o : Int} (h : intS (some r) = (o, some r')) : r = intB o ++ r' ∧ I64 o := by
  have h2 : (numS (some r) 59 (-9223372036854775808)).2 = some r' := by rw [show numS (some r) 59 (-9223372036854775808) = intS (some r) from rfl, h]
  obtain ⟨r0, e, h3, _⟩ := numS_len h2
  cases e
  rw [show numS (some r) 59 (-9223372036854775808) = intS (some r) from rfl, h] at h3
  have h4 := numP_some h3
  refine ⟨?_, h4.2.2⟩
  rw [h4.1]
  unfold intB
  simp
theorem num_some {r r' : List UInt8} {o : Int} (h : numS (some r) 59 0 = (o, some r')) : r = intB o ++ r' ∧ I64 o ∧ 0 ≤ o := by
  have h2 : (numS (some r) 59 0).2 = some r' := by rw [h]
  obtain ⟨r0, e, h3, _⟩ := numS_len h2
  cases e
  rw [h] at h3
  have h4 := numP_some h3
  refine ⟨?_, h4.2.2, h4.2.1⟩
  rw [h4.1]
  unfold intB
  simp
theorem items_some : ∀ (k : Nat) (r : List UInt8) {l : List Int} {r' : List UInt8}, itemsL k (some r) = (l, some r') → l.length = k ∧ r = (l.map intB).flatten ++ r' ∧ ∀ x, x ∈ l → I64 x
  | 0, r, l, r', h => by
    simp only [itemsL, Prod.mk.injEq, Option.some.injEq] at h
    obtain ⟨rfl, rfl⟩ := h
    simp
  | k + 1, r, l, r', h => by
    have hs : itemsL (k + 1) (some r) = ((intS (some r)).1 :: (itemsL k (intS (some r)).2).1, (itemsL k (intS (some r)).2).2) := rfl
    rw [hs, Prod.mk.injEq] at h
    cases h2 : (intS (some r)).2 with
    | none => rw [h2, itemsL_none] at h; cases h.2
    | some r2 =>
      rw [h2] at h
      have h3 := int_some (o := (intS (some r)).1) (r := r) (r' := r2) (by rw [← h2])
      obtain ⟨h4, h5, h6⟩ := items_some k r2 (l := (itemsL k (some r2)).1) (r' := r') (by rw [← h.2])
      rw [← h.1]
      refine ⟨by rw [List.length_cons, h4], ?_, fun x hx => ?_⟩
      · rw [List.map_cons, List.flatten_cons, List.append_assoc, ← h5]
        exact h3.1
      · rcases List.mem_cons.1 hx with hx | hx
        · rw [hx]; exact h3.2
        · exact h6 x hx
theorem nums_some {r r' : List UInt8} {l : List Int} (h : numsS (some r) = (l, some r')) : r = numsB l ++ r' ∧ ∀ x, x ∈ l → I64 x := by
  unfold numsS at h
  dsimp only at h
  cases h1 : (numS (some r) 91 0).2 with
  | none =>
    rw [h1, itemsL_none] at h
    simp [closeS] at h
  | some r1 =>
    obtain ⟨r0, e, h3, _⟩ := numS_len h1
    cases e
    rw [h1] at h
    cases h4 : (itemsL (numS (some r) 91 0).1.toNat (some r1)).2 with
    | none => rw [h4] at h; simp [closeS] at h
    | some r2 =>
      rw [h4] at h
      obtain ⟨h5, h6, h7⟩ := items_some _ r1 (l := (itemsL (numS (some r) 91 0).1.toNat (some r1)).1) (r' := r2) (by rw [← h4])
      cases r2 with
      | nil => simp [closeS] at h
      | cons c r2 =>
        by_cases hc : c = 93
        · rw [show closeS (some (c :: r2)) 93 = some r2 from if_pos hc] at h
          simp only [Option.isNone_some, Bool.false_eq_true, if_false, Prod.mk.injEq, Option.some.injEq] at h
          obtain ⟨g1, g2⟩ := h
          rw [← g1]
          refine ⟨?_, h7⟩
          have h8 := (numP_some h3).1
          have h9 := (numP_some h3).2.1
          generalize (numS (some r) 91 0).1 = n at *
          generalize (itemsL n.toNat (some r1)).1 = L at *
          rw [h8, h6, hc, g2]
          unfold numsB accB
          rw [List.take_length, h5, Int.toNat_of_nonneg h9]
          simp
        · rw [show closeS (some (c :: r2)) 93 = none from if_neg hc] at h
          simp at h
theorem numsS_none : numsS none = ([], none) := by
  unfold numsS
  rw [numS_none]
  simp [itemsL, closeS]
theorem nums_cases (s : St) : (numsS s).1 = [] ∨ ∃ r r', s = some r ∧ numsS (some r) = ((numsS s).1, some r') := by
  cases s with
  | none => rw [numsS_none]; exact .inl rfl
  | some r =>
    cases h : (numsS (some r)).2 with
    | none =>
      left
      unfold numsS at h ⊢
      dsimp only at h ⊢
      split
      · rfl
      · rename_i hn
        rw [if_neg hn] at h
        dsimp only at h
        rw [h] at hn
        exact absurd rfl hn
    | some r' => exact .inr ⟨r, r', rfl, by rw [← h]⟩
theorem numsS_I64 (s : St) : ∀ y, y ∈ (numsS s).1 → I64 y := fun y hy => by
  rcases nums_cases s with h | ⟨r, r', _, h⟩
  · rw [h] at hy; cases hy
  · exact (nums_some h).2 y hy
def laneB (x : LaneT) : List UInt8 := intB x.1 ++ numsB x.2.1 ++ numsB x.2.2
def lanesB (l : List LaneT) : List UInt8 := (l.map laneB).flatten
def certB (b : Int) (l : List LaneT) : List UInt8 := intB b ++ intB l.length ++ lanesB l
structure OkLane (x : LaneT) : Prop where
  c : I64 x.1
  a : ∀ y, y ∈ x.2.1 → I64 y
  b : ∀ y, y ∈ x.2.2 → I64 y
  al : x.2.1.length ≤ 1000
  bl : x.2.2.length ≤ 1000
def readN : Nat → St → List LaneT × St
  | 0, s => ([], s)
  | k + 1, s => if (s.getD []).length = 0 then ([], s) else
    (((intS s).1, (numsS (intS s).2).1, (numsS (numsS (intS s).2).2).1) :: (readN k (numsS (numsS (intS s).2).2).2).1, (readN k (numsS (numsS (intS s).2).2).2).2)
def endC (b n : Int) (r : List LaneT × St) : Option (Int × List LaneT) := if r.2 = some [] ∧ (r.1.length : Int) = n then some (b, r.1) else none
def readC (l : List UInt8) : Option (Int × List LaneT) :=
  endC (intS (some l)).1 (numS (intS (some l)).2 59 0).1 (readN (numS (intS (some l)).2 59 0).1.toNat (numS (intS (some l)).2 59 0).2)
theorem readN_none : ∀ k, readN k none = ([], none)
  | 0 => rfl
  | k + 1 => rfl
theorem readN_mk : ∀ (L : List LaneT), (∀ x, x ∈ L → OkLane x) → readN L.length (some (lanesB L)) = (L, some [])
  | [], _ => rfl
  | x :: L, h => by
    obtain ⟨c, a, b⟩ := x
    have hx := h _ List.mem_cons_self
    have ih := readN_mk L fun y hy => h y (.tail _ hy)
    have e : lanesB ((c, a, b) :: L) = intB c ++ (numsB a ++ (numsB b ++ lanesB L)) := by unfold lanesB laneB; simp
    have e1 := int_read hx.c (numsB a ++ (numsB b ++ lanesB L))
    have e2 := nums_read hx.a (by have := hx.al; omega) (numsB b ++ lanesB L)
    have e3 := nums_read hx.b (by have := hx.bl; omega) (lanesB L)
    dsimp only at e1 e2 e3
    have hp : ((some (intB c ++ (numsB a ++ (numsB b ++ lanesB L))) : St).getD []).length ≠ 0 := by
      rw [Option.getD_some]; unfold intB; simp
    rw [List.length_cons, e]
    unfold readN
    rw [if_neg hp, e1]
    dsimp only
    rw [e2]
    dsimp only
    rw [e3]
    dsimp only
    rw [ih]
theorem readC_mk {b : Int} {L : List LaneT} (hb : I64 b) (hL : ∀ x, x ∈ L → OkLane x) (hl : L.length ≤ 1000) : readC (certB b L) = some (b, L) := by
  have e : certB b L = intB b ++ (intB L.length ++ lanesB L) := by unfold certB; simp
  unfold readC
  rw [e, int_read hb]
  dsimp only
  rw [num_read ⟨by omega, by omega⟩ (by omega)]
  dsimp only
  rw [Int.toNat_natCast, readN_mk L hL]
  exact if_pos ⟨rfl, rfl⟩
theorem readN_some : ∀ (k : Nat) (r : List UInt8) {L : List LaneT} {r' : List UInt8}, readN k (some r) = (L, some r') → r = lanesB L ++ r'
  | 0, r, L, r', h => by
    simp only [readN, Prod.mk.injEq, Option.some.injEq] at h
    rw [← h.1, h.2]; rfl
  | k + 1, r, L, r', h => by
    unfold readN at h
    by_cases h0 : ((some r : St).getD []).length = 0
    · rw [if_pos h0] at h
      simp only [Prod.mk.injEq, Option.some.injEq] at h
      rw [← h.1, h.2]; rfl
    · rw [if_neg h0, Prod.mk.injEq] at h
      obtain ⟨g1, g2⟩ := h
      cases h1 : (intS (some r)).2 with
      | none => rw [h1] at g2; simp only [numsS_none, readN_none] at g2; cases g2
      | some r1 =>
        have k1 := (int_some (o := (intS (some r)).1) (r := r) (r' := r1) (by rw [← h1])).1
        rw [h1] at g1 g2
        cases h2 : (numsS (some r1)).2 with
        | none => rw [h2] at g2; simp only [numsS_none, readN_none] at g2; cases g2
        | some r2 =>
          have k2 := (nums_some (l := (numsS (some r1)).1) (r := r1) (r' := r2) (by rw [← h2])).1
          rw [h2] at g1 g2
          cases h3 : (numsS (some r2)).2 with
          | none => rw [h3] at g2; simp only [readN_none] at g2; cases g2
          | some r3 =>
            have k3 := (nums_some (l := (numsS (some r2)).1) (r := r2) (r' := r3) (by rw [← h3])).1
            rw [h3] at g1 g2
            have k4 := readN_some k r3 (L := (readN k (some r3)).1) (r' := r') (by rw [← g2])
            generalize (readN k (some r3)).1 = L1 at *
            generalize (numsS (some r2)).1 = q2 at *
            generalize (numsS (some r1)).1 = q1 at *
            generalize (intS (some r)).1 = o at *
            rw [← g1, k1, k2, k3, k4]
            unfold lanesB laneB
            simp
theorem readC_some {l : List UInt8} {b : Int} {L : List LaneT} (h : readC l = some (b, L)) : certB b L = l := by
  unfold readC endC at h
  split at h
  · rename_i hc
    simp only [Option.some.injEq, Prod.mk.injEq] at h
    obtain ⟨g1, g2⟩ := h
    cases h1 : (intS (some l)).2 with
    | none => rw [h1, numS_none, readN_none] at hc; cases hc.1
    | some r1 =>
      have k1 := (int_some (o := (intS (some l)).1) (r := l) (r' := r1) (by rw [← h1])).1
      rw [h1] at hc g2
      cases h2 : (numS (some r1) 59 0).2 with
      | none => rw [h2, readN_none] at hc; cases hc.1
      | some r2 =>
        have k2 := num_some (o := (numS (some r1) 59 0).1) (r := r1) (r' := r2) (by rw [← h2])
        rw [h2] at hc g2
        have k3 := readN_some _ r2 (L := (readN (numS (some r1) 59 0).1.toNat (some r2)).1) (r' := []) (by rw [← hc.1])
        rw [g1] at k1
        rw [g2] at k3 hc
        generalize (numS (some r1) 59 0).1 = n at *
        unfold certB
        rw [hc.2, k1, k2.1, k3]
        simp
  · cases h
theorem readN_ok : ∀ (k : Nat) (s : St), (s.getD []).length ≤ 400 → ∀ x, x ∈ (readN k s).1 → OkLane x
  | 0, s, _, x, hx => by cases hx
  | k + 1, s, hl, x, hx => by
    unfold readN at hx
    split at hx
    · cases hx
    · have l1 : ((intS s).2.getD []).length ≤ (s.getD []).length := numS_getD s 59 (-9223372036854775808)
      have l2 := numsS_len (intS s).2
      have l3 := numsS_len (numsS (intS s).2).2
      rcases List.mem_cons.1 hx with hx | hx
      · subst hx
        refine ⟨numS_I64 s 59 (-9223372036854775808), numsS_I64 _, numsS_I64 _, ?_, ?_⟩ <;> (dsimp only; omega)
      · exact readN_ok k _ (by omega) x hx
end Go.Proofs.YtjpcpbbkelgkeaaGreatDoor
namespace Go.Proofs.YtjpcpbbkelgkeaaGreatDoor
open Go Go.Ab Go.Ln Go.Wr
attribute [local irreducible] VC AW FStep ACall PCall AStep
set_option maxHeartbeats 4000000
theorem numsB_len {l : List Int} (hw : ∀ x, x ∈ l → I64 x) (hl : l.length ≤ 1000) : (numsB l).length ≤ 22023 := by
  have := accB_len hw (by omega) l.length
  unfold numsB; simp; omega
theorem laneB_len {x : LaneT} (h : OkLane x) : (laneB x).length ≤ 44068 := by
  have h1 := intB_len h.c
  have h2 := numsB_len h.a h.al
  have h3 := numsB_len h.b h.bl
  unfold laneB; simp; omega
theorem lanesB_len : ∀ L : List LaneT, (∀ x, x ∈ L → OkLane x) → (lanesB L).length ≤ 44068 * L.length
  | [], _ => by simp [lanesB]
  | x :: L, h => by
    have h1 := laneB_len (h x List.mem_cons_self)
    have h2 := lanesB_len L fun y hy => h y (.tail _ hy)
    unfold lanesB at *
    rw [List.map_cons, List.flatten_cons, List.length_append, List.length_cons]; omega
theorem lanesB_take {L : List LaneT} {k : Nat} (h : k < L.length) : lanesB (L.take (k + 1)) = lanesB (L.take k) ++ laneB L[k] := by
  unfold lanesB
  rw [List.take_succ_eq_append_getElem h, List.map_append, List.flatten_append]; simp
theorem bytesL_c (b : Int) (L : List LaneT) (hb : I64 b) (hL : ∀ x, x ∈ L → OkLane x) (hl : L.length ≤ 1000) : ACall Tryz.prog 7 [.agg (certA L b)] [] (.s (certB b L)) [] := by
  have hll : (lanesA L).length = L.length := by simp
  have hlI : I64 (L.length : Int) := ⟨by omega, by omega⟩
  have c1 := wint_c hb
  have c2 : ACall Tryz.prog 23 [.i ((lanesA L).length : Int)] [] (.s (intB L.length)) [] := by rw [hll]; exact wnum_c hlI (by omega)
  have e1 := intB_len hb
  have e2 := intB_len hlI
  refine acall T Tryz.func7 rfl rfl rfl rfl ?_
  repeat' (first|refine wS ?_|refine wB ?_|refine wK ?_|refine wR ?_|refine wE ?_|refine wT ?_|refine wU ?_|(refine rg 0 ?_;refine vc_n (by exact fs_box rfl rfl) rfl ?_;refine aV ?_)|(((refine aw_draw2k (id := 1) 36 [[],[0],[0,1],[],[3],[3,4],[0,1,2,3,4,5],[0,1,2,3,4,5,6]] [6,7,8,9,10,11,12,13] [[],[],[],[6,7,8],[6,7,8],[6,7,8],[],[]] mixedP rfl (by decide +kernel) ?_));(all_goals first|(refine dV rfl (by exact fs_fieldAddr T rfl rfl rfl) ?_));(all_goals first|(refine dV rfl (by exact fs_load T rfl rfl rfl rfl) ?_));(all_goals first|(refine dV rfl (by first|exact kC (c1)) ?_)|(refine dw_n rfl rfl rfl (by first|exact kC (c1)) rfl ?_));(all_goals first|(refine dV rfl (by exact fs_fieldAddr T rfl rfl rfl) ?_));(all_goals first|(refine dV rfl (by exact fs_load T rfl rfl rfl rfl) ?_));(all_goals first|(refine dV rfl (by first|exact fs_lenOwn T rfl rfl|exact fs_lenRow T rfl rfl|exact fs_lenNil T rfl rfl) ?_));(all_goals first|(refine dV rfl (by first|exact kC (c2)) ?_)|(refine dw_n rfl rfl rfl (by first|exact kC (c2)) rfl ?_));(all_goals first|(refine dV rfl (by first|exact fs_addS rfl rfl (by omega)|exact fs_addr rfl rfl (by omega) (by omega)|exact fs_add rfl rfl) ?_));(all_goals (refine dw_fin rfl rfl (by (first|(dsimp only [ln1,ln2,List.append_nil,ln4,ln5,ln6,ln7,ln8,ln9,putAt,putd,allObjs,argEnv,un_v,un_ptr,un_ep,un_pr,un_sl,un_mp,un_row,un_agg,un_tup,un_clo,Nat.zero_add,lnb,Nat.reduceAdd,lnc,lnd];first|done|exact rfl)|exact rfl)) ?_;refine aV ?_)))|(refine rg 2 ?_;refine fV T ?_;refine lV T ?_;(first|refine qV T ?_|refine vV (by exact fs_lenNil T rfl rfl) ?_);refine mV ?_)|refine nZ ?_)
  have hcl : ∀ j, j ≤ L.length → (intB b ++ intB L.length ++ lanesB (L.take j)).length ≤ 44 + 44068 * L.length := fun j hj => by
    have := lanesB_len (L.take j) fun x hx => hL x (List.mem_of_mem_take hx)
    rw [List.length_take] at this
    simp only [List.length_append]
    have : 44068 * min j L.length ≤ 44068 * L.length := Nat.mul_le_mul_left _ (Nat.min_le_right _ _)
    omega
  refine aw_loop (X := {j : Nat // j ≤ L.length}) (fun j => [(3, .s (intB b ++ intB L.length ++ lanesB (L.take j.1))), (15, .rowE (lanesA L) 3), (16, .i L.length), (17, .i (j.1 : Int))]) (fun _ => []) (fun j => L.length - j.1) ⟨0, Nat.zero_le _⟩ ⟨[], rfl, ⟨(by show some (AV.s _) = _; simp [lanesB]; rfl), rfl, congrArg (fun n : Nat => some (AV.i n)) hll, rfl, trivial⟩, trivial, List.nodup_nil, fun _ hi => absurd hi (Nat.not_lt_zero _)⟩ ?_
  rintro ⟨j, hj⟩
  dsimp only
  by_cases hlt : j < L.length
  · have hcj := hcl j hj
    have hcj2 := hcl (j + 1) hlt
    have htk := lanesB_take hlt
    have hx := hL _ (List.getElem_mem hlt)
    have qx : (lanesA L)[(j : Int).toNat]? = some (laneA L[j]) := lanes_get (by rw [Int.toNat_natCast, List.getElem?_eq_getElem hlt])
    have d1 := wint_c hx.c
    have d2 := nums_c hx.a (by have := hx.al; omega)
    have d3 := nums_c hx.b (by have := hx.bl; omega)
    have hfin : intB b ++ intB L.length ++ lanesB (L.take (j + 1)) = intB b ++ intB L.length ++ lanesB (L.take j) ++ laneB L[j] := by rw [htk, List.append_assoc (intB b ++ intB L.length)]
    rw [hfin] at hcj2
    clear htk
    generalize intB b ++ intB L.length ++ lanesB (L.take j) = z at *
    have hz : ∀ t, z ++ laneB t = z ++ (intB t.1 ++ numsB t.2.1 ++ numsB t.2.2) := fun _ => rfl
    generalize L[j] = x at *
    obtain ⟨xc, xa, xb⟩ := x
    dsimp only at d1 d2 d3 hz
    have hlb : (laneB (xc, xa, xb)).length = (intB xc).length + (numsB xa).length + (numsB xb).length := by unfold laneB; simp [Nat.add_assoc]
    simp only [List.length_append] at hcj2
    repeat' (first|refine wS ?_|refine wB ?_|refine wK ?_|refine wR ?_|refine wE ?_|refine wT ?_|refine wU ?_|(refine rg 3 ?_;refine vV (by first|exact fs_lssT rfl rfl (by omega)|exact fs_addS rfl rfl (by (try simp only [List.length_append]);omega)|exact fs_lss rfl rfl) ?_)|(refine rg 4 ?_;refine vV (by exact fs_indexRowE T rfl rfl rfl rfl rfl (by omega) (lanes_len _) qx) ?_;refine lV T ?_;refine vc_n (by exact fs_alloc T rfl) rfl ?_;refine vc_store T rfl rfl rfl rfl rfl rfl (by decide) rfl ?_)|(((refine aw_draw2k (id := 5) 36 [[],[],[1],[1,2],[],[4],[1,2,3,4,5],[1,2,3,4,5,6],[],[8],[1,2,3,4,5,6,8,9],[1,2,3,4,5,6,7,8,9,10],[0,1,2,3,4,5,6,7,8,9,10,11]] [21,22,23,24,25,26,27,28,29,30,31,32,33] [[],[21],[21],[21],[21,22,23,24],[21,22,23,24],[21],[21],[21,22,23,24,25,26,27,28],[21,22,23,24,25,26,27,28],[21,28],[21],[]] mixedP rfl (by decide +kernel) ?_));(all_goals first|(refine dV rfl (by exact fs_move rfl) ?_));(all_goals first|(refine dV rfl (by exact fs_fieldAddr T rfl rfl rfl) ?_));(all_goals first|(refine dV rfl (by exact fs_load T rfl rfl rfl rfl) ?_));(all_goals first|(refine dV rfl (by first|exact kC (d1)) ?_)|(refine dw_n rfl rfl rfl (by first|exact kC (d1)) rfl ?_));(all_goals first|(refine dV rfl (by exact fs_fieldAddr T rfl rfl rfl) ?_));(all_goals first|(refine dV rfl (by exact fs_load T rfl rfl rfl rfl) ?_));(all_goals first|(refine dV rfl (by first|exact kC (d2)|exact kC (d3)) ?_)|(refine dw_n rfl rfl rfl (by first|exact kC (d2)|exact kC (d3)) rfl ?_));(all_goals first|(refine dV rfl (by first|exact fs_addS rfl rfl (by (try simp only [List.length_append]);omega)|exact fs_addr rfl rfl (by omega) (by omega)|exact fs_add rfl rfl) ?_));(all_goals first|(refine dV rfl (by exact fs_fieldAddr T rfl rfl rfl) ?_));(all_goals first|(refine dV rfl (by exact fs_load T rfl rfl rfl rfl) ?_));(all_goals first|(refine dV rfl (by first|exact kC (d2)|exact kC (d3)) ?_)|(refine dw_n rfl rfl rfl (by first|exact kC (d2)|exact kC (d3)) rfl ?_));(all_goals first|(refine dV rfl (by first|exact fs_addS rfl rfl (by (try simp only [List.length_append]);omega)|exact fs_addr rfl rfl (by omega) (by omega)|exact fs_add rfl rfl) ?_));(all_goals first|(refine dV rfl (by first|exact fs_addS rfl rfl (by (try simp only [List.length_append]);omega)|exact fs_addr rfl rfl (by omega) (by omega)|exact fs_add rfl rfl) ?_));(all_goals (refine dw_fin rfl rfl (by (first|(dsimp only [ln1,ln2,List.append_nil,ln4,ln5,ln6,ln7,ln8,ln9,putAt,putd,allObjs,argEnv,un_v,un_ptr,un_ep,un_pr,un_sl,un_mp,un_row,un_agg,un_tup,un_clo,Nat.zero_add,lnb,Nat.reduceAdd,lnc,lnd];first|done|exact rfl)|exact rfl)) ?_;refine aV ?_)))|(refine rg 6 ?_;refine vV (by first|exact fs_addS rfl rfl (by (try simp only [List.length_append]);omega)|exact fs_addr rfl rfl (by omega) (by omega)|exact fs_add rfl rfl) ?_;refine mV ?_)|refine nZ ?_)
    all_goals exact ⟨⟨j + 1, hlt⟩, by dsimp only; omega, [], rfl, ⟨congrArg (fun l => some (AV.s l)) hfin.symm, rfl, rfl, rfl, trivial⟩, trivial, List.nodup_nil, fun _ hi => absurd hi (Nat.not_lt_zero _)⟩
  · obtain rfl : j = L.length := by omega
    repeat' (first|refine wS ?_|refine wB ?_|refine wK ?_|refine wR ?_|refine wE ?_|refine wT ?_|refine wU ?_|(refine rg 3 ?_;refine vV (by first|exact fs_lssF rfl rfl (by omega)|exact fs_lss rfl rfl) ?_)|(refine rg 7 ?_;refine mV ?_;refine aV ?_)|refine nZ ?_)
    all_goals exact ret_plain (.inl rfl) rfl (by rw [List.take_length]; rfl)
end Go.Proofs.YtjpcpbbkelgkeaaGreatDoor
namespace Go.Ab
open Go
theorem HS.snocG {c : Ctx} {ρ : Pl} {S : Nat → Prop} {H : Hp} {w : World} (s : HS c ρ S H w) : HS c ρ S (H ++ [.gone]) w := by
  have get : ∀ {k : Nat} {b : AB}, (H ++ [AB.gone])[k]? = some b → b ≠ .gone → H[k]? = some b := fun {k b} hb hg => by
    by_cases hk : k < H.length
    · rwa [List.getElem?_append_left hk] at hb
    · rw [List.getElem?_append_right (by omega)] at hb
      by_cases e : k - H.length = 0
      · rw [e] at hb; simp at hb; exact absurd hb.symm hg
      · rw [List.getElem?_eq_none (by simp; omega)] at hb; cases hb
  refine ⟨fun k hk => s.dom k (by simp at hk; omega), s.rng, fun k b hb => ?_, fun k b q hb hg hq => s.live k b q (get hb hg) hg hq, fun k k' b b' q q' hb hb' hg hg' hq hq' e => s.inj k k' b b' q q' (get hb hg) (get hb' hg') hg hg' hq hq' e, s.stab, s.ext, s.st0, s.st1, by rw [List.length_append]; have := s.mle; omega, s.keep, s.glob⟩
  by_cases hg : b = .gone
  · subst hg; trivial
  · exact s.blk k b (get hb hg)
theorem acall_gone {P : Program} {f : FuncId} {args : List AV} {res : AV} {hin hout : Hp} (h : ACall P f args hin res hout) : ACall P f args hin res (hout ++ [.gone]) := by
  refine ⟨h.1, fun ρ S w vs hs ha => (h.2 ρ S w vs hs ha).mono ?_⟩
  rintro e w' ⟨y, ρ', S', rfl, h2, h3⟩
  exact ⟨y, ρ', S', rfl, h2.snocG, h3⟩
theorem acall_frzK {P : Program} {f : FuncId} {args : List AV} {hin hout : Hp} {es : List (List AV)} {len sz k : Nat} (hk : k = hout.length) (hn : len = es.length) (hi : AV.idfL es.flatten = true) (h : ACall P f args hin (.sl k 0 len sz) (hout ++ [.arr es sz])) : ACall P f args hin (.rowE es sz) (hout ++ [.gone]) := by
  refine ⟨h.1, fun ρ S w vs hs ha => (h.2 ρ S w vs hs ha).mono ?_⟩
  rintro e w' ⟨y, ρ', S', rfl, h2, h3⟩
  rw [hn] at h3
  have hb : (hout ++ [AB.arr es sz])[k]? = some (.arr es sz) := by subst hk; simp
  have e : (hout ++ [AB.arr es sz]).set k .gone = hout ++ [.gone] := by subst hk; simp
  exact ⟨y, _, _, rfl, e ▸ h2.freeze (k := k) hb, frz_val hi (h2.blk k _ hb) h3⟩
end Go.Ab
namespace Go.Proofs.YtjpcpbbkelgkeaaGreatDoor
open Go Go.Ab Go.Ln Go.Wr
attribute [local irreducible] VC AW FStep ACall PCall AStep
set_option maxHeartbeats 4000000
def resC : Option (Int × List LaneT) → AV
  | some (b, L) => .tup [.agg (certA L b), .b true]
  | none => .tup [.agg (certA [] 0), .b false]
theorem rintG_c (s : St) (hl : (s.getD []).length ≤ 100000000) : ACall Tryz.prog 17 [.ptr 0 0] (rdH s) (.i (intS s).1) (rdH (intS s).2 ++ [.gone]) := acall_gone (int_c s (by omega))
theorem rnumsG_c (s : St) (hl : (s.getD []).length ≤ 100000000) : ACall Tryz.prog 20 [.ptr 0 0] (rdH s) (.rowE (ints (numsS s).1) 1) (rdH (numsS s).2 ++ [.gone]) :=
  acall_frzK rfl (by simp) (idfL_flat (ints_idf _)) (rnums_c s hl)
theorem readL_p (l : List UInt8) (hl : l.length ≤ 1000000) : PCall Tryz.prog 6 [.s l] [] (fun r o => o = [] ∧ r = resC (readC l)) := by
  have hl0 : ((some l : St).getD []).length = l.length := rfl
  have c0 := open_c l
  have c1 := int_c (some l) (by omega)
  have hb1 : ((intS (some l)).2.getD []).length ≤ ((some l : St).getD []).length := numS_getD (some l) 59 (-9223372036854775808)
  unfold readC
  generalize (intS (some l)).1 = b at *
  generalize (intS (some l)).2 = s1 at *
  have c2 := num_c s1 (by omega)
  have hn0 := numS_ge s1 59
  have hn1 := (numS_I64 s1 59 0).2
  have hle := numS_getD s1 59 0
  generalize (numS s1 59 0).1 = n at *
  generalize (numS s1 59 0).2 = s2 at *
  refine pcall_view (Φ := fun r o => (∃ L, endC b n (readN n.toNat s2) = some (b, L) ∧ r = .tup [.agg [.sl 0 0 L.length 3, .i b], .b true] ∧ o = [.arr (lanesA L) 3]) ∨ (endC b n (readN n.toNat s2) = none ∧ r = .tup [.agg [.nils, .i 0], .b false] ∧ o = [])) ?_ ?_
  rotate_left
  · rintro r o (⟨L, h1, rfl, rfl⟩ | ⟨h1, rfl, rfl⟩)
    · refine ⟨.tup [.agg (certA L b), .b true], ?_, by rw [h1]; rfl⟩
      have e : AV.rowE (lanesA L) 3 = .row (lanesA L).flatten L.length 3 := by simp [AV.rowE]
      dsimp only [certA]
      rw [e]
      refine .tup (.cons (.agg (.cons (.sl (es := lanesA L) rfl (by simp) ?_) (.cons (.v _) .nil))) (.cons (.v _) .nil))
      rw [List.drop_zero, List.take_of_length_le (by simp)]
      exact viewL_self _ (lanes_pln L)
    · exact ⟨_, .tup (.cons (.agg (.cons (.nils 3) (.cons (.v _) .nil))) (.cons (.v _) .nil)), by rw [h1]; rfl⟩
  refine pcall T Tryz.func6 rfl rfl rfl rfl ?_
  repeat' (first|refine wS ?_|refine wB ?_|refine wK ?_|refine wR ?_|refine wE ?_|refine wT ?_|refine wU ?_|(refine rg 0 ?_;refine vc_n (by exact fs_alloc T rfl) rfl ?_;refine aV ?_)|(refine rg 1 ?_;refine mV ?_;refine vc_callw [] rfl rfl c0 rfl rfl (by decide) trivial (by simp) rfl ?_;refine aV ?_)|(refine rg 2 ?_;refine mV ?_;refine vc_callw [1] rfl rfl c1 rfl rfl (by decide) ⟨.inr rfl,trivial⟩ (by simp) rfl ?_;refine vV (by exact fs_build T rfl rfl rfl rfl) ?_;refine vc_n (by exact fs_alloc T rfl) rfl ?_;refine vc_store T rfl rfl rfl rfl rfl rfl (by decide) rfl ?_)|(refine rg 3 ?_;refine mV ?_;refine vc_callw [1] rfl rfl c2 rfl rfl (by decide) ⟨.inr rfl,trivial⟩ (by simp) rfl ?_;refine aV ?_)|refine nZ ?_)
  refine aw_keep [(2, .ptr 0 0), (4, .ptr 1 0), (5, .ptr 2 0), (6, .i n)] [.cells [.nils, .i 0], .cells [.s (s2.getD []), .b s2.isNone], .cells [.nils, .i b]] ⟨[0, 1, 2], rfl, (by (repeat (first | exact trivial | refine ⟨rfl, ?_⟩))), ⟨.inr rfl, .inr rfl, .inr rfl, trivial⟩, by decide, fun _ hi => absurd hi (Nat.not_lt_zero _)⟩ ?_
  refine aw_ownC 2 0 3 rfl rfl (by decide) ?_
  refine aw_loop (X := {p : Nat × St × List LaneT // readN n.toNat s2 = (p.2.2 ++ (readN p.1 p.2.1).1, (readN p.1 p.2.1).2) ∧ (p.1 : Int) + p.2.2.length = n ∧ p.2.2.length + (p.2.1.getD []).length ≤ l.length}) (fun p => [(2, .ptr 0 0), (4, .ptr 1 0), (5, .ptr 2 0), (6, .i n)]) (fun p => [.cells [.nils, .i 0], .cells [.s (p.1.2.1.getD []), .b p.1.2.1.isNone], .cells [.sl 3 0 p.1.2.2.length 3, .i b], .arr (lanesA p.1.2.2) 3]) (fun p => p.1.1) ⟨(n.toNat, s2, []), rfl, by dsimp only; simp; omega, by dsimp only; simp; omega⟩ ⟨[0, 1, 2, 3], rfl, ⟨rfl, rfl, rfl, rfl, trivial⟩, ⟨.inr rfl, .inr rfl, .inr rfl, .inr rfl, trivial⟩, by decide, fun _ hi => absurd hi (Nat.not_lt_zero _)⟩ ?_
  rintro ⟨⟨k, s, L⟩, h1, h2, h3⟩
  dsimp only at h1 h2 h3 ⊢
  rw [h1]
  have cL := left_c s
  have cD := done_c s
  by_cases hk : 0 < k
  case neg =>
    have hk0 : k = 0 := by omega
    have hrec : readN k s = ([], s) := by rw [hk0]; rfl
    rw [hrec]
    dsimp only
    rw [List.append_nil]
    repeat' (first|refine wS ?_|refine wB ?_|refine wK ?_|refine wR ?_|refine wE ?_|refine wT ?_|refine wU ?_|(refine rg 4 ?_;(all_goals (refine fV T ?_;refine lV T ?_;(first|refine qV T ?_|refine vV (by exact fs_lenNil T rfl rfl) ?_);refine mV ?_;refine vV (by first|exact fs_lssF rfl rfl (by omega)|exact fs_lss rfl rfl) ?_;refine mV ?_));(all_goals first|(refine gK ?_));(all_goals first|(refine gT ?_;(refine mV ?_);refine gT ?_;(refine vc_callw [1] rfl rfl cL rfl rfl (by decide) ⟨.inr rfl,trivial⟩ (by simp) rfl ?_);refine gT ?_;(refine vV (by exact fs_gtr rfl rfl) ?_))|(iterate 3 first|refine gF ?_|refine gU ?_));(all_goals (first|refine pV ?_|refine vV (by exact fs_pick rfl rfl rfl) ?_)))|refine nZ ?_)
    refine aw_keep [(2, .ptr 0 0), (4, .ptr 1 0), (5, .ptr 2 0), (6, .i n)] [.cells [.nils, .i 0], .cells [.s (s.getD []), .b s.isNone], .cells [.sl 3 0 L.length 3, .i b], .arr (lanesA L) 3] ⟨[0, 1, 2, 3], rfl, (by (repeat (first | exact trivial | refine ⟨rfl, ?_⟩))), ⟨.inr rfl, .inr rfl, .inr rfl, .inr (sub_arr rfl rfl (lanes_idfs _)), trivial⟩, by decide, fun _ hi => absurd hi (Nat.not_lt_zero _)⟩ ?_
    have hll : (lanesA L).length = L.length := by simp
    by_cases hs : s = some []
    · rw [decide_eq_true hs] at cD
      by_cases hL : (L.length : Int) = n
      · have hok : endC b n (L, s) = some (b, L) := if_pos ⟨hs, hL⟩
        repeat' (first|refine wS ?_|refine wB ?_|refine wK ?_|refine wR ?_|refine wE ?_|refine wT ?_|refine wU ?_|(refine rg 6 ?_;(all_goals (refine mV ?_;refine vc_callw [1] rfl rfl cD rfl rfl (by decide) ⟨.inr rfl,trivial⟩ (by simp) rfl ?_;refine vV (by exact fs_not rfl) ?_;refine mV ?_));(all_goals first|(refine gK ?_));(all_goals first|(refine gT ?_;(refine fV T ?_);refine gT ?_;(refine lV T ?_);refine gT ?_;(first|refine qV T ?_|refine vV (by exact fs_lenNil T rfl rfl) ?_);refine gT ?_;(refine mV ?_);refine gT ?_;(refine vV (by first|exact fs_neqF rfl rfl hL|exact fs_neq rfl rfl) ?_))|(iterate 5 first|refine gF ?_|refine gU ?_));(all_goals (first|refine pV ?_|refine vV (by exact fs_pick rfl rfl rfl) ?_)))|(refine rg 8 ?_;refine lV T ?_;refine vc_store T rfl rfl rfl rfl rfl rfl (by decide) rfl ?_;refine aV ?_)|refine nZ ?_)
        all_goals exact ⟨_, _, .inl ⟨L, hok, rfl, rfl⟩, .inl rfl, [3], _, rfl, rfl, rfl, ⟨.inr (sub_arr rfl rfl (lanes_idfs _)), trivial⟩, by decide, fun _ hi => absurd hi (Nat.not_lt_zero _)⟩
      · have hok : endC b n (L, s) = none := if_neg fun h => hL h.2
        repeat' (first|refine wS ?_|refine wB ?_|refine wK ?_|refine wR ?_|refine wE ?_|refine wT ?_|refine wU ?_|(refine rg 6 ?_;(all_goals (refine mV ?_;refine vc_callw [1] rfl rfl cD rfl rfl (by decide) ⟨.inr rfl,trivial⟩ (by simp) rfl ?_;refine vV (by exact fs_not rfl) ?_;refine mV ?_));(all_goals first|(refine gK ?_));(all_goals first|(refine gT ?_;(refine fV T ?_);refine gT ?_;(refine lV T ?_);refine gT ?_;(first|refine qV T ?_|refine vV (by exact fs_lenNil T rfl rfl) ?_);refine gT ?_;(refine mV ?_);refine gT ?_;(refine vV (by first|exact fs_neqT rfl rfl hL|exact fs_neq rfl rfl) ?_))|(iterate 5 first|refine gF ?_|refine gU ?_));(all_goals (first|refine pV ?_|refine vV (by exact fs_pick rfl rfl rfl) ?_)))|(refine rg 7 ?_;refine vV (by exact fs_build T rfl rfl rfl rfl) ?_;refine vc_store T rfl rfl rfl rfl rfl rfl (by decide) rfl ?_;refine aV ?_)|refine nZ ?_)
        all_goals exact ⟨_, _, .inr ⟨hok, rfl, rfl⟩, .inl rfl, [], _, rfl, rfl, rfl, trivial, List.nodup_nil, fun _ hi => absurd hi (Nat.not_lt_zero _)⟩
    · rw [decide_eq_false hs] at cD
      have hok : endC b n (L, s) = none := if_neg fun h => hs h.1
      repeat' (first|refine wS ?_|refine wB ?_|refine wK ?_|refine wR ?_|refine wE ?_|refine wT ?_|refine wU ?_|(refine rg 6 ?_;(all_goals (refine mV ?_;refine vc_callw [1] rfl rfl cD rfl rfl (by decide) ⟨.inr rfl,trivial⟩ (by simp) rfl ?_;refine vV (by exact fs_not rfl) ?_;refine mV ?_));(all_goals first|(refine gK ?_));(all_goals first|(refine gT ?_;(refine fV T ?_);refine gT ?_;(refine lV T ?_);refine gT ?_;(first|refine qV T ?_|refine vV (by exact fs_lenNil T rfl rfl) ?_);refine gT ?_;(refine mV ?_);refine gT ?_;(refine vV (by exact fs_neq rfl rfl) ?_))|(iterate 5 first|refine gF ?_|refine gU ?_));(all_goals (first|refine pV ?_|refine vV (by exact fs_pick rfl rfl rfl) ?_)))|(refine rg 7 ?_;refine vV (by exact fs_build T rfl rfl rfl rfl) ?_;refine vc_store T rfl rfl rfl rfl rfl rfl (by decide) rfl ?_;refine aV ?_)|refine nZ ?_)
      all_goals exact ⟨_, _, .inr ⟨hok, rfl, rfl⟩, .inl rfl, [], _, rfl, rfl, rfl, trivial, List.nodup_nil, fun _ hi => absurd hi (Nat.not_lt_zero _)⟩
  by_cases hz : 0 < (s.getD []).length
  case neg =>
    have hrec : readN k s = ([], s) := by
      obtain ⟨k, rfl⟩ : ∃ k', k = k' + 1 := ⟨k - 1, by omega⟩
      unfold readN; rw [if_pos (by omega)]
    rw [hrec]
    dsimp only
    rw [List.append_nil]
    repeat' (first|refine wS ?_|refine wB ?_|refine wK ?_|refine wR ?_|refine wE ?_|refine wT ?_|refine wU ?_|(refine rg 4 ?_;(all_goals (refine fV T ?_;refine lV T ?_;(first|refine qV T ?_|refine vV (by exact fs_lenNil T rfl rfl) ?_);refine mV ?_;refine vV (by first|exact fs_lssT rfl rfl (by omega)|exact fs_lss rfl rfl) ?_;refine mV ?_));(all_goals first|(refine gK ?_));(all_goals first|(refine gT ?_;(refine mV ?_);refine gT ?_;(refine vc_callw [1] rfl rfl cL rfl rfl (by decide) ⟨.inr rfl,trivial⟩ (by simp) rfl ?_);refine gT ?_;(refine vV (by first|exact fs_gtrF rfl rfl (by omega)|exact fs_gtr rfl rfl) ?_))|(iterate 3 first|refine gF ?_|refine gU ?_));(all_goals (first|refine pV ?_|refine vV (by exact fs_pick rfl rfl rfl) ?_)))|refine nZ ?_)
    refine aw_keep [(2, .ptr 0 0), (4, .ptr 1 0), (5, .ptr 2 0), (6, .i n)] [.cells [.nils, .i 0], .cells [.s (s.getD []), .b s.isNone], .cells [.sl 3 0 L.length 3, .i b], .arr (lanesA L) 3] ⟨[0, 1, 2, 3], rfl, (by (repeat (first | exact trivial | refine ⟨rfl, ?_⟩))), ⟨.inr rfl, .inr rfl, .inr rfl, .inr (sub_arr rfl rfl (lanes_idfs _)), trivial⟩, by decide, fun _ hi => absurd hi (Nat.not_lt_zero _)⟩ ?_
    have hll : (lanesA L).length = L.length := by simp
    by_cases hs : s = some []
    · rw [decide_eq_true hs] at cD
      by_cases hL : (L.length : Int) = n
      · have hok : endC b n (L, s) = some (b, L) := if_pos ⟨hs, hL⟩
        repeat' (first|refine wS ?_|refine wB ?_|refine wK ?_|refine wR ?_|refine wE ?_|refine wT ?_|refine wU ?_|(refine rg 6 ?_;(all_goals (refine mV ?_;refine vc_callw [1] rfl rfl cD rfl rfl (by decide) ⟨.inr rfl,trivial⟩ (by simp) rfl ?_;refine vV (by exact fs_not rfl) ?_;refine mV ?_));(all_goals first|(refine gK ?_));(all_goals first|(refine gT ?_;(refine fV T ?_);refine gT ?_;(refine lV T ?_);refine gT ?_;(first|refine qV T ?_|refine vV (by exact fs_lenNil T rfl rfl) ?_);refine gT ?_;(refine mV ?_);refine gT ?_;(refine vV (by first|exact fs_neqF rfl rfl hL|exact fs_neq rfl rfl) ?_))|(iterate 5 first|refine gF ?_|refine gU ?_));(all_goals (first|refine pV ?_|refine vV (by exact fs_pick rfl rfl rfl) ?_)))|(refine rg 8 ?_;refine lV T ?_;refine vc_store T rfl rfl rfl rfl rfl rfl (by decide) rfl ?_;refine aV ?_)|refine nZ ?_)
        all_goals exact ⟨_, _, .inl ⟨L, hok, rfl, rfl⟩, .inl rfl, [3], _, rfl, rfl, rfl, ⟨.inr (sub_arr rfl rfl (lanes_idfs _)), trivial⟩, by decide, fun _ hi => absurd hi (Nat.not_lt_zero _)⟩
      · have hok : endC b n (L, s) = none := if_neg fun h => hL h.2
        repeat' (first|refine wS ?_|refine wB ?_|refine wK ?_|refine wR ?_|refine wE ?_|refine wT ?_|refine wU ?_|(refine rg 6 ?_;(all_goals (refine mV ?_;refine vc_callw [1] rfl rfl cD rfl rfl (by decide) ⟨.inr rfl,trivial⟩ (by simp) rfl ?_;refine vV (by exact fs_not rfl) ?_;refine mV ?_));(all_goals first|(refine gK ?_));(all_goals first|(refine gT ?_;(refine fV T ?_);refine gT ?_;(refine lV T ?_);refine gT ?_;(first|refine qV T ?_|refine vV (by exact fs_lenNil T rfl rfl) ?_);refine gT ?_;(refine mV ?_);refine gT ?_;(refine vV (by first|exact fs_neqT rfl rfl hL|exact fs_neq rfl rfl) ?_))|(iterate 5 first|refine gF ?_|refine gU ?_));(all_goals (first|refine pV ?_|refine vV (by exact fs_pick rfl rfl rfl) ?_)))|(refine rg 7 ?_;refine vV (by exact fs_build T rfl rfl rfl rfl) ?_;refine vc_store T rfl rfl rfl rfl rfl rfl (by decide) rfl ?_;refine aV ?_)|refine nZ ?_)
        all_goals exact ⟨_, _, .inr ⟨hok, rfl, rfl⟩, .inl rfl, [], _, rfl, rfl, rfl, trivial, List.nodup_nil, fun _ hi => absurd hi (Nat.not_lt_zero _)⟩
    · rw [decide_eq_false hs] at cD
      have hok : endC b n (L, s) = none := if_neg fun h => hs h.1
      repeat' (first|refine wS ?_|refine wB ?_|refine wK ?_|refine wR ?_|refine wE ?_|refine wT ?_|refine wU ?_|(refine rg 6 ?_;(all_goals (refine mV ?_;refine vc_callw [1] rfl rfl cD rfl rfl (by decide) ⟨.inr rfl,trivial⟩ (by simp) rfl ?_;refine vV (by exact fs_not rfl) ?_;refine mV ?_));(all_goals first|(refine gK ?_));(all_goals first|(refine gT ?_;(refine fV T ?_);refine gT ?_;(refine lV T ?_);refine gT ?_;(first|refine qV T ?_|refine vV (by exact fs_lenNil T rfl rfl) ?_);refine gT ?_;(refine mV ?_);refine gT ?_;(refine vV (by exact fs_neq rfl rfl) ?_))|(iterate 5 first|refine gF ?_|refine gU ?_));(all_goals (first|refine pV ?_|refine vV (by exact fs_pick rfl rfl rfl) ?_)))|(refine rg 7 ?_;refine vV (by exact fs_build T rfl rfl rfl rfl) ?_;refine vc_store T rfl rfl rfl rfl rfl rfl (by decide) rfl ?_;refine aV ?_)|refine nZ ?_)
      all_goals exact ⟨_, _, .inr ⟨hok, rfl, rfl⟩, .inl rfl, [], _, rfl, rfl, rfl, trivial, List.nodup_nil, fun _ hi => absurd hi (Nat.not_lt_zero _)⟩
  obtain ⟨k, rfl⟩ : ∃ k', k = k' + 1 := ⟨k - 1, by omega⟩
  have d1 := rintG_c s (by omega)
  have hil : ((intS s).2.getD []).length + 1 ≤ (s.getD []).length := by
    cases s with
    | none => simp at hz
    | some r =>
      rcases intS_len r with h | ⟨r', h, hr⟩
      · rw [h]; simp at hz ⊢; omega
      · rw [h]; simp; omega
  have d2 := rnumsG_c (intS s).2 (by omega)
  have hnl := numsS_len (intS s).2
  have d3 := rnumsG_c (numsS (intS s).2).2 (by omega)
  have hnl3 := numsS_len (numsS (intS s).2).2
  have hrec : readN (k + 1) s = (((intS s).1, (numsS (intS s).2).1, (numsS (numsS (intS s).2).2).1) :: (readN k (numsS (numsS (intS s).2).2).2).1, (readN k (numsS (numsS (intS s).2).2).2).2) := if_neg (by omega)
  rw [hrec] at h1 ⊢
  generalize (intS s).1 = o at *
  generalize (intS s).2 = t1 at *
  generalize (numsS t1).1 = qa at *
  generalize (numsS t1).2 = t2 at *
  generalize (numsS t2).1 = qb at *
  generalize (numsS t2).2 = t3 at *
  have hll : (lanesA L).length = L.length := by simp
  repeat' (first|refine wS ?_|refine wB ?_|refine wK ?_|refine wR ?_|refine wE ?_|refine wT ?_|refine wU ?_|(refine rg 4 ?_;(all_goals (refine fV T ?_;refine lV T ?_;(first|refine qV T ?_|refine vV (by exact fs_lenNil T rfl rfl) ?_);refine mV ?_;refine vV (by first|exact fs_lssT rfl rfl (by omega)|exact fs_lss rfl rfl) ?_;refine mV ?_));(all_goals first|(refine gK ?_));(all_goals first|(refine gT ?_;(refine mV ?_);refine gT ?_;(refine vc_callw [1] rfl rfl cL rfl rfl (by decide) ⟨.inr rfl,trivial⟩ (by simp) rfl ?_);refine gT ?_;(refine vV (by first|exact fs_gtrT rfl rfl (by omega)|exact fs_gtr rfl rfl) ?_))|(iterate 3 first|refine gF ?_|refine gU ?_));(all_goals (first|refine pV ?_|refine vV (by exact fs_pick rfl rfl rfl) ?_)))|refine nZ ?_)
  refine aw_keep [(2, .ptr 0 0), (4, .ptr 1 0), (5, .ptr 2 0), (6, .i n)] [.cells [.nils, .i 0], .cells [.s (s.getD []), .b s.isNone], .cells [.sl 3 0 L.length 3, .i b], .arr (lanesA L) 3] ⟨[0, 1, 2, 3], rfl, (by (repeat (first | exact trivial | refine ⟨rfl, ?_⟩))), ⟨.inr rfl, .inr rfl, .inr rfl, .inr (sub_arr rfl rfl (lanes_idfs _)), trivial⟩, by decide, fun _ hi => absurd hi (Nat.not_lt_zero _)⟩ ?_
  repeat' (first|refine wS ?_|refine wB ?_|refine wK ?_|refine wR ?_|refine wE ?_|refine wT ?_|refine wU ?_|(((refine aw_draw4k (id := 5) 48 [[],[0],[],[2],[],[2,3,4],[],[2,3,4,5,6],[2,3,4,5,6,7],[2,3,4,5,6,7,8],[0,1,2,3,4,5,6,7,8,9]] [24,25,26,27,28,29,30,31,32,33,34] [[],[],[24,25],[24,25],[24,25,26,27],[24,25],[24,25,26,27,28,29],[24,25],[24,25],[24,25],[]] [(3,1),(5,1),(7,1),(10,3)] mixedP rfl (by decide +kernel) ?_));(all_goals (refine dwa_v rfl rfl rfl rfl (by exact fs_fieldAddr T rfl rfl rfl) ?_;refine dwa_v rfl rfl rfl rfl (by exact fs_load T rfl rfl rfl rfl) ?_;refine dwa_v rfl rfl rfl rfl (by exact fs_move rfl) ?_));(all_goals first|(refine dwa_a1 rfl rfl rfl rfl (Nat.le_of_ble_eq_true rfl) (by exact as_callk [1] rfl rfl (d1) (fun _=>rfl) rfl (by decide) (fun _=>⟨.inr rfl,trivial⟩) (by simp) rfl (fun _ _=>rfl) rfl rfl) ?_));(all_goals (refine dwa_v rfl rfl rfl rfl (by exact fs_move rfl) ?_));(all_goals first|(refine dwa_a1 rfl rfl rfl rfl (Nat.le_of_ble_eq_true rfl) (by exact as_callk [1] rfl rfl (d2) (fun _=>rfl) rfl (by decide) (fun _=>⟨.inr rfl,trivial⟩) (by simp) rfl (fun _ _=>rfl) rfl rfl) ?_)|(refine dwa_a1 rfl rfl rfl rfl (Nat.le_of_ble_eq_true rfl) (by exact as_callk [1] rfl rfl (d3) (fun _=>rfl) rfl (by decide) (fun _=>⟨.inr rfl,trivial⟩) (by simp) rfl (fun _ _=>rfl) rfl rfl) ?_));(all_goals (refine dwa_v rfl rfl rfl rfl (by exact fs_move rfl) ?_));(all_goals first|(refine dwa_a1 rfl rfl rfl rfl (Nat.le_of_ble_eq_true rfl) (by exact as_callk [1] rfl rfl (d2) (fun _=>rfl) rfl (by decide) (fun _=>⟨.inr rfl,trivial⟩) (by simp) rfl (fun _ _=>rfl) rfl rfl) ?_)|(refine dwa_a1 rfl rfl rfl rfl (Nat.le_of_ble_eq_true rfl) (by exact as_callk [1] rfl rfl (d3) (fun _=>rfl) rfl (by decide) (fun _=>⟨.inr rfl,trivial⟩) (by simp) rfl (fun _ _=>rfl) rfl rfl) ?_));(all_goals (refine dwa_v rfl rfl rfl rfl (by exact fs_build T rfl rfl rfl rfl) ?_;refine dwa_n rfl rfl rfl rfl (by first|exact fs_buildSlice T rfl rfl (by decide) (by decide) rfl rfl rfl) rfl ?_));(all_goals first|(refine dwa_a1 rfl rfl rfl rfl (Nat.le_of_ble_eq_true rfl) (by exact as_append T rfl rfl rfl rfl rfl rfl (by simp) (Elems.whole rfl rfl) rfl (by simp;omega) (by simp;omega)) ?_));(all_goals (refine dwa_fin rfl rfl rfl (by first|(dsimp only [applyS,ln1,ln2,List.append_nil,ln4,ln5,ln6,ln7,ln8,ln9,putAt,putd,allObjs,argEnv,un_v,un_ptr,un_ep,un_pr,un_sl,un_mp,un_row,un_agg,un_tup,un_clo,Nat.zero_add,lnb,Nat.reduceAdd,lnc,lnd];exact rfl)|exact rfl) ?_;refine fV T ?_;refine vc_store T rfl rfl rfl rfl rfl rfl (by decide) rfl ?_)))|refine nZ ?_)
  have hln : (L ++ [(o, qa, qb)]).length = L.length + 1 := by simp
  all_goals exact ⟨⟨(k, t3, L ++ [(o, qa, qb)]), by dsimp only; simp, by dsimp only; rw [hln]; omega, by dsimp only; rw [hln]; omega⟩, Nat.lt_succ_self k, [0, 1, 2, 8], rfl, (by (repeat (first | exact trivial | refine ⟨rfl, ?_⟩))), ⟨.inr rfl, .inr rfl, .inr (congrArg (fun n : Nat => some (AB.cells [.sl 8 0 n 3, .i b])) hln).symm, .inr (sub_arr rfl (lanes_next L (o, qa, qb)) (lanes_idfs _)), trivial⟩, by decide, fun _ hi => absurd hi (Nat.not_lt_zero _)⟩
end Go.Proofs.YtjpcpbbkelgkeaaGreatDoor
namespace Go.Proofs.YtjpcpbbkelgkeaaGreatDoor
open Go Go.Ab Go.Ln Go.Wr
attribute [local irreducible] VC AW FStep ACall PCall AStep
set_option maxHeartbeats 4000000
theorem rbytesL_c (b : Int) (L : List LaneT) (hb : I64 b) (hL : ∀ x, x ∈ L → OkLane x) (hl : L.length ≤ 1000) : ACall Tryz.prog 10 [.agg (certA L b)] [] (.s (certB b L)) [] := by
  have hll : (lanesA L).length = L.length := by simp
  have hlI : I64 (L.length : Int) := ⟨by omega, by omega⟩
  have c1 := qint_c hb
  have c2 : ACall Tryz.prog 32 [.i ((lanesA L).length : Int)] [] (.s (intB L.length)) [] := by rw [hll]; exact qnum_c hlI (by omega)
  have e1 := intB_len hb
  have e2 := intB_len hlI
  refine acall T Tryz.func10 rfl rfl rfl rfl ?_
  repeat' (first|refine wS ?_|refine wB ?_|refine wK ?_|refine wR ?_|refine wE ?_|refine wT ?_|refine wU ?_|(refine rg 0 ?_;refine vc_n (by exact fs_box rfl rfl) rfl ?_;refine aV ?_)|(((refine aw_draw2k (id := 1) 46 [[],[0],[0,1],[],[3],[3,4],[0,1,2,3,4,5],[0,1,2,3,4,5,6]] [5,6,7,8,9,10,11,12] [[],[],[],[5,6,7],[5,6,7],[5,6,7],[],[]] mixedP rfl (by decide +kernel) ?_));(all_goals first|(refine dV rfl (by exact fs_fieldAddr T rfl rfl rfl) ?_));(all_goals first|(refine dV rfl (by exact fs_load T rfl rfl rfl rfl) ?_));(all_goals first|(refine dV rfl (by first|exact kC (c1)) ?_)|(refine dw_n rfl rfl rfl (by first|exact kC (c1)) rfl ?_));(all_goals first|(refine dV rfl (by exact fs_fieldAddr T rfl rfl rfl) ?_));(all_goals first|(refine dV rfl (by exact fs_load T rfl rfl rfl rfl) ?_));(all_goals first|(refine dV rfl (by first|exact fs_lenOwn T rfl rfl|exact fs_lenRow T rfl rfl|exact fs_lenNil T rfl rfl) ?_));(all_goals first|(refine dV rfl (by first|exact kC (c2)) ?_)|(refine dw_n rfl rfl rfl (by first|exact kC (c2)) rfl ?_));(all_goals first|(refine dV rfl (by first|exact fs_addS rfl rfl (by omega)|exact fs_addr rfl rfl (by omega) (by omega)|exact fs_add rfl rfl) ?_));(all_goals (refine dw_fin rfl rfl (by (first|(dsimp only [ln1,ln2,List.append_nil,ln4,ln5,ln6,ln7,ln8,ln9,putAt,putd,allObjs,argEnv,un_v,un_ptr,un_ep,un_pr,un_sl,un_mp,un_row,un_agg,un_tup,un_clo,Nat.zero_add,lnb,Nat.reduceAdd,lnc,lnd];first|done|exact rfl)|exact rfl)) ?_;refine aV ?_)))|(refine rg 2 ?_;refine aV ?_)|refine nZ ?_)
  have hcl : ∀ j, j ≤ L.length → (intB b ++ intB L.length ++ lanesB (L.take j)).length ≤ 44 + 44068 * L.length := fun j hj => by
    have := lanesB_len (L.take j) fun x hx => hL x (List.mem_of_mem_take hx)
    rw [List.length_take] at this
    simp only [List.length_append]
    have : 44068 * min j L.length ≤ 44068 * L.length := Nat.mul_le_mul_left _ (Nat.min_le_right _ _)
    omega
  refine aw_loop (X := {j : Nat // j ≤ L.length}) (fun j => [(1, .ptr 0 0), (3, .s (intB b ++ intB L.length ++ lanesB (L.take j.1))), (4, .i (j.1 : Int))]) (fun _ => [.cells (certA L b)]) (fun j => L.length - j.1) ⟨0, Nat.zero_le _⟩ ⟨[0], rfl, ⟨rfl, (by show some (AV.s _) = _; simp [lanesB]; rfl), rfl, trivial⟩, ⟨.inr rfl, trivial⟩, by decide, fun _ hi => absurd hi (Nat.not_lt_zero _)⟩ ?_
  rintro ⟨j, hj⟩
  dsimp only
  by_cases hlt : j < L.length
  · have hcj := hcl j hj
    have hcj2 := hcl (j + 1) hlt
    have htk := lanesB_take hlt
    have hx := hL _ (List.getElem_mem hlt)
    have qx : (lanesA L)[(j : Int).toNat]? = some (laneA L[j]) := lanes_get (by rw [Int.toNat_natCast, List.getElem?_eq_getElem hlt])
    have d1 := qint_c hx.c
    have d2 := qnums_c hx.a (by have := hx.al; omega)
    have d3 := qnums_c hx.b (by have := hx.bl; omega)
    have hfin : intB b ++ intB L.length ++ lanesB (L.take (j + 1)) = intB b ++ intB L.length ++ lanesB (L.take j) ++ laneB L[j] := by rw [htk, List.append_assoc (intB b ++ intB L.length)]
    rw [hfin] at hcj2
    clear htk
    generalize intB b ++ intB L.length ++ lanesB (L.take j) = z at *
    have hz : ∀ t, z ++ laneB t = z ++ (intB t.1 ++ numsB t.2.1 ++ numsB t.2.2) := fun _ => rfl
    generalize L[j] = x at *
    obtain ⟨xc, xa, xb⟩ := x
    dsimp only at d1 d2 d3 hz
    have hlb : (laneB (xc, xa, xb)).length = (intB xc).length + (numsB xa).length + (numsB xb).length := by unfold laneB; simp [Nat.add_assoc]
    simp only [List.length_append] at hcj2
    have hz3 : z ++ intB xc ++ numsB xa ++ numsB xb = z ++ laneB (xc, xa, xb) := by rw [hz]; simp
    repeat' (first|refine wS ?_|refine wB ?_|refine wK ?_|refine wR ?_|refine wE ?_|refine wT ?_|refine wU ?_|(refine rg 3 ?_;refine mV ?_;refine fV T ?_;refine lV T ?_;(first|refine qV T ?_|refine vV (by exact fs_lenNil T rfl rfl) ?_);refine vV (by first|exact fs_lssT rfl rfl (by omega)|exact fs_addS rfl rfl (by (try simp only [List.length_append]);omega)|exact fs_lss rfl rfl) ?_)|(((refine aw_draw2k (id := 5) 46 [[],[],[1],[],[1,2,3],[1,2,3,4],[1,2,3,4,5],[1,2,3,4,5,6],[0,1,2,3,4,5,6,7],[],[9],[],[9,10,11],[9,10,11,12],[9,10,11,12,13],[1,2,3,4,5,6,7,9,10,11,12,13,14],[0,1,2,3,4,5,6,7,8,9,10,11,12,13,14,15],[],[17],[],[17,18,19],[17,18,19,20],[17,18,19,20,21],[1,2,3,4,5,6,7,9,10,11,12,13,14,15,17,18,19,20,21,22],[0,1,2,3,4,5,6,7,8,9,10,11,12,13,14,15,16,17,18,19,20,21,22,23]] [20,21,22,23,24,25,26,27,28,29,30,31,32,33,34,35,36,37,38,39,40,41,42,43,44] [[],[20],[20],[20,21,22],[20],[20],[20],[20],[],[20,21,22,23,24,25,26,27,28],[20,21,22,23,24,25,26,27,28],[20,21,22,23,24,25,26,27,28,29,30],[20,21,22,23,24,25,26,27,28],[20,21,22,23,24,25,26,27,28],[20,21,22,23,24,25,26,27,28],[20,28],[],[20,21,22,23,24,25,26,27,28,29,30,31,32,33,34,35,36],[20,21,22,23,24,25,26,27,28,29,30,31,32,33,34,35,36],[20,21,22,23,24,25,26,27,28,29,30,31,32,33,34,35,36,37,38],[20,21,22,23,24,25,26,27,28,29,30,31,32,33,34,35,36],[20,21,22,23,24,25,26,27,28,29,30,31,32,33,34,35,36],[20,21,22,23,24,25,26,27,28,29,30,31,32,33,34,35,36],[20,28,36],[]] mixedP rfl (by decide +kernel) ?_));(all_goals first|(refine dV rfl (by exact fs_move rfl) ?_));(all_goals first|(refine dV rfl (by exact fs_fieldAddr T rfl rfl rfl) ?_));(all_goals first|(refine dV rfl (by exact fs_load T rfl rfl rfl rfl) ?_));(all_goals first|(refine dV rfl (by exact fs_move rfl) ?_));(all_goals first|(refine dV rfl (by first|exact fs_indexRowE T rfl rfl rfl rfl rfl (by omega) (lanes_len _) qx) ?_));(all_goals first|(refine dV rfl (by exact fs_fieldAddr T rfl rfl rfl) ?_));(all_goals first|(refine dV rfl (by exact fs_load T rfl rfl rfl rfl) ?_));(all_goals first|(refine dV rfl (by first|exact kC (d1)) ?_)|(refine dw_n rfl rfl rfl (by first|exact kC (d1)) rfl ?_));(all_goals first|(refine dV rfl (by first|exact fs_addS rfl rfl (by (try simp only [List.length_append]);omega)|exact fs_addr rfl rfl (by omega) (by omega)|exact fs_add rfl rfl) ?_));(all_goals first|(refine dV rfl (by exact fs_fieldAddr T rfl rfl rfl) ?_));(all_goals first|(refine dV rfl (by exact fs_load T rfl rfl rfl rfl) ?_));(all_goals first|(refine dV rfl (by exact fs_move rfl) ?_));(all_goals first|(refine dV rfl (by first|exact fs_indexRowE T rfl rfl rfl rfl rfl (by omega) (lanes_len _) qx) ?_));(all_goals first|(refine dV rfl (by exact fs_fieldAddr T rfl rfl rfl) ?_));(all_goals first|(refine dV rfl (by exact fs_load T rfl rfl rfl rfl) ?_));(all_goals first|(refine dV rfl (by first|exact kC (d2)|exact kC (d3)) ?_)|(refine dw_n rfl rfl rfl (by first|exact kC (d2)|exact kC (d3)) rfl ?_));(all_goals first|(refine dV rfl (by first|exact fs_addS rfl rfl (by (try simp only [List.length_append]);omega)|exact fs_addr rfl rfl (by omega) (by omega)|exact fs_add rfl rfl) ?_));(all_goals first|(refine dV rfl (by exact fs_fieldAddr T rfl rfl rfl) ?_));(all_goals first|(refine dV rfl (by exact fs_load T rfl rfl rfl rfl) ?_));(all_goals first|(refine dV rfl (by exact fs_move rfl) ?_));(all_goals first|(refine dV rfl (by first|exact fs_indexRowE T rfl rfl rfl rfl rfl (by omega) (lanes_len _) qx) ?_));(all_goals first|(refine dV rfl (by exact fs_fieldAddr T rfl rfl rfl) ?_));(all_goals first|(refine dV rfl (by exact fs_load T rfl rfl rfl rfl) ?_));(all_goals first|(refine dV rfl (by first|exact kC (d2)|exact kC (d3)) ?_)|(refine dw_n rfl rfl rfl (by first|exact kC (d2)|exact kC (d3)) rfl ?_));(all_goals first|(refine dV rfl (by first|exact fs_addS rfl rfl (by (try simp only [List.length_append]);omega)|exact fs_addr rfl rfl (by omega) (by omega)|exact fs_add rfl rfl) ?_));(all_goals (refine dw_fin rfl rfl (by (first|(dsimp only [ln1,ln2,List.append_nil,ln4,ln5,ln6,ln7,ln8,ln9,putAt,putd,allObjs,argEnv,un_v,un_ptr,un_ep,un_pr,un_sl,un_mp,un_row,un_agg,un_tup,un_clo,Nat.zero_add,lnb,Nat.reduceAdd,lnc,lnd];first|done|exact rfl)|exact rfl)) ?_;refine aV ?_)))|(refine rg 4 ?_;refine mV ?_;refine vV (by first|exact fs_addS rfl rfl (by (try simp only [List.length_append]);omega)|exact fs_addr rfl rfl (by omega) (by omega)|exact fs_add rfl rfl) ?_;refine aV ?_)|refine nZ ?_)
    all_goals exact ⟨⟨j + 1, hlt⟩, by dsimp only; omega, [0], rfl, ⟨rfl, congrArg (fun l => some (AV.s l)) (hz3.trans hfin.symm), rfl, trivial⟩, ⟨.inr rfl, trivial⟩, by decide, fun _ hi => absurd hi (Nat.not_lt_zero _)⟩
  · obtain rfl : j = L.length := by omega
    repeat' (first|refine wS ?_|refine wB ?_|refine wK ?_|refine wR ?_|refine wE ?_|refine wT ?_|refine wU ?_|(refine rg 3 ?_;refine mV ?_;refine fV T ?_;refine lV T ?_;(first|refine qV T ?_|refine vV (by exact fs_lenNil T rfl rfl) ?_);refine vV (by first|exact fs_lssF rfl rfl (by omega)|exact fs_lss rfl rfl) ?_)|(refine rg 6 ?_;refine mV ?_;refine aV ?_)|refine nZ ?_)
    all_goals exact ret_plain (.inl rfl) rfl (by rw [List.take_length]; rfl)
end Go.Proofs.YtjpcpbbkelgkeaaGreatDoor
namespace Go.Proofs.YtjpcpbbkelgkeaaGreatDoor
open Go Go.Ab Go.Ln Go.Wr
attribute [local irreducible] VC AW FStep ACall PCall AStep
set_option maxHeartbeats 4000000
theorem qrnumsG_c (s : St) (hl : (s.getD []).length ≤ 100000000) : ACall Tryz.prog 29 [.ptr 0 0] (rdH s) (.rowE (ints (numsS s).1) 1) (rdH (numsS s).2 ++ [.gone]) :=
  acall_frzK rfl (by simp) (idfL_flat (ints_idf _)) (qrnums_c s hl)
theorem qreadL_p (l : List UInt8) (hl : l.length ≤ 1000000) : PCall Tryz.prog 8 [.s l] [] (fun r o => o = [] ∧ r = resC (readC l)) := by
  have hl0 : ((some l : St).getD []).length = l.length := rfl
  have c0 := qopen_c l
  have c1 := qrint_c (some l) (by omega)
  have hb1 : ((intS (some l)).2.getD []).length ≤ ((some l : St).getD []).length := numS_getD (some l) 59 (-9223372036854775808)
  unfold readC
  generalize (intS (some l)).1 = b at *
  generalize (intS (some l)).2 = s1 at *
  have c2 := qrnum_c s1 (by omega)
  have hn0 := numS_ge s1 59
  have hn1 := (numS_I64 s1 59 0).2
  have hle := numS_getD s1 59 0
  generalize (numS s1 59 0).1 = n at *
  generalize (numS s1 59 0).2 = s2 at *
  refine pcall_view (Φ := fun r o => (∃ L, endC b n (readN n.toNat s2) = some (b, L) ∧ r = .tup [.agg [.sl 0 0 L.length 3, .i b], .b true] ∧ o = [.arr (lanesA L) 3]) ∨ (endC b n (readN n.toNat s2) = none ∧ r = .tup [.agg [.nils, .i 0], .b false] ∧ o = [])) ?_ ?_
  rotate_left
  · rintro r o (⟨L, h1, rfl, rfl⟩ | ⟨h1, rfl, rfl⟩)
    · refine ⟨.tup [.agg (certA L b), .b true], ?_, by rw [h1]; rfl⟩
      have e : AV.rowE (lanesA L) 3 = .row (lanesA L).flatten L.length 3 := by simp [AV.rowE]
      dsimp only [certA]
      rw [e]
      refine .tup (.cons (.agg (.cons (.sl (es := lanesA L) rfl (by simp) ?_) (.cons (.v _) .nil))) (.cons (.v _) .nil))
      rw [List.drop_zero, List.take_of_length_le (by simp)]
      exact viewL_self _ (lanes_pln L)
    · exact ⟨_, .tup (.cons (.agg (.cons (.nils 3) (.cons (.v _) .nil))) (.cons (.v _) .nil)), by rw [h1]; rfl⟩
  refine pcall T Tryz.func8 rfl rfl rfl rfl ?_
  repeat' (first|refine wS ?_|refine wB ?_|refine wK ?_|refine wR ?_|refine wE ?_|refine wT ?_|refine wU ?_|(refine rg 0 ?_;refine vc_n (by exact fs_alloc T rfl) rfl ?_;refine aV ?_)|(refine rg 1 ?_;refine mV ?_;refine vc_callw [] rfl rfl c0 rfl rfl (by decide) trivial (by simp) rfl ?_;refine aV ?_)|(refine rg 2 ?_;refine mV ?_;refine vc_callw [1] rfl rfl c1 rfl rfl (by decide) ⟨.inr rfl,trivial⟩ (by simp) rfl ?_;refine vV (by exact fs_build T rfl rfl rfl rfl) ?_;refine vc_n (by exact fs_alloc T rfl) rfl ?_;refine vc_store T rfl rfl rfl rfl rfl rfl (by decide) rfl ?_)|(refine rg 3 ?_;refine mV ?_;refine vc_callw [1] rfl rfl c2 rfl rfl (by decide) ⟨.inr rfl,trivial⟩ (by simp) rfl ?_;refine aV ?_)|(refine rg 4 ?_;refine aV ?_)|refine nZ ?_)
  refine aw_keep [(2, .ptr 0 0), (4, .ptr 1 0), (5, .ptr 2 0), (6, .i n), (7, .i 0)] [.cells [.nils, .i 0], .cells [.s (s2.getD []), .b s2.isNone], .cells [.nils, .i b]] ⟨[0, 1, 2], rfl, (by (repeat (first | exact trivial | refine ⟨rfl, ?_⟩))), ⟨.inr rfl, .inr rfl, .inr rfl, trivial⟩, by decide, fun _ hi => absurd hi (Nat.not_lt_zero _)⟩ ?_
  refine aw_ownC 2 0 3 rfl rfl (by decide) ?_
  refine aw_loop (X := {p : Nat × St × List LaneT // readN n.toNat s2 = (p.2.2 ++ (readN p.1 p.2.1).1, (readN p.1 p.2.1).2) ∧ (p.1 : Int) + p.2.2.length = n ∧ p.2.2.length + (p.2.1.getD []).length ≤ l.length}) (fun p => [(2, .ptr 0 0), (4, .ptr 1 0), (5, .ptr 2 0), (6, .i n), (7, .i (p.1.2.2.length : Int))]) (fun p => [.cells [.nils, .i 0], .cells [.s (p.1.2.1.getD []), .b p.1.2.1.isNone], .cells [.sl 3 0 p.1.2.2.length 3, .i b], .arr (lanesA p.1.2.2) 3]) (fun p => p.1.1) ⟨(n.toNat, s2, []), rfl, by dsimp only; simp; omega, by dsimp only; simp; omega⟩ ⟨[0, 1, 2, 3], rfl, ⟨rfl, rfl, rfl, rfl, rfl, trivial⟩, ⟨.inr rfl, .inr rfl, .inr rfl, .inr rfl, trivial⟩, by decide, fun _ hi => absurd hi (Nat.not_lt_zero _)⟩ ?_
  rintro ⟨⟨k, s, L⟩, h1, h2, h3⟩
  dsimp only at h1 h2 h3 ⊢
  rw [h1]
  have cL := qleft_c s
  have cD := qdone_c s
  by_cases hk : 0 < k
  case neg =>
    have hk0 : k = 0 := by omega
    have hrec : readN k s = ([], s) := by rw [hk0]; rfl
    rw [hrec]
    dsimp only
    rw [List.append_nil]
    repeat' (first|refine wS ?_|refine wB ?_|refine wK ?_|refine wR ?_|refine wE ?_|refine wT ?_|refine wU ?_|(refine rg 5 ?_;(all_goals (refine mV ?_;refine mV ?_;refine vV (by first|exact fs_lssF rfl rfl (by omega)|exact fs_lss rfl rfl) ?_;refine mV ?_));(all_goals first|(refine gK ?_));(all_goals first|(refine gT ?_;(refine mV ?_);refine gT ?_;(refine vc_callw [1] rfl rfl cL rfl rfl (by decide) ⟨.inr rfl,trivial⟩ (by simp) rfl ?_);refine gT ?_;(refine vV (by exact fs_gtr rfl rfl) ?_))|(iterate 3 first|refine gF ?_|refine gU ?_));(all_goals (first|refine pV ?_|refine vV (by exact fs_pick rfl rfl rfl) ?_)))|refine nZ ?_)
    refine aw_keep [(2, .ptr 0 0), (4, .ptr 1 0), (5, .ptr 2 0), (6, .i n), (7, .i L.length)] [.cells [.nils, .i 0], .cells [.s (s.getD []), .b s.isNone], .cells [.sl 3 0 L.length 3, .i b], .arr (lanesA L) 3] ⟨[0, 1, 2, 3], rfl, (by (repeat (first | exact trivial | refine ⟨rfl, ?_⟩))), ⟨.inr rfl, .inr rfl, .inr rfl, .inr (sub_arr rfl rfl (lanes_idfs _)), trivial⟩, by decide, fun _ hi => absurd hi (Nat.not_lt_zero _)⟩ ?_
    have hll : (lanesA L).length = L.length := by simp
    by_cases hs : s = some []
    · rw [decide_eq_true hs] at cD
      by_cases hL : (L.length : Int) = n
      · have hok : endC b n (L, s) = some (b, L) := if_pos ⟨hs, hL⟩
        repeat' (first|refine wS ?_|refine wB ?_|refine wK ?_|refine wR ?_|refine wE ?_|refine wT ?_|refine wU ?_|(refine rg 11 ?_;(all_goals (refine mV ?_;refine vc_callw [1] rfl rfl cD rfl rfl (by decide) ⟨.inr rfl,trivial⟩ (by simp) rfl ?_;refine vV (by exact fs_not rfl) ?_;refine mV ?_));(all_goals first|(refine gK ?_));(all_goals first|(refine gT ?_;(refine fV T ?_);refine gT ?_;(refine lV T ?_);refine gT ?_;(first|refine qV T ?_|refine vV (by exact fs_lenNil T rfl rfl) ?_);refine gT ?_;(refine mV ?_);refine gT ?_;(refine vV (by first|exact fs_neqF rfl rfl hL|exact fs_neq rfl rfl) ?_))|(iterate 5 first|refine gF ?_|refine gU ?_));(all_goals (first|refine pV ?_|refine vV (by exact fs_pick rfl rfl rfl) ?_)))|(refine rg 13 ?_;refine lV T ?_;refine vc_store T rfl rfl rfl rfl rfl rfl (by decide) rfl ?_;refine aV ?_)|refine nZ ?_)
        all_goals exact ⟨_, _, .inl ⟨L, hok, rfl, rfl⟩, .inl rfl, [3], _, rfl, rfl, rfl, ⟨.inr (sub_arr rfl rfl (lanes_idfs _)), trivial⟩, by decide, fun _ hi => absurd hi (Nat.not_lt_zero _)⟩
      · have hok : endC b n (L, s) = none := if_neg fun h => hL h.2
        repeat' (first|refine wS ?_|refine wB ?_|refine wK ?_|refine wR ?_|refine wE ?_|refine wT ?_|refine wU ?_|(refine rg 11 ?_;(all_goals (refine mV ?_;refine vc_callw [1] rfl rfl cD rfl rfl (by decide) ⟨.inr rfl,trivial⟩ (by simp) rfl ?_;refine vV (by exact fs_not rfl) ?_;refine mV ?_));(all_goals first|(refine gK ?_));(all_goals first|(refine gT ?_;(refine fV T ?_);refine gT ?_;(refine lV T ?_);refine gT ?_;(first|refine qV T ?_|refine vV (by exact fs_lenNil T rfl rfl) ?_);refine gT ?_;(refine mV ?_);refine gT ?_;(refine vV (by first|exact fs_neqT rfl rfl hL|exact fs_neq rfl rfl) ?_))|(iterate 5 first|refine gF ?_|refine gU ?_));(all_goals (first|refine pV ?_|refine vV (by exact fs_pick rfl rfl rfl) ?_)))|(refine rg 12 ?_;refine vV (by exact fs_build T rfl rfl rfl rfl) ?_;refine vc_store T rfl rfl rfl rfl rfl rfl (by decide) rfl ?_;refine aV ?_)|refine nZ ?_)
        all_goals exact ⟨_, _, .inr ⟨hok, rfl, rfl⟩, .inl rfl, [], _, rfl, rfl, rfl, trivial, List.nodup_nil, fun _ hi => absurd hi (Nat.not_lt_zero _)⟩
    · rw [decide_eq_false hs] at cD
      have hok : endC b n (L, s) = none := if_neg fun h => hs h.1
      repeat' (first|refine wS ?_|refine wB ?_|refine wK ?_|refine wR ?_|refine wE ?_|refine wT ?_|refine wU ?_|(refine rg 11 ?_;(all_goals (refine mV ?_;refine vc_callw [1] rfl rfl cD rfl rfl (by decide) ⟨.inr rfl,trivial⟩ (by simp) rfl ?_;refine vV (by exact fs_not rfl) ?_;refine mV ?_));(all_goals first|(refine gK ?_));(all_goals first|(refine gT ?_;(refine fV T ?_);refine gT ?_;(refine lV T ?_);refine gT ?_;(first|refine qV T ?_|refine vV (by exact fs_lenNil T rfl rfl) ?_);refine gT ?_;(refine mV ?_);refine gT ?_;(refine vV (by exact fs_neq rfl rfl) ?_))|(iterate 5 first|refine gF ?_|refine gU ?_));(all_goals (first|refine pV ?_|refine vV (by exact fs_pick rfl rfl rfl) ?_)))|(refine rg 12 ?_;refine vV (by exact fs_build T rfl rfl rfl rfl) ?_;refine vc_store T rfl rfl rfl rfl rfl rfl (by decide) rfl ?_;refine aV ?_)|refine nZ ?_)
      all_goals exact ⟨_, _, .inr ⟨hok, rfl, rfl⟩, .inl rfl, [], _, rfl, rfl, rfl, trivial, List.nodup_nil, fun _ hi => absurd hi (Nat.not_lt_zero _)⟩
  by_cases hz : 0 < (s.getD []).length
  case neg =>
    have hrec : readN k s = ([], s) := by
      obtain ⟨k, rfl⟩ : ∃ k', k = k' + 1 := ⟨k - 1, by omega⟩
      unfold readN; rw [if_pos (by omega)]
    rw [hrec]
    dsimp only
    rw [List.append_nil]
    repeat' (first|refine wS ?_|refine wB ?_|refine wK ?_|refine wR ?_|refine wE ?_|refine wT ?_|refine wU ?_|(refine rg 5 ?_;(all_goals (refine mV ?_;refine mV ?_;refine vV (by first|exact fs_lssT rfl rfl (by omega)|exact fs_lss rfl rfl) ?_;refine mV ?_));(all_goals first|(refine gK ?_));(all_goals first|(refine gT ?_;(refine mV ?_);refine gT ?_;(refine vc_callw [1] rfl rfl cL rfl rfl (by decide) ⟨.inr rfl,trivial⟩ (by simp) rfl ?_);refine gT ?_;(refine vV (by first|exact fs_gtrF rfl rfl (by omega)|exact fs_gtr rfl rfl) ?_))|(iterate 3 first|refine gF ?_|refine gU ?_));(all_goals (first|refine pV ?_|refine vV (by exact fs_pick rfl rfl rfl) ?_)))|refine nZ ?_)
    refine aw_keep [(2, .ptr 0 0), (4, .ptr 1 0), (5, .ptr 2 0), (6, .i n), (7, .i L.length)] [.cells [.nils, .i 0], .cells [.s (s.getD []), .b s.isNone], .cells [.sl 3 0 L.length 3, .i b], .arr (lanesA L) 3] ⟨[0, 1, 2, 3], rfl, (by (repeat (first | exact trivial | refine ⟨rfl, ?_⟩))), ⟨.inr rfl, .inr rfl, .inr rfl, .inr (sub_arr rfl rfl (lanes_idfs _)), trivial⟩, by decide, fun _ hi => absurd hi (Nat.not_lt_zero _)⟩ ?_
    have hll : (lanesA L).length = L.length := by simp
    by_cases hs : s = some []
    · rw [decide_eq_true hs] at cD
      by_cases hL : (L.length : Int) = n
      · have hok : endC b n (L, s) = some (b, L) := if_pos ⟨hs, hL⟩
        repeat' (first|refine wS ?_|refine wB ?_|refine wK ?_|refine wR ?_|refine wE ?_|refine wT ?_|refine wU ?_|(refine rg 11 ?_;(all_goals (refine mV ?_;refine vc_callw [1] rfl rfl cD rfl rfl (by decide) ⟨.inr rfl,trivial⟩ (by simp) rfl ?_;refine vV (by exact fs_not rfl) ?_;refine mV ?_));(all_goals first|(refine gK ?_));(all_goals first|(refine gT ?_;(refine fV T ?_);refine gT ?_;(refine lV T ?_);refine gT ?_;(first|refine qV T ?_|refine vV (by exact fs_lenNil T rfl rfl) ?_);refine gT ?_;(refine mV ?_);refine gT ?_;(refine vV (by first|exact fs_neqF rfl rfl hL|exact fs_neq rfl rfl) ?_))|(iterate 5 first|refine gF ?_|refine gU ?_));(all_goals (first|refine pV ?_|refine vV (by exact fs_pick rfl rfl rfl) ?_)))|(refine rg 13 ?_;refine lV T ?_;refine vc_store T rfl rfl rfl rfl rfl rfl (by decide) rfl ?_;refine aV ?_)|refine nZ ?_)
        all_goals exact ⟨_, _, .inl ⟨L, hok, rfl, rfl⟩, .inl rfl, [3], _, rfl, rfl, rfl, ⟨.inr (sub_arr rfl rfl (lanes_idfs _)), trivial⟩, by decide, fun _ hi => absurd hi (Nat.not_lt_zero _)⟩
      · have hok : endC b n (L, s) = none := if_neg fun h => hL h.2
        repeat' (first|refine wS ?_|refine wB ?_|refine wK ?_|refine wR ?_|refine wE ?_|refine wT ?_|refine wU ?_|(refine rg 11 ?_;(all_goals (refine mV ?_;refine vc_callw [1] rfl rfl cD rfl rfl (by decide) ⟨.inr rfl,trivial⟩ (by simp) rfl ?_;refine vV (by exact fs_not rfl) ?_;refine mV ?_));(all_goals first|(refine gK ?_));(all_goals first|(refine gT ?_;(refine fV T ?_);refine gT ?_;(refine lV T ?_);refine gT ?_;(first|refine qV T ?_|refine vV (by exact fs_lenNil T rfl rfl) ?_);refine gT ?_;(refine mV ?_);refine gT ?_;(refine vV (by first|exact fs_neqT rfl rfl hL|exact fs_neq rfl rfl) ?_))|(iterate 5 first|refine gF ?_|refine gU ?_));(all_goals (first|refine pV ?_|refine vV (by exact fs_pick rfl rfl rfl) ?_)))|(refine rg 12 ?_;refine vV (by exact fs_build T rfl rfl rfl rfl) ?_;refine vc_store T rfl rfl rfl rfl rfl rfl (by decide) rfl ?_;refine aV ?_)|refine nZ ?_)
        all_goals exact ⟨_, _, .inr ⟨hok, rfl, rfl⟩, .inl rfl, [], _, rfl, rfl, rfl, trivial, List.nodup_nil, fun _ hi => absurd hi (Nat.not_lt_zero _)⟩
    · rw [decide_eq_false hs] at cD
      have hok : endC b n (L, s) = none := if_neg fun h => hs h.1
      repeat' (first|refine wS ?_|refine wB ?_|refine wK ?_|refine wR ?_|refine wE ?_|refine wT ?_|refine wU ?_|(refine rg 11 ?_;(all_goals (refine mV ?_;refine vc_callw [1] rfl rfl cD rfl rfl (by decide) ⟨.inr rfl,trivial⟩ (by simp) rfl ?_;refine vV (by exact fs_not rfl) ?_;refine mV ?_));(all_goals first|(refine gK ?_));(all_goals first|(refine gT ?_;(refine fV T ?_);refine gT ?_;(refine lV T ?_);refine gT ?_;(first|refine qV T ?_|refine vV (by exact fs_lenNil T rfl rfl) ?_);refine gT ?_;(refine mV ?_);refine gT ?_;(refine vV (by exact fs_neq rfl rfl) ?_))|(iterate 5 first|refine gF ?_|refine gU ?_));(all_goals (first|refine pV ?_|refine vV (by exact fs_pick rfl rfl rfl) ?_)))|(refine rg 12 ?_;refine vV (by exact fs_build T rfl rfl rfl rfl) ?_;refine vc_store T rfl rfl rfl rfl rfl rfl (by decide) rfl ?_;refine aV ?_)|refine nZ ?_)
      all_goals exact ⟨_, _, .inr ⟨hok, rfl, rfl⟩, .inl rfl, [], _, rfl, rfl, rfl, trivial, List.nodup_nil, fun _ hi => absurd hi (Nat.not_lt_zero _)⟩
  obtain ⟨k, rfl⟩ : ∃ k', k = k' + 1 := ⟨k - 1, by omega⟩
  have d1 := qrint_c s (by omega)
  have hil : ((intS s).2.getD []).length + 1 ≤ (s.getD []).length := by
    cases s with
    | none => simp at hz
    | some r =>
      rcases intS_len r with h | ⟨r', h, hr⟩
      · rw [h]; simp at hz ⊢; omega
      · rw [h]; simp; omega
  have d2 := qrnumsG_c (intS s).2 (by omega)
  have hnl := numsS_len (intS s).2
  have d3 := qrnumsG_c (numsS (intS s).2).2 (by omega)
  have hnl3 := numsS_len (numsS (intS s).2).2
  have hrec : readN (k + 1) s = (((intS s).1, (numsS (intS s).2).1, (numsS (numsS (intS s).2).2).1) :: (readN k (numsS (numsS (intS s).2).2).2).1, (readN k (numsS (numsS (intS s).2).2).2).2) := if_neg (by omega)
  rw [hrec] at h1 ⊢
  generalize (intS s).1 = o at *
  generalize (intS s).2 = t1 at *
  generalize (numsS t1).1 = qa at *
  generalize (numsS t1).2 = t2 at *
  generalize (numsS t2).1 = qb at *
  generalize (numsS t2).2 = t3 at *
  have hll : (lanesA L).length = L.length := by simp
  repeat' (first|refine wS ?_|refine wB ?_|refine wK ?_|refine wR ?_|refine wE ?_|refine wT ?_|refine wU ?_|(refine rg 5 ?_;(all_goals (refine mV ?_;refine mV ?_;refine vV (by first|exact fs_lssT rfl rfl (by omega)|exact fs_lss rfl rfl) ?_;refine mV ?_));(all_goals first|(refine gK ?_));(all_goals first|(refine gT ?_;(refine mV ?_);refine gT ?_;(refine vc_callw [1] rfl rfl cL rfl rfl (by decide) ⟨.inr rfl,trivial⟩ (by simp) rfl ?_);refine gT ?_;(refine vV (by first|exact fs_gtrT rfl rfl (by omega)|exact fs_gtr rfl rfl) ?_))|(iterate 3 first|refine gF ?_|refine gU ?_));(all_goals (first|refine pV ?_|refine vV (by exact fs_pick rfl rfl rfl) ?_)))|refine nZ ?_)
  refine aw_keep [(2, .ptr 0 0), (4, .ptr 1 0), (5, .ptr 2 0), (6, .i n), (7, .i L.length)] [.cells [.nils, .i 0], .cells [.s (s.getD []), .b s.isNone], .cells [.sl 3 0 L.length 3, .i b], .arr (lanesA L) 3] ⟨[0, 1, 2, 3], rfl, (by (repeat (first | exact trivial | refine ⟨rfl, ?_⟩))), ⟨.inr rfl, .inr rfl, .inr rfl, .inr (sub_arr rfl rfl (lanes_idfs _)), trivial⟩, by decide, fun _ hi => absurd hi (Nat.not_lt_zero _)⟩ ?_
  repeat' (first|refine wS ?_|refine wB ?_|refine wK ?_|refine wR ?_|refine wE ?_|refine wT ?_|refine wU ?_|(refine rg 7 ?_;refine mV ?_;refine vc_callw [1] rfl rfl d1 rfl rfl (by decide) ⟨.inr rfl,trivial⟩ (by simp) rfl ?_;refine vV (by exact fs_build T rfl rfl rfl rfl) ?_;refine vc_n (by exact fs_alloc T rfl) rfl ?_;refine vc_store T rfl rfl rfl rfl rfl rfl (by decide) rfl ?_)|(refine rg 8 ?_;(all_goals (refine mV ?_));(all_goals first|(refine vc_callw [1] rfl rfl d2 rfl rfl (by decide) ⟨.inr rfl,trivial⟩ (by simp) rfl ?_)|(refine vc_callw [1] rfl rfl d3 rfl rfl (by decide) ⟨.inr rfl,trivial⟩ (by simp) rfl ?_));(all_goals (refine fV T ?_;refine vc_store T rfl rfl rfl rfl rfl rfl (by decide) rfl ?_)))|(refine rg 9 ?_;(all_goals (refine mV ?_));(all_goals first|(refine vc_callw [1] rfl rfl d2 rfl rfl (by decide) ⟨.inr rfl,trivial⟩ (by simp) rfl ?_)|(refine vc_callw [1] rfl rfl d3 rfl rfl (by decide) ⟨.inr rfl,trivial⟩ (by simp) rfl ?_));(all_goals (refine fV T ?_;refine vc_store T rfl rfl rfl rfl rfl rfl (by decide) rfl ?_)))|(refine rg 10 ?_;refine fV T ?_;refine lV T ?_;refine lV T ?_;refine vc_n (by exact fs_buildSlice T rfl rfl (by decide) (by decide) rfl rfl rfl) rfl ?_;refine vc_append T rfl rfl rfl rfl rfl rfl (by simp) (Elems.whole rfl rfl) rfl (by simp;omega) (by simp;omega) rfl ?_;refine fV T ?_;refine vc_store T rfl rfl rfl rfl rfl rfl (by decide) rfl ?_)|(refine rg 6 ?_;refine mV ?_;refine vV (by first|exact fs_addr rfl rfl (by omega) (by omega)|exact fs_add rfl rfl) ?_;refine aV ?_)|refine nZ ?_)
  have hln : (L ++ [(o, qa, qb)]).length = L.length + 1 := by simp
  all_goals exact ⟨⟨(k, t3, L ++ [(o, qa, qb)]), by dsimp only; simp, by dsimp only; rw [hln]; omega, by dsimp only; rw [hln]; omega⟩, Nat.lt_succ_self k, [0, 1, 2, 8], rfl, ⟨rfl, rfl, rfl, rfl, (congrArg (fun n : Nat => some (AV.i (n : Int))) hln).symm, trivial⟩, ⟨.inr rfl, .inr rfl, .inr (congrArg (fun n : Nat => some (AB.cells [.sl 8 0 n 3, .i b])) hln).symm, .inr (sub_arr rfl (lanes_next L (o, qa, qb)) (lanes_idfs _)), trivial⟩, by decide, fun _ hi => absurd hi (Nat.not_lt_zero _)⟩
end Go.Proofs.YtjpcpbbkelgkeaaGreatDoor
