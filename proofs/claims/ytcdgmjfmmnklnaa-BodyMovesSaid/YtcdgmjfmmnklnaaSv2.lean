/-
  Layer 11: the small functions of package survey.
-/
import Derived.Test.YtcdgmjfmmnklnaaSv1
import Derived.Test.YtcdgmjfmmnklnaaBd9
import Derived.Test.YtcdgmjfmmnklnaaAb56
import Derived.Test.YtcdgmjfmmnklnaaBdC
import Derived.Shelf.Small.Strs
import Derived.Shelf.Small.Wraps
namespace Go.Ab
open Go
set_option linter.unusedVariables false
set_option linter.unusedSimpArgs false
mutual
def AV.pln : AV → Bool
  | .v _ => true
  | .any => true
  | .row .. => true
  | .mrow .. => true
  | .pr .. => true
  | .agg cs => AV.plnL cs
  | _ => false
def AV.plnL : List AV → Bool
  | [] => true
  | x :: l => AV.pln x && AV.plnL l
end
mutual
theorem view_self {h : Hp} : ∀ (x : AV), x.pln = true → View h x x
  | .v x, _ => .v x
  | .any, _ => .any
  | .row cs l s, _ => .row cs l s
  | .mrow ks vs, _ => .mrow ks vs
  | .pr cs o, _ => .pr cs o
  | .agg cs, e => .agg (viewL_self cs (by simpa [AV.pln] using e))
  | .ptr .., e | .ep .., e | .sl .., e | .mp .., e | .tup .., e | .clo .., e | .cond .., e | .ifc .., e => by simp [AV.pln] at e
theorem viewL_self {h : Hp} : ∀ (xs : List AV), AV.plnL xs = true → ViewL h xs xs
  | [], _ => .nil
  | x :: l, e => by
    simp only [AV.plnL, Bool.and_eq_true] at e
    exact .cons (view_self x e.1) (viewL_self l e.2)
end
theorem plnL_append : ∀ (a b : List AV), AV.plnL (a ++ b) = (AV.plnL a && AV.plnL b)
  | [], b => by simp [AV.plnL]
  | x :: a, b => by simp [AV.plnL, plnL_append a b, Bool.and_assoc]
theorem pln_flat {α : Type} {g : α → List AV} (hg : ∀ a, AV.plnL (g a) = true) : ∀ l : List α, AV.plnL (l.map g).flatten = true
  | [] => rfl
  | a :: l => by rw [List.map_cons, List.flatten_cons, plnL_append, hg a, pln_flat hg l]; rfl
theorem view_rows {h : Hp} {k n sz : Nat} {es : List (List AV)} (hk : h[k]? = some (.arr es sz)) (hn : n = es.length) (hp : AV.plnL es.flatten = true) : View h (.sl k 0 n sz) (.rowE es sz) := by
  subst hn
  refine View.sl hk (by omega) ?_
  rw [List.drop_zero, List.take_length]
  exact viewL_self _ hp
def strFields (P : Program) : Nat → List Field → Bool
  | _, [] => true
  | i, f :: r => decide (f.name ≠ "_") && Nat.beq f.offset i && (match P.underlying f.type with | some .string => P.plainKey f.type | _ => false) && strFields P (i + 1) r
def StrStruct (P : Program) (t : TypeId) (n : Nat) : Prop := (match P.underlying t with
  | some (.struct fs) => Nat.beq fs.size n && strFields P 0 fs.toList && !P.stoodInHeld t && !P.eqGuardType P.depth t
  | _ => false) = true
theorem bytes_toList (l : List UInt8) : (ByteArray.mk l.toArray).toList = l := by simp
section
variable {P : Program} {env : Env} {h : Hp}
variable {d : Option Nat} {ty : TypeId} {pos : String} {af : Array Edge} {g : Option (Nat × Bool)}
theorem eq_fieldsS (w : World) (dd : Nat) : ∀ (fs : List Field) (i : Nat) (xs ys : Array Value) (us bs : List (List UInt8)), strFields P i fs = true → fs.length = us.length → us.length = bs.length → (∀ (j : Nat) a, us[j]? = some a → xs[i + j]? = some (.string ⟨a.toArray⟩)) → (∀ (j : Nat) b, bs[j]? = some b → ys[i + j]? = some (.string ⟨b.toArray⟩)) →
    (Op.eqFields (dd + 1) xs ys fs).run P w = .ok (decide (us = bs)) w
  | [], i, xs, ys, us, bs, _, h1, h2, _, _ => by
    have : us = [] := List.eq_nil_of_length_eq_zero (by simpa using h1.symm)
    subst this
    have : bs = [] := List.eq_nil_of_length_eq_zero (by simpa using h2.symm)
    subst this
    simp [Op.eqFields]
  | f :: r, i, xs, ys, a :: us, b :: bs, hf, h1, h2, hx, hy => by
    simp only [strFields, Bool.and_eq_true, decide_eq_true_eq] at hf
    obtain ⟨⟨⟨h3, h4⟩, h5⟩, h6⟩ := hf
    have h4 := Nat.eq_of_beq_eq_true h4
    split at h5
    case h_2 => cases h5
    rename_i hu
    have x0 := hx 0 a rfl
    have y0 := hy 0 b rfl
    rw [Nat.add_zero, ← h4] at x0 y0
    have ih := eq_fieldsS w dd r (i + 1) xs ys us bs h6 (by simpa using h1) (by simpa using h2) (fun j u hj => by rw [Nat.add_assoc, Nat.add_comm 1 j]; exact hx (j + 1) u (by simpa using hj)) (fun j u hj => by rw [Nat.add_assoc, Nat.add_comm 1 j]; exact hy (j + 1) u (by simpa using hj))
    simp only [Op.eqFields, h3, ne_eq, not_false_eq_true, if_true, Sem.run_bind, run_part_plain w h5 x0, run_part_plain w h5 y0, Result.andThen_ok, run_equalIn_string w dd f.type _ _ hu, bytes_toList]
    by_cases hab : a = b
    · subst hab
      simp [ih]
    · have : (a == b) = false := by simpa using hab
      simp [this, hab]
  | f :: r, _, _, _, [], _, _, h1, _, _, _ => by simp at h1
  | f :: r, _, _, _, a :: us, [], _, _, h2, _, _ => by simp at h2
theorem vs_ofS {S : Nat → Prop} {w : World} {ρ : Pl} : ∀ {us : List (List UInt8)} {ys : List Value}, RL S w (us.map fun a => AV.s a) ρ ys → ys = us.map fun a => .string ⟨a.toArray⟩
  | [], _, h => by simpa [RL] using h
  | a :: us, _, h => by
    simp only [List.map_cons, RL] at h
    obtain ⟨y, zs, rfl, h1, h2⟩ := h
    rw [R_v h1, vs_ofS h2]; rfl
theorem fs_eqlStrs {t t2 : TypeId} {n : Nat} {x y : Operand} {us bs : List (List UInt8)} (ht : StrStruct P t n) (hx : evu env x = some (.agg (us.map fun a => AV.s a))) (hy : evu env y = some (.agg (bs.map fun a => AV.s a))) (h1 : Nat.beq us.length n = true) (h2 : Nat.beq bs.length n = true) :
    FStep P ⟨d, .binOp .eql t x y t2, ty, pos, af, g⟩ env h 0 (fun _ => .b (decide (us = bs))) (fun _ => []) := by
  refine fs_val fun ρ S a w p => ⟨.bool (decide (us = bs)), ?_, R_v_mk _⟩
  have h3 := p.evu hx
  have h4 := p.evu hy
  simp only [R] at h3 h4
  obtain ⟨xs, e1, h3⟩ := h3
  obtain ⟨ys, e2, h4⟩ := h4
  have h3 := vs_ofS h3
  have h4 := vs_ofS h4
  have h1 := Nat.eq_of_beq_eq_true h1
  have h2 := Nat.eq_of_beq_eq_true h2
  unfold StrStruct at ht
  split at ht
  case h_2 => cases ht
  rename_i fs hu
  simp only [Bool.and_eq_true, Bool.not_eq_true'] at ht
  obtain ⟨⟨⟨h5, h6⟩, h7⟩, h8⟩ := ht
  have h5 := Nat.eq_of_beq_eq_true h5
  have hfo : P.fieldsOf t = fs := by simp [Program.fieldsOf, hu]
  have hx2 : ∀ (j : Nat) a, us[j]? = some a → xs[0 + j]? = some (.string ⟨a.toArray⟩) := fun j a ha => by rw [Nat.zero_add, ← Array.getElem?_toList, h3]; simp [ha]
  have hy2 : ∀ (j : Nat) a, bs[j]? = some a → ys[0 + j]? = some (.string ⟨a.toArray⟩) := fun j a ha => by rw [Nat.zero_add, ← Array.getElem?_toList, h4]; simp [ha]
  have key := eq_fieldsS w 9998 fs.toList 0 xs ys us bs h6 (by simp; omega) (by omega) hx2 hy2
  have he : (Op.equalIn 10000 t (.agg xs) (.agg ys)).run P w = .ok (decide (us = bs)) w := by
    rw [run_equalIn_struct w 9999 t xs ys (by rw [hfo]; exact hu) h7, hfo]; exact key
  simp [execOp, e1, e2, run_eqGuard_agg w .eql t x y xs ys h8, run_eql_struct, he]
theorem fs_eqlSS {t t2 : TypeId} {x y : Operand} {a b a' b' : List UInt8} (ht : StrStruct P t 2) (hx : evu env x = some (.agg [AV.s a, AV.s b])) (hy : evu env y = some (.agg [AV.s a', AV.s b'])) :
    FStep P ⟨d, .binOp .eql t x y t2, ty, pos, af, g⟩ env h 0 (fun _ => .b (decide ((a, b) = (a', b')))) (fun _ => []) := by
  have e : decide ((a, b) = (a', b')) = decide ([a, b] = [a', b']) := by simp
  rw [e]
  exact fs_eqlStrs (us := [a, b]) (bs := [a', b']) ht hx hy rfl rfl
end
end Go.Ab
namespace Go.Proofs.Ytcdgmjfmmnklnaa
open Go Go.Ab Go.Fl Go.Shelf Go.Proofs Go.MapKept
set_option linter.unusedVariables false
set_option linter.unusedSimpArgs false
attribute [local irreducible] VC AW FStep ACall PCall StrStruct StrT
set_option maxHeartbeats 4000000
shelf_lay Lays.n137 Nm 137 at Try as laysIdx
theorem acall_kept {P : Program} {f : FuncId} {xs : List AV} {res : AV} (hfn : ∃ fn, P.funcs[f]? = some fn ∧ (fn.name == "runtime.NumGoroutine") = false ∧ fn.body.isNone = false)
    (hs : ∀ (ρ : Pl) S w vs, GlobOk S w → RL S w xs ρ vs → Calls P f vs.toArray w fun e w' => ∃ y, e = .returned y ∧ RowKit.Below w.heap.size w w' ∧ ∀ S' ρ', R S' w' res ρ' y) : ACall P f xs [] res [] := by
  with_unfolding_all exact ⟨hfn, fun ρ S w vs s ha => (hs ρ S w vs s.glob ha).mono fun e w' ⟨y, he, hb, hR⟩ => ⟨y, ρ, S, he, s.kept (ext_below hb), hR S ρ⟩⟩
theorem idx_c (l : List UInt8) (e : UInt8) : ACall Try.prog 50 [.s l, .v (.int .u8 e.toNat)] [] (.i (Lib.indexByte l e)) [] :=
  acall_kept ⟨_, Try.func50, by kernel_rfl, by kernel_rfl⟩ fun ρ S w vs _ ha => by
    simp only [RL, R] at ha
    obtain ⟨y, ys, rfl, rfl, z, zs, rfl, rfl, rfl⟩ := ha
    refine (Any.strings_IndexByte laysIdx ⟨l.toArray⟩ (e.toNat : Int) w).mono fun e' w' ⟨h1, h2⟩ => ⟨_, h1, by rw [h2]; exact RowKit.Below.refl _ _, fun S' ρ' => ?_⟩
    simp [R]
theorem strT : StrT Try.prog 9 := by unfold StrT; kernel_rfl
abbrev anyB : AV → Hp → Prop := fun r o => o = [] ∧ ∃ b, r = .b b
abbrev anyI : AV → Hp → Prop := fun r o => o = [] ∧ ∃ n, r = .i n
theorem get_s {s : List UInt8} {k : Nat} (h : k < s.length) : s[(k : Int).toNat]? = some s[k] := by simp [h]
theorem name_c (s : List UInt8) (hl : s.length ≤ 9223372036854775807) : PCall Try.prog 25 [.s s] [] anyB := by
  refine pcall T Try.func25 rfl rfl rfl rfl ?_
  cases s with
  | nil =>
    repeat' (first|refine wS ?_|refine wB ?_|refine wK ?_|refine wR ?_|refine wE ?_|refine wT ?_|refine wU ?_|(refine wC rfl (fun hb=>?_) (fun hb=>?_)<;>(first|subst hb|((try simp only [nm] at hb);try (exfalso;omega))))|(refine rg 0 ?_;(all_goals (refine aV ?_)))|(refine rg 1 ?_;(all_goals (refine mV ?_;refine vV (by first|exact fs_lenOwn T rfl rfl|exact fs_lenRow T rfl rfl|exact fs_lenNil T rfl rfl|exact fs_lenS strT rfl) ?_;refine vV (by first|exact fs_lssT rfl rfl (by decide)|exact fs_lss rfl rfl) ?_;refine mV ?_));(all_goals first|(refine gK ?_)|(refine vc_split rfl rfl (fun hb=>?_) (fun hb=>?_)<;>(first|subst hb|(rw [hb];(try simp only [nm] at hb);try ((exfalso;omega);done)))));(all_goals first|(refine gT ?_;(refine mV ?_);refine gT ?_;(refine vV (by first|exact fs_lenOwn T rfl rfl|exact fs_lenRow T rfl rfl|exact fs_lenNil T rfl rfl|exact fs_lenS strT rfl) ?_);refine gT ?_;(refine vV (by exact fs_gtr rfl rfl) ?_))|(iterate 3 first|refine gF ?_|refine gU ?_));(all_goals ((first|refine pV ?_|refine vV (by exact fs_pick rfl rfl rfl) ?_);refine mV ?_));(all_goals first|(refine gK ?_)|(refine vc_split rfl rfl (fun hb=>?_) (fun hb=>?_)<;>(first|subst hb|(rw [hb];(try simp only [nm] at hb);try ((exfalso;omega);done)))));(all_goals first|(refine gT ?_;(refine mV ?_);refine gT ?_;(refine vV (by fail) ?_);refine gT ?_;(refine vV (by exact fs_geq rfl rfl) ?_);refine gT ?_;(refine mV ?_))|(iterate 4 first|refine gF ?_|refine gU ?_));(all_goals first|(refine gK ?_)|(refine vc_split rfl rfl (fun hb=>?_) (fun hb=>?_)<;>(first|subst hb|(rw [hb];(try simp only [nm] at hb);try ((exfalso;omega);done)))));(all_goals first|(refine gT ?_;(refine mV ?_);refine gT ?_;(refine vV (by fail) ?_);refine gT ?_;(refine vV (by exact fs_leq rfl rfl) ?_))|(iterate 3 first|refine gF ?_|refine gU ?_));(all_goals first|(refine gT ?_;(first|refine pV ?_|refine vV (by exact fs_pick rfl rfl rfl) ?_))|(refine gF ?_)|(refine gU ?_));(all_goals (first|refine pV ?_|refine vV (by exact fs_pick rfl rfl rfl) ?_)))|(refine rg 2 ?_;(all_goals (refine aV ?_)))|(refine vc_nilp (by (first|(dsimp only [ln1,ln2,List.append_nil,ln4,ln5,ln6,ln7,ln8,ln9,putAt,putd,allObjs,argEnv,un_v,un_ptr,un_ep,un_pr,un_sl,un_mp,un_row,un_agg,un_tup,un_clo,Nat.zero_add,lnb,Nat.reduceAdd,lnc,lnd];first|done|exact rfl)|exact rfl)) ?_))
    all_goals exact ⟨_, _, ⟨rfl, _, rfl⟩, ret_plain (.inl rfl) rfl rfl⟩
  | cons c t =>
    generalize hs : c :: t = s at *
    have h1 : 1 ≤ s.length := by rw [← hs]; simp
    have hc : s[(0 : Int).toNat]? = some c := by rw [← hs]; rfl
    repeat' (first|refine wS ?_|refine wB ?_|refine wK ?_|refine wR ?_|refine wE ?_|refine wT ?_|refine wU ?_|(refine wC rfl (fun hb=>?_) (fun hb=>?_)<;>(first|subst hb|((try simp only [nm] at hb);try (exfalso;omega))))|(refine rg 0 ?_;(all_goals (refine aV ?_)))|(refine rg 1 ?_;(all_goals (refine mV ?_;refine vV (by first|exact fs_lenOwn T rfl rfl|exact fs_lenRow T rfl rfl|exact fs_lenNil T rfl rfl|exact fs_lenS strT rfl) ?_;refine vV (by exact fs_lss rfl rfl) ?_;refine mV ?_));(all_goals first|(refine gK ?_)|(refine vc_split rfl rfl (fun hb=>?_) (fun hb=>?_)<;>(first|subst hb|(rw [hb];(try simp only [nm] at hb);try ((exfalso;omega);done)))));(all_goals first|(refine gT ?_;(refine mV ?_);refine gT ?_;(refine vV (by first|exact fs_lenOwn T rfl rfl|exact fs_lenRow T rfl rfl|exact fs_lenNil T rfl rfl|exact fs_lenS strT rfl) ?_);refine gT ?_;(refine vV (by exact fs_gtr rfl rfl) ?_))|(iterate 3 first|refine gF ?_|refine gU ?_));(all_goals ((first|refine pV ?_|refine vV (by exact fs_pick rfl rfl rfl) ?_);refine mV ?_));(all_goals first|(refine gK ?_)|(refine vc_split rfl rfl (fun hb=>?_) (fun hb=>?_)<;>(first|subst hb|(rw [hb];(try simp only [nm] at hb);try ((exfalso;omega);done)))));(all_goals first|(refine gT ?_;(refine mV ?_);refine gT ?_;(refine vV (by exact fs_indexS strT rfl rfl (by decide) hc) ?_);refine gT ?_;(refine vV (by exact fs_geq rfl rfl) ?_);refine gT ?_;(refine mV ?_))|(iterate 4 first|refine gF ?_|refine gU ?_));(all_goals first|(refine gK ?_)|(refine vc_split rfl rfl (fun hb=>?_) (fun hb=>?_)<;>(first|subst hb|(rw [hb];(try simp only [nm] at hb);try ((exfalso;omega);done)))));(all_goals first|(refine gT ?_;(refine mV ?_);refine gT ?_;(refine vV (by exact fs_indexS strT rfl rfl (by decide) hc) ?_);refine gT ?_;(refine vV (by exact fs_leq rfl rfl) ?_))|(iterate 3 first|refine gF ?_|refine gU ?_));(all_goals first|(refine gT ?_;(first|refine pV ?_|refine vV (by exact fs_pick rfl rfl rfl) ?_))|(refine gF ?_)|(refine gU ?_));(all_goals (first|refine pV ?_|refine vV (by exact fs_pick rfl rfl rfl) ?_)))|(refine rg 2 ?_;(all_goals (refine aV ?_)))|(refine rg 3 ?_;(all_goals (refine mV ?_;refine vV (by first|exact fs_lenOwn T rfl rfl|exact fs_lenRow T rfl rfl|exact fs_lenNil T rfl rfl|exact fs_lenS strT rfl) ?_;refine mV ?_)))|(refine vc_nilp (by (first|(dsimp only [ln1,ln2,List.append_nil,ln4,ln5,ln6,ln7,ln8,ln9,putAt,putd,allObjs,argEnv,un_v,un_ptr,un_ep,un_pr,un_sl,un_mp,un_row,un_agg,un_tup,un_clo,Nat.zero_add,lnb,Nat.reduceAdd,lnc,lnd];first|done|exact rfl)|exact rfl)) ?_))
    all_goals first | (exfalso; omega) | exact ⟨_, _, ⟨rfl, _, rfl⟩, ret_plain (.inl rfl) rfl rfl⟩ | skip
    all_goals
      refine aw_loop (X := {k : Nat // k ≤ s.length}) (fun k => [(0, .s s), (23, .i s.length), (24, .i k.1)]) (fun _ => []) (fun k => s.length - k.1) ⟨0, by omega⟩ (by (refine ⟨[], rfl, ?_, trivial, List.nodup_nil, fun _ h => absurd h (Nat.not_lt_zero _)⟩; (repeat (first | exact trivial | refine ⟨rfl, ?_⟩)))) ?_
      rintro ⟨k, hk⟩
      dsimp only
      by_cases hlt : k < s.length
      · have q1 := get_s hlt
        have hi := idx_c ("abcdefghijklmnopqrstuvwxyzABCDEFGHIJKLMNOPQRSTUVWXYZ0123456789_-".toUTF8.toList) s[k]
        repeat' (first|refine wS ?_|refine wB ?_|refine wK ?_|refine wR ?_|refine wE ?_|refine wT ?_|refine wU ?_|(refine wC rfl (fun hb=>?_) (fun hb=>?_)<;>(first|subst hb|((try simp only [nm] at hb);try (exfalso;omega))))|(refine rg 4 ?_;(all_goals (refine vV (by exact fs_lss rfl rfl) ?_)))|(refine rg 5 ?_;(all_goals (refine mV ?_;refine aV ?_)))|(refine rg 6 ?_;(all_goals (refine mV ?_;refine mV ?_;refine vV (by exact fs_indexS strT rfl rfl (by omega) q1) ?_;refine vV (by exact fs_call0 rfl rfl (idx_c _ s[k]) rfl rfl rfl) ?_;refine vV (by exact fs_lss rfl rfl) ?_)))|(refine rg 7 ?_;(all_goals (refine aV ?_)))|(refine rg 8 ?_;(all_goals (refine vV (by first|exact fs_addr rfl rfl (by omega) (by omega)|exact fs_add rfl rfl) ?_;refine mV ?_)))|(refine vc_nilp (by (first|(dsimp only [ln1,ln2,List.append_nil,ln4,ln5,ln6,ln7,ln8,ln9,putAt,putd,allObjs,argEnv,un_v,un_ptr,un_ep,un_pr,un_sl,un_mp,un_row,un_agg,un_tup,un_clo,Nat.zero_add,lnb,Nat.reduceAdd,lnc,lnd];first|done|exact rfl)|exact rfl)) ?_))
        all_goals first | (exfalso; omega) | exact ⟨_, _, ⟨rfl, _, rfl⟩, ret_plain (.inl rfl) rfl rfl⟩ | exact ⟨⟨k + 1, by omega⟩, by dsimp only; omega, by (refine ⟨[], rfl, ?_, trivial, List.nodup_nil, fun _ h => absurd h (Nat.not_lt_zero _)⟩; (repeat (first | exact trivial | refine ⟨rfl, ?_⟩)))⟩
      · repeat' (first | refine wS ?_ | refine wB ?_ | refine wK ?_ | refine wR ?_ | refine wE ?_ | refine aw_condt rfl ?_ | refine aw_condf rfl ?_ | (refine wC rfl (fun hb => ?_) (fun hb => ?_) <;> (first | subst hb | ((try simp only [nm] at hb); try (exfalso; omega)))) | (((refine rg 4 ?_)); (all_goals (refine vV (by exact fs_lss rfl rfl) ?_))) | (((refine rg 9 ?_)); (all_goals (refine aV ?_))) | (refine vc_nilp (by (first | (dsimp only [ln1, ln2, List.append_nil, ln4, ln5, ln6, ln7, ln8, ln9, putAt, putd, allObjs, argEnv, un_v, un_ptr, un_ep, un_pr, un_sl, un_mp, un_row, un_agg, un_tup, un_clo, Nat.zero_add, lnb, Nat.reduceAdd, lnc, lnd]; first | done | exact rfl) | exact rfl)) ?_))
        all_goals first | (exfalso; omega) | exact ⟨_, _, ⟨rfl, _, rfl⟩, ret_plain (.inl rfl) rfl rfl⟩
theorem swithin_c (n f t : Int) : ACall Try.prog 26 [.i n, .i f, .i t] [] (.b (withinB n f t)) [] := by
  refine acall T Try.func26 rfl rfl rfl rfl ?_
  unfold withinB
  by_cases h : f ≤ n
  · rw [decide_eq_true h, Bool.true_and]
    repeat' (first|refine wS ?_|refine wB ?_|refine wK ?_|refine wR ?_|refine wE ?_|refine wT ?_|refine wU ?_|(refine wC rfl (fun hb=>?_) (fun hb=>?_)<;>(first|subst hb|((try simp only [nm] at hb);try (exfalso;omega))))|(refine rg 0 ?_;(all_goals (refine aV ?_)))|(refine rg 1 ?_;(all_goals (refine mV ?_;refine mV ?_;refine vV (by first|exact fs_geqT rfl rfl h|exact fs_geq rfl rfl) ?_;refine mV ?_));(all_goals first|(refine gK ?_)|(refine vc_split rfl rfl (fun hb=>?_) (fun hb=>?_)<;>(first|subst hb|(rw [hb];(try simp only [nm] at hb);try ((exfalso;omega);done)))));(all_goals first|(refine gT ?_;(refine mV ?_);refine gT ?_;(refine mV ?_);refine gT ?_;(refine vV (by exact fs_leq rfl rfl) ?_))|(iterate 3 first|refine gF ?_|refine gU ?_));(all_goals ((first|refine pV ?_|refine vV (by exact fs_pick rfl rfl rfl) ?_);refine aV ?_)))|(refine vc_nilp (by (first|(dsimp only [ln1,ln2,List.append_nil,ln4,ln5,ln6,ln7,ln8,ln9,putAt,putd,allObjs,argEnv,un_v,un_ptr,un_ep,un_pr,un_sl,un_mp,un_row,un_agg,un_tup,un_clo,Nat.zero_add,lnb,Nat.reduceAdd,lnc,lnd];first|done|exact rfl)|exact rfl)) ?_))
    all_goals first | (exfalso; omega) | exact ret_plain (.inl rfl) rfl rfl
  · rw [decide_eq_false h, Bool.false_and]
    repeat' (first|refine wS ?_|refine wB ?_|refine wK ?_|refine wR ?_|refine wE ?_|refine wT ?_|refine wU ?_|(refine wC rfl (fun hb=>?_) (fun hb=>?_)<;>(first|subst hb|((try simp only [nm] at hb);try (exfalso;omega))))|(refine rg 0 ?_;(all_goals (refine aV ?_)))|(refine rg 1 ?_;(all_goals (refine mV ?_;refine mV ?_;refine vV (by first|exact fs_geqF rfl rfl (by omega)|exact fs_geq rfl rfl) ?_;refine mV ?_));(all_goals first|(refine gK ?_)|(refine vc_split rfl rfl (fun hb=>?_) (fun hb=>?_)<;>(first|subst hb|(rw [hb];(try simp only [nm] at hb);try ((exfalso;omega);done)))));(all_goals first|(refine gT ?_;(refine mV ?_);refine gT ?_;(refine mV ?_);refine gT ?_;(refine vV (by exact fs_leq rfl rfl) ?_))|(iterate 3 first|refine gF ?_|refine gU ?_));(all_goals ((first|refine pV ?_|refine vV (by exact fs_pick rfl rfl rfl) ?_);refine aV ?_)))|(refine vc_nilp (by (first|(dsimp only [ln1,ln2,List.append_nil,ln4,ln5,ln6,ln7,ln8,ln9,putAt,putd,allObjs,argEnv,un_v,un_ptr,un_ep,un_pr,un_sl,un_mp,un_row,un_agg,un_tup,un_clo,Nat.zero_add,lnb,Nat.reduceAdd,lnc,lnd];first|done|exact rfl)|exact rfl)) ?_))
    all_goals first | (exfalso; omega) | exact ret_plain (.inl rfl) rfl rfl
def standB (k : Int) : Bool := decide (k = 1 ∨ k = 2)
theorem stands_c (k : Int) : ACall Try.prog 54 [.i k] [] (.b (standB k)) [] := by
  refine acall T Try.func54 rfl rfl rfl rfl ?_
  unfold standB
  repeat' (first|refine wS ?_|refine wB ?_|refine wK ?_|refine wR ?_|refine wE ?_|refine wT ?_|refine wU ?_|(refine wC rfl (fun hb=>?_) (fun hb=>?_)<;>(first|subst hb|((try simp only [nm] at hb);try (exfalso;omega))))|(refine rg 0 ?_;(all_goals (refine aV ?_)))|(refine rg 1 ?_;(all_goals (refine mV ?_;refine vV (by exact fs_eql rfl rfl) ?_;refine mV ?_));(all_goals first|(refine gK ?_)|(refine vc_split rfl rfl (fun hb=>?_) (fun hb=>?_)<;>(first|subst hb|(rw [hb];(try simp only [nm] at hb);try ((exfalso;omega);done)))));(all_goals first|(refine gT ?_;(refine mV ?_);refine gT ?_;(refine vV (by exact fs_eql rfl rfl) ?_))|(iterate 2 first|refine gF ?_|refine gU ?_));(all_goals ((first|refine pV ?_|refine vV (by exact fs_pick rfl rfl rfl) ?_);refine aV ?_)))|(refine vc_nilp (by (first|(dsimp only [ln1,ln2,List.append_nil,ln4,ln5,ln6,ln7,ln8,ln9,putAt,putd,allObjs,argEnv,un_v,un_ptr,un_ep,un_pr,un_sl,un_mp,un_row,un_agg,un_tup,un_clo,Nat.zero_add,lnb,Nat.reduceAdd,lnc,lnd];first|done|exact rfl)|exact rfl)) ?_))
  all_goals first | (exfalso; omega) | (refine ret_plain (.inl rfl) rfl (b_ret ?_); simp [*])
theorem zoned_c (k : Int) : PCall Try.prog 52 [.i k] [] anyB := by
  refine pcall T Try.func52 rfl rfl rfl rfl ?_
  repeat' (first|refine wS ?_|refine wB ?_|refine wK ?_|refine wR ?_|refine wE ?_|refine wT ?_|refine wU ?_|(refine wC rfl (fun hb=>?_) (fun hb=>?_)<;>(first|subst hb|((try simp only [nm] at hb);try (exfalso;omega))))|(refine rg 0 ?_;(all_goals (refine aV ?_)))|(refine rg 1 ?_;(all_goals (refine mV ?_;refine vV (by exact fs_neq rfl rfl) ?_;refine mV ?_));(all_goals first|(refine gK ?_)|(refine vc_split rfl rfl (fun hb=>?_) (fun hb=>?_)<;>(first|subst hb|(rw [hb];(try simp only [nm] at hb);try ((exfalso;omega);done)))));(all_goals first|(refine gT ?_;(refine mV ?_);refine gT ?_;(refine vV (by exact fs_neq rfl rfl) ?_))|(iterate 2 first|refine gF ?_|refine gU ?_));(all_goals ((first|refine pV ?_|refine vV (by exact fs_pick rfl rfl rfl) ?_);refine mV ?_));(all_goals first|(refine gK ?_)|(refine vc_split rfl rfl (fun hb=>?_) (fun hb=>?_)<;>(first|subst hb|(rw [hb];(try simp only [nm] at hb);try ((exfalso;omega);done)))));(all_goals first|(refine gT ?_;(refine mV ?_);refine gT ?_;(refine vV (by exact fs_neq rfl rfl) ?_))|(iterate 2 first|refine gF ?_|refine gU ?_));(all_goals ((first|refine pV ?_|refine vV (by exact fs_pick rfl rfl rfl) ?_);refine aV ?_)))|(refine vc_nilp (by (first|(dsimp only [ln1,ln2,List.append_nil,ln4,ln5,ln6,ln7,ln8,ln9,putAt,putd,allObjs,argEnv,un_v,un_ptr,un_ep,un_pr,un_sl,un_mp,un_row,un_agg,un_tup,un_clo,Nat.zero_add,lnb,Nat.reduceAdd,lnc,lnd];first|done|exact rfl)|exact rfl)) ?_))
  all_goals first | (exfalso; omega) | exact ⟨_, _, ⟨rfl, _, rfl⟩, ret_plain (.inl rfl) rfl rfl⟩
theorem shut_c (l : List (Int × Int)) (hl : l.length ≤ 9223372036854775807) : PCall Try.prog 27 [.rowE (stksA l) 2] [] anyB := by
  have hlen : (stksA l).length = l.length := by simp
  refine pcall T Try.func27 rfl rfl rfl rfl ?_
  repeat' (first|refine wS ?_|refine wB ?_|refine wK ?_|refine wR ?_|refine wE ?_|refine wT ?_|refine wU ?_|(refine wC rfl (fun hb=>?_) (fun hb=>?_)<;>(first|subst hb|((try simp only [nm] at hb);try (exfalso;omega))))|(refine rg 0 ?_;(all_goals (refine aV ?_)))|(refine rg 1 ?_;(all_goals (refine aV ?_)))|(refine rg 2 ?_;(all_goals (refine mV ?_;(first|refine qV T ?_|refine vV (by exact fs_lenNil T rfl rfl) ?_);refine mV ?_)))|(refine vc_nilp (by (first|(dsimp only [ln1,ln2,List.append_nil,ln4,ln5,ln6,ln7,ln8,ln9,putAt,putd,allObjs,argEnv,un_v,un_ptr,un_ep,un_pr,un_sl,un_mp,un_row,un_agg,un_tup,un_clo,Nat.zero_add,lnb,Nat.reduceAdd,lnc,lnd];first|done|exact rfl)|exact rfl)) ?_))
  refine aw_loop (X := {k : Nat // k ≤ l.length} × Int) (fun k => [(0, .rowE (stksA l) 2), (3, .i k.2), (6, .rowE (stksA l) 2), (7, .i (stksA l).length), (8, .i k.1.1)]) (fun _ => []) (fun k => l.length - k.1.1) ⟨⟨0, by omega⟩, 0⟩ (by (refine ⟨[], rfl, ?_, trivial, List.nodup_nil, fun _ h => absurd h (Nat.not_lt_zero _)⟩; (repeat (first | exact trivial | refine ⟨rfl, ?_⟩)))) ?_
  rintro ⟨⟨k, hk⟩, last⟩
  dsimp only
  by_cases hlt : k < l.length
  · have q1 := stks_gI (l := l) (j := (k : Int)) hlt rfl
    generalize (l.getD k (0, 0)).1 = a at *
    generalize (l.getD k (0, 0)).2 = b at *
    repeat' (first|refine wS ?_|refine wB ?_|refine wK ?_|refine wR ?_|refine wE ?_|refine wT ?_|refine wU ?_|(refine wC rfl (fun hb=>?_) (fun hb=>?_)<;>(first|subst hb|((try simp only [nm] at hb);try (exfalso;omega))))|(refine rg 3 ?_;(all_goals (refine vV (by exact fs_lss rfl rfl) ?_)))|(refine rg 4 ?_;(all_goals (refine vV (by exact fs_indexRowE T rfl rfl rfl rfl rfl (by omega) (stks_len l) q1) ?_;refine lV T ?_;refine vc_n (by exact fs_alloc T rfl) rfl ?_;refine vc_store T rfl rfl rfl rfl rfl rfl (by decide) rfl ?_)))|(refine rg 5 ?_;(all_goals (refine fV T ?_;refine lV T ?_;refine mV ?_;refine vV (by exact fs_lss rfl rfl) ?_;refine mV ?_));(all_goals first|(refine gK ?_)|(refine vc_split rfl rfl (fun hb=>?_) (fun hb=>?_)<;>(first|subst hb|(rw [hb];(try simp only [nm] at hb);try ((exfalso;omega);done)))));(all_goals first|(refine gT ?_;(refine fV T ?_);refine gT ?_;(refine lV T ?_);refine gT ?_;(refine fV T ?_);refine gT ?_;(refine lV T ?_);refine gT ?_;(refine vV (by exact fs_geq rfl rfl) ?_))|(iterate 5 first|refine gF ?_|refine gU ?_));(all_goals ((first|refine pV ?_|refine vV (by exact fs_pick rfl rfl rfl) ?_);refine mV ?_));(all_goals first|(refine gK ?_)|(refine vc_split rfl rfl (fun hb=>?_) (fun hb=>?_)<;>(first|subst hb|(rw [hb];(try simp only [nm] at hb);try ((exfalso;omega);done)))));(all_goals first|(refine gT ?_;(refine fV T ?_);refine gT ?_;(refine lV T ?_);refine gT ?_;(refine vV (by exact fs_gtr rfl rfl) ?_))|(iterate 3 first|refine gF ?_|refine gU ?_));(all_goals (first|refine pV ?_|refine vV (by exact fs_pick rfl rfl rfl) ?_)))|(refine rg 6 ?_;(all_goals (refine aV ?_)))|(refine rg 7 ?_;(all_goals (refine fV T ?_;refine lV T ?_;refine aV ?_)))|(refine rg 8 ?_;(all_goals (refine vV (by first|exact fs_addr rfl rfl (by omega) (by omega)|exact fs_add rfl rfl) ?_;refine mV ?_)))|(refine vc_nilp (by (first|(dsimp only [ln1,ln2,List.append_nil,ln4,ln5,ln6,ln7,ln8,ln9,putAt,putd,allObjs,argEnv,un_v,un_ptr,un_ep,un_pr,un_sl,un_mp,un_row,un_agg,un_tup,un_clo,Nat.zero_add,lnb,Nat.reduceAdd,lnc,lnd];first|done|exact rfl)|exact rfl)) ?_))
    all_goals first | (exfalso; omega) | exact ⟨_, _, ⟨rfl, _, rfl⟩, ret_plain (.inl rfl) rfl rfl⟩ | exact ⟨⟨⟨k + 1, by omega⟩, b⟩, by dsimp only; omega, by (refine ⟨[], rfl, ?_, trivial, List.nodup_nil, fun _ h => absurd h (Nat.not_lt_zero _)⟩; (repeat (first | exact trivial | refine ⟨rfl, ?_⟩)))⟩
  · repeat' (first | refine wS ?_ | refine wB ?_ | refine wK ?_ | refine wR ?_ | refine wE ?_ | refine aw_condt rfl ?_ | refine aw_condf rfl ?_ | (refine wC rfl (fun hb => ?_) (fun hb => ?_) <;> (first | subst hb | ((try simp only [nm] at hb); try (exfalso; omega)))) | (((refine rg 3 ?_)); (all_goals (refine vV (by exact fs_lss rfl rfl) ?_))) | (((refine rg 9 ?_)); (all_goals (refine aV ?_))) | (refine vc_nilp (by (first | (dsimp only [ln1, ln2, List.append_nil, ln4, ln5, ln6, ln7, ln8, ln9, putAt, putd, allObjs, argEnv, un_v, un_ptr, un_ep, un_pr, un_sl, un_mp, un_row, un_agg, un_tup, un_clo, Nat.zero_add, lnb, Nat.reduceAdd, lnc, lnd]; first | done | exact rfl) | exact rfl)) ?_))
    all_goals first | (exfalso; omega) | exact ⟨_, _, ⟨rfl, _, rfl⟩, ret_plain (.inl rfl) rfl rfl⟩
theorem apartT : StrStruct Try.prog 58 2 := by unfold StrStruct; kernel_rfl
theorem aps_len (l : List (List UInt8 × List UInt8)) : ∀ e, e ∈ apsA l → e.length = 2 := by intro e he; obtain ⟨n, _, rfl⟩ := List.mem_map.1 he; rfl
theorem aps_get {l : List (List UInt8 × List UInt8)} {k : Nat} (h : k < l.length) : (apsA l)[(k : Int).toNat]? = some [AV.s l[k].1, AV.s l[k].2] := by simp [h]
def idxA : List (List UInt8 × List UInt8) → List UInt8 × List UInt8 → Int → Int
  | [], _, _ => -1
  | x :: r, v, k => if v = x then k else idxA r v (k + 1)
theorem idxA_mem : ∀ (l : List (List UInt8 × List UInt8)) (v : List UInt8 × List UInt8) (k : Int), 0 ≤ k → (0 ≤ idxA l v k ↔ v ∈ l)
  | [], v, k, _ => by simp [idxA]
  | x :: r, v, k, hk => by
    simp only [idxA]
    split
    · rename_i e; subst e; simp [hk]
    · rename_i e
      rw [idxA_mem r v (k + 1) (by omega)]
      simp [e]
theorem idxA_drop {l : List (List UInt8 × List UInt8)} {v : List UInt8 × List UInt8} {k : Nat} (h : k < l.length) : idxA (l.drop k) v k = if v = l[k] then (k : Int) else idxA (l.drop (k + 1)) v ((k + 1 : Nat) : Int) := by
  rw [List.drop_eq_getElem_cons h]
  simp [idxA]
theorem indexA_c (l : List (List UInt8 × List UInt8)) (a b : List UInt8) (hl : l.length ≤ 9223372036854775807) : ACall Try.prog 82 [.rowE (apsA l) 2, .agg [.s a, .s b]] [] (.i (idxA l (a, b) 0)) [] := by
  have hlen : (apsA l).length = l.length := by simp
  refine acall T Try.func82 rfl rfl rfl rfl ?_
  repeat' (first|refine wS ?_|refine wB ?_|refine wK ?_|refine wR ?_|refine wE ?_|refine wT ?_|refine wU ?_|(refine wC rfl (fun hb=>?_) (fun hb=>?_)<;>(first|subst hb|((try simp only [nm] at hb);try (exfalso;omega))))|(refine rg 0 ?_;(all_goals (refine vc_n (by exact fs_box rfl rfl) rfl ?_;refine aV ?_)))|(refine rg 1 ?_;(all_goals (refine mV ?_;(first|refine qV T ?_|refine vV (by exact fs_lenNil T rfl rfl) ?_);refine mV ?_)))|(refine vc_nilp (by (first|(dsimp only [ln1,ln2,List.append_nil,ln4,ln5,ln6,ln7,ln8,ln9,putAt,putd,allObjs,argEnv,un_v,un_ptr,un_ep,un_pr,un_sl,un_mp,un_row,un_agg,un_tup,un_clo,Nat.zero_add,lnb,Nat.reduceAdd,lnc,lnd];first|done|exact rfl)|exact rfl)) ?_))
  refine aw_loop (X := {k : Nat // k ≤ l.length ∧ idxA l (a, b) 0 = idxA (l.drop k) (a, b) k}) (fun k => [(0, .rowE (apsA l) 2), (3, .ptr 0 0), (7, .i (apsA l).length), (8, .i k.1)]) (fun _ => [.cells [.s a, .s b]]) (fun k => l.length - k.1) ⟨0, by simp, rfl⟩ (by (refine ⟨[0], rfl, (by (repeat (first | exact trivial | refine ⟨rfl, ?_⟩))), (by (repeat (first | exact trivial | refine ⟨Or.inl rfl, ?_⟩ | refine ⟨Or.inr rfl, ?_⟩))), by decide, (fun i hi => absurd hi (Nat.not_lt_zero _))⟩)) ?_
  rintro ⟨k, hk, hf⟩
  dsimp only
  by_cases hlt : k < l.length
  · have hd := idxA_drop (v := (a, b)) hlt
    have q1 := aps_get hlt
    rw [hd] at hf
    generalize l[k] = y at *
    obtain ⟨y1, y2⟩ := y
    repeat' (first|refine wS ?_|refine wB ?_|refine wK ?_|refine wR ?_|refine wE ?_|refine wT ?_|refine wU ?_|(refine wC rfl (fun hb=>?_) (fun hb=>?_)<;>(first|subst hb|((try simp only [nm] at hb);try (exfalso;omega))))|(refine rg 0 ?_;(all_goals (refine vc_n (by exact fs_box rfl rfl) rfl ?_;refine aV ?_)))|(refine rg 1 ?_;(all_goals (refine mV ?_;(first|refine qV T ?_|refine vV (by exact fs_lenNil T rfl rfl) ?_);refine mV ?_)))|(refine rg 2 ?_;(all_goals (refine vV (by first|exact fs_lssT rfl rfl (by omega)|exact fs_lss rfl rfl) ?_)))|(refine rg 3 ?_;(all_goals (refine mV ?_;refine aV ?_)))|(((refine aw_draw2k (id := 4) 19 [[],[],[],[1,2],[1,2,3],[0,1,2,3,4]] [11,12,13,14,15,16] [[],[11],[11,12],[11],[11],[]] mixedP rfl (by decide +kernel) ?_));(all_goals first|(refine dw_v rfl rfl rfl (by first|exact fs_load T rfl rfl rfl rfl) ?_));(all_goals first|(refine dw_v rfl rfl rfl (by first|exact fs_move rfl) ?_));(all_goals first|(refine dw_v rfl rfl rfl (by first|exact fs_move rfl) ?_));(all_goals first|(refine dw_v rfl rfl rfl (by first|exact fs_indexRowE T rfl rfl rfl rfl rfl (by omega) (aps_len l) q1) ?_));(all_goals first|(refine dw_v rfl rfl rfl (by first|exact fs_load T rfl rfl rfl rfl) ?_));(all_goals first|(refine dw_v rfl rfl rfl (by first|exact fs_eql rfl rfl|exact fs_eqlSS apartT rfl rfl) ?_));(all_goals (refine dw_fin rfl rfl (by (first|(dsimp only [ln1,ln2,List.append_nil,ln4,ln5,ln6,ln7,ln8,ln9,putAt,putd,allObjs,argEnv,un_v,un_ptr,un_ep,un_pr,un_sl,un_mp,un_row,un_agg,un_tup,un_clo,Nat.zero_add,lnb,Nat.reduceAdd,lnc,lnd];first|done|exact rfl)|exact rfl)) ?_)))|(refine rg 5 ?_;(all_goals (refine mV ?_;refine aV ?_)))|(refine rg 6 ?_;(all_goals (refine vV (by first|exact fs_addr rfl rfl (by omega) (by omega)|exact fs_add rfl rfl) ?_;refine mV ?_)))|(refine rg 7 ?_;(all_goals (refine aV ?_)))|(refine vc_nilp (by (first|(dsimp only [ln1,ln2,List.append_nil,ln4,ln5,ln6,ln7,ln8,ln9,putAt,putd,allObjs,argEnv,un_v,un_ptr,un_ep,un_pr,un_sl,un_mp,un_row,un_agg,un_tup,un_clo,Nat.zero_add,lnb,Nat.reduceAdd,lnc,lnd];first|done|exact rfl)|exact rfl)) ?_))
    · refine ret_plain (.inl rfl) rfl ?_
      rw [hf, if_pos hb]; rfl
    · refine ⟨⟨k + 1, by omega, ?_⟩, by dsimp only; omega, by (refine ⟨[0], rfl, (by (repeat (first | exact trivial | refine ⟨rfl, ?_⟩))), (by (repeat (first | exact trivial | refine ⟨Or.inl rfl, ?_⟩ | refine ⟨Or.inr rfl, ?_⟩))), by decide, (fun i hi => absurd hi (Nat.not_lt_zero _))⟩)⟩
      rw [hf, if_neg hb]
  · repeat' (first | refine wS ?_ | refine wB ?_ | refine wK ?_ | refine wR ?_ | refine wE ?_ | refine aw_condt rfl ?_ | refine aw_condf rfl ?_ | (refine wC rfl (fun hb => ?_) (fun hb => ?_) <;> (first | subst hb | ((try simp only [nm] at hb); try (exfalso; omega)))) | (((refine rg 0 ?_)); (all_goals (refine vc_n (by exact fs_box rfl rfl) rfl ?_; refine aV ?_))) | (((refine rg 1 ?_)); (all_goals (refine mV ?_; (first|refine qV T ?_|refine vV (by exact fs_lenNil T rfl rfl) ?_); refine mV ?_))) | (((refine rg 2 ?_)); (all_goals (refine vV (by first | exact fs_lssF rfl rfl (by omega) | exact fs_lss rfl rfl) ?_))) | (((refine rg 3 ?_)); (all_goals (refine mV ?_; refine aV ?_))) | (((refine aw_draw2k (id := 4) 19 [[], [], [], [1, 2], [1, 2, 3], [0, 1, 2, 3, 4]] [11, 12, 13, 14, 15, 16] [[], [11], [11, 12], [11], [11], []] mixedP rfl (by decide +kernel) ?_)); (all_goals first | (refine dw_v rfl rfl rfl (by first | exact fs_load T rfl rfl rfl rfl) ?_)); (all_goals first | (refine dw_v rfl rfl rfl (by first | exact fs_move rfl) ?_)); (all_goals first | (refine dw_v rfl rfl rfl (by first | exact fs_move rfl) ?_)); (all_goals first | (refine dw_v rfl rfl rfl (by first | fail) ?_)); (all_goals first | (refine dw_v rfl rfl rfl (by first | exact fs_load T rfl rfl rfl rfl) ?_)); (all_goals first | (refine dw_v rfl rfl rfl (by first | exact fs_eql rfl rfl) ?_)); (all_goals (refine dw_fin rfl rfl (by (first | (dsimp only [ln1, ln2, List.append_nil, ln4, ln5, ln6, ln7, ln8, ln9, putAt, putd, allObjs, argEnv, un_v, un_ptr, un_ep, un_pr, un_sl, un_mp, un_row, un_agg, un_tup, un_clo, Nat.zero_add, lnb, Nat.reduceAdd, lnc, lnd]; first | done | exact rfl) | exact rfl)) ?_))) | (((refine rg 5 ?_)); (all_goals (refine mV ?_; refine aV ?_))) | (((refine rg 6 ?_)); (all_goals (refine vV (by first | exact fs_addr rfl rfl (by omega) (by omega) | exact fs_add rfl rfl) ?_; refine mV ?_))) | (((refine rg 7 ?_)); (all_goals (refine aV ?_))) | (refine vc_nilp (by (first | (dsimp only [ln1, ln2, List.append_nil, ln4, ln5, ln6, ln7, ln8, ln9, putAt, putd, allObjs, argEnv, un_v, un_ptr, un_ep, un_pr, un_sl, un_mp, un_row, un_agg, un_tup, un_clo, Nat.zero_add, lnb, Nat.reduceAdd, lnc, lnd]; first | done | exact rfl) | exact rfl)) ?_))
    refine ret_plain (.inl rfl) rfl ?_
    rw [hf, List.drop_of_length_le (by omega)]; rfl
theorem containsA_c (l : List (List UInt8 × List UInt8)) (a b : List UInt8) (hl : l.length ≤ 9223372036854775807) : ACall Try.prog 67 [.rowE (apsA l) 2, .agg [.s a, .s b]] [] (.b (decide ((a, b) ∈ l))) [] := by
  refine acall T Try.func67 rfl rfl rfl rfl ?_
  repeat' (first|refine wS ?_|refine wB ?_|refine wK ?_|refine wR ?_|refine wE ?_|refine wT ?_|refine wU ?_|(refine wC rfl (fun hb=>?_) (fun hb=>?_)<;>(first|subst hb|((try simp only [nm] at hb);try (exfalso;omega))))|(refine rg 0 ?_;(all_goals (refine vc_n (by exact fs_box rfl rfl) rfl ?_;refine aV ?_)))|(refine rg 1 ?_;(all_goals (refine mV ?_;refine lV T ?_;refine vV (by exact kC (indexA_c l a b hl)) ?_;refine vV (by exact fs_geq rfl rfl) ?_;refine aV ?_)))|(refine vc_nilp (by (first|(dsimp only [ln1,ln2,List.append_nil,ln4,ln5,ln6,ln7,ln8,ln9,putAt,putd,allObjs,argEnv,un_v,un_ptr,un_ep,un_pr,un_sl,un_mp,un_row,un_agg,un_tup,un_clo,Nat.zero_add,lnb,Nat.reduceAdd,lnc,lnd];first|done|exact rfl)|exact rfl)) ?_))
  refine ret_plain (.inl rfl) rfl (b_ret ?_)
  rw [Bool.eq_iff_iff]; simp only [decide_eq_true_eq]; exact idxA_mem l (a, b) 0 (by omega)
def apartB (l : List (List UInt8 × List UInt8)) (a b : List UInt8) : Bool := decide (a ≠ [] ∧ b ≠ [] ∧ ((a, b) ∈ l ∨ (b, a) ∈ l))
theorem apart_c (l : List (List UInt8 × List UInt8)) (a b : List UInt8) (hl : l.length ≤ 9223372036854775807) : ACall Try.prog 53 [.rowE (apsA l) 2, .s a, .s b] [] (.b (apartB l a b)) [] := by
  have c1 := containsA_c l a b hl
  have c2 := containsA_c l b a hl
  unfold apartB
  refine acall T Try.func53 rfl rfl rfl rfl ?_
  repeat' (first|refine wS ?_|refine wB ?_|refine wK ?_|refine wR ?_|refine wE ?_|refine wT ?_|refine wU ?_|(refine wC rfl (fun hb=>?_) (fun hb=>?_)<;>(first|subst hb|((try simp only [nm] at hb);try (exfalso;omega))))|(refine rg 0 ?_;(all_goals (refine aV ?_)))|(refine rg 1 ?_;(all_goals (refine mV ?_;refine vV (by first|exact fs_eqlS rfl rfl|exact fs_eql rfl rfl) ?_;refine mV ?_));(all_goals first|(refine gK ?_)|(refine vc_split rfl rfl (fun hb=>?_) (fun hb=>?_)<;>(first|subst hb|(rw [hb];(try simp only [nm] at hb);try ((exfalso;omega);done)))));(all_goals first|(refine gT ?_;(refine mV ?_);refine gT ?_;(refine vV (by first|exact fs_eqlS rfl rfl|exact fs_eql rfl rfl) ?_))|(iterate 2 first|refine gF ?_|refine gU ?_));(all_goals (first|refine pV ?_|refine vV (by exact fs_pick rfl rfl rfl) ?_)))|(refine rg 2 ?_;(all_goals (refine aV ?_)))|(refine rg 3 ?_;(all_goals (refine mV ?_;refine mV ?_;refine mV ?_;refine vV (by exact fs_build T rfl rfl rfl rfl) ?_;refine vV (by first|exact kC (c1)|exact kC (c2)) ?_;refine mV ?_));(all_goals first|(refine gK ?_)|(refine vc_split rfl rfl (fun hb=>?_) (fun hb=>?_)<;>(first|subst hb|(rw [hb];(try simp only [nm] at hb);try ((exfalso;omega);done)))));(all_goals first|(refine gT ?_;(refine mV ?_);refine gT ?_;(refine mV ?_);refine gT ?_;(refine mV ?_);refine gT ?_;(refine vV (by exact fs_build T rfl rfl rfl rfl) ?_);refine gT ?_;(refine vV (by first|exact kC (c1)|exact kC (c2)) ?_))|(iterate 5 first|refine gF ?_|refine gU ?_));(all_goals ((first|refine pV ?_|refine vV (by exact fs_pick rfl rfl rfl) ?_);refine aV ?_)))|(refine vc_nilp (by (first|(dsimp only [ln1,ln2,List.append_nil,ln4,ln5,ln6,ln7,ln8,ln9,putAt,putd,allObjs,argEnv,un_v,un_ptr,un_ep,un_pr,un_sl,un_mp,un_row,un_agg,un_tup,un_clo,Nat.zero_add,lnb,Nat.reduceAdd,lnc,lnd];first|done|exact rfl)|exact rfl)) ?_))
  all_goals (refine ret_plain (.inl rfl) rfl (b_ret ?_); simp_all)
end Go.Proofs.Ytcdgmjfmmnklnaa
