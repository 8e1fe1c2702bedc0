/-
  A logic of values for the walk, texts 17, 18, 19, 20, 21.
-/
import Derived.Test.YtcdgmjfmmnklnaaAb16
import Derived.Lib.SliceRun
import Derived.DeepKeys3

/-! A logic of values for the walk, seventeenth part: calls that are handed objects of the caller's to write. -/
namespace Go.Ab
open Go
set_option linter.unusedVariables false
set_option linter.unusedSimpArgs false

def putH : Hp → List Nat → List AB → Hp
  | h, j :: L, b :: bs => putH (h.set j b) L bs
  | h, _, _ => h
theorem putH_length : ∀ (L : List Nat) (bs : List AB) (h : Hp), (putH h L bs).length = h.length
  | [], _, _ => by simp [putH]
  | _ :: _, [], _ => by simp [putH]
  | j :: L, b :: bs, h => by simp only [putH]; rw [putH_length L bs]; simp
theorem putH_other {k : Nat} : ∀ (L : List Nat) (bs : List AB) (h : Hp), k ∉ L → (putH h L bs)[k]? = h[k]?
  | [], _, _, _ => by simp [putH]
  | _ :: _, [], _, _ => by simp [putH]
  | j :: L, b :: bs, h, hk => by
    simp only [List.mem_cons, not_or] at hk
    simp only [putH]
    rw [putH_other L bs _ hk.2, List.getElem?_set, if_neg (fun e => hk.1 e.symm)]
theorem putH_at : ∀ {L : List Nat} {bs : List AB} {h : Hp} {i j : Nat} {b : AB}, L.Nodup → L[i]? = some j → bs[i]? = some b → j < h.length → (putH h L bs)[j]? = some b
  | j0 :: L, b0 :: bs, h, 0, j, b, hnd, hi, hb, hj => by
    simp at hi hb
    subst hi; subst hb
    simp only [putH]
    rw [putH_other L bs _ (List.nodup_cons.1 hnd).1, List.getElem?_set, if_pos rfl, if_pos hj]
  | j0 :: L, b0 :: bs, h, i + 1, j, b, hnd, hi, hb, hj => by
    simp only [putH]
    exact putH_at (List.nodup_cons.1 hnd).2 (by simpa using hi) (by simpa using hb) (by simpa using hj)
  | [], _, _, _, _, _, _, hi, _, _ => by simp at hi
  | _ :: _, [], _, _, _, _, _, _, hb, _ => by simp at hb

def backL (L : List Nat) (N m k : Nat) : Nat := match L[k]? with
  | some j => j
  | none => N + (k - m)

section
variable {P : Program} {n : Nat × Nat} {ops : Array Oper} {rest : List Oper} {env : Env} {h : Hp} {K : Env → Hp → Prop}
variable {d : Option Nat} {ty : TypeId} {pos : String} {af : Array Edge}

theorem vc_split {op : Op} {j t : Nat} {want b : Bool} (hj : (ops[j]?).bind (·.dst) = some t) (hl : look env t = some (.b b)) (ht : b = true → VC P n ops (⟨d, op, ty, pos, af, some (j, want)⟩ :: rest) env h K) (hf : b = false → VC P n ops (⟨d, op, ty, pos, af, some (j, want)⟩ :: rest) env h K) : VC P n ops (⟨d, op, ty, pos, af, some (j, want)⟩ :: rest) env h K := by
  cases b
  · exact hf rfl
  · exact ht rfl

theorem gT {op : Op} {d : Option Nat} {j t : Nat} {want : Bool} (ht : VC P n ops (⟨d, op, ty, pos, af, none⟩ :: rest) env h K) (hj : (ops[j]?).bind (·.dst) = some t := by rfl) (hl : look env t = some (.b want) := by rfl) (hd : okd d n = true := by rfl) : VC P n ops (⟨d, op, ty, pos, af, some (j, want)⟩ :: rest) env h K := vc_gt hj hl ht hd
theorem gF {op : Op} {d : Option Nat} {j t : Nat} {want : Bool} (hf : VC P n ops rest (putd d (.v undef) env) h K) (hj : (ops[j]?).bind (·.dst) = some t := by rfl) (hl : look env t = some (.b (!want)) := by rfl) (hd : okd d n = true := by rfl) : VC P n ops (⟨d, op, ty, pos, af, some (j, want)⟩ :: rest) env h K := vc_gf hj hl hf hd
theorem gU {op : Op} {d : Option Nat} {j t : Nat} {want : Bool} (hf : VC P n ops rest (putd d (.v undef) env) h K) (hj : (ops[j]?).bind (·.dst) = some t := by rfl) (hl : look env t = some (.v undef) := by rfl) (hd : okd d n = true := by rfl) : VC P n ops (⟨d, op, ty, pos, af, some (j, want)⟩ :: rest) env h K := vc_gu hj hl hf hd
theorem mV {dd : Nat} {x : Operand} {u : AV} (hk : VC P n ops rest ((dd, u) :: env) h K) (hx : evu env x = some u := by rfl) (hd : Nat.blt dd n.1 = true := by rfl) : VC P n ops (⟨some dd, .move x, ty, pos, af, none⟩ :: rest) env h K := vc_v (fs_move hx) hd hk
theorem aV {dd : Nat} {x : Operand} {u : AV} (hk : VC P n ops rest ((dd, u) :: env) h K) (hx : evu env x = some u := by rfl) (hd : Nat.blt dd n.1 = true := by rfl) : VC P n ops (⟨some dd, .assign x, ty, pos, af, none⟩ :: rest) env h K := vc_v (fs_assign hx) hd hk
theorem fV (T : Tab P) {dd t f k : Nat} {x : Operand} {u z : AV} (hk : VC P n ops rest ((dd, z) :: env) h K) (hx : evu env x = some u := by rfl) (hf : T.field t f = some k := by rfl) (hz : u.plus k = some z := by rfl) (hd : Nat.blt dd n.1 = true := by rfl) : VC P n ops (⟨some dd, .fieldAddr t x f, ty, pos, af, none⟩ :: rest) env h K := vc_v (fs_fieldAddr T hx hf hz) hd hk
theorem lV (T : Tab P) {dd t : Nat} {i : TI} {x : Operand} {u z : AV} {cs : List AV} {off : Nat} (hk : VC P n ops rest ((dd, z) :: env) h K) (hx : evu env x = some u := by rfl) (ht : T.ti t = some i := by rfl) (hb : behind h u = some (cs, off) := by rfl) (hz : loadAV i cs off = some z := by rfl) (hd : Nat.blt dd n.1 = true := by rfl) : VC P n ops (⟨some dd, .load t x, ty, pos, af, none⟩ :: rest) env h K := vc_v (fs_load T hx ht hb hz) hd hk
theorem nV {dd : Nat} {x : Operand} {u z : AV} (hk : VC P n ops rest ((dd, u) :: env) h K) (hx : evu env x = some u := by rfl) (hz : u.plus 0 = some z := by rfl) (hd : Nat.blt dd n.1 = true := by rfl) : VC P n ops (⟨some dd, .nilCheck x, ty, pos, af, none⟩ :: rest) env h K := vc_v (fs_nilCheck hx hz) hd hk
theorem xV {dd : Nat} {x : Operand} {vs : List AV} {j : Nat} {z : AV} (hk : VC P n ops rest ((dd, z) :: env) h K) (hx : evu env x = some (.tup vs) := by rfl) (hz : vs[j]? = some z := by rfl) (hd : Nat.blt dd n.1 = true := by rfl) : VC P n ops (⟨some dd, .extract x j, ty, pos, af, none⟩ :: rest) env h K := vc_v (fs_extract hx hz) hd hk
theorem vV {dd : Nat} {op : Op} {u : AV} (hs : FStep P ⟨some dd, op, ty, pos, af, none⟩ env h 0 (fun _ => u) (fun _ => [])) (hk : VC P n ops rest ((dd, u) :: env) h K) (hd : Nat.blt dd n.1 = true := by rfl) : VC P n ops (⟨some dd, op, ty, pos, af, none⟩ :: rest) env h K := vc_v hs hd hk
def pkA (b : Bool) (u v : Option AV) : Option AV := match b with
  | true => u
  | false => v
theorem pV {dd : Nat} {c x y : Operand} {b : Bool} {r : AV} (hk : VC P n ops rest ((dd, r) :: env) h K) (hc : evu env c = some (.b b) := by rfl) (hr : pkA b (evu env x) (evu env y) = some r := by rfl) (hd : Nat.blt dd n.1 = true := by rfl) : VC P n ops (⟨some dd, .pick c x y, ty, pos, af, none⟩ :: rest) env h K := by
  cases b
  · exact vc_v (fs_pickf hc hr) hd hk
  · exact vc_v (fs_pickt hc hr) hd hk
def lenA : AV → Option Nat
  | .sl _ _ len _ => some len
  | .row _ len _ => some len
  | _ => none
theorem qV (T : Tab P) {dd t e m : Nat} {x : Operand} {u : AV} (hk : VC P n ops rest ((dd, .i (m : Int)) :: env) h K) (hx : evu env x = some u := by rfl) (ha : T.elem t = some e := by rfl) (hm : lenA u = some m := by rfl) (hd : Nat.blt dd n.1 = true := by rfl) : VC P n ops (⟨some dd, .call { callee := .builtin .len, args := #[x], argTypes := #[t] }, ty, pos, af, none⟩ :: rest) env h K := by
  cases u with
  | sl k off len sz => cases hm; exact vc_v (fs_lenOwn T hx ha) hd hk
  | row cs len sz => cases hm; exact vc_v (fs_lenRow T hx ha) hd hk
  | _ => cases hm
theorem wT {x : Operand} {p q : Code} {Q : Exit → Env → Hp → Prop} (ht : AW P n p env h Q) (hx : ev env x = some (.b true) := by rfl) : AW P n (.cond x p q) env h Q := aw_condt hx ht
theorem wU {x : Operand} {p q : Code} {Q : Exit → Env → Hp → Prop} (hf : AW P n q env h Q) (hx : ev env x = some (.b false) := by rfl) : AW P n (.cond x p q) env h Q := aw_condf hx hf
theorem kC {g : Option (Nat × Bool)} {x : Operand} {f : FuncId} {fs cs us xs : List AV} {args : List Operand} {ats : Array TypeId} {res : AV} (hc : ACall P f xs [] res []) (hx : evu env x = some (.clo (.func f) fs cs) := by rfl) (ha : evL env args = some us := by rfl) (he : fs ++ us ++ cs = xs := by rfl) (hi : AV.idfL xs = true := by rfl) (hr : res.idf = true := by rfl) :
    FStep P ⟨d, .call { callee := .value x, args := args.toArray, argTypes := ats }, ty, pos, af, g⟩ env h 0 (fun _ => res) (fun _ => []) := fs_call0 hx ha hc he hi hr
def knownG : Option AV → Bool
  | some (.v (.bool true)) => true
  | some (.v (.bool false)) => true
  | some (.v _) => true
  | _ => false
theorem gK {op : Op} {d : Option Nat} {j t : Nat} {want : Bool} (hk : VC P n ops (⟨d, op, ty, pos, af, some (j, want)⟩ :: rest) env h K) (hj : (ops[j]?).bind (·.dst) = some t := by rfl) (hl : knownG (look env t) = true := by rfl) : VC P n ops (⟨d, op, ty, pos, af, some (j, want)⟩ :: rest) env h K := hk
theorem un_v (x : Value) : (AV.v x).un = .v x := rfl
theorem un_ptr (k o : Nat) : (AV.ptr k o).un = .ptr k o := rfl
theorem un_ep (k i o s : Nat) : (AV.ep k i o s).un = .ep k i o s := rfl
theorem un_pr (c : List AV) (o : Nat) : (AV.pr c o).un = .pr c o := rfl
theorem un_sl (k o l s : Nat) : (AV.sl k o l s).un = .sl k o l s := rfl
theorem un_mp (k : Nat) : (AV.mp k).un = .mp k := rfl
theorem un_row (c : List AV) (l s : Nat) : (AV.row c l s).un = .row c l s := rfl
theorem un_agg (c : List AV) : (AV.agg c).un = .agg c := rfl
theorem un_tup (c : List AV) : (AV.tup c).un = .tup c := rfl
theorem un_clo (f : Fn) (a b : List AV) : (AV.clo f a b).un = .clo f a b := rfl
theorem HS.hand {c : Ctx} {ρ : Pl} {S : Nat → Prop} {w : World} {hin : Hp} {L : List Nat} (s : HS c ρ S h w) (hL : L.length = hin.length) (hnd : L.Nodup) (hh : SubH (th L h.length) h 0 hin) :
    HS (ctx0 w (fun k => ρ (th L h.length k)) S hin) (fun k => ρ (th L h.length k)) S hin w := by
  have s0 : HS { c with m := 0 } ρ S h w := ⟨s.dom, s.rng, s.blk, s.live, s.inj, s.stab, s.ext, s.st0, s.st1, Nat.zero_le _, fun k hk => absurd hk (Nat.not_lt_zero _), s.glob⟩
  have s1 := s0.sub hL hh hnd (fun i hi => absurd hi (Nat.not_lt_zero _))
  refine ⟨s1.dom, s1.rng, s1.blk, fun k b p hb hg hp => ⟨.inr ⟨k, b, p.2, hb, hg, hp⟩, (s1.live k b p hb hg hp).2⟩, s1.inj, s1.stab, Ext.refl _ _, fun _ h => h, fun _ h => .inl h, Nat.le_refl _, fun _ _ => rfl, s1.glob⟩

theorem vc_callw (L : List Nat) {x : Operand} {f : FuncId} {fs cs us xs : List AV} {args : List Operand} {ats : Array TypeId} {res : AV} {hin hout : Hp} (hx : evu env x = some (.clo (.func f) fs cs)) (ha : evL env args = some us)
    (hc : ACall P f xs hin res hout) (hxs : fs ++ us ++ cs = AV.mapL (th L h.length) xs) (hL : L.length = hin.length) (hnd : L.Nodup) (hh : SubH (th L h.length) h 0 hin) (hng : ∀ b, b ∈ hin → b ≠ .gone) (hd : okd d n = true)
    (hk : VC P n ops rest (putd d (res.map (backL L h.length hin.length)) env) (putH h L ((hout.take hin.length).map (AB.map (backL L h.length hin.length))) ++ (hout.drop hin.length).map (AB.map (backL L h.length hin.length))) K) :
    VC P n ops (⟨d, .call { callee := .value x, args := args.toArray, argTypes := ats }, ty, pos, af, none⟩ :: rest) env h K := by
  intro c ρ S a w Q s hQ
  refine wpList_plain rfl fun K' hK' => ?_
  have p := s.pre
  have hxv := p.evu hx
  simp only [R] at hxv
  obtain ⟨ys, zs, e1, h1, h2⟩ := hxv
  have hall : RL S w (fs ++ us ++ cs) ρ (ys.toList ++ args.map a.eval ++ zs.toList) := RL_append (RL_append h1 (evL_val p ha)) h2
  rw [hxs] at hall
  have hargs := RL_map (th L h.length) ρ _ _ hall
  obtain ⟨hf, hc⟩ := hc
  have hs0 := s.hs.hand hL hnd hh
  have hcall := hc _ S w _ hs0 hargs
  unfold Oper.wp
  have hrun : (execOp a.eval ⟨d, .call { callee := .value x, args := args.toArray, argTypes := ats }, ty, pos, af, none⟩).run P w = .ok (.enter f (ys.toList ++ args.map a.eval ++ zs.toList).toArray) w := by
    have e2 : (ys ++ (args.toArray.map a.eval) ++ zs) = (ys.toList ++ args.map a.eval ++ zs.toList).toArray := by
      apply Array.ext'; simp
    simp only [execOp, resolve, e1, Deferred.ofValue, Sem.run_bind, Sem.run_pure, Result.andThen_ok, invoke]
    rw [e2]
    exact run_call hf
  rw [hrun]
  simp only [Oper.upon]
  refine hcall.mono ?_
  rintro e w' ⟨y, ρ', S', rfl, hs, hy⟩
  simp only
  refine hK' _ _ (hk c (fun k => if k < h.length then ρ k else ρ' (hin.length + (k - h.length))) S' _ w' Q ?_ hQ)
  -- the objects handed over
  have hin_at : ∀ {i : Nat} {b : AB}, hin[i]? = some b → ∃ j, L[i]? = some j ∧ j < h.length ∧ h[j]? = some (b.map (th L h.length)) ∧ b.map (th L h.length) ≠ .gone := fun {i b} hb => by
    have hne := hng b (List.mem_of_getElem? hb)
    have hlt : i < L.length := by rw [hL]; exact (List.getElem?_eq_some_iff.1 hb).1
    have hj := List.getElem?_eq_getElem hlt
    have hth : th L h.length i = L[i] := by simp [th, hj]
    rcases hh.get i b hb with hg | hg
    · exact absurd hg hne
    · rw [Nat.zero_add, hth] at hg
      exact ⟨L[i], hj, (List.getElem?_eq_some_iff.1 hg).1, hg, by cases b <;> simp [AB.map] at * ⟩
  have hmle := hs.mle
  have hmle' : hin.length ≤ hout.length := hmle
  have thL : ∀ {i j : Nat}, L[i]? = some j → th L h.length i = j := fun hi => by simp [th, hi]
  have keep : ∀ {i j : Nat}, i < hin.length → L[i]? = some j → ρ' i = ρ j := fun {i j} hi hj => by
    have := hs.keep i hi
    simp only [ctx0] at this
    rw [this, thL hj]
  -- where the callee may write
  have hM : ∀ b, (ctx0 w (fun k => ρ (th L h.length k)) S hin).M b → w.heap.size ≤ b ∨ ∃ (i j : Nat) (o : Nat) (x : AB), hin[i]? = some x ∧ L[i]? = some j ∧ ρ j = some (b, o) := fun b hb => by
    rcases hb with hb | ⟨k, x, o, hb, _, hp⟩
    · exact .inl hb
    · obtain ⟨j, h3, _⟩ := hin_at hb
      exact .inr ⟨k, j, o, x, hb, h3, by rw [← thL h3]; exact hp⟩
  have hcM : ∀ b, (ctx0 w (fun k => ρ (th L h.length k)) S hin).M b → c.M b := fun b hb => by
    rcases hM b hb with hb | ⟨i, j, o, x, h3, h4, h5⟩
    · exact c.new b (Nat.le_trans s.hs.ext.size hb)
    · obtain ⟨j', h6, _, h7, h8⟩ := hin_at h3
      rw [h4] at h6; cases h6
      exact (s.hs.live j _ _ h7 h8 h5).1
  have hlow : ∀ b, b < w.heap.size → (ctx0 w (fun k => ρ (th L h.length k)) S hin).M b → ∃ (i j : Nat) (o : Nat) (x : AB), hin[i]? = some x ∧ L[i]? = some j ∧ ρ j = some (b, o) := fun b hlt hb => by
    rcases hM b hb with hb | hb
    · omega
    · exact hb
  -- a live object that was not handed over: its block is left alone
  have other : ∀ {k : Nat} {b : AB} {q : Nat × Nat}, h[k]? = some b → b ≠ .gone → k ∉ L → ρ k = some q → ¬ (ctx0 w (fun k => ρ (th L h.length k)) S hin).M q.1 := fun {k b q} hb hg hkL hq hm => by
    obtain ⟨i, j, o, x, h3, h4, h5⟩ := hlow q.1 (s.hs.rng k q hq) hm
    obtain ⟨j', h6, _, h7, h8⟩ := hin_at h3
    rw [h4] at h6; cases h6
    have := s.hs.inj k j _ _ q _ hb h7 hg h8 hq h5 rfl
    subst this
    exact hkL (List.mem_of_getElem? h4)
  have stM : ∀ b, S b → ¬ (ctx0 w (fun k => ρ (th L h.length k)) S hin).M b := fun b hb hm => by
    obtain ⟨i, j, o, x, h3, h4, h5⟩ := hlow b (s.hs.stab b hb) hm
    obtain ⟨j', h6, _, h7, h8⟩ := hin_at h3
    rw [h4] at h6; cases h6
    exact (s.hs.live j _ _ h7 h8 h5).2 hb
  have same : ∀ b, b < w.heap.size → ¬ (ctx0 w (fun k => ρ (th L h.length k)) S hin).M b → w'.heap[b]? = w.heap[b]? := fun b hb hm => hs.ext.same b hb hm
  have l : Later ρ (fun k => if k < h.length then ρ k else ρ' (hin.length + (k - h.length))) S S' w w' := by
    refine ⟨fun k q hq => ?_, hs.st0, fun b hb => same b (s.hs.stab b hb) (stM b hb), fun _ _ _ _ _ hr => hs.ext.room hr⟩
    have hlt : k < h.length := by
      rcases Nat.lt_or_ge k h.length with h3 | h3
      · exact h3
      · rw [s.hs.dom k h3] at hq; cases hq
    simp only [if_pos hlt]; exact hq
  -- the callee's places, seen by the caller
  have pl : ∀ k q, ρ' k = some q → (fun k => if k < h.length then ρ k else ρ' (hin.length + (k - h.length))) (backL L h.length hin.length k) = some q := fun k q hq => by
    by_cases hk : k < hin.length
    · have hj := List.getElem?_eq_getElem (l := L) (i := k) (by omega)
      have hb := List.getElem?_eq_getElem hk
      obtain ⟨j, h3, h4, _⟩ := hin_at hb
      have hbk : backL L h.length hin.length k = j := by simp [backL, h3]
      rw [hbk]
      simp only [if_pos h4]
      rw [← keep hk h3]; exact hq
    · have hbk : backL L h.length hin.length k = h.length + (k - hin.length) := by
        unfold backL
        rw [List.getElem?_eq_none (by omega)]
      rw [hbk]
      simp only
      rw [if_neg (by omega), show hin.length + (h.length + (k - hin.length) - h.length) = k by omega]
      exact hq
  have shift : ∀ {x : AV} {y : Value}, R S' w' x ρ' y → R S' w' (x.map (backL L h.length hin.length)) (fun k => if k < h.length then ρ k else ρ' (hin.length + (k - h.length))) y := fun {x y} hx => R_map' _ _ x y (R_later (fun _ h => h) (fun _ _ => rfl) x ρ' _ y pl (fun _ _ _ _ _ h => h) hx)
  have shiftB : ∀ {b : AB} {pp}, RB S' w' ρ' pp b → RB S' w' (fun k => if k < h.length then ρ k else ρ' (hin.length + (k - h.length))) pp (b.map (backL L h.length hin.length)) := fun {b pp} hb => RB_map' _ _ (RB.later (ρ := ρ') (S := S') ⟨pl, fun _ h => h, fun _ _ => rfl, fun _ _ _ _ _ h => h⟩ (fun _ _ _ => rfl) hb)
  -- what stands at a place behind the call
  have get : ∀ {k : Nat} {b : AB}, (putH h L ((hout.take hin.length).map (AB.map (backL L h.length hin.length))) ++ (hout.drop hin.length).map (AB.map (backL L h.length hin.length)))[k]? = some b →
      (k < h.length ∧ k ∉ L ∧ h[k]? = some b) ∨ (∃ (i : Nat) (b' : AB), hout[i]? = some b' ∧ b = b'.map (backL L h.length hin.length) ∧ backL L h.length hin.length i = k ∧ (if k < h.length then ρ k else ρ' (hin.length + (k - h.length))) = ρ' i ∧ ((i < hin.length ∧ L[i]? = some k) ∨ (hin.length ≤ i ∧ k = h.length + (i - hin.length)))) := fun {k b} hb => by
    by_cases hk : k < h.length
    · rw [List.getElem?_append_left (by rw [putH_length]; exact hk)] at hb
      by_cases hkL : k ∈ L
      · obtain ⟨i, hi⟩ := List.mem_iff_getElem?.1 hkL
        have hiL : i < hin.length := by rw [← hL]; exact (List.getElem?_eq_some_iff.1 hi).1
        have hb' := List.getElem?_eq_getElem (l := hout) (i := i) (by omega)
        rw [putH_at (b := (hout[i]'(by omega)).map (backL L h.length hin.length)) hnd hi (by simp [hiL, hb']) hk] at hb
        simp only [Option.some.injEq] at hb
        exact .inr ⟨i, _, hb', hb.symm, by simp [backL, hi], by rw [if_pos hk]; exact (keep hiL hi).symm, .inl ⟨hiL, hi⟩⟩
      · rw [putH_other _ _ _ hkL] at hb
        exact .inl ⟨hk, hkL, hb⟩
    · rw [List.getElem?_append_right (by rw [putH_length]; omega), putH_length, List.getElem?_map, List.getElem?_drop] at hb
      obtain ⟨b', h3, h4⟩ := Option.map_eq_some_iff.1 hb
      refine .inr ⟨hin.length + (k - h.length), b', h3, h4.symm, ?_, by rw [if_neg hk], .inr ⟨by omega, by omega⟩⟩
      unfold backL
      rw [List.getElem?_eq_none (by omega)]
      simp only; omega
  have mapg : ∀ {θ : Nat → Nat} {b : AB}, b.map θ ≠ .gone → b ≠ .gone := fun hb e => hb (by rw [e]; rfl)
  refine ⟨by rw [size_put]; exact s.size, by rw [defers_put]; exact s.defers.later l, env_put s.size hd (fun t u hu => (s.env t u hu).later l) (shift hy), ?_, s.cm⟩
  refine ⟨fun k hk => ?_, fun k q hq => ?_, fun k b hb => ?_, fun k b q hb hg hq => ?_, fun k k' b b' q q' hb hb' hg hg' hq hq' e => ?_, hs.stab, s.hs.ext.trans hs.ext (fun b hb hlt => hcM b hb), fun b hb => hs.st0 b (s.hs.st0 b hb), fun b hb => ?_, ?_, fun k hk => ?_, hs.glob⟩
  · simp only [List.length_append, putH_length, List.length_map, List.length_drop] at hk
    rw [if_neg (by omega)]
    exact hs.dom _ (by omega)
  · split at hq
    · exact Nat.lt_of_lt_of_le (s.hs.rng k q hq) hs.ext.size
    · exact hs.rng _ q hq
  · rcases get hb with ⟨h3, h4, h5⟩ | ⟨i, b', h3, rfl, h4, h5, h6⟩
    · simp only [if_pos h3]
      by_cases hg : b = .gone
      · subst hg; trivial
      · exact RB.later l (fun b1 o1 hp => same b1 (s.hs.rng k _ hp) (other h5 hg h4 hp)) (s.hs.blk k b h5)
    · rw [h5]
      exact shiftB (hs.blk i b' h3)
  · rcases get hb with ⟨h3, h4, h5⟩ | ⟨i, b', h3, rfl, h4, h5, h6⟩
    · simp only [if_pos h3] at hq
      obtain ⟨h7, h8⟩ := s.hs.live k b q h5 hg hq
      refine ⟨h7, fun hs' => ?_⟩
      rcases hs.st1 _ hs' with h9 | h9
      · exact h8 h9
      · exact other h5 hg h4 hq h9
    · rw [h5] at hq
      obtain ⟨h7, h8⟩ := hs.live i b' q h3 (mapg hg) hq
      exact ⟨hcM _ h7, h8⟩
  · rcases get hb with ⟨h3, h4, h5⟩ | ⟨i, b1, h3, rfl, h4, h5, h6⟩ <;> rcases get hb' with ⟨h3', h4', h5'⟩ | ⟨i', b1', h3', rfl, h4', h5', h6'⟩
    · simp only [if_pos h3] at hq
      simp only [if_pos h3'] at hq'
      exact s.hs.inj k k' b b' q q' h5 h5' hg hg' hq hq' e
    · simp only [if_pos h3] at hq
      rw [h5'] at hq'
      have hl := (hs.live i' b1' q' h3' (mapg hg') hq').1
      rw [← e] at hl
      exact absurd hl (other h5 hg h4 hq)
    · simp only [if_pos h3'] at hq'
      rw [h5] at hq
      have hl := (hs.live i b1 q h3 (mapg hg) hq).1
      rw [e] at hl
      exact absurd hl (other h5' hg' h4' hq')
    · rw [h5] at hq
      rw [h5'] at hq'
      have := hs.inj i i' b1 b1' q q' h3 h3' (mapg hg) (mapg hg') hq hq' e
      subst this
      rw [← h4, ← h4']
  · rcases hs.st1 b hb with hb' | hb'
    · exact s.hs.st1 b hb'
    · exact .inr (hcM b hb')
  · simp only [List.length_append, putH_length]
    exact Nat.le_trans s.hs.mle (Nat.le_add_right _ _)
  · have hlt := Nat.lt_of_lt_of_le hk s.hs.mle
    simp only [if_pos hlt]
    exact s.hs.keep k hk
end
end Go.Ab

/-! A logic of values for the walk, eighteenth part: min and max of several, an empty slice with no room, what is not looked at any more. -/
namespace Go.Ab
open Go
set_option linter.unusedVariables false
set_option linter.unusedSimpArgs false

section
variable {P : Program} {env : Env} {h : Hp}
variable {d : Option Nat} {ty : TypeId} {pos : String} {af : Array Edge} {g : Option (Nat × Bool)}
end

section
variable {P : Program} {n : Nat × Nat} {ops : Array Oper} {env : Env} {h : Hp} {Q : Exit → Env → Hp → Prop} {code : Code}
end

/-! ### Lists that are not known element by element -/
theorem mapL_idfs (θ : Nat → Nat) : ∀ {es : List (List AV)}, (∀ e, e ∈ es → AV.idfL e = true) → es.map (AV.mapL θ) = es
  | [], _ => rfl
  | e :: es, h => by simp only [List.map_cons]; rw [mapL_idf θ e (h e (by simp)), mapL_idfs θ fun q hq => h q (by simp [hq])]
theorem sub_arr {h : Hp} {i sz : Nat} {θ : Nat → Nat} {es es' : List (List AV)} (hk : h[i]? = some (.arr es' sz)) (he : es' = es) (hi : ∀ e, e ∈ es → AV.idfL e = true) : h[i]? = some ((AB.arr es sz).map θ) := by
  subst he
  rw [hk]
  simp only [AB.map, mapL_idfs θ hi]
theorem behind_ep {h : Hp} {k i off sz : Nat} {es : List (List AV)} {c : List AV} (hk : h[k]? = some (.arr es sz)) (hc : es[i]? = some c) : behind h (.ep k i off sz) = some (c, off) := by
  simp only [behind, hk, hc, Nat.beq_refl]
end Go.Ab

/-! A logic of values for the walk, nineteenth part: stores among the operations that may come in more than one order. -/
namespace Go.Ab
open Go
set_option linter.unusedVariables false
set_option linter.unusedSimpArgs false

theorem vc_nilp {P : Program} {n : Nat × Nat} {env : Env} {h : Hp} {K : Env → Hp → Prop} {ops : Array Oper} {env' : Env} {h' : Hp} (he : (env, h) = (env', h')) (hk : K env' h') : VC P n ops [] env h K := by
  cases he
  exact vc_nil hk

def applyS (L : Nat → Bool) : List (Nat × Nat) → List AB → Hp → Hp
  | (s, k) :: r, b :: bs, h => applyS L r bs (match L s with | true => h.set k b | false => h)
  | _, _, h => h
def seeS (pre bef : Nat → Bool) : List (Nat × Nat) → List AB → Hp → Hp
  | (s, k) :: r, b :: bs, h => seeS pre bef r bs (match pre s with | true => h.set k b | false => match bef s with | true => h | false => h.set k .gone)
  | (s, k) :: r, [], h => seeS pre bef r [] (match bef s with | true => h | false => h.set k .gone)
  | [], _, h => h
def seeH (pres : List (List Nat)) (i : Nat) (pre : List Nat) (ss : List (Nat × Nat)) (bs : List AB) (h : Hp) : Hp :=
  seeS (fun s => pre.any (Nat.beq s)) (fun s => Nat.beq s i || (pres.getD s []).any (Nat.beq i)) ss bs h
def okS (pres : List (List Nat)) : List (Nat × Nat) → Bool
  | [] => true
  | (s, k) :: r => (r.all fun x => !Nat.beq x.1 s && (!Nat.beq x.2 k || (pres.getD x.1 []).any (Nat.beq s))) && okS pres r

theorem applyS_len (L : Nat → Bool) : ∀ (ss : List (Nat × Nat)) (bs : List AB) (h : Hp), (applyS L ss bs h).length = h.length
  | [], _, _ => rfl
  | _ :: _, [], _ => rfl
  | (s, k) :: r, b :: bs, h => by
    simp only [applyS]; rw [applyS_len L r bs]; cases L s <;> simp
theorem seeS_len (pre bef : Nat → Bool) : ∀ (ss : List (Nat × Nat)) (bs : List AB) (h : Hp), (seeS pre bef ss bs h).length = h.length
  | [], _, _ => rfl
  | (s, k) :: r, [], h => by simp only [seeS]; rw [seeS_len pre bef r []]; cases bef s <;> simp
  | (s, k) :: r, b :: bs, h => by
    simp only [seeS]; rw [seeS_len pre bef r bs]; cases pre s <;> cases bef s <;> simp
theorem applyS_congr {L L' : Nat → Bool} : ∀ (ss : List (Nat × Nat)) (bs : List AB) (h : Hp), (∀ x, x ∈ ss → L x.1 = L' x.1) → applyS L ss bs h = applyS L' ss bs h
  | [], _, _, _ => rfl
  | _ :: _, [], _, _ => rfl
  | (s, k) :: r, b :: bs, h, hx => by
    simp only [applyS]
    rw [hx (s, k) List.mem_cons_self, applyS_congr r bs _ (fun x h => hx x (List.mem_cons_of_mem _ h))]

theorem set_below {h1 h2 : Hp} (hl : h1.length = h2.length) (hb : ∀ (j : Nat) b, h1[j]? = some b → b ≠ .gone → h2[j]? = some b) (k : Nat) (b' : AB) : ∀ (j : Nat) b, (h1.set k b')[j]? = some b → b ≠ .gone → (h2.set k b')[j]? = some b := by
  intro j b hj hg
  rw [List.getElem?_set] at hj ⊢
  rw [← hl]
  split
  · rename_i e; rw [if_pos e] at hj; exact hj
  · rename_i e; rw [if_neg e] at hj; exact hb j b hj hg
theorem gone_below {h1 h2 : Hp} (hb : ∀ (j : Nat) b, h1[j]? = some b → b ≠ .gone → h2[j]? = some b) (k : Nat) : ∀ (j : Nat) b, (h1.set k .gone)[j]? = some b → b ≠ .gone → j ≠ k ∧ h2[j]? = some b := by
  intro j b hj hg
  rw [List.getElem?_set] at hj
  split at hj
  · split at hj
    · cases hj; exact absurd rfl hg
    · cases hj
  · rename_i e; exact ⟨fun e' => e e'.symm, hb j b hj hg⟩
theorem see_below {L pre bef : Nat → Bool} : ∀ (ss : List (Nat × Nat)) (bs : List AB) (h1 h2 : Hp), bs.length = ss.length → h1.length = h2.length → (∀ (j : Nat) b, h1[j]? = some b → b ≠ .gone → h2[j]? = some b) →
    (∀ x, x ∈ ss → pre x.1 = true → L x.1 = true) → (∀ x, x ∈ ss → pre x.1 = false → bef x.1 = true → L x.1 = false) → ∀ (j : Nat) b, (seeS pre bef ss bs h1)[j]? = some b → b ≠ .gone → (applyS L ss bs h2)[j]? = some b
  | [], _, _, _, _, _, hb, _, _ => hb
  | _ :: _, [], _, _, hl, _, _, _, _ => by simp at hl
  | (s, k) :: r, b' :: bs, h1, h2, hl, hl2, hb, hp, hn => by
    simp only [seeS, applyS]
    have h3 := hp (s, k) List.mem_cons_self
    have h4 := hn (s, k) List.mem_cons_self
    simp only at h3 h4
    refine see_below r bs _ _ (by simpa using hl) ?_ ?_ (fun x hx => hp x (List.mem_cons_of_mem _ hx)) (fun x hx => hn x (List.mem_cons_of_mem _ hx))
    · cases pre s <;> cases bef s <;> cases L s <;> simpa using hl2
    · cases hps : pre s with
      | true =>
        rw [h3 hps]
        exact set_below hl2 hb k b'
      | false =>
        cases hbs : bef s with
        | true => rw [h4 hps hbs]; exact hb
        | false =>
          intro j b hj hg
          obtain ⟨h5, h6⟩ := gone_below hb k j b hj hg
          cases L s with
          | true => simp only; rw [List.getElem?_set_ne (fun e => h5 e.symm)]; exact h6
          | false => exact h6
theorem seeS_app {pre bef : Nat → Bool} : ∀ (ss : List (Nat × Nat)) (don mb : List AB) (h : Hp), (∀ x, x ∈ ss.drop don.length → pre x.1 = false) → seeS pre bef ss (don ++ mb) h = seeS pre bef ss don h
  | [], _, _, _, _ => rfl
  | (s, k) :: r, [], [], h, _ => by simp only [List.append_nil]
  | (s, k) :: r, [], b :: mb, h, hx => by
    have h1 := hx (s, k) List.mem_cons_self
    have h2 := seeS_app (pre := pre) (bef := bef) r [] mb (match bef s with | true => h | false => h.set k .gone) (fun x hx' => hx x (by simpa using List.mem_cons_of_mem _ hx'))
    simp only at h1
    simp only [List.nil_append, seeS, h1] at h2 ⊢
    exact h2
  | (s, k) :: r, b :: don, mb, h, hx => by
    simp only [List.cons_append, seeS]
    exact seeS_app r don mb _ (fun x hx' => hx x (by simpa using hx'))
theorem applyS_set {L : Nat → Bool} : ∀ (ss : List (Nat × Nat)) (bs : List AB) (h : Hp) (k : Nat) (b : AB), (∀ x, x ∈ ss → L x.1 = true → x.2 ≠ k) → applyS L ss bs (h.set k b) = (applyS L ss bs h).set k b
  | [], _, _, _, _, _ => rfl
  | _ :: _, [], _, _, _, _ => rfl
  | (s, k') :: r, b' :: bs, h, k, b, hx => by
    simp only [applyS]
    have h1 := hx (s, k') List.mem_cons_self
    simp only at h1
    rw [← applyS_set r bs _ k b (fun x h => hx x (List.mem_cons_of_mem _ h))]
    cases hL : L s with
    | true => simp only; rw [List.set_comm _ _ (fun e => h1 hL e.symm)]
    | false => rfl
theorem applyS_one {pres : List (List Nat)} {L L' : Nat → Bool} {s k : Nat} {b : AB} : ∀ (ss : List (Nat × Nat)) (bs : List AB) (h : Hp) (m : Nat), okS pres ss = true → ss[m]? = some (s, k) → bs[m]? = some b → L s = false → (∀ j, L' j = (L j || Nat.beq j s)) →
    (∀ x, x ∈ ss → L x.1 = true → ∀ j, j ∈ pres.getD x.1 [] → L j = true) → applyS L' ss bs h = (applyS L ss bs h).set k b
  | [], _, _, m, _, hs, _, _, _, _ => by simp at hs
  | _ :: _, [], _, m, _, _, hb, _, _, _ => by simp at hb
  | (s0, k0) :: r, b0 :: bs, h, m, hok, hs, hb, hL, hL', hcl => by
    simp only [okS, Bool.and_eq_true, List.all_eq_true] at hok
    obtain ⟨h1, h2⟩ := hok
    simp only [applyS]
    cases m with
    | zero =>
      simp only [List.getElem?_cons_zero, Option.some.injEq, Prod.mk.injEq] at hs hb
      obtain ⟨rfl, rfl⟩ := hs
      subst hb
      rw [hL, hL', Nat.beq_refl, Bool.or_true]
      simp only
      rw [applyS_congr (L := L') (L' := L) r bs _ (fun x hx => by
        have := (h1 x hx).1
        rw [hL', show Nat.beq x.1 s0 = false from by simpa using this, Bool.or_false])]
      refine applyS_set r bs h k0 b0 fun x hx hLx e => ?_
      rcases Bool.or_eq_true_iff.1 (h1 x hx).2 with h3 | h3
      · rw [e, Nat.beq_refl] at h3; cases h3
      · have := hcl x (List.mem_cons_of_mem _ hx) hLx s0 (any_beq.1 h3)
        rw [hL] at this; cases this
    | succ m =>
      simp only [List.getElem?_cons_succ] at hs hb
      have hne : s0 ≠ s := fun e => by
        have := (h1 (s, k) (List.mem_of_getElem? hs)).1
        rw [e] at this; simp at this
      have e1 : L' s0 = L s0 := by
        rw [hL', show Nat.beq s0 s = false from by rw [← Bool.not_eq_true]; intro hb'; exact hne (Nat.eq_of_beq_eq_true hb'), Bool.or_false]
      rw [e1]
      exact applyS_one r bs _ m h2 hs hb hL hL' (fun x hx => hcl x (List.mem_cons_of_mem _ hx))

theorem seg_skip {L L' : Nat → Bool} : ∀ (l : List Eff) (i : Nat), (∀ (j : Nat) f, l[j]? = some f → L (i + j) = L' (i + j) ∨ f.new = []) → seg L i l = seg L' i l
  | [], _, _ => rfl
  | f :: r, i, hx => by
    simp only [seg]
    rw [seg_skip (L := L) (L' := L') r (i + 1) (fun j g hg => by rw [Nat.add_assoc, Nat.add_comm 1 j]; exact hx (j + 1) g (by simpa using hg))]
    rcases hx 0 f rfl with h1 | h1
    · rw [Nat.add_zero] at h1; rw [h1]
    · rw [h1]; cases L i <;> cases L' i <;> rfl

def SStep (P : Program) (o : Oper) (env : Env) (h : Hp) (k : Nat) (nb : AB) : Prop :=
  ∀ c ρ S a w H, HS c ρ S H w → Pre ρ S env h a w → (∀ (j : Nat) b, h[j]? = some b → b ≠ .gone → H[j]? = some b) → ∀ (K : Act → World → Prop) Q,
    (∀ y w', HS c ρ S (H.set k nb) w' → Later ρ ρ S S w w' → K (a.put none y) w') → o.wp P a w K Q

theorem SStep.more {P : Program} {o : Oper} {env env' : Env} {h : Hp} {k : Nat} {nb : AB} (hs : SStep P o env h k nb) (he : ∀ t u, look env t = some u → look env' t = some u) : SStep P o env' h k nb :=
  fun c ρ S a w H g p => hs c ρ S a w H g ⟨fun t u hu => p.env t u (he t u hu), p.rng, p.blk, p.live, p.stab, p.glob⟩

def updB (h : Hp) : AV → List AV → Option (Nat × AB)
  | .ptr k off, xs => match h[k]? with
    | some (.cells cs) => match Nat.ble (off + xs.length) cs.length with
      | true => some (k, .cells (putAt cs off xs))
      | false => none
    | _ => none
  | .ep k i off sz, xs => match h[k]? with
    | some (.arr es s) => match Nat.beq s sz, es[i]?, Nat.ble (off + xs.length) sz with
      | true, some c, true => some (k, .arr (es.set i (putAt c off xs)) s)
      | _, _, _ => none
    | _ => none
  | _, _ => none
theorem ss_store {P : Program} {env : Env} {h : Hp} {pos : String} {ty : TypeId} {af : Array Edge} (T : Tab P) {t : Nat} {i : TI} {x y : Operand} {u v : AV} {xs : List AV} {k : Nat} {nb : AB} (hx : evu env x = some u) (hy : evu env y = some v) (ht : T.ti t = some i) (hv : v.cellsOf = some xs) (hl : xs.length = i.size) (h1 : xs.all AV.one = true) (h0 : 0 < i.size) (hu : updB h u xs = some (k, nb)) :
    SStep P ⟨none, .store t x y, ty, pos, af, none⟩ env h k nb := by
  intro c ρ S a w H g p hH K' Q hK'
  have hxv := p.evu hx
  have hyv := cellsOf_val (p.evu hy) hv
  have hone := one_all hyv h1
  have hlen := RL_length hyv
  simp only [Array.length_toList] at hlen
  have run : ∀ {b o : Nat} {cc : Array Value} {e : TypeId}, a.eval x = .pointer (some ⟨b, o, none⟩) → w.heap[b]? = some (.cells cc e (0, 0)) → o + (a.eval y).cells.toList.length ≤ cc.size →
      (execOp a.eval ⟨none, .store t x y, ty, pos, af, none⟩).run P w = .ok .skip (w.setRow b (cc.toList.take o ++ (a.eval y).cells.toList ++ cc.toList.drop (o + (a.eval y).cells.toList.length)).toArray) := fun {b o cc e} he hc hle => by
    have hst := run_storeCells_at P b o e (a.eval y).cells.toList 0 cc w hc (by simpa using hle) hone
    simp only [Nat.add_zero] at hst
    simp only [execOp, he, Instr.storeAt, Instr.sureAddr, storeVar, Sem.run_bind, Sem.run_pure, Result.andThen_ok, T.sizeOf ht]
    rw [if_neg (by simp; omega)]
    simp only [hst, Result.andThen_ok]
  have fin : ∀ {k b o : Nat} {b0 nb : AB} {cc : Array Value} {e : TypeId} {off : Nat} {ys : List Value}, (∀ y w', HS c ρ S (H.set k nb) w' → Later ρ ρ S S w w' → K' (a.put none y) w') → h[k]? = some b0 → b0 ≠ .gone → ρ k = some (b, o) → w.heap[b]? = some (.cells cc e (0, 0)) → (∀ (j : Nat) (y : Value), ys[j]? = some y → cc[o + j]? = some y) → off + (a.eval y).cells.toList.length ≤ ys.length → a.eval x = .pointer (some ⟨b, o + off, none⟩) →
      (∀ w', Later ρ ρ S S w w' → holds w' b o (putAt ys off (a.eval y).cells.toList) → RB S w' ρ (some (b, o)) nb) →
      Oper.wp P ⟨none, .store t x y, ty, pos, af, none⟩ a w K' Q := fun {k b o b0 nb cc e off ys} hK' e2 e3 e4 e5 e6 e7 e8 e9 => by
    obtain ⟨f1, f2, f3⟩ := holds_write e5 e6 e7 (by simp; omega)
    have hr := run e8 e5 f1
    unfold Oper.wp
    rw [hr]
    obtain ⟨g1, g2⟩ := g.upd (hH _ _ e2 e3) e3 e4 (ext_setRow e5 f3) (fun l => e9 _ l f2)
    exact hK' _ _ g1 g2
  cases u with
  | ptr k off =>
    simp only [updB] at hu
    split at hu
    · rename_i cs hk'
      split at hu
      · rename_i hble
        cases hu
        have hle := Nat.le_of_ble_eq_true hble
        simp only [R] at hxv
        obtain ⟨b, o, hp, hev⟩ := hxv
        have hb := p.blk k _ hk'
        simp only [RB, hp] at hb
        obtain ⟨b', o', ys, hq, ⟨cc, e, hc, hcy⟩, hcs⟩ := hb
        cases hq
        have hyl := RL_length hcs
        refine fin hK' hk' (by simp) hp hc hcy (by simp; omega) hev fun w' l hh => ?_
        simp only [RB]
        exact ⟨b, o, _, rfl, hh, RL_put (hcs.later l) (hyv.later l)⟩
      · cases hu
    · cases hu
  | ep k j off sz =>
    simp only [updB] at hu
    split at hu
    · rename_i es s' hk'
      split at hu
      · rename_i cj hbeq hj hble
        cases hu
        have hsz := Nat.eq_of_beq_eq_true hbeq
        subst hsz
        have hle := Nat.le_of_ble_eq_true hble
        simp only [R] at hxv
        obtain ⟨b, o, hp, hev⟩ := hxv
        have hb := p.blk k _ hk'
        simp only [RB, hp] at hb
        obtain ⟨hes, hs0, hb⟩ := hb
        rcases hb with hb | ⟨b', o', ys, hq, ⟨cc, e, hc, hcy⟩, hcs⟩
        · obtain ⟨hb, _⟩ := hb; subst hb; simp at hj
        cases hq
        have hyl := RL_length hcs
        have hjl : j < es.length := (List.getElem?_eq_some_iff.1 hj).1
        have hfl := length_flatten_of hes
        have hjm : j * s' + s' ≤ es.length * s' := by
          calc j * s' + s' = (j + 1) * s' := by rw [Nat.add_mul]; omega
            _ ≤ es.length * s' := Nat.mul_le_mul_right _ hjl
        refine fin hK' hk' (by simp) hp hc hcy (off := j * s' + off) (by simp; omega) hev fun w' l hh => ?_
        simp only [RB]
        have hput := RL_put (off := j * s' + off) (hcs.later l) (hyv.later l)
        rw [putAt_flatten hes hj (by omega)] at hput
        refine ⟨fun e1 he1 => ?_, hs0, .inr ⟨b, o, _, rfl, hh, hput⟩⟩
        rcases List.mem_or_eq_of_mem_set he1 with h2 | h2
        · exact hes e1 h2
        · subst h2; rw [length_putAt]; exact hes _ (List.mem_of_getElem? hj)
      · cases hu
    · cases hu
  | _ => simp [updB] at hu

theorem Stand.store {P : Program} {n : Nat × Nat} {c : Ctx} {env : Env} {h h' : Hp} {all : List Eff} {L L' : Nat → Bool} {ρ : Pl} {S : Nat → Prop} {a : Act} {w w' : World} {i : Nat} {y : Value} (s : Stand P n c env h all L ρ S a w)
    (hf : all[i]? = some ⟨none, .v undef, []⟩) (hL : ∀ j, L' j = (L j || Nat.beq j i)) (hh : HS c ρ S (h' ++ seg L 0 all) w') (hl : h'.length = h.length) (l : Later ρ ρ S S w w') : Stand P n c env h' all L' ρ S (a.put none y) w' := by
  have old : ∀ j, L' j = false → L j = false := fun j hj => by rw [hL] at hj; exact (Bool.or_eq_false_iff.1 hj).1
  refine ⟨s.size, s.defers.later l, s.cm, fun t x hx => (s.env0 t x hx).later l, fun j g t hg hj ht => ?_, ?_, fun j g hg hj k hk => by rw [hl]; exact s.undone j g hg (old j hj) k hk⟩
  · by_cases hji : j = i
    · subst hji; rw [hf] at hg; cases hg; cases ht
    · have hjL : L j = true := by
        rw [hL] at hj
        rcases Bool.or_eq_true_iff.1 hj with hj | hj
        · exact hj
        · exact absurd (Nat.eq_of_beq_eq_true hj) hji
      exact (s.done j g t hg hjL ht).later l
  · rwa [seg_skip (L := L') (L' := L) all 0 (fun j g hg => by
      rw [Nat.zero_add]
      by_cases hji : j = i
      · subst hji; rw [hf] at hg; cases hg; exact .inr rfl
      · left; rw [hL, show Nat.beq j i = false from by rw [← Bool.not_eq_true]; intro hb; exact hji (Nat.eq_of_beq_eq_true hb), Bool.or_false])]

/-! ### The steps, with the frame as it grows -/
def chkDrawS (ops : List Oper) (pres : List (List Nat)) (ds : List Nat) (bads : List (List Nat)) (ss : List (Nat × Nat)) (n : Nat) : Bool :=
  chkDraw ops pres ds bads n && okS pres ss && ss.all fun x => Nat.blt x.1 pres.length

structure GoodS (ops : List Oper) (ss : List (Nat × Nat)) (env : Env) (i : Nat) (cur : Env) (objs : List (Nat × Hp)) (don : List AB) (effs : List Eff) : Prop where
  g : Good ops env i cur objs effs
  later : ∀ x, x ∈ ss.drop don.length → i ≤ x.1

section
variable {P : Program} {n : Nat × Nat} {ops : List Oper} {pres : List (List Nat)} {ds : List Nat} {bads : List (List Nat)} {ss : List (Nat × Nat)} {env : Env} {h : Hp} {K : Env → Hp → Prop} {pre bad : List Nat}

variable {op : Op} {ty : TypeId} {pos : String} {af : Array Edge} {d : Option Nat} {i : Nat} {cur : Env} {objs : List (Nat × Hp)} {don : List AB}

theorem GoodS.seeH {effs : List Eff} (hok : chkDrawS ops pres ds bads ss n.1 = true) (hi : i < ops.length) (g : GoodS ops ss env i cur objs don effs) (hp : pres[i]? = some pre) (mb : List AB) : seeH pres i pre ss (don ++ mb) h = seeH pres i pre ss don h := by
  refine seeS_app ss don mb h fun x hx => ?_
  rw [← Bool.not_eq_true]
  intro hb
  simp only [chkDrawS, chkDraw, Bool.and_eq_true] at hok
  have h1 := (okDraw_pre (ops := ops.toArray) (i := i) (o := ops[i]) hok.1.1.1.1.1.1.1 (by simp [hi]) hp x.1 (any_beq.1 hb)).1
  have := g.later x hx
  omega

theorem GoodS.next {effs : List Eff} {f : Eff} (g : GoodS ops ss env i cur objs don effs) {cur' : Env} {objs' : List (Nat × Hp)} (h : Good ops env (i + 1) cur' objs' (effs ++ [f])) (hns : (ss.all fun x => !Nat.beq x.1 i) = true) : GoodS ops ss env (i + 1) cur' objs' don (effs ++ [f]) := by
  refine ⟨h, fun x hx => ?_⟩
  have h1 := g.later x hx
  have h2 := List.all_eq_true.1 hns x (List.mem_of_mem_drop hx)
  have : x.1 ≠ i := fun e => by rw [e, Nat.beq_refl] at h2; cases h2
  omega

theorem chkS {k : Nat} (hok : chkDrawS ops pres ds bads ss k = true) : chkDraw ops pres ds bads k = true := by
  simp only [chkDrawS, Bool.and_eq_true] at hok; exact hok.1.1

end
end Go.Ab

/-! A logic of values for the walk, twentieth part: shifts, masks, elements of arrays that are values, nil slices inside variables, slices inside a structure that nobody writes any more. -/
namespace Go.Ab
open Go
set_option linter.unusedVariables false
set_option linter.unusedSimpArgs false

section
variable {P : Program} {env : Env} {h : Hp}
variable {d : Option Nat} {ty : TypeId} {pos : String} {af : Array Edge} {g : Option (Nat × Bool)}
theorem fs_shrF {t t2 : TypeId} {x y : Operand} {k k' : IntKind} {a b : Int} (hx : evu env x = some (.v (.int k a))) (hy : evu env y = some (.v (.int k' b))) (h0 : 0 ≤ b) (h1 : b.toNat ≤ k.bits) :
    FStep P ⟨d, .binOp .shr t x y t2, ty, pos, af, g⟩ env h 0 (fun _ => .v (.int k (a / 2 ^ b.toNat))) (fun _ => []) := by
  refine fs_val fun ρ S ac w p => ?_
  have h1' := R_v (p.evu hx)
  have h2 := R_v (p.evu hy)
  refine ⟨.int k (a / 2 ^ b.toNat), ?_, R_v_mk _⟩
  have hg : (eqGuard .shr t x y (.int k a) (.int k' b)).run P w = .ok () w := rfl
  have e : a.fdiv (2 ^ b.toNat) = a / 2 ^ b.toNat := Int.fdiv_eq_ediv_of_nonneg _ (by exact Int.le_of_lt (Int.pow_pos (by omega)))
  simp [execOp, h1', h2, hg, binOp, Op.shift, Int.not_lt.2 h0, Nat.min_eq_left h1, e]
theorem fs_and1 {t t2 : TypeId} {x y : Operand} {a : Int} (hx : evu env x = some (.i a)) (hy : evu env y = some (.i 1)) (h0 : 0 ≤ a) (h1 : a < 9223372036854775808) :
    FStep P ⟨d, .binOp .and t x y t2, ty, pos, af, g⟩ env h 0 (fun _ => .i (a % 2)) (fun _ => []) := by
  refine fs_bin hx hy fun w => ?_
  obtain ⟨n, rfl⟩ := Int.eq_ofNat_of_zero_le h0
  have hn : n < 18446744073709551616 := by omega
  have e : (BitVec.ofInt 64 (n : Int) &&& BitVec.ofInt 64 1).toNat = n % 2 := by
    rw [BitVec.toNat_and, BitVec.toNat_ofInt, BitVec.toNat_ofInt]
    have e1 : ((n : Int) % ((2 ^ 64 : Nat) : Int)).toNat = n := by
      have : ((2 ^ 64 : Nat) : Int) = 18446744073709551616 := by decide
      rw [this]
      omega
    rw [e1, show ((1 : Int) % ((2 ^ 64 : Nat) : Int)).toNat = 1 by decide, Nat.and_one_is_mod]
  have e3 : IntKind.i64.wrap ((n % 2 : Nat) : Int) = ((n % 2 : Nat) : Int) := IntWalk.i64_in _ (by omega)
  have hb : IntKind.i64.bits = 64 := rfl
  show (Op.intBits .and .i64 (n : Int) 1).run P w = _
  simp only [Op.intBits]
  show Result.ok (Value.int .i64 (IntKind.i64.wrap ((BitVec.ofInt 64 (n : Int) &&& BitVec.ofInt 64 1).toNat : Int))) w = _
  rw [e, e3]
  simp
theorem fs_min3 {ts : Array TypeId} {x y z : Operand} {k : IntKind} {a b c : Int} (hx : evu env x = some (.v (.int k a))) (hy : evu env y = some (.v (.int k b))) (hz : evu env z = some (.v (.int k c))) :
    FStep P ⟨d, .call { callee := .builtin .min, args := #[x, y, z], argTypes := ts }, ty, pos, af, g⟩ env h 0 (fun _ => .v (.int k (min (min a b) c))) (fun _ => []) := by
  refine fs_val fun ρ S ac w p => ⟨.int k (min (min a b) c), ?_, R_v_mk _⟩
  have h1 := R_v (p.evu hx)
  have h2 := R_v (p.evu hy)
  have h3 := R_v (p.evu hz)
  have m2 : ∀ a b : Int, (if b < a then b else a) = min a b := fun a b => by split <;> omega
  have e2 := fun (a b : Int) => run_min_int2 (P := P) (w := w) #[] 0 k k a b
  simp only [Builtin.min_, List.foldlM_cons, List.foldlM_nil] at e2
  simp only [bind_pure] at e2
  simp [execOp, resolve, invoke, builtin, h1, h2, h3, Builtin.min_, e2, m2]

theorem fs_makeFunc {fn : Fn} {l1 l2 : List Operand} {us vs : List AV} (ha : evL env l1 = some us) (hb : evL env l2 = some vs) : FStep P ⟨d, .makeFunc fn l1.toArray l2.toArray, ty, pos, af, g⟩ env h 0 (fun _ => .clo fn us vs) (fun _ => []) := by
  refine fs_val fun ρ S a w p => ⟨.func fn (l1.map a.eval).toArray (l2.map a.eval).toArray, ?_, ?_⟩
  · simp [execOp, Instr.makeFunc]
  · simp only [R]
    exact ⟨_, _, rfl, by simpa using evL_val p ha, by simpa using evL_val p hb⟩

theorem grab_take {n : Nat} {cs : List AV} {off : Nat} {zs : List AV} (hg : grab cs off n = some zs) : zs = (cs.drop off).take n := by
  obtain ⟨h1, h2⟩ := grab_get hg
  apply List.ext_getElem?
  intro j
  rw [List.getElem?_take]
  by_cases hj : j < n
  · rw [if_pos hj, List.getElem?_drop, h2 j hj]
  · rw [if_neg hj, List.getElem?_eq_none (by omega)]
theorem fs_indexV (T : Tab P) {t n e : Nat} {i : TI} {x y : Operand} {cs : List AV} {z : AV} {k : IntKind} {j : Int} (hx : evu env x = some (.agg cs)) (hy : evu env y = some (.v (.int k j))) (ha : T.arr t = some (n, e)) (he : T.ti e = some i) (h0 : 0 ≤ j) (h1 : j < n) (hz : loadAV i cs (j.toNat * i.size) = some z) :
    FStep P ⟨d, .index t x y, ty, pos, af, g⟩ env h 0 (fun _ => z) (fun _ => []) := by
  refine fs_val fun ρ S a w p => ?_
  have h3 := p.evu hx
  simp only [R] at h3
  obtain ⟨ys, h4, h5⟩ := h3
  have h6 := R_v (p.evu hy)
  have hlen := RL_length h5
  have hpart : ∃ v, (part e ys (j.toNat * i.size)).run P w = .ok v w ∧ R S w z ρ v := by
    unfold loadAV at hz
    split at hz
    · rename_i hagg
      split at hz
      · rename_i zs hg
        simp only [Option.some.injEq] at hz
        subst hz
        refine ⟨.agg (ys.extract (j.toNat * i.size) (j.toNat * i.size + i.size)), by simp [part, T.agg he, hagg, T.sizeOf he], ?_⟩
        rw [grab_take hg]
        simp only [R]
        refine ⟨_, rfl, ?_⟩
        have := RL_take (RL_drop h5 (j.toNat * i.size)) i.size
        simpa [Array.toList_extract, List.extract_eq_take_drop] using this
      · cases hz
    · rename_i hagg
      obtain ⟨v, h7, h8⟩ := RL_get h5 _ _ hz
      have h9 : ys[j.toNat * i.size]? = some v := by simpa using h7
      exact ⟨v, by simp [part, T.agg he, hagg, h9], h8⟩
  obtain ⟨v, h7, h8⟩ := hpart
  refine ⟨v, ?_, h8⟩
  simp [execOp, h4, h6, Instr.index, asIntOf, run_underlying (T.arrOk t n e ha), h0, h1, T.sizeOf he, h7]
end

theorem RL_setv {S : Nat → Prop} {w : World} {ρ : Pl} {z : AV} : ∀ {cs : List AV} {ys : List Value} {i : Nat}, RL S w cs ρ ys → (∀ y, ys[i]? = some y → R S w z ρ y) → RL S w (cs.set i z) ρ ys
  | [], ys, i, h, _ => by simpa using h
  | c :: cs, ys, i, h, hz => by
    simp only [RL] at h
    obtain ⟨y, ys', rfl, h1, h2⟩ := h
    cases i with
    | zero => simp only [List.set_cons_zero, RL]; exact ⟨y, ys', rfl, hz y rfl, h2⟩
    | succ i => simp only [List.set_cons_succ, RL]; exact ⟨y, ys', rfl, h1, RL_setv h2 (fun y' hy' => hz y' (by simpa using hy'))⟩

theorem HS.alter {c : Ctx} {ρ : Pl} {S : Nat → Prop} {h : Hp} {w : World} {k : Nat} {b0 b1 : AB} (s : HS c ρ S h w) (hk : h[k]? = some b0) (hb : RB S w ρ (ρ k) b0 → RB S w ρ (ρ k) b1) (hg : b0 ≠ .gone) : HS c ρ S (h.set k b1) w := by
  have hlt := (List.getElem?_eq_some_iff.1 hk).1
  have get : ∀ {j : Nat} {b : AB}, (h.set k b1)[j]? = some b → (j = k ∧ b = b1) ∨ (j ≠ k ∧ h[j]? = some b) := fun {j b} hj => by
    rw [List.getElem?_set] at hj
    split at hj
    · rename_i e
      exact .inl ⟨e.symm, by simpa using hj.symm⟩
    · rename_i e; exact .inr ⟨fun e' => e e'.symm, hj⟩
  have old : ∀ {j : Nat} {b : AB}, (h.set k b1)[j]? = some b → b ≠ .gone → ∃ b', h[j]? = some b' ∧ b' ≠ .gone := fun {j b} hj hg' => by
    rcases get hj with ⟨rfl, _⟩ | ⟨_, h2⟩
    · exact ⟨b0, hk, hg⟩
    · exact ⟨b, h2, hg'⟩
  refine ⟨fun j hj => s.dom j (by simpa using hj), s.rng, fun j b hj => ?_, fun j b p hj hg' hp => ?_, fun j j' b b' p p' hj hj' hg1 hg2 hp hp' e => ?_, s.stab, s.ext, s.st0, s.st1, by simpa using s.mle, s.keep, s.glob⟩
  · rcases get hj with ⟨rfl, rfl⟩ | ⟨_, h2⟩
    · exact hb (s.blk _ _ hk)
    · exact s.blk j b h2
  · obtain ⟨b', h2, h3⟩ := old hj hg'
    exact s.live j b' p h2 h3 hp
  · obtain ⟨b1', h2, h3⟩ := old hj hg1
    obtain ⟨b2', h4, h5⟩ := old hj' hg2
    exact s.inj j j' b1' b2' p p' h2 h4 h3 h5 hp hp' e

section
variable {P : Program} {n : Nat × Nat} {ops : Array Oper} {env : Env} {h : Hp} {K : Env → Hp → Prop} {rest : List Oper} {Q : Exit → Env → Hp → Prop} {code : Code}
theorem aw_ownC (k j sz : Nat) {cs : List AV} (hk : h[k]? = some (.cells cs)) (hj : cs[j]? = some .nils) (hs : 0 < sz) (hv : AW P n code env (h.set k (.cells (cs.set j (.sl h.length 0 0 sz))) ++ [.arr [] sz]) Q) : AW P n code env h Q := by
  intro c ρ S a w QQ s hQ
  refine hv c ρ S a w QQ ⟨s.size, s.defers, s.env, ?_, s.cm⟩ hQ
  have h1 := s.hs.alter (b1 := .cells (cs.set j (.sl h.length 0 0 sz))) hk (fun hb => by
    simp only [RB] at hb ⊢
    obtain ⟨b, o, ys, h2, h3, h4⟩ := hb
    refine ⟨b, o, ys, h2, h3, RL_setv h4 fun y hy => ?_⟩
    obtain ⟨y', h5, h6⟩ := RL_get h4 _ _ hj
    rw [hy] at h5; cases h5
    rw [R_v h6]
    simp only [R]
    exact ⟨none, 0, rfl, Nat.zero_le _, .inl ⟨trivial, rfl⟩⟩) (by simp)
  have hd := h1.dom h.length (by simp)
  generalize hh : h.set k (.cells (cs.set j (.sl h.length 0 0 sz))) = h' at h1 ⊢
  have hl : h.length = h'.length := by rw [← hh]; simp
  rw [hl] at hd
  have get : ∀ {j : Nat} {b : AB}, (h' ++ [.arr [] sz])[j]? = some b → h'[j]? = some b ∨ (j = h'.length ∧ b = .arr [] sz) := fun {j b} hj => by
    by_cases hlt : j < h'.length
    · rw [List.getElem?_append_left hlt] at hj; exact .inl hj
    · have := (List.getElem?_eq_some_iff.1 hj).1
      simp at this
      have e : j = h'.length := by omega
      subst e
      simp at hj
      exact .inr ⟨rfl, hj.symm⟩
  refine ⟨fun k hk => h1.dom k (by simp at hk; omega), h1.rng, fun k b hb => ?_, fun k b p hb hg hp => ?_, fun k k' b b' p p' hb hb' hg hg' hp hp' e => ?_, h1.stab, h1.ext, h1.st0, h1.st1, by simp; exact Nat.le_succ_of_le h1.mle, h1.keep, h1.glob⟩
  · rcases get hb with hb | ⟨rfl, rfl⟩
    · exact h1.blk k b hb
    · simp only [RB]; exact ⟨(fun e he => by cases he), hs, .inl ⟨trivial, fun b o e => by rw [hd] at e; cases e⟩⟩
  · rcases get hb with hb | ⟨rfl, rfl⟩
    · exact h1.live k b p hb hg hp
    · rw [hd] at hp; cases hp
  · rcases get hb with hb | ⟨rfl, rfl⟩
    · rcases get hb' with hb' | ⟨rfl, rfl⟩
      · exact h1.inj k k' b b' p p' hb hb' hg hg' hp hp' e
      · rw [hd] at hp'; cases hp'
    · rw [hd] at hp; cases hp

end

section
variable {P : Program} {n : Nat × Nat} {env : Env} {h : Hp}
theorem aw_draw2k {Q : Exit → Env → Hp → Prop} {id : Nat} {l : List Oper} (k : Nat) (pres : List (List Nat)) (ds : List Nat) (bads : List (List Nat)) (hm : P.follows .mixedOrders = true) (hn : n.1 = k) (hok : chkDraw l pres ds bads k = true)
    (hv : DW P n l pres ds bads (dropE ds env) h 0 (dropE ds env) [] (fun v h => Q .normal v h)) (hndf : noDef l = true := by rfl) : AW P n (.region id l.toArray true) env h Q := aw_draw2 pres ds bads hm (by rw [hn]; exact hok) hv hndf
end
theorem acall_nils {P : Program} {f : FuncId} {args : List AV} {sz : Nat} (h : ACall P f args [] .nils []) : ACall P f args [] (.rowE [] sz) [] := by
  refine ⟨h.1, fun ρ S w vs hs ha => (h.2 ρ S w vs hs ha).mono ?_⟩
  rintro e w' ⟨y, ρ', S', rfl, h2, h3⟩
  refine ⟨y, ρ', S', rfl, h2, ?_⟩
  rw [R_v h3]
  simp only [R]
  exact ⟨none, 0, rfl, Nat.le_refl _, fun _ => rfl, by simp [maxLen], by simp, .inl rfl⟩

theorem R_nils_row {S : Nat → Prop} {w : World} {ρ : Pl} {y : Value} {sz : Nat} (h : R S w .nils ρ y) : R S w (.rowE [] sz) ρ y := by
  rw [R_v h]
  simp only [R]
  exact ⟨none, 0, rfl, Nat.le_refl _, fun _ => rfl, by simp [maxLen], by simp, .inl rfl⟩
end Go.Ab

/-! A logic of values for the walk, twenty-first part: maps. -/
namespace Go.Ab
open Go Go.MapKept
set_option linter.unusedVariables false
set_option linter.unusedSimpArgs false

section
variable {P : Program} {env : Env} {h : Hp}
variable {d : Option Nat} {ty : TypeId} {pos : String} {af : Array Edge} {g : Option (Nat × Bool)}

theorem fs_newO {o : Oper} {u : Nat → AV} {b : AB} (hrun : ∀ ρ S a w, Pre ρ S env h a w → ∃ (ob : Obj) (y : Value), (execOp a.eval o).run P w = .ok (.value y) (w.alloc ob) ∧
      ∀ pos, ρ pos = none → ∀ w', (w'.heap[w.heap.size]? = some ob) → R S w' (u pos) (ρ.with pos (w.heap.size, 0)) y ∧ RB S w' (ρ.with pos (w.heap.size, 0)) (some (w.heap.size, 0)) b) :
    FStep P o env h 1 u (fun _ => [b]) := by
  intro ρ S a w p pos hp K Q hk
  obtain ⟨ob, y, h1, h2⟩ := hrun ρ S a w p
  have hpos : ρ pos = none := by simpa using hp 0 (by omega)
  unfold Oper.wp
  rw [h1]
  have hx : Ext (fun _ => False) w (w.alloc ob) := ext_alloc _ _ _
  have hnew : (w.alloc ob).heap[w.heap.size]? = some ob := (heap_alloc w ob).1
  obtain ⟨h3, h4⟩ := h2 pos hpos _ hnew
  have hss : (w.alloc ob).heap.size = w.heap.size + 1 := by rw [World.size_alloc]
  refine hk y (ρ.with pos (w.heap.size, 0)) S _ ⟨hx, rfl, fun k hk => ?_, fun _ h => h, fun _ h => .inl h, fun k q hk1 hk2 hq => ?_, fun k k' q q' a1 a2 a3 a4 _ _ _ => by omega, h3, fun j b' hb => ?_⟩
  · unfold Pl.with; rw [if_neg (by omega)]
  · have : k = pos := by omega
    subst this
    simp only [Pl.with, if_true, Option.some.injEq] at hq
    subst hq
    refine ⟨Nat.le_refl _, by simp [hss], fun hs => ?_⟩
    have := p.stab _ hs
    simp at this
  · cases j with
    | zero =>
      simp only [List.getElem?_cons_zero, Option.some.injEq] at hb
      subst hb
      simpa [Pl.with] using h4
    | succ j => simp at hb

theorem fs_mapNew {t : TypeId} : FStep P ⟨d, .makeMap t none, ty, pos, af, g⟩ env h 1 (fun p => .mp p) (fun _ => [.mapO [] []]) := by
  refine fs_newO fun ρ S a w p => ⟨.map #[] 0, .map (some w.heap.size), ?_, fun pos hpos w' hw' => ⟨?_, ?_⟩⟩
  · simp [execOp, Instr.makeMap]
  · simp [R, Pl.with]
  · simp only [RB]
    exact ⟨_, _, #[], 0, rfl, hw', ⟨rfl, by simp, by simp⟩, by simp [RL]⟩

def IsV (x : AV) (v : Value) : Prop := ∀ (S : Nat → Prop) (w : World) (ρ : Pl) (y : Value), R S w x ρ y → y = v
theorem IsV.v (v : Value) : IsV (.v v) v := fun _ _ _ _ h => R_v h
theorem RL_vsEq {S : Nat → Prop} {w : World} {ρ : Pl} : ∀ {vs ys : List Value}, RL S w (vs.map .v) ρ ys → ys = vs
  | [], _, h => by simpa [RL] using h
  | v :: vs, _, h => by
    simp only [List.map_cons, RL] at h
    obtain ⟨y, zs, rfl, h1, h2⟩ := h
    rw [R_v h1, RL_vsEq h2]
theorem IsV.agg (vs : List Value) : IsV (.agg (vs.map .v)) (.agg vs.toArray) := fun _ _ _ _ h => by
  simp only [R] at h
  obtain ⟨ys, rfl, h1⟩ := h
  have := RL_vsEq h1
  rw [← this]
theorem zero_run {et : TypeId} {z : Value} (h : (P.info? et).bind (·.zero) = some z) : ∀ w, (zeroValue et).run P w = .ok z w := by
  intro w
  cases hi : P.info? et with
  | none => rw [hi] at h; cases h
  | some inf =>
    rw [hi] at h
    simp only [Option.bind_some] at h
    simp [zeroValue, typeInfo, hi, h]

theorem map_find {S : Nat → Prop} {w : World} {ρ : Pl} {k : Nat} {ks : List Value} {vs : List AV} (p : RB S w ρ (ρ k) (.mapO ks vs)) : ∃ b o l ck, ρ k = some (b, o) ∧ w.heap[b]? = some (.map l ck) ∧ l.toList.map (·.key) = ks ∧ RL S w vs ρ (l.toList.map (·.val)) := by
  obtain ⟨b, o, l, ck, h1, h2, h3, h4⟩ := p
  exact ⟨b, o, l, ck, h1, h2, h3.1, h4⟩
theorem map_findS {S : Nat → Prop} {w : World} {ρ : Pl} {k : Nat} {ks : List Value} {vs : List AV} (p : RB S w ρ (ρ k) (.mapO ks vs)) : ∃ b o l ck, ρ k = some (b, o) ∧ w.heap[b]? = some (.map l ck) ∧ l.toList.map (·.key) = ks ∧ RL S w vs ρ (l.toList.map (·.val)) ∧ Stamps l ck := by
  obtain ⟨b, o, l, ck, h1, h2, h3, h4⟩ := p
  exact ⟨b, o, l, ck, h1, h2, h3.1, h4, h3.2⟩
theorem Stamps.push {l : Array MapEntry} {ck : Nat} (h : Stamps l ck) {kv v : Value} : Stamps (l.push { key := kv, val := v, born := ck }) (ck + 1) := by
  refine ⟨?_, fun e he => ?_⟩
  · rw [Array.toList_push, List.map_append, List.nodup_append]
    refine ⟨h.1, by simp, fun x hx y hy e => ?_⟩
    obtain ⟨q, hq, rfl⟩ := List.mem_map.1 hx
    simp at hy
    have := h.2 q hq
    omega
  · rw [Array.toList_push, List.mem_append] at he
    rcases he with he | he
    · exact Nat.lt_succ_of_lt (h.2 e he)
    · simp at he; subst he; exact Nat.lt_succ_self _
theorem Stamps.modify {l l' : Array MapEntry} {ck i : Nat} (h : Stamps l ck) {f : MapEntry → MapEntry} (hg : ∀ j : Nat, l'.toList[j]? = if i = j then (l.toList[j]?).map f else l.toList[j]?) (hf : ∀ e, (f e).born = e.born := by intro e; rfl) : Stamps l' ck := by
  have e1 : l'.toList.map (·.born) = l.toList.map (·.born) := by
    apply List.ext_getElem?
    intro j
    rw [List.getElem?_map, List.getElem?_map, hg]
    split
    · cases l.toList[j]? <;> simp [hf]
    · rfl
  refine ⟨by rw [e1]; exact h.1, fun e he => ?_⟩
  have h1 : e.born ∈ l.toList.map (·.born) := by rw [← e1]; exact List.mem_map.2 ⟨e, he, rfl⟩
  obtain ⟨q, hq, hqe⟩ := List.mem_map.1 h1
  rw [← hqe]; exact h.2 q hq
structure KeyOk (P : Program) (kt : TypeId) (good : Value → Prop) : Prop where
  check : ∀ (w : World) (em : Bool) {v : Value}, good v → (Instr.checkKey em 10000 kt v).run P w = .ok () w
  find : ∀ (w : World) {x : Value}, good x → ∀ es : List MapEntry, (∀ e, e ∈ es → good e.key) → ((Instr.findKey kt x es).run P w = .ok none w ∧ ∀ e, e ∈ es → e.key ≠ x) ∨ ∃ j e, (Instr.findKey kt x es).run P w = .ok (some (j, e.val)) w ∧ es[j]? = some e ∧ e.key = x
  stays : ∀ (w : World) {v : Value}, good v → (Instr.keyThatStays v v).run P w = .ok v w
theorem same_key {dk : TypeDesc} {kv : Value} (hk : IsKey dk kv) : ∀ n, Instr.sameBits n kv kv = true := by
  intro n
  cases dk <;> cases kv <;> simp only [IsKey] at hk <;> cases n <;> simp [Instr.sameBits, bytes_beq]
theorem KeyOk.plain {kt : TypeId} {dk : TypeDesc} (hd : P.underlying kt = some dk) : KeyOk P kt (IsKey dk) := by
  refine ⟨fun w em v hv => MapKept.run_checkKey hd hv em 9999, fun w x hx es hall => ?_, fun w v hv => by simp [Instr.keyThatStays, same_key hv]⟩
  rcases findNow_spec hx es 0 hall with ⟨h1, h2⟩ | ⟨j, e, h1, h2, h3⟩
  · exact .inl ⟨MapKept.run_findKey hd h1, h2⟩
  · exact .inr ⟨j, e, by have := MapKept.run_findKey (w := w) hd h1; rwa [Nat.zero_add] at this, h2, h3⟩
theorem find_some {kt : TypeId} {good : Value → Prop} {kv : Value} {l : Array MapEntry} {ks : List Value} {i : Nat} (ko : KeyOk P kt good) (w : World) (hl : l.toList.map (·.key) = ks) (hkeys : ∀ q, q ∈ ks → good q) (hkey : good kv) (hnd : ks.Nodup) (hi : ks[i]? = some kv) : ∃ e, (Instr.findKey kt kv l.toList).run P w = .ok (some (i, e.val)) w ∧ l.toList[i]? = some e ∧ e.key = kv := by
  rcases ko.find w hkey l.toList (fun x hx => hkeys _ (by rw [← hl]; exact List.mem_map.2 ⟨x, hx, rfl⟩)) with ⟨_, h2⟩ | ⟨j, e, h1, h2, h3⟩
  · have hm := List.mem_of_getElem? hi
    rw [← hl] at hm
    obtain ⟨x, hx, hxe⟩ := List.mem_map.1 hm
    exact absurd hxe (h2 x hx)
  · have hj : ks[j]? = some kv := by rw [← hl, List.getElem?_map, h2]; simp [h3]
    have : j = i := (List.getElem?_inj (List.getElem?_eq_some_iff.1 hj).1 hnd).1 (hj.trans hi.symm)
    subst this
    exact ⟨e, h1, h2, h3⟩
theorem find_none {kt : TypeId} {good : Value → Prop} {kv : Value} {l : Array MapEntry} {ks : List Value} (ko : KeyOk P kt good) (w : World) (hl : l.toList.map (·.key) = ks) (hkeys : ∀ q, q ∈ ks → good q) (hkey : good kv) (hni : kv ∉ ks) : (Instr.findKey kt kv l.toList).run P w = .ok none w := by
  rcases ko.find w hkey l.toList (fun x hx => hkeys _ (by rw [← hl]; exact List.mem_map.2 ⟨x, hx, rfl⟩)) with ⟨h1, _⟩ | ⟨j, e, _, h2, h3⟩
  · exact h1
  · refine absurd ?_ hni
    rw [← hl, ← h3]
    exact List.mem_map.2 ⟨e, List.mem_of_getElem? h2, rfl⟩

section
variable {t kt et : TypeId} {good : Value → Prop} {x y : Operand} {k i : Nat} {kv : Value} {ks : List Value} {vs : List AV} {v : AV}
theorem fs_mapGet (ht : P.underlying t = some (.map kt et)) (ko : KeyOk P kt good) (hx : evu env x = some (.mp k)) {yv : AV} (hy : evu env y = some yv) (hyv : IsV yv kv) (hk : h[k]? = some (.mapO ks vs)) (hkeys : ∀ q, q ∈ ks → good q) (hkey : good kv) (hnd : ks.Nodup) (hi : ks[i]? = some kv) (hv : vs[i]? = some v) :
    FStep P ⟨d, .lookup t x y true, ty, pos, af, g⟩ env h 0 (fun _ => .tup [v, .b true]) (fun _ => []) := by
  refine fs_val fun ρ S a w p => ?_
  have h1 := p.evu hx
  simp only [R] at h1
  obtain ⟨b, o, h2, h3⟩ := h1
  have h4 := hyv _ _ _ _ (p.evu hy)
  obtain ⟨b', o', l, ck, h5, h6, h7, h8⟩ := map_find (p.blk k _ hk)
  rw [h2] at h5; cases h5
  obtain ⟨e, h9, h10, _⟩ := find_some ko w h7 hkeys hkey hnd hi
  refine ⟨.tuple #[e.val, .bool true], ?_, ?_⟩
  · simp [execOp, h3, h4, Instr.lookup, run_underlying ht, MapKept.run_getObj_map h6, ko.check w _ hkey, h9]
  · obtain ⟨u, h11, h12⟩ := RL_get h8 i v hv
    rw [List.getElem?_map, h10] at h11
    cases h11
    simp only [R, RL]
    exact ⟨_, rfl, _, _, rfl, h12, _, _, rfl, rfl, rfl⟩
theorem fs_mapMiss (ht : P.underlying t = some (.map kt et)) (ko : KeyOk P kt good) {z : Value} {zA : AV} (hz : ∀ w, (zeroValue et).run P w = .ok z w) (hzA : ∀ (S : Nat → Prop) (w : World) (ρ : Pl), R S w zA ρ z) (hx : evu env x = some (.mp k)) {yv : AV} (hy : evu env y = some yv) (hyv : IsV yv kv) (hk : h[k]? = some (.mapO ks vs)) (hkeys : ∀ q, q ∈ ks → good q) (hkey : good kv) (hni : kv ∉ ks) :
    FStep P ⟨d, .lookup t x y true, ty, pos, af, g⟩ env h 0 (fun _ => .tup [zA, .b false]) (fun _ => []) := by
  refine fs_val fun ρ S a w p => ?_
  have h1 := p.evu hx
  simp only [R] at h1
  obtain ⟨b, o, h2, h3⟩ := h1
  have h4 := hyv _ _ _ _ (p.evu hy)
  obtain ⟨b', o', l, ck, h5, h6, h7, h8⟩ := map_find (p.blk k _ hk)
  rw [h2] at h5; cases h5
  have h9 := find_none ko w h7 hkeys hkey hni
  refine ⟨.tuple #[z, .bool false], ?_, ?_⟩
  · simp [execOp, h3, h4, Instr.lookup, run_underlying ht, MapKept.run_getObj_map h6, ko.check w _ hkey, h9, hz]
  · simp only [R, RL]
    exact ⟨_, rfl, _, _, rfl, hzA S w ρ, _, _, rfl, rfl, rfl⟩

theorem ext_setObj {w : World} {b : Nat} {l : Array MapEntry} {ck : Nat} {o : Obj} (hb : w.heap[b]? = some (.map l ck)) : Ext (fun x => x = b) w { w with heap := w.heap.setIfInBounds b o } := by
  refine ⟨rfl, rfl, rfl, by simp, fun x _ hx => ?_, fun x c e fz hc => ?_⟩
  · exact (MapKept.heap_set (o' := o) hb).2 x hx
  · have hne : x ≠ b := fun e' => by rw [e', hb] at hc; cases hc
    exact ⟨c, fz, by rw [← hc]; exact (MapKept.heap_set (o' := o) hb).2 x hne, rfl⟩
section
variable {n : Nat × Nat} {ops : Array Oper} {rest : List Oper} {K : Env → Hp → Prop} {z : Operand}
theorem vc_mapNew (ht : P.underlying t = some (.map kt et)) (ko : KeyOk P kt good) (hx : evu env x = some (.mp k)) {yv : AV} (hy : evu env y = some yv) (hyv : IsV yv kv) (hz : evu env z = some v) (hk : h[k]? = some (.mapO ks vs)) (hkeys : ∀ q, q ∈ ks → good q) (hkey : good kv) (hni : kv ∉ ks)
    (hv : VC P n ops rest env (h.set k (.mapO (ks ++ [kv]) (vs ++ [v]))) K) : VC P n ops (⟨none, .mapUpdate t x y z, ty, pos, af, none⟩ :: rest) env h K := by
  intro c ρ S a w Q s hQ
  refine wpList_plain rfl fun K' hK' => ?_
  have p := s.pre
  have h1 := p.evu hx
  simp only [R] at h1
  obtain ⟨b, o, h2, h3⟩ := h1
  have h4 := hyv _ _ _ _ (p.evu hy)
  have hzv := p.evu hz
  obtain ⟨b', o', l, ck, h5, h6, h7, h8, h13⟩ := map_findS (p.blk k _ hk)
  rw [h2] at h5; cases h5
  have h9 := find_none ko w h7 hkeys hkey hni
  have hr : (execOp a.eval ⟨none, .mapUpdate t x y z, ty, pos, af, none⟩).run P w = .ok .skip { w with heap := w.heap.setIfInBounds b (.map (l.push { key := kv, val := a.eval z, born := ck }) (ck + 1)) } := by
    simp [execOp, h3, h4, Instr.mapUpdate, run_underlying ht, MapKept.run_getObj_map h6, ko.check w _ hkey, h9, MapKept.run_setObj_map _ h6]
  unfold Oper.wp
  rw [hr]
  obtain ⟨g1, g2⟩ := s.hs.upd (nb := .mapO (ks ++ [kv]) (vs ++ [v])) hk (by simp) h2 (ext_setObj (o := .map (l.push { key := kv, val := a.eval z, born := ck }) (ck + 1)) h6) (fun l' => by
    simp only [RB]
    refine ⟨b, o, _, _, rfl, (MapKept.heap_set h6).1, ⟨by simp [h7], h13.push⟩, ?_⟩
    rw [Array.toList_push, List.map_append]
    exact RL_append (h8.later l') (by simp only [List.map_cons, List.map_nil, RL]; exact ⟨_, _, rfl, hzv.later l', rfl⟩))
  exact hK' _ _ (hv c ρ S _ _ Q ⟨by rw [size_put]; exact s.size, by rw [defers_put]; exact s.defers.later g2, fun tt uu huu => (s.env tt uu huu).later g2, g1, s.cm⟩ hQ)
theorem vc_mapPut (ht : P.underlying t = some (.map kt et)) (ko : KeyOk P kt good) (hx : evu env x = some (.mp k)) {yv : AV} (hy : evu env y = some yv) (hyv : IsV yv kv) (hz : evu env z = some v) (hk : h[k]? = some (.mapO ks vs)) (hkeys : ∀ q, q ∈ ks → good q) (hkey : good kv) (hnd : ks.Nodup) (hi : ks[i]? = some kv)
    (hv : VC P n ops rest env (h.set k (.mapO ks (vs.set i v))) K) : VC P n ops (⟨none, .mapUpdate t x y z, ty, pos, af, none⟩ :: rest) env h K := by
  intro c ρ S a w Q s hQ
  refine wpList_plain rfl fun K' hK' => ?_
  have p := s.pre
  have h1 := p.evu hx
  simp only [R] at h1
  obtain ⟨b, o, h2, h3⟩ := h1
  have h4 := hyv _ _ _ _ (p.evu hy)
  have hzv := p.evu hz
  obtain ⟨b', o', l, ck, h5, h6, h7, h8, h13⟩ := map_findS (p.blk k _ hk)
  rw [h2] at h5; cases h5
  obtain ⟨e, h9, h10, h11⟩ := find_some ko w h7 hkeys hkey hnd hi
  have h12 : l[i]? = some e := by simpa using h10
  have hr : (execOp a.eval ⟨none, .mapUpdate t x y z, ty, pos, af, none⟩).run P w = .ok .skip { w with heap := w.heap.setIfInBounds b (.map (l.modify i fun e => { e with key := kv, val := a.eval z }) ck) } := by
    simp [execOp, h3, h4, Instr.mapUpdate, run_underlying ht, MapKept.run_getObj_map h6, ko.check w _ hkey, h9, MapKept.run_setObj_map _ h6, h12, h11, ko.stays w hkey]
  unfold Oper.wp
  rw [hr]
  have hget : ∀ j, (l.modify i fun e => { e with key := kv, val := a.eval z }).toList[j]? = if i = j then (l.toList[j]?).map (fun e => { e with key := kv, val := a.eval z }) else l.toList[j]? := fun j => by
    simp only [Array.getElem?_toList, Array.getElem?_modify]
  obtain ⟨g1, g2⟩ := s.hs.upd (nb := .mapO ks (vs.set i v)) hk (by simp) h2 (ext_setObj (o := .map (l.modify i fun e => { e with key := kv, val := a.eval z }) ck) h6) (fun l' => by
    simp only [RB]
    refine ⟨b, o, _, _, rfl, (MapKept.heap_set h6).1, ⟨?_, h13.modify hget⟩, ?_⟩
    · rw [← h7]
      apply List.ext_getElem?
      intro j
      rw [List.getElem?_map, List.getElem?_map, hget]
      split
      · rename_i e'; subst e'; rw [h10]; simp [h11]
      · rfl
    · have e1 : List.map (fun x => x.val) (l.modify i fun e => { e with key := kv, val := a.eval z }).toList = (l.toList.map (·.val)).set i (a.eval z) := by
        apply List.ext_getElem?
        intro j
        rw [List.getElem?_map, hget, List.getElem?_set, List.getElem?_map]
        split
        · rename_i e'; subst e'
          have := (List.getElem?_eq_some_iff.1 h10).1
          rw [h10, if_pos (by simpa using this)]; rfl
        · rfl
      rw [e1]
      exact RL_set (h8.later l') i (hzv.later l'))
  exact hK' _ _ (hv c ρ S _ _ Q ⟨by rw [size_put]; exact s.size, by rw [defers_put]; exact s.defers.later g2, fun tt uu huu => (s.env tt uu huu).later g2, g1, s.cm⟩ hQ)
end
end
end
end Go.Ab
