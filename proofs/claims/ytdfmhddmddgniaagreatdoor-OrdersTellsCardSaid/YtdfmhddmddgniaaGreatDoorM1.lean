/-
  Texts of the logic and of the layer,in one module (part 1).
-/
import Derived.WalkKit
import Derived.TacticsIn
import Derived.OrdersIn
import Derived.RangeFuncLeaves
import Derived.RangeFuncRecord
set_option linter.unusedVariables false
set_option linter.unusedSimpArgs false
set_option linter.unnecessarySimpa false

namespace Go
abbrev rN (n : Nat) : List Nat := List.range n
abbrev rM (a n : Nat) : List Nat := List.range' a n
abbrev zR7 : List (List Nat) := [[],[],[0,1],[0,1,2],rN 4,rN 4,rN 4,[0,1,2,3,5,6],[0,1,2,3,5,6,7],rN 4,rN 4,[0,1,2,3,10],[0,1,2,3,9,10,11],[0,1,2,3,9,10,11,12],rN 14,rN 15,rN 16]
abbrev zR8 : List (List Nat) := [[],[18],[],[],[],[22],[22,23],[22],[22],rM 22 5,rM 22 6,rM 22 6,rM 22 5,rM 22 5,[],[],[]]
abbrev zR9 : List (List Nat) := [[],[0],[0,1],[0,1,2],rN 4,rN 4,[0,1,2,3,5],rN 7,rN 8,rN 4,rN 10,rN 11]
abbrev zS0 : List (List Nat) := [[],[],[],[],[],[11],[11],[],[],rM 11 5,[],[]]
abbrev zS1 : List (List Nat) := [[],[],[],[1,2],[1,2,3],rM 1 4,rN 6,rN 7,rN 8,[],[],[],[10,11],[10,11,12],rM 10 4,rM 9 6,rM 9 7,rM 9 8,rN 18]
abbrev zS2 : List (List Nat) := [[],[],[],[2],[1,2,3],rM 1 4,rM 1 5,rN 7,rN 8,[],rN 10,rN 11,rN 12,rN 12,[0,1,2,3,4,5,6,7,8,9,10,11,13],rN 15,rN 16,rN 17,rN 12,rN 12,[0,1,2,3,4,5,6,7,8,9,10,11,19],[0,1,2,3,4,5,6,7,8,9,10,11,18,19,20],rN 22,rN 23]
abbrev zS3 : List (List Nat) := [[],[22],[22,23],[22,23],[22],[22],[22],[],[],rM 22 9,[],[],[],[34],[34],[],[],[],rM 34 6,rM 34 7,rM 34 7,rM 34 6,[],[]]
abbrev zS4 : List (List Nat) := [[],[0],[0,1],[0,1,2],[],[4],[4,5],[4,5,6],rM 4 4,rM 4 5,rN 10]
abbrev zS5 : List (List Nat) := [[],[],[],[],rM 11 4,rM 11 4,rM 11 4,rM 11 4,rM 11 4,rM 11 4,[]]
abbrev zS6 : List (List Nat) := [[],[0],[0,1],[0,1,2],rN 4,[0,1,2],[0,1,2],[0,1,2,5,6],rN 8,rN 9,rN 10,rN 11,rN 11,rN 13,rN 14]
abbrev zS7 : List (List Nat) := [[],[],[],[],[],[39,40],[39,40,41],[39,40],[],[],[],[],[47],[],[]]
abbrev zS8 : List (List Nat) := [[],[],[1],[1,2],[1,2,3],[],[5],rM 1 6,rN 8,rN 9,rN 10]
abbrev zS9 : List (List Nat) := [[],[],[0,1],[0,1,2],[],[],[4,5],[4,5,6],rN 8]
abbrev zT0 : List (List Nat) := [[],[17],[],[],rM 17 4,rM 17 5,rM 17 4,rM 17 4,[]]
abbrev zT1 : List (List Nat) := [[],[],[],[1,2],[1,2,3],[],rN 6,rN 7,rN 8,rN 9,rN 9,rN 11,rN 12,rN 13,rN 14,rN 15,rN 16,rN 17,rN 17,rN 19,rN 20]
abbrev zT2 : List (List Nat) := [[],[17],[17,18],[17],[17],rM 17 5,[],[],[],[],[26],[],[],[],[],[],[],[],[34],[],[]]
abbrev zT3 : List (List Nat) := [[],[41],[41,42],[41],[41],[41],[],[],[],rM 41 9,rM 41 10,rM 41 11,rM 41 10,rM 41 10,rM 41 10,rM 41 9,rM 41 9,rM 41 9,[]]
abbrev zT4 : List (List Nat) := [[],[],[],[1,2],[],[4],[4,5],[4,5,6],[],rM 4 5,rM 4 6,rM 4 7,rM 4 8,rN 13,rN 14,rN 15,rN 15,rN 16]
abbrev zT5 : List (List Nat) := [[],[20],[20,21],[20],rM 20 4,rM 20 4,rM 20 4,rM 20 4,rM 20 8,rM 20 4,rM 20 4,rM 20 4,rM 20 4,[],[],[],[34],[35]]
abbrev zT6 : List (List Nat) := [[],[],[],[1,2],[1,2,3],[],[5],[5,6],[],rM 5 4,rM 5 5,rN 11,rN 12,rN 13,rN 14,rN 14,rN 16,rN 17,rN 18,rN 14,rN 14,[0,1,2,3,4,5,6,7,8,9,10,11,12,13,19,20],rN 22,rN 23]
abbrev zT7 : List (List Nat) := [[],[42],[42,43],[42],[42],rM 42 5,rM 42 5,rM 42 5,rM 42 8,rM 42 5,rM 42 5,[],[],[],[],[56],[],[],[],rM 56 5,rM 56 6,rM 56 5,[],[]]
abbrev zT8 : List (List Nat) := [[],[139],[139],[139],[139],rM 139 5,rM 139 5,[139],[],[],[]]
abbrev zT9 : List (List Nat) := [[],[],[0,1],[0,1,2],rN 4,rN 5,rN 6,rN 7,rN 7,rN 9,rN 10,rN 11,rN 7,[0,1,2,3,4,5,6,12],[0,1,2,3,4,5,6,12,13],[0,1,2,3,4,5,6,12,13,14],[0,1,2,3,4,5,6,12,13,14,15],rN 17,rN 18]
abbrev zU0 : List (List Nat) := [[],[99],[],[],[],[],[],[],[106],[],[],[],rM 106 5,rM 106 5,rM 106 5,rM 106 5,rM 106 5,[],[]]
abbrev zU1 : List (List Nat) := [[],[],[0,1],[0,1,2],rN 4,rN 5,rN 4,[0,1,2,3,6],[0,1,2,3,6,7],[0,1,2,3,6,7,8],[0,1,2,3,6,7,8,9],rN 11,rN 12,rN 13,rN 14,rN 14,rN 14,[0,1,2,3,4,5,6,7,8,9,10,11,12,13,15,16],[0,1,2,3,4,5,6,7,8,9,10,11,12,13,15,16,17],[0,1,2,3,4,5,6,7,8,9,10,11,12,13,15,16,17,18],rN 20,rN 14,rN 14,rN 14,[0,1,2,3,4,5,6,7,8,9,10,11,12,13,22,23],[0,1,2,3,4,5,6,7,8,9,10,11,12,13,22,23,24],[0,1,2,3,4,5,6,7,8,9,10,11,12,13,22,23,24,25],rN 27,rN 28,rN 29,rN 30,rN 31,rN 32,rN 31,rN 34,rN 35,rN 36]
abbrev zU2 : List (List Nat) := [[],[118],[],[],[],[],[122,123],[122,123],[122,123],[122,123],[122,123],[],[],[],[],[132],[132,133],[132],[132],[132],[],rM 132 7,rM 132 8,rM 132 9,rM 132 8,rM 132 8,rM 132 8,[],[],[],[],[],[],[149,150],[],[],[]]
abbrev zU3 : List (List Nat) := [[],[],[1],[1,2],[1,2,3],[],[],[5,6],[5,6,7],rM 5 4,rM 1 9,rM 1 10,rM 1 11,rN 13,rN 14,rN 15,rN 16,rN 16,rN 16,[0,1,2,3,4,5,6,7,8,9,10,11,12,13,14,15,17,18],[0,1,2,3,4,5,6,7,8,9,10,11,12,13,14,15,17,18,19],[0,1,2,3,4,5,6,7,8,9,10,11,12,13,14,15,17,18,19,20],rN 22,rN 16,[0,1,2,3,4,5,6,7,8,9,10,11,12,13,14,15,23],[0,1,2,3,4,5,6,7,8,9,10,11,12,13,14,15,23,24],[0,1,2,3,4,5,6,7,8,9,10,11,12,13,14,15,23,24,25],rN 16,rN 16,[0,1,2,3,4,5,6,7,8,9,10,11,12,13,14,15,27,28],[0,1,2,3,4,5,6,7,8,9,10,11,12,13,14,15,27,28,29],[0,1,2,3,4,5,6,7,8,9,10,11,12,13,14,15,27,28,29,30],[0,1,2,3,4,5,6,7,8,9,10,11,12,13,14,15,23,24,25,26,27,28,29,30,31],[0,1,2,3,4,5,6,7,8,9,10,11,12,13,14,15,23,24,25,26,27,28,29,30,31,32],[0,1,2,3,4,5,6,7,8,9,10,11,12,13,14,15,23,24,25,26,27,28,29,30,31,32,33],rN 35,rN 36,rN 37]
abbrev zU4 : List (List Nat) := [[],[156],[156],[156],[156],rM 156 5,rM 156 6,rM 156 5,rM 156 5,rM 156 5,[156],[156],[156],[],[],[],[],[172],[172,173],[172],[172],[172],[],rM 172 7,rM 172 7,rM 172 7,rM 172 7,rM 172 11,rM 172 12,rM 172 11,rM 172 11,rM 172 11,rM 172 7,rM 172 7,rM 172 7,[],[],[]]
abbrev aA := @List.getElem?_eq_some_iff
abbrev aB := @List.length_append
abbrev aC := @List.getElem?_eq_getElem
abbrev aD := @List.getD_eq_getElem?_getD
abbrev aE := @List.getElem?_append_right
abbrev aF := @List.mem_cons_of_mem
abbrev aG := @List.getElem?_append_left
abbrev aH := @List.getElem_mem
abbrev aI := @List.nodup_nil
abbrev aJ := @List.mem_of_getElem?
abbrev aK := @List.mem_map
abbrev aL := @List.mem_cons_self
abbrev aM := @Nat.eq_of_beq_eq_true
abbrev aN := @Bool.and_eq_true
abbrev aO := @List.drop_eq_getElem_cons
abbrev aP := @List.nodup_cons
abbrev aQ := @List.take_of_length_le
abbrev aR := @Array.getElem?_eq_some_iff
abbrev aS := @List.getElem?_map
abbrev aT := @List.mem_cons
abbrev aU := @Nat.le_refl
abbrev aY := @List.append_assoc
abbrev bB := @List.take_succ_eq_append_getElem
abbrev bC := @Nat.le_of_ble_eq_true
abbrev bD := @List.all_eq_true
abbrev bF := @List.length_map
abbrev bG := @Nat.zero_le
abbrev bH := @List.mem_append
abbrev bK := @List.mem_singleton
abbrev bN := @Int.toNat_natCast
abbrev bS := @List.getElem?_take
abbrev bT := @List.length_take
abbrev bU := @List.getElem?_eq_none
abbrev bX := @Option.map_eq_some_iff
abbrev bZ := @List.length_singleton
abbrev cC := @Nat.lt_of_lt_of_le
abbrev cF := @List.eq_nil_of_length_eq_zero
abbrev cG := @List.not_mem_nil
abbrev cH := @List.flatten_cons
abbrev cI := @List.take_append_drop
abbrev cK := @List.getElem?_set
abbrev cN := @List.mem_iff_getElem?
abbrev cP := @List.drop_zero
abbrev cQ := @Nat.le_trans
abbrev cT := @Array.getElem?_eq_getElem
abbrev cY := @Array.getD_eq_getD_getElem?
abbrev dH := @List.drop_of_length_le
abbrev dI := @List.map_append
abbrev dJ := @List.take_length
abbrev dK := @List.getElem?_cons_zero
abbrev dW := @Option.bind_eq_some_iff
abbrev dX := @List.ext_getElem?
abbrev dY := @List.getElem?_set_self
abbrev eC := @List.length_set
abbrev eE := @Bool.not_eq_true
abbrev eG := @Nat.add_assoc
abbrev eL := @Nat.add_mul
abbrev eM := @Nat.not_lt_zero
abbrev eQ := @Nat.beq_refl
abbrev eR := @List.getElem?_drop
abbrev eS := @List.mem_flatMap
abbrev fB := @List.nodup_append
abbrev fG := @List.set_set
abbrev fJ := @Array.length_toList
abbrev fN := @Nat.mul_le_mul_right
abbrev fP := @Nat.sub_self
abbrev gA := @Nat.le_add_right
abbrev gB := @List.mem_of_mem_take
abbrev gC := @List.getElem?_mapIdx
abbrev gP := @Nat.lt_or_ge
abbrev gQ := @List.flatten_append
abbrev gR := @List.flatMap_append
abbrev gV := @List.getElem?_cons_succ
abbrev gX := @List.flatMap_cons
abbrev hC := @List.mem_of_mem_drop
abbrev iB := @Bool.or_eq_false_iff
abbrev iM := @List.length_drop
abbrev iO := @Bool.or_eq_true_iff
abbrev iR := @List.length_eq_zero_iff
abbrev iV := @List.getElem?_set_ne
abbrev jD := @List.filter_cons
abbrev jE := @List.any_eq_true
abbrev jK := @List.length_pos_iff
abbrev jM := @Array.getElem?_toList
abbrev jP := @List.eq_of_mem_replicate
abbrev jQ := @Bool.false_and
abbrev jV := @List.mem_filterMap
abbrev jX := @List.take_append
abbrev kK := @Bool.true_and
abbrev kL := @Bool.or_false
abbrev kP := @List.any_eq_false
abbrev kZ := @List.getElem?_toArray
abbrev lE := @List.sum_cons
abbrev lP := @Option.map_some
abbrev lQ := @List.foldl_cons
abbrev mG := @Nat.lt_succ_self
abbrev mH := @List.flatMap_nil
abbrev mN := @List.pairwise_cons
abbrev mO := @List.mem_range
abbrev mQ := @Array.getElem?_append_left
abbrev nQ := @List.map_set
abbrev nR := @List.map_map
abbrev nS := @Bool.not_eq_true'
abbrev oB := @List.filterMap_cons_some
abbrev oE := @Array.getElem?_setIfInBounds_ne
abbrev oR := @List.getElem?_replicate
abbrev pN := @List.filterMap_map
abbrev qC := @Bool.or_eq_true
abbrev qD := @Bool.eq_iff_iff
abbrev qG := @List.foldl_append
abbrev rA := @List.mem_append_left
abbrev rB := @Int.toNat_zero
abbrev rI := @Option.getD_some
abbrev rJ := @List.mem_flatten
abbrev rK := @Bool.or_true
abbrev rP := @List.mem_or_eq_of_mem_set
abbrev sA := @List.take_succ_cons
abbrev tK := @List.length_erase_of_mem
abbrev tQ := @Nat.min_eq_left
abbrev tR := @List.mem_filter
abbrev tU := @Bool.false_ne_true
abbrev uM := @Int.le_refl
abbrev vT := @Nat.add_comm
abbrev vU := @List.take_zero
abbrev vW := @List.size_toArray
abbrev vY := @List.getElem?_inj
abbrev wZ := @List.replicate_append_replicate
abbrev xE := @List.singleton_append
abbrev xF := @List.set_append_right
abbrev xG := @List.length_filter_le
abbrev xJ := @List.eq_nil_iff_forall_not_mem
abbrev yT := @List.set_append_left
abbrev yU := @List.range_eq_range'
abbrev yW := @List.mem_erase_of_ne
abbrev zX := @List.filterMap_cons
abbrev H6 := @Nat.lt_or_gt_of_ne
abbrev H8 := @List.filter_append
abbrev L8 := @Array.mapM_eq_mapM_toList
abbrev O0 := @Nat.le_succ_of_le
abbrev P0 := @List.all_cons
abbrev P1 := @Array.size_setIfInBounds
abbrev Z0 := @List.flatten_nil
abbrev Z1 := @List.flatten_eq_nil_iff
abbrev AI := @Int.not_lt
abbrev CU := @List.range_succ
abbrev ET := @List.mem_append_right
abbrev EU := @List.getElem_set_self
abbrev EV := @Array.getElem?_modify
abbrev IU := @Option.map_map
abbrev IV := @Nat.one_mul
abbrev IW := @Nat.le_succ
abbrev IX := @List.take_take
abbrev IY := @List.drop_drop
abbrev LS := @List.take_set_of_le
abbrev LU := @List.filter_eq_self
abbrev LV := @Int.toNat_of_nonneg
abbrev QC := @Nat.add_sub_cancel
abbrev QD := @List.map_replicate
abbrev QE := @List.length_range'
abbrev VM := @Nat.zero_mul
abbrev VN := @List.pairwise_map
abbrev VO := @List.nodup_range'
abbrev VP := @List.mem_range'_1
abbrev VT := @Array.toList_push
abbrev ZA := @List.map_flatten
abbrev zG7 := @List.filter_nil
abbrev zR4 := @Nat.sub_zero
abbrev zR5 := @List.all_map
end Go
namespace Go.Ab
open Go
inductive AV where
  | v (x : Value)
  | any
  | ptr (k off : Nat)
  | ep (k i off sz : Nat)
  | pr (cs : List AV) (off : Nat)
  | sl (k off len sz : Nat)
  | mp (k : Nat)
  | row (cs : List AV) (len sz : Nat)
  | mrow (ks : List Value) (vs : List AV)
  | agg (cs : List AV)
  | tup (vs : List AV)
  | clo (f : Fn) (first cap : List AV)
  | cond (b : Bool) (x : AV)
  | ifc (t : TypeId) (x : AV)
abbrev AV.i (n : Int) : AV := .v (.int .i64 n)
abbrev AV.b (b : Bool) : AV := .v (.bool b)
abbrev AV.nils : AV := .v (.slice none 0 0)
abbrev Pl := Nat → Option (Nat × Nat)
def room (w : World) (b n : Nat) : Prop := ∃ c e fz,w.heap[b]? = some (.cells c e fz) ∧ n ≤ c.size
def zM9 (w : World) (p : Option (Nat × Nat)) : Prop := ∀ b o,p = some (b,o) → ∃ c e,w.heap[b]? = some (.cells c e (0,0))
def lies (w : World) (b o : Nat) (ys : List Value) : Prop := ∃ c e fz,w.heap[b]? = some (.cells c e fz) ∧ ∀ j y,ys[j]? = some y → c[o + j]? = some y
mutual
def R (S : Nat → Prop) (w : World) : AV → Pl → Value → Prop
  | .v x,_,y => y = x
  | .any,_,_ => True
  | .ptr k off,ρ,y => ∃ b o,ρ k = some (b,o) ∧ y = .pointer (some ⟨b,o + off,none⟩)
  | .ep k i off sz,ρ,y => ∃ b o,ρ k = some (b,o) ∧ y = .pointer (some ⟨b,o + (i * sz + off),none⟩)
  | .pr cs off,_,y => ∃ b o ys,y = .pointer (some ⟨b,o + off,none⟩) ∧ S b ∧ lies w b o ys ∧ RL S w cs (fun _ => none) ys
  | .sl k off len sz,ρ,y => ∃ a cap,y = .slice a len cap ∧ cap ≤ maxLen ∧ ((len = 0 ∧ cap = 0) ∨ ∃ b o,ρ k = some (b,o) ∧ a = some ⟨b,o + off * sz,none⟩ ∧ len ≤ cap ∧ room w b (o + (off + cap) * sz))
  | .row cs len sz,_,y => ∃ a cap,y = .slice a len cap ∧ len ≤ cap ∧ (a = none → cap = 0) ∧ cap ≤ maxLen ∧ cs.length = len * sz ∧ (len = 0 ∨ ∃ b o ys,a = some ⟨b,o,none⟩ ∧ S b ∧ lies w b o ys ∧ RL S w cs (fun _ => none) ys)
  | .mp k,ρ,y => ∃ b o,ρ k = some (b,o) ∧ y = .map (some b)
  | .mrow ks vs,_,y => ∃ b l ck,y = .map (some b) ∧ S b ∧ w.heap[b]? = some (.map l ck) ∧ l.toList.map (·.key) = ks ∧ RL S w vs (fun _ => none) (l.toList.map (·.val))
  | .agg cs,ρ,y => ∃ ys,y = .agg ys ∧ RL S w cs ρ ys.toList
  | .tup cs,ρ,y => ∃ ys,y = .tuple ys ∧ RL S w cs ρ ys.toList
  | .clo f cs ds,ρ,y => ∃ ys zs,y = .func f ys zs ∧ RL S w cs ρ ys.toList ∧ RL S w ds ρ zs.toList
  | .cond b x,ρ,y => b = true → R S w x ρ y
  | .ifc t x,ρ,y => ∃ z,y = .iface t z ∧ R S w x ρ z
def RL (S : Nat → Prop) (w : World) : List AV → Pl → List Value → Prop
  | [],_,ys => ys = []
  | x :: xs,ρ,ys => ∃ y zs,ys = y :: zs ∧ R S w x ρ y ∧ RL S w xs ρ zs
end
structure lM (M : Nat → Prop) (w w' : World) : Prop where
  os : w'.os = w.os
  tape : w'.tape = w.tape
  output : w'.output = w.output
  size : w.heap.size ≤ w'.heap.size
  same : ∀ b,b < w.heap.size → ¬ M b → w'.heap[b]? = w.heap[b]?
  shape : ∀ (b : Nat) (c : Array Value) (e : TypeId) (fz : Nat × Nat),w.heap[b]? = some (.cells c e fz) → ∃ (c' : Array Value) (fz' : Nat × Nat),w'.heap[b]? = some (.cells c' e fz') ∧ c'.size = c.size
theorem VU {p : Nat → Prop} : ∀ i,i < 0 → p i := fun _ h => absurd h (eM _)
theorem lM.refl (M : Nat → Prop) (w : World) : lM M w w := ⟨rfl,rfl,rfl,aU _,fun _ _ _ => rfl,fun _ c _ fz h => ⟨c,fz,h,rfl⟩⟩
theorem lM.trans {M N : Nat → Prop} {a b c : World} (h : lM M a b) (k : lM N b c) (hN : ∀ x,N x → x < a.heap.size → M x) : lM M a c := by
  refine ⟨k.os.trans h.os,k.tape.trans h.tape,k.output.trans h.output,cQ h.size k.size,fun x hx hM => ?_,fun x cs e fz hc => ?_⟩
  · rw [k.same x (cC hx h.size) (fun hn => hM (hN x hn hx)),h.same x hx hM]
  · obtain ⟨c1,f1,h1,h2⟩ := h.shape x cs e fz hc;obtain ⟨c2,f2,h3,h4⟩ := k.shape x c1 e f1 h1;exact ⟨c2,f2,h3,h4.trans h2⟩
theorem lM.mono {M N : Nat → Prop} {a b : World} (h : lM M a b) (hN : ∀ x,x < a.heap.size → M x → N x) : lM N a b :=
  ⟨h.os,h.tape,h.output,h.size,fun x hx hM => h.same x hx (fun hm => hM (hN x hx hm)),h.shape⟩
theorem lM.room {M : Nat → Prop} {a b : World} (h : lM M a b) {x n : Nat} (hr : room a x n) : room b x n := by
  obtain ⟨c,e,fz,hc,hn⟩ := hr;obtain ⟨c',fz',h1,h2⟩ := h.shape x c e fz hc;exact ⟨c',e,fz',h1,by omega⟩
theorem lM.drew {M : Nat → Prop} {a b : World} (h : lM M a b) : lM M a { b with drawn := b.drawn + 1 } := ⟨h.os,h.tape,h.output,h.size,h.same,h.shape⟩
theorem CB {w w' : World} {b o : Nat} {ys : List Value} (hb : w'.heap[b]? = w.heap[b]?) (h : lies w b o ys) : lies w' b o ys := by
  unfold lies at *;rw [hb];exact h
structure hY (ρ ρ' : Pl) (S S' : Nat → Prop) (w w' : World) : Prop where
  pl : ∀ k p,ρ k = some p → ρ' k = some p
  st : ∀ b,S b → S' b
  same : ∀ b,S b → w'.heap[b]? = w.heap[b]?
  room : ∀ k b o n,ρ k = some (b,o) → room w b n → room w' b n
mutual
theorem lD {S S' : Nat → Prop} {w w' : World} (hS : ∀ b,S b → S' b) (hw : ∀ b,S b → w'.heap[b]? = w.heap[b]?) :
    ∀ (x : AV) (ρ ρ' : Pl) (y : Value),(∀ k p,ρ k = some p → ρ' k = some p) → (∀ k b o n,ρ k = some (b,o) → room w b n → room w' b n) → R S w x ρ y → R S' w' x ρ' y
  | .v x,ρ,ρ',y,_,_,h => by simpa [R] using h
  | .any,_,_,_,_,_,_ => by simp [R]
  | .ptr k off,ρ,ρ',y,hρ,_,h => by
    simp only [R] at *;obtain ⟨b,o,h1,h2⟩ := h;exact ⟨b,o,hρ _ _ h1,h2⟩
  | .mp k,ρ,ρ',y,hρ,_,h => by
    simp only [R] at *;obtain ⟨b,o,h1,h2⟩ := h;exact ⟨b,o,hρ _ _ h1,h2⟩
  | .ep k i off sz,ρ,ρ',y,hρ,_,h => by
    simp only [R] at *;obtain ⟨b,o,h1,h2⟩ := h;exact ⟨b,o,hρ _ _ h1,h2⟩
  | .pr cs off,_,_,y,_,_,h => by
    simp only [R] at *;obtain ⟨b,o,ys,h1,h2,h3,h4⟩ := h;exact ⟨b,o,ys,h1,hS _ h2,CB (hw _ h2) h3,lL hS hw cs _ _ _ (fun _ _ h => h) (fun _ _ _ _ h => by cases h) h4⟩
  | .sl k off len sz,ρ,ρ',y,hρ,hr,h => by
    simp only [R] at *;obtain ⟨a,cap,h1,h6,h2⟩ := h;refine ⟨a,cap,h1,h6,?_⟩;rcases h2 with h2 | ⟨b,o,h3,h4,h5,h7⟩
    · exact .inl h2
    · exact .inr ⟨b,o,hρ _ _ h3,h4,h5,hr _ _ _ _ h3 h7⟩
  | .mrow ks vs,_,_,y,_,_,h => by
    simp only [R] at *;obtain ⟨b,l,ck,h1,h2,h3,h4,h5⟩ := h;exact ⟨b,l,ck,h1,hS _ h2,by rw [hw _ h2];exact h3,h4,lL hS hw vs _ _ _ (fun _ _ h => h) (fun _ _ _ _ h => by cases h) h5⟩
  | .row cs len sz,ρ,ρ',y,_,_,h => by
    simp only [R] at *;obtain ⟨a,cap,h1,h2,h2n,h2c,h3,h4⟩ := h;refine ⟨a,cap,h1,h2,h2n,h2c,h3,?_⟩;rcases h4 with h4 | ⟨b,o,ys,h5,h6,h7,h8⟩
    · exact .inl h4
    · exact .inr ⟨b,o,ys,h5,hS _ h6,CB (hw _ h6) h7,lL hS hw cs _ _ _ (fun _ _ h => h) (fun _ _ _ _ h => by cases h) h8⟩
  | .agg cs,ρ,ρ',y,hρ,hr,h => by
    simp only [R] at *;obtain ⟨ys,h1,h2⟩ := h;exact ⟨ys,h1,lL hS hw cs ρ ρ' _ hρ hr h2⟩
  | .tup cs,ρ,ρ',y,hρ,hr,h => by
    simp only [R] at *;obtain ⟨ys,h1,h2⟩ := h;exact ⟨ys,h1,lL hS hw cs ρ ρ' _ hρ hr h2⟩
  | .clo f cs ds,ρ,ρ',y,hρ,hr,h => by
    simp only [R] at *;obtain ⟨ys,zs,h1,h2,h3⟩ := h;exact ⟨ys,zs,h1,lL hS hw cs ρ ρ' _ hρ hr h2,lL hS hw ds ρ ρ' _ hρ hr h3⟩
  | .cond b x,ρ,ρ',y,hρ,hr,h => by
    simp only [R] at *;exact fun hb => lD hS hw x ρ ρ' y hρ hr (h hb)
  | .ifc t x,ρ,ρ',y,hρ,hr,h => by
    simp only [R] at *;obtain ⟨z,h1,h2⟩ := h;exact ⟨z,h1,lD hS hw x ρ ρ' z hρ hr h2⟩
theorem lL {S S' : Nat → Prop} {w w' : World} (hS : ∀ b,S b → S' b) (hw : ∀ b,S b → w'.heap[b]? = w.heap[b]?) :
    ∀ (xs : List AV) (ρ ρ' : Pl) (ys : List Value),(∀ k p,ρ k = some p → ρ' k = some p) → (∀ k b o n,ρ k = some (b,o) → room w b n → room w' b n) → RL S w xs ρ ys → RL S' w' xs ρ' ys
  | [],_,_,_,_,_,h => by simpa [RL] using h
  | x :: xs,ρ,ρ',ys,hρ,hr,h => by
    simp only [RL] at *;obtain ⟨y,zs,h1,h2,h3⟩ := h;exact ⟨y,zs,h1,lD hS hw x ρ ρ' y hρ hr h2,lL hS hw xs ρ ρ' zs hρ hr h3⟩
end
theorem R.later {ρ ρ' : Pl} {S S' : Nat → Prop} {w w' : World} (l : hY ρ ρ' S S' w w') {x : AV} {y : Value} (h : R S w x ρ y) : R S' w' x ρ' y :=
  lD l.st l.same x ρ ρ' y l.pl l.room h
theorem RL.later {ρ ρ' : Pl} {S S' : Nat → Prop} {w w' : World} (l : hY ρ ρ' S S' w w') {x : List AV} {y : List Value} (h : RL S w x ρ y) : RL S' w' x ρ' y :=
  lL l.st l.same x ρ ρ' y l.pl l.room h
theorem eV {S : Nat → Prop} {w : World} {ρ : Pl} : ∀ {xs : List AV} {ys : List Value}, RL S w xs ρ ys → ys.length = xs.length
  | [],_,h => by simp only [RL] at h;simp [h]
  | x :: xs,_,h => by
    simp only [RL] at h;obtain ⟨y,zs,rfl,_,h3⟩ := h;simp [eV h3]
theorem mT {S : Nat → Prop} {w : World} {ρ : Pl} : ∀ {xs : List AV} {ys : List Value}, RL S w xs ρ ys → ∀ (j : Nat) (x : AV), xs[j]? = some x → ∃ y, ys[j]? = some y ∧ R S w x ρ y
  | [],_,_,j,x,hj => by simp at hj
  | x :: xs,_,h,j,u,hj => by
    simp only [RL] at h;obtain ⟨y,zs,rfl,h2,h3⟩ := h;cases j with
    | zero => simp at hj;subst hj;exact ⟨y,by simp,h2⟩
    | succ j => simpa using mT h3 j u (by simpa using hj)
theorem IS {S : Nat → Prop} {w : World} {ρ : Pl} : ∀ (xs : List AV) (ys : List Value), ys.length = xs.length → (∀ (j : Nat) x y, xs[j]? = some x → ys[j]? = some y → R S w x ρ y) → RL S w xs ρ ys
  | [],ys,hl,_ => by simp only [RL];exact cF hl
  | x :: xs,[],hl,_ => by simp at hl
  | x :: xs,y :: ys,hl,h => by
    simp only [RL];exact ⟨y,ys,rfl,h 0 x y (by simp) (by simp),IS xs ys (by simpa using hl) (fun j u v hu hv => h (j + 1) u v (by simpa using hu) (by simpa using hv))⟩
theorem fC {S : Nat → Prop} {w : World} {ρ : Pl} : ∀ {xs xs' : List AV} {ys ys' : List Value}, RL S w xs ρ ys → RL S w xs' ρ ys' → RL S w (xs ++ xs') ρ (ys ++ ys')
  | [],_,_,_,h,h' => by simp only [RL] at h;subst h;simpa using h'
  | x :: xs,_,_,_,h,h' => by
    simp only [RL] at h;obtain ⟨y,zs,rfl,h2,h3⟩ := h;simp only [List.cons_append,RL];exact ⟨y,_,rfl,h2,fC h3 h'⟩
theorem H4 {S : Nat → Prop} {w : World} {ρ : Pl} {xs : List AV} {ys : List Value} (h : RL S w xs ρ ys) (n : Nat) : RL S w (xs.drop n) ρ (ys.drop n) := by
  refine IS _ _ (by simp [eV h]) fun j x y hx hy => ?_
  rw [eR] at hx hy;obtain ⟨y',h1,h2⟩ := mT h _ _ hx;rw [hy] at h1;cases h1;exact h2
theorem wY {S : Nat → Prop} {w : World} {ρ : Pl} {xs : List AV} {ys : List Value} (h : RL S w xs ρ ys) (n : Nat) : RL S w (xs.take n) ρ (ys.take n) := by
  refine IS _ _ (by simp [eV h]) fun j x y hx hy => ?_
  rw [bS] at hx hy;split at hx
  · rename_i hlt;rw [if_pos hlt] at hy;obtain ⟨y',h1,h2⟩ := mT h _ _ hx;rw [hy] at h1;cases h1;exact h2
  · cases hx
theorem VJ {S : Nat → Prop} {w : World} {ρ : Pl} {xs : List AV} {ys : List Value} (h : RL S w xs ρ ys) (n : Nat) {x : AV} {y : Value} (hx : R S w x ρ y) : RL S w (xs.set n x) ρ (ys.set n y) := by
  refine IS _ _ (by simp [eV h]) fun j u v hu hv => ?_
  rw [cK] at hu hv;by_cases hn : n = j
  · subst hn;rw [if_pos rfl] at hu hv;split at hu
    · rename_i hlt;rw [if_pos (by rw [eV h];exact hlt)] at hv
      cases hu;cases hv;exact hx
    · cases hu
  · rw [if_neg hn] at hu hv;obtain ⟨y',h1,h2⟩ := mT h _ _ hu;rw [hv] at h1;cases h1;exact h2
inductive AB where
  | gone
  | cells (cs : List AV)
  | arr (es : List (List AV)) (sz : Nat)
  | mapO (ks : List Value) (vs : List AV)
  | var (t : TypeId) (cs : List AV)
  | buf (e : TypeId) (l : List UInt8)
  | mapB (ks : List Value) (vs : List AV) (bs : List Nat) (ck : Nat)
  | iter (km : Nat) (since : Nat) (seen : List Nat) (c0 : Nat)
  | lit (es : List (List AV)) (sz : Nat)
abbrev dD := List (Nat × AV)
abbrev Hp := List AB
abbrev AV.rowE (es : List (List AV)) (sz : Nat) : AV := .row es.flatten es.length sz
def look : dD → Nat → Option AV
  | [],_ => none
  | (k, x) :: r, t => match Nat.beq k t with
    | true => some x
    | false => look r t
def ev (env : dD) : Operand → Option AV
  | .tmp t => look env t
  | .const v => some (.v v)
  | .func f => some (.clo (.func f) [] [])
  | .global _ => none
def fR (d : Option Nat) (x : AV) (env : dD) : dD := match d with
  | some t => (t,x) :: env
  | none => env
def U8 (w : World) (b o : Nat) (ys : List Value) : Prop := ∃ c e,w.heap[b]? = some (.cells c e (0,0)) ∧ ∀ j y,ys[j]? = some y → c[o + j]? = some y
theorem U8.lies {w : World} {b o : Nat} {ys : List Value} (h : U8 w b o ys) : lies w b o ys := by
  obtain ⟨c,e,h1,h2⟩ := h;exact ⟨c,e,_,h1,h2⟩
def wX (l : Array MapEntry) (ck : Nat) : Prop := (l.toList.map (·.born)).Nodup ∧ ∀ e,e ∈ l.toList → e.born < ck
def ZD : Obj → Bool
  | .map .. => true
  | .mapIter .. => true
  | _ => false
def RB (S : Nat → Prop) (w : World) (ρ : Pl) (p : Option (Nat × Nat)) : AB → Prop
  | .gone => True
  | .cells cs => ∃ b o ys,p = some (b,o) ∧ U8 w b o ys ∧ RL S w cs ρ ys
  | .mapO ks vs => ∃ b o l ck,p = some (b,o) ∧ w.heap[b]? = some (.map l ck) ∧ (l.toList.map (·.key) = ks ∧ wX l ck) ∧ RL S w vs ρ (l.toList.map (·.val))
  | .mapB ks vs bs ck => ∃ b o l,p = some (b,o) ∧ w.heap[b]? = some (.map l ck) ∧ (l.toList.map (·.key) = ks ∧ wX l ck ∧ l.toList.map (·.born) = bs) ∧ RL S w vs ρ (l.toList.map (·.val))
  | .iter km since seen c0 => ∃ b,p = some (b,0) ∧ ∃ m,ρ km = some m ∧ w.heap[b]? = some (.mapIter (some m.1) since seen.toArray c0)
  | .var t cs => ∃ b c,p = some (b,0) ∧ w.heap[b]? = some (.cells c t (0,0)) ∧ RL S w cs ρ c.toList
  | .buf e l => (l = [] ∧ p = none) ∨ ∃ b c,p = some (b,0) ∧ w.heap[b]? = some (.cells c e (0,0)) ∧ ∀ (j : Nat) (x : UInt8),l[j]? = some x → c[j]? = some (.int .u8 x.toNat)
  | .arr es sz => (∀ e,e ∈ es → e.length = sz) ∧ 0 < sz ∧ ((es = [] ∧ zM9 w p) ∨ ∃ b o ys,p = some (b,o) ∧ U8 w b o ys ∧ RL S w es.flatten ρ ys)
  | .lit es sz => (∀ e,e ∈ es → e.length = sz) ∧ 0 < sz ∧ ∃ b ys,p = some (b,0) ∧ (∃ c e,w.heap[b]? = some (.cells c e (0,0)) ∧ c.size = es.length * sz ∧ ∀ (j : Nat) y,ys[j]? = some y → c[0 + j]? = some y) ∧ RL S w es.flatten ρ ys
theorem RB.later {ρ ρ' : Pl} {S S' : Nat → Prop} {w w' : World} (l : hY ρ ρ' S S' w w') {p : Option (Nat × Nat)} (hp : ∀ b o, p = some (b, o) → w'.heap[b]? = w.heap[b]?) : ∀ {x : AB}, RB S w ρ p x → RB S' w' ρ' p x
  | .gone,_ => trivial
  | .cells cs,h => by
    obtain ⟨b,o,ys,h1,⟨c,e,h2,h3⟩,h4⟩ := h;exact ⟨b,o,ys,h1,⟨c,e,by rw [hp b o h1];exact h2,h3⟩,h4.later l⟩
  | .mapO ks vs,h => by
    obtain ⟨b,o,m,ck,h1,h2,h3,h4⟩ := h;exact ⟨b,o,m,ck,h1,by rw [hp b o h1];exact h2,h3,h4.later l⟩
  | .mapB ks vs bs ck,h => by
    obtain ⟨b,o,m,h1,h2,h3,h4⟩ := h;exact ⟨b,o,m,h1,by rw [hp b o h1];exact h2,h3,h4.later l⟩
  | .iter km since seen c0,h => by
    obtain ⟨b,h1,m,h2,h3⟩ := h;exact ⟨b,h1,m,l.pl _ _ h2,by rw [hp b 0 h1];exact h3⟩
  | .var t cs,h => by
    obtain ⟨b,c,h1,h2,h3⟩ := h;exact ⟨b,c,h1,by rw [hp b 0 h1];exact h2,h3.later l⟩
  | .buf e _,h => by
    rcases h with h | ⟨b,c,h1,h2,h3⟩
    · exact .inl h
    · exact .inr ⟨b,c,h1,by rw [hp b 0 h1];exact h2,h3⟩
  | .arr es sz,h => by
    obtain ⟨h0,h00,h⟩ := h;refine ⟨h0,h00,?_⟩;rcases h with h | ⟨b,o,ys,h1,⟨c,e,h2,h3⟩,h4⟩
    · exact .inl ⟨h.1,fun b o e => by rw [hp b o e];exact h.2 b o e⟩
    · exact .inr ⟨b,o,ys,h1,⟨c,e,by rw [hp b o h1];exact h2,h3⟩,h4.later l⟩
  | .lit es sz,h => by
    obtain ⟨h0,h00,b,ys,h1,⟨c,e,h2,h3⟩,h4⟩ := h;exact ⟨h0,h00,b,ys,h1,⟨c,e,by rw [hp b 0 h1];exact h2,h3⟩,h4.later l⟩
structure oU where
  w0 : World
  M : Nat → Prop
  new : ∀ b,w0.heap.size ≤ b → M b
  S0 : Nat → Prop
  ρ0 : Pl
  m : Nat
  lo : Nat
  lole : lo ≤ w0.heap.size
  r : Option Nat
  nb : Nat → Prop := fun _ => True
def uE : List (Nat × List AV) := [(0,(List.range 20).map fun i => .v (.int .u64 ((10 ^ i : Nat) : Int))),(2,[.ifc 329 .any]),(3,[.ifc 329 .any])]
def mX (S : Nat → Prop) (w : World) : Prop := ∀ g cs,(g,cs) ∈ uE → S g ∧ ∃ ys t fz,w.heap[g]? = some (.cells ys t fz) ∧ RL S w cs (fun _ => none) ys.toList
theorem mX.later {ρ ρ' : Pl} {S S' : Nat → Prop} {w w' : World} (l : hY ρ ρ' S S' w w') (h : mX S w) : mX S' w' := fun g cs hg => by
  obtain ⟨h1,ys,t,fz,h2,h3⟩ := h g cs hg;exact ⟨l.st _ h1,ys,t,fz,by rw [l.same _ h1];exact h2,lL l.st l.same cs _ _ _ (fun _ _ h => h) (fun _ _ _ _ h => by cases h) h3⟩
theorem mX.none {S : Nat → Prop} {w : World} (h : uE = []) : mX S w := fun g cs hg => by rw [h] at hg;cases hg
theorem mX.st {S S' : Nat → Prop} {w : World} (hS : ∀ b,S b → S' b) (h : mX S w) : mX S' w := fun g cs hg => by
  obtain ⟨h1,ys,t,fz,h2,h3⟩ := h g cs hg;exact ⟨hS _ h1,ys,t,fz,h2,lL hS (fun _ _ => rfl) cs _ _ _ (fun _ _ h => h) (fun _ _ _ _ h => by cases h) h3⟩
structure HS (c : oU) (ρ : Pl) (S : Nat → Prop) (h : Hp) (w : World) : Prop where
  dom : ∀ k,h.length ≤ k → ρ k = none
  rng : ∀ k p,ρ k = some p → p.1 < w.heap.size
  blk : ∀ (k : Nat) b,h[k]? = some b → RB S w ρ (ρ k) b
  live : ∀ (k : Nat) b p,h[k]? = some b → b ≠ .gone → ρ k = some p → c.M p.1 ∧ ¬ S p.1
  inj : ∀ (k k' : Nat) b b' p p',h[k]? = some b → h[k']? = some b' → b ≠ .gone → b' ≠ .gone → ρ k = some p → ρ k' = some p' → p.1 = p'.1 → k = k'
  stab : ∀ b,S b → b < w.heap.size
  ext : lM c.M c.w0 w
  st0 : ∀ b,c.S0 b → S b
  st1 : ∀ b,S b → c.S0 b ∨ c.M b
  mle : c.m ≤ h.length
  keep : ∀ k,k < c.m → ρ k = c.ρ0 k
  glob : mX S w
def XO (b : Nat) : Deferred := { target := .collected b,args := #[] }
def rO (c : oU) (S : Nat → Prop) (l : List Deferred) (w : World) : Prop :=
  (∃ D : List Nat,l = D.map XO ∧ D.Nodup ∧ ∀ b,b ∈ D → S b ∧ w.heap[b]? = some (.deferred (some [])) ∧ c.lo ≤ b) ∧
  ∀ q,c.r = some q → S q ∧ ∃ rec,w.heap[q]? = some (.loop rec)
theorem rO.nil {c : oU} (hr : c.r = none) (S : Nat → Prop) (w : World) : rO c S [] w := ⟨⟨[],rfl,aI,fun _ h => by cases h⟩,fun q hq => by rw [hr] at hq;cases hq⟩
theorem rO.later {c : oU} {ρ ρ' : Pl} {S S' : Nat → Prop} {l : List Deferred} {w w' : World} (m : rO c S l w) (k : hY ρ ρ' S S' w w') : rO c S' l w' := by
  obtain ⟨⟨D,h1,h2,h3⟩,h4⟩ := m;refine ⟨⟨D,h1,h2,fun b hb => ⟨k.st b (h3 b hb).1,by rw [k.same b (h3 b hb).1];exact (h3 b hb).2.1,(h3 b hb).2.2⟩⟩,fun q hq => ?_⟩
  obtain ⟨h5,rec,h6⟩ := h4 q hq;exact ⟨k.st q h5,rec,by rw [k.same q h5];exact h6⟩
theorem rO.st {c : oU} {S S' : Nat → Prop} {l : List Deferred} {w : World} (m : rO c S l w) (hS : ∀ b,S b → S' b) : rO c S' l w := by
  obtain ⟨⟨D,h1,h2,h3⟩,h4⟩ := m;exact ⟨⟨D,h1,h2,fun b hb => ⟨hS b (h3 b hb).1,(h3 b hb).2⟩⟩,fun q hq => ⟨hS q (h4 q hq).1,(h4 q hq).2⟩⟩
def rd (r : Option Nat) : Fence := { Fence.wide with round := r }
theorem GH {r : Option Nat} {n : Nat} {P : Program} {f : FuncId} {args : Array Value} {w : World} {R : Ending → World → Prop} (h : Calls P f args w R) : CallsIn (rd r) n P f args w R :=
  (callsIn_wide (n := n)).2 h
theorem WR {r : Option Nat} {n : Nat} {P : Program} {row : String} {args : Array Value} {w : World} {R : Value → World → Prop} (h : Rows P row args w R) : RowsIn (rd r) n P row args w R :=
  fun c cs _ => let ⟨v,w',r,s⟩ := h c cs;⟨v,w',r,stepsIn_wide.2 s⟩
def J7 (o : Oper) : Bool := match o.op with
  | .defer _ => false
  | _ => true
def mZ : List Oper → Bool
  | [] => true
  | o :: l => J7 o && mZ l
theorem U0 {o : Oper} (h : J7 o = true) (r : Option Nat) (ρ : Operand → Value) : o.semAt r ρ = execOp ρ o :=
  Oper.semAt_eq r ρ o fun c e => by unfold J7 at h;rw [e] at h;cases h
theorem J6 : ∀ {l : List Oper}, mZ l = true → ∀ {i : Nat} {o : Oper}, l[i]? = some o → J7 o = true
  | [],_,i,o,ho => by simp at ho
  | o' :: l,h,i,o,ho => by
    simp only [mZ,aN] at h;cases i with
    | zero => simp at ho;subst ho;exact h.1
    | succ i => exact J6 h.2 (by simpa using ho)
theorem SH {P : Program} {o : Oper} {a : Act} {w : World} {K : Act → World → Prop} {Q : Exit → Act → World → Prop} {r : Option Nat} (hd : J7 o = true) (h : o.wp P a w K Q) : o.wpIn (rd r) 0 P a w K Q := by
  refine ⟨fun _ _ => trivial,?_⟩
  have e : (rd r).round = r := rfl;rw [U0 hd];unfold Oper.wp at h;generalize (execOp a.eval o).run P w = x at h ⊢;cases x with
  | ok x w' =>
    cases x <;> simp only [Oper.upon, Oper.uponIn] at h ⊢ <;>
      first
        | exact h
        | exact ⟨fun h => (by cases h),GH h⟩
        | exact ⟨fun h => (by cases h),WR h⟩
        | exact h.elim
  | halt x w' => cases x <;> simp only [Oper.upon,Oper.uponIn] at h ⊢ <;> exact h
theorem uX {P : Program} {ops : Array Oper} {Q : Exit → Act → World → Prop} {r : Option Nat} (hq : ∀ e a w, Q e a w → e = .normal) : ∀ {l : List Oper}, mZ l = true → ∀ {a : Act} {w : World}, wpList P ops Q l a w → wpListIn (rd r) 0 P ops Q l a w
  | [],_,_,_,h => h
  | o :: l,hd,a,w,h => by
    simp only [mZ,aN] at hd;unfold wpList at h;unfold wpListIn;split at h
    · rename_i hw;rw [if_pos hw];rcases h with h | ⟨_,a',w',h⟩
      · exact Oper.wpIn_mono (fun a w h => uX hq hd.2 h) (SH hd.1 h)
      · have := hq _ _ _ h;cases this
    · rename_i hw;rw [if_neg hw];exact ⟨fun _ _ => trivial,uX hq hd.2 h⟩
theorem C3 {P : Program} {md : Region.Mode} {l : List Oper} {Q : Exit → Act → World → Prop} {r : Option Nat} (hq : ∀ e a w, Q e a w → e = .normal) (hd : mZ l = true) : ∀ {fuel : Nat} {listed : Array Bool} {a : Act} {w : World}, wpAny P md l.toArray Q fuel listed a w → wpAnyIn (rd r) 0 P md l.toArray Q fuel listed a w
  | 0,_,_,_,h => h
  | fuel + 1,listed,a,w,h => by
    refine ⟨h.1,fun i hi => ?_⟩
    have h2 := h.2 i hi;unfold wpOp at h2;unfold wpOpIn;cases ho : l.toArray[i]? with
    | none =>
      simp only [ho] at h2 ⊢;exact C3 hq hd h2
    | some o =>
      simp only [ho] at h2 ⊢;split at h2
      · rename_i hw;rw [if_pos hw];rcases h2 with h2 | ⟨_,a',w',h2⟩
        · exact Oper.wpIn_mono (fun a w h => C3 hq hd h) (SH (J6 hd (i := i) (by simpa using ho)) h2)
        · have := hq _ _ _ h2;cases this
      · rename_i hw;rw [if_neg hw];exact ⟨fun _ _ => trivial,C3 hq hd h2⟩
structure oD (n : Nat × Nat) (c : oU) (ρ : Pl) (S : Nat → Prop) (env : dD) (h : Hp) (a : Act) (w : World) : Prop where
  size : a.tmps.size = n.1
  defers : rO c S a.defers w
  env : ∀ t x,look env t = some x → R S w x ρ (a.tmps.getD t undef)
  hs : HS c ρ S h w
  cm : c.m = n.2
structure Y9 (ρ : Pl) (S : Nat → Prop) (env : dD) (h : Hp) (a : Act) (w : World) : Prop where
  env : ∀ t x,look env t = some x → R S w x ρ (a.tmps.getD t undef)
  rng : ∀ k p,ρ k = some p → p.1 < w.heap.size
  blk : ∀ (k : Nat) b,h[k]? = some b → RB S w ρ (ρ k) b
  live : ∀ (k : Nat) b p,h[k]? = some b → b ≠ .gone → ρ k = some p → ¬ S p.1
  stab : ∀ b,S b → b < w.heap.size
  glob : mX S w
theorem oD.pre {n : Nat × Nat} {c : oU} {ρ : Pl} {S : Nat → Prop} {env : dD} {h : Hp} {a : Act} {w : World} (s : oD n c ρ S env h a w) : Y9 ρ S env h a w :=
  ⟨s.env,s.hs.rng,s.hs.blk,fun k b p h1 h2 h3 => (s.hs.live k b p h1 h2 h3).2,s.hs.stab,s.hs.glob⟩
structure L5 (ρ ρ' : Pl) (S S' : Nat → Prop) (w w' : World) (pos m : Nat) (x : AV) (new : List AB) (y : Value) : Prop where
  ext : lM (fun _ => False) w w'
  len : new.length = m
  keep : ∀ k,k < pos ∨ pos + m ≤ k → ρ' k = ρ k
  st : ∀ b,S b → S' b
  stn : ∀ b,S' b → S b ∨ (w.heap.size ≤ b ∧ b < w'.heap.size)
  fresh : ∀ k p,pos ≤ k → k < pos + m → ρ' k = some p → w.heap.size ≤ p.1 ∧ p.1 < w'.heap.size ∧ ¬ S' p.1
  inj : ∀ k k' p p',pos ≤ k → k < pos + m → pos ≤ k' → k' < pos + m → ρ' k = some p → ρ' k' = some p' → p.1 = p'.1 → k = k'
  val : R S' w' x ρ' y
  blk : ∀ (j : Nat) b,new[j]? = some b → RB S' w' ρ' (ρ' (pos + j)) b
def bJ (P : Program) (o : Oper) (env : dD) (h : Hp) (m : Nat) (x : Nat → AV) (new : Nat → List AB) : Prop :=
  ∀ ρ S a w,Y9 ρ S env h a w → ∀ pos,(∀ j,j < m → ρ (pos + j) = none) → ∀ K Q,
    (∀ y ρ' S' w',L5 ρ ρ' S S' w w' pos m (x pos) (new pos) y → K (a.put o.dst y) w') → o.wp P a w K Q
def VC (P : Program) (n : Nat × Nat) (ops : Array Oper) (rest : List Oper) (env : dD) (h : Hp) (K : dD → Hp → Prop) : Prop :=
  ∀ c ρ S a w Q,oD n c ρ S env h a w → (∀ env' h' ρ' S' a' w',K env' h' → oD n c ρ' S' env' h' a' w' → Q Exit.normal a' w') → wpList P ops Q rest a w
def AW (P : Program) (n : Nat × Nat) (code : Code) (env : dD) (h : Hp) (Q : Exit → dD → Hp → Prop) : Prop :=
  ∀ c ρ S a w QQ,oD n c ρ S env h a w → (∀ e env' h' ρ' S' a' w',Q e env' h' → oD n c ρ' S' env' h' a' w' → QQ e a' w') → code.wpIn (rd c.r) 0 P QQ a w
theorem L5.later {ρ ρ' : Pl} {S S' : Nat → Prop} {w w' : World} {pos m : Nat} {x : AV} {new : List AB} {y : Value} (p : L5 ρ ρ' S S' w w' pos m x new y) (hn : ∀ j,j < m → ρ (pos + j) = none) (hs : ∀ b,S b → b < w.heap.size) : hY ρ ρ' S S' w w' := by
  refine ⟨fun k q hq => ?_,p.st,fun b hb => p.ext.same b (hs b hb) (by simp),fun _ _ _ _ _ hr => p.ext.room hr⟩
  rw [p.keep k ?_];exact hq;by_cases h1 : k < pos
  · exact .inl h1
  · by_cases h2 : pos + m ≤ k
    · exact .inr h2
    · have := hn (k - pos) (by omega)
      rw [show pos + (k - pos) = k by omega,hq] at this
      cases this
theorem uT {a : Act} {d : Nat} {y : Value} (hd : d < a.tmps.size) : (a.put (some d) y).tmps.getD d undef = y := by
  simp [Act.put,Array.getD,hd]
theorem sW {a : Act} {d t : Nat} {y : Value} (hd : d ≠ t) : (a.put (some d) y).tmps.getD t undef = a.tmps.getD t undef := by
  simp only [Act.put,cY];rw [oE hd]
theorem iS (a : Act) (d : Option Nat) (y : Value) : (a.put d y).tmps.size = a.tmps.size := by cases d <;> simp [Act.put]
theorem fT (a : Act) (d : Option Nat) (y : Value) : (a.put d y).defers = a.defers := by cases d <;> simp [Act.put]
theorem gL (k t : Nat) (x : AV) (r : dD) : look ((k,x) :: r) t = if k = t then some x else look r t := by
  show (match Nat.beq k t with | true => some x | false => look r t) = _
  by_cases h : k = t
  · subst h;simp
  · have : Nat.beq k t = false := by
      rw [← eE];intro hb;exact h (aM hb)
    rw [this];simp [h]
def J5 (d : Option Nat) (n : Nat × Nat) : Bool := match d with
  | some t => Nat.blt t n.1
  | none => true
theorem nA {S : Nat → Prop} {w : World} {ρ : Pl} {env : dD} {a : Act} {n : Nat × Nat} {d : Option Nat} {x : AV} {y : Value} (hsize : a.tmps.size = n.1) (hd : J5 d n = true)
    (he : ∀ t u,look env t = some u → R S w u ρ (a.tmps.getD t undef)) (hy : R S w x ρ y) : ∀ t u,look (fR d x env) t = some u → R S w u ρ ((a.put d y).tmps.getD t undef) := by
  intro t u hu;cases d with
  | none => exact he t u hu
  | some d =>
    have hlt : d < a.tmps.size := by rw [hsize];exact bC hd
    simp only [fR,gL] at hu;by_cases h : d = t
    · subst h;rw [if_pos rfl] at hu;cases hu;rw [uT hlt];exact hy
    · rw [if_neg h] at hu;rw [sW h];exact he t u hu
theorem HS.post {c : oU} {ρ ρ' : Pl} {S S' : Nat → Prop} {h : Hp} {w w' : World} {m : Nat} {x : AV} {new : List AB} {y : Value} (s : HS c ρ S h w) (p : L5 ρ ρ' S S' w w' h.length m x new y) :
    HS c ρ' S' (h ++ new) w' := by
  have hn : ∀ j,j < m → ρ (h.length + j) = none := fun j _ => s.dom _ (gA _ _);have l := p.later hn s.stab;have hsz : c.w0.heap.size ≤ w.heap.size := s.ext.size;refine ⟨fun k hk => ?_,fun k q hq => ?_,fun k b hb => ?_,fun k b q hb hg hq => ?_,fun k k' b b' q q' hb hb' hg hg' hq hq' e => ?_,fun b hb => ?_,?_,fun b hb => p.st b (s.st0 b hb),fun b hb => ?_,by rw [aB];exact cQ s.mle (gA _ _),fun k hk => by rw [p.keep k (.inl (cC hk s.mle))];exact s.keep k hk,s.glob.later l⟩
  · rw [aB,p.len] at hk;rw [p.keep k (.inr hk)];exact s.dom k (by omega)
  · by_cases hk : k < h.length ∨ h.length + m ≤ k
    · rw [p.keep k hk] at hq;exact cC (s.rng k q hq) p.ext.size
    · exact (p.fresh k q (by omega) (by omega) hq).2.1
  · by_cases hk : k < h.length
    · rw [aG hk] at hb;rw [p.keep k (.inl hk)];exact RB.later l (fun b' o hb' => p.ext.same b' (s.rng k _ hb') (by simp)) (s.blk k b hb)
    · rw [aE (by omega)] at hb
      have := p.blk (k - h.length) b hb
      rwa [show h.length + (k - h.length) = k by omega] at this
  · by_cases hk : k < h.length
    · rw [aG hk] at hb;rw [p.keep k (.inl hk)] at hq;obtain ⟨h1,h2⟩ := s.live k b q hb hg hq;refine ⟨h1,fun hs => ?_⟩
      rcases p.stn _ hs with hs | hs
      · exact h2 hs
      · have := s.rng k q hq;omega
    · have hlt : k < h.length + m := by
        have := (aA.1 hb).1;rw [aB,p.len] at this;exact this
      obtain ⟨h1,h2,h3⟩ := p.fresh k q (by omega) hlt hq
      exact ⟨c.new _ (by omega),h3⟩
  · have hlt : ∀ {k : Nat} {b : AB},(h ++ new)[k]? = some b → k < h.length + m := fun hb => by
      have := (aA.1 hb).1;rw [aB,p.len] at this;exact this
    by_cases hk : k < h.length <;> by_cases hk' : k' < h.length
    · rw [aG hk] at hb;rw [aG hk'] at hb';rw [p.keep k (.inl hk)] at hq;rw [p.keep k' (.inl hk')] at hq';exact s.inj k k' b b' q q' hb hb' hg hg' hq hq' e
    · rw [p.keep k (.inl hk)] at hq;have h1 := s.rng k q hq;have h2 := (p.fresh k' q' (by omega) (hlt hb') hq').1
      omega
    · rw [p.keep k' (.inl hk')] at hq';have h1 := s.rng k' q' hq';have h2 := (p.fresh k q (by omega) (hlt hb) hq).1
      omega
    · exact p.inj k k' q q' (by omega) (hlt hb) (by omega) (hlt hb') hq hq' e
  · rcases p.stn b hb with hb | hb
    · exact cC (s.stab b hb) p.ext.size
    · exact hb.2
  · exact s.ext.trans p.ext (fun _ h => h.elim)
  · rcases p.stn b hb with hb | hb
    · exact s.st1 b hb
    · exact .inr (c.new b (by omega))
theorem oD.post {n : Nat × Nat} {c : oU} {ρ ρ' : Pl} {S S' : Nat → Prop} {env : dD} {h : Hp} {a : Act} {w w' : World} {m : Nat} {x : AV} {new : List AB} {y : Value} {d : Option Nat}
    (s : oD n c ρ S env h a w) (hd : J5 d n = true) (p : L5 ρ ρ' S S' w w' h.length m x new y) : oD n c ρ' S' (fR d x env) (h ++ new) (a.put d y) w' := by
  have l := p.later (fun j _ => s.hs.dom _ (gA _ _)) s.hs.stab;exact ⟨by rw [iS];exact s.size,by rw [fT];exact s.defers.later l,nA s.size hd (fun t u hu => (s.env t u hu).later l) p.val,s.hs.post p,s.cm⟩
theorem pD {o : Oper} {f : Nat → Option Bool} (hg : o.guard = none) : Region.wanted o f = true := by simp [Region.wanted,hg]
theorem zH9 {P : Program} {n : Nat × Nat} {ops : Array Oper} {o : Oper} {rest : List Oper} {env : dD} {h : Hp} {K : dD → Hp → Prop} {m : Nat} {x : Nat → AV} {new : Nat → List AB}
    (hs : bJ P o env h m x new) (hg : o.guard = none) (hd : J5 o.dst n = true) (hk : VC P n ops rest (fR o.dst (x h.length) env) (h ++ new h.length) K) : VC P n ops (o :: rest) env h K := by
  intro c ρ S a w Q s hQ;refine wpList_plain hg fun K' hK' => ?_
  exact hs ρ S a w s.pre h.length (fun j _ => s.hs.dom _ (gA _ _)) K' Q fun y ρ' S' w' p => hK' _ _ (hk c ρ' S' _ w' Q (s.post hd p) hQ)
theorem uN {P : Program} {n : Nat × Nat} {ops : Array Oper} {env : dD} {h : Hp} {K : dD → Hp → Prop} (hk : K env h) : VC P n ops [] env h K :=
  fun _ _ _ _ _ _ s hQ => hQ _ _ _ _ _ _ hk s
theorem VC.mono {P : Program} {n : Nat × Nat} {ops : Array Oper} {rest : List Oper} {env : dD} {h : Hp} {K K' : dD → Hp → Prop} (hv : VC P n ops rest env h K) (hk : ∀ e h,K e h → K' e h) : VC P n ops rest env h K' :=
  fun c ρ S a w Q s hQ => hv c ρ S a w Q s fun env' h' ρ' S' a' w' k s' => hQ env' h' ρ' S' a' w' (hk _ _ k) s'
section
variable {P : Program} {n : Nat × Nat} {env : dD} {h : Hp} {Q : Exit → dD → Hp → Prop}
theorem AW.mono {code : Code} {Q' : Exit → dD → Hp → Prop} (hv : AW P n code env h Q) (hk : ∀ e v h,Q e v h → Q' e v h) : AW P n code env h Q' :=
  fun c ρ S a w QQ s hQ => hv c ρ S a w QQ s fun e env' h' ρ' S' a' w' k s' => hQ e env' h' ρ' S' a' w' (hk _ _ _ k) s'
def BV (K : dD → Hp → Prop) (Q : Exit → dD → Hp → Prop) : Exit → dD → Hp → Prop
  | .normal,v,h => K v h
  | e,v,h => Q e v h
def EK (id : Nat) (Q : Exit → dD → Hp → Prop) : Exit → dD → Hp → Prop
  | .exit id',v,h => if id' = id then Q .normal v h else Q (.exit id') v h
  | e,v,h => Q e v h
theorem zF8 {x y : Code} (hx : AW P n x env h (BV (fun v h => AW P n y v h Q) Q)) : AW P n (.seq x y) env h Q := by
  intro c ρ S a w QQ s hQ;refine wpIn_seq (hx c ρ S a w _ s fun e env' h' ρ' S' a' w' k s' => ?_);cases e with
  | normal => exact k c ρ' S' a' w' QQ s' hQ
  | _ => exact hQ _ env' h' ρ' S' a' w' k s'
theorem YR (hk : Q .normal env h) : AW P n .skip env h Q := fun _ _ _ _ _ _ s hQ => wpIn_skip (hQ _ _ _ _ _ _ _ hk s)
theorem YS {id : Nat} (hk : Q (.exit id) env h) : AW P n (.exit id) env h Q := fun _ _ _ _ _ _ s hQ => wpIn_exit (hQ _ _ _ _ _ _ _ hk s)
theorem zF9 (hk : Q .ret env h) : AW P n .ret env h Q := fun _ _ _ _ _ _ s hQ => wpIn_ret (hQ _ _ _ _ _ _ _ hk s)
theorem UT {id : Nat} {x : Code} (hx : AW P n x env h (EK id Q)) : AW P n (.block id x) env h Q := by
  intro c ρ S a w QQ s hQ;refine wpIn_block (hx c ρ S a w _ s fun e env' h' ρ' S' a' w' k s' => ?_);cases e with
  | exit id' =>
    by_cases hid : id' = id
    · simp only [EK,hid,if_true] at k;simp only [Exit.inBlock,hid,if_true];exact hQ _ env' h' ρ' S' a' w' k s'
    · simp only [EK,hid,if_false] at k;simp only [Exit.inBlock,hid,if_false];exact hQ _ env' h' ρ' S' a' w' k s'
  | _ => exact hQ _ env' h' ρ' S' a' w' k s'
theorem oD.ev {n : Nat × Nat} {c : oU} {ρ : Pl} {S : Nat → Prop} {env : dD} {h : Hp} {a : Act} {w : World} (s : oD n c ρ S env h a w) {x : Operand} {u : AV} (hx : ev env x = some u) : R S w u ρ (a.eval x) := by
  cases x with
  | tmp t => exact s.env t u hx
  | const v => cases hx;simp [R,Act.eval]
  | func f => cases hx;simp [R,RL,Act.eval]
  | global g => cases hx
theorem Y9.ev {ρ : Pl} {S : Nat → Prop} {env : dD} {h : Hp} {a : Act} {w : World} (s : Y9 ρ S env h a w) {x : Operand} {u : AV} (hx : Ab.ev env x = some u) : R S w u ρ (a.eval x) := by
  cases x with
  | tmp t => exact s.env t u hx
  | const v => cases hx;simp [R,Act.eval]
  | func f => cases hx;simp [R,RL,Act.eval]
  | global g => cases hx
theorem EL {x : Operand} {b : Bool} {p q : Code} (hx : ev env x = some (.b b)) (ht : b = true → AW P n p env h Q) (hf : b = false → AW P n q env h Q) : AW P n (.cond x p q) env h Q := by
  intro c ρ S a w QQ s hQ;have hb := s.ev hx;simp only [R] at hb;exact wpIn_cond_split hb (fun h1 => ht h1 c ρ S a w QQ s hQ) (fun h1 => hf h1 c ρ S a w QQ s hQ)
theorem lZ {id : Nat} {l : List Oper} (hv : VC P n l.toArray l env h (fun v h => Q .normal v h)) (hnd : mZ l = true := by rfl) : AW P n (.region id l.toArray false) env h Q := by
  intro c ρ S a w QQ s hQ;exact wpIn_mono (wpIn_region_lit (uX (fun e a w h => h.1) hnd (hv c ρ S a w (fun e a w => e = .normal ∧ QQ .normal a w) s fun env' h' ρ' S' a' w' k s' => ⟨rfl,hQ _ env' h' ρ' S' a' w' k s'⟩))) fun e a w he => by obtain ⟨rfl,h3⟩ := he;exact h3
theorem oD.fewer {n : Nat × Nat} {c : oU} {ρ : Pl} {S : Nat → Prop} {env env' : dD} {h : Hp} {a : Act} {w : World} (s : oD n c ρ S env h a w) (he : ∀ t x,look env' t = some x → look env t = some x) : oD n c ρ S env' h a w :=
  ⟨s.size,s.defers,fun t x hx => s.env t x (he t x hx),s.hs,s.cm⟩
end
structure TI where
  agg : Bool
  size : Nat
  bytes : Nat
  zero : List Value
def EO (P : Program) (t : TypeId) : Option Bool := match P.underlying t with
  | some (.struct _) => some true
  | some (.array _ _) => some true
  | some _ => some false
  | none => none
def DK (P : Program) (t : TypeId) : Option (List (Nat × Nat)) := match P.underlying t with
  | some (.struct fields) => fields.toList.mapM (fun f => (P.info? f.type).map fun i => (f.offset,i.size))
  | _ => none
structure oA (P : Program) where
  ti : Nat → Option TI
  tiOk : ∀ t i,ti t = some i → ∃ inf z,P.info? t = some inf ∧ inf.size = i.size ∧ inf.bytes = i.bytes ∧ inf.zero = some z ∧ z.cells.toList = i.zero ∧ i.zero.length = i.size ∧ EO P t = some i.agg
  elem : Nat → Option Nat
  elemOk : ∀ t e,elem t = some e → P.underlying t = some (.slice e)
  field : Nat → Nat → Option Nat
  fieldOk : ∀ t f o,field t f = some o → ∃ fs fd inf,P.underlying t = some (.struct fs) ∧ fs[f]? = some fd ∧ fd.offset = o ∧ P.info? fd.type = some inf ∧ inf.size ≠ 0
  arr : Nat → Option (Nat × Nat)
  arrOk : ∀ t n e,arr t = some (n,e) → P.underlying t = some (.array n e)
  places : Nat → Option (List (Nat × Nat))
  placesOk : ∀ t l,places t = some l → DK P t = some l
theorem zI2 {P : Program} {t : TypeId} {z : Value} {size bytes : Nat} {agg : Bool} {zero : List Value} (h : (P.info? t).map (fun i => (i.zero,i.size,i.bytes)) = some (some z,size,bytes)) (ha : EO P t = some agg) (hz : z.cells.toList = zero) (hl : zero.length = size) :
    ∃ inf z,P.info? t = some inf ∧ inf.size = size ∧ inf.bytes = bytes ∧ inf.zero = some z ∧ z.cells.toList = zero ∧ zero.length = size ∧ EO P t = some agg := by
  obtain ⟨i,hi,h1,h2,h3⟩ := info_parts h;exact ⟨i,z,hi,h2,h3,h1,hz,hl,ha⟩
def LD (P : Program) (t : TypeId) (f : Nat) : Option (Nat × Nat) := match P.underlying t with
  | some (.struct fs) => match fs[f]? with
    | some fd => (P.info? fd.type).map fun i => (fd.offset,i.size)
    | none => none
  | _ => none
theorem tA {P : Program} {t : TypeId} {f o n : Nat} (h : LD P t f = some (o,n + 1)) : ∃ fs fd inf,P.underlying t = some (.struct fs) ∧ fs[f]? = some fd ∧ fd.offset = o ∧ P.info? fd.type = some inf ∧ inf.size ≠ 0 := by
  unfold LD at h;split at h
  · rename_i fs hfs;split at h
    · rename_i fd hfd;obtain ⟨i,hi,hz⟩ := bX.1 h;simp only [Prod.mk.injEq] at hz;exact ⟨fs,fd,i,hfs,hfd,hz.1,hi,by omega⟩
    · cases h
  · cases h
theorem oA.agg {P : Program} (T : oA P) {t : Nat} {i : TI} (h : T.ti t = some i) (w : World) : (isAgg t).run P w = .ok i.agg w := by
  obtain ⟨inf,z,h1,h2,h3,h4,h5,h6,h7⟩ := T.tiOk t i h;unfold EO at h7;split at h7 <;> rename_i hu <;> try (cases h7;done)
  · simp only [Option.some.injEq] at h7;rw [← h7];simp [isAgg,run_underlying hu]
  · simp only [Option.some.injEq] at h7;rw [← h7];simp [isAgg,run_underlying hu]
  · rename_i d hn1 hn2;simp only [Option.some.injEq] at h7;rw [← h7];cases d <;> first | (exact absurd rfl (hn1 _)) | (exact absurd rfl (hn2 _ _)) | simp [isAgg,run_underlying hu]
theorem oA.sizeOf {P : Program} (T : oA P) {t : Nat} {i : TI} (h : T.ti t = some i) (w : World) : (Go.sizeOf t).run P w = .ok i.size w := by
  obtain ⟨inf,z,h1,h2,_⟩ := T.tiOk t i h;simp [Go.sizeOf,typeInfo,h1,h2]
theorem oA.zeroV {P : Program} (T : oA P) {t : Nat} {i : TI} (h : T.ti t = some i) (w : World) : ∃ z,(zeroValue t).run P w = .ok z w ∧ z.cells.toList = i.zero := by
  obtain ⟨inf,z,h1,h2,h3,h4,h5,_⟩ := T.tiOk t i h;exact ⟨z,by simp [zeroValue,typeInfo,h1,h4],h5⟩
def AV.one : AV → Bool
  | .v x => x.oneCell'
  | .ptr .. | .ep .. | .pr .. | .sl .. | .mp .. | .mrow .. | .row .. | .clo .. | .ifc .. => true
  | _ => false
theorem MK {S : Nat → Prop} {w : World} {ρ : Pl} {x : AV} {y : Value} (h : R S w x ρ y) (h1 : x.one = true) : y.oneCell' = true := by
  cases x <;> simp only [AV.one,R] at h h1 <;> try (cases h1)
  all_goals first
    | (subst h;exact h1)
    | (obtain ⟨_,_,h⟩ := h;first | (obtain ⟨_,rfl,_⟩ := h;rfl) | (obtain ⟨_,rfl⟩ := h;rfl) | (obtain ⟨rfl,_⟩ := h;rfl))
    | (obtain ⟨_,rfl,_⟩ := h;rfl)
theorem PR {y : Value} (h : y.oneCell' = true) : y.cells = #[y] := by cases y <;> first | rfl | (simp [Value.oneCell'] at h)
def AV.cellsOf : AV → Option (List AV)
  | .agg cs => some cs
  | x => match x.one with
    | true => some [x]
    | false => none
theorem uH {S : Nat → Prop} {w : World} {ρ : Pl} {x : AV} {cs : List AV} {y : Value} (h : R S w x ρ y) (hc : x.cellsOf = some cs) : RL S w cs ρ y.cells.toList := by
  have key : x.one = true → cs = [x] → RL S w cs ρ y.cells.toList := fun h1 h2 => by
    subst h2;rw [PR (MK h h1)];simp only [RL];exact ⟨y,[],rfl,h,rfl⟩
  cases x with
  | agg xs =>
    simp only [AV.cellsOf,Option.some.injEq] at hc;subst hc;simp only [R] at h;obtain ⟨ys,rfl,h⟩ := h;exact h
  | v x =>
    simp only [AV.cellsOf] at hc;split at hc
    · rename_i h1;exact key h1 (by simpa using hc.symm)
    · cases hc
  | _ => first | (simp [AV.cellsOf,AV.one] at hc;done) | exact key rfl (by simpa [AV.cellsOf,AV.one] using hc.symm)
section
variable {P : Program} {env : dD} {h : Hp}
def AV.un : AV → AV
  | .cond true x => x.un
  | x => x
theorem JK {S : Nat → Prop} {w : World} {ρ : Pl} : ∀ {x : AV} {y : Value}, R S w x ρ y → R S w x.un ρ y
  | .cond true x,y,h => by
    simp only [R] at h;simp only [AV.un];exact JK (h trivial)
  | .cond false x,y,h => h
  | .v _,_,h | .any,_,h | .ptr ..,_,h | .ep ..,_,h | .pr ..,_,h | .sl ..,_,h | .mp ..,_,h | .mrow ..,_,h | .row ..,_,h | .agg _,_,h | .tup _,_,h | .clo ..,_,h | .ifc ..,_,h => h
def evu (env : dD) (x : Operand) : Option AV := match ev env x with
  | some u => some u.un
  | none => none
theorem Y9.evu {ρ : Pl} {S : Nat → Prop} {env : dD} {h : Hp} {a : Act} {w : World} (s : Y9 ρ S env h a w) {x : Operand} {u : AV} (hx : Ab.evu env x = some u) : R S w u ρ (a.eval x) := by
  unfold Ab.evu at hx;split at hx
  · rename_i u' h';cases hx;exact JK (s.ev h')
  · cases hx
theorem fL {o : Oper} {u : AV} (hrun : ∀ ρ S a w,Y9 ρ S env h a w → ∃ y,(execOp a.eval o).run P w = .ok (.value y) w ∧ R S w u ρ y) : bJ P o env h 0 (fun _ => u) (fun _ => []) := by
  intro ρ S a w p pos hp K Q hk;obtain ⟨y,h1,h2⟩ := hrun ρ S a w p;unfold Oper.wp;rw [h1];exact hk y ρ S w ⟨lM.refl _ _,rfl,fun _ _ => rfl,fun _ h => h,fun _ h => .inl h,fun k p h1 h2 => by omega,fun k k' p p' h1 h2 => by omega,h2,fun j b hb => by simp at hb⟩
theorem lY (w : World) (o : Obj) (M : Nat → Prop) : lM M w (w.alloc o) :=
  ⟨rfl,rfl,rfl,by simp,fun b hb _ => RowKit.Below.heap_alloc w o b hb,fun b c e fz hc => ⟨c,fz,by rw [RowKit.Below.heap_alloc w o b (aR.1 hc).1];exact hc,rfl⟩⟩
theorem lM.drew1 {M : Nat → Prop} (w : World) : lM M w w.drew := ⟨rfl,rfl,rfl,aU _,fun _ _ _ => rfl,fun _ c _ fz h => ⟨c,fz,h,rfl⟩⟩
def Pl.with (ρ : Pl) (k : Nat) (p : Nat × Nat) : Pl := fun j => if j = k then some p else ρ j
theorem DX {o : Oper} {u : Nat → AV} {b : AB} (hrun : ∀ ρ S a w,Y9 ρ S env h a w → ∃ (c : Array Value) (e : TypeId) (y : Value) (dr : Bool),(execOp a.eval o).run P w = .ok (.value y) ((if dr then w.drew else w).alloc (.cells c e)) ∧
      ∀ pos,ρ pos = none → ∀ w',(w'.heap[w.heap.size]? = some (.cells c e (0,0))) → hY ρ (ρ.with pos (w.heap.size,0)) S S w w' →
        R S w' (u pos) (ρ.with pos (w.heap.size,0)) y ∧ RB S w' (ρ.with pos (w.heap.size,0)) (some (w.heap.size,0)) b) :
    bJ P o env h 1 u (fun _ => [b]) := by
  intro ρ S a w p pos hp K Q hk;obtain ⟨c,e,y,dr,h1,h2⟩ := hrun ρ S a w p;have hpos : ρ pos = none := by simpa using hp 0 (by omega)
  unfold Oper.wp;rw [h1];have hw : (if dr then w.drew else w).heap = w.heap := by cases dr <;> rfl
  have hsz : (if dr then w.drew else w).heap.size = w.heap.size := by rw [hw]
  have hx : lM (fun _ => False) w ((if dr then w.drew else w).alloc (.cells c e)) := by
    cases dr
    · exact lY _ _ _
    · exact (lM.drew1 w).trans (lY _ _ (fun _ => False)) (fun _ h => h.elim)
  have hl : hY ρ (ρ.with pos (w.heap.size,0)) S S w ((if dr then w.drew else w).alloc (.cells c e)) := by
    refine ⟨fun k q hq => ?_,fun _ h => h,fun b hb => hx.same b (p.stab b hb) (by simp),fun _ _ _ _ _ hr => hx.room hr⟩
    unfold Pl.with
    rw [if_neg (fun e => by rw [e,hpos] at hq;cases hq)];exact hq
  have hnew : ((if dr then w.drew else w).alloc (.cells c e)).heap[w.heap.size]? = some (.cells c e (0,0)) := by
    have := heap_alloc_new (if dr then w.drew else w) (.cells c e)
    rwa [hsz] at this
  obtain ⟨h3,h4⟩ := h2 pos hpos _ hnew hl;have hss : ((if dr then w.drew else w).alloc (.cells c e)).heap.size = w.heap.size + 1 := by rw [World.size_alloc,hsz]
  refine hk y (ρ.with pos (w.heap.size,0)) S _ ⟨hx,rfl,fun k hk => ?_,fun _ h => h,fun _ h => .inl h,fun k q hk1 hk2 hq => ?_,fun k k' q q' a1 a2 a3 a4 _ _ _ => by omega,h3,fun j b' hb => ?_⟩
  · unfold Pl.with;rw [if_neg (by omega)]
  · have : k = pos := by omega
    subst this;simp only [Pl.with,if_true,Option.some.injEq] at hq;subst hq;refine ⟨aU _,by simp [hss],fun hs => ?_⟩
    have := p.stab _ hs;simp at this
  · cases j with
    | zero =>
      simp only [dK,Option.some.injEq] at hb;subst hb;simpa [Pl.with] using h4
    | succ j => simp at hb
variable {d : Option Nat} {ty : TypeId} {pos : String} {af : Array Edge} {g : Option (Nat × Bool)}
theorem fD {x : Operand} {u : AV} (hx : evu env x = some u) : bJ P ⟨d,.move x,ty,pos,af,g⟩ env h 0 (fun _ => u) (fun _ => []) :=
  fL fun _ _ _ _ p => ⟨_,rfl,p.evu hx⟩
theorem jJ {x : Operand} {u : AV} (hx : evu env x = some u) : bJ P ⟨d,.assign x,ty,pos,af,g⟩ env h 0 (fun _ => u) (fun _ => []) :=
  fL fun _ _ _ _ p => ⟨_,rfl,p.evu hx⟩
theorem pZ {S : Nat → Prop} {w : World} {ρ : Pl} {x y : Value} (h : R S w (.v x) ρ y) : y = x := by simpa [R] using h
theorem kY {S : Nat → Prop} {w : World} {ρ : Pl} (x : Value) : R S w (.v x) ρ x := by simp [R]
theorem sY {op : BinOp} {t t2 : TypeId} {x y : Operand} {k : IntKind} {a b : Int} {z : Value} (hx : evu env x = some (.v (.int k a))) (hy : evu env y = some (.v (.int k b)))
    (hz : ∀ w,(binOp op t (.int k a) (.int k b)).run P w = .ok z w) : bJ P ⟨d,.binOp op t x y t2,ty,pos,af,g⟩ env h 0 (fun _ => .v z) (fun _ => []) := by
  refine fL fun ρ S ac w p => ?_
  have h1 := pZ (p.evu hx);have h2 := pZ (p.evu hy);refine ⟨z,?_,kY z⟩;have hg : ∀ w,(eqGuard op t x y (.int k a) (.int k b)).run P w = .ok () w := fun w => by
    unfold eqGuard;cases op <;> rfl
  simp [execOp,h1,h2,hg,hz]
theorem zD6 {t t2 : TypeId} {x y : Operand} {k : IntKind} {a b : Int} (hx : evu env x = some (.v (.int k a))) (hy : evu env y = some (.v (.int k b))) :
    bJ P ⟨d,.binOp .add t x y t2,ty,pos,af,g⟩ env h 0 (fun _ => .v (.int k (k.wrap (a + b)))) (fun _ => []) := sY hx hy fun w => by simp [binOp,Op.intArith]
theorem KX {t t2 : TypeId} {x y : Operand} {k : IntKind} {a b : Int} (hx : evu env x = some (.v (.int k a))) (hy : evu env y = some (.v (.int k b))) :
    bJ P ⟨d,.binOp .sub t x y t2,ty,pos,af,g⟩ env h 0 (fun _ => .v (.int k (k.wrap (a - b)))) (fun _ => []) := sY hx hy fun w => by simp [binOp,Op.intArith]
theorem zD5 {t t2 : TypeId} {x y : Operand} {k : IntKind} {a b : Int} (hx : evu env x = some (.v (.int k a))) (hy : evu env y = some (.v (.int k b))) :
    bJ P ⟨d,.binOp .mul t x y t2,ty,pos,af,g⟩ env h 0 (fun _ => .v (.int k (k.wrap (a * b)))) (fun _ => []) := sY hx hy fun w => by simp [binOp,Op.intArith]
theorem zD3 {t t2 : TypeId} {x y : Operand} {k : IntKind} {a b : Int} (hx : evu env x = some (.v (.int k a))) (hy : evu env y = some (.v (.int k b))) (hb : b ≠ 0) :
    bJ P ⟨d,.binOp .quo t x y t2,ty,pos,af,g⟩ env h 0 (fun _ => .v (.int k (k.wrap (a.tdiv b)))) (fun _ => []) := sY hx hy fun w => by simp [binOp,Op.intDiv,hb]
theorem zD2 {t t2 : TypeId} {x y : Operand} {k : IntKind} {a b : Int} (hx : evu env x = some (.v (.int k a))) (hy : evu env y = some (.v (.int k b))) (hb : b ≠ 0) :
    bJ P ⟨d,.binOp .rem t x y t2,ty,pos,af,g⟩ env h 0 (fun _ => .v (.int k (a.tmod b))) (fun _ => []) := sY hx hy fun w => by simp [binOp,Op.intDiv,hb]
theorem bE {t t2 : TypeId} {x y : Operand} {k : IntKind} {a b : Int} (hx : evu env x = some (.v (.int k a))) (hy : evu env y = some (.v (.int k b))) :
    bJ P ⟨d,.binOp .lss t x y t2,ty,pos,af,g⟩ env h 0 (fun _ => .b (decide (a < b))) (fun _ => []) := sY hx hy fun w => by simp [binOp,Op.intCmp]
theorem kQ {t t2 : TypeId} {x y : Operand} {k : IntKind} {a b : Int} (hx : evu env x = some (.v (.int k a))) (hy : evu env y = some (.v (.int k b))) :
    bJ P ⟨d,.binOp .leq t x y t2,ty,pos,af,g⟩ env h 0 (fun _ => .b (decide (a ≤ b))) (fun _ => []) := sY hx hy fun w => by simp [binOp,Op.intCmp]
theorem gH {t t2 : TypeId} {x y : Operand} {k : IntKind} {a b : Int} (hx : evu env x = some (.v (.int k a))) (hy : evu env y = some (.v (.int k b))) :
    bJ P ⟨d,.binOp .gtr t x y t2,ty,pos,af,g⟩ env h 0 (fun _ => .b (decide (b < a))) (fun _ => []) := sY hx hy fun w => by simp [binOp,Op.intCmp]
theorem eN {t t2 : TypeId} {x y : Operand} {k : IntKind} {a b : Int} (hx : evu env x = some (.v (.int k a))) (hy : evu env y = some (.v (.int k b))) :
    bJ P ⟨d,.binOp .geq t x y t2,ty,pos,af,g⟩ env h 0 (fun _ => .b (decide (b ≤ a))) (fun _ => []) := sY hx hy fun w => by simp [binOp,Op.intCmp]
theorem cW {t t2 : TypeId} {x y : Operand} {k : IntKind} {a b : Int} (hx : evu env x = some (.v (.int k a))) (hy : evu env y = some (.v (.int k b))) :
    bJ P ⟨d,.binOp .eql t x y t2,ty,pos,af,g⟩ env h 0 (fun _ => .b (decide (a = b))) (fun _ => []) := sY hx hy fun w => by simp [binOp,Op.intCmp];rfl
theorem pS {t t2 : TypeId} {x y : Operand} {k : IntKind} {a b : Int} (hx : evu env x = some (.v (.int k a))) (hy : evu env y = some (.v (.int k b))) :
    bJ P ⟨d,.binOp .neq t x y t2,ty,pos,af,g⟩ env h 0 (fun _ => .b (!decide (a = b))) (fun _ => []) := sY hx hy fun w => by simp [binOp,Op.intCmp];rfl
theorem cV {t : TypeId} {x : Operand} {b : Bool} (hx : evu env x = some (.b b)) : bJ P ⟨d,.unOp .not t x,ty,pos,af,g⟩ env h 0 (fun _ => .b (!b)) (fun _ => []) := by
  refine fL fun ρ S a w p => ⟨.bool !b,?_,kY _⟩
  have h1 := pZ (p.evu hx);simp [execOp,h1,Op.unary]
theorem TQ {t : TypeId} {x : Operand} {k : IntKind} {a : Int} (hx : evu env x = some (.v (.int k a))) : bJ P ⟨d,.unOp .neg t x,ty,pos,af,g⟩ env h 0 (fun _ => .v (.int k (k.wrap (-a)))) (fun _ => []) := by
  refine fL fun ρ S ac w p => ⟨_,?_,kY _⟩
  have h1 := pZ (p.evu hx);simp [execOp,h1,Op.unary,Op.intArith]
theorem dC (T : oA P) {t : TypeId} {i : TI} (hz : T.ti t = some i) : bJ P ⟨d,.alloc t,ty,pos,af,g⟩ env h 1 (fun p => .ptr p 0) (fun _ => [.cells (i.zero.map .v)]) := by
  refine DX fun ρ S a w p => ?_
  obtain ⟨zv,h1,h2⟩ := T.zeroV hz w;refine ⟨zv.cells,t,.pointer (some ⟨w.heap.size,0,none⟩),false,?_,fun pos hpos w' hw' _ => ⟨?_,?_⟩⟩
  · simp [execOp,Instr.alloc,h1,newVar,newRow]
  · simp [R,Pl.with]
  · simp only [RB];refine ⟨_,_,i.zero,rfl,⟨zv.cells,t,hw',fun j y hy => ?_⟩,IS _ _ (by simp) fun j x y hx hy => ?_⟩
    · rw [← h2] at hy;simpa using hy
    · simp only [aS] at hx;rw [hy] at hx;simp only [lP,Option.some.injEq] at hx;subst hx;exact kY y
theorem fE {t : TypeId} {x : Operand} {u : AV} {cs : List AV} (hx : evu env x = some u) (hc : u.cellsOf = some cs) : bJ P ⟨d,.box t x,ty,pos,af,g⟩ env h 1 (fun p => .ptr p 0) (fun _ => [.cells cs]) := by
  refine DX fun ρ S a w p => ?_
  refine ⟨(a.eval x).cells,t,.pointer (some ⟨w.heap.size,0,none⟩),false,?_,fun pos hpos w' hw' l => ⟨?_,?_⟩⟩
  · simp [execOp,Instr.box,newVar,newRow]
  · simp [R,Pl.with]
  · simp only [RB];exact ⟨_,_,(a.eval x).cells.toList,rfl,⟨_,t,hw',fun j y hy => by simpa using hy⟩,(uH (p.evu hx) hc).later l⟩
def iQ (h : Hp) : AV → Option (List AV × Nat)
  | .ptr k off => match h[k]? with
    | some (.cells cs) => some (cs,off)
    | _ => none
  | .ep k i off sz => match h[k]? with
    | some (.arr es s) => match Nat.beq s sz with
      | true => match es[i]? with
        | some cs => some (cs,off)
        | none => none
      | false => none
    | _ => none
  | .pr cs off => some (cs,off)
  | _ => none
theorem wL {α : Type} {sz : Nat} : ∀ {es : List (List α)}, (∀ e, e ∈ es → e.length = sz) → ∀ {i : Nat} {c : List α}, es[i]? = some c → ∀ j, j < sz → es.flatten[i * sz + j]? = c[j]?
  | [],_,i,c,hc,j,hj => by simp at hc
  | e :: es,hl,0,c,hc,j,hj => by
    simp only [dK,Option.some.injEq] at hc;subst hc;simp only [cH,VM,Nat.zero_add];rw [aG (by rw [hl e (by simp)];exact hj)]
  | e :: es,hl,i + 1,c,hc,j,hj => by
    simp only [gV] at hc;have h0 := hl e (by simp)
    simp only [cH];rw [aE (by rw [h0,eL];omega),h0,show (i + 1) * sz + j - sz = i * sz + j by rw [eL];omega]
    exact wL (fun e he => hl e (by simp [he])) hc j hj
theorem W6 {S : Nat → Prop} {w : World} {ρ : Pl} {x : AV} {y : Value} {cs : List AV} {off : Nat} (hb : ∀ (k : Nat) b,h[k]? = some b → RB S w ρ (ρ k) b) (hy : R S w x ρ y) (hc : iQ h x = some (cs,off)) :
    ∃ b o ρ',y = .pointer (some ⟨b,o + off,none⟩) ∧ ∀ (j : Nat) u,cs[j]? = some u → ∃ v,w.cell? ⟨b,o + j,none⟩ = some v ∧ R S w u ρ' v ∧ ((ρ' = fun _ => none) ∨ ρ' = ρ) := by
  have cellOf : ∀ {b o j : Nat} {ys : List Value} {v : Value},lies w b o ys → ys[j]? = some v → w.cell? ⟨b,o + j,none⟩ = some v := fun {b o j ys v} hl hv => by
    obtain ⟨c,e,fz,h1,h2⟩ := hl;simp [World.cell?,h1,h2 j v hv]
  cases x with
  | ptr k off' =>
    simp only [iQ] at hc;split at hc
    · rename_i cs' hk;simp only [Option.some.injEq,Prod.mk.injEq] at hc;obtain ⟨rfl,rfl⟩ := hc;simp only [R] at hy;obtain ⟨b,o,h1,rfl⟩ := hy;have h2 := hb k _ hk;simp only [RB,h1] at h2;obtain ⟨b',o',ys,h3,h4,h5⟩ := h2;simp only [Option.some.injEq,Prod.mk.injEq] at h3;obtain ⟨rfl,rfl⟩ := h3;refine ⟨b,o,ρ,rfl,fun j u hu => ?_⟩
      obtain ⟨v,h6,h7⟩ := mT h5 j u hu;exact ⟨v,cellOf h4.lies h6,h7,.inr rfl⟩
    · cases hc
  | ep k i off' sz =>
    simp only [iQ] at hc;split at hc
    · rename_i es sz' hk;split at hc
      · rename_i hbeq;have hsz := aM hbeq;subst hsz;split at hc
        case h_2 => cases hc
        rename_i cs' hi;simp only [Option.some.injEq,Prod.mk.injEq] at hc;obtain ⟨rfl,rfl⟩ := hc;simp only [R] at hy;obtain ⟨b,o,h1,rfl⟩ := hy;have h2 := hb k _ hk;simp only [RB,h1] at h2;obtain ⟨h20,_,h2⟩ := h2;rcases h2 with h2 | ⟨b',o',ys,h3,h4,h5⟩
        · obtain ⟨h2,_⟩ := h2;subst h2;simp at hi
        simp only [Option.some.injEq,Prod.mk.injEq] at h3;obtain ⟨rfl,rfl⟩ := h3;refine ⟨b,o + i * sz',ρ,by rw [eG],fun j u hu => ?_⟩
        have hl := h20 _ (aJ hi);have hj : j < sz' := by rw [← hl];exact (aA.1 hu).1
        obtain ⟨v,h6,h7⟩ := mT h5 (i * sz' + j) u (by rw [wL h20 hi j hj];exact hu)
        exact ⟨v,by rw [eG];exact cellOf h4.lies h6,h7,.inr rfl⟩
      · cases hc
    · cases hc
  | pr cs' off' =>
    simp only [iQ,Option.some.injEq,Prod.mk.injEq] at hc;obtain ⟨rfl,rfl⟩ := hc;simp only [R] at hy;obtain ⟨b,o,ys,rfl,_,h3,h4⟩ := hy;refine ⟨b,o,fun _ => none,rfl,fun j u hu => ?_⟩
    obtain ⟨v,h6,h7⟩ := mT h4 j u hu;exact ⟨v,cellOf h3 h6,h7,.inl rfl⟩
  | _ => simp [iQ] at hc
end
section
variable {P : Program} {env : dD} {h : Hp}
variable {d : Option Nat} {ty : TypeId} {pos : String} {af : Array Edge} {g : Option (Nat × Bool)}
def TK (cs : List AV) (off : Nat) : Nat → Option (List AV)
  | 0 => some []
  | n + 1 => match cs[off]?, TK cs (off + 1) n with
    | some x,some r => some (x :: r)
    | _,_ => none
theorem HH : ∀ {n : Nat} {cs : List AV} {off : Nat} {zs : List AV}, TK cs off n = some zs → zs.length = n ∧ ∀ j, j < n → cs[off + j]? = zs[j]?
  | 0,cs,off,zs,h => by simp only [TK,Option.some.injEq] at h;subst h;simp
  | n + 1,cs,off,zs,h => by
    simp only [TK] at h;split at h
    · rename_i x r h1 h2;cases h;obtain ⟨h3,h4⟩ := HH h2;refine ⟨by simp [h3],fun j hj => ?_⟩
      cases j with
      | zero => simpa using h1
      | succ j =>
        have := h4 j (by omega)
        rw [show off + (j + 1) = off + 1 + j by omega,this];simp
    · cases h
theorem zG3 {S : Nat → Prop} {w : World} {ρ : Pl} {x : AV} {y : Value} (h : R S w x (fun _ => none) y) : R S w x ρ y :=
  lD (fun _ h => h) (fun _ _ => rfl) x _ ρ y (fun _ _ h => by cases h) (fun _ _ _ _ h => by cases h) h
theorem xP {w : World} {b o : Nat} : ∀ (ys : List Value) (i : Nat) (acc : Array Value), (∀ j y, ys[j]? = some y → w.cell? ⟨b, o + (i + j), none⟩ = some y) → (loadCellsFrom ⟨b, o, none⟩ i ys.length acc).run P w = .ok (acc ++ ys.toArray) w
  | [],i,acc,_ => by simp [loadCellsFrom]
  | y :: ys,i,acc,hy => by
    have h0 := hy 0 y (by simp)
    simp only [Nat.add_zero] at h0;simp only [List.length_cons,loadCellsFrom,Sem.run_bind,Addr.add_lit,run_load,h0,Result.andThen_ok];rw [xP ys (i + 1) (acc.push y) (fun j z hz => by have := hy (j + 1) z (by simpa using hz);rwa [show i + 1 + j = i + (j + 1) by omega])]
    simp
def oI (i : TI) (cs : List AV) (off : Nat) : Option AV := match i.agg with
  | true => match TK cs off i.size with
    | some zs => some (.agg zs)
    | none => none
  | false => cs[off]?
theorem GV (T : oA P) {S : Nat → Prop} {w : World} {ρ : Pl} {t : Nat} {i : TI} (ht : T.ti t = some i) {x z : AV} {y : Value} {cs : List AV} {off : Nat} (hb : ∀ (k : Nat) b,h[k]? = some b → RB S w ρ (ρ k) b) (hy : R S w x ρ y) (hc : iQ h x = some (cs,off)) (hz : oI i cs off = some z) :
    ∃ v,(Instr.loadAt t y).run P w = .ok v w ∧ R S w z ρ v := by
  obtain ⟨b,o,ρ',rfl,hcell⟩ := W6 hb hy hc;have up : ∀ {u : AV} {v : Value},R S w u ρ' v → ((ρ' = fun _ => none) ∨ ρ' = ρ) → R S w u ρ v := fun {u v} hu hρ => by
    rcases hρ with rfl | rfl
    · exact zG3 hu
    · exact hu
  unfold oI at hz;split at hz
  · rename_i hagg;split at hz
    · rename_i zs hg;simp only [Option.some.injEq] at hz;subst hz;obtain ⟨h1,h2⟩ := HH hg;have key : ∀ (l : List AV) (off : Nat),(∀ j,j < l.length → cs[off + j]? = l[j]?) → ∃ ys : List Value,ys.length = l.length ∧ (∀ j v,ys[j]? = some v → w.cell? ⟨b,o + (off + j),none⟩ = some v) ∧ RL S w l ρ ys := by
        intro l
        induction l with
        | nil => exact fun _ _ => ⟨[],rfl,fun j v hv => by simp at hv,by simp [RL]⟩
        | cons u l ih =>
          intro off hl
          obtain ⟨ys,h3,h4,h5⟩ := ih (off + 1) (fun j hj => by
            have := hl (j + 1) (by simpa using hj)
            rw [show off + 1 + j = off + (j + 1) by omega,this];simp)
          obtain ⟨v,h6,h7,h8⟩ := hcell off u (by simpa using hl 0 (by simp))
          refine ⟨v :: ys,by simp [h3],fun j u' hu' => ?_,by simp only [RL];exact ⟨v,ys,rfl,up h7 h8,h5⟩⟩
          cases j with
          | zero => simp at hu';subst hu';simpa using h6
          | succ j => have := h4 j u' (by simpa using hu');rwa [show off + (j + 1) = off + 1 + j by omega]
      obtain ⟨ys,h3,h4,h5⟩ := key zs off (fun j hj => h2 j (by omega))
      refine ⟨.agg ys.toArray,?_,by simp only [R];exact ⟨_,rfl,h5⟩⟩
      have := xP (P := P) (w := w) (b := b) (o := o + off) ys 0 #[] (fun j v hv => by have := h4 j v hv;rwa [show o + off + (0 + j) = o + (off + j) by omega])
      rw [h3,h1] at this;simp [Instr.loadAt,Instr.sureAddr,loadVar,T.agg ht,hagg,T.sizeOf ht,loadCells,this]
    · cases hz
  · rename_i hagg;obtain ⟨v,h6,h7,h8⟩ := hcell off z hz;exact ⟨v,by simp [Instr.loadAt,Instr.sureAddr,loadVar,T.agg ht,hagg,h6],up h7 h8⟩
theorem aX (T : oA P) {t : Nat} {i : TI} {x : Operand} {u z : AV} {cs : List AV} {off : Nat} (hx : evu env x = some u) (ht : T.ti t = some i) (hb : iQ h u = some (cs,off)) (hz : oI i cs off = some z) :
    bJ P ⟨d,.load t x,ty,pos,af,g⟩ env h 0 (fun _ => z) (fun _ => []) := by
  refine fL fun ρ S a w p => ?_
  obtain ⟨v,h1,h2⟩ := GV T ht p.blk (p.evu hx) hb hz;exact ⟨v,by simp [execOp,h1],h2⟩
def AV.plus : AV → Nat → Option AV
  | .ptr k off,n => some (.ptr k (off + n))
  | .ep k i off sz,n => some (.ep k i (off + n) sz)
  | .pr cs off,n => some (.pr cs (off + n))
  | _,_ => none
theorem vG {S : Nat → Prop} {w : World} {ρ : Pl} {x z : AV} {n : Nat} {y : Value} (h : R S w x ρ y) (hz : x.plus n = some z) : ∃ b o,y = .pointer (some ⟨b,o,none⟩) ∧ R S w z ρ (.pointer (some ⟨b,o + n,none⟩)) := by
  cases x <;> simp only [AV.plus,Option.some.injEq] at hz <;> try (cases hz;done)
  all_goals subst hz
  · simp only [R] at h ⊢;obtain ⟨b,o,h1,rfl⟩ := h;exact ⟨b,_,rfl,b,o,h1,by rw [eG]⟩
  · simp only [R] at h ⊢;obtain ⟨b,o,h1,rfl⟩ := h;exact ⟨b,_,rfl,b,o,h1,by rw [eG,eG]⟩
  · simp only [R] at h ⊢;obtain ⟨b,o,ys,rfl,h2,h3,h4⟩ := h;exact ⟨b,_,rfl,b,o,ys,by rw [eG],h2,h3,h4⟩
theorem eA (T : oA P) {t f n : Nat} {x : Operand} {u z : AV} (hx : evu env x = some u) (hf : T.field t f = some n) (hz : u.plus n = some z) :
    bJ P ⟨d,.fieldAddr t x f,ty,pos,af,g⟩ env h 0 (fun _ => z) (fun _ => []) := by
  refine fL fun ρ S a w p => ?_
  obtain ⟨b,o,h1,h2⟩ := vG (p.evu hx) hz;obtain ⟨fs,fd,inf,h3,h4,h5,h6,h7⟩ := T.fieldOk t f n hf;exact ⟨_,by simp [execOp,h1,Instr.fieldAt,run_underlying h3,h4,Instr.sureAddr,fieldPlace,Go.sizeOf,typeInfo,h6,h7,Addr.add_lit,h5],h2⟩
theorem cO {x : Operand} {u z : AV} (hx : evu env x = some u) (hz : u.plus 0 = some z) : bJ P ⟨d,.nilCheck x,ty,pos,af,g⟩ env h 0 (fun _ => u) (fun _ => []) := by
  refine fL fun ρ S a w p => ?_
  obtain ⟨b,o,h1,h2⟩ := vG (p.evu hx) hz;have h3 := p.evu hx;rw [h1] at h3;exact ⟨_,by simp [execOp,h1],h3⟩
theorem nN {x : Operand} {vs : List AV} {j : Nat} {z : AV} (hx : evu env x = some (.tup vs)) (hz : vs[j]? = some z) : bJ P ⟨d,.extract x j,ty,pos,af,g⟩ env h 0 (fun _ => z) (fun _ => []) := by
  refine fL fun ρ S a w p => ?_
  have h1 := p.evu hx;simp only [R] at h1;obtain ⟨ys,h2,h3⟩ := h1;obtain ⟨v,h4,h5⟩ := mT h3 j z hz;refine ⟨v,?_,h5⟩;simp only [jM] at h4;simp [execOp,h2,Instr.extract,h4]
theorem bQ (T : oA P) {t e k off len sz : Nat} {i : TI} {x y : Operand} {kk : IntKind} {j : Int} (hx : evu env x = some (.sl k off len sz)) (hy : evu env y = some (.v (.int kk j))) (ha : T.elem t = some e) (he : T.ti e = some i) (hs : i.size = sz) (h0 : 0 ≤ j) (h1 : j < len) :
    bJ P ⟨d,.indexAddr t x y,ty,pos,af,g⟩ env h 0 (fun _ => .ep k (off + j.toNat) 0 sz) (fun _ => []) := by
  refine fL fun ρ S a w p => ?_
  have h2 := p.evu hx;simp only [R] at h2;obtain ⟨ad,cap,h3,hcm,h4⟩ := h2;rcases h4 with ⟨h4,_⟩ | ⟨b,o,h5,h6,h7,h8⟩
  · omega
  have h9 := pZ (p.evu hy);subst h6;refine ⟨.pointer (some ⟨b,o + off * sz + j.toNat * sz,none⟩),by simp [execOp,h3,h9,Instr.indexAt,asIntOf,run_underlying (T.elemOk _ _ ha),h0,h1,T.sizeOf he,Addr.add_lit,hs],?_⟩
  simp only [R];exact ⟨b,o,h5,by rw [eL];simp only [Nat.add_zero,eG]⟩
theorem HP (T : oA P) {t e len sz : Nat} {cs : List AV} {i : TI} {x y : Operand} {kk : IntKind} {j : Int} (hx : evu env x = some (.row cs len sz)) (hy : evu env y = some (.v (.int kk j))) (ha : T.elem t = some e) (he : T.ti e = some i) (hs : i.size = sz) (h0 : 0 ≤ j) (h1 : j < len) :
    bJ P ⟨d,.indexAddr t x y,ty,pos,af,g⟩ env h 0 (fun _ => .pr cs (j.toNat * sz)) (fun _ => []) := by
  refine fL fun ρ S a w p => ?_
  have h2 := p.evu hx;simp only [R] at h2;obtain ⟨ad,cap,h3,_,_,_,_,h4⟩ := h2;rcases h4 with h4 | ⟨b,o,ys,h5,h6,h7,h8⟩
  · omega
  have h9 := pZ (p.evu hy);subst h5;refine ⟨.pointer (some ⟨b,o + j.toNat * sz,none⟩),by simp [execOp,h3,h9,Instr.indexAt,asIntOf,run_underlying (T.elemOk _ _ ha),h0,h1,T.sizeOf he,Addr.add_lit,hs],?_⟩
  simp only [R];exact ⟨b,o,ys,rfl,h6,h7,h8⟩
theorem WV {S : Nat → Prop} {w : World} {ρ : Pl} {es : List (List AV)} {sz j : Nat} {c : List AV} {y : Value} (hl : ∀ e,e ∈ es → e.length = sz) (hc : es[j]? = some c) (h : R S w (.pr es.flatten (j * sz)) ρ y) : R S w (.pr c 0) ρ y := by
  simp only [R] at h ⊢;obtain ⟨b,o,ys,h1,h2,⟨cc,e,fz,h3,h4⟩,h5⟩ := h;refine ⟨b,o + j * sz,(ys.drop (j * sz)).take sz,by simpa using h1,h2,⟨cc,e,fz,h3,fun i y hy => ?_⟩,?_⟩
  · rw [bS] at hy;split at hy
    · rw [eR] at hy;rw [eG];exact h4 _ _ hy
    · cases hy
  · have := wY (H4 h5 (j * sz)) sz;have hce : (es.flatten.drop (j * sz)).take sz = c := by
      apply dX;intro i;rw [bS];split
      · rename_i hi;rw [eR,wL hl hc i hi]
      · have := hl c (aJ hc);rw [bU (by omega)]
    rwa [hce] at this
theorem DZ (T : oA P) {t e sz : Nat} {es : List (List AV)} {c : List AV} {i : TI} {x y : Operand} {kk : IntKind} {j : Int} (hx : evu env x = some (.rowE es sz)) (hy : evu env y = some (.v (.int kk j))) (ha : T.elem t = some e) (he : T.ti e = some i) (hs : i.size = sz) (h0 : 0 ≤ j) (hl : ∀ e,e ∈ es → e.length = sz) (hc : es[j.toNat]? = some c) :
    bJ P ⟨d,.indexAddr t x y,ty,pos,af,g⟩ env h 0 (fun _ => .pr c 0) (fun _ => []) := by
  intro ρ S a w p q hq K Q hk;have hlt : j < es.length := by have := (aA.1 hc).1;omega
  refine HP T hx hy ha he hs h0 hlt ρ S a w p q hq K Q fun y ρ' S' w' po => hk y ρ' S' w' ⟨po.ext,po.len,po.keep,po.st,po.stn,po.fresh,po.inj,WV hl hc po.val,po.blk⟩
theorem ix (T : oA P) {t e sz : Nat} {es : List (List AV)} {c : List AV} {i : TI} {x y : Operand} {kk : IntKind} {j : Int} (q : (evu env x,evu env y,T.elem t,T.ti e,i.size) = (some (.rowE es sz),some (.v (.int kk j)),some e,some i,sz)) (h0 : 0 ≤ j) (hl : ∀ e,e ∈ es → e.length = sz) (hc : es[j.toNat]? = some c) : bJ P ⟨d,.indexAddr t x y,ty,pos,af,g⟩ env h 0 (fun _ => .pr c 0) (fun _ => []) := DZ T (congrArg (·.1) q) (congrArg (·.2.1) q) (congrArg (·.2.2.1) q) (congrArg (·.2.2.2.1) q) (congrArg (·.2.2.2.2) q) h0 hl hc
theorem sG (T : oA P) {t e k off len sz : Nat} {x : Operand} (hx : evu env x = some (.sl k off len sz)) (ha : T.elem t = some e) :
    bJ P ⟨d,.call { callee := .builtin .len,args := #[x],argTypes := #[t] },ty,pos,af,g⟩ env h 0 (fun _ => .i len) (fun _ => []) := by
  refine fL fun ρ S a w p => ⟨.int .i64 len,?_,kY _⟩
  have h2 := p.evu hx;simp only [R] at h2;obtain ⟨ad,cap,h3,_⟩ := h2;simp [execOp,resolve,invoke,builtin,h3,Builtin.len_,run_underlying (T.elemOk _ _ ha),goInt]
theorem CJ (T : oA P) {t e len sz : Nat} {cs : List AV} {x : Operand} (hx : evu env x = some (.row cs len sz)) (ha : T.elem t = some e) :
    bJ P ⟨d,.call { callee := .builtin .len,args := #[x],argTypes := #[t] },ty,pos,af,g⟩ env h 0 (fun _ => .i len) (fun _ => []) := by
  refine fL fun ρ S a w p => ⟨.int .i64 len,?_,kY _⟩
  have h2 := p.evu hx;simp only [R] at h2;obtain ⟨ad,cap,h3,_⟩ := h2;simp [execOp,resolve,invoke,builtin,h3,Builtin.len_,run_underlying (T.elemOk _ _ ha),goInt]
theorem PG (T : oA P) {t e : Nat} {x : Operand} (hx : evu env x = some .nils) (ha : T.elem t = some e) :
    bJ P ⟨d,.call { callee := .builtin .len,args := #[x],argTypes := #[t] },ty,pos,af,g⟩ env h 0 (fun _ => .i 0) (fun _ => []) := by
  refine fL fun ρ S a w p => ⟨.int .i64 0,?_,kY _⟩
  have h2 := pZ (p.evu hx);simp [execOp,resolve,invoke,builtin,h2,Builtin.len_,run_underlying (T.elemOk _ _ ha),goInt]
theorem TR {t1 t2 : Nat} {x y : Operand} {k : IntKind} {a b : Int} (hx : evu env x = some (.v (.int k a))) (hy : evu env y = some (.v (.int k b))) :
    bJ P ⟨d,.call { callee := .builtin .max,args := #[x,y],argTypes := #[t1,t2] },ty,pos,af,g⟩ env h 0 (fun _ => .v (.int k (max a b))) (fun _ => []) := by
  refine fL fun ρ S ac w p => ⟨.int k (max a b),?_,kY _⟩;have h1 := pZ (p.evu hx);have h2 := pZ (p.evu hy);have e : (if a < b then b else a) = max a b := by split <;> omega
  simp [execOp,resolve,invoke,builtin,h1,h2,run_max_int2,e]
theorem rF {t1 t2 : Nat} {x y : Operand} {k : IntKind} {a b : Int} (hx : evu env x = some (.v (.int k a))) (hy : evu env y = some (.v (.int k b))) :
    bJ P ⟨d,.call { callee := .builtin .min,args := #[x,y],argTypes := #[t1,t2] },ty,pos,af,g⟩ env h 0 (fun _ => .v (.int k (min a b))) (fun _ => []) := by
  refine fL fun ρ S ac w p => ⟨.int k (min a b),?_,kY _⟩;have h1 := pZ (p.evu hx);have h2 := pZ (p.evu hy);have e : (if b < a then b else a) = min a b := by split <;> omega
  simp [execOp,resolve,invoke,builtin,h1,h2,run_min_int2,e]
end
section
variable {P : Program} {env : dD} {h : Hp}
variable {d : Option Nat} {ty : TypeId} {pos : String} {af : Array Edge} {g : Option (Nat × Bool)}
def iZ {α : Type} : List α → Nat → List α → List α
  | cs,_,[] => cs
  | cs,off,x :: xs => iZ (cs.set off x) (off + 1) xs
theorem wJ {α : Type} : ∀ (xs cs : List α) (off : Nat), (iZ cs off xs).length = cs.length
  | [],_,_ => rfl
  | x :: xs,cs,off => by simp only [iZ];rw [wJ xs];simp
theorem L4 {S : Nat → Prop} {w : World} {ρ : Pl} : ∀ {xs : List AV} {ys : List Value} {cs : List AV} {vs : List Value} {off : Nat}, RL S w cs ρ vs → RL S w xs ρ ys → RL S w (iZ cs off xs) ρ (iZ vs off ys)
  | [],ys,cs,vs,off,h,hx => by simp only [RL] at hx;subst hx;exact h
  | x :: xs,ys,cs,vs,off,h,hx => by
    simp only [RL] at hx;obtain ⟨y,zs,rfl,h1,h2⟩ := hx;simp only [iZ];exact L4 (VJ h off h1) h2
theorem T2 {α : Type} : ∀ (ys vs : List α) (off : Nat), off + ys.length ≤ vs.length → iZ vs off ys = vs.take off ++ ys ++ vs.drop (off + ys.length)
  | [],vs,off,_ => by simp [iZ]
  | y :: ys,vs,off,hl => by
    simp only [iZ];have hlt : off < vs.length := by simp at hl;omega
    rw [T2 ys (vs.set off y) (off + 1) (by simp at hl ⊢;omega)]
    rw [List.drop_set_of_lt (by omega),List.take_set]
    have : vs.take (off + 1) = vs.take off ++ [vs[off]] := by rw [bB hlt]
    rw [this,xF _ _ (by simp;omega)]
    simp only [bT,List.length_cons,aY];rw [show off - min off vs.length = 0 by omega]
    simp only [List.set_cons_zero,List.cons_append,List.nil_append];rw [show off + 1 + ys.length = off + (ys.length + 1) by omega]
def V7 (place : Nat → Option (Nat × Nat)) : List AV → List (Nat × List AV) → Option (List AV)
  | cs,[] => some cs
  | cs, (i, xs) :: rest => match place i with
    | some (off, size) => match Nat.beq xs.length size, Nat.ble (off + size) cs.length with
      | true,true => V7 place (iZ cs off xs) rest
      | _,_ => none
    | none => none
theorem PJ (ys : List Value) : ∀ (vs : Array Value) (off j0 : Nat),((ys.zipIdx j0).foldl (fun (cs : Array Value) (p : Value × Nat) => cs.setIfInBounds (off + p.2) p.1) vs).toList = iZ vs.toList (off + j0) ys := by
  induction ys with
  | nil => intro vs off j0;simp [iZ]
  | cons y ys ih =>
    intro vs off j0;simp only [List.zipIdx_cons,lQ,iZ];rw [ih];simp [eG]
inductive IT (S : Nat → Prop) (w : World) (ρ : Pl) : List (Nat × List AV) → List (Nat × Value) → Prop
  | nil : IT S w ρ [] []
  | cons {i : Nat} {xs : List AV} {y : Value} {aZ : List (Nat × List AV)} {bs : List (Nat × Value)} : RL S w xs ρ y.cells.toList → IT S w ρ aZ bs → IT S w ρ ((i,xs) :: aZ) ((i,y) :: bs)
theorem V6 {S : Nat → Prop} {w : World} {ρ : Pl} {place : Nat → Option (Nat × Nat)} : ∀ {aZ : List (Nat × List AV)} {bs : List (Nat × Value)} {cs zs : List AV} {vs : Array Value},IT S w ρ aZ bs → RL S w cs ρ vs.toList → V7 place cs aZ = some zs →
    ∃ us : Array Value,Instr.fill place vs bs = some us ∧ RL S w zs ρ us.toList := by
  intro aZ
  induction aZ with
  | nil =>
    intro bs cs zs vs hp hcs hf;cases hp;simp only [V7,Option.some.injEq] at hf;subst hf;exact ⟨vs,rfl,hcs⟩
  | cons a aZ ih =>
    intro bs cs zs vs hp hcs hf;cases hp with
    | @cons i xs y aZ bs h1 h2 =>
      simp only [V7] at hf;split at hf
      · rename_i off size hpl;split at hf
        · rename_i hb1 hb2;have e1 := aM hb1;have e2 := bC hb2;have l1 := eV h1;have l2 := eV hcs;simp only [fJ] at l1 l2;have hput := PJ y.cells.toList vs off 0;simp only [Nat.add_zero] at hput;have := L4 (off := off) hcs h1;rw [← hput] at this;obtain ⟨us,h3,h4⟩ := ih h2 this hf;refine ⟨us,?_,h4⟩;simp only [Instr.fill,hpl];rw [if_neg (by simp;omega)]
          rw [← h3];congr 1;rw [← Array.foldl_toList];simp
        · cases hf
      · cases hf
def wN (env : dD) : List (Nat × Operand) → Option (List (Nat × List AV))
  | [] => some []
  | (i, x) :: r => match evu env x with
    | some u => match u.cellsOf, wN env r with
      | some xs,some aZ => some ((i,xs) :: aZ)
      | _,_ => none
    | none => none
theorem zC {ρ : Pl} {S : Nat → Prop} {a : Act} {w : World} (p : Y9 ρ S env h a w) : ∀ {l : List (Nat × Operand)} {aZ : List (Nat × List AV)}, wN env l = some aZ → IT S w ρ aZ (l.map fun (i, x) => (i, a.eval x))
  | [],aZ,hl => by simp only [wN,Option.some.injEq] at hl;subst hl;exact .nil
  | (i,x) :: r,aZ,hl => by
    simp only [wN] at hl;split at hl
    · rename_i u hu;split at hl
      · rename_i xs as' h1 h2;cases hl;exact .cons (uH (p.evu hu) h1) (zC p h2)
      · cases hl
    · cases hl
theorem Y6 {S : Nat → Prop} {w : World} {ρ : Pl} : ∀ (l : List Value), RL S w (l.map .v) ρ l
  | [] => by simp [RL]
  | x :: l => by simp only [List.map_cons,RL];exact ⟨x,l,rfl,kY x,Y6 l⟩
theorem gS (T : oA P) {t : Nat} {i : TI} {pl : List (Nat × Nat)} {l : List (Nat × Operand)} {aZ : List (Nat × List AV)} {zs : List AV} (ht : T.ti t = some i) (hpl : T.places t = some pl) (hl : wN env l = some aZ) (hz : V7 (pl[·]?) (i.zero.map .v) aZ = some zs) :
    bJ P ⟨d,.build t l.toArray,ty,pos,af,g⟩ env h 0 (fun _ => .agg zs) (fun _ => []) := by
  refine fL fun ρ S a w p => ?_
  obtain ⟨inf,z,h1,h2,h3,h4,h5,h6,h7⟩ := T.tiOk t i ht;have h8 := T.placesOk t pl hpl;unfold DK at h8;split at h8
  · rename_i fields hu;obtain ⟨us,h9,h10⟩ := V6 (vs := z.cells) (zC p hl) (by rw [h5];exact Y6 i.zero) hz
    have hb : P.built t (l.map fun (i,x) => (i,a.eval x)) = some us := by
      unfold Program.built;simp only [h1,hu,h4,h8];simpa using h9
    refine ⟨.agg us,?_,by simp only [R];exact ⟨us,rfl,h10⟩⟩
    simp only [execOp,Sem.run_bind];rw [run_build w t _ us (by simpa using hb)]
    rfl
  · cases h8
theorem N4 {o : Oper} {es : List (List AV)} {sz : Nat} (hsz : 0 < sz) (hes : ∀ e, e ∈ es → e.length = sz)
    (hrun : ∀ ρ S a w,Y9 ρ S env h a w → ∃ (c : Array Value) (e : TypeId) (cap : Nat) (dr : Bool) (ys : List Value),(execOp a.eval o).run P w = .ok (.value (.slice (some ⟨w.heap.size,0,none⟩) es.length cap)) ((if dr then w.drew else w).alloc (.cells c e)) ∧
      es.length ≤ cap ∧ cap ≤ maxLen ∧ cap * sz ≤ c.size ∧ (∀ (j : Nat) (y : Value),ys[j]? = some y → c[j]? = some y) ∧ RL S w es.flatten ρ ys) :
    bJ P o env h 1 (fun p => .sl p 0 es.length sz) (fun _ => [.arr es sz]) := by
  refine DX fun ρ S a w p => ?_
  obtain ⟨c,e,cap,dr,ys,h1,h2,h3,h4,h5,h6⟩ := hrun ρ S a w p;refine ⟨c,e,_,dr,h1,fun pos hpos w' hw' l => ⟨?_,?_⟩⟩
  · simp only [R];refine ⟨_,cap,rfl,h3,.inr ⟨w.heap.size,0,by simp [Pl.with],by simp,h2,c,e,_,hw',by simp only [Nat.zero_add];exact h4⟩⟩
  · simp only [RB];exact ⟨hes,hsz,.inr ⟨_,_,ys,rfl,⟨c,e,hw',fun j y hy => by rw [Nat.zero_add];exact h5 j y hy⟩,h6.later l⟩⟩
theorem eB {α : Type} {sz : Nat} : ∀ {es : List (List α)}, (∀ e, e ∈ es → e.length = sz) → es.flatten.length = es.length * sz
  | [],_ => by simp
  | e :: es,h => by
    have ih := eB (es := es) (fun e he => h e (aF _ he));have h0 := h e (aL);rw [cH,aB,List.length_cons,ih,h0,eL];omega
theorem lB {α : Type} (z : List α) : ∀ (n j : Nat) (x : α), (List.replicate n z).flatten[j]? = some x → j < n * z.length ∧ z[j % z.length]? = some x
  | 0,j,x,h => by simp at h
  | n + 1,j,x,h => by
    simp only [List.replicate_succ,cH] at h;by_cases hj : j < z.length
    · rw [aG hj] at h;exact ⟨by rw [eL];omega,by rw [Nat.mod_eq_of_lt hj];exact h⟩
    · rw [aE (by omega)] at h
      obtain ⟨h1,h2⟩ := lB z n _ x h;refine ⟨by rw [eL];omega,?_⟩
      rw [← h2,← Nat.mod_eq_sub_mod (by omega)]
theorem uS {z : Array Value} {n j : Nat} {y : Value} (hj : j < n) (hy : z.toList[j % z.size]? = some y) : (madeCells z n)[j]? = some y := by
  simp only [madeCells,Array.getElem?_map];rw [Array.getElem?_range,if_pos hj];simp only [lP,Option.some.injEq];simp only [jM] at hy;rw [getElem!_def,hy]
theorem DY (T : oA P) {t e : Nat} {i : TI} {l c : Operand} {kl kc : IntKind} {n m : Int} (ht : T.elem t = some e) (he : T.ti e = some i) (hl : evu env l = some (.v (.int kl n))) (hc : evu env c = some (.v (.int kc m))) (h0 : 0 ≤ n) (h1 : n ≤ m) (h2 : (i.bytes : Int) * m ≤ 281474976710656) (h3 : m ≤ 9223372036854775807) (hs : 0 < i.size) :
    bJ P ⟨d,.makeSlice t l c,ty,pos,af,g⟩ env h 1 (fun p => .sl p 0 n.toNat i.size) (fun _ => [.arr (List.replicate n.toNat (i.zero.map .v)) i.size]) := by
  obtain ⟨inf,z,a1,a2,a3,a4,a5,a6,a7⟩ := T.tiOk e i he;have key := N4 (P := P) (env := env) (h := h) (o := ⟨d,.makeSlice t l c,ty,pos,af,g⟩) (es := List.replicate n.toNat (i.zero.map AV.v)) (sz := i.size) hs (fun e he => by rw [jP he];simp [a6]) fun ρ S a w p => by
    have b1 := pZ (p.evu hl);have b2 := pZ (p.evu hc);have hr := run_make (P := P) w t e inf z (T.elemOk _ _ ht) a1 a4 kl kc n m h0 h1 (by rw [a3];exact h2) h3
    refine ⟨madeCells z.cells (m.toNat * inf.size),e,m.toNat,false,(List.replicate n.toNat i.zero).flatten,?_,?_,?_,?_,fun j y hy => ?_,?_⟩
    · simp only [execOp,b1,b2,Sem.run_bind,hr,List.length_replicate];rfl
    · simp;omega
    · simp [maxLen];omega
    · rw [size_madeCells,a2];exact aU _
    · obtain ⟨c1,c2⟩ := lB i.zero n.toNat j y hy;refine uS ?_ ?_
      · rw [a2];refine cC c1 ?_;rw [a6];exact fN _ (by omega)
      · have hzs : z.cells.size = i.zero.length := by rw [← a5];simp
        rw [hzs,a5];exact c2
    · have : (List.replicate n.toNat (i.zero.map AV.v)).flatten = ((List.replicate n.toNat i.zero).flatten).map AV.v := by
        rw [ZA,QD]
      rw [this];exact Y6 _
  simpa using key
def CO : List (List AV) → List (Nat × List AV) → Option (List (List AV))
  | es,[] => some es
  | es, (i, xs) :: rest => match es[i]? with
    | some e => match Nat.beq xs.length e.length with
      | true => CO (es.set i xs) rest
      | false => none
    | none => none
theorem uQ {sz : Nat} : ∀ {es : List (List AV)},(∀ e,e ∈ es → e.length = sz) → ∀ {i : Nat} {e : List AV},es[i]? = some e → ∀ {off : Nat} {xs : List AV},off + xs.length ≤ sz → iZ es.flatten (i * sz + off) xs = (es.set i (iZ e off xs)).flatten := by
  intro es hl i e hi off xs
  induction xs generalizing es e off with
  | nil => intro _;simp only [iZ];rw [show es.set i e = es from dX fun j => by
        rw [cK];split
        · rename_i e0;subst e0;rw [hi,if_pos (aA.1 hi).1]
        · rfl]
  | cons x xs ih =>
    intro hle;simp only [iZ];have hlen := hl e (aJ hi);have hset : es.flatten.set (i * sz + off) x = (es.set i (e.set off x)).flatten := by
      clear ih
      induction es generalizing i with
      | nil => simp at hi
      | cons e' es ih2 =>
        have he' := hl e' (by simp)
        cases i with
        | zero =>
          simp only [dK,Option.some.injEq] at hi;subst hi;simp only [cH,List.set_cons_zero,VM,Nat.zero_add];rw [yT _ _ (by simp at hle;omega)]
        | succ i =>
          simp only [gV] at hi;simp only [cH,List.set_cons_succ];rw [xF _ _ (by rw [he',eL];omega),he',show (i + 1) * sz + off - sz = i * sz + off by rw [eL];omega,ih2 (fun e he => hl e (by simp [he])) hi]
    rw [hset];have hlt : i < es.length := (aA.1 hi).1
    have := ih (es := es.set i (e.set off x)) (e := e.set off x) (off := off + 1) (fun e1 he1 => by
      rcases rP he1 with h1 | h1
      · exact hl e1 h1
      · subst h1;simp [hlen]) (by simp [hlt]) (by simp at hle;omega)
    rw [show i * sz + off + 1 = i * sz + (off + 1) by omega,this,fG]
end
section
variable {P : Program} {env : dD} {h : Hp}
variable {d : Option Nat} {ty : TypeId} {pos : String} {af : Array Edge} {g : Option (Nat × Bool)}
theorem OP {α : Type} (xs cs : List α) (hl : xs.length = cs.length) : iZ cs 0 xs = xs := by
  rw [T2 xs cs 0 (by omega)]
  simp [hl]
theorem B4 {sz : Nat} : ∀ {aZ : List (Nat × List AV)} {es zs : List (List AV)}, (∀ e, e ∈ es → e.length = sz) → CO es aZ = some zs → V7 (fun j => some (j * sz, sz)) es.flatten aZ = some zs.flatten ∧ (∀ e, e ∈ zs → e.length = sz) ∧ zs.length = es.length
  | [],es,zs,hl,hf => by
    simp only [CO,Option.some.injEq] at hf;subst hf;exact ⟨rfl,hl,rfl⟩
  | (i,xs) :: rest,es,zs,hl,hf => by
    simp only [CO] at hf;split at hf
    · rename_i e he;split at hf
      · rename_i hb;have e1 := aM hb;have e2 := hl e (aJ he);have hlt : i < es.length := (aA.1 he).1;have hl' : ∀ e,e ∈ es.set i xs → e.length = sz := fun e he' => by
          rcases rP he' with h1 | h1
          · exact hl e h1
          · subst h1;omega
        obtain ⟨h1,h2,h3⟩ := B4 hl' hf;refine ⟨?_,h2,by rw [h3];simp⟩
        simp only [V7];have hb1 : Nat.beq xs.length sz = true := by rw [← e2,← e1];exact eQ _
        have hb2 : Nat.ble (i * sz + sz) es.flatten.length = true := by
          refine Nat.ble_eq_true_of_le ?_;rw [eB hl]
          calc i * sz + sz = (i + 1) * sz := by rw [eL]; omega
            _ ≤ es.length * sz := fN _ hlt
        rw [hb1,hb2];simp only;have hput := uQ hl he (off := 0) (xs := xs) (by omega)
        rw [OP xs e e1,Nat.add_zero] at hput;rw [hput];exact h1
      · cases hf
    · cases hf
theorem bO (T : oA P) {t e len : Nat} {i : TI} {l : List (Nat × Operand)} {aZ : List (Nat × List AV)} {es : List (List AV)} (ht : T.elem t = some e) (he : T.ti e = some i) (hs : 0 < i.size) (hn : len * i.size ≤ 16777216) (hl : wN env l = some aZ) (hz : CO (List.replicate len (i.zero.map .v)) aZ = some es) (hes : es.length = len) :
    bJ P ⟨d,.buildSlice t len l.toArray,ty,pos,af,g⟩ env h 1 (fun p => .sl p 0 len i.size) (fun _ => [.arr es i.size]) := by
  obtain ⟨inf,z,a1,a2,a3,a4,a5,a6,a7⟩ := T.tiOk e i he;have hrep : ∀ e,e ∈ List.replicate len (i.zero.map AV.v) → e.length = i.size := fun e he => by rw [jP he];simp [a6]
  obtain ⟨f1,f2,f3⟩ := B4 hrep hz;have key := N4 (P := P) (env := env) (h := h) (o := ⟨d,.buildSlice t len l.toArray,ty,pos,af,g⟩) (es := es) (sz := i.size) hs f2 fun ρ S a w p => by
    have hcells : RL S w (List.replicate len (i.zero.map AV.v)).flatten ρ (madeCells z.cells (len * i.size)).toList := by
      have h1 : (List.replicate len (i.zero.map AV.v)).flatten = ((List.replicate len i.zero).flatten).map AV.v := by
        rw [ZA,QD]
      have h2 : (madeCells z.cells (len * i.size)).toList = (List.replicate len i.zero).flatten := by
        apply dX;intro j;by_cases hj : j < len * i.size
        · have hlen : (List.replicate len i.zero).flatten.length = len * i.size := by
            rw [eB (sz := i.size) (fun e he => by rw [jP he];exact a6)];simp
          obtain ⟨y,hy⟩ : ∃ y,(List.replicate len i.zero).flatten[j]? = some y := ⟨_,aC (by rw [hlen];exact hj)⟩
          rw [hy];obtain ⟨_,c2⟩ := lB i.zero len j y hy
          have := uS (z := z.cells) (n := len * i.size) (j := j) (y := y) hj (by
            have hzs : z.cells.size = i.zero.length := by rw [← a5];simp
            rw [hzs,a5];exact c2)
          simpa using this
        · rw [bU (by simp [size_madeCells];omega),bU]
          rw [eB (sz := i.size) (fun e he => by rw [jP he];exact a6)]
          simp;omega
      rw [h1,h2];exact Y6 _
    obtain ⟨us,u1,u2⟩ := V6 (zC p hl) hcells f1;have ul := eV u2;refine ⟨us,e,len,false,us.toList,?_,by omega,?_,?_,fun j y hy => by simpa using hy,u2⟩
    · have hn' : ¬ (len * i.size > 2 ^ 24) := by omega
      have hparts : (l.toArray.map fun (i,x) => (i,a.eval x)).toList = l.map fun (i,x) => (i,a.eval x) := by simp
      have hmade : ∀ zz : Array Value,(len * i.size = 0 ∨ zz = z.cells) → ((Array.range (len * i.size)).map fun x => zz[x % zz.size]!) = madeCells z.cells (len * i.size) := fun zz hzz => by
        rcases hzz with h0 | h0
        · simp [h0,madeCells]
        · rw [h0];rfl
      by_cases h0 : len * i.size = 0
      · have hm := hmade #[] (.inl h0);simp only [execOp,Instr.buildSlice,Sem.run_bind,run_underlying (T.elemOk _ _ ht),Result.andThen_ok,Go.sizeOf,typeInfo,run_program,a1,Sem.run_pure,a2,hn',if_false];rw [if_pos h0];simp only [Sem.run_bind,Sem.run_pure,Result.andThen_ok];rw [hm,hparts,u1];simp [newRow,hes]
      · have hm := hmade z.cells (.inr rfl);simp only [execOp,Instr.buildSlice,Sem.run_bind,run_underlying (T.elemOk _ _ ht),Result.andThen_ok,Go.sizeOf,typeInfo,run_program,a1,Sem.run_pure,a2,hn',if_false];rw [if_neg h0];simp only [Sem.run_bind,zeroValue,typeInfo,run_program,a1,a4,Sem.run_pure,Result.andThen_ok];rw [hm,hparts,u1];simp [newRow,hes]
    · have : len ≤ len * i.size := Nat.le_mul_of_pos_right _ hs;simp only [maxLen];omega
    · simp only [fJ] at ul;rw [ul,eB f2,hes];exact aU _
  rw [hes] at key;exact key
def EZ (env : dD) (o : Option Operand) (dflt : Int) : Option Int := match o with
  | none => some dflt
  | some x => match evu env x with
    | some (.v (.int _ j)) => some j
    | _ => none
theorem zI {ρ : Pl} {S : Nat → Prop} {a : Act} {w : World} (p : Y9 ρ S env h a w) {x : Operand} {dflt j : Int} (hj : EZ env (some x) dflt = some j) : ∃ k,a.eval x = .int k j := by
  simp only [EZ] at hj;split at hj
  · rename_i k j' hx;cases hj;exact ⟨k,pZ (p.evu hx)⟩
  · cases hj
theorem JV {ρ : Pl} {S : Nat → Prop} {a : Act} {w : World} (p : Y9 ρ S env h a w) {lo hi : Option Operand} {l r : Int} {len cap : Nat} (hlo : EZ env lo 0 = some l) (hhi : EZ env hi len = some r) (h0 : 0 ≤ l) (h1 : l ≤ r) (h2 : r ≤ len) (hc : len ≤ cap) :
    (Instr.sliceBounds true len cap (lo.map a.eval) (hi.map a.eval) none).run P w = .ok (l.toNat,r.toNat,cap) w := by
  have hr : ∀ k code,(Instr.sliceBound (.int k r) cap code).run P w = .ok r.toNat w := fun k code => by
    simp only [Instr.sliceBound,asIntOf,Sem.run_bind,Sem.run_pure,Result.andThen_ok];rw [if_pos ⟨by omega,by omega⟩];rfl
  have hl : ∀ k code,(Instr.sliceBound (.int k l) r.toNat code).run P w = .ok l.toNat w := fun k code => by
    simp only [Instr.sliceBound,asIntOf,Sem.run_bind,Sem.run_pure,Result.andThen_ok];rw [if_pos ⟨by omega,by omega⟩];rfl
  cases lo with
  | none =>
    simp only [EZ,Option.some.injEq] at hlo;subst hlo;cases hi with
    | none =>
      simp only [EZ,Option.some.injEq] at hhi;subst hhi;simp [Instr.sliceBounds]
    | some x =>
      obtain ⟨k,hk⟩ := zI p hhi;simp [Instr.sliceBounds,hk,hr]
  | some y =>
    obtain ⟨k',hk'⟩ := zI p hlo;cases hi with
    | none =>
      simp only [EZ,Option.some.injEq] at hhi;subst hhi;have := hl k';simp only [bN] at this;simp [Instr.sliceBounds,hk',this]
    | some x =>
      obtain ⟨k,hk⟩ := zI p hhi;simp [Instr.sliceBounds,hk,hk',hr,hl]
theorem N3 (T : oA P) {t e k off len sz : Nat} {i : TI} {x : Operand} {lo hi : Option Operand} {l r : Int} (hx : evu env x = some (.sl k off len sz)) (ht : T.elem t = some e) (he : T.ti e = some i) (hs : i.size = sz) (hlo : EZ env lo 0 = some l) (hhi : EZ env hi len = some r) (h0 : 0 ≤ l) (h1 : l ≤ r) (h2 : r ≤ len) :
    bJ P ⟨d,.slice t x lo hi none,ty,pos,af,g⟩ env h 0 (fun _ => .sl k (off + l.toNat) (r - l).toNat sz) (fun _ => []) := by
  refine fL fun ρ S a w p => ?_
  have h3 := p.evu hx;simp only [R] at h3;obtain ⟨ad,cap,h4,hcm,h5⟩ := h3;have hlc : len ≤ cap := by rcases h5 with ⟨h5,h6⟩ | ⟨b,o,_,_,h7,_⟩ <;> omega
  have hb := JV (P := P) (w := w) p hlo hhi h0 h1 h2 hlc;have hrl : r.toNat - l.toNat = (r - l).toNat := by omega
  refine ⟨.slice (if cap = l.toNat then ad else ad.map (·.add (l.toNat * sz))) (r - l).toNat (cap - l.toNat),?_,?_⟩
  · simp [execOp,h4,Instr.sliceAt,Instr.slice,run_underlying (T.elemOk _ _ ht),hb,T.sizeOf he,hs,hrl]
  · simp only [R];refine ⟨_,_,rfl,by omega,?_⟩
    rcases h5 with ⟨h5,h6⟩ | ⟨b,o,h6,h7,h8,h9⟩
    · exact .inl ⟨by omega,by omega⟩
    · by_cases hcl : cap = l.toNat
      · exact .inl ⟨by omega,by omega⟩
      · refine .inr ⟨b,o,h6,?_,by omega,?_⟩
        · rw [if_neg hcl,h7];simp only [lP,Addr.add_lit];rw [eL,eG]
        · rw [show off + l.toNat + (cap - l.toNat) = off + cap by omega];exact h9
theorem rU {α : Type} {sz : Nat} : ∀ {es : List (List α)} (n : Nat), (∀ e, e ∈ es → e.length = sz) → es.flatten.drop (n * sz) = (es.drop n).flatten
  | es,0,_ => by simp
  | [],n + 1,_ => by simp
  | e :: es,n + 1,hl => by
    have h0 := hl e aL;rw [cH,List.drop_succ_cons,← rU n (fun e he => hl e (aF _ he)),eL,IV,vT,← IY];congr 1;rw [← h0];simp
theorem rT {α : Type} {sz : Nat} : ∀ {es : List (List α)} (n : Nat), (∀ e, e ∈ es → e.length = sz) → es.flatten.take (n * sz) = (es.take n).flatten
  | es,0,_ => by simp
  | [],n + 1,_ => by simp
  | e :: es,n + 1,hl => by
    have h0 := hl e aL;rw [cH,sA,cH,← rT n (fun e he => hl e (aF _ he)),eL,IV,vT];rw [jX,h0,aQ (by omega)]
    congr 2;omega
def upd (h : Hp) : AV → List AV → Option Hp
  | .ptr k off, xs => match h[k]? with
    | some (.cells cs) => match Nat.ble (off + xs.length) cs.length with
      | true => some (h.set k (.cells (iZ cs off xs)))
      | false => none
    | _ => none
  | .ep k i off sz, xs => match h[k]? with
    | some (.arr es s) => match Nat.beq s sz, es[i]?, Nat.ble (off + xs.length) sz with
      | true,some c,true => some (h.set k (.arr (es.set i (iZ c off xs)) s))
      | _,_,_ => none
    | _ => none
  | _,_ => none
theorem HS.upd {c : oU} {ρ : Pl} {S : Nat → Prop} {w w' : World} {k : Nat} {b0 nb : AB} {b o : Nat} (s : HS c ρ S h w) (hk : h[k]? = some b0) (hg : b0 ≠ .gone) (hp : ρ k = some (b,o)) (hw : lM (fun x => x = b) w w') (hnew : hY ρ ρ S S w w' → RB S w' ρ (some (b,o)) nb) : HS c ρ S (h.set k nb) w' ∧ hY ρ ρ S S w w' := by
  obtain ⟨hM,hS⟩ := s.live k b0 _ hk hg hp;have l : hY ρ ρ S S w w' := ⟨fun _ _ h => h,fun _ h => h,fun x hx => hw.same x (s.stab x hx) (fun e => hS (e ▸ hx)),fun _ _ _ _ _ hr => hw.room hr⟩
  have hlt : k < h.length := (aA.1 hk).1;have old : ∀ {k' : Nat} {b' : AB},k' ≠ k → (h.set k nb)[k']? = some b' → h[k']? = some b' := fun hne hb => by
    rwa [iV (Ne.symm hne)] at hb
  refine ⟨⟨fun k' hk' => s.dom k' (by simpa using hk'),fun k' p hp' => cC (s.rng k' p hp') hw.size,fun k' b' hb' => ?_,fun k' b' p hb' hg' hp' => ?_,fun k1 k2 b1 b2 p1 p2 h1 h2 g1 g2 q1 q2 e => ?_,fun x hx => cC (s.stab x hx) hw.size,s.ext.trans hw (fun x hx _ => hx ▸ hM),s.st0,s.st1,by rw [eC];exact s.mle,s.keep,s.glob.later l⟩,l⟩
  · by_cases hne : k' = k
    · subst hne;rw [dY hlt] at hb';cases hb';rw [hp];exact hnew l
    · have hb := old hne hb';cases b' with
      | gone => trivial
      | _ =>
        refine RB.later l (fun b1 o1 hp1 => hw.same b1 (s.rng k' _ hp1) (fun e => ?_)) (s.blk k' _ hb);subst e;exact hne (s.inj k' k _ _ _ _ hb hk (by simp) hg hp1 hp rfl)
  · by_cases hne : k' = k
    · subst hne;rw [hp] at hp';cases hp';exact ⟨hM,hS⟩
    · exact s.live k' b' p (old hne hb') hg' hp'
  · have g : ∀ {k' : Nat} {b' : AB},(h.set k nb)[k']? = some b' → b' ≠ .gone → ∃ b'',h[k']? = some b'' ∧ b'' ≠ .gone := fun {k' b'} hb hg' => by
      by_cases hne : k' = k
      · subst hne;exact ⟨b0,hk,hg⟩
      · exact ⟨b',old hne hb,hg'⟩
    obtain ⟨b1',h1',g1'⟩ := g h1 g1;obtain ⟨b2',h2',g2'⟩ := g h2 g2;exact s.inj k1 k2 b1' b2' p1 p2 h1' h2' g1' g2' q1 q2 e
theorem pB {w : World} {b : Nat} {c c' : Array Value} {e : TypeId} (hc : w.heap[b]? = some (.cells c e (0,0))) (hs : c'.size = c.size) : lM (fun x => x = b) w (w.setRow b c') := by
  refine ⟨rfl,rfl,rfl,by simp [World.setRow],fun x _ hx => setRow_other w b x c' hx,fun x cc ee fz hcc => ?_⟩
  by_cases hx : x = b
  · subst hx;rw [hc] at hcc;cases hcc;exact ⟨c',_,setRow_heap w x c c' e _ hc,hs⟩
  · exact ⟨cc,fz,by rw [setRow_other w b x c' hx];exact hcc,rfl⟩
theorem yD {w : World} {b o off : Nat} {ys zs : List Value} {c : Array Value} {e : TypeId} (hc : w.heap[b]? = some (.cells c e (0,0))) (hy : ∀ (j : Nat) (y : Value),ys[j]? = some y → c[o + j]? = some y) (hl : off + zs.length ≤ ys.length) (hz0 : 0 < zs.length) :
    o + off + zs.length ≤ c.size ∧ U8 (w.setRow b (c.toList.take (o + off) ++ zs ++ c.toList.drop (o + off + zs.length)).toArray) b o (iZ ys off zs) ∧ ((c.toList.take (o + off) ++ zs ++ c.toList.drop (o + off + zs.length)).toArray).size = c.size := by
  have hsz' : o + ys.length ≤ c.size := by
    have := hy (ys.length - 1) _ (aC (by omega))
    have := (aR.1 this).1;omega
  have hsize : ((c.toList.take (o + off) ++ zs ++ c.toList.drop (o + off + zs.length)).toArray).size = c.size := by
    simp only [vW,aB,bT,iM,fJ];omega
  refine ⟨by omega,⟨_,e,setRow_heap w b c _ e _ hc,fun j y hj => ?_⟩,hsize⟩
  rw [T2 _ _ _ hl] at hj;rw [kZ];by_cases h1 : j < off
  · rw [aY,aG (by simp;omega),bS,if_pos h1] at hj
    rw [aY,aG (by simp;omega),bS,if_pos (by omega)]
    simpa using hy j y hj
  · by_cases h2 : j < off + zs.length
    · rw [aG (by simp;omega),aE (by simp;omega)] at hj
      rw [aG (by simp;omega),aE (by simp;omega)]
      rw [← hj];congr 1;simp only [bT,fJ];omega
    · rw [aE (by simp;omega),eR] at hj
      rw [aE (by simp;omega),eR]
      have := hy _ _ hj;simp only [jM];rw [← this];congr 1;simp only [aB,bT,fJ];omega
theorem E3 {S : Nat → Prop} {w : World} {ρ : Pl} {xs : List AV} {ys : List Value} (h : RL S w xs ρ ys) (h1 : xs.all AV.one = true) : ∀ y,y ∈ ys → y.oneCell' = true := by
  intro y hy;obtain ⟨j,hj⟩ := List.getElem?_of_mem hy;have hlt : j < xs.length := by rw [← eV h];exact (aA.1 hj).1
  obtain ⟨y',h2,h3⟩ := mT h j xs[j] (aC hlt);rw [hj] at h2;cases h2;exact MK h3 (bD.1 h1 _ (aH hlt))
theorem bA {n : Nat × Nat} {ops : Array Oper} {rest : List Oper} {K : dD → Hp → Prop} (T : oA P) {t : Nat} {i : TI} {x y : Operand} {u v : AV} {xs : List AV} {h' : Hp} (hx : evu env x = some u) (hy : evu env y = some v) (ht : T.ti t = some i) (hv : v.cellsOf = some xs) (hl : xs.length = i.size) (h1 : xs.all AV.one = true) (h0 : 0 < i.size) (hu : upd h u xs = some h')
    (hk : VC P n ops rest env h' K) : VC P n ops (⟨none,.store t x y,ty,pos,af,none⟩ :: rest) env h K := by
  intro c ρ S a w Q s hQ;refine wpList_plain rfl fun K' hK' => ?_
  have p := s.pre;have hxv := p.evu hx;have hyv := uH (p.evu hy) hv;have hone := E3 hyv h1;have hlen := eV hyv;simp only [fJ] at hlen
  -- the store itself
  have run : ∀ {b o : Nat} {cc : Array Value} {e : TypeId},a.eval x = .pointer (some ⟨b,o,none⟩) → w.heap[b]? = some (.cells cc e (0,0)) → o + (a.eval y).cells.toList.length ≤ cc.size →
      (execOp a.eval ⟨none,.store t x y,ty,pos,af,none⟩).run P w = .ok .skip (w.setRow b (cc.toList.take o ++ (a.eval y).cells.toList ++ cc.toList.drop (o + (a.eval y).cells.toList.length)).toArray) := fun {b o cc e} he hc hle => by
    have hst := run_storeCells_at P b o e (a.eval y).cells.toList 0 cc w hc (by simpa using hle) hone
    simp only [Nat.add_zero] at hst;simp only [execOp,he,Instr.storeAt,Instr.sureAddr,storeVar,Sem.run_bind,Sem.run_pure,Result.andThen_ok,T.sizeOf ht];rw [if_neg (by simp;omega)]
    simp only [hst,Result.andThen_ok]
  have fin : ∀ {k b o : Nat} {b0 nb : AB} {cc : Array Value} {e : TypeId} {off : Nat} {ys : List Value},h' = h.set k nb → h[k]? = some b0 → b0 ≠ .gone → ρ k = some (b,o) → w.heap[b]? = some (.cells cc e (0,0)) → (∀ (j : Nat) (y : Value),ys[j]? = some y → cc[o + j]? = some y) → off + (a.eval y).cells.toList.length ≤ ys.length → a.eval x = .pointer (some ⟨b,o + off,none⟩) →
      (∀ w',hY ρ ρ S S w w' → U8 w' b o (iZ ys off (a.eval y).cells.toList) → RB S w' ρ (some (b,o)) nb) →
      Oper.wp P ⟨none,.store t x y,ty,pos,af,none⟩ a w K' Q := fun {k b o b0 nb cc e off ys} e1 e2 e3 e4 e5 e6 e7 e8 e9 => by
    obtain ⟨f1,f2,f3⟩ := yD e5 e6 e7 (by simp;omega)
    have hr := run e8 e5 f1;unfold Oper.wp;rw [hr];obtain ⟨g1,g2⟩ := s.hs.upd e2 e3 e4 (pB e5 f3) (fun l => e9 _ l f2);refine hK' _ _ (hk c ρ S _ _ Q ⟨by rw [iS];exact s.size,by rw [fT];exact s.defers.later g2,fun tt uu huu => (s.env tt uu huu).later g2,?_,s.cm⟩ hQ)
    rw [e1];exact g1
  cases u with
  | ptr k off =>
    simp only [upd] at hu;split at hu
    · rename_i cs hk';split at hu
      · rename_i hble;cases hu;have hle := bC hble;simp only [R] at hxv;obtain ⟨b,o,hp,hev⟩ := hxv;have hb := p.blk k _ hk';simp only [RB,hp] at hb;obtain ⟨b',o',ys,hq,⟨cc,e,hc,hcy⟩,hcs⟩ := hb;cases hq;have hyl := eV hcs;refine fin rfl hk' (by simp) hp hc hcy (by simp;omega) hev fun w' l hh => ?_
        simp only [RB];exact ⟨b,o,_,rfl,hh,L4 (hcs.later l) (hyv.later l)⟩
      · cases hu
    · cases hu
  | ep k j off sz =>
    simp only [upd] at hu;split at hu
    · rename_i es s' hk';split at hu
      · rename_i cj hbeq hj hble;cases hu;have hsz := aM hbeq;subst hsz;have hle := bC hble;simp only [R] at hxv;obtain ⟨b,o,hp,hev⟩ := hxv;have hb := p.blk k _ hk';simp only [RB,hp] at hb;obtain ⟨hes,hs0,hb⟩ := hb;rcases hb with hb | ⟨b',o',ys,hq,⟨cc,e,hc,hcy⟩,hcs⟩
        · obtain ⟨hb,_⟩ := hb;subst hb;simp at hj
        cases hq;have hyl := eV hcs;have hjl : j < es.length := (aA.1 hj).1;have hfl := eB hes;have hjm : j * s' + s' ≤ es.length * s' := by
          calc j * s' + s' = (j + 1) * s' := by rw [eL]; omega
            _ ≤ es.length * s' := fN _ hjl
        refine fin rfl hk' (by simp) hp hc hcy (off := j * s' + off) (by simp;omega) hev fun w' l hh => ?_
        simp only [RB];have hput := L4 (off := j * s' + off) (hcs.later l) (hyv.later l);rw [uQ hes hj (by omega)] at hput
        refine ⟨fun e1 he1 => ?_,hs0,.inr ⟨b,o,_,rfl,hh,hput⟩⟩
        rcases rP he1 with h2 | h2
        · exact hes e1 h2
        · subst h2;rw [wJ];exact hes _ (aJ hj)
      · cases hu
    · cases hu
  | _ => simp [upd] at hu
end
section
variable {P : Program} {env : dD} {h : Hp}
variable {d : Option Nat} {ty : TypeId} {pos : String} {af : Array Edge} {g : Option (Nat × Bool)}
inductive jA (h : Hp) : AV → List (List AV) → Nat → Prop
  | sl {k off len sz : Nat} {es : List (List AV)} : h[k]? = some (.arr es sz) → off + len ≤ es.length → jA h (.sl k off len sz) ((es.drop off).take len) sz
  | row {es : List (List AV)} {sz : Nat} : (∀ e,e ∈ es → e.length = sz) → jA h (.rowE es sz) es sz
  | nil {sz : Nat} : jA h .nils [] sz
theorem jA.whole {k sz n : Nat} {es : List (List AV)} (hk : h[k]? = some (.arr es sz)) (hn : n = es.length) : jA h (.sl k 0 n sz) es sz := by
  have := jA.sl (h := h) (off := 0) (len := es.length) hk (by omega)
  subst hn;simpa using this
theorem qN {S : Nat → Prop} {w : World} {ρ : Pl} {x : AV} {y : Value} {es : List (List AV)} {sz : Nat} (hb : ∀ (k : Nat) b,h[k]? = some b → RB S w ρ (ρ k) b) (hy : R S w x ρ y) (he : jA h x es sz) :
    ∃ a cap ys,y = .slice a es.length cap ∧ es.length ≤ cap ∧ cap ≤ maxLen ∧ (a = none → cap = 0) ∧ ys.length = es.length * sz ∧ RL S w es.flatten ρ ys ∧ (es.length = 0 ∨ ∃ b o,a = some ⟨b,o,none⟩ ∧ lies w b o ys) := by
  cases he with
  | @sl k off len sz es0 hk hle =>
    simp only [R] at hy;obtain ⟨a,cap,rfl,hcm,h2⟩ := hy;have hlen : ((es0.drop off).take len).length = len := by rw [bT,iM];omega
    rw [hlen];have hB := hb k _ hk;simp only [RB] at hB;obtain ⟨h3,h4,h5⟩ := hB;rcases h2 with ⟨rfl,rfl⟩ | ⟨b,o,h6,h7,h8,h9⟩
    · exact ⟨a,0,[],rfl,by omega,hcm,fun _ => rfl,by simp,by simp [RL],.inl rfl⟩
    · rcases h5 with h5 | ⟨b',o',ys,h10,h11,h12⟩
      · obtain ⟨h5,_⟩ := h5;subst h5;have : len = 0 := by simp at hle;omega
        subst this;exact ⟨a,cap,[],rfl,h8,hcm,(fun e => by rw [h7] at e;cases e),by simp,by simp [RL],.inl rfl⟩
      · rw [h6] at h10;cases h10;refine ⟨a,cap,(ys.drop (off * sz)).take (len * sz),rfl,h8,hcm,fun e => (by rw [h7] at e;cases e),?_,?_,.inr ⟨b,o + off * sz,h7,?_⟩⟩
        · have := eV h12;rw [eB h3] at this;have : off * sz + len * sz ≤ es0.length * sz := by rw [← eL];exact fN _ hle
          rw [bT,iM];omega
        · have := wY (H4 h12 (off * sz)) (len * sz)
          rwa [rU _ h3,rT _ (fun e he => h3 e (hC he))] at this
        · obtain ⟨c,e,fz,h13,h14⟩ := h11.lies;refine ⟨c,e,fz,h13,fun j y hj => ?_⟩
          rw [bS] at hj;split at hj
          · rw [eR] at hj;rw [eG];exact h14 _ _ hj
          · cases hj
  | row hes =>
    simp only [R] at hy;obtain ⟨a,cap,rfl,h1,h2,h3,h4,h5⟩ := hy;rcases h5 with h5 | ⟨b,o,ys,h6,h7,h8,h9⟩
    · have : es = [] := cF h5;subst this;exact ⟨a,cap,[],rfl,h1,h3,h2,by simp,by simp [RL],.inl rfl⟩
    · refine ⟨a,cap,ys,rfl,h1,h3,h2,by rw [eV h9];exact h4,?_,.inr ⟨b,o,h6,h8⟩⟩
      exact lL (fun _ h => h) (fun _ _ => rfl) _ _ ρ _ (fun _ _ h => by cases h) (fun _ _ _ _ h => by cases h) h9
  | nil =>
    have := pZ hy;subst this;exact ⟨none,0,[],rfl,by simp,by simp,fun _ => rfl,by simp,by simp [RL],.inl rfl⟩
theorem OY {w : World} {b o : Nat} {ys : List Value} (hl : lies w b o ys) : ∀ (j : Nat) (y : Value),ys[j]? = some y → w.cell? ((⟨b,o,none⟩ : Addr).add j) = some y := by
  intro j y hj;obtain ⟨c,e,fz,h1,h2⟩ := hl;rw [Addr.add_lit];simp [World.cell?,h1,h2 j y hj]
theorem sD {w : World} {size m cap : Nat} {a : Option Addr} {zs : List Value} (hl : zs.length = m * size) (hz : m = 0 ∨ ∃ b o,a = some ⟨b,o,none⟩ ∧ lies w b o zs) : (Builtin.firstCells size m (.slice a m cap)).run P w = .ok zs.toArray w := by
  rcases hz with rfl | ⟨b,o,rfl,hz⟩
  · have : zs = [] := cF (by simpa using hl)
    subst this;cases a with
    | none => simp [Builtin.firstCells]
    | some a => simp [Builtin.firstCells,loadCells,loadCellsFrom]
  · exact run_firstCells_some w size m _ m cap zs hl (OY hz)
theorem zT {w : World} {t ty e : TypeId} {i : TypeInfo} (ht : P.underlying t = some (.slice e)) (hi : P.info? e = some i) {b o len cap m c2 : Nat} {a2 : Option Addr} {zs : List Value} (hl : zs.length = m * i.size) (hz : m = 0 ∨ ∃ b o, a2 = some ⟨b, o, none⟩ ∧ lies w b o zs) (h1 : ∀ u ∈ zs, u.oneCell' = true)
    {cc : Array Value} {ee : TypeId} (hc : w.heap[b]? = some (.cells cc ee (0,0))) (hroom : len + m ≤ cap) (hfit : o + len * i.size + zs.length ≤ cc.size) :
    (Builtin.append_ #[t,t] ty #[.slice (some ⟨b,o,none⟩) len cap,.slice a2 m c2]).run P w = .ok (.slice (some ⟨b,o,none⟩) (len + m) cap) (w.setRow b (cc.toList.take (o + len * i.size) ++ zs ++ cc.toList.drop (o + len * i.size + zs.length)).toArray) := by
  have hf := sD (P := P) (cap := c2) hl hz;have hst := run_storeCells_at P b (o + len * i.size) ee zs 0 cc w hc (by simpa using hfit) h1
  simp only [Nat.add_zero] at hst;simp [Builtin.append_,run_underlying ht,sizeOf,typeInfo,hi,Builtin.lenOf,hroom,hf,Addr.add_lit,hst]
theorem xA {w : World} {t ty e : TypeId} {i : TypeInfo} (ht : P.underlying t = some (.slice e)) (hi : P.info? e = some i) {a a2 : Option Addr} {len cap c2 : Nat} (hlc : len ≤ cap) :
    (Builtin.append_ #[t,t] ty #[.slice a len cap,.slice a2 0 c2]).run P w = .ok (.slice a len cap) w := by
  have hf := sD (P := P) (w := w) (size := i.size) (m := 0) (cap := c2) (a := a2) (zs := []) (by simp) (.inl rfl)
  cases a with
  | none => simp [Builtin.append_,run_underlying ht,sizeOf,typeInfo,hi,Builtin.lenOf,hlc,hf]
  | some a => simp [Builtin.append_,run_underlying ht,sizeOf,typeInfo,hi,Builtin.lenOf,hlc,hf,storeCells]
theorem sN {w : World} {t ty e : TypeId} {i : TypeInfo} {z : Value} (ht : P.underlying t = some (.slice e)) (hi : P.info? e = some i) (hz0 : i.zero = some z) {a a2 : Option Addr} {len cap m c2 : Nat} {ys zs : List Value} (hly : ys.length = len * i.size) (hy : len = 0 ∨ ∃ b o, a = some ⟨b, o, none⟩ ∧ lies w b o ys)
    (hl : zs.length = m * i.size) (hz : m = 0 ∨ ∃ b o,a2 = some ⟨b,o,none⟩ ∧ lies w b o zs) (hg : cap < len + m) (hb : (len + m) * i.bytes ≤ 140737488355328) (h63 : len + m ≤ 9223372036854775807) :
    (Builtin.append_ #[t,t] ty #[.slice a len cap,.slice a2 m c2]).run P w = .ok (.slice (some ⟨w.heap.size,0,none⟩) (len + m) (grownCap w (len + m) cap e)) (w.drew.alloc (.cells (ys.toArray ++ zs.toArray ++ Builtin.zeroCells z.cells (grownCap w (len + m) cap e - (len + m))) e)) := by
  have hn : ¬ (len + m ≤ cap) := by omega
  have hx : ((len + m : Nat) : Int) ≤ 9223372036854775807 := by omega
  have h63' : ¬ (9223372036854775807 < ((len : Int) + (m : Int))) := by omega
  have hfit := growslice_fits (old := cap) (need := len + m) (by omega) hb
  have h48' : ¬ (281474976710656 < Builtin.nextslicecap (len + m) cap * i.bytes) := by omega
  have hd : ∀ {b o : Nat} {l : List Value},lies w b o l → lies w.drew b o l := fun h => h
  have hf := sD (P := P) (w := w.drew) (size := i.size) (cap := c2) hl (hz.imp id fun ⟨b,o,h1,h2⟩ => ⟨b,o,h1,hd h2⟩);have hfo := sD (P := P) (w := w.drew) (size := i.size) (cap := cap) hly (hy.imp id fun ⟨b,o,h1,h2⟩ => ⟨b,o,h1,hd h2⟩);simp [Builtin.append_,run_underlying ht,sizeOf,typeInfo,zeroValue,hi,hz0,Builtin.lenOf,hn,h63',h48',Question.forced,hf,hfo,newRow,grownCap,-List.append_toArray]
theorem uD {z : Value} {ys zs : List Value} {n len m size : Nat} (hz : z.cells.size = size) (hly : ys.length = len * size) (hlz : zs.length = m * size) (hn : len + m ≤ n) :
    n * size ≤ (ys.toArray ++ zs.toArray ++ Builtin.zeroCells z.cells (n - (len + m))).size ∧ ∀ (j : Nat) (y : Value),(ys ++ zs)[j]? = some y → (ys.toArray ++ zs.toArray ++ Builtin.zeroCells z.cells (n - (len + m)))[j]? = some y := by
  refine ⟨?_,fun j y hj => ?_⟩
  · simp only [Array.size_append,vW,size_zeroCells,hz,hly,hlz,← eL];exact fN _ (by omega)
  · have hlt := (aA.1 hj).1;rw [mQ (by simpa using hlt)]
    simpa using hj
theorem fH {n : Nat × Nat} {ops : Array Oper} {rest : List Oper} {K : dD → Hp → Prop} (T : oA P) {t e k off len sz dd : Nat} {i : TI} {x y : Operand} {v : AV} {es news : List (List AV)} (hx : evu env x = some (.sl k off len sz)) (hy : evu env y = some v) (ht : T.elem t = some e) (he : T.ti e = some i) (hs : i.size = sz)
    (hkk : h[k]? = some (.arr es sz)) (hle : off + len ≤ es.length) (hn : jA h v news sz) (h1 : news.flatten.all AV.one = true) (hb : (len + news.length) * i.bytes ≤ 140737488355328) (h63 : len + news.length ≤ 9223372036854775807) (hd : J5 (some dd) n = true)
    (hk : VC P n ops rest ((dd,.sl h.length 0 (len + news.length) sz) :: env) (h.set k .gone ++ [.arr ((es.drop off).take len ++ news) sz]) K) :
    VC P n ops (⟨some dd,.call { callee := .builtin .append,args := #[x,y],argTypes := #[t,t] },ty,pos,af,none⟩ :: rest) env h K := by
  intro c ρ S a w Q s hQ;refine wpList_plain rfl fun K' hK' => ?_
  have p := s.pre;have hxv := p.evu hx;obtain ⟨a2,c2,zs,y1,y2,y3,y4,y5,y6,y7⟩ := qN p.blk (p.evu hy) hn;obtain ⟨inf,z,t1,t2,t3,t4,t5,t6,t7⟩ := T.tiOk e i he;have hone := E3 y6 h1;have hxe : jA h (.sl k off len sz) ((es.drop off).take len) sz := .sl hkk hle;obtain ⟨a1,c1,ys,x1,x2,x3,x4,x5,x6,x7⟩ := qN p.blk hxv hxe;have hlen : ((es.drop off).take len).length = len := by rw [bT,iM];omega
  rw [hlen] at x1 x2 x5 x7;have hB := p.blk k _ hkk;simp only [RB] at hB;obtain ⟨hes,hs0,hB⟩ := hB;have hnl : ∀ q,q ∈ news → q.length = sz := by
    cases hn with
    | sl hk2 _ =>
      have := p.blk _ _ hk2;simp only [RB] at this;exact fun q hq => this.1 q (hC (gB hq))
    | row h => exact h
    | nil => exact fun q hq => by cases hq
  have hall : ∀ q,q ∈ (es.drop off).take len ++ news → q.length = sz := fun q hq => by
    rcases bH.1 hq with hq | hq
    · exact hes q (hC (gB hq))
    · exact hnl q hq
  have hklt : k < h.length := (aA.1 hkk).1;have ev1 : ∀ r w',(Builtin.append_ #[t,t] ty #[a.eval x,a.eval y]).run P w = .ok r w' → (execOp a.eval ⟨some dd,.call { callee := .builtin .append,args := #[x,y],argTypes := #[t,t] },ty,pos,af,none⟩).run P w = .ok (.value r) w' := fun r w' hr => by
    simp [execOp,resolve,invoke,builtin,hr]
  -- whatever it does: the new object's place,and the world
  have fin : ∀ {r : Value} {w' : World} {q : Option (Nat × Nat)},(Builtin.append_ #[t,t] ty #[a.eval x,a.eval y]).run P w = .ok r w' → lM c.M w w' → (∀ j b,h[j]? = some b → j ≠ k → b ≠ .gone → ∀ b1 o1,ρ j = some (b1,o1) → w'.heap[b1]? = w.heap[b1]?) → (∀ b1,S b1 → w'.heap[b1]? = w.heap[b1]?) →
      (∀ b1 o1,q = some (b1,o1) → c.M b1 ∧ ¬ S b1 ∧ b1 < w'.heap.size ∧ ∀ j b,h[j]? = some b → j ≠ k → b ≠ .gone → ∀ b2 o2,ρ j = some (b2,o2) → b2 ≠ b1) →
      (hY ρ (fun j => if j = h.length then q else ρ j) S S w w' → R S w' (.sl h.length 0 (len + news.length) sz) (fun j => if j = h.length then q else ρ j) r ∧ RB S w' (fun j => if j = h.length then q else ρ j) q (.arr ((es.drop off).take len ++ news) sz)) →
      Oper.wp P ⟨some dd,.call { callee := .builtin .append,args := #[x,y],argTypes := #[t,t] },ty,pos,af,none⟩ a w K' Q := fun {r w' q} hr hext hoth hst hq hval => by
    unfold Oper.wp;rw [ev1 r w' hr];have hdom := s.hs.dom h.length (aU _)
    have l : hY ρ (fun j => if j = h.length then q else ρ j) S S w w' := ⟨fun j u hu => by
      show (if j = h.length then q else ρ j) = _
      rw [if_neg (fun e => by rw [e,hdom] at hu;cases hu)];exact hu,fun _ h => h,hst,fun _ _ _ _ _ hr => hext.room hr⟩
    obtain ⟨v1,v2⟩ := hval l;have hget : ∀ {j : Nat} {b : AB},(h.set k .gone ++ [.arr ((es.drop off).take len ++ news) sz])[j]? = some b → b ≠ .gone → (j < h.length ∧ j ≠ k ∧ h[j]? = some b) ∨ (j = h.length ∧ b = .arr ((es.drop off).take len ++ news) sz) := fun {j b} hj hg => by
      by_cases hjl : j < h.length
      · rw [aG (by simpa using hjl)] at hj
        by_cases hjk : j = k
        · subst hjk;rw [dY hklt] at hj;cases hj;exact absurd rfl hg
        · rw [iV (Ne.symm hjk)] at hj;exact .inl ⟨hjl,hjk,hj⟩
      · rw [aE (by simp;omega)] at hj
        simp only [eC] at hj;by_cases hj0 : j - h.length = 0
        · rw [hj0] at hj;simp at hj;exact .inr ⟨by omega,hj.symm⟩
        · rw [bU (by simp;omega)] at hj;cases hj
    refine hK' _ _ (hk c (fun j => if j = h.length then q else ρ j) S _ w' Q ⟨by rw [iS];exact s.size,by rw [fT];exact s.defers.later l,nA s.size hd (fun tt uu huu => (s.env tt uu huu).later l) v1,⟨fun j hj => ?_,fun j u hu => ?_,fun j b hj => ?_,fun j b u hj hg hu => ?_,fun j j' b b' u u' hj hj' hg hg' hu hu' e => ?_,fun b1 hb1 => cC (s.hs.stab b1 hb1) hext.size,s.hs.ext.trans hext (fun _ h _ => h),s.hs.st0,s.hs.st1,by simp;exact cQ s.hs.mle (gA _ _),fun j hj => by
      have := s.hs.mle;show (if j = h.length then q else ρ j) = _
      rw [if_neg (by omega)];exact s.hs.keep j hj,s.hs.glob.later l⟩,s.cm⟩ hQ)
    · simp at hj;show (if j = h.length then q else ρ j) = _
      rw [if_neg (by omega)];exact s.hs.dom j (by omega)
    · by_cases hj : j = h.length
      · simp only [hj,if_true] at hu;exact (hq u.1 u.2 hu).2.2.1
      · simp only [hj,if_false] at hu;exact cC (s.hs.rng j u hu) hext.size
    · cases b with
      | gone => trivial
      | _ =>
        rcases hget hj (by simp) with ⟨h2,h3,h4⟩ | ⟨h2,h3⟩
        · show RB S w' _ (if j = h.length then q else ρ j) _
          rw [if_neg (by omega)]
          exact RB.later l (fun b1 o1 hp1 => hoth j _ h4 h3 (by simp) b1 o1 hp1) (s.hs.blk j _ h4)
        · subst h2;show RB S w' _ (if h.length = h.length then q else ρ h.length) _
          rw [if_pos rfl,h3];exact v2
    · rcases hget hj hg with ⟨h2,h3,h4⟩ | ⟨h2,h3⟩
      · rw [if_neg (by omega)] at hu
        exact s.hs.live j b u h4 hg hu
      · rw [if_pos h2] at hu;exact ⟨(hq u.1 u.2 hu).1,(hq u.1 u.2 hu).2.1⟩
    · rcases hget hj hg with ⟨h2,h3,h4⟩ | ⟨h2,h3⟩ <;> rcases hget hj' hg' with ⟨h2',h3',h4'⟩ | ⟨h2',h3'⟩
      · rw [if_neg (by omega)] at hu hu'
        exact s.hs.inj j j' b b' u u' h4 h4' hg hg' hu hu' e
      · rw [if_neg (by omega)] at hu
        rw [if_pos h2'] at hu';exact absurd e ((hq u'.1 u'.2 hu').2.2.2 j b h4 h3 hg u.1 u.2 hu)
      · rw [if_neg (by omega)] at hu'
        rw [if_pos h2] at hu;exact absurd e.symm ((hq u.1 u.2 hu).2.2.2 j' b' h4' h3' hg' u'.1 u'.2 hu')
      · omega
  have hoth0 : ∀ (w' : World) (b0 : Nat),(∀ x,x ≠ b0 → w'.heap[x]? = w.heap[x]?) → (∃ o,ρ k = some (b0,o)) → (∀ j b,h[j]? = some b → j ≠ k → b ≠ .gone → ∀ b1 o1,ρ j = some (b1,o1) → w'.heap[b1]? = w.heap[b1]?) ∧ (∀ b1,S b1 → w'.heap[b1]? = w.heap[b1]?) := fun w' b0 hw ⟨o,ho⟩ =>
    ⟨fun j b hj hjk hg b1 o1 h1 => hw b1 (fun e => hjk (s.hs.inj j k b _ _ _ hj hkk hg (by simp) h1 ho e)),fun b1 hb1 => hw b1 (fun e => (s.hs.live k _ _ hkk (by simp) ho).2 (e ▸ hb1))⟩
  have hxy : a.eval x = .slice a1 len c1 ∧ a.eval y = .slice a2 news.length c2 := ⟨x1,y1⟩;by_cases hroom : len + news.length ≤ c1
  · by_cases hm : news.length = 0
    · -- nothing is appended
      have hnews : news = [] := cF hm;subst hnews;have hr := xA (P := P) (w := w) (t := t) (ty := ty) (a2 := a2) (c2 := c2) (T.elemOk _ _ ht) t1 (a := a1) x2;simp only [R] at hxv;obtain ⟨a1',c1',e1,e2,e3⟩ := hxv;rw [x1] at e1;cases e1;refine fin (q := (ρ k).map fun q => (q.1,q.2 + off * sz)) (by rw [hxy.1,hxy.2];exact hr) (lM.refl _ _) (fun _ _ _ _ _ _ _ _ => rfl) (fun _ _ => rfl) (fun b1 o1 hq => ?_) (fun l => ⟨?_,?_⟩)
      · obtain ⟨⟨b2,o2⟩,h2,h3⟩ := bX.1 hq;cases h3;obtain ⟨m1,m2⟩ := s.hs.live k _ _ hkk (by simp) h2
        exact ⟨m1,m2,s.hs.rng k _ h2,fun j b hj hjk hg b3 o3 h3 e => hjk (s.hs.inj j k b _ _ _ hj hkk hg (by simp) h3 h2 e)⟩
      · simp only [R];refine ⟨a1,c1,rfl,e2,?_⟩;rcases e3 with e3 | ⟨b,o,f1,f2,f3,f4⟩
        · exact .inl e3
        · exact .inr ⟨b,o + off * sz,by simp [f1],by simpa using f2,f3,by
            have : o + off * sz + (0 + c1) * sz = o + (off + c1) * sz := by rw [Nat.zero_add,eL,eG]
            rw [this];exact f4⟩
      · simp only [RB,List.append_nil];refine ⟨fun q hq => hall q (by simpa using hq),hs0,?_⟩
        rcases hB with hB | ⟨b,o,ws,f1,⟨cc,ee,f2,f3⟩,f4⟩
        · left;obtain ⟨hB,hu⟩ := hB;subst hB;exact ⟨by simp,fun b o e => by obtain ⟨q,g1,g2⟩ := bX.1 e;cases g2;exact hu _ _ g1⟩
        · right;refine ⟨b,o + off * sz,(ws.drop (off * sz)).take (len * sz),by simp [f1],⟨cc,ee,f2,fun j u hj => ?_⟩,?_⟩
          · rw [bS] at hj;split at hj
            · rw [eR] at hj;rw [eG];exact f3 _ _ hj
            · cases hj
          · have := wY (H4 (f4.later l) (off * sz)) (len * sz)
            rwa [rU _ hes,rT _ (fun e he => hes e (hC he))] at this
    · -- there is room
      simp only [R] at hxv;obtain ⟨a1',c1',e1,e2,e3⟩ := hxv;rw [x1] at e1;cases e1;rcases e3 with ⟨e3,e4⟩ | ⟨b,o,f1,f2,f3,⟨cc,ee,fz,f4,f5⟩⟩
      · omega
      obtain rfl : fz = (0,0) := by
        rcases hB with ⟨_,hu⟩ | ⟨b3,o3,ws3,g1,⟨cc3,ee3,g2,_⟩,_⟩
        · obtain ⟨cc3,ee3,g2⟩ := hu _ _ f1;rw [f4] at g2;cases g2;rfl
        · rw [f1] at g1;cases g1;rw [f4] at g2;cases g2;rfl
      have hmul : (off + len) * sz + news.length * sz ≤ (off + c1) * sz := by rw [← eL];exact fN _ (by omega)
      have hfit : o + off * sz + len * inf.size + zs.length ≤ cc.size := by
        rw [t2,hs,y5];have : (off + len) * sz = off * sz + len * sz := eL _ _ _;omega
      have hr := zT (P := P) (w := w) (t := t) (ty := ty) (a2 := a2) (c2 := c2) (T.elemOk _ _ ht) t1 (b := b) (o := o + off * sz) (len := len) (cap := c1) (m := news.length) (by rw [t2,hs];exact y5) y7 hone f4 hroom hfit
      rw [t2,hs] at hr hfit;have hyl : ys.length = len * sz := x5;have hx8 : len = 0 ∨ ∃ b o,a1 = some ⟨b,o,none⟩ ∧ lies w b o ys := x7;have hcs : ((cc.toList.take (o + off * sz + len * sz) ++ zs ++ cc.toList.drop (o + off * sz + len * sz + zs.length)).toArray).size = cc.size := by
        simp only [vW,aB,bT,iM,fJ];omega
      have hnew := setRow_heap w b cc (cc.toList.take (o + off * sz + len * sz) ++ zs ++ cc.toList.drop (o + off * sz + len * sz + zs.length)).toArray ee (0,0) f4;obtain ⟨m1,m2⟩ := s.hs.live k _ _ hkk (by simp) f1
      obtain ⟨o1,o2⟩ := hoth0 _ b (fun x hx => setRow_other w b x (cc.toList.take (o + off * sz + len * sz) ++ zs ++ cc.toList.drop (o + off * sz + len * sz + zs.length)).toArray hx) ⟨o,f1⟩;refine fin (q := some (b,o + off * sz)) (by rw [hxy.1,hxy.2,f2];exact hr) ((pB f4 hcs).mono fun x _ hx => by rw [hx];exact m1) o1 o2 (fun b1 o1 hq => ?_) (fun l => ⟨?_,?_⟩)
      · cases hq;exact ⟨m1,m2,(aR.1 hnew).1,fun j b hj hjk hg b3 o3 h3 e => hjk (s.hs.inj j k b _ _ _ hj hkk hg (by simp) h3 f1 e)⟩
      · simp only [R];refine ⟨_,c1,rfl,e2,.inr ⟨b,o + off * sz,by simp,by simp,hroom,_,ee,_,hnew,?_⟩⟩
        rw [hcs,Nat.zero_add];have : (off + c1) * sz = off * sz + c1 * sz := eL _ _ _;omega
      · simp only [RB];refine ⟨hall,hs0,.inr ⟨b,o + off * sz,ys ++ zs,rfl,⟨_,ee,hnew,fun j u hj => ?_⟩,?_⟩⟩
        · rw [kZ];by_cases hj1 : j < ys.length
          · rw [aG hj1] at hj;rcases hx8 with h0 | ⟨b',o',g1,⟨c',e',fz,g2,g3⟩⟩
            · subst h0;simp at hyl;omega
            rw [f2] at g1;cases g1;rw [f4] at g2;cases g2;rw [aY,aG (by simp;omega),bS,if_pos (by omega)]
            simpa using g3 j u hj
          · rw [aE (by omega)] at hj
            have hj2 := (aA.1 hj).1;rw [aG (by simp;omega),aE (by simp;omega),← hj]
            congr 1;simp only [bT,fJ];omega
        · rw [gQ];exact fC (x6.later l) (y6.later l)
  · -- a new row
    have hr := sN (P := P) (w := w) (t := t) (ty := ty) (c2 := c2) (a := a1) (len := len) (cap := c1) (m := news.length) (T.elemOk _ _ ht) t1 t4 (by rw [t2,hs];exact x5) x7 (by rw [t2,hs];exact y5) y7 (by omega) (by rw [t3];exact hb) h63
    have hgc := grownCap_ge w (len + news.length) c1 e;have hgm := grownCap_le_maxLen w (len + news.length) c1 e (by simp only [maxLen];omega)
    have hzs : z.cells.size = sz := by rw [← hs,← t6,← t5];simp
    obtain ⟨g1,g2⟩ := uD hzs x5 y5 hgc;have hnew : (w.drew.alloc (.cells (ys.toArray ++ zs.toArray ++ Builtin.zeroCells z.cells (grownCap w (len + news.length) c1 e - (len + news.length))) e)).heap[w.heap.size]? = some (.cells _ e (0,0)) := heap_alloc_new w.drew _;have hold : ∀ b1,b1 < w.heap.size → (w.drew.alloc (.cells (ys.toArray ++ zs.toArray ++ Builtin.zeroCells z.cells (grownCap w (len + news.length) c1 e - (len + news.length))) e)).heap[b1]? = w.heap[b1]? := fun b1 hb1 => RowKit.Below.heap_alloc w.drew _ b1 hb1
    refine fin (q := some (w.heap.size,0)) (by rw [hxy.1,hxy.2];exact hr) ((lM.drew1 w).trans (lY w.drew _ c.M) (fun _ h _ => h)) (fun j b hj hjk hg b1 o1 h2 => hold b1 (s.hs.rng j _ h2)) (fun b1 hb1 => hold b1 (s.hs.stab b1 hb1)) (fun b1 o1 hq => ?_) (fun l => ⟨?_,?_⟩)
    · cases hq;refine ⟨c.new _ s.hs.ext.size,fun hS => ?_,by simp,fun j b hj hjk hg b2 o2 h2 e => ?_⟩
      · have := s.hs.stab _ hS;omega
      · have := s.hs.rng j _ h2;simp at this;omega
    · simp only [R];exact ⟨_,_,rfl,hgm,.inr ⟨w.heap.size,0,by simp,by simp,hgc,_,e,_,hnew,by rw [Nat.zero_add,Nat.zero_add];exact g1⟩⟩
    · simp only [RB];refine ⟨hall,hs0,.inr ⟨w.heap.size,0,ys ++ zs,rfl,⟨_,e,hnew,fun j u hj => by rw [Nat.zero_add];exact g2 j u hj⟩,?_⟩⟩
      rw [gQ];exact fC (x6.later l) (y6.later l)
end
mutual
def AV.map (θ : Nat → Nat) : AV → AV
  | .v x => .v x
  | .any => .any
  | .ptr k off => .ptr (θ k) off
  | .ep k i off sz => .ep (θ k) i off sz
  | .pr cs off => .pr cs off
  | .sl k off len sz => .sl (θ k) off len sz
  | .mp k => .mp (θ k)
  | .row cs len sz => .row cs len sz
  | .mrow ks vs => .mrow ks vs
  | .agg cs => .agg (AV.mapL θ cs)
  | .tup cs => .tup (AV.mapL θ cs)
  | .clo f cs ds => .clo f (AV.mapL θ cs) (AV.mapL θ ds)
  | .cond b x => .cond b (AV.map θ x)
  | .ifc t x => .ifc t (AV.map θ x)
def AV.mapL (θ : Nat → Nat) : List AV → List AV
  | [] => []
  | x :: xs => AV.map θ x :: AV.mapL θ xs
end
def AB.map (θ : Nat → Nat) : AB → AB
  | .gone => .gone
  | .cells cs => .cells (AV.mapL θ cs)
  | .mapO ks vs => .mapO ks (AV.mapL θ vs)
  | .mapB ks vs bs ck => .mapB ks (AV.mapL θ vs) bs ck
  | .var t cs => .var t (AV.mapL θ cs)
  | .buf e l => .buf e l
  | .iter km since seen c0 => .iter (θ km) since seen c0
  | .arr es sz => .arr (es.map (AV.mapL θ)) sz
  | .lit es sz => .lit (es.map (AV.mapL θ)) sz
mutual
theorem N9 {S : Nat → Prop} {w : World} (θ : Nat → Nat) (ρ : Pl) : ∀ (x : AV) (y : Value), R S w (x.map θ) ρ y → R S w x (fun k => ρ (θ k)) y
  | .v x,y,h => by simpa [R,AV.map] using h
  | .any,_,_ => by simp [R]
  | .ptr k off,y,h => by simpa only [R,AV.map] using h
  | .ep k i off sz,y,h => by simpa only [R,AV.map] using h
  | .pr cs off,y,h => by simpa only [R,AV.map] using h
  | .sl k off len sz,y,h => by simpa only [R,AV.map] using h
  | .mp k,y,h => by simpa only [R,AV.map] using h
  | .row cs len sz,y,h => by simpa only [R,AV.map] using h
  | .mrow ks vs,y,h => by simpa only [R,AV.map] using h
  | .agg cs,y,h => by
    simp only [R,AV.map] at *;obtain ⟨ys,h1,h2⟩ := h;exact ⟨ys,h1,oJ θ ρ cs _ h2⟩
  | .tup cs,y,h => by
    simp only [R,AV.map] at *;obtain ⟨ys,h1,h2⟩ := h;exact ⟨ys,h1,oJ θ ρ cs _ h2⟩
  | .clo f cs ds,y,h => by
    simp only [R,AV.map] at *;obtain ⟨ys,zs,h1,h2,h3⟩ := h;exact ⟨ys,zs,h1,oJ θ ρ cs _ h2,oJ θ ρ ds _ h3⟩
  | .cond b x,y,h => by
    simp only [R,AV.map] at *;exact fun hb => N9 θ ρ x y (h hb)
  | .ifc t x,y,h => by
    simp only [R,AV.map] at *;obtain ⟨z,h1,h2⟩ := h;exact ⟨z,h1,N9 θ ρ x z h2⟩
theorem oJ {S : Nat → Prop} {w : World} (θ : Nat → Nat) (ρ : Pl) : ∀ (xs : List AV) (ys : List Value), RL S w (AV.mapL θ xs) ρ ys → RL S w xs (fun k => ρ (θ k)) ys
  | [],ys,h => by simpa only [RL,AV.mapL] using h
  | x :: xs,ys,h => by
    simp only [RL,AV.mapL] at *;obtain ⟨y,zs,h1,h2,h3⟩ := h;exact ⟨y,zs,h1,N9 θ ρ x y h2,oJ θ ρ xs zs h3⟩
end
mutual
theorem yK {S : Nat → Prop} {w : World} (θ : Nat → Nat) (ρ : Pl) : ∀ (x : AV) (y : Value), R S w x (fun k => ρ (θ k)) y → R S w (x.map θ) ρ y
  | .v x,y,h => by simpa [R,AV.map] using h
  | .any,_,_ => by simp [R,AV.map]
  | .ptr k off,y,h => by simpa only [R,AV.map] using h
  | .ep k i off sz,y,h => by simpa only [R,AV.map] using h
  | .pr cs off,y,h => by simpa only [R,AV.map] using h
  | .sl k off len sz,y,h => by simpa only [R,AV.map] using h
  | .mp k,y,h => by simpa only [R,AV.map] using h
  | .row cs len sz,y,h => by simpa only [R,AV.map] using h
  | .mrow ks vs,y,h => by simpa only [R,AV.map] using h
  | .agg cs,y,h => by
    simp only [R,AV.map] at *;obtain ⟨ys,h1,h2⟩ := h;exact ⟨ys,h1,qA θ ρ cs _ h2⟩
  | .tup cs,y,h => by
    simp only [R,AV.map] at *;obtain ⟨ys,h1,h2⟩ := h;exact ⟨ys,h1,qA θ ρ cs _ h2⟩
  | .clo f cs ds,y,h => by
    simp only [R,AV.map] at *;obtain ⟨ys,zs,h1,h2,h3⟩ := h;exact ⟨ys,zs,h1,qA θ ρ cs _ h2,qA θ ρ ds _ h3⟩
  | .cond b x,y,h => by
    simp only [R,AV.map] at *;exact fun hb => yK θ ρ x y (h hb)
  | .ifc t x,y,h => by
    simp only [R,AV.map] at *;obtain ⟨z,h1,h2⟩ := h;exact ⟨z,h1,yK θ ρ x z h2⟩
theorem qA {S : Nat → Prop} {w : World} (θ : Nat → Nat) (ρ : Pl) : ∀ (xs : List AV) (ys : List Value), RL S w xs (fun k => ρ (θ k)) ys → RL S w (AV.mapL θ xs) ρ ys
  | [],ys,h => by simpa only [RL,AV.mapL] using h
  | x :: xs,ys,h => by
    simp only [RL,AV.mapL] at *;obtain ⟨y,zs,h1,h2,h3⟩ := h;exact ⟨y,zs,h1,yK θ ρ x y h2,qA θ ρ xs zs h3⟩
end
theorem pQ (θ : Nat → Nat) : ∀ (es : List (List AV)), (es.map (AV.mapL θ)).flatten = AV.mapL θ es.flatten
  | [] => rfl
  | e :: es => by
    have app : ∀ (a b : List AV),AV.mapL θ (a ++ b) = AV.mapL θ a ++ AV.mapL θ b := fun a b => by
      induction a with
      | nil => rfl
      | cons x a ih => simp [AV.mapL,ih]
    simp only [List.map_cons,cH,app,pQ θ es]
theorem qY (θ : Nat → Nat) : ∀ (l : List AV), (AV.mapL θ l).length = l.length
  | [] => rfl
  | x :: l => by simp [AV.mapL,qY θ l]
theorem zG4 {S : Nat → Prop} {w : World} (θ : Nat → Nat) (ρ : Pl) {p : Option (Nat × Nat)} : ∀ {b : AB}, RB S w ρ p (b.map θ) → RB S w (fun k => ρ (θ k)) p b
  | .gone,_ => trivial
  | .cells cs,h => by
    obtain ⟨b,o,ys,h1,h2,h3⟩ := h;exact ⟨b,o,ys,h1,h2,oJ θ ρ _ _ h3⟩
  | .mapO ks vs,h => by
    obtain ⟨b,o,m,ck,h1,h2,h3,h4⟩ := h;exact ⟨b,o,m,ck,h1,h2,h3,oJ θ ρ _ _ h4⟩
  | .mapB ks vs bs ck,h => by
    obtain ⟨b,o,m,h1,h2,h3,h4⟩ := h;exact ⟨b,o,m,h1,h2,h3,oJ θ ρ _ _ h4⟩
  | .var t cs,h => by
    obtain ⟨b,c,h1,h2,h3⟩ := h;exact ⟨b,c,h1,h2,oJ θ ρ _ _ h3⟩
  | .buf ..,h => h
  | .iter km since seen c0,h => h
  | .arr es sz,h => by
    obtain ⟨h1,h2,h3⟩ := h;refine ⟨fun e he => ?_,h2,?_⟩
    · have := h1 (AV.mapL θ e) (aK.2 ⟨e,he,rfl⟩)
      rwa [qY] at this
    · rcases h3 with h3 | ⟨b,o,ys,h4,h5,h6⟩
      · left;exact ⟨by simpa using h3.1,h3.2⟩
      · rw [pQ] at h6;exact .inr ⟨b,o,ys,h4,h5,oJ θ ρ _ _ h6⟩
  | .lit es sz,h => by
    obtain ⟨h1,h2,b,ys,h4,⟨c,e,h5,h6,h7⟩,h8⟩ := h;refine ⟨fun e he => ?_,h2,b,ys,h4,⟨c,e,h5,by simpa using h6,h7⟩,?_⟩
    · have := h1 (AV.mapL θ e) (aK.2 ⟨e,he,rfl⟩)
      rwa [qY] at this
    · rw [pQ] at h8;exact oJ θ ρ _ _ h8
theorem H5 {S : Nat → Prop} {w : World} (θ : Nat → Nat) (ρ : Pl) {p : Option (Nat × Nat)} : ∀ {b : AB}, RB S w (fun k => ρ (θ k)) p b → RB S w ρ p (b.map θ)
  | .gone,_ => trivial
  | .cells cs,h => by
    obtain ⟨b,o,ys,h1,h2,h3⟩ := h;exact ⟨b,o,ys,h1,h2,qA θ ρ _ _ h3⟩
  | .mapO ks vs,h => by
    obtain ⟨b,o,m,ck,h1,h2,h3,h4⟩ := h;exact ⟨b,o,m,ck,h1,h2,h3,qA θ ρ _ _ h4⟩
  | .mapB ks vs bs ck,h => by
    obtain ⟨b,o,m,h1,h2,h3,h4⟩ := h;exact ⟨b,o,m,h1,h2,h3,qA θ ρ _ _ h4⟩
  | .var t cs,h => by
    obtain ⟨b,c,h1,h2,h3⟩ := h;exact ⟨b,c,h1,h2,qA θ ρ _ _ h3⟩
  | .buf ..,h => h
  | .iter km since seen c0,h => h
  | .arr es sz,h => by
    obtain ⟨h1,h2,h3⟩ := h;refine ⟨fun e he => ?_,h2,?_⟩
    · obtain ⟨e',he',rfl⟩ := aK.1 he;rw [qY];exact h1 e' he'
    · rcases h3 with h3 | ⟨b,o,ys,h4,h5,h6⟩
      · left;exact ⟨by simp [h3.1],h3.2⟩
      · refine .inr ⟨b,o,ys,h4,h5,?_⟩;rw [pQ];exact qA θ ρ _ _ h6
  | .lit es sz,h => by
    obtain ⟨h1,h2,b,ys,h4,⟨c,e,h5,h6,h7⟩,h8⟩ := h;refine ⟨fun e he => ?_,h2,b,ys,h4,⟨c,e,h5,by simpa using h6,h7⟩,?_⟩
    · obtain ⟨e',he',rfl⟩ := aK.1 he;rw [qY];exact h1 e' he'
    · rw [pQ];exact qA θ ρ _ _ h8
def th (L : List Nat) (N : Nat) (k : Nat) : Nat := match L[k]? with
  | some j => j
  | none => N
def LP (θ : Nat → Nat) (env : dD) : dD → Prop
  | [] => True
  | (t,x) :: r => look env t = some (x.map θ) ∧ LP θ env r
theorem LP.look {θ : Nat → Nat} {env : dD} : ∀ {env' : dD}, LP θ env env' → ∀ t x, look env' t = some x → look env t = some (x.map θ)
  | [],_,t,x,h => by cases h
  | (k,u) :: r,h,t,x,hx => by
    rw [gL] at hx;split at hx
    · rename_i he;subst he;cases hx;exact h.1
    · exact LP.look h.2 t x hx
def tH (θ : Nat → Nat) (h : Hp) : Nat → Hp → Prop
  | _,[] => True
  | i,b :: r => (b = .gone ∨ h[θ i]? = some (b.map θ)) ∧ tH θ h (i + 1) r
theorem tH.get {θ : Nat → Nat} {h : Hp} : ∀ {h' : Hp} {i : Nat}, tH θ h i h' → ∀ (j : Nat) b, h'[j]? = some b → b = .gone ∨ h[θ (i + j)]? = some (b.map θ)
  | [],_,_,j,b,hb => by simp at hb
  | b0 :: r,i,hs,j,b,hb => by
    cases j with
    | zero => simp at hb;subst hb;simpa using hs.1
    | succ j =>
      have := tH.get hs.2 j b (by simpa using hb)
      rwa [show i + 1 + j = i + (j + 1) by omega] at this
theorem HS.sub {c : oU} {ρ : Pl} {S : Nat → Prop} {h h' : Hp} {w : World} {L : List Nat} (s : HS c ρ S h w) (hl : L.length = h'.length) (hh : tH (th L h.length) h 0 h') (hd : L.Nodup) (hm : ∀ i,i < c.m → L[i]? = some i) : HS c (fun k => ρ (th L h.length k)) S h' w := by
  have old : ∀ {k : Nat} {b : AB},h'[k]? = some b → b ≠ .gone → h[th L h.length k]? = some (b.map (th L h.length)) := fun {k b} hb hg => by
    have := hh.get k b hb;rw [Nat.zero_add] at this;exact this.resolve_left hg
  have ng : ∀ {b : AB},b ≠ .gone → b.map (th L h.length) ≠ .gone := fun {b} hb => by cases b <;> simp [AB.map] at *
  have at_ : ∀ {k : Nat} {b : AB},h'[k]? = some b → L[k]? = some (th L h.length k) := fun {k b} hb => by
    have hlt : k < L.length := by rw [hl];exact (aA.1 hb).1
    unfold th;rw [aC hlt]
  refine ⟨fun k hk => ?_,fun k p hp => s.rng _ p hp,fun k b hb => ?_,fun k b p hb hg hp => s.live _ _ p (old hb hg) (ng hg) hp,fun k k' b b' p p' hb hb' hg hg' hp hp' e => ?_,s.stab,s.ext,s.st0,s.st1,?_,fun k hk => ?_,s.glob⟩
  · have : th L h.length k = h.length := by unfold th;rw [bU (by omega)]
    show ρ (th L h.length k) = none;rw [this];exact s.dom _ (aU _)
  · by_cases hg : b = .gone
    · subst hg;trivial
    · exact zG4 _ ρ (s.blk _ _ (old hb hg))
  · have h1 := s.inj _ _ _ _ p p' (old hb hg) (old hb' hg') (ng hg) (ng hg') hp hp' e;have a1 := at_ hb;have a2 := at_ hb';rw [h1,← a2] at a1;have hk : k < L.length := by rw [hl];exact (aA.1 hb).1
    exact (vY hk hd).1 a1
  · rcases Nat.eq_zero_or_pos c.m with h0 | h0
    · omega
    · have := (aA.1 (hm (c.m - 1) (by omega))).1
      omega
  · have : th L h.length k = k := by unfold th;rw [hm k hk]
    show ρ (th L h.length k) = _;rw [this];exact s.keep k hk
def EQ (m : Nat) (env : dD) (h : Hp) (env' : dD) (h' : Hp) : Prop :=
  ∃ L : List Nat,L.length = h'.length ∧ LP (th L h.length) env env' ∧ tH (th L h.length) h 0 h' ∧ L.Nodup ∧ ∀ i,i < m → L[i]? = some i
theorem oD.sub {n : Nat × Nat} {c : oU} {ρ : Pl} {S : Nat → Prop} {env env' : dD} {h h' : Hp} {a : Act} {w : World} (s : oD n c ρ S env h a w) (hs : EQ n.2 env h env' h') : ∃ ρ',oD n c ρ' S env' h' a w := by
  obtain ⟨L,h1,h2,h3,h4,h5⟩ := hs;exact ⟨_,s.size,s.defers,fun t x hx => N9 _ ρ _ _ (s.env t _ (h2.look t x hx)),s.hs.sub h1 h3 h4 (fun i hi => h5 i (s.cm ▸ hi)),s.cm⟩
theorem qO {env env' : dD} {h h' : Hp} (L : List Nat) (h1 : L.length = h'.length := by rfl) (h2 : LP (th L h.length) env env' := by repeat (first | exact trivial | refine ⟨rfl,?_⟩)) (h3 : tH (th L h.length) h 0 h' := by repeat (first | exact trivial | refine ⟨Or.inl rfl,?_⟩ | refine ⟨Or.inr rfl,?_⟩)) (h4 : L.Nodup := by decide) : EQ 0 env h env' h' := ⟨L,h1,h2,h3,h4,fun _ h => absurd h (eM _)⟩
section
variable {P : Program} {n : Nat × Nat} {env : dD} {h : Hp} {Q : Exit → dD → Hp → Prop}
theorem UN {code : Code} {env' : dD} {h' : Hp} (hs : EQ n.2 env h env' h') (hk : AW P n code env' h' Q) : AW P n code env h Q := by
  intro c ρ S a w QQ s hQ;obtain ⟨ρ',s'⟩ := s.sub hs;exact hk c ρ' S a w QQ s' hQ
theorem dR {body : Code} {X : Type} (E : X → dD) (H : X → Hp) (μ : X → Nat) (x0 : X) (h0 : EQ n.2 env h (E x0) (H x0))
    (round : ∀ x,AW P n body (E x) (H x) (BV (fun v h => ∃ x',μ x' < μ x ∧ EQ n.2 v h (E x') (H x')) Q)) : AW P n (.loop body) env h Q := by
  intro c ρ S a w QQ s hQ;obtain ⟨ρ0,s0⟩ := s.sub h0;intro b k cs hro hb hr;have key : ∀ m x,μ x = m → ∀ ρ S a w,oD n c ρ S (E x) (H x) a w → ∃ e a' w',QQ e a' w' ∧ ArrivesIn (Machine.fenced P (rd c.r)) P (lone (b.atR a (.code body :: .inLoop body :: k)) cs w) b k cs e a' w' := by
    intro m
    induction m using Nat.strongRecOn with
    | _ m ih =>
      intro x hx ρ S a w s;obtain ⟨e,a₁,w₁,hq,harr⟩ := round x c ρ S a w (fun e a' w' => ∃ env' h' ρ' S',BV (fun v h => ∃ x',μ x' < μ x ∧ EQ n.2 v h (E x') (H x')) Q e env' h' ∧ oD n c ρ' S' env' h' a' w') s (fun e env' h' ρ' S' a' w' hq s' => ⟨env',h',ρ',S',hq,s'⟩) b (.inLoop body :: k) cs hro hb hr;obtain ⟨env',h',ρ',S',hq,s'⟩ := hq;cases e with
      | normal =>
        obtain ⟨x',hlt,hsub⟩ := hq;obtain ⟨ρ2,s2⟩ := s'.sub hsub;obtain ⟨e₂,a₂,w₂,hq₂,harr₂⟩ := ih (μ x') (hx ▸ hlt) x' rfl ρ2 S' a₁ w₁ s2;exact ⟨e₂,a₂,w₂,hq₂,.of_steps (StepsIn.trans harr (.one (fenced_calm hb hr rfl) stepR_inLoop)) harr₂⟩
      | exit id => exact ⟨_,a₁,w₁,hQ _ env' h' ρ' S' a₁ w₁ hq s',.pass (x := .inLoop body) rfl (fun _ _ => .inl (by simp)) harr⟩
      | goto l => exact ⟨_,a₁,w₁,hQ _ env' h' ρ' S' a₁ w₁ hq s',.pass (x := .inLoop body) rfl (fun _ _ => .inl (by simp)) harr⟩
      | ret => exact ⟨_,a₁,w₁,hQ _ env' h' ρ' S' a₁ w₁ hq s',.pass (x := .inLoop body) rfl (fun _ _ => .inl (by simp)) harr⟩
      | panic ch => exact ⟨_,a₁,w₁,hQ _ env' h' ρ' S' a₁ w₁ hq s',.pass (x := .inLoop body) rfl (fun _ _ => .inl (by simp)) harr⟩
      | outgrown => exact ⟨_,a₁,w₁,hQ _ env' h' ρ' S' a₁ w₁ hq s',.pass (x := .inLoop body) rfl (fun _ _ => .inl (by simp)) harr⟩
  obtain ⟨e,a',w',hq,harr⟩ := key _ x0 rfl ρ0 S a w s0;exact ⟨e,a',w',hq,.of_steps (.one (fenced_calm hb hr rfl) stepR_loop) harr⟩
end
def iY (w : World) (ρ : Pl) (S : Nat → Prop) (hin : Hp) : oU where
  w0 := w
  M := fun b => w.heap.size ≤ b ∨ ∃ (k : Nat) (x : AB) (o : Nat),hin[k]? = some x ∧ x ≠ .gone ∧ ρ k = some (b,o)
  new := fun _ h => .inl h
  S0 := S
  ρ0 := ρ
  m := hin.length
  lo := w.heap.size
  lole := aU _
  r := none
def bI (P : Program) (f : FuncId) (args : List AV) (hin : Hp) (res : AV) (hout : Hp) : Prop :=
  (∃ fn, P.funcs[f]? = some fn ∧ (fn.name == "runtime.NumGoroutine") = false ∧ fn.body.isNone = false) ∧
  ∀ ρ S w vs,HS (iY w ρ S hin) ρ S hin w → RL S w args ρ vs →
    Calls P f vs.toArray w fun e w' => ∃ y ρ' S',e = .returned y ∧ HS (iY w ρ S hin) ρ' S' hout w' ∧ R S' w' res ρ' y
def rH : Nat → List AV → dD
  | _,[] => []
  | i,x :: xs => (i,x) :: rH (i + 1) xs
theorem uJ : ∀ {xs : List AV} {i t : Nat} {x : AV}, look (rH i xs) t = some x → i ≤ t ∧ xs[t - i]? = some x
  | [],_,_,_,h => by cases h
  | u :: xs,i,t,x,h => by
    simp only [rH,gL] at h;split at h
    · rename_i he;subst he;cases h;exact ⟨aU _,by simp⟩
    · obtain ⟨h1,h2⟩ := uJ h;exact ⟨by omega,by rw [show t - i = t - (i + 1) + 1 by omega];simpa using h2⟩
def tY {P : Program} (T : oA P) (env : dD) (h : Hp) : List ResultVar → Option (List AV)
  | [] => some []
  | .tmp t :: r => match look env t, tY T env h r with
    | some x,some xs => some (x.un :: xs)
    | _,_ => none
  | .cell a t :: r => match look env a, T.ti t, tY T env h r with
    | some p, some i, some xs => match iQ h p with
      | some (cs, off) => match oI i cs off with
        | some z => some (z :: xs)
        | none => none
      | none => none
    | _,_,_ => none
def vH : List AV → AV
  | [x] => x
  | xs => .tup xs
def sO (tmps : Array Value) : ResultVar → Sem Value
  | .tmp t => pure (tmps.getD t undef)
  | .cell a t => do loadVar t (← asAddr (tmps.getD a undef))
theorem A6 (fn : Func) (tmps : Array Value) : results fn tmps = (do
    let vs ← fn.results.mapM (sO tmps)
    pure (if h : vs.size = 1 then vs[0] else .tuple vs)) := by
  unfold results;congr 1
theorem qT {P : Program} (T : oA P) {S : Nat → Prop} {w : World} {ρ : Pl} {env : dD} {h : Hp} {tmps : Array Value} (hb : ∀ (k : Nat) b,h[k]? = some b → RB S w ρ (ρ k) b) (henv : ∀ t x,look env t = some x → R S w x ρ (tmps.getD t undef)) : ∀ {rs : List ResultVar} {xs : List AV},tY T env h rs = some xs →
    ∃ ys : List Value,(rs.mapM (sO tmps)).run P w = .ok ys w ∧ RL S w xs ρ ys
  | [],xs,hr => by
    simp only [tY,Option.some.injEq] at hr;subst hr;exact ⟨[],by simp,by simp [RL]⟩
  | .tmp t :: r,xs,hr => by
    simp only [tY] at hr;split at hr
    · rename_i x xs' h1 h2;cases hr;obtain ⟨ys,h3,h4⟩ := qT T hb henv h2;refine ⟨tmps.getD t undef :: ys,by simp [List.mapM_cons,h3,sO],?_⟩
      simp only [RL];exact ⟨_,ys,rfl,JK (henv t x h1),h4⟩
    · cases hr
  | .cell a t :: r,xs,hr => by
    simp only [tY] at hr;split at hr
    · rename_i p i xs' h1 ht h2;split at hr
      · rename_i cs off h5;split at hr
        · rename_i z h6;cases hr;obtain ⟨ys,h3,h4⟩ := qT T hb henv h2;have hp := henv a p h1;obtain ⟨v,h7,h8⟩ := GV T ht hb hp h5 h6;obtain ⟨b,o,ρ',h9,_⟩ := W6 hb hp h5;rw [h9] at h7;simp only [Instr.loadAt,Instr.sureAddr,Sem.run_bind,Sem.run_pure,Result.andThen_ok] at h7;refine ⟨v :: ys,by simp [List.mapM_cons,h3,h9,asAddr,h7,sO],?_⟩
          simp only [RL];exact ⟨v,ys,rfl,h8,h4⟩
        · cases hr
      · cases hr
    · cases hr
def zA7 {P : Program} (T : oA P) (rs : List ResultVar) (m : Nat) (res : AV) (hout : Hp) (e : Exit) (v : dD) (h : Hp) : Prop :=
  (e = .ret ∨ e = .normal) ∧ ∃ (L : List Nat) (xs : List AV),tY T v h rs = some xs ∧ vH xs = res.map (th L h.length) ∧ L.length = hout.length ∧ tH (th L h.length) h 0 hout ∧ L.Nodup ∧ ∀ i,i < m → L[i]? = some i
def tD : Obj → Bool
  | .cells .. => true
  | .map .. => true
  | .mapIter .. => true
  | _ => false
def K2 (w : World) (b : Nat) : Prop := ∃ o,tD o = true ∧ w.heap[b]? = some o
mutual
theorem H3 {S S' : Nat → Prop} {w w' : World} (hS : ∀ (b : Nat) o,tD o = true → S b → w.heap[b]? = some o → S' b) (hw : ∀ (b : Nat) o,tD o = true → w.heap[b]? = some o → w'.heap[b]? = some o) :
    ∀ (x : AV) (ρ : Pl) (y : Value),R S w x ρ y → R S' w' x ρ y
  | .v x,ρ,y,h => by simpa only [R] using h
  | .any,_,_,_ => by simp [R]
  | .ptr k off,ρ,y,h => by simpa only [R] using h
  | .mp k,ρ,y,h => by simpa only [R] using h
  | .ep k i off sz,ρ,y,h => by simpa only [R] using h
  | .pr cs off,_,y,h => by
    simp only [R] at *;obtain ⟨b,o,ys,h1,h2,h3,h4⟩ := h;obtain ⟨c,e,fz,h5,h6⟩ := h3;exact ⟨b,o,ys,h1,hS b _ rfl h2 h5,⟨c,e,fz,hw b _ rfl h5,h6⟩,kO hS hw cs _ _ h4⟩
  | .sl k off len sz,ρ,y,h => by
    simp only [R] at *;obtain ⟨a,cap,h1,h6,h2⟩ := h;refine ⟨a,cap,h1,h6,?_⟩;rcases h2 with h2 | ⟨b,o,h3,h4,h5,⟨c,e,fz,h7,h8⟩⟩
    · exact .inl h2
    · exact .inr ⟨b,o,h3,h4,h5,c,e,fz,hw _ _ rfl h7,h8⟩
  | .mrow ks vs,_,y,h => by
    simp only [R] at *;obtain ⟨b,l,ck,h1,h2,h3,h4,h5⟩ := h;exact ⟨b,l,ck,h1,hS _ _ rfl h2 h3,hw _ _ rfl h3,h4,kO hS hw vs _ _ h5⟩
  | .row cs len sz,_,y,h => by
    simp only [R] at *;obtain ⟨a,cap,h1,h2,h2n,h2c,h3,h4⟩ := h;refine ⟨a,cap,h1,h2,h2n,h2c,h3,?_⟩;rcases h4 with h4 | ⟨b,o,ys,h5,h6,h7,h8⟩
    · exact .inl h4
    · obtain ⟨c,e,fz,h9,h10⟩ := h7;exact .inr ⟨b,o,ys,h5,hS b _ rfl h6 h9,⟨c,e,fz,hw b _ rfl h9,h10⟩,kO hS hw cs _ _ h8⟩
  | .agg cs,ρ,y,h => by
    simp only [R] at *;obtain ⟨ys,h1,h2⟩ := h;exact ⟨ys,h1,kO hS hw cs ρ _ h2⟩
  | .tup cs,ρ,y,h => by
    simp only [R] at *;obtain ⟨ys,h1,h2⟩ := h;exact ⟨ys,h1,kO hS hw cs ρ _ h2⟩
  | .clo f cs ds,ρ,y,h => by
    simp only [R] at *;obtain ⟨ys,zs,h1,h2,h3⟩ := h;exact ⟨ys,zs,h1,kO hS hw cs ρ _ h2,kO hS hw ds ρ _ h3⟩
  | .cond b x,ρ,y,h => by
    simp only [R] at *;exact fun hb => H3 hS hw x ρ y (h hb)
  | .ifc t x,ρ,y,h => by
    simp only [R] at *;obtain ⟨z,h1,h2⟩ := h;exact ⟨z,h1,H3 hS hw x ρ z h2⟩
theorem kO {S S' : Nat → Prop} {w w' : World} (hS : ∀ (b : Nat) o,tD o = true → S b → w.heap[b]? = some o → S' b) (hw : ∀ (b : Nat) o,tD o = true → w.heap[b]? = some o → w'.heap[b]? = some o) :
    ∀ (xs : List AV) (ρ : Pl) (ys : List Value),RL S w xs ρ ys → RL S' w' xs ρ ys
  | [],_,_,h => by simpa only [RL] using h
  | x :: xs,ρ,ys,h => by
    simp only [RL] at *;obtain ⟨y,zs,h1,h2,h3⟩ := h;exact ⟨y,zs,h1,H3 hS hw x ρ y h2,kO hS hw xs ρ zs h3⟩
end
theorem mX.cells {S S' : Nat → Prop} {w w' : World} (hS : ∀ (b : Nat) o,tD o = true → S b → w.heap[b]? = some o → S' b) (hw : ∀ (b : Nat) o,tD o = true → w.heap[b]? = some o → w'.heap[b]? = some o) (h : mX S w) : mX S' w' := fun g cs hg => by
  obtain ⟨h1,ys,t,fz,h2,h3⟩ := h g cs hg;exact ⟨hS _ _ rfl h1 h2,ys,t,fz,hw _ _ rfl h2,kO hS hw _ _ _ h3⟩
theorem Y8 {S S' : Nat → Prop} {w w' : World} {ρ : Pl} {p : Option (Nat × Nat)} (hS : ∀ (b : Nat) o,tD o = true → S b → w.heap[b]? = some o → S' b) (hw : ∀ (b : Nat) o,tD o = true → w.heap[b]? = some o → w'.heap[b]? = some o) :
    ∀ {x : AB},RB S w ρ p x → RB S' w' ρ p x
  | .gone,_ => trivial
  | .cells cs,h => by
    obtain ⟨b,o,ys,h1,⟨c,e,h2,h3⟩,h4⟩ := h;exact ⟨b,o,ys,h1,⟨c,e,hw _ _ rfl h2,h3⟩,kO hS hw _ _ _ h4⟩
  | .mapO ks vs,h => by
    obtain ⟨b,o,m,ck,h1,h2,h3,h4⟩ := h;exact ⟨b,o,m,ck,h1,hw _ _ rfl h2,h3,kO hS hw _ _ _ h4⟩
  | .mapB ks vs bs ck,h => by
    obtain ⟨b,o,m,h1,h2,h3,h4⟩ := h;exact ⟨b,o,m,h1,hw _ _ rfl h2,h3,kO hS hw _ _ _ h4⟩
  | .var t cs,h => by
    obtain ⟨b,c,h1,h2,h3⟩ := h;exact ⟨b,c,h1,hw _ _ rfl h2,kO hS hw _ _ _ h3⟩
  | .buf e _,h => by
    rcases h with h | ⟨b,c,h1,h2,h3⟩
    · exact .inl h
    · exact .inr ⟨b,c,h1,hw _ _ rfl h2,h3⟩
  | .iter km since seen c0,h => by
    obtain ⟨b,h1,m,h2,h3⟩ := h;exact ⟨b,h1,m,h2,hw _ _ rfl h3⟩
  | .arr es sz,h => by
    obtain ⟨h0,h00,h⟩ := h;refine ⟨h0,h00,?_⟩;rcases h with h | ⟨b,o,ys,h1,⟨c,e,h2,h3⟩,h4⟩
    · exact .inl ⟨h.1,fun b o e' => by obtain ⟨c,e,h3⟩ := h.2 b o e';exact ⟨c,e,hw _ _ rfl h3⟩⟩
    · exact .inr ⟨b,o,ys,h1,⟨c,e,hw _ _ rfl h2,h3⟩,kO hS hw _ _ _ h4⟩
  | .lit es sz,h => by
    obtain ⟨h0,h00,b,ys,h1,⟨c,e,h2,h3⟩,h4⟩ := h;exact ⟨h0,h00,b,ys,h1,⟨c,e,hw _ _ rfl h2,h3⟩,kO hS hw _ _ _ h4⟩
theorem pH {w : World} {b x : Nat} {o : Obj} (h : x ≠ b) : (w.putObj b o).heap[x]? = w.heap[x]? := World.putObj_heap_other h
theorem HS.shut1 {c : oU} {ρ : Pl} {S : Nat → Prop} {h : Hp} {w : World} {m : Nat} (s : HS c ρ S h w) (hm : w.heap[m]? = some (.deferred (some []))) (hlo : c.w0.heap.size ≤ m) (hS : S m) (h0 : ∀ b,c.S0 b → b < c.w0.heap.size) :
    HS c ρ (fun b => S b ∧ b ≠ m) h (w.putObj m (.deferred none)) ∧ ∀ x y,R S w x ρ y → R (fun b => S b ∧ b ≠ m) (w.putObj m (.deferred none)) x ρ y := by
  have hmm : ∀ (b : Nat) o,tD o = true → w.heap[b]? = some o → b ≠ m := fun b o ho hb e' => by rw [e',hm] at hb;cases hb;cases ho
  have a1 : ∀ (b : Nat) o,tD o = true → S b → w.heap[b]? = some o → S b ∧ b ≠ m := fun b o ho h1 h2 => ⟨h1,hmm b o ho h2⟩
  have a2 : ∀ (b : Nat) o,tD o = true → w.heap[b]? = some o → (w.putObj m (.deferred none)).heap[b]? = some o := fun b o ho h2 => by rw [pH (hmm b o ho h2)];exact h2
  refine ⟨⟨s.dom,fun k p hp => by rw [World.putObj_size];exact s.rng k p hp,fun k b hb => Y8 a1 a2 (s.blk k b hb),fun k b p hb hg hp => ⟨(s.live k b p hb hg hp).1,fun h => (s.live k b p hb hg hp).2 h.1⟩,s.inj,fun b hb => by rw [World.putObj_size];exact s.stab b hb.1,?_,fun b hb => ⟨s.st0 b hb,fun e => by have := h0 b hb;omega⟩,fun b hb => s.st1 b hb.1,s.mle,s.keep,s.glob.cells a1 a2⟩,fun x y hx => H3 a1 a2 x ρ y hx⟩
  refine ⟨s.ext.os,s.ext.tape,s.ext.output,by rw [World.putObj_size];exact s.ext.size,fun b hb hM => ?_,fun b c' e fz hb => ?_⟩
  · rw [pH (by omega)];exact s.ext.same b hb hM
  · obtain ⟨c2,f2,h1,h2⟩ := s.ext.shape b c' e fz hb;exact ⟨c2,f2,a2 _ _ rfl h1,h2⟩
theorem yB {P : Program} {fn : Func} {tmps : Array Value} {RR : Ending → World → Prop} {c : oU} {ρ : Pl} {h : Hp} (hlo : c.w0.heap.size ≤ c.lo) (h0 : ∀ b,c.S0 b → b < c.w0.heap.size) : ∀ (D : List Nat) (S : Nat → Prop) (w : World),HS c ρ S h w → D.Nodup → (∀ b,b ∈ D → S b ∧ w.heap[b]? = some (.deferred (some [])) ∧ c.lo ≤ b) →
    (∀ S' w',HS c ρ S' h w' → (∀ x y,R S w x ρ y → R S' w' x ρ y) → ∃ v,(results fn tmps).run P w' = .ok v w' ∧ RR (.returned v) w') → LeavesInM Fence.wide 0 P fn tmps RR (D.map XO) .returning w
  | [],S,w,s,_,_,hk => by
    have := hk S w s (fun _ _ h => h);simpa only [List.map_nil,LeavesInM,LeavesIn] using this
  | m :: D,S,w,s,hnd,hD,hk => by
    rw [aP] at hnd;obtain ⟨h1,h2,h3⟩ := hD m (by simp)
    obtain ⟨g1,g2⟩ := s.shut1 h2 (by omega) h1 h0
    simp only [List.map_cons,LeavesInM];refine ⟨by simp,.inl ⟨m,_,rfl,run_takeDeferred h2,yB hlo h0 D _ _ g1 hnd.2 (fun b hb => ?_) fun S' w' s' hr => hk S' w' s' fun x y hx => hr x y (g2 x y hx)⟩⟩
    have hne : b ≠ m := fun e => hnd.1 (e ▸ hb);obtain ⟨q1,q2,q3⟩ := hD b (by simp [hb])
    exact ⟨⟨q1,hne⟩,by rw [pH hne];exact q2,q3⟩
theorem dA {P : Program} (T : oA P) {f : FuncId} {fn : Func} {code : Code} {n : Nat} {args : List AV} {hin hout : Hp} {res : AV} (hf : P.funcs[f]? = some fn) (hb : fn.body = some code) (hnm : (fn.name == "runtime.NumGoroutine") = false) (hn : fn.ntmps = n) (ha : Nat.ble args.length n = true)
    (haw : AW P (n,hin.length) code (rH 0 args) hin (zA7 T fn.results.toList hin.length res hout)) : bI P f args hin res hout := by
  refine ⟨⟨fn,hf,hnm,by rw [hb];rfl⟩,?_⟩
  intro ρ S w vs hs hargs;have hlen := eV hargs;have hle := bC ha;refine (callsIn_wide (n := 0)).1 (callsIn_of_wp_marks (F := Fence.wide) hf hb trivial ?_ rfl);refine haw (iY w ρ S hin) ρ S _ w _ ⟨?_,rO.nil rfl _ _,fun t x hx => ?_,hs,rfl⟩ ?_
  · simp [hn];omega
  · obtain ⟨_,h1⟩ := uJ hx;simp only [zR4] at h1;obtain ⟨y,h2,h3⟩ := mT hargs t x h1;have hlt : t < vs.length := (aA.1 h2).1;have : (vs.toArray ++ Array.replicate (fn.ntmps - vs.toArray.size) undef).getD t undef = y := by
      rw [cY,mQ (by simpa using hlt)]
      simp [h2]
    rw [this];exact h3
  · intro e env' h' ρ' S' a' w' hq s;obtain ⟨he,L,xs,h1,h2,h3,h4,h5,h6⟩ := hq;have fin : ∀ S2 w2,HS (iY w ρ S hin) ρ' S2 h' w2 → (∀ x y,R S' w' x ρ' y → R S2 w2 x ρ' y) → ∃ v,(results fn a'.tmps).run P w2 = .ok v w2 ∧ (fun e w' => ∃ y ρ' S',e = Ending.returned y ∧ HS (iY w ρ S hin) ρ' S' hout w' ∧ R S' w' res ρ' y) (.returned v) w2 := fun S2 w2 s2 hr => by
      have hs' := s2.sub h3 h4 h5 (fun i hi => h6 i hi);obtain ⟨ys,h7,h8⟩ := qT T s2.blk (fun t x hx => hr _ _ (s.env t x hx)) h1;have hres : ∃ y,(results fn a'.tmps).run P w2 = .ok y w2 ∧ R S2 w2 (vH xs) ρ' y := by
        have hm : (fn.results.mapM (sO a'.tmps)).run P w2 = .ok ys.toArray w2 := by
          rw [L8];simp only [Sem.run_map,h7,Result.andThen_ok]
        have hl := eV h8;rw [A6];simp only [Sem.run_bind,hm,Result.andThen_ok,Sem.run_pure];refine ⟨_,rfl,?_⟩
        match xs,ys,h8,hl with
        | [x],[y],h8,_ =>
          simp only [RL] at h8;obtain ⟨y',zs,e1,h9,_⟩ := h8;cases e1;simpa [vH] using h9
        | [],[],h8,_ =>
          simp only [vH,R];exact ⟨#[],by simp,by simp [RL]⟩
        | x :: x2 :: xs,y :: y2 :: ys,h8,_ =>
          simp only [vH,R];refine ⟨(y :: y2 :: ys).toArray,?_,by simpa using h8⟩
          rw [dif_neg (by simp)]
      obtain ⟨y,h9,h10⟩ := hres;rw [h2] at h10;exact ⟨y,h9,y,_,S2,rfl,hs',N9 _ ρ' _ _ h10⟩
    obtain ⟨⟨D,hD1,hD2,hD3⟩,_⟩ := s.defers;have hl : LeavesInM Fence.wide 0 P fn a'.tmps (fun e w' => ∃ y ρ' S',e = Ending.returned y ∧ HS (iY w ρ S hin) ρ' S' hout w' ∧ R S' w' res ρ' y) a'.defers .returning w' := by
      rw [hD1];exact yB (c := iY w ρ S hin) (aU _) (fun b hb => hs.stab b hb) D S' w' s.hs hD2 hD3 fin
    rcases he with rfl | rfl
    · exact hl
    · exact hl
mutual
inductive View (h : Hp) : AV → AV → Prop
  | v (x : Value) : View h (.v x) (.v x)
  | any : View h .any .any
  | row (cs : List AV) (len sz : Nat) : View h (.row cs len sz) (.row cs len sz)
  | mrow (ks : List Value) (vs : List AV) : View h (.mrow ks vs) (.mrow ks vs)
  | mp {k : Nat} {ks : List Value} {vs vs' : List AV} : h[k]? = some (.mapO ks vs) → iH h vs vs' → View h (.mp k) (.mrow ks vs')
  | pr (cs : List AV) (off : Nat) : View h (.pr cs off) (.pr cs off)
  | sl {k off len sz : Nat} {es : List (List AV)} {cs' : List AV} : h[k]? = some (.arr es sz) → off + len ≤ es.length → iH h ((es.drop off).take len).flatten cs' → View h (.sl k off len sz) (.row cs' len sz)
  | ptr {k off : Nat} {cs cs' : List AV} : h[k]? = some (.cells cs) → iH h cs cs' → View h (.ptr k off) (.pr cs' off)
  | ep {k i off sz : Nat} {es : List (List AV)} {c c' : List AV} : h[k]? = some (.arr es sz) → es[i]? = some c → iH h c c' → View h (.ep k i off sz) (.pr c' off)
  | agg {cs cs' : List AV} : iH h cs cs' → View h (.agg cs) (.agg cs')
  | tup {cs cs' : List AV} : iH h cs cs' → View h (.tup cs) (.tup cs')
  | clo {f : Fn} {cs cs' ds ds' : List AV} : iH h cs cs' → iH h ds ds' → View h (.clo f cs ds) (.clo f cs' ds')
  | ifc {t : TypeId} {x x' : AV} : View h x x' → View h (.ifc t x) (.ifc t x')
  | nils (sz : Nat) : View h .nils (.row [] 0 sz)
inductive iH (h : Hp) : List AV → List AV → Prop
  | nil : iH h [] []
  | cons {x x' : AV} {xs xs' : List AV} : View h x x' → iH h xs xs' → iH h (x :: xs) (x' :: xs')
end
theorem iH.length {h : Hp} : ∀ {xs xs' : List AV}, iH h xs xs' → xs'.length = xs.length
  | _,_,.nil => rfl
  | _,_,.cons _ h2 => by simp [iH.length h2]
theorem iH.vs {h : Hp} : ∀ (l : List Value), iH h (l.map .v) (l.map .v)
  | [] => .nil
  | x :: l => .cons (.v x) (iH.vs l)
theorem iH.get {h : Hp} : ∀ {xs xs' : List AV}, iH h xs xs' → ∀ (j : Nat) x', xs'[j]? = some x' → ∃ x, xs[j]? = some x ∧ View h x x'
  | _,_,.nil,j,x',hx => by simp at hx
  | _,_,.cons h1 h2,j,x',hx => by
    cases j with
    | zero => simp at hx;subst hx;exact ⟨_,by simp,h1⟩
    | succ j => simpa using h2.get j x' (by simpa using hx)
def iN (h : Hp) (ρ : Pl) (b : Nat) : Prop := ∃ (k : Nat) (x : AB) (o : Nat),h[k]? = some x ∧ x ≠ .gone ∧ ρ k = some (b,o)
theorem LR {S : Nat → Prop} {w : World} {ρ : Pl} {x : AV} {y : Value} (T : Nat → Prop) (h : R S w x ρ y) : R (fun b => S b ∨ T b) w x ρ y :=
  lD (fun _ h => .inl h) (fun _ _ => rfl) x ρ ρ y (fun _ _ h => h) (fun _ _ _ _ _ h => h) h
mutual
theorem Q4 {S : Nat → Prop} {w : World} {ρ : Pl} {h : Hp} (hb : ∀ (k : Nat) b, h[k]? = some b → RB S w ρ (ρ k) b) : ∀ {x x' : AV}, View h x x' → ∀ {y : Value}, R S w x ρ y → R (fun b => S b ∨ iN h ρ b) w x' (fun _ => none) y
  | _,_,.v x,y,hy => by simpa [R] using hy
  | _,_,.any,y,hy => by simp [R]
  | _,_,.row cs len sz,y,hy => LR _ (by simpa only [R] using hy)
  | _,_,.mrow ks vs,y,hy => LR _ (by simpa only [R] using hy)
  | _,_,@View.mp _ k ks vs vs' hk h1,y,hy => by
    simp only [R] at *;obtain ⟨b,o,hp,e1⟩ := hy;obtain ⟨b',o',l,ck,h2,h3,h4,h5⟩ := hb _ _ hk;rw [hp] at h2;cases h2;exact ⟨b,l,ck,e1,.inr ⟨_,_,o,hk,by simp,hp⟩,h3,h4.1,jY hb h1 h5⟩
  | _,_,.pr cs off,y,hy => LR _ (by simpa only [R] using hy)
  | _,_,.nils sz,y,hy => by
    have := pZ hy;subst this;simp only [R];exact ⟨none,0,rfl,aU _,fun _ => rfl,by simp,by simp,.inl trivial⟩
  | _,_,.agg h1,y,hy => by
    simp only [R] at *;obtain ⟨ys,e1,h2⟩ := hy;exact ⟨ys,e1,jY hb h1 h2⟩
  | _,_,.tup h1,y,hy => by
    simp only [R] at *;obtain ⟨ys,e1,h2⟩ := hy;exact ⟨ys,e1,jY hb h1 h2⟩
  | _,_,.clo h1 h2,y,hy => by
    simp only [R] at *;obtain ⟨ys,zs,e1,h3,h4⟩ := hy;exact ⟨ys,zs,e1,jY hb h1 h3,jY hb h2 h4⟩
  | _,_,.ifc h1,y,hy => by
    simp only [R] at *;obtain ⟨z,e1,h2⟩ := hy;exact ⟨z,e1,Q4 hb h1 h2⟩
  | _,_,.ptr hk h1,y,hy => by
    simp only [R] at *;obtain ⟨b,o,hp,e1⟩ := hy;have h2 := hb _ _ hk;simp only [RB,hp] at h2;obtain ⟨b',o',ys,e2,h3,h4⟩ := h2;cases e2;exact ⟨b,o,ys,e1,.inr ⟨_,_,o,hk,by simp,hp⟩,h3.lies,jY hb h1 h4⟩
  | _,_,@View.ep _ k i off sz es c c' hk hi h1,y,hy => by
    simp only [R] at *;obtain ⟨b,o,hp,e1⟩ := hy;have h2 := hb _ _ hk;simp only [RB,hp] at h2;obtain ⟨hes,hs0,h2⟩ := h2;rcases h2 with h2 | ⟨b',o',ys,e2,h3,h4⟩
    · obtain ⟨h2,_⟩ := h2;subst h2;simp at hi
    cases e2;have hc : (es.flatten.drop (i * sz)).take sz = c := by
      apply dX;intro j;rw [bS];split
      · rename_i hj;rw [eR,wL hes hi j hj]
      · have := hes c (aJ hi);rw [bU (by omega)]
    have h5 := wY (H4 h4 (i * sz)) sz;rw [hc] at h5;refine ⟨b,o + i * sz,_,by rw [e1,eG],.inr ⟨_,_,o,hk,by simp,hp⟩,?_,jY hb h1 h5⟩
    obtain ⟨cc,e,fz,h6,h7⟩ := h3.lies;refine ⟨cc,e,fz,h6,fun j u hj => ?_⟩
    rw [bS] at hj;split at hj
    · rw [eR] at hj;rw [eG];exact h7 _ _ hj
    · cases hj
  | _,_,@View.sl _ k off len sz es cs' hk hle h1,y,hy => by
    have hel := qN hb hy (.sl hk hle);have hlen : ((es.drop off).take len).length = len := by rw [bT,iM];omega
    obtain ⟨a,cap,ys,e1,h2,h3,h4,h5,h6,h7⟩ := hel;rw [hlen] at e1 h2 h5 h7;have h8 := jY hb h1 h6;simp only [R] at hy ⊢;obtain ⟨a',cap',e2,_,h9⟩ := hy;rw [e1] at e2;cases e2;refine ⟨a,cap,e1,h2,h4,h3,by rw [iH.length h1,← eV h6,h5],?_⟩
    rcases h9 with ⟨h9,_⟩ | ⟨b,o,h10,h11,h12,h13⟩
    · exact .inl h9
    · rcases h7 with h7 | ⟨b',o',h14,h15⟩
      · exact .inl h7
      · rw [h11] at h14;cases h14;exact .inr ⟨b,_,ys,h11,.inr ⟨_,_,o,hk,by simp,h10⟩,h15,h8⟩
theorem jY {S : Nat → Prop} {w : World} {ρ : Pl} {h : Hp} (hb : ∀ (k : Nat) b, h[k]? = some b → RB S w ρ (ρ k) b) : ∀ {xs xs' : List AV}, iH h xs xs' → ∀ {ys : List Value}, RL S w xs ρ ys → RL (fun b => S b ∨ iN h ρ b) w xs' (fun _ => none) ys
  | _,_,.nil,ys,hy => by simpa [RL] using hy
  | _,_,.cons h1 h2,ys,hy => by
    simp only [RL] at *;obtain ⟨y,zs,e1,h3,h4⟩ := hy;exact ⟨y,zs,e1,Q4 hb h1 h3,jY hb h2 h4⟩
end
mutual
def AV.idf : AV → Bool
  | .v _ | .any | .row .. | .mrow .. | .pr .. => true
  | .ptr .. | .ep .. | .sl .. | .mp .. => false
  | .agg cs | .tup cs => AV.idfL cs
  | .clo _ cs ds => AV.idfL cs && AV.idfL ds
  | .cond _ x => x.idf
  | .ifc _ x => x.idf
def AV.idfL : List AV → Bool
  | [] => true
  | x :: xs => x.idf && AV.idfL xs
end
mutual
def AV.rf : AV → Bool
  | .v _ | .any | .ptr .. | .ep .. | .sl .. | .mp .. => true
  | .row .. | .mrow .. | .pr .. => false
  | .agg cs | .tup cs => AV.rfL cs
  | .clo _ cs ds => AV.rfL cs && AV.rfL ds
  | .cond _ x => x.rf
  | .ifc _ x => x.rf
def AV.rfL : List AV → Bool
  | [] => true
  | x :: xs => x.rf && AV.rfL xs
end
def AB.rf : AB → Bool
  | .gone => false
  | .cells cs => AV.rfL cs
  | .mapO _ vs => AV.rfL vs
  | .mapB _ vs _ _ => AV.rfL vs
  | .var _ cs => AV.rfL cs
  | .buf .. => true
  | .iter .. => true
  | .arr es _ => es.all AV.rfL
  | .lit es _ => es.all AV.rfL
mutual
theorem H0 {S : Nat → Prop} {w : World} (ρ ρ' : Pl) : ∀ (x : AV) (y : Value), x.idf = true → R S w x ρ y → R S w x ρ' y
  | .v x,y,_,h => by simpa only [R] using h
  | .any,_,_,_ => by simp [R]
  | .pr cs off,y,_,h => by simpa only [R] using h
  | .row cs len sz,y,_,h => by simpa only [R] using h
  | .mrow ks vs,y,_,h => by simpa only [R] using h
  | .ptr ..,_,h,_ | .ep ..,_,h,_ | .sl ..,_,h,_ | .mp ..,_,h,_ => by simp [AV.idf] at h
  | .agg cs,y,hi,h => by
    simp only [R,AV.idf] at *;obtain ⟨ys,h1,h2⟩ := h;exact ⟨ys,h1,tJ ρ ρ' cs _ hi h2⟩
  | .tup cs,y,hi,h => by
    simp only [R,AV.idf] at *;obtain ⟨ys,h1,h2⟩ := h;exact ⟨ys,h1,tJ ρ ρ' cs _ hi h2⟩
  | .clo f cs ds,y,hi,h => by
    simp only [R,AV.idf,aN] at *;obtain ⟨ys,zs,h1,h2,h3⟩ := h;exact ⟨ys,zs,h1,tJ ρ ρ' cs _ hi.1 h2,tJ ρ ρ' ds _ hi.2 h3⟩
  | .cond b x,y,hi,h => by
    simp only [R,AV.idf] at *;exact fun hb => H0 ρ ρ' x y hi (h hb)
  | .ifc t x,y,hi,h => by
    simp only [R,AV.idf] at *;obtain ⟨z,h1,h2⟩ := h;exact ⟨z,h1,H0 ρ ρ' x z hi h2⟩
theorem tJ {S : Nat → Prop} {w : World} (ρ ρ' : Pl) : ∀ (xs : List AV) (ys : List Value), AV.idfL xs = true → RL S w xs ρ ys → RL S w xs ρ' ys
  | [],ys,_,h => by simpa only [RL] using h
  | x :: xs,ys,hi,h => by
    simp only [RL,AV.idfL,aN] at *;obtain ⟨y,zs,h1,h2,h3⟩ := h;exact ⟨y,zs,h1,H0 ρ ρ' x y hi.1 h2,tJ ρ ρ' xs zs hi.2 h3⟩
end
mutual
theorem IQ {S S' : Nat → Prop} {w : World} (ρ : Pl) : ∀ (x : AV) (y : Value), x.rf = true → R S w x ρ y → R S' w x ρ y
  | .v x,y,_,h => by simpa only [R] using h
  | .any,_,_,_ => by simp [R]
  | .pr ..,_,h,_ | .row ..,_,h,_ | .mrow ..,_,h,_ => by simp [AV.rf] at h
  | .ptr k off,y,_,h => by simpa only [R] using h
  | .ep k i off sz,y,_,h => by simpa only [R] using h
  | .sl k off len sz,y,_,h => by simpa only [R] using h
  | .mp k,y,_,h => by simpa only [R] using h
  | .agg cs,y,hi,h => by
    simp only [R,AV.rf] at *;obtain ⟨ys,h1,h2⟩ := h;exact ⟨ys,h1,yR ρ cs _ hi h2⟩
  | .tup cs,y,hi,h => by
    simp only [R,AV.rf] at *;obtain ⟨ys,h1,h2⟩ := h;exact ⟨ys,h1,yR ρ cs _ hi h2⟩
  | .clo f cs ds,y,hi,h => by
    simp only [R,AV.rf,aN] at *;obtain ⟨ys,zs,h1,h2,h3⟩ := h;exact ⟨ys,zs,h1,yR ρ cs _ hi.1 h2,yR ρ ds _ hi.2 h3⟩
  | .cond b x,y,hi,h => by
    simp only [R,AV.rf] at *;exact fun hb => IQ ρ x y hi (h hb)
  | .ifc t x,y,hi,h => by
    simp only [R,AV.rf] at *;obtain ⟨z,h1,h2⟩ := h;exact ⟨z,h1,IQ ρ x z hi h2⟩
theorem yR {S S' : Nat → Prop} {w : World} (ρ : Pl) : ∀ (xs : List AV) (ys : List Value), AV.rfL xs = true → RL S w xs ρ ys → RL S' w xs ρ ys
  | [],ys,_,h => by simpa only [RL] using h
  | x :: xs,ys,hi,h => by
    simp only [RL,AV.rfL,aN] at *;obtain ⟨y,zs,h1,h2,h3⟩ := h;exact ⟨y,zs,h1,IQ ρ x y hi.1 h2,yR ρ xs zs hi.2 h3⟩
end
theorem R6 : ∀ (a b : List AV), AV.rfL (a ++ b) = (AV.rfL a && AV.rfL b)
  | [],b => by simp [AV.rfL]
  | x :: a,b => by simp [AV.rfL,R6 a b,Bool.and_assoc]
theorem xS : ∀ (es : List (List AV)), es.all AV.rfL = true → AV.rfL es.flatten = true
  | [],_ => rfl
  | e :: es,h => by
    simp only [P0,aN] at h;rw [cH,R6,h.1,xS es h.2];rfl
theorem NP {S S' : Nat → Prop} {w : World} {ρ : Pl} {p : Option (Nat × Nat)} : ∀ {b : AB}, b.rf = true → RB S w ρ p b → RB S' w ρ p b
  | .gone,_,_ => trivial
  | .cells cs,hr,h => by
    obtain ⟨b,o,ys,h1,h2,h3⟩ := h;exact ⟨b,o,ys,h1,h2,yR ρ _ _ hr h3⟩
  | .mapO ks vs,hr,h => by
    obtain ⟨b,o,m,ck,h1,h2,h3,h4⟩ := h;exact ⟨b,o,m,ck,h1,h2,h3,yR ρ _ _ hr h4⟩
  | .mapB ks vs bs ck,hr,h => by
    obtain ⟨b,o,m,h1,h2,h3,h4⟩ := h;exact ⟨b,o,m,h1,h2,h3,yR ρ _ _ hr h4⟩
  | .var t cs,hr,h => by
    obtain ⟨b,c,h1,h2,h3⟩ := h;exact ⟨b,c,h1,h2,yR ρ _ _ hr h3⟩
  | .buf ..,_,h => h
  | .iter ..,_,h => h
  | .arr es sz,hr,h => by
    obtain ⟨h0,h00,h⟩ := h;refine ⟨h0,h00,?_⟩;rcases h with h | ⟨b,o,ys,h1,h2,h3⟩
    · exact .inl h
    · exact .inr ⟨b,o,ys,h1,h2,yR ρ _ _ (xS es hr) h3⟩
  | .lit es sz,hr,h => by
    obtain ⟨h0,h00,b,ys,h1,h2,h3⟩ := h;exact ⟨h0,h00,b,ys,h1,h2,yR ρ _ _ (xS es hr) h3⟩
def EB (env : dD) : List Operand → Option (List AV)
  | [] => some []
  | x :: r => match evu env x, EB env r with
    | some u,some us => some (u :: us)
    | _,_ => none
theorem nU {ρ : Pl} {S : Nat → Prop} {env : dD} {h : Hp} {a : Act} {w : World} (p : Y9 ρ S env h a w) : ∀ {l : List Operand} {us : List AV}, EB env l = some us → RL S w us ρ (l.map a.eval)
  | [],us,hl => by simp only [EB,Option.some.injEq] at hl;subst hl;simp [RL]
  | x :: r,us,hl => by
    simp only [EB] at hl;split at hl
    · rename_i u us' h1 h2;cases hl;simp only [List.map_cons,RL];exact ⟨_,_,rfl,p.evu h1,nU p h2⟩
    · cases hl
theorem oL {P : Program} {f : FuncId} {args : Array Value} {w : World} (hf : ∃ fn, P.funcs[f]? = some fn ∧ (fn.name == "runtime.NumGoroutine") = false ∧ fn.body.isNone = false) : (callFunc f args).run P w = .ok (.enter f args) w := by
  obtain ⟨fn,h1,h2,h3⟩ := hf;have h2' : ¬ fn.name = "runtime.NumGoroutine" := by simpa using h2
  have h3' : ¬ fn.body = none := by intro e;rw [e] at h3;cases h3
  simp [callFunc,h1,h2',h3']
section
variable {P : Program} {env : dD} {h : Hp}
variable {d : Option Nat} {ty : TypeId} {pos : String} {af : Array Edge} {g : Option (Nat × Bool)}
def Pl.join (ρ ρ' : Pl) (p m : Nat) : Pl := fun k => if p ≤ k ∧ k < p + m then ρ' (k - p) else ρ k
theorem uF {x : Operand} {f : FuncId} {fs cs us xs : List AV} {args : List Operand} {ats : Array TypeId} {res : AV} {hout : Hp} (hx : evu env x = some (.clo (.func f) fs cs)) (ha : EB env args = some us)
    (hc : bI P f xs [] res hout) (hr : (iH h (fs ++ us ++ cs) xs ∧ (res.rf && hout.all AB.rf) = true) ∨ (AV.idfL (fs ++ us ++ cs) = true ∧ fs ++ us ++ cs = xs ∧ ∀ b,b ∈ hout → b ≠ .gone)) :
    bJ P ⟨d,.call { callee := .value x,args := args.toArray,argTypes := ats },ty,pos,af,g⟩ env h hout.length (fun p => res.map (· + p)) (fun p => hout.map (AB.map (· + p))) := by
  intro ρ S a w p q hq K Q hk;have hxv := p.evu hx;simp only [R] at hxv;obtain ⟨ys,zs,e1,h1,h2⟩ := hxv;have hall : RL S w (fs ++ us ++ cs) ρ (ys.toList ++ args.map a.eval ++ zs.toList) := fC (fC h1 (nU p ha)) h2;obtain ⟨hf,hc⟩ := hc;have hng : ∀ b,b ∈ hout → b ≠ .gone := fun b hb => by
    rcases hr with ⟨_,hr⟩ | ⟨_,_,hr⟩
    · simp only [aN,bD] at hr;intro e;have := hr.2 b hb;rw [e] at this;simp [AB.rf] at this
    · exact hr b hb
  -- what the callee may rely on
  obtain ⟨S1,hS1,hS1w,hargs⟩ : ∃ S1 : Nat → Prop,(∀ b,S b → S1 b) ∧ (∀ b,S1 b → b < w.heap.size) ∧ RL S1 w xs (fun _ => none) (ys.toList ++ args.map a.eval ++ zs.toList) ∧ ((res.rf && hout.all AB.rf) = true ∨ S1 = S) := by
    rcases hr with ⟨hv,hr⟩ | ⟨h3,h4,_⟩
    · refine ⟨fun b => S b ∨ iN h ρ b,fun _ h => .inl h,fun b hb => ?_,jY p.blk hv hall,.inl hr⟩
      rcases hb with hb | ⟨k,x,o,_,_,hb⟩
      · exact p.stab b hb
      · exact p.rng k _ hb
    · exact ⟨S,fun _ h => h,p.stab,by rw [← h4];exact tJ _ _ _ _ h3 hall,.inr rfl⟩
  obtain ⟨hargs,hS⟩ := hargs;have hs0 : HS (iY w (fun _ => none) S1 []) (fun _ => none) S1 [] w := ⟨fun _ _ => rfl,(fun _ _ h => by cases h),(fun k b hb => by simp at hb),(fun k b p hb => by simp at hb),(fun k _ b _ _ _ hb => by simp at hb),hS1w,lM.refl _ _,fun _ h => h,fun _ h => .inl h,aU _,(fun _ h => by simp [iY] at h),p.glob.st hS1⟩
  have hcall := hc (fun _ => none) S1 w _ hs0 hargs;unfold Oper.wp;have hrun : (execOp a.eval ⟨d,.call { callee := .value x,args := args.toArray,argTypes := ats },ty,pos,af,g⟩).run P w = .ok (.enter f (ys.toList ++ args.map a.eval ++ zs.toList).toArray) w := by
    have e2 : (ys ++ (args.toArray.map a.eval) ++ zs) = (ys.toList ++ args.map a.eval ++ zs.toList).toArray := by
      apply Array.ext';simp
    simp only [execOp,resolve,e1,Deferred.ofValue,Sem.run_bind,Sem.run_pure,Result.andThen_ok,invoke];rw [e2];exact oL hf
  rw [hrun];simp only [Oper.upon];refine hcall.mono ?_;rintro e w' ⟨y,ρ',S',rfl,hs,hy⟩;simp only;have hM : ∀ b,(iY w (fun _ => none) S1 []).M b → w.heap.size ≤ b := fun b hb => by
    rcases hb with hb | ⟨k,x,o,hb,_⟩
    · exact hb
    · simp at hb
  have hext : lM (fun _ => False) w w' := hs.ext.mono fun b hb hm => by have := hM b hm;simp [iY] at hb;omega
  have pl : ∀ k r,ρ' k = some r → (ρ.join ρ' q hout.length) (k + q) = some r := fun k r hk => by
    have hlt : k < hout.length := by
      rcases gP k hout.length with h | h
      · exact h
      · rw [hs.dom k h] at hk;cases hk
    unfold Pl.join;rw [if_pos ⟨by omega,by omega⟩,show k + q - q = k by omega];exact hk
  have shift : ∀ {S2 : Nat → Prop} {x : AV} {y : Value},R S2 w' x ρ' y → R S2 w' (x.map (· + q)) (ρ.join ρ' q hout.length) y := fun {S2 x y} hx => yK (· + q) _ x y (lD (fun _ h => h) (fun _ _ => rfl) x ρ' _ y (fun k r hk => pl k r hk) (fun _ _ _ _ _ h => h) hx);have shiftB : ∀ {S2 : Nat → Prop} {b : AB} {pp},RB S2 w' ρ' pp b → RB S2 w' (ρ.join ρ' q hout.length) pp (b.map (· + q)) := fun {S2 b pp} hb => H5 (· + q) _ (RB.later (ρ := ρ') (S := S2) ⟨fun k r hk => pl k r hk,fun _ h => h,fun _ _ => rfl,fun _ _ _ _ _ h => h⟩ (fun _ _ _ => rfl) hb);have old : ∀ {S2 : Nat → Prop},(∀ b,S2 b → S b ∨ (w.heap.size ≤ b ∧ b < w'.heap.size)) → (∀ b,S b → S2 b) → (∀ {x : AV} {y : Value},x = res → R S' w' x ρ' y → R S2 w' x ρ' y) → (∀ {b : AB} {pp},b ∈ hout → RB S' w' ρ' pp b → RB S2 w' ρ' pp b) → (∀ (k : Nat) b pp,hout[k]? = some b → ρ' k = some pp → ¬ S2 pp.1) →
      L5 ρ (ρ.join ρ' q hout.length) S S2 w w' q hout.length (res.map (· + q)) (hout.map (AB.map (· + q))) y := fun {S2} g1 g2 g3 g4 g5 => by
    refine ⟨hext,by simp,fun k hk => ?_,g2,g1,fun k r hk1 hk2 hr => ?_,fun k k' r r' a1 a2 a3 a4 hr hr' e => ?_,shift (g3 rfl hy),fun j b hb => ?_⟩
    · unfold Pl.join;rw [if_neg (by omega)]
    · unfold Pl.join at hr;rw [if_pos ⟨hk1,hk2⟩] at hr;have hlt : k - q < hout.length := by omega
      have hget := aC hlt;have hl := hs.live (k - q) _ r hget (hng _ (aH hlt)) hr;exact ⟨hM _ hl.1,hs.rng _ r hr,g5 _ _ r hget hr⟩
    · unfold Pl.join at hr hr';rw [if_pos ⟨a1,a2⟩] at hr;rw [if_pos ⟨a3,a4⟩] at hr';have h1 := aC (l := hout) (i := k - q) (by omega)
      have h2 := aC (l := hout) (i := k' - q) (by omega)
      have := hs.inj (k - q) (k' - q) _ _ r r' h1 h2 (hng _ (aH _)) (hng _ (aH _)) hr hr' e;omega
    · simp only [aS,bX] at hb;obtain ⟨b',h3,rfl⟩ := hb;have hlt := (aA.1 h3).1;have e2 : (ρ.join ρ' q hout.length) (q + j) = ρ' j := by
        unfold Pl.join;rw [if_pos ⟨by omega,by omega⟩,show q + j - q = j by omega]
      rw [e2];exact shiftB (g4 (aJ h3) (hs.blk j b' h3))
  rcases hS with hS | hS
  · simp only [aN,bD] at hS;refine hk y _ S w' (old (fun b hb => .inl hb) (fun _ h => h) (fun {x y} e hx => ?_) (fun {b pp} hb hx => NP (hS.2 b hb) hx) (fun k b pp hb hp hs' => ?_))
    · subst e;exact IQ ρ' _ _ hS.1 hx
    · have hl := hs.live k b pp hb (hng b (aJ hb)) hp;have := hM _ hl.1;have := p.stab _ hs';omega
  · subst hS;refine hk y _ S' w' (old (fun b hb => ?_) (fun b hb => hs.st0 b hb) (fun {x y} e hx => hx) (fun {b pp} hb hx => hx) (fun k b pp hb hp => (hs.live k b pp hb (hng b (aJ hb)) hp).2));rcases hs.st1 b hb with hb' | hb'
    · exact .inl hb'
    · exact .inr ⟨hM b hb',hs.stab b hb⟩
mutual
theorem E7 (θ : Nat → Nat) : ∀ (x : AV), x.idf = true → x.map θ = x
  | .v x,_ => rfl
  | .any,_ => rfl
  | .row ..,_ => rfl
  | .mrow ..,_ => rfl
  | .pr ..,_ => rfl
  | .ptr ..,h | .ep ..,h | .sl ..,h | .mp ..,h => by simp [AV.idf] at h
  | .agg cs,h => by simp only [AV.idf] at h;simp only [AV.map,nK θ cs h]
  | .tup cs,h => by simp only [AV.idf] at h;simp only [AV.map,nK θ cs h]
  | .clo f cs ds,h => by simp only [AV.idf,aN] at h;simp only [AV.map,nK θ cs h.1,nK θ ds h.2]
  | .cond b x,h => by simp only [AV.idf] at h;simp only [AV.map,E7 θ x h]
  | .ifc t x,h => by simp only [AV.idf] at h;simp only [AV.map,E7 θ x h]
theorem nK (θ : Nat → Nat) : ∀ (xs : List AV), AV.idfL xs = true → AV.mapL θ xs = xs
  | [],_ => rfl
  | x :: xs,h => by simp only [AV.idfL,aN] at h;simp only [AV.mapL,E7 θ x h.1,nK θ xs h.2]
end
theorem dB {x : Operand} {f : FuncId} {fs cs us xs : List AV} {args : List Operand} {ats : Array TypeId} {res : AV} (hx : evu env x = some (.clo (.func f) fs cs)) (ha : EB env args = some us)
    (hc : bI P f xs [] res []) (he : fs ++ us ++ cs = xs) (hi : AV.idfL xs = true) (hr : res.idf = true) :
    bJ P ⟨d,.call { callee := .value x,args := args.toArray,argTypes := ats },ty,pos,af,g⟩ env h 0 (fun _ => res) (fun _ => []) := by
  have := uF (d := d) (ty := ty) (pos := pos) (af := af) (g := g) (h := h) (ats := ats) hx ha hc (.inr ⟨by rw [he];exact hi,he,fun b hb => by cases hb⟩)
  simpa only [E7 _ _ hr,List.map_nil,List.length_nil] using this
theorem cM {x : Operand} {f : FuncId} {fs cs us xs : List AV} {args : List Operand} {ats : Array TypeId} {res : AV} (hx : evu env x = some (.clo (.func f) fs cs)) (ha : EB env args = some us)
    (hc : bI P f xs [] res []) (hv : iH h (fs ++ us ++ cs) xs) (hrf : res.rf = true) (hr : res.idf = true) :
    bJ P ⟨d,.call { callee := .value x,args := args.toArray,argTypes := ats },ty,pos,af,g⟩ env h 0 (fun _ => res) (fun _ => []) := by
  have := uF (d := d) (ty := ty) (pos := pos) (af := af) (g := g) (h := h) (ats := ats) hx ha hc (.inl ⟨hv,by simp [hrf]⟩)
  simpa only [E7 _ _ hr,List.map_nil,List.length_nil] using this
end
theorem kr {α : Type} {a b : α} (h : a = b) : a = b := h
theorem tq {P : Program} {t : TypeId} (z : Value) {size bytes : Nat} {agg : Bool} {zero : List Value} (h : (P.info? t).map (fun i => (i.zero,i.size,i.bytes)) = some (some z,size,bytes) := by kernel_rfl) (ha : EO P t = some agg := by kernel_rfl) (hz : z.cells.toList = zero := by exact rfl) (hl : zero.length = size := by exact rfl) :
    ∃ inf z,P.info? t = some inf ∧ inf.size = size ∧ inf.bytes = bytes ∧ inf.zero = some z ∧ z.cells.toList = zero ∧ zero.length = size ∧ EO P t = some agg := zI2 h ha hz hl
theorem fq {P : Program} {t : TypeId} {f o : Nat} (h : LD P t f = some (o,0 + 1) := by kernel_rfl) : ∃ fs fd inf,P.underlying t = some (.struct fs) ∧ fs[f]? = some fd ∧ fd.offset = o ∧ P.info? fd.type = some inf ∧ inf.size ≠ 0 := tA h
theorem kq {α : Type} {a b : α} (h : a = b := by kernel_rfl) : a = b := h
def U1 {α : Type} : List (Nat × α) → Nat → Option α
  | [],_ => none
  | (k, x) :: r, t => match Nat.beq k t with
    | true => some x
    | false => U1 r t
def DP {α : Type} : List ((Nat × Nat) × α) → Nat → Nat → Option α
  | [],_,_ => none
  | ((k, l), x) :: r, t, f => match Nat.beq k t, Nat.beq l f with
    | true,true => some x
    | _,_ => DP r t f
def JB {κ α : Type} (p : κ → α → Prop) : List (κ × α) → Prop
  | [] => True
  | (k,x) :: r => p k x ∧ JB p r
theorem yA {α : Type} {p : Nat → α → Prop} : ∀ {l : List (Nat × α)}, JB p l → ∀ {t : Nat} {x : α}, U1 l t = some x → p t x
  | [],_,_,_,h => by cases h
  | (k,u) :: r,ha,t,x,h => by
    simp only [U1] at h;split at h
    · rename_i hb;have := aM hb;subst this;cases h;exact ha.1
    · exact yA ha.2 h
theorem CA {α : Type} {p : Nat × Nat → α → Prop} : ∀ {l : List ((Nat × Nat) × α)}, JB p l → ∀ {t f : Nat} {x : α}, DP l t f = some x → p (t, f) x
  | [],_,_,_,_,h => by cases h
  | ((k,k2),u) :: r,ha,t,f,x,h => by
    simp only [DP] at h;split at h
    · rename_i hb hb2;obtain rfl := aM hb;obtain rfl := aM hb2;cases h;exact ha.1
    · exact CA ha.2 h
section
variable {P : Program} {n : Nat × Nat} {ops : Array Oper} {env : dD} {h : Hp} {K : dD → Hp → Prop} {rest : List Oper}
variable {ty : TypeId} {pos : String} {af : Array Edge} {dd : Nat}
theorem FB {c : oU} {ρ : Pl} {S : Nat → Prop} {a : Act} {w : World} (s : oD n c ρ S env h a w) {j t : Nat} {b : Bool} (hj : (ops[j]?).bind (·.dst) = some t) (hl : look env t = some (.b b)) : yielded ops a.tmps j = some b := by
  have h1 := pZ (s.env t _ hl);unfold yielded;rw [hj];have : a.tmps[t]? = some (.bool b) := by
    rw [cY] at h1;cases h2 : a.tmps[t]? with
    | none => rw [h2] at h1;simp [undef] at h1
    | some v => rw [h2] at h1;simp at h1;rw [h1]
  simp [this]
theorem FF {op : Op} {d : Option Nat} {j t : Nat} {want b : Bool} (hj : (ops[j]?).bind (·.dst) = some t) (hl : look env t = some (.b b))
    (ht : b = want → VC P n ops (⟨d,op,ty,pos,af,none⟩ :: rest) env h K) (hf : b = !want → VC P n ops rest (fR d (.v undef) env) h K) (hd : J5 d n = true) : VC P n ops (⟨d,op,ty,pos,af,some (j,want)⟩ :: rest) env h K := by
  intro c ρ S a w Q s hQ;have hy := FB (ops := ops) s hj hl;by_cases hb : b = want
  · have := ht hb c ρ S a w Q s hQ;unfold wpList at this ⊢;have hw : Region.wanted ⟨d,op,ty,pos,af,some (j,want)⟩ (yielded ops a.tmps) = true := by simp [Region.wanted,hy,hb]
    rw [if_pos hw];rw [if_pos (by simp [Region.wanted])] at this
    exact this
  · have hb' : b = !want := by cases b <;> cases want <;> simp at *
    unfold wpList;have hw : Region.wanted ⟨d,op,ty,pos,af,some (j,want)⟩ (yielded ops a.tmps) = false := by simp [Region.wanted,hy];exact hb
    rw [if_neg (by rw [hw];exact tU)]
    exact hf hb' c ρ S _ w Q ⟨by rw [iS];exact s.size,by rw [fT];exact s.defers,nA s.size hd s.env (kY _),s.hs,s.cm⟩ hQ
theorem zH7 {op : Op} {d : Option Nat} {j t : Nat} {want : Bool} (hj : (ops[j]?).bind (·.dst) = some t) (hl : look env t = some (.b want)) (ht : VC P n ops (⟨d,op,ty,pos,af,none⟩ :: rest) env h K) (hd : J5 d n = true) : VC P n ops (⟨d,op,ty,pos,af,some (j,want)⟩ :: rest) env h K :=
  FF hj hl (fun _ => ht) (fun e => by cases want <;> cases e) hd
theorem zH8 {op : Op} {d : Option Nat} {j t : Nat} {want : Bool} (hj : (ops[j]?).bind (·.dst) = some t) (hl : look env t = some (.b (!want))) (hf : VC P n ops rest (fR d (.v undef) env) h K) (hd : J5 d n = true) : VC P n ops (⟨d,op,ty,pos,af,some (j,want)⟩ :: rest) env h K :=
  FF hj hl (fun e => by cases want <;> cases e) (fun _ => hf) hd
theorem zH6 {op : Op} {d : Option Nat} {j t : Nat} {want : Bool} (hj : (ops[j]?).bind (·.dst) = some t) (hl : look env t = some (.v undef)) (hf : VC P n ops rest (fR d (.v undef) env) h K) (hd : J5 d n = true) : VC P n ops (⟨d,op,ty,pos,af,some (j,want)⟩ :: rest) env h K := by
  intro c ρ S a w Q s hQ;have hy : yielded ops a.tmps j = none := by
    have h1 := pZ (s.env t _ hl);unfold yielded;rw [hj];rw [cY] at h1;cases h2 : a.tmps[t]? with
    | none => simp [h2]
    | some v => rw [h2] at h1;simp at h1;simp [h2,h1,undef]
  unfold wpList;have hw : Region.wanted ⟨d,op,ty,pos,af,some (j,want)⟩ (yielded ops a.tmps) = false := by simp [Region.wanted,hy]
  rw [if_neg (by rw [hw];exact tU)]
  exact hf c ρ S _ w Q ⟨by rw [iS];exact s.size,by rw [fT];exact s.defers,nA s.size hd s.env (kY _),s.hs,s.cm⟩ hQ
theorem xM {op : Op} {u : AV} (hs : bJ P ⟨some dd,op,ty,pos,af,none⟩ env h 0 (fun _ => u) (fun _ => [])) (hd : Nat.blt dd n.1 = true) (hk : VC P n ops rest ((dd,u) :: env) h K) : VC P n ops (⟨some dd,op,ty,pos,af,none⟩ :: rest) env h K :=
  zH9 hs rfl hd (by simpa [fR] using hk)
theorem vm {x : Operand} {u : AV} (hx : evu env x = some u) (hd : Nat.blt dd n.1 = true) (hk : VC P n ops rest ((dd,u) :: env) h K) : VC P n ops (⟨some dd,.move x,ty,pos,af,none⟩ :: rest) env h K := xM (fD hx) hd hk
theorem va {x : Operand} {u : AV} (hx : evu env x = some u) (hd : Nat.blt dd n.1 = true) (hk : VC P n ops rest ((dd,u) :: env) h K) : VC P n ops (⟨some dd,.assign x,ty,pos,af,none⟩ :: rest) env h K := xM (jJ hx) hd hk
theorem vF (T : oA P) {t f k : Nat} {x : Operand} {u z : AV} (hx : evu env x = some u) (hf : T.field t f = some k) (hz : u.plus k = some z) (hd : Nat.blt dd n.1 = true) (hk : VC P n ops rest ((dd,z) :: env) h K) : VC P n ops (⟨some dd,.fieldAddr t x f,ty,pos,af,none⟩ :: rest) env h K := xM (eA T hx hf hz) hd hk
theorem vL (T : oA P) {t : Nat} {i : TI} {x : Operand} {u z : AV} {cs : List AV} {off : Nat} (hx : evu env x = some u) (ht : T.ti t = some i) (hb : iQ h u = some (cs,off)) (hz : oI i cs off = some z) (hd : Nat.blt dd n.1 = true) (hk : VC P n ops rest ((dd,z) :: env) h K) : VC P n ops (⟨some dd,.load t x,ty,pos,af,none⟩ :: rest) env h K := xM (aX T hx ht hb hz) hd hk
theorem vN {x : Operand} {u z : AV} (hx : evu env x = some u) (hz : u.plus 0 = some z) (hd : Nat.blt dd n.1 = true) (hk : VC P n ops rest ((dd,u) :: env) h K) : VC P n ops (⟨some dd,.nilCheck x,ty,pos,af,none⟩ :: rest) env h K := xM (cO hx hz) hd hk
theorem vX {x : Operand} {vs : List AV} {j : Nat} {z : AV} (hx : evu env x = some (.tup vs)) (hz : vs[j]? = some z) (hd : Nat.blt dd n.1 = true) (hk : VC P n ops rest ((dd,z) :: env) h K) : VC P n ops (⟨some dd,.extract x j,ty,pos,af,none⟩ :: rest) env h K := xM (nN hx hz) hd hk
theorem rg {Q : Exit → dD → Hp → Prop} (id : Nat) {l : List Oper} (hv : VC P n l.toArray l env h (fun v h => Q .normal v h)) (hnd : mZ l = true := by rfl) : AW P n (.region id l.toArray false) env h Q := lZ hv hnd
theorem wS {Q : Exit → dD → Hp → Prop} {x y : Code} (hx : AW P n x env h (BV (fun v h => AW P n y v h Q) Q)) : AW P n (.seq x y) env h Q := zF8 hx
theorem wB {Q : Exit → dD → Hp → Prop} {id : Nat} {x : Code} (hx : AW P n x env h (EK id Q)) : AW P n (.block id x) env h Q := UT hx
theorem wK {Q : Exit → dD → Hp → Prop} (hk : Q .normal env h) : AW P n .skip env h Q := YR hk
theorem wR {Q : Exit → dD → Hp → Prop} (hk : Q .ret env h) : AW P n .ret env h Q := zF9 hk
theorem wE {Q : Exit → dD → Hp → Prop} {id : Nat} (hk : Q (.exit id) env h) : AW P n (.exit id) env h Q := YS hk
theorem wC {Q : Exit → dD → Hp → Prop} {x : Operand} {b : Bool} {p q : Code} (hx : ev env x = some (.b b)) (ht : b = true → AW P n p env h Q) (hf : b = false → AW P n q env h Q) : AW P n (.cond x p q) env h Q := EL hx ht hf
theorem zR2 {α : Type} (a : List α) : [] ++ a = a := rfl
theorem zR1 {α : Type} (x : α) (a b : List α) : (x :: a) ++ b = x :: (a ++ b) := rfl
theorem zR0 {α : Type} (x : α) (a : List α) : (x :: a).length = a.length + 1 := rfl
theorem zQ9 {α : Type} : ([] : List α).length = 0 := rfl
theorem zQ8 {α : Type} (x y : α) (a : List α) : (x :: a).set 0 y = y :: a := rfl
theorem zQ7 {α : Type} (x y : α) (a : List α) (k : Nat) : (x :: a).set (k + 1) y = x :: a.set k y := rfl
theorem zQ6 {α β : Type} (f : α → β) (x : α) (a : List α) : (x :: a).map f = f x :: a.map f := rfl
theorem zQ5 {α β : Type} (f : α → β) : ([] : List α).map f = [] := rfl
theorem zQ4 (k : Nat) : k + 0 = k := rfl
theorem zQ3 : (!true) = false := rfl
theorem zQ2 : (!false) = true := rfl
theorem nm : (∀ (p : Prop) [Decidable p],(decide p = true) = p) ∧ (∀ (p : Prop) [Decidable p],(decide p = false) = ¬ p) ∧ ((!true) = false) ∧ ((!false) = true) ∧ (∀ b : Bool,((!b) = true) = (b = false)) ∧ (∀ b : Bool,((!b) = false) = (b = true)) ∧ (∀ a b : Bool,((a && b) = true) = (a = true ∧ b = true)) ∧ (∀ a b : Bool,((a || b) = true) = (a = true ∨ b = true)) ∧ (∀ a b : Bool,((a && b) = false) = (a = false ∨ b = false)) ∧ (∀ a b : Bool,((a || b) = false) = (a = false ∧ b = false)) ∧ (∀ a b : Int,(¬ a < b) = (b ≤ a)) ∧ (∀ a b : Int,(¬ a ≤ b) = (b < a)) :=
  ⟨fun p _ => by simp,fun p _ => by simp,rfl,rfl,fun b => by simp,fun b => by simp,fun a b => by simp,fun a b => by simp,fun a b => by cases a <;> cases b <;> simp,fun a b => by cases a <;> cases b <;> simp,fun a b => by simp,fun a b => by simp⟩
theorem dQ {op : Op} {u : Nat → AV} {b : Nat → List AB} {m : Nat} (hs : bJ P ⟨some dd,op,ty,pos,af,none⟩ env h m u b) (hd : Nat.blt dd n.1 = true) (hk : VC P n ops rest ((dd,u h.length) :: env) (h ++ b h.length) K) : VC P n ops (⟨some dd,op,ty,pos,af,none⟩ :: rest) env h K :=
  zH9 hs rfl hd hk
theorem eD {d : Option Nat} {g : Option (Nat × Bool)} {t t2 : TypeId} {x y : Operand} {a b : Int} (hx : evu env x = some (.i a)) (hy : evu env y = some (.i b)) (h1 : -9223372036854775808 ≤ a + b) (h2 : a + b ≤ 9223372036854775807) :
    bJ P ⟨d,.binOp .add t x y t2,ty,pos,af,g⟩ env h 0 (fun _ => .i (a + b)) (fun _ => []) := by
  have := zD6 (P := P) (h := h) (d := d) (ty := ty) (pos := pos) (af := af) (g := g) (t := t) (t2 := t2) hx hy
  rwa [IntWalk.i64_in _ (by omega)] at this
theorem fX {d : Option Nat} {g : Option (Nat × Bool)} {t t2 : TypeId} {x y : Operand} {a b : Int} (hx : evu env x = some (.i a)) (hy : evu env y = some (.i b)) (h1 : -9223372036854775808 ≤ a - b) (h2 : a - b ≤ 9223372036854775807) :
    bJ P ⟨d,.binOp .sub t x y t2,ty,pos,af,g⟩ env h 0 (fun _ => .i (a - b)) (fun _ => []) := by
  have := KX (P := P) (h := h) (d := d) (ty := ty) (pos := pos) (af := af) (g := g) (t := t) (t2 := t2) hx hy
  rwa [IntWalk.i64_in _ (by omega)] at this
theorem kM {d : Option Nat} {g : Option (Nat × Bool)} {c x y : Operand} {u : AV} (hc : evu env c = some (.b true)) (hx : evu env x = some u) : bJ P ⟨d,.pick c x y,ty,pos,af,g⟩ env h 0 (fun _ => u) (fun _ => []) := by
  refine fL fun ρ S a w p => ⟨a.eval x,by simp [execOp,pZ (p.evu hc),asBool],p.evu hx⟩
theorem fS {d : Option Nat} {g : Option (Nat × Bool)} {c x y : Operand} {v : AV} (hc : evu env c = some (.b false)) (hy : evu env y = some v) : bJ P ⟨d,.pick c x y,ty,pos,af,g⟩ env h 0 (fun _ => v) (fun _ => []) := by
  refine fL fun ρ S a w p => ⟨a.eval y,by simp [execOp,pZ (p.evu hc),asBool],p.evu hy⟩
theorem tE {x : Operand} {p q : Code} {Q : Exit → dD → Hp → Prop} (hx : ev env x = some (.b true)) (ht : AW P n p env h Q) : AW P n (.cond x p q) env h Q :=
  EL hx (fun _ => ht) (fun e => by cases e)
theorem kN {x : Operand} {p q : Code} {Q : Exit → dD → Hp → Prop} (hx : ev env x = some (.b false)) (hf : AW P n q env h Q) : AW P n (.cond x p q) env h Q :=
  EL hx (fun e => by cases e) (fun _ => hf)
end
theorem eP {P : Program} {T : oA P} {rs : List ResultVar} {res : AV} {e : Exit} {v : dD} {h : Hp} {xs : List AV} (he : e = .ret ∨ e = .normal) (h1 : tY T v h rs = some xs) (h2 : vH xs = res.map (th [] h.length)) : zA7 T rs 0 res [] e v h :=
  ⟨he,[],xs,h1,h2,rfl,trivial,aI,fun _ h => by omega⟩
theorem rQ {P : Program} {T : oA P} {rs : List ResultVar} {res : AV} {e : Exit} {v : dD} {h : Hp} {xs : List AV} (he : e = .ret ∨ e = .normal := by exact .inl rfl) (h1 : tY T v h rs = some xs := by exact rfl) (h2 : vH xs = res.map (th [] h.length) := by exact rfl) : zA7 T rs 0 res [] e v h := eP he h1 h2
end Go.Ab
