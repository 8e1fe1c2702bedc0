/-
  Texts of the logic and of the layer,in one module (part 4).
-/
import Derived.Test.YtdfmhddmddgniaaGreatDoorM3
import Derived.Test.YtdfmhddmddgniaaGreatDoorRows
import Derived.KernelRfl
import Derived.Shelf.Lay
import Derived.Shelf.Strings.Builder1
import Derived.Shelf.Strconv.Itoa4
import Derived.Ground.NamesProg
set_option linter.unusedVariables false
set_option linter.unusedSimpArgs false
set_option linter.unnecessarySimpa false
namespace Go.Ab
open Go
theorem bW {H : Hp} {k off : Nat} {cs : List AV} (hk : H[k]? = some (.cells cs)) : iQ H (.ptr k off) = some (cs,off) := by simp only [iQ,hk]
theorem eJ {H : Hp} {k i off sz : Nat} {es : List (List AV)} {c : List AV} (hk : H[k]? = some (.arr es sz)) (hi : es[i]? = some c) : iQ H (.ep k i off sz) = some (c,off) := by simp only [iQ,hk,hi,eQ]
theorem oC {H H' : Hp} {k off : Nat} {cs xs : List AV} (hk : H[k]? = some (.cells cs)) (hl : Nat.ble (off + xs.length) cs.length = true) (hh : H.set k (.cells (iZ cs off xs)) = H') : upd H (.ptr k off) xs = some H' := by
  subst hh;simp only [upd,hk,hl]
theorem lT {H H' : Hp} {k i off sz : Nat} {es : List (List AV)} {c xs : List AV} (hk : H[k]? = some (.arr es sz)) (hi : es[i]? = some c) (hl : Nat.ble (off + xs.length) sz = true) (hh : H.set k (.arr (es.set i (iZ c off xs)) sz) = H') : upd H (.ep k i off sz) xs = some H' := by
  subst hh;simp only [upd,hk,hi,hl,eQ]
end Go.Ab
namespace Go.Or
open Go Go.Ab
abbrev bV (l : List Wt) : List (List AV) := l.map fun w => [AV.i w.1,AV.i w.2.1,AV.i w.2.2]
abbrev eZ (l : List Tk) : List (List AV) := l.map fun t => [AV.i t.1,AV.i t.2]
abbrev iX (l : List Lo) : List (List AV) := l.map fun b => [AV.i b.1,AV.i b.2.1,AV.b b.2.2]
abbrev eY (l : List Bo) : List (List AV) := l.map fun b => [AV.i b.1,AV.i b.2.1,AV.i b.2.2]
abbrev fQ (l : List Int) : List (List AV) := l.map fun n => [AV.i n]
abbrev xK (tk : List (List Tk)) : List (List AV) := tk.map fun l => [AV.rowE (eZ l) 2]
abbrev mA (tk : List (List Tk)) : AV := .rowE (xK tk) 1
abbrev iT (o : Od) (x : AV) : List AV := [.rowE (bV o.ws) 3,.i o.due,.i o.st,x]
abbrev zU (o : Od) : List AV := iT o (mA o.tk)
abbrev uW (bk : Bk) : List (List AV) := bk.map zU
abbrev xX (bk : Bk) : AV := .pr [.rowE (uW bk) 4] 0
abbrev nH (N : List (Nat × List Tk)) : List (List AV) := N.map fun e => [AV.sl e.1 0 e.2.length 2]
def uL (H : Hp) (N : List (Nat × List Tk)) : Prop := ∀ e,e ∈ N → H[e.1]? = some (.arr (eZ e.2) 2)
def mU (H : Hp) (x : AV) (tk : List (List Tk)) (A : List Nat) : Prop :=
  (x = .nils ∧ tk = [] ∧ A = []) ∨ ∃ p N,x = .sl p 0 N.length 1 ∧ H[p]? = some (.arr (nH N) 1) ∧ uL H N ∧ tk = N.map (·.2) ∧ A = p :: N.map (·.1) ∧ A.Nodup
theorem uL.frame {H H' : Hp} {N : List (Nat × List Tk)} (h : uL H N) (hf : ∀ e,e ∈ N → H'[e.1]? = H[e.1]?) : uL H' N := fun e he => by
  rw [hf e he];exact h e he
theorem mU.frame {H H' : Hp} {x : AV} {tk : List (List Tk)} {A : List Nat} (h : mU H x tk A) (hf : ∀ k,k ∈ A → H'[k]? = H[k]?) : mU H' x tk A := by
  rcases h with h | ⟨p,N,h1,h2,h3,h4,h5,h6⟩
  · exact .inl h
  · subst h5;exact .inr ⟨p,N,h1,by rw [hf p aL];exact h2,h3.frame fun e he => hf _ (aF _ (aK.2 ⟨e,he,rfl⟩)),h4,rfl,h6⟩
theorem mU.lt {H : Hp} {x : AV} {tk : List (List Tk)} {A : List Nat} (h : mU H x tk A) : ∀ k,k ∈ A → k < H.length := by
  rcases h with ⟨_,_,h⟩ | ⟨p,N,h1,h2,h3,h4,h5,h6⟩
  · subst h;intro k hk;cases hk
  · subst h5;intro k hk;rcases aT.1 hk with rfl | hk
    · exact (aA.1 h2).1
    · obtain ⟨e,he,rfl⟩ := aK.1 hk;have h7 := h3 e he;exact (aA.1 h7).1
theorem AJ (H : Hp) : ∀ l : List Tk, iH H (eZ l).flatten (eZ l).flatten
  | [] => .nil
  | t :: l => .cons (.v _) (.cons (.v _) (AJ H l))
theorem M0 (H : Hp) : ∀ l : List Wt, iH H (bV l).flatten (bV l).flatten
  | [] => .nil
  | t :: l => .cons (.v _) (.cons (.v _) (.cons (.v _) (M0 H l)))
theorem zY (l : List Tk) : (eZ l).length = l.length := bF _
theorem JF {H : Hp} {e : Nat × List Tk} (h1 : H[e.1]? = some (.arr (eZ e.2) 2)) : View H (.sl e.1 0 e.2.length 2) (.rowE (eZ e.2) 2) := by
  have hv : View H (.sl e.1 0 e.2.length 2) (.row (eZ e.2).flatten e.2.length 2) := View.sl h1 (by rw [zY];omega) (by rw [cP,aQ (by rw [zY];omega)];exact AJ H e.2)
  have e2 : e.2.length = (eZ e.2).length := (zY _).symm;rw [show AV.rowE (eZ e.2) 2 = .row (eZ e.2).flatten e.2.length 2 by rw [e2]]
  exact hv
theorem Q5 {H : Hp} : ∀ {N : List (Nat × List Tk)}, uL H N → iH H (nH N).flatten (xK (N.map (·.2))).flatten
  | [],_ => .nil
  | e :: N,h => by
    have h1 := h e aL;exact .cons (JF h1) (Q5 fun e he => h e (aF _ he))
theorem mU.view {H : Hp} {x : AV} {tk : List (List Tk)} {A : List Nat} (h : mU H x tk A) : View H x (mA tk) := by
  rcases h with ⟨rfl,rfl,_⟩ | ⟨p,N,rfl,h2,h3,rfl,_⟩
  · exact View.nils 1
  · have hn : (xK (N.map (·.2))).length = N.length := by simp
    rw [show mA (N.map (·.2)) = .row (xK (N.map (·.2))).flatten N.length 1 by rw [← hn]]
    refine View.sl h2 (by simp) ?_
    rw [cP,aQ (by simp)]
    exact Q5 h3
abbrev OL := List (Od × AV × List Nat)
structure lR (H : Hp) (pb po : Nat) (L : OL) : Prop where
  b : H[pb]? = some (.cells [.sl po 0 L.length 4])
  o : H[po]? = some (.arr (L.map fun e => iT e.1 e.2.1) 4)
  n : ∀ e,e ∈ L → mU H e.2.1 e.1.tk e.2.2
  nd : (pb :: po :: L.flatMap (·.2.2)).Nodup
abbrev B1 (pb po : Nat) (L : OL) : List Nat := pb :: po :: L.flatMap (·.2.2)
def zR (H : Hp) (pb : Nat) (bk : Bk) (A : List Nat) : Prop := ∃ po L,lR H pb po L ∧ bk = L.map (·.1) ∧ A = B1 pb po L
theorem L9 {H : Hp} : ∀ {L : OL}, (∀ e, e ∈ L → mU H e.2.1 e.1.tk e.2.2) → iH H (L.map fun e => iT e.1 e.2.1).flatten (uW (L.map (·.1))).flatten
  | [],_ => .nil
  | e :: L,h => by
    have ih := L9 (L := L) fun e he => h e (aF _ he);exact .cons (.row _ _ _) (.cons (.v _) (.cons (.v _) (.cons (h e aL).view ih)))
theorem lR.view {H : Hp} {pb po : Nat} {L : OL} (h : lR H pb po L) : View H (.ptr pb 0) (xX (L.map (·.1))) := by
  refine View.ptr h.b (.cons ?_ .nil);have hn : (uW (L.map (·.1))).length = L.length := by simp
  rw [show AV.rowE (uW (L.map (·.1))) 4 = .row (uW (L.map (·.1))).flatten L.length 4 by rw [← hn]]
  refine View.sl h.o (by simp) ?_
  rw [cP,aQ (by simp)]
  exact L9 h.n
theorem zR.view {H : Hp} {pb : Nat} {bk : Bk} {A : List Nat} (h : zR H pb bk A) : View H (.ptr pb 0) (xX bk) := by
  obtain ⟨po,L,h1,rfl,_⟩ := h;exact h1.view
theorem lR.frame {H H' : Hp} {pb po : Nat} {L : OL} (h : lR H pb po L) (hf : ∀ k,k ∈ B1 pb po L → H'[k]? = H[k]?) : lR H' pb po L :=
  ⟨by rw [hf pb (by simp)];exact h.b,by rw [hf po (by simp)];exact h.o,fun e he => (h.n e he).frame fun k hk => hf k (aF _ (aF _ (eS.2 ⟨e,he,hk⟩))),h.nd⟩
theorem zR.frame {H H' : Hp} {pb : Nat} {bk : Bk} {A : List Nat} (h : zR H pb bk A) (hf : ∀ k,k ∈ A → H'[k]? = H[k]?) : zR H' pb bk A := by
  obtain ⟨po,L,h1,h2,rfl⟩ := h;exact ⟨po,L,h1.frame hf,h2,rfl⟩
theorem lR.lt {H : Hp} {pb po : Nat} {L : OL} (h : lR H pb po L) : ∀ k,k ∈ B1 pb po L → k < H.length := fun k hk => by
  rcases aT.1 hk with rfl | hk
  · exact (aA.1 h.b).1
  rcases aT.1 hk with rfl | hk
  · exact (aA.1 h.o).1
  obtain ⟨e,he,hk⟩ := eS.1 hk;exact (h.n e he).lt k hk
theorem zR.lt {H : Hp} {pb : Nat} {bk : Bk} {A : List Nat} (h : zR H pb bk A) : ∀ k,k ∈ A → k < H.length := by
  obtain ⟨po,L,h1,_,rfl⟩ := h;exact h1.lt
structure Fr (H : Hp) (A : List Nat) (H' : Hp) (A' : List Nat) : Prop where
  le : H.length ≤ H'.length
  same : ∀ k,k < H.length → k ∉ A → H'[k]? = H[k]?
  sub : ∀ k,k ∈ A' → k ∈ A ∨ H.length ≤ k
theorem Fr.refl (H : Hp) (A : List Nat) : Fr H A H A := ⟨aU _,fun _ _ _ => rfl,fun _ h => .inl h⟩
theorem Fr.trans {H H1 H2 : Hp} {A A1 A2 : List Nat} (h : Fr H A H1 A1) (g : Fr H1 A1 H2 A2) : Fr H A H2 A2 :=
  ⟨cQ h.le g.le,fun k hk hA => by
    rw [g.same k (cC hk h.le) (fun h1 => by rcases h.sub k h1 with h1 | h1;exact hA h1;omega)]
    exact h.same k hk hA,fun k hk => by
    rcases g.sub k hk with h1 | h1
    · exact h.sub k h1
    · exact .inr (cQ h.le h1)⟩
theorem Fr.other {H H' : Hp} {A A' B : List Nat} (h : Fr H A H' A') (hd : ∀ k,k ∈ B → k ∉ A) (hl : ∀ k,k ∈ B → k < H.length) : (∀ k,k ∈ B → H'[k]? = H[k]?) ∧ ∀ k,k ∈ B → k ∉ A' :=
  ⟨fun k hk => h.same k (hl k hk) (hd k hk),fun k hk h1 => by
    rcases h.sub k h1 with h1 | h1
    · exact hd k hk h1
    · have := hl k hk;omega⟩
end Go.Or
namespace Go.Proofs.YtdfmhddmddgniaaGreatDoor
open Go Go.Ab
def zO8 : List (Nat × TI) := [(1,⟨false,1,8,[.nilFunc]⟩),
  (2,⟨false,1,8,[.int .i64 0]⟩),
  (3,⟨false,1,8,[.int .i64 0]⟩),
  (4,⟨false,1,1,[.bool false]⟩),
  (5,⟨false,1,1,[.int .u8 0]⟩),
  (6,⟨false,1,1,[.int .u8 0]⟩),
  (7,⟨true,4,24,[.int .i64 0,.int .i64 0,.bool false,.int .u8 0]⟩),
  (8,⟨true,4,24,[.int .i64 0,.int .i64 0,.bool false,.int .u8 0]⟩),
  (9,⟨false,1,16,[.string ⟨#[]⟩]⟩),
  (10,⟨false,1,16,[.string ⟨#[]⟩]⟩),
  (11,⟨false,1,16,[.string ⟨#[]⟩]⟩),
  (12,⟨false,1,8,[.int .u64 0]⟩),
  (13,⟨true,2,24,[.string ⟨#[]⟩,.int .u64 0]⟩),
  (14,⟨true,2,24,[.string ⟨#[]⟩,.int .u64 0]⟩),
  (15,⟨false,1,8,[.pointer none]⟩),
  (16,⟨false,1,8,[.pointer none]⟩),
  (17,⟨false,1,8,[.pointer none]⟩),
  (18,⟨true,1,8,[.pointer none]⟩),
  (19,⟨true,1,8,[.pointer none]⟩),
  (21,⟨false,1,4,[.int .i32 0]⟩),
  (22,⟨false,1,24,[.slice none 0 0]⟩),
  (23,⟨false,1,24,[.slice none 0 0]⟩),
  (24,⟨false,1,24,[.slice none 0 0]⟩),
  (25,⟨false,1,8,[.nilFunc]⟩),
  (26,⟨false,1,8,[.nilFunc]⟩),
  (27,⟨false,1,8,[.nilFunc]⟩),
  (28,⟨false,1,8,[.pointer none]⟩),
  (29,⟨false,1,8,[.nilFunc]⟩),
  (30,⟨false,1,8,[.pointer none]⟩),
  (31,⟨false,1,8,[.nilFunc]⟩),
  (32,⟨false,1,8,[.int .i64 0]⟩),
  (34,⟨false,1,8,[.nilFunc]⟩),
  (35,⟨false,1,24,[.slice none 0 0]⟩),
  (36,⟨true,6,64,[.int .i64 0,.int .i64 0,.int .i64 0,.int .i64 0,.int .i64 0,.slice none 0 0]⟩),
  (37,⟨true,6,64,[.int .i64 0,.int .i64 0,.int .i64 0,.int .i64 0,.int .i64 0,.slice none 0 0]⟩),
  (39,⟨false,1,8,[.nilFunc]⟩),
  (40,⟨true,3,40,[.slice none 0 0,.int .i64 0,.int .i64 0]⟩),
  (41,⟨true,3,40,[.slice none 0 0,.int .i64 0,.int .i64 0]⟩),
  (43,⟨false,1,8,[.nilFunc]⟩),
  (44,⟨false,1,24,[.slice none 0 0]⟩),
  (45,⟨true,1,24,[.slice none 0 0]⟩),
  (46,⟨true,1,24,[.slice none 0 0]⟩),
  (47,⟨false,1,8,[.nilFunc]⟩),
  (48,⟨false,1,8,[.nilFunc]⟩),
  (49,⟨false,1,8,[.nilFunc]⟩),
  (50,⟨false,1,8,[.nilFunc]⟩),
  (51,⟨false,1,24,[.slice none 0 0]⟩),
  (52,⟨true,4,64,[.slice none 0 0,.int .i64 0,.int .i64 0,.slice none 0 0]⟩),
  (53,⟨true,4,64,[.slice none 0 0,.int .i64 0,.int .i64 0,.slice none 0 0]⟩),
  (54,⟨false,1,8,[.nilFunc]⟩),
  (55,⟨false,1,8,[.nilFunc]⟩),
  (56,⟨false,1,8,[.nilFunc]⟩),
  (57,⟨false,1,8,[.nilFunc]⟩),
  (58,⟨false,1,8,[.nilFunc]⟩),
  (59,⟨false,1,24,[.slice none 0 0]⟩),
  (60,⟨false,1,8,[.nilFunc]⟩),
  (61,⟨false,1,8,[.nilFunc]⟩),
  (63,⟨false,1,8,[.nilFunc]⟩),
  (65,⟨false,1,8,[.nilFunc]⟩),
  (66,⟨false,1,8,[.nilFunc]⟩),
  (67,⟨false,1,24,[.slice none 0 0]⟩),
  (68,⟨true,4,96,[.slice none 0 0,.slice none 0 0,.slice none 0 0,.slice none 0 0]⟩),
  (69,⟨true,4,96,[.slice none 0 0,.slice none 0 0,.slice none 0 0,.slice none 0 0]⟩),
  (70,⟨true,4,32,[.int .i64 0,.int .i64 0,.int .i64 0,.int .i64 0]⟩),
  (71,⟨true,4,32,[.int .i64 0,.int .i64 0,.int .i64 0,.int .i64 0]⟩),
  (72,⟨false,1,24,[.slice none 0 0]⟩),
  (73,⟨false,1,8,[.nilFunc]⟩),
  (74,⟨false,1,8,[.pointer none]⟩),
  (76,⟨false,1,8,[.nilFunc]⟩),
  (77,⟨false,1,8,[.nilFunc]⟩),
  (78,⟨true,3,24,[.int .i64 0,.int .i64 0,.int .i64 0]⟩),
  (79,⟨true,3,24,[.int .i64 0,.int .i64 0,.int .i64 0]⟩),
  (80,⟨false,1,24,[.slice none 0 0]⟩),
  (81,⟨true,2,24,[.string ⟨#[]⟩,.int .i64 0]⟩),
  (82,⟨true,2,24,[.string ⟨#[]⟩,.int .i64 0]⟩),
  (83,⟨false,1,8,[.nilFunc]⟩),
  (84,⟨false,1,24,[.slice none 0 0]⟩),
  (85,⟨true,2,16,[.int .i64 0,.int .i64 0]⟩),
  (86,⟨true,2,16,[.int .i64 0,.int .i64 0]⟩),
  (87,⟨false,1,8,[.nilFunc]⟩),
  (88,⟨true,3,24,[.int .i64 0,.int .i64 0,.int .i64 0]⟩),
  (89,⟨true,3,24,[.int .i64 0,.int .i64 0,.int .i64 0]⟩),
  (90,⟨false,1,8,[.nilFunc]⟩),
  (91,⟨true,3,24,[.int .i64 0,.int .i64 0,.bool false]⟩),
  (92,⟨true,3,24,[.int .i64 0,.int .i64 0,.bool false]⟩),
  (93,⟨false,1,8,[.nilFunc]⟩),
  (94,⟨false,1,8,[.nilFunc]⟩),
  (95,⟨false,1,8,[.nilFunc]⟩),
  (96,⟨false,1,8,[.nilFunc]⟩),
  (97,⟨false,1,8,[.nilFunc]⟩),
  (98,⟨false,1,24,[.slice none 0 0]⟩),
  (99,⟨true,1,24,[.slice none 0 0]⟩),
  (100,⟨true,1,24,[.slice none 0 0]⟩),
  (101,⟨false,1,8,[.nilFunc]⟩),
  (102,⟨true,4,64,[.slice none 0 0,.int .i64 0,.int .i64 0,.slice none 0 0]⟩),
  (103,⟨true,4,64,[.slice none 0 0,.int .i64 0,.int .i64 0,.slice none 0 0]⟩),
  (104,⟨false,1,8,[.nilFunc]⟩),
  (105,⟨false,1,8,[.nilFunc]⟩),
  (106,⟨false,1,8,[.pointer none]⟩),
  (107,⟨true,2,32,[.pointer none,.slice none 0 0]⟩),
  (108,⟨true,2,32,[.pointer none,.slice none 0 0]⟩),
  (112,⟨false,1,8,[.nilFunc]⟩),
  (113,⟨false,1,8,[.nilFunc]⟩),
  (114,⟨false,1,8,[.nilFunc]⟩),
  (115,⟨false,1,8,[.nilFunc]⟩),
  (116,⟨false,1,8,[.map none]⟩),
  (117,⟨false,1,8,[.nilFunc]⟩),
  (118,⟨false,1,8,[.nilFunc]⟩),
  (119,⟨false,1,8,[.nilFunc]⟩),
  (120,⟨false,1,8,[.nilFunc]⟩),
  (121,⟨false,1,8,[.nilFunc]⟩),
  (122,⟨false,1,8,[.nilFunc]⟩),
  (123,⟨false,1,8,[.pointer none]⟩),
  (124,⟨false,1,8,[.nilFunc]⟩),
  (127,⟨false,1,8,[.pointer none]⟩),
  (128,⟨false,1,8,[.nilFunc]⟩),
  (129,⟨false,1,8,[.nilFunc]⟩),
  (131,⟨false,1,8,[.nilFunc]⟩),
  (132,⟨true,5,56,[.int .i64 0,.int .i64 0,.int .i64 0,.int .i64 0,.slice none 0 0]⟩),
  (133,⟨true,5,56,[.int .i64 0,.int .i64 0,.int .i64 0,.int .i64 0,.slice none 0 0]⟩),
  (135,⟨false,1,8,[.nilFunc]⟩),
  (136,⟨false,1,8,[.nilFunc]⟩),
  (140,⟨false,1,8,[.nilFunc]⟩),
  (142,⟨false,1,8,[.nilFunc]⟩),
  (143,⟨false,1,8,[.nilFunc]⟩),
  (144,⟨false,1,8,[.nilFunc]⟩),
  (145,⟨false,1,8,[.nilFunc]⟩),
  (146,⟨false,1,8,[.nilFunc]⟩),
  (147,⟨false,1,8,[.pointer none]⟩),
  (149,⟨false,1,8,[.nilFunc]⟩),
  (151,⟨false,1,8,[.nilFunc]⟩),
  (152,⟨false,1,8,[.pointer none]⟩),
  (153,⟨false,1,8,[.nilFunc]⟩),
  (156,⟨false,1,8,[.nilFunc]⟩),
  (157,⟨false,1,8,[.nilFunc]⟩),
  (158,⟨false,1,8,[.nilFunc]⟩),
  (159,⟨false,1,8,[.pointer none]⟩),
  (160,⟨false,1,8,[.nilFunc]⟩),
  (161,⟨false,1,8,[.nilFunc]⟩),
  (162,⟨true,2,24,[.string ⟨#[]⟩,.bool false]⟩),
  (163,⟨true,2,24,[.string ⟨#[]⟩,.bool false]⟩),
  (165,⟨true,2,24,[.string ⟨#[]⟩,.bool false]⟩),
  (166,⟨true,2,24,[.string ⟨#[]⟩,.bool false]⟩),
  (167,⟨false,1,8,[.nilFunc]⟩),
  (168,⟨false,1,8,[.nilFunc]⟩),
  (170,⟨false,1,8,[.nilFunc]⟩),
  (171,⟨false,1,8,[.nilFunc]⟩),
  (173,⟨false,1,24,[.slice none 0 0]⟩),
  (174,⟨true,8,128,[.int .i64 0,.int .i64 0,.int .i64 0,.int .i64 0,.slice none 0 0,.slice none 0 0,.slice none 0 0,.slice none 0 0]⟩),
  (175,⟨true,8,128,[.int .i64 0,.int .i64 0,.int .i64 0,.int .i64 0,.slice none 0 0,.slice none 0 0,.slice none 0 0,.slice none 0 0]⟩),
  (176,⟨true,2,16,[.int .i64 0,.int .i64 0]⟩),
  (177,⟨true,2,16,[.int .i64 0,.int .i64 0]⟩),
  (178,⟨false,1,24,[.slice none 0 0]⟩),
  (179,⟨true,3,56,[.slice none 0 0,.int .i64 0,.slice none 0 0]⟩),
  (180,⟨true,3,56,[.slice none 0 0,.int .i64 0,.slice none 0 0]⟩),
  (181,⟨false,1,24,[.slice none 0 0]⟩),
  (182,⟨true,2,48,[.slice none 0 0,.slice none 0 0]⟩),
  (183,⟨true,2,48,[.slice none 0 0,.slice none 0 0]⟩),
  (184,⟨false,1,8,[.nilFunc]⟩),
  (194,⟨false,1,8,[.nilFunc]⟩),
  (195,⟨false,1,8,[.nilFunc]⟩),
  (201,⟨false,1,8,[.nilFunc]⟩),
  (202,⟨false,1,8,[.nilFunc]⟩),
  (203,⟨false,1,8,[.map none]⟩),
  (206,⟨false,1,8,[.nilFunc]⟩),
  (209,⟨false,1,8,[.nilFunc]⟩),
  (212,⟨false,1,8,[.nilFunc]⟩),
  (213,⟨false,1,8,[.nilFunc]⟩),
  (214,⟨false,1,8,[.nilFunc]⟩),
  (216,⟨false,1,8,[.nilFunc]⟩),
  (217,⟨false,1,8,[.nilFunc]⟩),
  (218,⟨false,1,8,[.nilFunc]⟩),
  (219,⟨false,1,8,[.nilFunc]⟩),
  (221,⟨false,1,8,[.nilFunc]⟩),
  (223,⟨false,1,8,[.nilFunc]⟩),
  (224,⟨false,1,8,[.nilFunc]⟩),
  (226,⟨false,1,8,[.nilFunc]⟩),
  (227,⟨false,1,8,[.nilFunc]⟩),
  (228,⟨false,1,8,[.nilFunc]⟩),
  (231,⟨false,1,8,[.nilFunc]⟩),
  (232,⟨false,1,8,[.nilFunc]⟩),
  (233,⟨false,1,8,[.nilFunc]⟩),
  (236,⟨false,1,8,[.nilFunc]⟩),
  (237,⟨false,1,8,[.nilFunc]⟩),
  (238,⟨false,1,8,[.nilFunc]⟩),
  (241,⟨false,1,8,[.nilFunc]⟩),
  (244,⟨false,1,8,[.nilFunc]⟩),
  (245,⟨false,1,8,[.nilFunc]⟩),
  (246,⟨false,1,8,[.nilFunc]⟩),
  (247,⟨false,1,8,[.nilFunc]⟩),
  (248,⟨false,1,8,[.int .u64 0]⟩),
  (249,⟨false,1,8,[.nilFunc]⟩),
  (250,⟨false,1,8,[.nilFunc]⟩),
  (251,⟨false,1,8,[.nilFunc]⟩),
  (252,⟨false,1,8,[.nilFunc]⟩),
  (253,⟨false,1,8,[.nilFunc]⟩),
  (257,⟨false,1,8,[.nilFunc]⟩),
  (258,⟨false,1,24,[.slice none 0 0]⟩),
  (267,⟨false,1,8,[.nilFunc]⟩),
  (275,⟨false,1,8,[.int .i64 0]⟩),
  (283,⟨false,1,4,[.int .u32 0]⟩),
  (285,⟨false,1,8,[.int .u64 0]⟩),
  (335,⟨true,4,40,[.pointer none,.pointer none,.pointer none,.string ⟨#[]⟩]⟩),
  (336,⟨true,4,40,[.pointer none,.pointer none,.pointer none,.string ⟨#[]⟩]⟩),
  (340,⟨false,1,1,[.int .u8 0]⟩),
  (341,⟨false,1,1,[.int .u8 0]⟩),
  (342,⟨false,1,8,[.nilFunc]⟩),
  (343,⟨false,1,4,[.int .i32 0]⟩),
  (344,⟨false,1,4,[.int .i32 0]⟩),
  (345,⟨true,11,48,[.int .u64 0,.int .u64 0,.int .u32 0,.int .u8 0,.int .u8 0,.int .u8 0,.int .u8 0,.nilFunc,.pointer none,.int .i32 0,.int .i32 0]⟩),
  (346,⟨true,11,48,[.int .u64 0,.int .u64 0,.int .u32 0,.int .u8 0,.int .u8 0,.int .u8 0,.int .u8 0,.nilFunc,.pointer none,.int .i32 0,.int .i32 0]⟩)]
set_option maxRecDepth 8000 in
theorem zA1 : JB (fun t i => ∃ inf z,Tryz.prog.info? t = some inf ∧ inf.size = i.size ∧ inf.bytes = i.bytes ∧ inf.zero = some z ∧ z.cells.toList = i.zero ∧ i.zero.length = i.size ∧ EO Tryz.prog t = some i.agg) zO8 :=
  ⟨tq (.nilFunc),tq (.int .i64 0),tq (.int .i64 0),tq (.bool false),tq (.int .u8 0),tq (.int .u8 0),tq (.agg #[.int .i64 0,.int .i64 0,.bool false,.int .u8 0]),tq (.agg #[.int .i64 0,.int .i64 0,.bool false,.int .u8 0]),tq (.string ⟨#[]⟩),tq (.string ⟨#[]⟩),tq (.string ⟨#[]⟩),tq (.int .u64 0),tq (.agg #[.string ⟨#[]⟩,.int .u64 0]),tq (.agg #[.string ⟨#[]⟩,.int .u64 0]),tq (.pointer none),tq (.pointer none),tq (.pointer none),tq (.agg #[.pointer none]),tq (.agg #[.pointer none]),tq (.int .i32 0),tq (.slice none 0 0),tq (.slice none 0 0),tq (.slice none 0 0),tq (.nilFunc),tq (.nilFunc),tq (.nilFunc),tq (.pointer none),tq (.nilFunc),tq (.pointer none),tq (.nilFunc),tq (.int .i64 0),tq (.nilFunc),tq (.slice none 0 0),tq (.agg #[.int .i64 0,.int .i64 0,.int .i64 0,.int .i64 0,.int .i64 0,.slice none 0 0]),tq (.agg #[.int .i64 0,.int .i64 0,.int .i64 0,.int .i64 0,.int .i64 0,.slice none 0 0]),tq (.nilFunc),tq (.agg #[.slice none 0 0,.int .i64 0,.int .i64 0]),tq (.agg #[.slice none 0 0,.int .i64 0,.int .i64 0]),tq (.nilFunc),tq (.slice none 0 0),tq (.agg #[.slice none 0 0]),tq (.agg #[.slice none 0 0]),tq (.nilFunc),tq (.nilFunc),tq (.nilFunc),tq (.nilFunc),tq (.slice none 0 0),tq (.agg #[.slice none 0 0,.int .i64 0,.int .i64 0,.slice none 0 0]),tq (.agg #[.slice none 0 0,.int .i64 0,.int .i64 0,.slice none 0 0]),tq (.nilFunc),tq (.nilFunc),tq (.nilFunc),tq (.nilFunc),tq (.nilFunc),tq (.slice none 0 0),tq (.nilFunc),tq (.nilFunc),tq (.nilFunc),tq (.nilFunc),tq (.nilFunc),tq (.slice none 0 0),tq (.agg #[.slice none 0 0,.slice none 0 0,.slice none 0 0,.slice none 0 0]),tq (.agg #[.slice none 0 0,.slice none 0 0,.slice none 0 0,.slice none 0 0]),tq (.agg #[.int .i64 0,.int .i64 0,.int .i64 0,.int .i64 0]),tq (.agg #[.int .i64 0,.int .i64 0,.int .i64 0,.int .i64 0]),tq (.slice none 0 0),tq (.nilFunc),tq (.pointer none),tq (.nilFunc),tq (.nilFunc),tq (.agg #[.int .i64 0,.int .i64 0,.int .i64 0]),tq (.agg #[.int .i64 0,.int .i64 0,.int .i64 0]),tq (.slice none 0 0),tq (.agg #[.string ⟨#[]⟩,.int .i64 0]),tq (.agg #[.string ⟨#[]⟩,.int .i64 0]),tq (.nilFunc),tq (.slice none 0 0),tq (.agg #[.int .i64 0,.int .i64 0]),tq (.agg #[.int .i64 0,.int .i64 0]),tq (.nilFunc),tq (.agg #[.int .i64 0,.int .i64 0,.int .i64 0]),tq (.agg #[.int .i64 0,.int .i64 0,.int .i64 0]),tq (.nilFunc),tq (.agg #[.int .i64 0,.int .i64 0,.bool false]),tq (.agg #[.int .i64 0,.int .i64 0,.bool false]),tq (.nilFunc),tq (.nilFunc),tq (.nilFunc),tq (.nilFunc),tq (.nilFunc),tq (.slice none 0 0),tq (.agg #[.slice none 0 0]),tq (.agg #[.slice none 0 0]),tq (.nilFunc),tq (.agg #[.slice none 0 0,.int .i64 0,.int .i64 0,.slice none 0 0]),tq (.agg #[.slice none 0 0,.int .i64 0,.int .i64 0,.slice none 0 0]),tq (.nilFunc),tq (.nilFunc),tq (.pointer none),tq (.agg #[.pointer none,.slice none 0 0]),tq (.agg #[.pointer none,.slice none 0 0]),tq (.nilFunc),tq (.nilFunc),tq (.nilFunc),tq (.nilFunc),tq (.map none),tq (.nilFunc),tq (.nilFunc),tq (.nilFunc),tq (.nilFunc),tq (.nilFunc),tq (.nilFunc),tq (.pointer none),tq (.nilFunc),tq (.pointer none),tq (.nilFunc),tq (.nilFunc),tq (.nilFunc),tq (.agg #[.int .i64 0,.int .i64 0,.int .i64 0,.int .i64 0,.slice none 0 0]),tq (.agg #[.int .i64 0,.int .i64 0,.int .i64 0,.int .i64 0,.slice none 0 0]),tq (.nilFunc),tq (.nilFunc),tq (.nilFunc),tq (.nilFunc),tq (.nilFunc),tq (.nilFunc),tq (.nilFunc),tq (.nilFunc),tq (.pointer none),tq (.nilFunc),tq (.nilFunc),tq (.pointer none),tq (.nilFunc),tq (.nilFunc),tq (.nilFunc),tq (.nilFunc),tq (.pointer none),tq (.nilFunc),tq (.nilFunc),tq (.agg #[.string ⟨#[]⟩,.bool false]),tq (.agg #[.string ⟨#[]⟩,.bool false]),tq (.agg #[.string ⟨#[]⟩,.bool false]),tq (.agg #[.string ⟨#[]⟩,.bool false]),tq (.nilFunc),tq (.nilFunc),tq (.nilFunc),tq (.nilFunc),tq (.slice none 0 0),tq (.agg #[.int .i64 0,.int .i64 0,.int .i64 0,.int .i64 0,.slice none 0 0,.slice none 0 0,.slice none 0 0,.slice none 0 0]),tq (.agg #[.int .i64 0,.int .i64 0,.int .i64 0,.int .i64 0,.slice none 0 0,.slice none 0 0,.slice none 0 0,.slice none 0 0]),tq (.agg #[.int .i64 0,.int .i64 0]),tq (.agg #[.int .i64 0,.int .i64 0]),tq (.slice none 0 0),tq (.agg #[.slice none 0 0,.int .i64 0,.slice none 0 0]),tq (.agg #[.slice none 0 0,.int .i64 0,.slice none 0 0]),tq (.slice none 0 0),tq (.agg #[.slice none 0 0,.slice none 0 0]),tq (.agg #[.slice none 0 0,.slice none 0 0]),tq (.nilFunc),tq (.nilFunc),tq (.nilFunc),tq (.nilFunc),tq (.nilFunc),tq (.map none),tq (.nilFunc),tq (.nilFunc),tq (.nilFunc),tq (.nilFunc),tq (.nilFunc),tq (.nilFunc),tq (.nilFunc),tq (.nilFunc),tq (.nilFunc),tq (.nilFunc),tq (.nilFunc),tq (.nilFunc),tq (.nilFunc),tq (.nilFunc),tq (.nilFunc),tq (.nilFunc),tq (.nilFunc),tq (.nilFunc),tq (.nilFunc),tq (.nilFunc),tq (.nilFunc),tq (.nilFunc),tq (.nilFunc),tq (.nilFunc),tq (.nilFunc),tq (.nilFunc),tq (.int .u64 0),tq (.nilFunc),tq (.nilFunc),tq (.nilFunc),tq (.nilFunc),tq (.nilFunc),tq (.nilFunc),tq (.slice none 0 0),tq (.nilFunc),tq (.int .i64 0),tq (.int .u32 0),tq (.int .u64 0),tq (.agg #[.pointer none,.pointer none,.pointer none,.string ⟨#[]⟩]),tq (.agg #[.pointer none,.pointer none,.pointer none,.string ⟨#[]⟩]),tq (.int .u8 0),tq (.int .u8 0),tq (.nilFunc),tq (.int .i32 0),tq (.int .i32 0),tq (.agg #[.int .u64 0,.int .u64 0,.int .u32 0,.int .u8 0,.int .u8 0,.int .u8 0,.int .u8 0,.nilFunc,.pointer none,.int .i32 0,.int .i32 0]),tq (.agg #[.int .u64 0,.int .u64 0,.int .u32 0,.int .u8 0,.int .u8 0,.int .u8 0,.int .u8 0,.nilFunc,.pointer none,.int .i32 0,.int .i32 0]),
   trivial⟩
def ZQ : List (Nat × Nat) := [(22,92),(23,79),(24,37),(35,89),(44,53),(51,84),(59,3),(67,82),(72,133),(80,5),(84,86),(98,103),(173,183),(178,177),(181,180),(258,59)]
theorem UC : JB (fun t e => Tryz.prog.underlying t = some (.slice e)) ZQ := ⟨kq,kq,kq,kq,kq,kq,kq,kq,kq,kq,kq,kq,kq,kq,kq,kq,trivial⟩
def zL6 : List (Nat × (Nat × Nat)) := [(337,(0,16))]
theorem YU : JB (fun t p => Tryz.prog.underlying t = some (.array p.1 p.2)) zL6 := ⟨kq,trivial⟩
def MJ : List (Nat × List (Nat × Nat)) := [(7,[(0,1),(1,1),(2,1),(3,1)]),(8,[(0,1),(1,1),(2,1),(3,1)]),(13,[(0,1),(1,1)]),(14,[(0,1),(1,1)]),(18,[(0,1)]),(19,[(0,1)]),(36,[(0,1),(1,1),(2,1),(3,1),(4,1),(5,1)]),(37,[(0,1),(1,1),(2,1),(3,1),(4,1),(5,1)]),(40,[(0,1),(1,1),(2,1)]),(41,[(0,1),(1,1),(2,1)]),(45,[(0,1)]),(46,[(0,1)]),(52,[(0,3),(3,1)]),(53,[(0,3),(3,1)]),(68,[(0,1),(1,1),(2,1),(3,1)]),(69,[(0,1),(1,1),(2,1),(3,1)]),(70,[(0,1),(1,1),(2,1),(3,1)]),(71,[(0,1),(1,1),(2,1),(3,1)]),(78,[(0,1),(1,1),(2,1)]),(79,[(0,1),(1,1),(2,1)]),(81,[(0,1),(1,1)]),(82,[(0,1),(1,1)]),(85,[(0,1),(1,1)]),(86,[(0,1),(1,1)]),(88,[(0,1),(1,1),(2,1)]),(89,[(0,1),(1,1),(2,1)]),(91,[(0,1),(1,1),(2,1)]),(92,[(0,1),(1,1),(2,1)]),(99,[(0,1)]),(100,[(0,1)]),(102,[(0,3),(3,1)]),(103,[(0,3),(3,1)]),(107,[(0,1),(1,1)]),(108,[(0,1),(1,1)]),(132,[(0,1),(1,1),(2,1),(3,1),(4,1)]),(133,[(0,1),(1,1),(2,1),(3,1),(4,1)]),(162,[(0,1),(1,1)]),(163,[(0,1),(1,1)]),(165,[(0,1),(1,1)]),(166,[(0,1),(1,1)]),(174,[(0,4),(4,1),(5,1),(6,1),(7,1)]),(175,[(0,4),(4,1),(5,1),(6,1),(7,1)]),(176,[(0,1),(1,1)]),(177,[(0,1),(1,1)]),(179,[(0,1),(1,1),(2,1)]),(180,[(0,1),(1,1),(2,1)]),(182,[(0,1),(1,1)]),(183,[(0,1),(1,1)]),(335,[(0,1),(1,1),(2,1),(3,1)]),(336,[(0,1),(1,1),(2,1),(3,1)]),(338,[(0,0)]),(339,[(0,0)]),(345,[(0,1),(1,1),(2,1),(3,1),(4,1),(5,1),(6,1),(7,1),(8,1),(9,1),(10,1)]),(346,[(0,1),(1,1),(2,1),(3,1),(4,1),(5,1),(6,1),(7,1),(8,1),(9,1),(10,1)])]
theorem KI : JB (fun t l => DK Tryz.prog t = some l) MJ := ⟨kq,kq,kq,kq,kq,kq,kq,kq,kq,kq,kq,kq,kq,kq,kq,kq,kq,kq,kq,kq,kq,kq,kq,kq,kq,kq,kq,kq,kq,kq,kq,kq,kq,kq,kq,kq,kq,kq,kq,kq,kq,kq,kq,kq,kq,kq,kq,kq,kq,kq,kq,kq,kq,kq,trivial⟩
def TZ : List ((Nat × Nat) × Nat) := [((7,0),0),((7,1),1),((7,2),2),((7,3),3),((8,0),0),((8,1),1),((8,2),2),((8,3),3),((13,0),0),((13,1),1),((14,0),0),((14,1),1),((18,0),0),((19,0),0),((36,0),0),((36,1),1),((36,2),2),((36,3),3),((36,4),4),((36,5),5),((37,0),0),((37,1),1),((37,2),2),((37,3),3),((37,4),4),((37,5),5),((40,0),0),((40,1),1),((40,2),2),((41,0),0),((41,1),1),((41,2),2),((45,0),0),((46,0),0),((52,0),0),((52,1),3),((53,0),0),((53,1),3),((68,0),0),((68,1),1),((68,2),2),((68,3),3),((69,0),0),((69,1),1),((69,2),2),((69,3),3),((70,0),0),((70,1),1),((70,2),2),((70,3),3),((71,0),0),((71,1),1),((71,2),2),((71,3),3),((78,0),0),((78,1),1),((78,2),2),((79,0),0),((79,1),1),((79,2),2),((81,0),0),((81,1),1),((82,0),0),((82,1),1),((85,0),0),((85,1),1),((86,0),0),((86,1),1),((88,0),0),((88,1),1),((88,2),2),((89,0),0),((89,1),1),((89,2),2),((91,0),0),((91,1),1),((91,2),2),((92,0),0),((92,1),1),((92,2),2),((99,0),0),((100,0),0),((102,0),0),((102,1),3),((103,0),0),((103,1),3),((107,0),0),((107,1),1),((108,0),0),((108,1),1),((132,0),0),((132,1),1),((132,2),2),((132,3),3),((132,4),4),((133,0),0),((133,1),1),((133,2),2),((133,3),3),((133,4),4),((162,0),0),((162,1),1),((163,0),0),((163,1),1),((165,0),0),((165,1),1),((166,0),0),((166,1),1),((174,0),0),((174,1),4),((174,2),5),((174,3),6),((174,4),7),((175,0),0),((175,1),4),((175,2),5),((175,3),6),((175,4),7),((176,0),0),((176,1),1),((177,0),0),((177,1),1),((179,0),0),((179,1),1),((179,2),2),((180,0),0),((180,1),1),((180,2),2),((182,0),0),((182,1),1),((183,0),0),((183,1),1),((335,0),0),((335,1),1),((335,2),2),((335,3),3),((336,0),0),((336,1),1),((336,2),2),((336,3),3),((345,0),0),((345,1),1),((345,2),2),((345,3),3),((345,4),4),((345,5),5),((345,6),6),((345,7),7),((345,8),8),((345,9),9),((345,10),10),((346,0),0),((346,1),1),((346,2),2),((346,3),3),((346,4),4),((346,5),5),((346,6),6),((346,7),7),((346,8),8),((346,9),9),((346,10),10)]
theorem PN : JB (fun (tf : Nat × Nat) o => ∃ fs fd inf,Tryz.prog.underlying tf.1 = some (.struct fs) ∧ fs[tf.2]? = some fd ∧ fd.offset = o ∧ Tryz.prog.info? fd.type = some inf ∧ inf.size ≠ 0) TZ :=
  ⟨fq,fq,fq,fq,fq,fq,fq,fq,fq,fq,fq,fq,fq,fq,fq,fq,fq,fq,fq,fq,fq,fq,fq,fq,fq,fq,fq,fq,fq,fq,fq,fq,fq,fq,tA (n := 2) (by kernel_rfl),fq,tA (n := 2) (by kernel_rfl),fq,fq,fq,fq,fq,fq,fq,fq,fq,fq,fq,fq,fq,fq,fq,fq,fq,fq,fq,fq,fq,fq,fq,fq,fq,fq,fq,fq,fq,fq,fq,fq,fq,fq,fq,fq,fq,fq,fq,fq,fq,fq,fq,fq,fq,tA (n := 2) (by kernel_rfl),fq,tA (n := 2) (by kernel_rfl),fq,fq,fq,fq,fq,fq,fq,fq,fq,fq,fq,fq,fq,fq,fq,fq,fq,fq,fq,fq,fq,fq,fq,tA (n := 3) (by kernel_rfl),fq,fq,fq,fq,tA (n := 3) (by kernel_rfl),fq,fq,fq,fq,fq,fq,fq,fq,fq,fq,fq,fq,fq,fq,fq,fq,fq,fq,fq,fq,fq,fq,fq,fq,fq,fq,fq,fq,fq,fq,fq,fq,fq,fq,fq,fq,fq,fq,fq,fq,fq,fq,fq,fq,fq,fq,fq,fq,
   trivial⟩
theorem dZ : Tryz.prog.follows .mixedOrders = true := by kernel_rfl
def T : oA Tryz.prog where
  ti := U1 zO8
  tiOk := fun _ _ h => yA zA1 h
  elem := U1 ZQ
  elemOk := fun _ _ h => yA UC h
  field := fun t f => DP TZ t f
  fieldOk := fun _ _ _ h => CA PN h
  arr := U1 zL6
  arrOk := fun _ _ _ h => yA YU h
  places := U1 MJ
  placesOk := fun _ _ h => yA KI h
end Go.Proofs.YtdfmhddmddgniaaGreatDoor
namespace Go.Or
open Go Go.Ab
def zQ {α : Type} (p : α → Bool) : List α → Nat → Int
  | [],_ => -1
  | x :: l,k => if p x = true then k else zQ p l (k + 1)
theorem MU {α : Type} {p : α → Bool} {l : List α} {k : Nat} (h : k < l.length) : zQ p (l.drop k) k = if p l[k] = true then (k : Int) else zQ p (l.drop (k + 1)) (k + 1) := by
  rw [aO h];rfl
theorem HE {α : Type} {p : α → Bool} {l : List α} {k : Nat} (h : l.length ≤ k) : zQ p (l.drop k) k = -1 := by
  rw [dH h];rfl
theorem U7 {α : Type} (p : α → Bool) : ∀ (l : List α) (k : Nat), decide (zQ p l k ≥ 0) = l.any p
  | [],k => by simp [zQ]
  | x :: l,k => by
    unfold zQ;split
    · rename_i h;simp [h]
    · rename_i h;rw [U7 p l (k + 1)];simp [h]
theorem CG {α : Type} (p : α → Bool) : ∀ (l : List α) (k : Nat), (zQ p l k = -1 ∧ ∀ x, x ∈ l → p x = false) ∨ ∃ (j : Nat) (hj : j < l.length), zQ p l k = ((k + j : Nat) : Int) ∧ p l[j] = true ∧ ∀ x, x ∈ l.take j → p x = false
  | [],k => .inl ⟨rfl,fun x hx => by cases hx⟩
  | y :: l,k => by
    unfold zQ;cases hp : p y with
    | true => exact .inr ⟨0,by simp,by rw [if_pos rfl];rfl,by simpa using hp,fun x hx => by simp at hx⟩
    | false =>
      rw [if_neg (by simp)]
      rcases CG p l (k + 1) with ⟨h1,h2⟩ | ⟨j,hj,h1,h2,h3⟩
      · refine .inl ⟨h1,fun x hx => ?_⟩
        rcases aT.1 hx with rfl | hx
        · exact hp
        · exact h2 x hx
      · refine .inr ⟨j + 1,by simp;omega,by rw [h1];omega,by simpa using h2,fun x hx => ?_⟩
        rw [sA] at hx;rcases aT.1 hx with rfl | hx
        · exact hp
        · exact h3 x hx
theorem jW (l : List Wt) : ∀ e,e ∈ bV l → e.length = 3 := by intro e he;obtain ⟨n,_,rfl⟩ := aK.1 he;rfl
theorem gD (l : List Wt) : (bV l).length = l.length := bF _
theorem ZV (l : List Wt) : (bV l).flatten.all AV.one = true := by
  induction l with
  | nil => rfl
  | cons x l ih => exact ih
theorem oV (l : List Wt) : ∀ e,e ∈ bV l → AV.idfL e = true := by intro e he;obtain ⟨x,_,rfl⟩ := aK.1 he;rfl
theorem QJ {l : List Wt} {k : Nat} (h : k < l.length) : (bV l)[(k : Int).toNat]? = some ([AV.i l[k].1,AV.i l[k].2.1,AV.i l[k].2.2]) := by simp [h]
theorem nD (l : List Tk) : ∀ e,e ∈ eZ l → e.length = 2 := by intro e he;obtain ⟨n,_,rfl⟩ := aK.1 he;rfl
theorem kT (l : List Tk) : (eZ l).length = l.length := bF _
theorem ZZ (l : List Tk) : (eZ l).flatten.all AV.one = true := by
  induction l with
  | nil => rfl
  | cons x l ih => exact ih
theorem oF (l : List Tk) : ∀ e,e ∈ eZ l → AV.idfL e = true := by intro e he;obtain ⟨x,_,rfl⟩ := aK.1 he;rfl
theorem xO {l : List Tk} {k : Nat} (h : k < l.length) : (eZ l)[(k : Int).toNat]? = some ([AV.i l[k].1,AV.i l[k].2]) := by simp [h]
theorem fZ (l : List Bo) : ∀ e,e ∈ eY l → e.length = 3 := by intro e he;obtain ⟨n,_,rfl⟩ := aK.1 he;rfl
theorem fM (l : List Bo) : (eY l).length = l.length := bF _
theorem LL (l : List Bo) : (eY l).flatten.all AV.one = true := by
  induction l with
  | nil => rfl
  | cons x l ih => exact ih
theorem uV (l : List Bo) : ∀ e,e ∈ eY l → AV.idfL e = true := by intro e he;obtain ⟨x,_,rfl⟩ := aK.1 he;rfl
theorem zF3 {l : List Bo} {k : Nat} (h : k < l.length) : (eY l)[(k : Int).toNat]? = some ([AV.i l[k].1,AV.i l[k].2.1,AV.i l[k].2.2]) := by simp [h]
theorem pA (l : List Lo) : ∀ e,e ∈ iX l → e.length = 3 := by intro e he;obtain ⟨n,_,rfl⟩ := aK.1 he;rfl
theorem pJ (l : List Lo) : (iX l).length = l.length := bF _
theorem XQ {l : List Lo} {k : Nat} (h : k < l.length) : (iX l)[k]? = some ([AV.i l[k].1,AV.i l[k].2.1,AV.b l[k].2.2]) := by simp [h]
theorem KM (l : List Int) : ∀ e,e ∈ fQ l → e.length = 1 := by intro e he;obtain ⟨n,_,rfl⟩ := aK.1 he;rfl
theorem lG (l : List Int) : (fQ l).length = l.length := bF _
theorem fA (l : List Int) : ∀ e,e ∈ fQ l → AV.idfL e = true := by intro e he;obtain ⟨x,_,rfl⟩ := aK.1 he;rfl
theorem KN {l : List Int} {k : Nat} (h : k < l.length) : (fQ l)[(k : Int).toNat]? = some ([AV.i l[k]]) := by simp [h]
end Go.Or
namespace Go.Proofs.YtdfmhddmddgniaaGreatDoor
open Go Go.Ab Go.Or
attribute [local irreducible] VC AW bJ bI
set_option maxHeartbeats 4000000
theorem iK (l : List Nat) : ∀ i : Nat,i < 0 → l[i]? = some i := fun i h => absurd h (eM _)
theorem B6 {a b : Bool} (h : a = b) : AV.b a = AV.b b := by rw [h]
theorem zC8 {l : List Wt} {F : FuncId} {caps : List AV} {p : Wt → Bool} (hl : l.length ≤ 1000000) (hi : AV.idfL caps = true) (hF : ∀ x,x ∈ l → bI Tryz.prog F (.agg [.i x.1,.i x.2.1,.i x.2.2] :: caps) [] (.b (p x)) []) :
    bI Tryz.prog 191 [.rowE (bV l) 3,.clo (.func F) [] caps] [] (.i (zQ p l 0)) [] := by
  have hlen : (bV l).length = l.length := bF _;refine dA T Tryz.func191 rfl rfl rfl rfl ?_
  (repeat' (first|refine wS ?_|refine wB ?_|(refine rg 0 (aV ?_))|(refine rg 1 (mW rfl (qW T rfl (mV ?_))))|refine nZ ?_));refine dR (X := {k : Nat // k ≤ l.length ∧ zQ p l 0 = zQ p (l.drop k) k}) (fun k => [(0,.rowE (bV l) 3),(1,.clo (.func F) [] caps),(7,.i (bV l).length),(8,.i k.1)]) (fun _ => []) (fun k => l.length - k.1) ⟨0,by simp,rfl⟩ ⟨[],rfl,⟨rfl,by rw [iP hi];rfl,rfl,rfl,trivial⟩,trivial,aI,fun _ h => absurd h (eM _)⟩ ?_
  rintro ⟨k,hk,he⟩;dsimp only;by_cases hlt : k < l.length
  · have hc := hF l[k] (aH hlt);have hg := QJ (l := l) hlt;rw [MU hlt] at he;generalize l[k] = y at *;cases hp : p y with
    | true =>
      rw [hp] at hc;rw [hp,if_pos rfl] at he
      (repeat' (first|refine wS ?_|refine wB ?_|refine wK ?_|refine wR ?_|refine wT ?_|(refine wC rfl ?_ ?_<;>(intro hb;(try simp only [nm] at hb);try (exfalso;omega)))|(refine rg 2 (vV (bE rfl rfl) ?_))|(refine rg 3 (mW rfl (aV ?_)))|(refine rg 4 (dS rfl (mW rfl (vV (ix T rfl (by omega) (jW l) hg) (lW T rfl (vV (by exact dB rfl rfl hc rfl (by simp [AV.idfL,AV.idf,hi]) rfl) ?_))))))|(refine rg 5 (mW rfl (aV ?_)))|refine nZ ?_));all_goals first | (exfalso;omega) | exact eP (.inl rfl) rfl (by rw [he];rfl)
    | false =>
      rw [hp] at hc;rw [hp,if_neg (by simp)] at he
      (repeat' (first|refine wS ?_|refine wB ?_|refine wK ?_|refine wU ?_|(refine wC rfl ?_ ?_<;>(intro hb;(try simp only [nm] at hb);try (exfalso;omega)))|(refine rg 2 (vV (bE rfl rfl) ?_))|(refine rg 3 (mW rfl (aV ?_)))|(refine rg 4 (dS rfl (mW rfl (vV (ix T rfl (by omega) (jW l) hg) (lW T rfl (vV (by exact dB rfl rfl hc rfl (by simp [AV.idfL,AV.idf,hi]) rfl) ?_))))))|(refine rg 6 (vV (eD rfl rfl (by omega) (by omega)) (mV ?_)))|refine nZ ?_));all_goals first | (exfalso;omega) | exact ⟨⟨k + 1,hlt,he⟩,by dsimp only;omega,⟨[],rfl,⟨rfl,by rw [iP hi];rfl,rfl,rfl,trivial⟩,trivial,aI,fun _ h => absurd h (eM _)⟩⟩
  · rw [HE (by omega)] at he
    (repeat' (first|refine wS ?_|refine wR ?_|refine wE ?_|(refine wC rfl ?_ ?_<;>(intro hb;(try simp only [nm] at hb);try (exfalso;omega)))|(refine rg 2 (vV (bE rfl rfl) ?_))|(refine rg 7 (aV ?_))|refine nZ ?_));all_goals first | (exfalso;omega) | exact eP (.inl rfl) rfl (by rw [he];rfl)
theorem MV {l : List Wt} {F : FuncId} {caps : List AV} {p : Wt → Bool} (hl : l.length ≤ 1000000) (hi : AV.idfL caps = true) (hF : ∀ x,x ∈ l → bI Tryz.prog F (.agg [.i x.1,.i x.2.1,.i x.2.2] :: caps) [] (.b (p x)) []) :
    bI Tryz.prog 135 [.rowE (bV l) 3,.clo (.func F) [] caps] [] (.b (l.any p)) [] := by
  have hc := zC8 hl hi hF;rw [← U7 p l 0];refine dA T Tryz.func135 rfl rfl rfl rfl ?_
  (repeat' (first|refine wS ?_|refine wR ?_|(refine rg 0 (aV ?_))|(refine rg 1 (dS rfl (vV (by exact dB rfl rfl hc rfl (by simp [AV.idfL,AV.idf,hi]) rfl) ?_));refine vV (eN rfl rfl) (aV ?_))|refine nZ ?_));all_goals first | (exfalso;omega) | exact rQ
theorem TG {l : List Tk} {F : FuncId} {caps : List AV} {p : Tk → Bool} (hl : l.length ≤ 1000000) (hi : AV.idfL caps = true) (hF : ∀ x,x ∈ l → bI Tryz.prog F (.agg [.i x.1,.i x.2] :: caps) [] (.b (p x)) []) :
    bI Tryz.prog 107 [.rowE (eZ l) 2,.clo (.func F) [] caps] [] (.i (zQ p l 0)) [] := by
  have hlen : (eZ l).length = l.length := bF _;refine dA T Tryz.func107 rfl rfl rfl rfl ?_
  (repeat' (first|refine wS ?_|refine wB ?_|(refine rg 0 (aV ?_))|(refine rg 1 (mW rfl (qW T rfl (mV ?_))))|refine nZ ?_));refine dR (X := {k : Nat // k ≤ l.length ∧ zQ p l 0 = zQ p (l.drop k) k}) (fun k => [(0,.rowE (eZ l) 2),(1,.clo (.func F) [] caps),(7,.i (eZ l).length),(8,.i k.1)]) (fun _ => []) (fun k => l.length - k.1) ⟨0,by simp,rfl⟩ ⟨[],rfl,⟨rfl,by rw [iP hi];rfl,rfl,rfl,trivial⟩,trivial,aI,fun _ h => absurd h (eM _)⟩ ?_
  rintro ⟨k,hk,he⟩;dsimp only;by_cases hlt : k < l.length
  · have hc := hF l[k] (aH hlt);have hg := xO (l := l) hlt;rw [MU hlt] at he;generalize l[k] = y at *;cases hp : p y with
    | true =>
      rw [hp] at hc;rw [hp,if_pos rfl] at he
      (repeat' (first|refine wS ?_|refine wB ?_|refine wK ?_|refine wR ?_|refine wT ?_|(refine wC rfl ?_ ?_<;>(intro hb;(try simp only [nm] at hb);try (exfalso;omega)))|(refine rg 2 (vV (bE rfl rfl) ?_))|(refine rg 3 (mW rfl (aV ?_)))|(refine rg 4 (dS rfl (mW rfl (vV (ix T rfl (by omega) (nD l) hg) (lW T rfl (vV (by exact dB rfl rfl hc rfl (by simp [AV.idfL,AV.idf,hi]) rfl) ?_))))))|(refine rg 5 (mW rfl (aV ?_)))|refine nZ ?_));all_goals first | (exfalso;omega) | exact eP (.inl rfl) rfl (by rw [he];rfl)
    | false =>
      rw [hp] at hc;rw [hp,if_neg (by simp)] at he
      (repeat' (first|refine wS ?_|refine wB ?_|refine wK ?_|refine wU ?_|(refine wC rfl ?_ ?_<;>(intro hb;(try simp only [nm] at hb);try (exfalso;omega)))|(refine rg 2 (vV (bE rfl rfl) ?_))|(refine rg 3 (mW rfl (aV ?_)))|(refine rg 4 (dS rfl (mW rfl (vV (ix T rfl (by omega) (nD l) hg) (lW T rfl (vV (by exact dB rfl rfl hc rfl (by simp [AV.idfL,AV.idf,hi]) rfl) ?_))))))|(refine rg 6 (vV (eD rfl rfl (by omega) (by omega)) (mV ?_)))|refine nZ ?_));all_goals first | (exfalso;omega) | exact ⟨⟨k + 1,hlt,he⟩,by dsimp only;omega,⟨[],rfl,⟨rfl,by rw [iP hi];rfl,rfl,rfl,trivial⟩,trivial,aI,fun _ h => absurd h (eM _)⟩⟩
  · rw [HE (by omega)] at he
    (repeat' (first|refine wS ?_|refine wR ?_|refine wE ?_|(refine wC rfl ?_ ?_<;>(intro hb;(try simp only [nm] at hb);try (exfalso;omega)))|(refine rg 2 (vV (bE rfl rfl) ?_))|(refine rg 7 (aV ?_))|refine nZ ?_));all_goals first | (exfalso;omega) | exact eP (.inl rfl) rfl (by rw [he];rfl)
theorem XV {l : List Tk} {F : FuncId} {caps : List AV} {p : Tk → Bool} (hl : l.length ≤ 1000000) (hi : AV.idfL caps = true) (hF : ∀ x,x ∈ l → bI Tryz.prog F (.agg [.i x.1,.i x.2] :: caps) [] (.b (p x)) []) :
    bI Tryz.prog 64 [.rowE (eZ l) 2,.clo (.func F) [] caps] [] (.b (l.any p)) [] := by
  have hc := TG hl hi hF;rw [← U7 p l 0];refine dA T Tryz.func64 rfl rfl rfl rfl ?_
  (repeat' (first|refine wS ?_|refine wR ?_|(refine rg 0 (aV ?_))|(refine rg 1 (dS rfl (vV (by exact dB rfl rfl hc rfl (by simp [AV.idfL,AV.idf,hi]) rfl) ?_));refine vV (eN rfl rfl) (aV ?_))|refine nZ ?_));all_goals first | (exfalso;omega) | exact rQ
theorem zK (l : List Wt) (hl : l.length ≤ 1000000) : bI Tryz.prog 49 [.rowE (bV l) 3] [] (.sl 0 0 l.length 3) [.arr (bV l) 3] := by
  have hll : (bV l).length = l.length := gD l;refine dA T Tryz.func49 rfl rfl rfl rfl ?_
  repeat' (first|refine wS ?_|refine wK ?_|refine wT ?_|refine wU ?_|(refine rg 0 (aV ?_))|(refine rg 1 (mV ?_);refine C4 T rfl rfl rfl rfl fun b hb=>?_;cases b)|refine nZ ?_)
  · (repeat' (first|refine wR ?_|(refine rg 3 (dQ (by exact bO T rfl rfl (by decide) (by decide) rfl rfl rfl) rfl ?_);refine mW rfl (fH T rfl rfl rfl rfl rfl rfl (by decide) (.row (jW l)) (ZV l) (by simp;omega) (by simp;omega) rfl ?_);refine aV ?_)|(refine nZ ?_)));exact ⟨.inl rfl,[1],_,rfl,(by show AV.sl 1 0 (0 + (bV l).length) 3 = AV.sl 1 0 l.length 3;simp),rfl,⟨.inr (bM rfl rfl (oV _)),trivial⟩,by decide,iK _⟩
  · have hl0 : l = [] := iR.1 (Classical.byContradiction fun h => by have := hb (by omega);cases this)
    subst hl0
    (repeat' (first|refine wR ?_|(refine rg 2 (vV (jJ rfl) (Q6 2 3 rfl (by decide) ?_)))|refine nZ ?_));exact ⟨.inl rfl,[0],_,rfl,rfl,rfl,⟨.inr (bM rfl rfl (oV _)),trivial⟩,by decide,iK _⟩
theorem PP (l : List Tk) (hl : l.length ≤ 1000000) : bI Tryz.prog 106 [.rowE (eZ l) 2] [] (.sl 0 0 l.length 2) [.arr (eZ l) 2] := by
  have hll : (eZ l).length = l.length := kT l;refine dA T Tryz.func106 rfl rfl rfl rfl ?_
  repeat' (first|refine wS ?_|refine wK ?_|refine wT ?_|refine wU ?_|(refine rg 0 (aV ?_))|(refine rg 1 (mV ?_);refine C4 T rfl rfl rfl rfl fun b hb=>?_;cases b)|refine nZ ?_)
  · (repeat' (first|refine wR ?_|(refine rg 3 (dQ (by exact bO T rfl rfl (by decide) (by decide) rfl rfl rfl) rfl ?_);refine mW rfl (fH T rfl rfl rfl rfl rfl rfl (by decide) (.row (nD l)) (ZZ l) (by simp;omega) (by simp;omega) rfl ?_);refine aV ?_)|(refine nZ ?_)));exact ⟨.inl rfl,[1],_,rfl,(by show AV.sl 1 0 (0 + (eZ l).length) 2 = AV.sl 1 0 l.length 2;simp),rfl,⟨.inr (bM rfl rfl (oF _)),trivial⟩,by decide,iK _⟩
  · have hl0 : l = [] := iR.1 (Classical.byContradiction fun h => by have := hb (by omega);cases this)
    subst hl0
    (repeat' (first|refine wR ?_|(refine rg 2 (vV (jJ rfl) (Q6 2 2 rfl (by decide) ?_)))|refine nZ ?_));exact ⟨.inl rfl,[0],_,rfl,rfl,rfl,⟨.inr (bM rfl rfl (oF _)),trivial⟩,by decide,iK _⟩
theorem PQ (l : List Bo) (hl : l.length ≤ 1000000) : bI Tryz.prog 60 [.rowE (eY l) 3] [] (.sl 0 0 l.length 3) [.arr (eY l) 3] := by
  have hll : (eY l).length = l.length := fM l;refine dA T Tryz.func60 rfl rfl rfl rfl ?_
  repeat' (first|refine wS ?_|refine wK ?_|refine wT ?_|refine wU ?_|(refine rg 0 (aV ?_))|(refine rg 1 (mV ?_);refine C4 T rfl rfl rfl rfl fun b hb=>?_;cases b)|refine nZ ?_)
  · (repeat' (first|refine wR ?_|(refine rg 3 (dQ (by exact bO T rfl rfl (by decide) (by decide) rfl rfl rfl) rfl ?_);refine mW rfl (fH T rfl rfl rfl rfl rfl rfl (by decide) (.row (fZ l)) (LL l) (by simp;omega) (by simp;omega) rfl ?_);refine aV ?_)|(refine nZ ?_)));exact ⟨.inl rfl,[1],_,rfl,(by show AV.sl 1 0 (0 + (eY l).length) 3 = AV.sl 1 0 l.length 3;simp),rfl,⟨.inr (bM rfl rfl (uV _)),trivial⟩,by decide,iK _⟩
  · have hl0 : l = [] := iR.1 (Classical.byContradiction fun h => by have := hb (by omega);cases this)
    subst hl0
    (repeat' (first|refine wR ?_|(refine rg 2 (vV (jJ rfl) (Q6 2 3 rfl (by decide) ?_)))|refine nZ ?_));exact ⟨.inl rfl,[0],_,rfl,rfl,rfl,⟨.inr (bM rfl rfl (uV _)),trivial⟩,by decide,iK _⟩
def AD : List Int → Int → Int → Int
  | [],_,_ => -1
  | x :: r,v,k => if v = x then k else AD r v (k + 1)
theorem HD : ∀ (l : List Int) (v k : Int), 0 ≤ k → (0 ≤ AD l v k ↔ v ∈ l)
  | [],v,k,_ => by simp [AD]
  | x :: r,v,k,hk => by
    simp only [AD];split
    · rename_i e;subst e;simp [hk]
    · rename_i e;rw [HD r v (k + 1) (by omega)]
      simp [e]
theorem PA {l : List Int} {v : Int} {k : Nat} (h : k < l.length) : AD (l.drop k) v k = if v = l[k] then (k : Int) else AD (l.drop (k + 1)) v ((k + 1 : Nat) : Int) := by
  rw [aO h];simp [AD]
theorem TJ (l : List Int) (v : Int) (hl : l.length ≤ 1000000) : bI Tryz.prog 122 [.rowE (fQ l) 1,.i v] [] (.i (AD l v 0)) [] := by
  have hlen : (fQ l).length = l.length := by simp
  refine dA T Tryz.func122 rfl rfl rfl rfl ?_
  (repeat' (first|refine wS ?_|refine wB ?_|(refine rg 0 (aV ?_))|(refine rg 1 (mW rfl (qW T rfl (mV ?_))))|refine nZ ?_));refine dR (X := {k : Nat // k ≤ l.length ∧ AD l v 0 = AD (l.drop k) v k}) (fun k => [(0,.rowE (fQ l) 1),(1,.i v),(7,.i (fQ l).length),(8,.i k.1)]) (fun _ => []) (fun k => l.length - k.1) ⟨0,by simp,rfl⟩ (qO []) ?_
  rintro ⟨k,hk,hf⟩;dsimp only;by_cases hlt : k < l.length
  · have hd := PA (v := v) hlt;have hg := KN (l := l) hlt
    repeat' (first|refine wS ?_|refine wB ?_|refine wK ?_|refine wR ?_|(refine wC rfl ?_ ?_<;>(intro hb;(try simp only [nm] at hb);try (exfalso;omega)))|(refine rg 2 (vV (bE rfl rfl) ?_))|(refine rg 3 (mW rfl (aV ?_)))|(refine rg 4 (dS rfl (mW rfl (vV (ix T rfl (by omega) (KM l) hg) (lW T rfl (vV (cW rfl rfl) ?_))))))|(refine rg 5 (mW rfl (aV ?_)))|(refine rg 6 (vV (eD rfl rfl (by omega) (by omega)) (mV ?_)))|refine nZ ?_)
    · refine eP (.inl rfl) rfl ?_;rw [hf,hd,if_pos hb];rfl
    · refine ⟨⟨k + 1,by omega,?_⟩,by dsimp only;omega,qO []⟩
      rw [hf,hd,if_neg hb]
  · (repeat' (first|refine wS ?_|refine wR ?_|refine wE ?_|(refine wC rfl (fun hb => ?_) (fun hb => ?_) <;> (((try simp only [nm] at hb);try (exfalso;omega))))|(refine rg 2 (vV (bE rfl rfl) ?_))|(refine rg 7 (aV ?_))|(refine nZ ?_)));refine eP (.inl rfl) rfl ?_
    rw [hf,dH (by omega)];rfl
theorem IF (l : List Int) (v : Int) (hl : l.length ≤ 1000000) : bI Tryz.prog 137 [.rowE (fQ l) 1,.i v] [] (.b (decide (v ∈ l))) [] := by
  refine dA T Tryz.func137 rfl rfl rfl rfl ?_
  (repeat' (first|refine wS ?_|refine wR ?_|(refine rg 0 (aV ?_))|(refine rg 1 (dS rfl (vV (kC (TJ l v hl)) (vV (eN rfl rfl) (aV ?_)))))|refine nZ ?_));refine eP (.inl rfl) rfl (B6 ?_)
  rw [qD];simp only [decide_eq_true_eq];exact HD l v 0 (by omega)
theorem zF4 (w : Wt) : bI Tryz.prog 136 [.agg [.i w.1,.i w.2.1,.i w.2.2]] [] (.b (kU w)) [] := by
  refine dA T Tryz.func136 rfl rfl rfl rfl ?_
  (repeat' (first|refine wS ?_|refine wR ?_|(refine rg 0 (dQ (fE rfl rfl) rfl (aV ?_)))|(refine rg 1 (eT T rfl (vV (bE rfl rfl) (mV ?_)));refine bP rfl rfl ?_ ?_<;>(intro hb;rw [hb];(try simp only [nm] at hb);try (exfalso;omega));(all_goals first|(refine gT (fW T rfl (gT (lW T rfl (gT (vV (bE rfl rfl) ?_))))))|(iterate 3 refine gF ?_));(all_goals (refine pW rfl (mV ?_)));(all_goals first|(refine gK ?_)|(refine bP rfl rfl ?_ ?_<;>(intro hb;rw [hb];(try simp only [nm] at hb);try (exfalso;omega))));(all_goals first|(refine gT (fW T rfl (gT (lW T rfl (gT (vV (gH rfl rfl) ?_))))))|(iterate 3 refine gF ?_));(all_goals (refine pW rfl (mV ?_)));(all_goals first|(refine gK ?_)|(refine bP rfl rfl ?_ ?_<;>(intro hb;rw [hb];(try simp only [nm] at hb);try (exfalso;omega))));(all_goals first|(refine gT (fW T rfl (gT (lW T rfl (gT (vV (bE rfl rfl) ?_))))))|(iterate 3 refine gF ?_));(all_goals (refine pW rfl (mV ?_)));(all_goals first|(refine gK ?_)|(refine bP rfl rfl ?_ ?_<;>(intro hb;rw [hb];(try simp only [nm] at hb);try (exfalso;omega))));(all_goals first|(refine gT (fW T rfl (gT (lW T rfl (gT (vV (gH rfl rfl) ?_))))))|(iterate 3 refine gF ?_));(all_goals (refine pW rfl (aV ?_))))|refine nZ ?_));all_goals first | (exfalso;omega) | exact eP (.inl rfl) rfl (B6 (by unfold kU;first | rfl | (rw [qD];simp only [qC,decide_eq_true_eq,true_iff];omega) | (rw [qD];simp;omega)))
theorem BE (ws : List Wt) (due : Int) (hl : ws.length ≤ 1000000) : bI Tryz.prog 92 [.rowE (bV ws) 3,.i due] [] (.b (iW ws due)) [] := by
  have hc := MV (l := ws) (F := 136) (caps := []) (p := kU) hl rfl fun x _ => zF4 x
  have hll := gD ws;unfold iW;generalize ws.any kU = q at *;by_cases h1 : ws.length < 1
  · (rw [show (!(decide (ws.length < 1) || (decide (20 < ws.length) || (decide (due < 0) || decide (20000 < due)))) && !q) = false by simp [*]]
     refine dA T Tryz.func92 rfl rfl rfl rfl ?_
     (repeat' (first|refine wS ?_|refine wR ?_|refine wT ?_|(refine rg 0 (aV ?_))|(refine rg 1 (mW rfl (qW T rfl (vV (bE rfl rfl) (mV ?_))));refine bP rfl rfl ?_ ?_<;>(intro hb;rw [hb];(try simp only [nm] at hb);try (exfalso;omega));(all_goals ((iterate 3 refine gF ?_);refine pW rfl (mV ?_);(iterate 2 refine gF ?_);refine pW rfl (mV ?_);(iterate 2 refine gF ?_);refine pV ?_)))|(refine rg 2 (aV ?_))|refine nZ ?_));all_goals first | (exfalso;omega) | exact rQ)
  by_cases h2 : 20 < ws.length
  · (rw [show (!(decide (ws.length < 1) || (decide (20 < ws.length) || (decide (due < 0) || decide (20000 < due)))) && !q) = false by simp [*]]
     refine dA T Tryz.func92 rfl rfl rfl rfl ?_
     (repeat' (first|refine wS ?_|refine wR ?_|refine wT ?_|(refine rg 0 (aV ?_))|(refine rg 1 (mW rfl (qW T rfl (vV (bE rfl rfl) (mV ?_))));refine bP rfl rfl ?_ ?_<;>(intro hb;rw [hb];(try simp only [nm] at hb);try (exfalso;omega));(all_goals (refine yN rfl (gT (qW T rfl (yV (gH rfl rfl) (pW rfl (mV ?_)))));refine bP rfl rfl ?_ ?_<;>(intro hb;rw [hb];(try simp only [nm] at hb);try (exfalso;omega))));(all_goals ((iterate 2 refine gF ?_);refine pW rfl (mV ?_);(iterate 2 refine gF ?_);refine pV ?_)))|(refine rg 2 (aV ?_))|refine nZ ?_));all_goals first | (exfalso;omega) | exact rQ)
  by_cases h3 : due < 0
  · (rw [show (!(decide (ws.length < 1) || (decide (20 < ws.length) || (decide (due < 0) || decide (20000 < due)))) && !q) = false by simp [*]]
     refine dA T Tryz.func92 rfl rfl rfl rfl ?_
     (repeat' (first|refine wS ?_|refine wR ?_|refine wT ?_|(refine rg 0 (aV ?_))|(refine rg 1 (mW rfl (qW T rfl (vV (bE rfl rfl) (mV ?_))));refine bP rfl rfl ?_ ?_<;>(intro hb;rw [hb];(try simp only [nm] at hb);try (exfalso;omega));(all_goals (refine yN rfl (gT (qW T rfl (yV (gH rfl rfl) (pW rfl (mV ?_)))));refine bP rfl rfl ?_ ?_<;>(intro hb;rw [hb];(try simp only [nm] at hb);try (exfalso;omega))));(all_goals (refine yN rfl (yV (bE rfl rfl) (pW rfl (mV ?_)));refine bP rfl rfl ?_ ?_<;>(intro hb;rw [hb];(try simp only [nm] at hb);try (exfalso;omega))));(all_goals ((iterate 2 refine gF ?_);refine pV ?_)))|(refine rg 2 (aV ?_))|refine nZ ?_));all_goals first | (exfalso;omega) | exact rQ)
  by_cases h4 : 20000 < due
  · (rw [show (!(decide (ws.length < 1) || (decide (20 < ws.length) || (decide (due < 0) || decide (20000 < due)))) && !q) = false by simp [*]]
     refine dA T Tryz.func92 rfl rfl rfl rfl ?_
     (repeat' (first|refine wS ?_|refine wR ?_|(refine wC rfl ?_ ?_<;>(intro hb;(try simp only [nm] at hb);try (exfalso;omega)))|(refine rg 0 (aV ?_))|(refine rg 1 (mW rfl (qW T rfl (vV (bE rfl rfl) (mV ?_))));refine bP rfl rfl ?_ ?_<;>(intro hb;rw [hb];(try simp only [nm] at hb);try (exfalso;omega));(all_goals (refine yN rfl (gT (qW T rfl (yV (gH rfl rfl) (pW rfl (mV ?_)))));refine bP rfl rfl ?_ ?_<;>(intro hb;rw [hb];(try simp only [nm] at hb);try (exfalso;omega))));(all_goals (refine yN rfl (yV (bE rfl rfl) (pW rfl (mV ?_)));refine bP rfl rfl ?_ ?_<;>(intro hb;rw [hb];(try simp only [nm] at hb);try (exfalso;omega))));(all_goals (refine yN rfl (yV (gH rfl rfl) (pV ?_)))))|(refine rg 2 (aV ?_))|refine nZ ?_));all_goals first | (exfalso;omega) | exact rQ)
  rw [show (!(decide (ws.length < 1) || (decide (20 < ws.length) || (decide (due < 0) || decide (20000 < due)))) && !q) = !q by simp [h1,h2,h3,h4]]
  refine dA T Tryz.func92 rfl rfl rfl rfl ?_
  (repeat' (first|refine wS ?_|refine wK ?_|refine wR ?_|(refine wC rfl ?_ ?_<;>(intro hb;(try simp only [nm] at hb);try (exfalso;omega)))|(refine rg 0 (aV ?_))|(refine rg 1 (mW rfl (qW T rfl (vV (bE rfl rfl) (mV ?_))));refine bP rfl rfl ?_ ?_<;>(intro hb;rw [hb];(try simp only [nm] at hb);try (exfalso;omega));(all_goals (refine yN rfl (gT (qW T rfl (yV (gH rfl rfl) (pW rfl (mV ?_)))));refine bP rfl rfl ?_ ?_<;>(intro hb;rw [hb];(try simp only [nm] at hb);try (exfalso;omega))));(all_goals (refine yN rfl (yV (bE rfl rfl) (pW rfl (mV ?_)));refine bP rfl rfl ?_ ?_<;>(intro hb;rw [hb];(try simp only [nm] at hb);try (exfalso;omega))));(all_goals (refine yN rfl (yV (gH rfl rfl) (pV ?_)))))|(refine rg 3 (mW rfl (vV (kC (hc)) (vV (cV rfl) (aV ?_)))))|refine nZ ?_));all_goals first | (exfalso;omega) | exact rQ
end Go.Proofs.YtdfmhddmddgniaaGreatDoor
namespace Go.Or
open Go Go.Ab
theorem U6 {k : Int → Int} {x : Int} : ∀ {S1 S2 : List Int}, (∀ y, y ∈ S1 → k y ≤ k x) → (∀ y, y ∈ S2 → k x < k y) → mS k x (S1 ++ S2) = S1 ++ x :: S2
  | [],[],_,_ => rfl
  | [],y :: S2,_,h => by
    simp only [List.nil_append,mS];rw [if_pos (h y aL)]
  | z :: S1,S2,h1,h2 => by
    simp only [List.cons_append,mS];rw [if_neg (by have := h1 z aL;omega),U6 (fun y hy => h1 y (aF _ hy)) h2]
abbrev zL8 (k : Int → Int) (l : List Int) : Prop := l.Pairwise fun a b => k a ≤ k b
theorem MT {k : Int → Int} {x : Int} : ∀ {l : List Int}, zL8 k l → zL8 k (mS k x l)
  | [],_ => by simp [mS]
  | y :: l,h => by
    have h1 := mN.1 h;unfold mS;split
    · rename_i hlt;refine mN.2 ⟨fun z hz => ?_,h⟩
      rcases aT.1 hz with rfl | hz
      · omega
      · have := h1.1 z hz;omega
    · rename_i hlt;refine mN.2 ⟨fun z hz => ?_,MT h1.2⟩
      rcases F4.1 hz with rfl | hz
      · omega
      · exact h1.1 z hz
theorem HZ {k : Int → Int} : ∀ {l a : List Int}, zL8 k a → zL8 k (l.foldl (fun a x => mS k x a) a)
  | [],a,h => h
  | x :: l,a,h => by rw [lQ];exact HZ (MT h)
theorem RC (k : Int → Int) (l : List Int) : zL8 k (jZ k l) := HZ List.Pairwise.nil
theorem JN (k : Int → Int) (l : List Int) (x : Int) : jZ k (l ++ [x]) = mS k x (jZ k l) := by unfold jZ;rw [qG];rfl
theorem KO {α : Type} (A B : List α) (x : α) {n : Nat} (h : n = A.length) : (A ++ x :: B)[n]? = some x := by subst h;simp
theorem MP {α : Type} (A B : List α) (x y : α) {n : Nat} (h : n = A.length) : (A ++ x :: B).set n y = A ++ y :: B := by subst h;simp
structure ZT (k : Int → Int) (l : List Int) (i : Nat) (x : Int) (q : List Int × List Int) : Prop where
  eq : q.1 ++ q.2 = jZ k (l.take i)
  gt : ∀ y,y ∈ q.2 → k x < k y
def xI (l : List Int) (i : Nat) (x : Int) (q : List Int × List Int) : List Int := q.1 ++ x :: (q.2 ++ l.drop (i + 1))
def CZ (k : Int → Int) (l : List Int) (i : Nat) : List Int := jZ k (l.take i) ++ l.drop i
theorem OX {k : Int → Int} {l : List Int} {i : Nat} {x : Int} (h : i < l.length) (hx : l[i]? = some x) : ZT k l i x (jZ k (l.take i),[]) ∧ CZ k l i = xI l i x (jZ k (l.take i),[]) := by
  refine ⟨⟨by simp,fun y hy => by cases hy⟩,?_⟩
  unfold CZ xI;rw [aO h,(aA.1 hx).2];simp
theorem MQ {k : Int → Int} {l : List Int} {i : Nat} {x : Int} {q : List Int × List Int} (h : ZT k l i x q) (hi : i < l.length) : q.1.length + q.2.length = i := by
  have := congrArg List.length h.eq;rw [aB,vA,bT] at this;omega
theorem SX {k : Int → Int} {l : List Int} {i : Nat} {x : Int} {q : List Int × List Int} (h : ZT k l i x q) (hi : i < l.length) : (xI l i x q).length = l.length := by
  have := MQ h hi;unfold xI;simp only [aB,List.length_cons,iM];omega
theorem SV {k : Int → Int} {l : List Int} {i : Nat} {x : Int} {q : List Int × List Int} (h : ZT k l i x q) (hi : i < l.length) (hx : l[i]? = some x) (hs : ∀ y,y ∈ q.1 → k y ≤ k x) : xI l i x q = CZ k l (i + 1) := by
  unfold xI CZ;rw [bB hi,(aA.1 hx).2,JN,← h.eq,U6 hs h.gt];simp
theorem XN {k : Int → Int} {l : List Int} {i : Nat} {x y : Int} {S : List Int} {q : List Int × List Int} (h : ZT k l i x q) (e : q.1 = S ++ [y]) (hc : ¬ k x < k y) : ∀ z,z ∈ q.1 → k z ≤ k x := by
  have hu := RC k (l.take i);rw [← h.eq,e] at hu;have h1 := (List.pairwise_append.1 hu).1;have h2 := (List.pairwise_append.1 h1).2.2;intro z hz;rw [e] at hz;rcases bH.1 hz with hz | hz
  · have := h2 z hz y (by simp);omega
  · rw [bK.1 hz];omega
theorem SW {k : Int → Int} {l : List Int} {i : Nat} {x y : Int} {S : List Int} {q : List Int × List Int} (h : ZT k l i x q) (e : q.1 = S ++ [y]) (hc : k x < k y) : ZT k l i x (S,y :: q.2) := by
  refine ⟨?_,fun z hz => ?_⟩
  · rw [← h.eq,e];simp
  · rcases aT.1 hz with rfl | hz
    · exact hc
    · exact h.gt z hz
def IH (x y : Int) : Int := if x < y then -1 else if y < x then 1 else 0
theorem UH {x y : Int} : IH x y < 0 ↔ x < y := by unfold IH;split <;> (try split) <;> omega
theorem SO {L : List Int} {j : Int} {i : Nat} {x : Int} (h : L[i]? = some x) (e : j = i) : (fQ L)[0 + j.toNat]? = some [AV.i x] := by
  subst e;rw [Nat.zero_add,bN,aS,h];rfl
theorem SN {L : List Int} {j : Int} {i : Nat} {x : Int} (e : j = i) : (fQ L).set (0 + j.toNat) [AV.i x] = fQ (L.set i x) := by
  subst e;rw [Nat.zero_add,bN];show _ = List.map (fun n : Int => [AV.i n]) (L.set i x);rw [nQ]
end Go.Or
namespace Go.Proofs.YtdfmhddmddgniaaGreatDoor
open Go Go.Ab Go.Or
attribute [local irreducible] VC AW bJ bI
set_option maxHeartbeats 4000000
theorem C0 : ∀ i : Nat,i < 1 → ([0] : List Nat)[i]? = some i := by decide
theorem J8 (x : Int) : bI Tryz.prog 216 [.i x] [] (.b false) [] := by
  refine dA T Tryz.func216 rfl rfl rfl rfl ?_
  (repeat' (first|refine wS ?_|refine wR ?_|(refine rg 0 (aV ?_))|(refine rg 1 (dS rfl (vV (pS rfl rfl) (aV ?_))))|refine nZ ?_));all_goals first | (exfalso;omega) | exact eP (.inl rfl) rfl (B6 (by simp))
theorem zE8 (x y : Int) : bI Tryz.prog 177 [.i x,.i y] [] (.i (IH x y)) [] := by
  by_cases h1 : x < y
  · rw [show IH x y = -1 by unfold IH;rw [if_pos h1]]
    refine dA T Tryz.func177 rfl rfl rfl rfl ?_
    (repeat' (first|refine wS ?_|refine wK ?_|refine wR ?_|refine wU ?_|(refine wC rfl ?_ ?_<;>(intro hb;(try simp only [nm] at hb);try (exfalso;omega)))|(refine rg 0 (aV ?_))|(refine rg 1 (mW rfl (vV (kC (J8 x)) (aV ?_))))|(refine rg 2 (mW rfl (vV (kC (J8 y)) (aV ?_))))|(refine rg 3 (mV ?_))|(refine rg 7 (mV ?_))|(refine rg 9 (dS rfl (vV (bE rfl rfl) ?_)))|(refine rg 10 (aV ?_))|refine nZ ?_));all_goals first | (exfalso;omega) | exact rQ
  · by_cases h2 : y < x
    · rw [show IH x y = 1 by unfold IH;rw [if_neg h1,if_pos h2]]
      refine dA T Tryz.func177 rfl rfl rfl rfl ?_
      (repeat' (first|refine wS ?_|refine wK ?_|refine wR ?_|refine wU ?_|(refine wC rfl ?_ ?_<;>(intro hb;(try simp only [nm] at hb);try (exfalso;omega)))|(refine rg 0 (aV ?_))|(refine rg 1 (mW rfl (vV (kC (J8 x)) (aV ?_))))|(refine rg 2 (mW rfl (vV (kC (J8 y)) (aV ?_))))|(refine rg 3 (mV ?_))|(refine rg 7 (mV ?_))|(refine rg 9 (dS rfl (vV (bE rfl rfl) ?_)))|(refine rg 11 (dS rfl (vV (gH rfl rfl) ?_)))|(refine rg 12 (aV ?_))|refine nZ ?_));all_goals first | (exfalso;omega) | exact rQ
    · rw [show IH x y = 0 by unfold IH;rw [if_neg h1,if_neg h2]]
      refine dA T Tryz.func177 rfl rfl rfl rfl ?_
      (repeat' (first|refine wS ?_|refine wK ?_|refine wR ?_|refine wU ?_|(refine wC rfl ?_ ?_<;>(intro hb;(try simp only [nm] at hb);try (exfalso;omega)))|(refine rg 0 (aV ?_))|(refine rg 1 (mW rfl (vV (kC (J8 x)) (aV ?_))))|(refine rg 2 (mW rfl (vV (kC (J8 y)) (aV ?_))))|(refine rg 3 (mV ?_))|(refine rg 7 (mV ?_))|(refine rg 9 (dS rfl (vV (bE rfl rfl) ?_)))|(refine rg 11 (dS rfl (vV (gH rfl rfl) ?_)))|(refine rg 13 (aV ?_))|refine nZ ?_));all_goals first | (exfalso;omega) | exact rQ
theorem CE {F : FuncId} {caps : List AV} (l : List Int) (hl : l.length ≤ 100000) (hc : AV.idfL caps = true) :
    bI Tryz.prog 263 [.sl 0 0 l.length 1,.i l.length,.i l.length,.clo (.func F) [] caps] [.arr (fQ l) 1] (.tup []) [.arr (fQ l) 1] := by
  refine dA T Tryz.func263 rfl rfl rfl rfl ?_
  (repeat' (first|refine wS ?_|refine wB ?_|(refine iA 0 rfl rfl rfl (by omega) (by omega) ?_)|refine nZ ?_));refine dR (X := Unit) (fun _ => [(0,.sl 0 0 l.length 1),(1,.i l.length),(2,.i l.length),(8,.i ((l.length : Int) + 1))]) (fun _ => [.arr (fQ l) 1]) (fun _ => 0) () ⟨[0],rfl,by (repeat (first | exact trivial | refine ⟨rfl,?_⟩)),⟨.inr (bM rfl rfl (fA _)),trivial⟩,by decide,C0⟩ ?_
  intro _;dsimp only
  (repeat' (first|refine wS ?_|refine wE ?_|(refine wC rfl ?_ ?_<;>(intro hb;(try simp only [nm] at hb);try (exfalso;omega)))|(refine rg 1 (dS rfl (vV (bE rfl rfl) ?_)))|refine nZ ?_));all_goals first | (exfalso;omega) | exact ⟨.inl rfl,[0],_,rfl,rfl,rfl,⟨.inr (bM rfl rfl (fA _)),trivial⟩,by decide,C0⟩ | exact ⟨.inr rfl,[0],_,rfl,rfl,rfl,⟨.inr (bM rfl rfl (fA _)),trivial⟩,by decide,C0⟩
theorem zC9 {F : FuncId} {caps : List AV} {key : Int → Int} (l : List Int) (hl : l.length ≤ 100000) (hn : 0 < l.length) (hi : AV.idfL caps = true)
    (hF : ∀ x y,x ∈ l → y ∈ l → bI Tryz.prog F (.i x :: .i y :: caps) [] (.i (IH (key x) (key y))) []) :
    bI Tryz.prog 263 [.sl 0 0 l.length 1,.i 0,.i l.length,.clo (.func F) [] caps] [.arr (fQ l) 1] (.tup []) [.arr (fQ (jZ key l)) 1] := by
  refine dA T Tryz.func263 rfl rfl rfl rfl ?_
  (repeat' (first|refine wS ?_|refine wB ?_|(refine iA 0 rfl rfl rfl (by omega) (by omega) ?_)|refine nZ ?_));have h1e : CZ key l 1 = l := by
    unfold CZ;obtain ⟨a,r,rfl⟩ : ∃ a r,l = a :: r := by
      cases l with
      | nil => simp at hn
      | cons a r => exact ⟨a,r,rfl⟩
    simp [jZ,mS]
  refine dR (X := {i : Nat // 1 ≤ i ∧ i ≤ l.length}) (fun i => [(0,.sl 0 0 l.length 1),(1,.i 0),(2,.i l.length),(3,.clo (.func F) [] caps),(8,.i i.1)]) (fun i => [.arr (fQ (CZ key l i.1)) 1]) (fun i => l.length - i.1) ⟨1,by omega,by omega⟩ ⟨[0],rfl,⟨rfl,rfl,rfl,by rw [iP hi];rfl,rfl,trivial⟩,⟨.inr (bM rfl (by dsimp only;rw [h1e]) (fA _)),trivial⟩,by decide,C0⟩ ?_
  rintro ⟨i,h1,h2⟩;dsimp only;by_cases hil : i < l.length
  · (repeat' (first|refine wS ?_|refine wB ?_|refine wK ?_|(refine wC rfl (fun hb => ?_) (fun hb => ?_) <;> (((try simp only [nm] at hb);try (exfalso;omega))))|(refine rg 1 (dS rfl (vV (bE rfl rfl) ?_)))|(refine rg 3 (mW rfl (aV ?_)))|(refine nZ ?_)));all_goals try (exfalso;omega)
    obtain ⟨x,hx⟩ : ∃ x,l[i]? = some x := ⟨_,aC hil⟩;have hxl := aJ hx;obtain ⟨s1,s2⟩ := OX (k := key) hil hx;refine dR (X := {q : List Int × List Int // ZT key l i x q}) (fun q => [(0,.sl 0 0 l.length 1),(1,.i 0),(2,.i l.length),(3,.clo (.func F) [] caps),(8,.i i),(9,.i (q.1.1.length : Int))]) (fun q => [.arr (fQ (xI l i x q.1)) 1]) (fun q => q.1.1.length) ⟨_,s1⟩ ⟨[0],rfl,⟨rfl,rfl,rfl,by rw [iP hi];rfl,rfl,by dsimp only;rw [vA,bT,tQ (by omega)];rfl,trivial⟩,⟨.inr (bM rfl (by dsimp only;rw [s2]) (fA _)),trivial⟩,by decide,C0⟩ ?_
    rintro ⟨⟨S1,S2⟩,hq⟩;dsimp only;have hln := MQ hq hil;dsimp only at hln;have hlen := SX hq hil;rcases List.eq_nil_or_concat S1 with rfl | ⟨S,y,rfl⟩
    · have ee := SV hq hil hx (fun y hy => by cases hy)
      generalize xI l i x ([],S2) = L at *
      (repeat' (first|refine wS ?_|refine wE ?_|refine wU ?_|(refine cS (id := 4) 53 zR7 (rM 18 17) zR8 dZ rfl (by decide +kernel) (dN rfl (dN rfl (dV rfl (gH rfl rfl) (dN rfl (tG rfl (tG rfl (tG rfl (tG rfl (dG ?_)))))))));refine tG rfl (tG rfl (tG rfl (tG rfl (tG rfl (tG rfl (tG rfl (dV rfl (fS rfl rfl) (dE ?_)))))))))|(refine iA 2 rfl rfl rfl (by omega) (by omega) ?_)|refine nZ ?_));all_goals first | (exfalso;omega) | exact ⟨⟨i + 1,by omega,by omega⟩,by dsimp only;omega,⟨[0],rfl,⟨rfl,rfl,rfl,by rw [iP hi];rfl,rfl,trivial⟩,⟨.inr (bM rfl (by dsimp only;rw [ee]) (fA _)),trivial⟩,by decide,C0⟩⟩
    · rw [List.concat_eq_append] at *;have hy : y ∈ l := by
        have h3 : y ∈ jZ key (l.take i) := by rw [← hq.eq];simp
        exact gB (sC.1 h3)
      have hc := hF x y hxl hy;have hL : xI l i x (S ++ [y],S2) = S ++ y :: x :: (S2 ++ l.drop (i + 1)) := by unfold xI;simp
      have hJ : ((S ++ [y]).length : Int) = ((S.length + 1 : Nat) : Int) := by simp
      have q1 := SO (L := xI l i x (S ++ [y],S2)) (j := ((S ++ [y]).length : Int)) (i := S.length + 1) (x := x) (by rw [hL,show S ++ y :: x :: (S2 ++ l.drop (i + 1)) = (S ++ [y]) ++ x :: (S2 ++ l.drop (i + 1)) by simp];exact KO _ _ _ (by simp)) hJ
      have q2 := SO (L := xI l i x (S ++ [y],S2)) (j := ((S ++ [y]).length : Int) - 1) (i := S.length) (x := y) (by rw [hL];exact KO _ _ _ rfl) (by omega)
      by_cases h0 : key x < key y
      · have ee := SW hq rfl h0;have hz : IH (key x) (key y) < 0 := UH.2 h0;have t1 := SN (L := xI l i x (S ++ [y],S2)) (j := ((S ++ [y]).length : Int)) (i := S.length + 1) (x := y) hJ;have e1 : (xI l i x (S ++ [y],S2)).set (S.length + 1) y = S ++ y :: y :: (S2 ++ l.drop (i + 1)) := by
          rw [hL,show S ++ y :: x :: (S2 ++ l.drop (i + 1)) = (S ++ [y]) ++ x :: (S2 ++ l.drop (i + 1)) by simp,MP _ _ _ _ (by simp)];simp
        rw [e1] at t1;have q3 := SO (L := S ++ y :: y :: (S2 ++ l.drop (i + 1))) (j := ((S ++ [y]).length : Int) - 1) (i := S.length) (x := y) (KO _ _ _ rfl) (by omega)
        have t2 := SN (L := S ++ y :: y :: (S2 ++ l.drop (i + 1))) (j := ((S ++ [y]).length : Int) - 1) (i := S.length) (x := x) (by omega)
        rw [MP _ _ _ _ rfl,show S ++ x :: y :: (S2 ++ l.drop (i + 1)) = xI l i x (S,y :: S2) by unfold xI;simp,← t1] at t2
        rw [← t1] at q3;have hJ2 : ((S ++ [y]).length : Int) - 1 = (S.length : Int) := by omega
        have hJ3 : ((S ++ [y]).length : Int) < l.length := by omega
        have hJ4 : (0 : Int) < ((S ++ [y]).length : Int) := by omega
        clear hJ hL;generalize ((S ++ [y]).length : Int) = J at *;generalize IH (key x) (key y) = z at *;generalize xI l i x (S ++ [y],S2) = L at *
        (repeat' (first|refine wS ?_|refine wB ?_|refine wK ?_|(refine wC rfl ?_ ?_<;>(intro hb;(try simp only [nm] at hb);try (exfalso;omega)))|(refine cS (id := 4) 53 zR7 (rM 18 17) zR8 dZ rfl (by decide +kernel) (dN rfl (dN rfl (dV rfl (gH rfl rfl) (dM ?_))));refine tC rfl rfl rfl rfl ?_ ?_<;>(intro hb;rw [hb];(try simp only [nm] at hb);try (exfalso;omega))<;>(refine tM ?_);(all_goals (refine tN rfl (tN rfl (dT rfl (by exact bQ T rfl rfl rfl rfl rfl (by omega) (by omega)) ?_));refine dT rfl (by exact aX T rfl rfl (pK rfl q1) rfl) ?_;refine tN rfl (tN rfl (dT rfl (fX rfl rfl (by omega) (by omega)) (dT rfl (by exact bQ T rfl rfl rfl rfl rfl (by omega) (by omega)) ?_)));refine dT rfl (by exact aX T rfl rfl (pK rfl q2) rfl) ?_;refine dT rfl (by exact dB rfl rfl hc rfl (by simp [AV.idfL,AV.idf,hi]) rfl) ?_;refine dT rfl (bE rfl rfl) (dV rfl (kM rfl rfl) (dE ?_)))))|(refine PW (id := 6) 53 [[],[],[],[],[3],[],[],[6],[5,6,7],rM 5 4,[],[],[10,11],[10,11,12],[0,1,5,6,7,8,9,10,11,12,13],[0,1,5,6,7,8,9,10,11,12,13,14]] (rM 37 15) [[],[37],[37,38],[37,38,39],[37,38,39],rM 37 5,rM 37 6,rM 37 6,rM 37 5,rM 37 5,rM 37 10,rM 37 11,rM 37 10,rM 37 10,[39,40,41],[39,40,41]] [(15,0)] dZ rfl (by decide +kernel) (tB rfl rfl rfl rfl (by exact fD rfl) ?_);refine tB rfl rfl rfl rfl (by exact fD rfl) ?_;refine tB rfl rfl rfl rfl (by exact fD rfl) ?_;refine tB rfl rfl rfl rfl (by exact fD rfl) ?_;refine tB rfl rfl rfl rfl (by exact fX rfl rfl (by omega) (by omega)) ?_;refine tB rfl rfl rfl rfl (by exact fD rfl) ?_;refine tB rfl rfl rfl rfl (by exact fD rfl) ?_;refine tB rfl rfl rfl rfl (by exact fX rfl rfl (by omega) (by omega)) ?_;refine tB rfl rfl rfl rfl (by exact bQ T rfl rfl rfl rfl rfl (by omega) (by omega)) ?_;refine tB rfl rfl rfl rfl (by exact aX T rfl rfl (pK rfl q2) rfl) ?_;refine tB rfl rfl rfl rfl (by exact fD rfl) ?_;refine tB rfl rfl rfl rfl (by exact fD rfl) ?_;refine tB rfl rfl rfl rfl (by exact bQ T rfl rfl rfl rfl rfl (by omega) (by omega)) ?_;refine tB rfl rfl rfl rfl (by exact aX T rfl rfl (pK rfl q1) rfl) ?_;refine tB rfl rfl rfl rfl (by exact bQ T rfl rfl rfl rfl rfl (by omega) (by omega)) ?_;refine zD8 rfl rfl rfl rfl (bC rfl) T rfl rfl rfl rfl rfl rfl (by decide) (WC rfl q1 rfl) ?_;refine YL rfl rfl rfl (by exact rfl) ?_;refine vV (by exact bQ T rfl rfl rfl rfl rfl (by omega) (by omega)) ?_;refine bA T rfl rfl rfl rfl rfl rfl (by decide) (QS rfl q3 rfl) ?_)|(refine rg 5 (mW rfl (vV (fX rfl rfl (by omega) (by omega)) (aV ?_))))|refine nZ ?_));all_goals first | (exfalso;omega) | exact ⟨⟨_,ee⟩,by dsimp only;simp,⟨[0],rfl,⟨rfl,rfl,rfl,by rw [iP hi];rfl,rfl,by dsimp only;rw [← hJ2];try rfl,trivial⟩,⟨.inr (bM rfl (by dsimp only;rw [← t2];try rfl) (fA _)),trivial⟩,by decide,C0⟩⟩
      · have ee := SV hq hil hx (XN hq rfl h0);have hz : ¬ IH (key x) (key y) < 0 := fun e => h0 (UH.1 e);have hJ3 : ((S ++ [y]).length : Int) < l.length := by omega
        have hJ4 : (0 : Int) < ((S ++ [y]).length : Int) := by omega
        clear hJ hL;generalize ((S ++ [y]).length : Int) = J at *;generalize IH (key x) (key y) = z at *;generalize xI l i x (S ++ [y],S2) = L at *
        (repeat' (first|refine wS ?_|refine wE ?_|(refine wC rfl ?_ ?_<;>(intro hb;(try simp only [nm] at hb);try (exfalso;omega)))|(refine cS (id := 4) 53 zR7 (rM 18 17) zR8 dZ rfl (by decide +kernel) (dN rfl (dN rfl (dV rfl (gH rfl rfl) (dM ?_))));refine tC rfl rfl rfl rfl ?_ ?_<;>(intro hb;rw [hb];(try simp only [nm] at hb);try (exfalso;omega))<;>(refine tM ?_);(all_goals (refine tN rfl (tN rfl (dT rfl (by exact bQ T rfl rfl rfl rfl rfl (by omega) (by omega)) ?_));refine dT rfl (by exact aX T rfl rfl (pK rfl q1) rfl) ?_;refine tN rfl (tN rfl (dT rfl (fX rfl rfl (by omega) (by omega)) (dT rfl (by exact bQ T rfl rfl rfl rfl rfl (by omega) (by omega)) ?_)));refine dT rfl (by exact aX T rfl rfl (pK rfl q2) rfl) ?_;refine dT rfl (by exact dB rfl rfl hc rfl (by simp [AV.idfL,AV.idf,hi]) rfl) ?_;refine dT rfl (bE rfl rfl) (dV rfl (kM rfl rfl) (dE ?_)))))|(refine iA 2 rfl rfl rfl (by omega) (by omega) ?_)|refine nZ ?_));all_goals first | (exfalso;omega) | exact ⟨⟨i + 1,by omega,by omega⟩,by dsimp only;omega,⟨[0],rfl,⟨rfl,rfl,rfl,by rw [iP hi];rfl,rfl,trivial⟩,⟨.inr (bM rfl (by dsimp only;rw [ee]) (fA _)),trivial⟩,by decide,C0⟩⟩
  · obtain rfl : i = l.length := by omega
    have ee : CZ key l l.length = jZ key l := by unfold CZ;simp
    (repeat' (first|refine wS ?_|refine wE ?_|(refine wC rfl ?_ ?_<;>(intro hb;(try simp only [nm] at hb);try (exfalso;omega)))|(refine rg 1 (dS rfl (vV (bE rfl rfl) ?_)))|refine nZ ?_));all_goals first | (exfalso;omega) | exact ⟨.inl rfl,[0],_,rfl,rfl,rfl,⟨.inr (bM rfl (by rw [ee]) (fA _)),trivial⟩,by decide,C0⟩ | exact ⟨.inr rfl,[0],_,rfl,rfl,rfl,⟨.inr (bM rfl (by rw [ee]) (fA _)),trivial⟩,by decide,C0⟩
end Go.Proofs.YtdfmhddmddgniaaGreatDoor
namespace Go.Or
open Go Go.Ab
theorem OB {ls : List Lo} {bs : List Bo} {w : Wt} {k : Nat} : oK ls bs w (k + 1) = if 0 < cnt bs k ∧ lJ ls (bs.getD k (0,0,0)) w = true then oK ls bs w k ++ [(k : Int)] else oK ls bs w k := by
  unfold oK zP;rw [CU,dI,H8];by_cases h : 0 < cnt bs k ∧ lJ ls (bs.getD k (0,0,0)) w = true
  · rw [if_pos h];have h2 : lJ ls (bs[k]?.getD (0,0,0)) w = true := by simpa using h.2
    simp [h.1,h2]
  · rw [if_neg h];have : ¬ (0 < cnt bs k ∧ lJ ls (bs[k]?.getD (0,0,0)) w = true) := by simpa using h
    simp only [List.map_cons,List.map_nil,jD,zG7,bN,aD,aN,decide_eq_true_eq,if_neg this,List.append_nil]
theorem zN {bs : List Bo} {k : Nat} (h : k < bs.length) : (eY bs)[(k : Int).toNat]? = some [AV.i (bs.getD k (0,0,0)).1,AV.i (bs.getD k (0,0,0)).2.1,AV.i (bs.getD k (0,0,0)).2.2] := by
  rw [zF3 h,aD,aC h];rfl
theorem EI {bs : List Bo} {j : Int} (h0 : 0 ≤ j) (h : j < bs.length) : (eY bs)[j.toNat]? = some [AV.i (bs.getD j.toNat (0,0,0)).1,AV.i (bs.getD j.toNat (0,0,0)).2.1,AV.i (bs.getD j.toNat (0,0,0)).2.2] := by
  have := zN (bs := bs) (k := j.toNat) (by omega)
  rw [bN] at this;exact this
theorem DQ {ls : List Lo} {j : Int} (h0 : 0 ≤ j) (h : j < ls.length) : (iX ls)[j.toNat]? = some [AV.i (ls.getD j.toNat (0,0,false)).1,AV.i (ls.getD j.toNat (0,0,false)).2.1,AV.b (ls.getD j.toNat (0,0,false)).2.2] := by
  have := XQ (l := ls) (k := j.toNat) (by omega)
  rw [this,aD,aC (by omega)];rfl
def yS (ls : List Lo) (bs : List Bo) : Prop := ∀ i : Nat,i < bs.length → -1 ≤ (bs.getD i (0,0,0)).1 ∧ (bs.getD i (0,0,0)).1 < ls.length
theorem T9 (l : List Int) (x : Int) : (List.take l.length (List.drop 0 (fQ l))) ++ [[AV.i x]] = fQ (l ++ [x]) := by
  rw [cP,aQ (by simp)];simp
end Go.Or
namespace Go.Proofs.YtdfmhddmddgniaaGreatDoor
open Go Go.Ab Go.Or
attribute [local irreducible] VC AW bJ bI
set_option maxHeartbeats 4000000
theorem NC (l : Lo) (w : Wt) : bI Tryz.prog 63 [.agg [.i l.1,.i l.2.1,.b l.2.2],.agg [.i w.1,.i w.2.1,.i w.2.2]] [] (.b (CN l w)) [] := by
  obtain ⟨k,e,f⟩ := l;obtain ⟨a,b,c⟩ := w;dsimp only;unfold CN;dsimp only;cases f
  all_goals
    refine dA T Tryz.func63 rfl rfl rfl rfl ?_
    (repeat' (first|refine wS ?_|refine wR ?_|(refine rg 0 (dQ (fE rfl rfl) rfl (dQ (fE rfl rfl) rfl (aV ?_))))|(refine rg 1 (eT T rfl (eT T rfl (vV (cW rfl rfl) (mV ?_))));refine bP rfl rfl ?_ ?_<;>(intro hb;rw [hb];(try simp only [nm] at hb);try (exfalso;omega));(all_goals first|(refine gT (fW T rfl (gT (lW T rfl (gT (vV (cV rfl) ?_))))))|(iterate 3 refine gF ?_));(all_goals (refine pW rfl (mV ?_)));(all_goals first|(refine gT (fW T rfl (gT (lW T rfl (gT (fW T rfl (gT (lW T rfl (gT (vV (eN rfl rfl) ?_))))))))))|(iterate 5 refine gF ?_));(all_goals (refine pW rfl (aV ?_))))|refine nZ ?_));all_goals first | (exfalso;omega) | exact eP (.inl rfl) rfl (B6 (by first | rfl | (simp;omega) | (simp [*];done)))
theorem YI (ls : List Lo) (b : Bo) (w : Wt) (hl : ls.length ≤ 1000000) (hb : b.1 < ls.length) : bI Tryz.prog 192 [.rowE (iX ls) 3,.agg [.i b.1,.i b.2.1,.i b.2.2],.agg [.i w.1,.i w.2.1,.i w.2.2]] [] (.b (lJ ls b w)) [] := by
  obtain ⟨l,n,t⟩ := b;dsimp only at hb ⊢;have hll := pJ ls;unfold lJ;dsimp only;by_cases h0 : 0 ≤ l
  · rw [decide_eq_true h0,kK];have hg := DQ h0 hb;have hc := NC (ls.getD l.toNat (0,0,false)) w;generalize ls.getD l.toNat (0,0,false) = x at *;refine dA T Tryz.func192 rfl rfl rfl rfl ?_
    (repeat' (first|refine wS ?_|refine wR ?_|(refine rg 0 (dQ (fE rfl rfl) rfl (dQ (fE rfl rfl) rfl (aV ?_))))|(refine cS (id := 1) 19 zR9 (rM 7 12) zS0 dZ rfl (by decide +kernel) (dP T rfl (dO T rfl (dV rfl (eN rfl rfl) (dM ?_))));refine tC rfl rfl rfl rfl ?_ ?_<;>(intro hb;rw [hb];(try simp only [nm] at hb);try (exfalso;omega))<;>(refine tM ?_);(all_goals (refine tP T rfl (tO T rfl (dT rfl (ix T rfl (by omega) (pA ls) hg) (tO T rfl (tO T rfl (dT rfl (kC (hc)) (dV rfl (kM rfl rfl) (dE ?_)))))));refine aV ?_)))|refine nZ ?_));all_goals first | (exfalso;omega) | exact rQ
  · rw [decide_eq_false h0,jQ];refine dA T Tryz.func192 rfl rfl rfl rfl ?_
    (repeat' (first|refine wS ?_|refine wR ?_|(refine rg 0 (dQ (fE rfl rfl) rfl (dQ (fE rfl rfl) rfl (aV ?_))))|(refine cS (id := 1) 19 zR9 (rM 7 12) zS0 dZ rfl (by decide +kernel) (dP T rfl (dO T rfl (dV rfl (eN rfl rfl) (dM ?_))));refine tC rfl rfl rfl rfl ?_ ?_<;>(intro hb;rw [hb];(try simp only [nm] at hb);try (exfalso;omega))<;>(refine dG ?_);(all_goals (refine tG rfl (tG rfl (tG rfl (tG rfl (tG rfl (tG rfl (dV rfl (fS rfl rfl) (dE ?_)))))));refine aV ?_)))|refine nZ ?_));all_goals first | (exfalso;omega) | exact rQ
theorem zC5 (ls : List Lo) (bs : List Bo) (i k : Int) (hl : ls.length ≤ 1000000) (hbl : bs.length ≤ 1000000) (hi : 0 ≤ i ∧ i < bs.length) (hk : 0 ≤ k ∧ k < bs.length)
    (h1 : 0 ≤ (bs.getD i.toNat (0,0,0)).1 ∧ (bs.getD i.toNat (0,0,0)).1 < ls.length) (h2 : 0 ≤ (bs.getD k.toNat (0,0,0)).1 ∧ (bs.getD k.toNat (0,0,0)).1 < ls.length) :
    bI Tryz.prog 194 [.i i,.i k,.pr [.rowE (iX ls) 3] 0,.pr [.rowE (eY bs) 3] 0] [] (.i (IH (rS ls bs i) (rS ls bs k))) [] := by
  have hll := pJ ls;have hbb := fM bs;have q1 := EI hi.1 hi.2;have q2 := EI hk.1 hk.2;unfold rS;generalize bs.getD i.toNat (0,0,0) = x at *;generalize bs.getD k.toNat (0,0,0) = y at *;have q3 := DQ h1.1 h1.2;have q4 := DQ h2.1 h2.2;generalize ls.getD x.1.toNat (0,0,false) = u at *;generalize ls.getD y.1.toNat (0,0,false) = v at *;have hc := zE8 u.2.1 v.2.1;refine dA T Tryz.func194 rfl rfl rfl rfl ?_
  (repeat' (first|refine wS ?_|refine wR ?_|(refine rg 0 (aV ?_))|(refine cS (id := 1) 26 zS1 (rM 7 19) [[],[7],[7,8],[7],[7],[7],[],[],[],rM 7 9,rM 7 10,rM 7 11,rM 7 10,rM 7 10,rM 7 10,rM 7 9,rM 7 9,rM 7 9,[]] dZ rfl (by decide +kernel) (dO T rfl (dO T rfl (dN rfl (dV rfl (ix T rfl (by omega) (fZ bs) q1) (dP T rfl (dO T rfl (dV rfl (ix T rfl (by omega) (pA ls) q3) (dP T rfl (dL T ?_)))))))));refine dO T rfl (dO T rfl (dN rfl (dV rfl (ix T rfl (by omega) (fZ bs) q2) (dP T rfl (dO T rfl (dV rfl (ix T rfl (by omega) (pA ls) q4) (dP T rfl (dO T rfl (dV rfl (kC (hc)) ?_)))))))));refine dE ?_;refine aV ?_)|refine nZ ?_));all_goals first | (exfalso;omega) | exact rQ
theorem NX {F : FuncId} {caps : List AV} {key : Int → Int} (l : List Int) (hl : l.length ≤ 20) (hi : AV.idfL caps = true)
    (hF : ∀ x y,x ∈ l → y ∈ l → bI Tryz.prog F (.i x :: .i y :: caps) [] (.i (IH (key x) (key y))) []) :
    bI Tryz.prog 236 [.sl 0 0 l.length 1,.i l.length,.clo (.func F) [] caps] [.arr (fQ l) 1] (.tup []) [.arr (fQ (jZ key l)) 1] := by
  have hs : (jZ key l).length = l.length := vA;by_cases h0 : l.length = 0
  · obtain rfl : l = [] := iR.1 h0;have c1 := CE (F := F) (caps := caps) [] (by decide) hi
    refine dA T Tryz.func236 rfl rfl rfl rfl ?_
    (repeat' (first|refine wS ?_|refine wB ?_|(refine rg 0 (aV ?_))|(refine rg 1 (mW rfl (kJ ?_)))|refine nZ ?_));refine dR (X := Unit) (fun _ => [(0,.sl 0 0 0 1),(1,.i 0),(2,.clo (.func F) [] caps),(6,.i 20),(7,.i 0),(8,.i 20)]) (fun _ => [.arr (fQ []) 1]) (fun _ => 0) () ⟨[0],rfl,⟨rfl,rfl,by rw [iP hi];rfl,rfl,rfl,rfl,trivial⟩,⟨.inr rfl,trivial⟩,by decide,C0⟩ ?_
    intro _;dsimp only
    (repeat' (first|refine wS ?_|refine wB ?_|refine wE ?_|refine wU ?_|(refine rg 2 (dS rfl (vV (kQ rfl rfl) ?_)))|(refine rg 6 (dS rfl (dS rfl (bR [0] rfl rfl c1 (by simp only [AV.mapL,iP hi];rfl) rfl (by decide) ⟨.inr rfl,trivial⟩ (by simp) rfl ?_))))|refine nZ ?_));all_goals try (exfalso;omega)
    refine dR (X := Unit) (fun _ => [(0,.sl 0 0 0 1),(1,.i 0),(6,.i 20)]) (fun _ => [.arr (fQ []) 1]) (fun _ => 0) () ⟨[0],rfl,⟨rfl,rfl,rfl,trivial⟩,⟨.inr rfl,trivial⟩,by decide,C0⟩ ?_
    intro _;dsimp only
    (repeat' (first|refine wS ?_|refine wE ?_|refine wU ?_|(refine rg 7 (dS rfl (vV (bE rfl rfl) ?_)))|refine nZ ?_));all_goals first | (exfalso;omega) | exact ⟨.inl rfl,[0],_,rfl,rfl,rfl,⟨.inr rfl,trivial⟩,by decide,C0⟩ | exact ⟨.inr rfl,[0],_,rfl,rfl,rfl,⟨.inr rfl,trivial⟩,by decide,C0⟩
  have hn : 0 < l.length := by omega
  have c2 := zC9 (F := F) (caps := caps) (key := key) l (by omega) hn hi hF
  have c3 := CE (F := F) (caps := caps) (jZ key l) (by omega) hi
  rw [hs] at c3;rcases gP l.length 20 with hlt | hge
  · refine dA T Tryz.func236 rfl rfl rfl rfl ?_
    (repeat' (first|refine wS ?_|refine wB ?_|(refine rg 0 (aV ?_))|(refine rg 1 (mW rfl (kJ ?_)))|refine nZ ?_));refine dR (X := Unit) (fun _ => [(0,.sl 0 0 l.length 1),(1,.i l.length),(2,.clo (.func F) [] caps),(6,.i 20),(7,.i 0),(8,.i 20)]) (fun _ => [.arr (fQ l) 1]) (fun _ => 0) () ⟨[0],rfl,⟨rfl,rfl,by rw [iP hi];rfl,rfl,rfl,rfl,trivial⟩,⟨.inr (bM rfl rfl (fA _)),trivial⟩,by decide,C0⟩ ?_
    intro _;dsimp only
    (repeat' (first|refine wS ?_|refine wB ?_|refine wE ?_|(refine wC rfl ?_ ?_<;>(intro hb;(try simp only [nm] at hb);try (exfalso;omega)))|(refine rg 2 (dS rfl (vV (kQ rfl rfl) ?_)))|(refine rg 6 (dS rfl (dS rfl (bR [0] rfl rfl c2 (by simp only [AV.mapL,iP hi];rfl) rfl (by decide) ⟨.inr (bM rfl rfl (fA _)),trivial⟩ (by simp) rfl ?_))))|refine nZ ?_));all_goals try (exfalso;omega)
    refine dR (X := Unit) (fun _ => [(0,.sl 0 0 l.length 1),(1,.i l.length),(6,.i 20)]) (fun _ => [.arr (fQ (jZ key l)) 1]) (fun _ => 0) () ⟨[0],rfl,⟨rfl,rfl,rfl,trivial⟩,⟨.inr (bM rfl (jI _ (fA _)) (fA _)),trivial⟩,by decide,C0⟩ ?_
    intro _;dsimp only
    (repeat' (first|refine wS ?_|refine wE ?_|(refine wC rfl ?_ ?_<;>(intro hb;(try simp only [nm] at hb);try (exfalso;omega)))|(refine rg 7 (dS rfl (vV (bE rfl rfl) ?_)))|refine nZ ?_));all_goals first | (exfalso;omega) | exact ⟨.inl rfl,[0],_,rfl,rfl,rfl,⟨.inr (bM rfl rfl (fA _)),trivial⟩,by decide,C0⟩ | exact ⟨.inr rfl,[0],_,rfl,rfl,rfl,⟨.inr (bM rfl rfl (fA _)),trivial⟩,by decide,C0⟩
  · have h20 : l.length = 20 := by omega
    refine dA T Tryz.func236 rfl rfl rfl rfl ?_
    (repeat' (first|refine wS ?_|refine wB ?_|(refine rg 0 (aV ?_))|(refine rg 1 (mW rfl (kJ ?_)))|refine nZ ?_));refine dR (X := Bool) (fun b => [(0,.sl 0 0 l.length 1),(1,.i l.length),(2,.clo (.func F) [] caps),(6,.i 20),(7,.i (cond b 20 0)),(8,.i (cond b 40 20))]) (fun b => [.arr (fQ (cond b (jZ key l) l)) 1]) (fun b => cond b 0 1) false ⟨[0],rfl,⟨rfl,rfl,by rw [iP hi];rfl,rfl,rfl,rfl,trivial⟩,⟨.inr (bM rfl rfl (fA _)),trivial⟩,by decide,C0⟩ ?_
    rw [h20] at c2 c3;rintro (_ | _)
    · dsimp only [cond]
      (repeat' (first|refine wS ?_|refine wB ?_|refine wK ?_|(refine wC rfl ?_ ?_<;>(intro hb;(try simp only [nm] at hb);try (exfalso;omega)))|(refine rg 2 (dS rfl (vV (kQ rfl rfl) ?_)))|(refine rg 3 (dS rfl (dS rfl (bR [0] rfl rfl c2 (by rw [h20];simp only [AV.mapL,iP hi];rfl) rfl (by decide) ⟨.inr (bM rfl rfl (fA _)),trivial⟩ (by simp) rfl ?_))))|(refine rg 4 (mW rfl (aV ?_)))|(refine rg 5 (dS rfl (vV (eD rfl rfl (by omega) (by omega)) (aV ?_))))|refine nZ ?_));all_goals first | (exfalso;omega) | exact ⟨true,by decide,⟨[0],rfl,⟨rfl,rfl,by rw [iP hi];rfl,rfl,rfl,rfl,trivial⟩,⟨.inr (bM rfl (jI _ (fA _)) (fA _)),trivial⟩,by decide,C0⟩⟩
    · dsimp only [cond]
      (repeat' (first|refine wS ?_|refine wB ?_|refine wE ?_|(refine wC rfl ?_ ?_<;>(intro hb;(try simp only [nm] at hb);try (exfalso;omega)))|(refine rg 2 (dS rfl (vV (kQ rfl rfl) ?_)))|(refine rg 6 (dS rfl (dS rfl (bR [0] rfl rfl c3 (by rw [h20];simp only [AV.mapL,iP hi];rfl) rfl (by decide) ⟨.inr (bM rfl rfl (fA _)),trivial⟩ (by simp) rfl ?_))))|refine nZ ?_));all_goals try (exfalso;omega)
      refine dR (X := Unit) (fun _ => [(0,.sl 0 0 l.length 1),(1,.i l.length),(6,.i 20)]) (fun _ => [.arr (fQ (jZ key l)) 1]) (fun _ => 0) () ⟨[0],rfl,⟨rfl,rfl,rfl,trivial⟩,⟨.inr (bM rfl (jI _ (fA _)) (fA _)),trivial⟩,by decide,C0⟩ ?_
      intro _;dsimp only
      (repeat' (first|refine wS ?_|refine wE ?_|(refine wC rfl ?_ ?_<;>(intro hb;(try simp only [nm] at hb);try (exfalso;omega)))|(refine rg 7 (dS rfl (vV (bE rfl rfl) ?_)))|refine nZ ?_));all_goals first | (exfalso;omega) | exact ⟨.inl rfl,[0],_,rfl,rfl,rfl,⟨.inr (bM rfl rfl (fA _)),trivial⟩,by decide,C0⟩ | exact ⟨.inr rfl,[0],_,rfl,rfl,rfl,⟨.inr (bM rfl rfl (fA _)),trivial⟩,by decide,C0⟩
theorem Z8 {F : FuncId} {caps : List AV} {key : Int → Int} (l : List Int) (hl : l.length ≤ 20) (hi : AV.idfL caps = true)
    (hF : ∀ x y,x ∈ l → y ∈ l → bI Tryz.prog F (.i x :: .i y :: caps) [] (.i (IH (key x) (key y))) []) :
    bI Tryz.prog 193 [.sl 0 0 l.length 1,.clo (.func F) [] caps] [.arr (fQ l) 1] (.tup []) [.arr (fQ (jZ key l)) 1] := by
  have c1 := NX (F := F) (caps := caps) (key := key) l hl hi hF;refine dA T Tryz.func193 rfl rfl rfl rfl ?_
  (repeat' (first|(refine rg 0 (dS rfl (qW T rfl (mW rfl (bR [0] rfl rfl c1 (by simp only [AV.mapL,iP hi];rfl) rfl (by decide) ⟨.inr (bM rfl rfl (fA _)),trivial⟩ (by simp) rfl ?_)))))|refine nZ ?_));all_goals first | (exfalso;omega) | exact ⟨.inl rfl,[0],_,rfl,rfl,rfl,⟨.inr (bM rfl (jI _ (fA _)) (fA _)),trivial⟩,by decide,C0⟩ | exact ⟨.inr rfl,[0],_,rfl,rfl,rfl,⟨.inr (bM rfl (jI _ (fA _)) (fA _)),trivial⟩,by decide,C0⟩
theorem WZ (ls : List Lo) (bs : List Bo) (w : Wt) (hl : ls.length ≤ 1000000) (hb : bs.length ≤ 20) (hk : yS ls bs) :
    bI Tryz.prog 140 [.rowE (iX ls) 3,.rowE (eY bs) 3,.agg [.i w.1,.i w.2.1,.i w.2.2]] [] (.sl 0 0 (oH ls bs w).length 1) [.arr (fQ (oH ls bs w)) 1] := by
  have hll := pJ ls;have hbb := fM bs;have hsl := R2 (ls := ls) (bs := bs) (w := w) (n := bs.length);have hso : (oH ls bs w).length = (oK ls bs w bs.length).length := vA;have hmem : ∀ x,x ∈ oK ls bs w bs.length → (0 ≤ x ∧ x < bs.length) ∧ 0 ≤ (bs.getD x.toNat (0,0,0)).1 ∧ (bs.getD x.toNat (0,0,0)).1 < ls.length := fun x hx => by
    have h1 := sT.1 (show x ∈ oH ls bs w from sC.2 hx)
    refine ⟨h1.1,?_,(hk x.toNat (by omega)).2⟩
    have h2 := h1.2.2;unfold lJ at h2;simp only [aN,decide_eq_true_eq] at h2;exact h2.1
  have hsrt := Z8 (F := 194) (caps := [.pr [.rowE (iX ls) 3] 0,.pr [.rowE (eY bs) 3] 0]) (key := rS ls bs) (oK ls bs w bs.length) (by omega) rfl fun x y hx hy =>
    zC5 ls bs x y hl (by omega) (hmem x hx).1 (hmem y hy).1 (hmem x hx).2 (hmem y hy).2
  refine dA T Tryz.func140 rfl rfl rfl rfl ?_
  (repeat' (first|refine wS ?_|(refine rg 0 (dQ (fE rfl rfl) rfl (dQ (fE rfl rfl) rfl (dQ (fE rfl rfl) rfl (aV ?_)))))|refine nZ ?_));refine fK 3 (cs := [.rowE (iX ls) 3]) rfl rfl rfl ?_
  refine fK 4 (cs := [.rowE (eY bs) 3]) rfl rfl rfl ?_;refine fK 5 (cs := [.i w.1,.i w.2.1,.i w.2.2]) rfl rfl rfl ?_
  (repeat' (first|refine wS ?_|(refine rg 1 (aV ?_))|refine nZ ?_));refine pY 7 1 rfl (by decide) ?_
  (repeat' (first|refine wB ?_|(refine rg 2 (lW T rfl (qW T rfl (mV ?_))))|refine nZ ?_));refine dR (X := {k : Nat // k ≤ bs.length}) (fun k => [(3,.pr [.rowE (iX ls) 3] 0),(4,.pr [.rowE (eY bs) 3] 0),(5,.pr [.i w.1,.i w.2.1,.i w.2.2] 0),(7,.sl 0 0 (oK ls bs w k.1).length 1),(10,.rowE (eY bs) 3),(11,.i (eY bs).length),(12,.i k.1)]) (fun k => [.arr (fQ (oK ls bs w k.1)) 1]) (fun k => bs.length - k.1) ⟨0,bG _⟩ ⟨[3],rfl,by (repeat (first | exact trivial | refine ⟨rfl,?_⟩)),⟨.inr rfl,trivial⟩,by decide,iK _⟩ ?_
  rintro ⟨k,hk2⟩;dsimp only;by_cases hlt : k < bs.length
  · have hg := zN hlt;have hsk := R2 (ls := ls) (bs := bs) (w := w) (n := k);have hss := OB (ls := ls) (bs := bs) (w := w) (k := k);have hlk := hk k hlt;have hcn : cnt bs k = (bs.getD k (0,0,0)).2.1 := by unfold cnt;rw [bN]
    rw [hcn] at hss;have hnl := lG (oK ls bs w k);generalize bs.getD k (0,0,0) = x at *;have hf := YI ls x w hl hlk.2;generalize oK ls bs w k = S at *;by_cases hc : 0 < x.2.1 ∧ lJ ls x w = true
    · rw [if_pos hc] at hss;rw [hc.2] at hf;have hc1 := hc.1;obtain ⟨xl,xc,xt⟩ := x;dsimp only at *
      (repeat' (first|refine wS ?_|refine wB ?_|refine wK ?_|refine wT ?_|(refine wC rfl ?_ ?_<;>(intro hb;(try simp only [nm] at hb);try (exfalso;omega)))|(refine rg 3 (vV (bE rfl rfl) ?_))|(refine rg 4 (mW rfl (vV (ix T rfl (by omega) (fZ bs) hg) (lW T rfl (dQ (dC T rfl) rfl (aW rfl (bA T rfl rfl rfl rfl rfl rfl (by decide) rfl ?_)))))))|(refine rg 5 (eT T rfl (vV (gH rfl rfl) (mV ?_)));refine bP rfl rfl ?_ ?_<;>(intro hb;rw [hb];(try simp only [nm] at hb);try (exfalso;omega));(all_goals (refine yO T rfl (yO T rfl (yO T rfl (yV (kC (hf)) (pV ?_)))))))|(refine rg 6 (dS rfl (dQ (by exact bO T rfl rfl (by decide) (by decide) rfl rfl rfl) rfl ?_));refine fH T rfl rfl rfl rfl rfl rfl (by omega) (jA.whole rfl rfl) rfl (by simp;omega) (by simp;omega) rfl ?_;refine aV ?_)|(refine rg 7 (vV (eD rfl rfl (by omega) (by omega)) (mV ?_)))|refine nZ ?_));all_goals first | (exfalso;omega) | exact ⟨⟨k + 1,hlt⟩,by dsimp only;omega,⟨[3],rfl,⟨rfl,rfl,rfl,by dsimp only;rw [hss,aB];rfl,rfl,rfl,rfl,trivial⟩,⟨.inr (bM rfl (by dsimp only;rw [hss];exact T9 S _) (fA _)),trivial⟩,by decide,iK _⟩⟩
    · rw [if_neg hc] at hss;by_cases hc1 : 0 < x.2.1
      · have hf0 : lJ ls x w = false := by cases e : lJ ls x w with
          | false => rfl
          | true => exact absurd ⟨hc1,e⟩ hc
        rw [hf0] at hf;obtain ⟨xl,xc,xt⟩ := x;dsimp only at *
        (repeat' (first|refine wS ?_|refine wB ?_|refine wK ?_|refine wU ?_|(refine wC rfl ?_ ?_<;>(intro hb;(try simp only [nm] at hb);try (exfalso;omega)))|(refine rg 3 (vV (bE rfl rfl) ?_))|(refine rg 4 (mW rfl (vV (ix T rfl (by omega) (fZ bs) hg) (lW T rfl (dQ (dC T rfl) rfl (aW rfl (bA T rfl rfl rfl rfl rfl rfl (by decide) rfl ?_)))))))|(refine rg 5 (eT T rfl (vV (gH rfl rfl) (mV ?_)));refine bP rfl rfl ?_ ?_<;>(intro hb;rw [hb];(try simp only [nm] at hb);try (exfalso;omega));(all_goals (refine yO T rfl (yO T rfl (yO T rfl (yV (kC (hf)) (pV ?_)))))))|(refine rg 7 (vV (eD rfl rfl (by omega) (by omega)) (mV ?_)))|refine nZ ?_));all_goals first | (exfalso;omega) | exact ⟨⟨k + 1,hlt⟩,by dsimp only;omega,⟨[0],rfl,⟨rfl,rfl,rfl,by dsimp only;rw [hss];rfl,rfl,rfl,rfl,trivial⟩,⟨.inr (bM rfl (by dsimp only;rw [hss]) (fA _)),trivial⟩,by decide,iK _⟩⟩
      · obtain ⟨xl,xc,xt⟩ := x;dsimp only at *
        (repeat' (first|refine wS ?_|refine wB ?_|refine wK ?_|refine wU ?_|(refine wC rfl ?_ ?_<;>(intro hb;(try simp only [nm] at hb);try (exfalso;omega)))|(refine rg 3 (vV (bE rfl rfl) ?_))|(refine rg 4 (mW rfl (vV (ix T rfl (by omega) (fZ bs) hg) (lW T rfl (dQ (dC T rfl) rfl (aW rfl (bA T rfl rfl rfl rfl rfl rfl (by decide) rfl ?_)))))))|(refine rg 5 (eT T rfl (vV (gH rfl rfl) (mV ?_)));refine bP rfl rfl ?_ ?_<;>(intro hb;rw [hb];(try simp only [nm] at hb);try (exfalso;omega));(all_goals ((iterate 4 refine gF ?_);refine pV ?_)))|(refine rg 7 (vV (eD rfl rfl (by omega) (by omega)) (mV ?_)))|refine nZ ?_));all_goals first | (exfalso;omega) | exact ⟨⟨k + 1,hlt⟩,by dsimp only;omega,⟨[0],rfl,⟨rfl,rfl,rfl,by dsimp only;rw [hss];rfl,rfl,rfl,rfl,trivial⟩,⟨.inr (bM rfl (by dsimp only;rw [hss]) (fA _)),trivial⟩,by decide,iK _⟩⟩
  · obtain rfl : k = bs.length := by omega
    (repeat' (first|refine wS ?_|refine wR ?_|refine wE ?_|(refine wC rfl ?_ ?_<;>(intro hb;(try simp only [nm] at hb);try (exfalso;omega)))|(refine rg 3 (vV (bE rfl rfl) ?_))|(refine rg 8 (mW rfl (vV (by exact qZ rfl rfl) ?_));refine bR [0] rfl rfl hsrt (by simp only [AV.mapL];rfl) rfl (by decide) ⟨.inr (bM rfl rfl (fA _)),trivial⟩ (by simp) rfl ?_)|(refine rg 9 (mW rfl (aV ?_)))|refine nZ ?_));all_goals first | (exfalso;omega) | exact ⟨.inl rfl,[0],_,rfl,(by rw [← hso];rfl),rfl,⟨.inr (bM rfl (jI _ (fA _)) (fA _)),trivial⟩,by decide,iK _⟩
end Go.Proofs.YtdfmhddmddgniaaGreatDoor
namespace Go.Ab
open Go
theorem T1 {α : Type} : ∀ (xs A B C : List α), B.length = xs.length → iZ (A ++ B ++ C) A.length xs = A ++ xs ++ C
  | [],A,B,C,h => by
    have : B = [] := cF h;subst this;simp [iZ]
  | x :: xs,A,[],C,h => by simp at h
  | x :: xs,A,b :: B,C,h => by
    have e : (A ++ (b :: B) ++ C).set A.length x = (A ++ [x]) ++ B ++ C := by simp
    have ih := T1 xs (A ++ [x]) B C (by simpa using h)
    rw [aB,bZ] at ih;show iZ ((A ++ (b :: B) ++ C).set A.length x) (A.length + 1) xs = _;rw [e,ih];simp
theorem GK {α : Type} {xs B : List α} (h : B.length = xs.length) : iZ B 0 xs = xs := by
  have := T1 xs [] B [] h;simpa using this
section
variable {P : Program} {n : Nat × Nat} {ops : Array Oper} {rest : List Oper} {env : dD} {h : Hp} {K : dD → Hp → Prop}
variable {ty : TypeId} {pos : String} {af : Array Edge}
theorem WA (T : oA P) {t e k m sz dd : Nat} {ats : Array TypeId} {i : TI} {x y : Operand} {v : AV} {ds es : List (List AV)} (hx : evu env x = some (.sl k 0 m sz)) (hy : evu env y = some v) (hat : ats[0]? = some t) (ht : T.elem t = some e) (he : T.ti e = some i) (hs : i.size = sz)
    (hkk : h[k]? = some (.arr ds sz)) (hn : jA h v es sz) (h1 : es.flatten.all AV.one = true) (hd1 : ds.length = m) (hd2 : es.length = m) (hd : J5 (some dd) n = true)
    (hk : VC P n ops rest ((dd,.i m) :: env) (h.set k (.arr es sz)) K) :
    VC P n ops (⟨some dd,.call { callee := .builtin .copy,args := #[x,y],argTypes := ats },ty,pos,af,none⟩ :: rest) env h K := by
  intro c ρ S a w Q s hQ;refine wpList_plain rfl fun K' hK' => ?_
  have p := s.pre;have hxv := p.evu hx;obtain ⟨a2,c2,zs,y1,y2,y3,y4,y5,y6,y7⟩ := qN p.blk (p.evu hy) hn;obtain ⟨inf,z,t1,t2,t3,t4,t5,t6,t7⟩ := T.tiOk e i he;have hone := E3 y6 h1;have hB := p.blk k _ hkk;simp only [RB] at hB;obtain ⟨hes,hs0,hB⟩ := hB;have hel : ∀ q,q ∈ es → q.length = sz := by
    cases hn with
    | sl hk2 _ =>
      have := p.blk _ _ hk2;simp only [RB] at this;exact fun q hq => this.1 q (hC (gB hq))
    | row h => exact h
    | nil => exact fun q hq => by cases hq
  simp only [R] at hxv;obtain ⟨a1,c1,x1,x2,x3⟩ := hxv;rw [hd2] at y1 y5 y7;have hf := sD (P := P) (w := w) (size := inf.size) (m := m) (cap := c2) (a := a2) (by rw [t2,hs];exact y5) y7
  have ev1 : ∀ r w',(Builtin.copy_ ats ty #[a.eval x,a.eval y]).run P w = .ok r w' → (execOp a.eval ⟨some dd,.call { callee := .builtin .copy,args := #[x,y],argTypes := ats },ty,pos,af,none⟩).run P w = .ok (.value r) w' := fun r w' hr => by
    simp [execOp,resolve,invoke,builtin,hr]
  have hund := run_underlying (P := P) (T.elemOk _ _ ht) w;have hsz : (sizeOf e).run P w = .ok inf.size w := by simp [sizeOf,typeInfo,t1]
  by_cases hm : m = 0
  · subst hm;have hz : zs = [] := cF (by rw [y5];simp)
    subst hz;have hde : ds = [] := cF hd1;have hee : es = [] := cF hd2;subst hde hee;have hset : h.set k (.arr [] sz) = h := by
      apply dX;intro j;rw [cK];split
      · rename_i e;subst e;rw [hkk];simp [(aA.1 hkk).1]
      · rfl
    have hr : (Builtin.copy_ ats ty #[a.eval x,a.eval y]).run P w = .ok (.int .i64 0) w := by
      rw [x1,y1];cases a1 with
      | none => simp [Builtin.copy_,hat,hund,Builtin.lenOf,hsz,hf,goInt,Nat.min_def]
      | some a1 => simp [Builtin.copy_,hat,hund,Builtin.lenOf,hsz,hf,storeCells,goInt,Nat.min_def]
    unfold Oper.wp;rw [ev1 _ _ hr];rw [hset] at hk;exact hK' _ _ (hk c ρ S _ w Q ⟨by rw [iS];exact s.size,by rw [fT];exact s.defers,nA s.size hd s.env (by simp [R]),s.hs,s.cm⟩ hQ)
  · rcases x3 with ⟨x3,_⟩ | ⟨b,o,x4,x5,x6,x7⟩
    · exact absurd x3 hm
    rw [VM,Nat.add_zero] at x5;rcases hB with ⟨hB,_⟩ | ⟨b',o',ys,z1,⟨cc,ee,z2,z3⟩,z4⟩
    · subst hB;exact absurd hd1.symm hm
    rw [x4] at z1;cases z1;have hyl := eV z4;have hfl := eB hes;have hfl2 := eB hel;have hzl : zs.length = ys.length := by rw [y5,hyl,hfl,hd1]
    have hzp : 0 < zs.length := by rw [y5];exact Nat.mul_pos (by omega) hs0
    obtain ⟨f1,f2,f3⟩ := yD (off := 0) (zs := zs) z2 z3 (by omega) hzp
    have hst := run_storeCells_at P b o ee zs 0 cc w z2 (by simpa using f1) hone
    simp only [Nat.add_zero] at hst f1 f2 f3;have hr : (Builtin.copy_ ats ty #[a.eval x,a.eval y]).run P w = .ok (.int .i64 m) (w.setRow b (cc.toList.take o ++ zs ++ cc.toList.drop (o + zs.length)).toArray) := by
      rw [x1,y1,x5];simp [Builtin.copy_,hat,hund,Builtin.lenOf,hsz,hf,hst,goInt,Nat.min_def]
    unfold Oper.wp;rw [ev1 _ _ hr]
    obtain ⟨g1,g2⟩ := s.hs.upd (nb := .arr es sz) hkk (by simp) x4 (pB z2 f3) (fun l => by
      simp only [RB];refine ⟨hel,hs0,.inr ⟨b,o,_,rfl,f2,?_⟩⟩;rw [GK (xs := zs) (B := ys) hzl.symm]
      exact y6.later l)
    exact hK' _ _ (hk c ρ S _ _ Q ⟨by rw [iS];exact s.size,by rw [fT];exact s.defers.later g2,nA s.size hd (fun tt uu huu => (s.env tt uu huu).later g2) (by simp [R]),g1,s.cm⟩ hQ)
end
def zN3 {P : Program} (T : oA P) (rs : List ResultVar) (Φ : AV → Hp → Prop) (e : Exit) (v : dD) (h : Hp) : Prop := (e = .ret ∨ e = .normal) ∧ ∃ xs,tY T v h rs = some xs ∧ Φ (vH xs) h
theorem jS {P : Program} (T : oA P) {f : FuncId} {fn : Func} {code : Code} {n : Nat} {args : List AV} {hin : Hp} {Φ : AV → Hp → Prop} (hf : P.funcs[f]? = some fn) (hb : fn.body = some code) (hnm : (fn.name == "runtime.NumGoroutine") = false) (hn : fn.ntmps = n) (ha : Nat.ble args.length n = true)
    (haw : AW P (n,hin.length) code (rH 0 args) hin (zN3 T fn.results.toList Φ)) : eO P f args hin Φ := by
  refine ⟨⟨fn,hf,hnm,by rw [hb];rfl⟩,?_⟩
  intro ρ S w vs hs hargs;have hlen := eV hargs;have hle := bC ha;refine (callsIn_wide (n := 0)).1 (callsIn_of_wp_marks (F := Fence.wide) hf hb trivial ?_ rfl);refine haw (iY w ρ S hin) ρ S _ w _ ⟨?_,rO.nil rfl _ _,fun t x hx => ?_,hs,rfl⟩ ?_
  · simp [hn];omega
  · obtain ⟨_,h1⟩ := uJ hx;simp only [zR4] at h1;obtain ⟨y,h2,h3⟩ := mT hargs t x h1;have hlt : t < vs.length := (aA.1 h2).1;have : (vs.toArray ++ Array.replicate (fn.ntmps - vs.toArray.size) undef).getD t undef = y := by
      rw [cY,mQ (by simpa using hlt)]
      simp [h2]
    rw [this];exact h3
  · intro e env' h' ρ' S' a' w' hq s;obtain ⟨he,xs,h1,hΦ⟩ := hq;have fin : ∀ S2 w2,HS (iY w ρ S hin) ρ' S2 h' w2 → (∀ x y,R S' w' x ρ' y → R S2 w2 x ρ' y) → ∃ v,(results fn a'.tmps).run P w2 = .ok v w2 ∧ (fun e w' => ∃ res hout,Φ res hout ∧ ∃ y ρ' S',e = Ending.returned y ∧ HS (iY w ρ S hin) ρ' S' hout w' ∧ R S' w' res ρ' y) (.returned v) w2 := fun S2 w2 s2 hr => by
      obtain ⟨ys,h7,h8⟩ := qT T s2.blk (fun t x hx => hr _ _ (s.env t x hx)) h1;have hres : ∃ y,(results fn a'.tmps).run P w2 = .ok y w2 ∧ R S2 w2 (vH xs) ρ' y := by
        have hm : (fn.results.mapM (sO a'.tmps)).run P w2 = .ok ys.toArray w2 := by
          rw [L8];simp only [Sem.run_map,h7,Result.andThen_ok]
        have hl := eV h8;rw [A6];simp only [Sem.run_bind,hm,Result.andThen_ok,Sem.run_pure];refine ⟨_,rfl,?_⟩
        match xs,ys,h8,hl with
        | [x],[y],h8,_ =>
          simp only [RL] at h8;obtain ⟨y',zs,e1,h9,_⟩ := h8;cases e1;simpa [vH] using h9
        | [],[],h8,_ =>
          simp only [vH,R];exact ⟨#[],by simp,by simp [RL]⟩
        | x :: x2 :: xs,y :: y2 :: ys,h8,_ =>
          simp only [vH,R];refine ⟨(y :: y2 :: ys).toArray,?_,by simpa using h8⟩
          rw [dif_neg (by simp)]
      obtain ⟨y,h9,h10⟩ := hres;exact ⟨y,h9,vH xs,h',hΦ,y,_,S2,rfl,s2,h10⟩
    obtain ⟨⟨D,hD1,hD2,hD3⟩,_⟩ := s.defers;have hl : LeavesInM Fence.wide 0 P fn a'.tmps (fun e w' => ∃ res hout,Φ res hout ∧ ∃ y ρ' S',e = Ending.returned y ∧ HS (iY w ρ S hin) ρ' S' hout w' ∧ R S' w' res ρ' y) a'.defers .returning w' := by
      rw [hD1];exact yB (c := iY w ρ S hin) (aU _) (fun b hb => hs.stab b hb) D S' w' s.hs hD2 hD3 fin
    rcases he with rfl | rfl
    · exact hl
    · exact hl
theorem W1 {l : List Oper} {pres : List (List Nat)} {ds : List Nat} {bads : List (List Nat)} {n s k s2 k2 : Nat} (h : lC l pres ds bads n = true) (hs : Nat.blt s pres.length = true) (hs2 : Nat.blt s2 pres.length = true) (hne : Nat.beq s2 s = false) (hr : (pres.getD s2 []).any (Nat.beq s) = true) :
    iF l pres ds bads [(s,k),(s2,k2)] n = true := by
  simp only [iF,JC,h,hs,hs2,hne,hr,P0,List.all_nil,Bool.not_false,rK,Bool.and_true,kK]
theorem JI {h : Hp} {k off : Nat} {cs xs : List AV} (hk : h[k]? = some (.cells cs)) (hl : Nat.ble (off + xs.length) cs.length = true) : Z7 h (.ptr k off) xs = some (k,.cells (iZ cs off xs)) := by simp only [Z7,hk,hl]
theorem xU {P : Program} {env : dD} {h : Hp} {d : Option Nat} {ty : TypeId} {pos : String} {af : Array Edge} {g : Option (Nat × Bool)} {x : Operand} {u z : AV} (hx : evu env x = some u) (hz : u.plus 0 = some z) : NQ P ⟨d,.nilCheck x,ty,pos,af,g⟩ env h u := by
  intro ρ S a w p;obtain ⟨b,o,h1,h2⟩ := vG (p.evu hx) hz;have h3 := p.evu hx;rw [h1] at h3;exact ⟨_,fun w' => by simp [execOp,h1],h3⟩
end Go.Ab
namespace Go.Ab
theorem bL {H Z : Hp} {k : Nat} {b : AB} (h : H[k]? = some b) : (H ++ Z)[k]? = some b := by
  rw [aG (aA.1 h).1];exact h
theorem fO {H : Hp} {k q : Nat} {b x : AB} (hk : k ≠ q) (h : H[k]? = some b) : (H.set q x)[k]? = some b := by
  rw [iV (Ne.symm hk)];exact h
theorem gE {H : Hp} {q : Nat} {x : AB} (h : q < H.length) : (H.set q x)[q]? = some x := by
  rw [dY h]
theorem bY {H : Hp} {b : AB} : (H ++ [b])[H.length]? = some b := by simp
theorem wG {H Z : Hp} (h : VW H) (z : VW Z) : VW (H ++ Z) := fun b hb => by
  rcases bH.1 hb with hb | hb
  · exact h b hb
  · exact z b hb
theorem uP {b : AB} (h : b.rf = true) : VW [b] := fun x hx => by rw [bK.1 hx];exact .inr h
theorem KA {H : Hp} {q : Nat} {x : AB} (h : VW H) (z : x = .gone ∨ x.rf = true) : VW (H.set q x) := fun b hb => by
  obtain ⟨j,hj⟩ := cN.1 hb;rw [cK] at hj;split at hj
  · split at hj
    · cases hj;exact z
    · cases hj
  · exact h b (aJ hj)
end Go.Ab
namespace Go.Or
open Go Go.Ab
theorem zA3 (l : List Tk) : (AB.arr (eZ l) 2).rf = true := bD.2 fun e he => by obtain ⟨i,_,rfl⟩ := aK.1 he;rfl
theorem xR (l : List Bo) : (AB.arr (eY l) 3).rf = true := bD.2 fun e he => by obtain ⟨i,_,rfl⟩ := aK.1 he;rfl
theorem zA5 (N : List (Nat × List Tk)) : (AB.arr (nH N) 1).rf = true := bD.2 fun e he => by obtain ⟨i,_,rfl⟩ := aK.1 he;rfl
theorem EH (l : List Bo) : AV.plOL (eY l).flatten = true := T5 (fun _ => rfl) _
theorem I5 (l : List Tk) (x : Tk) : (List.take l.length (List.drop 0 (eZ l))) ++ [[AV.i x.1,AV.i x.2]] = eZ (l ++ [x]) := by
  rw [cP,aQ (by simp)];simp
theorem UL {bs : List Bo} {j : Int} {x : Bo} : (eY bs).set j.toNat [AV.i x.1,AV.i x.2.1,AV.i x.2.2] = eY (bs.set j.toNat x) := by
  show _ = List.map (fun b : Bo => [AV.i b.1,AV.i b.2.1,AV.i b.2.2]) (bs.set j.toNat x);rw [nQ]
theorem uL.more {X Y : Hp} {N : List (Nat × List Tk)} (h : uL X N) (hf : ∀ e,e ∈ N → ∀ b,X[e.1]? = some b → Y[e.1]? = some b) : uL Y N := fun e he => by
  exact hf e he _ (h e he)
structure NR (left0 : List Bo) (ord : List Int) (need0 : Int) (N : List (Nat × List Tk)) (p : Nat) (X : Hp) (j : Nat) (left : List Bo) (tk : List Tk) (need : Int) (q : Nat) : Prop where
  jl : j ≤ ord.length
  eq : mY ord left0 need0 = (tk ++ (mY (ord.drop j) left need).1,(mY (ord.drop j) left need).2)
  len : left.length = left0.length
  nn : ∀ b : Int,0 ≤ b → 0 ≤ cnt left b ∧ cnt left b ≤ 20000
  lot : ∀ b : Int,0 ≤ b → (left.getD b.toNat (0,0,0)).1 = (left0.getD b.toNat (0,0,0)).1
  n0 : 0 ≤ need ∧ need ≤ 20000
  tl : tk.length ≤ j
  h0 : X[0]? = some (.arr (eY left) 3)
  hp : X[p]? = some (.arr (nH N) 1)
  hn : uL X N
  hq : X[q]? = some (.arr (eZ tk) 2)
  nd : (0 :: p :: q :: N.map (·.1)).Nodup
  rf : VW X
theorem JM {i : Int} {l : List Int} {left : List Bo} {need : Int} (h : min need (cnt left i) ≠ 0) : mY (i :: l) left need =
    ((i,min need (cnt left i)) :: (mY l (qE left i (min need (cnt left i))) (need - min need (cnt left i))).1,(mY l (qE left i (min need (cnt left i))) (need - min need (cnt left i))).2) := by
  rw [mY,if_neg h]
theorem NR.next {left0 : List Bo} {ord : List Int} {need0 : Int} {N : List (Nat × List Tk)} {p : Nat} {X : Hp} {j : Nat} {left : List Bo} {tk : List Tk} {need : Int} {q : Nat} (h : NR left0 ord need0 N p X j left tk need q)
    (hj : j < ord.length) (ho : ∀ i,i ∈ ord → 0 ≤ i ∧ i < left0.length) (hm : min need (cnt left ord[j]) ≠ 0) :
    NR left0 ord need0 N p (((X ++ [AB.arr [[AV.i ord[j],AV.i (min need (cnt left ord[j]))]] 2]).set q AB.gone ++ [AB.arr (eZ (tk ++ [(ord[j],min need (cnt left ord[j]))])) 2]).set 0 (AB.arr (eY (qE left ord[j] (min need (cnt left ord[j])))) 3)) (j + 1) (qE left ord[j] (min need (cnt left ord[j]))) (tk ++ [(ord[j],min need (cnt left ord[j]))]) (need - min need (cnt left ord[j])) (X ++ [AB.arr [[AV.i ord[j],AV.i (min need (cnt left ord[j]))]] 2]).length := by
  obtain ⟨i0,i1⟩ := ho _ (aH hj);have hd := aO hj;have heq := h.eq;rw [hd,JM hm] at heq;have hil : ord[j] < left.length := by rw [h.len];exact i1
  have hc := h.nn ord[j] i0;have hn0 := h.n0;generalize ord[j] = i at *;have hnn : 0 ≤ min need (cnt left i) ∧ min need (cnt left i) ≤ need ∧ min need (cnt left i) ≤ cnt left i := by omega
  generalize min need (cnt left i) = n at *;have hnd := h.nd;simp only [aP,aT,not_or] at hnd;obtain ⟨⟨a1,a2,a3⟩,⟨a4,a5⟩,a6,a7⟩ := hnd;have hql := (aA.1 h.hq).1;have hpl := (aA.1 h.hp).1;have h0l := (aA.1 h.h0).1;have hnl : ∀ e,e ∈ N → e.1 < X.length := fun e he => by
    have h1 := h.hn e he;exact (aA.1 h1).1
  have hmem : ∀ e,e ∈ N → e.1 ∈ N.map (·.1) := fun e he => aK.2 ⟨e,he,rfl⟩
  have keep : ∀ {k : Nat} {b : AB},X[k]? = some b → k ≠ q → k ≠ 0 → ((((X ++ [AB.arr [[AV.i i,AV.i n]] 2]).set q AB.gone) ++ [AB.arr (eZ (tk ++ [(i,n)])) 2]).set 0 (AB.arr (eY (qE left i n)) 3))[k]? = some b := fun hk h1 h2 =>
    fO h2 (bL (fO h1 (bL hk)))
  refine ⟨hj,by rw [heq];simp,by rw [vR];exact h.len,fun b hb => ?_,fun b hb => ?_,by omega,?_,gE (by simp),keep h.hp (fun e => a4 e) (fun e => a1 e.symm),?_,?_,?_,?_⟩
  · rw [vS i0 hil hb];have := h.nn b hb;split <;> omega
  · rw [vQ i0 hil hb];exact h.lot b hb
  · rw [aB,bZ];have := h.tl;omega
  · exact h.hn.more fun e he b hb => keep hb (fun e1 => a6 (e1 ▸ hmem e he)) (fun e1 => a3 (e1 ▸ hmem e he))
  · refine fO (by simp) ?_
    have e1 : (X ++ [AB.arr [[AV.i i,AV.i n]] 2]).length = ((X ++ [AB.arr [[AV.i i,AV.i n]] 2]).set q .gone).length := by simp
    rw [e1];exact bY
  · have hz : (X ++ [AB.arr [[AV.i i,AV.i n]] 2]).length = X.length + 1 := by simp
    rw [hz];simp only [aP,aT,not_or];refine ⟨⟨a1,by omega,a3⟩,⟨by omega,a5⟩,fun hm => ?_,a7⟩
    obtain ⟨e,he,e1⟩ := aK.1 hm;have := hnl e he;omega
  · exact KA (wG (KA (wG h.rf (uP rfl)) (.inl rfl)) (uP (zA3 _))) (.inr (xR _))
structure L6 (ls : List Lo) (bs : List Bo) (ws : List Wt) (k : Nat) (left : List Bo) (N : List (Nat × List Tk)) (p : Nat) (X : Hp) : Prop where
  kl : k ≤ ws.length
  eq : qF ls bs ws = (qF ls left (ws.drop k)).map (N.map (·.2) ++ ·)
  nl : N.length = k
  len : left.length = bs.length
  nn : ∀ b : Int,0 ≤ b → 0 ≤ cnt left b ∧ cnt left b ≤ 20000
  lot : ∀ b : Int,0 ≤ b → (left.getD b.toNat (0,0,0)).1 = (bs.getD b.toNat (0,0,0)).1
  h0 : X[0]? = some (.arr (eY left) 3)
  hp : X[p]? = some (.arr (nH N) 1)
  hn : uL X N
  nd : (0 :: p :: N.map (·.1)).Nodup
  rf : VW X
def ZS (ls : List Lo) (bs : List Bo) (ws : List Wt) (r : AV) (o : Hp) : Prop := ∃ x A,r = .tup [x,.i (oM ls bs ws).1] ∧ mU o x (oM ls bs ws).2 A ∧ r.rf = true ∧ VW o
end Go.Or
namespace Go.Proofs.YtdfmhddmddgniaaGreatDoor
open Go Go.Ab Go.Or
attribute [local irreducible] VC AW bJ bI eO
set_option maxHeartbeats 4000000
theorem OG (w : Wt) : bI Tryz.prog 139 [.agg [.i w.1,.i w.2.1,.i w.2.2]] [] (.b (!kU w)) [] := by
  have b1 : ∀ n l h : Int,bI Tryz.prog 88 [.i n,.i l,.i h] [] (.b (decide (l ≤ n) && decide (n ≤ h))) [] := fun n l h => by
    refine dA T Tryz.func88 rfl rfl rfl rfl ?_
    (repeat' (first|refine wS ?_|refine wR ?_|(refine rg 0 (aV ?_))|(refine rg 1 (dS rfl (vV (eN rfl rfl) (mV ?_)));refine bP rfl rfl ?_ ?_<;>(intro hb;rw [hb];(try simp only [nm] at hb);try (exfalso;omega));(all_goals first|(refine gT (mW rfl (gT (mW rfl (gT (vV (kQ rfl rfl) ?_))))))|(iterate 3 refine gF ?_));(all_goals (refine pW rfl (aV ?_))))|refine nZ ?_));all_goals first | (exfalso;omega) | exact eP (.inl rfl) rfl (B6 (by first | rfl | (simp;omega) | (simp [*];done)))
  have c1 := b1 w.2.1 1 20000;have c2 := b1 w.2.2 0 20000;have e : (!kU w) = (decide (0 ≤ w.1) && ((decide (1 ≤ w.2.1) && decide (w.2.1 ≤ 20000)) && (decide (0 ≤ w.2.2) && decide (w.2.2 ≤ 20000)))) := by
    unfold kU;rw [qD];simp only [nS,iB,decide_eq_false_iff_not,aN,decide_eq_true_eq];omega
  rw [e];clear e b1;obtain ⟨a,b,c⟩ := w;dsimp only at *;generalize (decide (1 ≤ b) && decide (b ≤ 20000)) = u at *;generalize (decide (0 ≤ c) && decide (c ≤ 20000)) = v at *;cases u
  all_goals
    refine dA T Tryz.func139 rfl rfl rfl rfl ?_
    (repeat' (first|refine wS ?_|refine wR ?_|(refine rg 0 (dQ (fE rfl rfl) rfl (aV ?_)))|(refine rg 1 (eT T rfl (vV (eN rfl rfl) (mV ?_)));refine bP rfl rfl ?_ ?_<;>(intro hb;rw [hb];(try simp only [nm] at hb);try (exfalso;omega));(all_goals first|(refine gT (fW T rfl (gT (lW T rfl (gT (vV (kC (c1)) ?_))))))|(iterate 3 refine gF ?_));(all_goals (refine pW rfl (mV ?_)));(all_goals first|(refine gT (fW T rfl (gT (lW T rfl (gT (vV (kC (c2)) ?_))))))|(iterate 3 refine gF ?_));(all_goals (refine pW rfl (aV ?_))))|refine nZ ?_));all_goals first | (exfalso;omega) | exact eP (.inl rfl) rfl (B6 (by first | rfl | (simp [*];done) | (simp;omega)))
theorem zF5 (w : Wt) : bI Tryz.prog 138 [.agg [.i w.1,.i w.2.1,.i w.2.2]] [] (.b (kU w)) [] := by
  have c1 := OG w;obtain ⟨a,b,c⟩ := w;dsimp only at *;generalize kU (a,b,c) = q at *;refine dA T Tryz.func138 rfl rfl rfl rfl ?_
  (repeat' (first|refine wS ?_|refine wR ?_|(refine rg 0 (dQ (fE rfl rfl) rfl (aV ?_)))|(refine rg 1 (lW T rfl (vV (kC (c1)) (vV (cV rfl) (aV ?_)))))|refine nZ ?_));all_goals first | (exfalso;omega) | exact eP (.inl rfl) rfl (B6 (by cases q <;> rfl))
end Go.Proofs.YtdfmhddmddgniaaGreatDoor
namespace Go.Proofs.YtdfmhddmddgniaaGreatDoor
open Go Go.Ab Go.Shelf Go.Proofs
shelf_lay LaysM.n246 Nm 246 at Tryz as laysFmt
theorem TU (n : Int) (h0 : -9223372036854775808 ≤ n) (h1 : n ≤ 9223372036854775807) : bI Tryz.prog 196 [.i n,.i 10] [] (.s (Go.Lib.itoa n)) [] :=
  EP (name := "internal/strconv.uint64pow10") (gi := 0) (tab := Go.Lib.pow10Tab) ⟨_, Tryz.func196, by kernel_rfl, by kernel_rfl⟩ (fun n w h2 h3 h4 => Any.internal_strconv_FormatInt_10 laysFmt n h2 h3 w h4) (by kernel_rfl) (by unfold uE Go.Lib.pow10Tab; simp [nR, Function.comp_def]) n h0 h1
theorem ZG : (Tryz.prog.info? 108).map (·.size) = some 2 := by kernel_rfl
theorem zJ6 : liesAt Tryz.prog Tryz.prog.depth 108 (2 / Tryz.prog.cellsOf 108) 0 108 1 = true := by kernel_rfl
theorem zI0 : Tryz.prog.underlying 208 = some .unsafePointer := by kernel_rfl
theorem WE : Tryz.prog.underlying 106 = some (.pointer 108) := by kernel_rfl
set_option maxHeartbeats 1000000 in
set_option maxRecDepth 100000 in
theorem UF (b : Nat) (w : World) (h0 : w.cell? ⟨b,0,none⟩ = some (.pointer none)) (hsh : w.shape? b = some (108,2)) (hfz : w.frozen? ⟨b,0,none⟩ = false) :
    Calls Tryz.prog 102 #[.pointer (some ⟨b,0,none⟩)] w fun e w' => e = .returned (.tuple #[]) ∧ w' = w.setCell ⟨b,0,none⟩ (.pointer (some ⟨b,0,none⟩)) := by
  obtain ⟨j,hj,hjs⟩ := bX.1 ZG
  go_enter Tryz.func102,Tryz.ntmps102
  go_wp2
  rw [Go.Lib.run_to_unsafe w ⟨b,0,none⟩ WE zI0 hj (by rw [hjs];decide) hsh (Nat.zero_lt_succ 1)]
  simp only [Result.andThen];rw [Oper.upon_value]
  go_wp2
  rw [run_callFunc_extern Tryz.func143 (by kernel_rfl) (by kernel_rfl) (by kernel_rfl) (e := Extern.AbiNoEscape.same) (by kernel_rfl)]
  rw [Go.Lib.run_noEscape];simp only [Result.andThen];rw [Oper.upon_value]
  go_wp2
  rw [Go.Lib.run_from_unsafe w ⟨b,0,none⟩ zI0 WE hj hsh zJ6];simp only [Result.andThen];rw [Oper.upon_value]
  go_wp2
  go_end0
  exact ⟨rfl,rfl⟩
theorem PS (x : AV) : bI Tryz.prog 102 [.ptr 0 0] [.var 108 [.v (.pointer none),x]] (.tup []) [.cells [.ptr 0 0,x]] :=
  AH ⟨_,Tryz.func102,by kernel_rfl,by kernel_rfl⟩ (fun b w h1 h2 h3 => UF b w h1 h2 h3)
end Go.Proofs.YtdfmhddmddgniaaGreatDoor
namespace Go.Proofs.YtdfmhddmddgniaaGreatDoor
open Go Go.Ab
attribute [local irreducible] VC AW bJ bI
set_option maxHeartbeats 4000000
theorem eK : Y5 Tryz.prog 9 := by unfold Y5;kernel_rfl
theorem zI4 : Tryz.prog.underlying 9 = some .string := by kernel_rfl
theorem zL1 : Tryz.prog.underlying 159 = some (.pointer 5) := by kernel_rfl
theorem zL2 : Tryz.prog.cellsOf 5 = 1 := by kernel_rfl
theorem zN7 : ∀ i : Nat,i < 2 → ([0,1,2] : List Nat)[i]? = some i := by decide
theorem zP2 : ∀ i : Nat,i < 2 → ([0,1] : List Nat)[i]? = some i := by decide
theorem UG (l : List UInt8) : bI Tryz.prog 102 [.ptr 0 0] [.cells [.ptr 0 0,.sl 1 0 l.length 1],.buf 5 l] (.tup []) [.cells [.ptr 0 0,.sl 1 0 l.length 1],.buf 5 l] := by
  obtain ⟨j,hj,_⟩ := bX.1 ZG;refine dA T Tryz.func102 rfl rfl rfl rfl ?_
  (repeat' (first|refine wS ?_|refine wK ?_|refine wU ?_|(refine rg 0 (mW rfl (nV ?_));refine eT T rfl (vV (by exact V0 WE rfl rfl rfl) ?_))|(refine rg 2 (mW rfl (nV ?_));refine eT T rfl (mW rfl (vV (by exact KY WE hj rfl rfl) ?_)))|refine nZ ?_));all_goals exact ⟨.inr rfl,[0,1],_,rfl,rfl,rfl,⟨.inr rfl,.inr rfl,trivial⟩,by decide,zP2⟩
theorem C2 (l s : List UInt8) (hl : l.length + s.length ≤ 100000000000) : bI Tryz.prog 52 [.ptr 0 0,.s s] [.cells [.ptr 0 0,.sl 1 0 l.length 1],.buf 5 l] (.tup [.i s.length,.v .nilIface]) [.cells [.ptr 0 0,.sl 2 0 (l.length + s.length) 1],.gone,.buf 5 (l ++ s)] := by
  refine dA T Tryz.func52 rfl rfl rfl rfl ?_
  (repeat' (first|refine wS ?_|refine wR ?_|(refine rg 0 (kJ ?_))|(refine rg 1 (mW rfl (bR [0,1] rfl rfl (UG l) rfl rfl (by decide) ⟨.inr rfl,.inr rfl,trivial⟩ (by simp) rfl ?_)))|(refine rg 2 (dS rfl (nV ?_));refine eT T rfl (mW rfl (Q7 T (e := 5) zI4 rfl rfl rfl rfl rfl rfl rfl rfl (by omega) rfl ?_));refine nV ?_;refine fW T rfl (bA T rfl rfl rfl rfl rfl rfl (by decide) rfl ?_))|(refine rg 3 (mW rfl (vV (fF eK rfl) (kJ ?_))))|refine nZ ?_));all_goals exact ⟨.inl rfl,[0,1,2],_,rfl,rfl,rfl,⟨.inr rfl,.inl rfl,.inr rfl,trivial⟩,by decide,zN7⟩
theorem zJ5 : ∀ i : Nat,i < 1 → ([0,2] : List Nat)[i]? = some i := by decide
theorem QM (s : List UInt8) (hl : s.length ≤ 100000000000) : bI Tryz.prog 52 [.ptr 0 0,.s s] [.var 108 [.v (.pointer none),.nils]] (.tup [.i s.length,.v .nilIface]) [.cells [.ptr 0 0,.sl 1 0 s.length 1],.buf 5 s] := by
  refine dA T Tryz.func52 rfl rfl rfl rfl ?_
  (repeat' (first|refine wS ?_|(refine rg 0 (kJ ?_))|(refine rg 1 (mW rfl (bR [0] rfl rfl (PS .nils) rfl rfl (by decide) ⟨.inr rfl,trivial⟩ (by simp) rfl ?_)))|refine nZ ?_));refine fY [(0,.ptr 0 0),(1,.s s)] [.cells [.ptr 0 0,.nils]] ⟨[0],rfl,(by repeat first|exact trivial|refine ⟨rfl,?_⟩),(by (repeat (first | exact trivial | refine ⟨Or.inl rfl,?_⟩ | refine ⟨Or.inr rfl,?_⟩))),by decide,oO⟩ ?_
  refine YT 0 1 5 rfl rfl ?_;dsimp only [zR2,zR1,List.append_nil,zR0,zQ9,zQ8,zQ7,zQ6,zQ5,iZ,fR,nY,rH,NW,I2,AP,AN,AM,AO,I1,I4,I0,I3,Nat.zero_add,zQ4,Nat.reduceAdd,zQ3,zQ2]
  repeat' (first|refine wS ?_|refine wR ?_|(refine rg 2 (dS rfl (nV ?_));refine eT T rfl (mW rfl (Q7 T (e := 5) (lb := []) zI4 rfl rfl rfl rfl rfl rfl rfl rfl (by simp;omega) rfl ?_));refine nV ?_;refine fW T rfl (bA T rfl rfl rfl rfl rfl rfl (by decide) rfl ?_))|(refine rg 3 (mW rfl (vV (fF eK rfl) (kJ ?_))))|refine nZ ?_)
  simp only [List.length_nil,Nat.zero_add,List.nil_append]
  all_goals exact ⟨.inl rfl,[0,2],_,rfl,rfl,rfl,⟨.inr rfl,.inr rfl,trivial⟩,by decide,zJ5⟩
theorem QZ (l : List UInt8) (h0 : l ≠ []) (hl : l.length ≤ 100000000000) : bI Tryz.prog 55 [.ptr 0 0] [.cells [.ptr 0 0,.sl 1 0 l.length 1],.buf 5 l] (.s l) [.gone,.gone] := by
  have hpos : 0 < l.length := jK.2 h0;refine dA T Tryz.func55 rfl rfl rfl rfl ?_
  (repeat' (first|refine wS ?_|refine wR ?_|(refine rg 0 (aV ?_))|(refine pM (id := 1) 14 [[],[0],[0,1],[0,1,2],rN 4,[],[5],[5,6],[5,6,7],rM 5 4,rN 10] (rM 3 11) [[],[],[],[],[],rM 3 5,rM 3 5,rM 3 5,rM 3 5,rM 3 5,[]] [(10,1)] dZ rfl (by decide +kernel) (eI rfl rfl rfl rfl (by exact fD rfl) ?_);refine eI rfl rfl rfl rfl (by exact cO rfl rfl) ?_;refine eI rfl rfl rfl rfl (by exact eA T rfl rfl rfl) ?_;refine eI rfl rfl rfl rfl (by exact aX T rfl rfl rfl rfl) ?_;refine eI rfl rfl rfl rfl (by exact DT rfl (by omega)) ?_;refine eI rfl rfl rfl rfl (by exact fD rfl) ?_;refine eI rfl rfl rfl rfl (by exact cO rfl rfl) ?_;refine eI rfl rfl rfl rfl (by exact eA T rfl rfl rfl) ?_;refine eI rfl rfl rfl rfl (by exact aX T rfl rfl rfl rfl) ?_;refine eI rfl rfl rfl rfl (by exact sG T rfl rfl) ?_;refine zD9 rfl rfl rfl rfl (bC rfl) (by exact O8 zL1 zL2 rfl rfl rfl h0 (by omega) rfl) ?_;refine uG rfl rfl rfl (by exact rfl) ?_;refine aV ?_)|refine nZ ?_));all_goals exact ⟨.inl rfl,[0,1],_,rfl,rfl,rfl,⟨.inl rfl,.inl rfl,trivial⟩,by decide,zP2⟩
end Go.Proofs.YtdfmhddmddgniaaGreatDoor
namespace Go.Proofs.YtdfmhddmddgniaaGreatDoor
open Go Go.Ab
section
variable {P : Program} {env : dD} {h : Hp} {d : Option Nat} {ty : TypeId} {pos : String} {af : Array Edge} {g : Option (Nat × Bool)}
theorem jN {t t2 : TypeId} {x y : Operand} {a b : Int} (hx : evu env x = some (.i a)) (hy : evu env y = some (.i b)) (e : b ≤ a) : bJ P ⟨d,.binOp .geq t x y t2,ty,pos,af,g⟩ env h 0 (fun _ => .b true) (fun _ => []) := by
  have := eN (P := P) (d := d) (ty := ty) (pos := pos) (af := af) (g := g) (h := h) (t := t) (t2 := t2) hx hy;simpa [e] using this
theorem pU {t t2 : TypeId} {x y : Operand} {a b : Int} (hx : evu env x = some (.i a)) (hy : evu env y = some (.i b)) (e : a < b) : bJ P ⟨d,.binOp .geq t x y t2,ty,pos,af,g⟩ env h 0 (fun _ => .b false) (fun _ => []) := by
  have := eN (P := P) (d := d) (ty := ty) (pos := pos) (af := af) (g := g) (h := h) (t := t) (t2 := t2) hx hy;simpa [show decide (a ≥ b) = false from decide_eq_false (by omega)] using this
theorem cJ {t t2 : TypeId} {x y : Operand} {a b : Int} (hx : evu env x = some (.i a)) (hy : evu env y = some (.i b)) (e : a < b) : bJ P ⟨d,.binOp .lss t x y t2,ty,pos,af,g⟩ env h 0 (fun _ => .b true) (fun _ => []) := by
  have := bE (P := P) (d := d) (ty := ty) (pos := pos) (af := af) (g := g) (h := h) (t := t) (t2 := t2) hx hy;simpa [e] using this
theorem cX {t t2 : TypeId} {x y : Operand} {a b : Int} (hx : evu env x = some (.i a)) (hy : evu env y = some (.i b)) (e : b ≤ a) : bJ P ⟨d,.binOp .lss t x y t2,ty,pos,af,g⟩ env h 0 (fun _ => .b false) (fun _ => []) := by
  have := bE (P := P) (d := d) (ty := ty) (pos := pos) (af := af) (g := g) (h := h) (t := t) (t2 := t2) hx hy;simpa [show decide (a < b) = false from decide_eq_false (by omega)] using this
end
attribute [local irreducible] VC AW bJ bI
set_option maxHeartbeats 4000000
def qH (n : Int) : Prop := -9223372036854775808 ≤ n ∧ n ≤ 9223372036854775807
theorem uC : ∀ (k u : Nat), u < 10 ^ (k + 1) → Go.Lib.nDigits u ≤ k + 1
  | 0,u,h => by rw [Go.Lib.nDigits_small (by simpa using h)];exact aU _
  | k + 1,u,h => by
    by_cases hu : u < 10
    · rw [Go.Lib.nDigits_small hu];omega
    · rw [Go.Lib.nDigits_big hu];have := uC k (u / 10) (by rw [Nat.div_lt_iff_lt_mul (by decide)];rw [Nat.pow_succ] at h;exact h)
      omega
theorem GW {n : Int} (h : qH n) : (Go.Lib.itoa n).length ≤ 21 := by
  obtain ⟨h0,h1⟩ := h;unfold Go.Lib.itoa;split
  · rw [List.length_cons,Go.Lib.decDigits_length];have := uC 19 n.natAbs (by have : (10 : Nat) ^ (19 + 1) = 100000000000000000000 := (by decide);omega)
    omega
  · rw [Go.Lib.decDigits_length];have := uC 19 n.toNat (by have : (10 : Nat) ^ (19 + 1) = 100000000000000000000 := (by decide);omega)
    omega
def dU (n : Int) : List UInt8 := Go.Lib.itoa n ++ [59]
theorem nL {n : Int} (h : qH n) : (dU n).length ≤ 22 := by have := GW h;simp [dU];omega
theorem XU {n : Int} (h : qH n) : bI Tryz.prog 144 [.i n] [] (.s (Go.Lib.itoa n)) [] := by
  have hc := TU n h.1 h.2;refine dA T Tryz.func144 rfl rfl rfl rfl ?_
  (repeat' (first|refine wS ?_|refine wR ?_|(refine rg 0 (aV ?_))|(refine rg 1 (mW rfl (vV (kC (hc)) (aV ?_))))|refine nZ ?_));all_goals exact rQ
theorem KS {n : Int} (h : qH n) : bI Tryz.prog 103 [.i n] [] (.s (Go.Lib.itoa n)) [] := by
  have hc := XU h;refine dA T Tryz.func103 rfl rfl rfl rfl ?_
  (repeat' (first|refine wS ?_|refine wR ?_|(refine rg 0 (aV ?_))|(refine rg 1 (mW rfl (vV (kC (hc)) (aV ?_))))|refine nZ ?_));all_goals exact rQ
theorem xL {n : Int} (h : qH n) : bI Tryz.prog 54 [.i n] [] (.s (dU n)) [] := by
  have hc := KS h;have hl := GW h;refine dA T Tryz.func54 rfl rfl rfl rfl ?_
  (repeat' (first|refine wS ?_|refine wR ?_|(refine rg 0 (aV ?_))|(refine rg 1 (mW rfl (vV (kC (hc)) (vV (jL rfl rfl (by simp only [aB,List.length_cons,List.length_nil];omega)) ?_)));refine aV ?_)|refine nZ ?_));all_goals exact rQ
end Go.Proofs.YtdfmhddmddgniaaGreatDoor
namespace Go.Or
open Go Go.Ab
theorem NR.start {ls : List Lo} {bs : List Bo} {ws : List Wt} {k : Nat} {left : List Bo} {N : List (Nat × List Tk)} {p : Nat} {X : Hp} {ord : List Int} {w : Wt} (h : L6 ls bs ws k left N p X) (hw : 0 ≤ w.2.1 ∧ w.2.1 ≤ 20000) :
    NR left ord w.2.1 N p (X ++ [.gone] ++ [.arr [] 2]) 0 left [] w.2.1 (X ++ [AB.gone]).length := by
  have hnd := h.nd;simp only [aP,aT,not_or] at hnd;obtain ⟨⟨a1,a3⟩,a4,a5⟩ := hnd;have hpl := (aA.1 h.hp).1;have h0l := (aA.1 h.h0).1;have hnl : ∀ e,e ∈ N → e.1 < X.length := fun e he => by
    have h1 := h.hn e he;exact (aA.1 h1).1
  have hz : (X ++ [AB.gone]).length = X.length + 1 := by simp
  refine ⟨bG _,by simp,rfl,h.nn,fun b hb => rfl,hw,aU _,bL (bL h.h0),bL (bL h.hp),h.hn.more fun e he b hb => bL (bL hb),bY,?_,wG (wG h.rf (fun b hb => .inl (bK.1 hb))) (uP rfl)⟩
  rw [hz];simp only [aP,aT,not_or];refine ⟨⟨a1,by omega,a3⟩,⟨by omega,a4⟩,fun hm => ?_,a5⟩
  obtain ⟨e,he,e1⟩ := aK.1 hm;have := hnl e he;omega
theorem NR.fin {left0 : List Bo} {ord : List Int} {need0 : Int} {N : List (Nat × List Tk)} {p : Nat} {X : Hp} {j : Nat} {left : List Bo} {tk : List Tk} {need : Int} {q : Nat} (h : NR left0 ord need0 N p X j left tk need q)
    (hf : ∀ hj : j < ord.length,min need (cnt left ord[j]) = 0) : mY ord left0 need0 = (tk,left,need) := by
  have heq := h.eq;rcases gP j ord.length with hj | hj
  · rw [aO hj,mY,if_pos (hf hj)] at heq;simpa using heq
  · rw [dH hj] at heq;simpa [mY] using heq
theorem L6.next {ls : List Lo} {bs : List Bo} {ws : List Wt} {k : Nat} {left0 : List Bo} {N : List (Nat × List Tk)} {p : Nat} {X0 : Hp} (h : L6 ls bs ws k left0 N p X0) (hk : k < ws.length)
    {X : Hp} {j : Nat} {left : List Bo} {tk : List Tk} {need : Int} {q : Nat} (g : NR left0 (oH ls left0 ws[k]) ws[k].2.1 N p X j left tk need q) (hf : mY (oH ls left0 ws[k]) left0 ws[k].2.1 = (tk,left,need)) (hn : ¬ 0 < need) :
    L6 ls bs ws (k + 1) left (N ++ [(q,tk)]) (X ++ [AB.arr [[AV.sl q 0 tk.length 2]] 1]).length ((X ++ [AB.arr [[AV.sl q 0 tk.length 2]] 1]).set p AB.gone ++ [AB.arr (nH (N ++ [(q,tk)])) 1]) := by
  have hnd := g.nd;simp only [aP,aT,not_or] at hnd;obtain ⟨⟨a1,a2,a3⟩,⟨a4,a5⟩,a6,a7⟩ := hnd;have hql := (aA.1 g.hq).1;have h0l := (aA.1 g.h0).1;have hnl : ∀ e,e ∈ N → e.1 < X.length := fun e he => by
    have h1 := g.hn e he;exact (aA.1 h1).1
  have hmem : ∀ e,e ∈ N → e.1 ∈ N.map (·.1) := fun e he => aK.2 ⟨e,he,rfl⟩
  have hz : (X ++ [AB.arr [[AV.sl q 0 tk.length 2]] 1]).length = X.length + 1 := by simp
  have keep : ∀ {i : Nat} {b : AB},X[i]? = some b → i ≠ p → ((X ++ [AB.arr [[AV.sl q 0 tk.length 2]] 1]).set p AB.gone ++ [AB.arr (nH (N ++ [(q,tk)])) 1])[i]? = some b := fun hi h1 => bL (fO h1 (bL hi));have heq := h.eq;rw [aO hk,qF,hf] at heq;dsimp only at heq;rw [if_neg hn] at heq;refine ⟨hk,?_,by rw [aB,h.nl];rfl,by rw [g.len,h.len],g.nn,fun b hb => by rw [g.lot b hb,h.lot b hb],keep g.h0 a1,?_,?_,?_,?_⟩
  · rw [heq];cases qF ls left (ws.drop (k + 1)) with
    | none => rfl
    | some t => simp
  · rw [hz];have e1 : ((X ++ [AB.arr [[AV.sl q 0 tk.length 2]] 1]).set p AB.gone).length = X.length + 1 := by simp
    rw [← e1];exact bY
  · intro e he;rcases bH.1 he with he | he
    · exact keep (g.hn e he) (fun e1 => a5 (e1 ▸ hmem e he))
    · rw [bK.1 he];exact keep g.hq (fun e => a4 e.symm)
  · rw [hz,dI];simp only [aP,aT,not_or,bH,fB,List.map_cons,List.map_nil,cG,or_false];refine ⟨⟨by omega,a3,a2⟩,⟨fun hm => ?_,by omega⟩,a7,⟨by simp,aI⟩,fun a ha b hb => ?_⟩
    · obtain ⟨e,he,e1⟩ := aK.1 hm;have := hnl e he;omega
    · subst hb;exact fun e => a6 (e ▸ ha)
  · exact wG (KA (wG g.rf (uP rfl)) (.inl rfl)) (uP (zA5 _))
theorem DL (N : List (Nat × List Tk)) (q : Nat) (tk : List Tk) : List.take N.length (List.drop 0 (nH N)) ++ [[AV.sl q 0 tk.length 2]] = nH (N ++ [(q,tk)]) := by
  rw [cP,aQ (by simp)];simp
theorem yX {ws : List Wt} {k : Nat} (h : k < ws.length) : (bV ws)[(k : Int).toNat]? = some [AV.i ws[k].1,AV.i ws[k].2.1,AV.i ws[k].2.2] := QJ h
theorem I8 {X : Hp} {a b c : AB} : ((X ++ [a]).set X.length b).set X.length c = X ++ [c] := by simp
theorem GF (l : List Int) : (AB.arr (fQ l) 1).rf = true := bD.2 fun e he => by obtain ⟨i,_,rfl⟩ := aK.1 he;rfl
theorem CM : ∀ l : List Int, AV.idfL (fQ l).flatten = true
  | [] => rfl
  | x :: l => CM l
theorem P8 {bs : List Bo} {j : Int} (h0 : 0 ≤ j) (h : j < bs.length) : (eY bs)[0 + j.toNat]? = some [AV.i (bs.getD j.toNat (0,0,0)).1,AV.i (cnt bs j),AV.i (bs.getD j.toNat (0,0,0)).2.2] := by
  rw [Nat.zero_add];exact EI h0 h
theorem NF {bs : List Bo} {j n : Int} : (eY bs).set (0 + j.toNat) [AV.i (bs.getD j.toNat (0,0,0)).1,AV.i (cnt bs j - n),AV.i (bs.getD j.toNat (0,0,0)).2.2] = eY (qE bs j n) := by
  rw [Nat.zero_add];exact UL (x := ((bs.getD j.toNat (0,0,0)).1,cnt bs j - n,(bs.getD j.toNat (0,0,0)).2.2))
theorem L6.fail {ls : List Lo} {bs : List Bo} {ws : List Wt} {k : Nat} {left0 : List Bo} {N : List (Nat × List Tk)} {p : Nat} {X0 : Hp} (h : L6 ls bs ws k left0 N p X0) (hk : k < ws.length)
    {left : List Bo} {tk : List Tk} {need : Int} (hf : mY (oH ls left0 ws[k]) left0 ws[k].2.1 = (tk,left,need)) (hn : 0 < need) : qF ls bs ws = none := by
  have heq := h.eq;rw [aO hk,qF,hf] at heq;dsimp only at heq;rw [if_pos hn] at heq;exact heq
theorem NH {ws : List Wt} (h : ws.any kU = false) {w : Wt} (hw : w ∈ ws) : 0 ≤ w.2.1 ∧ w.2.1 ≤ 20000 := by
  have := kP.1 h w hw;unfold kU at this;simp only [qC,decide_eq_true_eq,not_or] at this;omega
end Go.Or
namespace Go.Proofs.YtdfmhddmddgniaaGreatDoor
open Go Go.Ab Go.Or
attribute [local irreducible] VC AW bJ bI eO
set_option maxHeartbeats 4000000
section
variable {P : Program} {env : dD} {h : Hp} {d : Option Nat} {ty : TypeId} {pos : String} {af : Array Edge} {g : Option (Nat × Bool)}
theorem iE {t t2 : TypeId} {x y : Operand} {a b : Int} (hx : evu env x = some (.i a)) (hy : evu env y = some (.i b)) (hab : b < a) : bJ P ⟨d,.binOp .gtr t x y t2,ty,pos,af,g⟩ env h 0 (fun _ => .b true) (fun _ => []) := by
  have := gH (P := P) (env := env) (h := h) (d := d) (ty := ty) (pos := pos) (af := af) (g := g) (t := t) (t2 := t2) hx hy
  rwa [decide_eq_true hab] at this
theorem iU {t t2 : TypeId} {x y : Operand} {a b : Int} (hx : evu env x = some (.i a)) (hy : evu env y = some (.i b)) (hab : a ≤ b) : bJ P ⟨d,.binOp .gtr t x y t2,ty,pos,af,g⟩ env h 0 (fun _ => .b false) (fun _ => []) := by
  have := gH (P := P) (env := env) (h := h) (d := d) (ty := ty) (pos := pos) (af := af) (g := g) (t := t) (t2 := t2) hx hy
  rwa [decide_eq_false (AI.2 hab)] at this
end
theorem zB1 (ls : List Lo) (bs : List Bo) (ws : List Wt) (hl : ls.length ≤ 1000000) (hb : bs.length ≤ 20) (hk : yS ls bs) (hw : ws.length ≤ 1000) (hc : ∀ b : Int,0 ≤ b → 0 ≤ cnt bs b ∧ cnt bs b ≤ 20000) :
    eO Tryz.prog 94 [.rowE (iX ls) 3,.rowE (eY bs) 3,.rowE (bV ws) 3] [] (ZS ls bs ws) := by
  have hbb := fM bs;have hww := gD ws;have hh := MV (l := ws) (F := 138) (caps := []) (p := kU) (by omega) rfl fun x _ => zF5 x
  refine jS T Tryz.func94 rfl rfl rfl rfl ?_;cases hbad : ws.any kU with
  | true =>
    rw [hbad] at hh
    (repeat' (first|refine wS ?_|refine wR ?_|refine wT ?_|(refine rg 0 (kJ ?_))|(refine rg 1 (mW rfl (vV (kC (hh)) ?_)))|(refine rg 2 (kJ ?_))|refine nZ ?_));all_goals exact ⟨.inl rfl,_,rfl,.nils,[],by unfold oM;rw [if_pos hbad];rfl,.inl ⟨rfl,by unfold oM;rw [if_pos hbad],rfl⟩,rfl,fun b hb => by cases hb⟩
  | false =>
    rw [hbad] at hh;have hpf : oM ls bs ws = match qF ls bs ws with
      | none => (22,[])
      | some t => (0,t) := by unfold oM;rw [if_neg (by rw [hbad];simp)];rfl
    (repeat' (first|refine wS ?_|refine wK ?_|refine wU ?_|(refine rg 0 (kJ ?_))|(refine rg 1 (mW rfl (vV (kC (hh)) ?_)))|(refine rg 3 (mW rfl (qW T rfl (dQ (by exact DY T rfl rfl rfl rfl (by omega) (by omega) (by dsimp only;omega) (by omega) (by decide)) rfl ?_)));refine aV ?_)|refine nZ ?_));rw [bN]
    (repeat' (first|refine wS ?_|(refine rg 4 (dS rfl (WA T rfl rfl rfl rfl rfl rfl rfl (.row (fZ bs)) (LL bs) (by simp) rfl rfl ?_)))|(refine rg 5 (aV ?_))|refine nZ ?_));refine pY 9 1 rfl (by decide) ?_
    (repeat' (first|refine wB ?_|(refine rg 6 (mW rfl (qW T rfl (mV ?_))))|refine nZ ?_));refine lK (X := {x : Nat × List Bo × List (Nat × List Tk) × Nat × Hp // L6 ls bs ws x.1 x.2.1 x.2.2.1 x.2.2.2.1 x.2.2.2.2}) (fun x => [(0, .rowE (iX ls) 3), (8, .sl 0 0 (eY bs).length 3), (9, .sl x.1.2.2.2.1 0 x.1.1 1), (25, .rowE (bV ws) 3), (26, .i (bV ws).length), (27, .i (x.1.1 : Int))]) (fun x => x.1.2.2.2.2) (fun x => ws.length - x.1.1)
      ⟨(0,bs,[],1,[.arr (eY bs) 3,.arr [] 1]),⟨bG _,by simp,rfl,rfl,hc,fun b hb => rfl,rfl,rfl,fun e he => (by cases he),(by simp),wG (uP (xR bs)) (uP rfl)⟩⟩ (mP.of rfl (by repeat first|exact trivial|refine ⟨rfl,?_⟩)) ?_
    rintro ⟨⟨k,left,N,p,X⟩,ho⟩;dsimp only at ho ⊢;have hnl := ho.nl;subst hnl;by_cases hlt : N.length < ws.length
    · have hg := yX hlt;have hwb := NH hbad (aH hlt);have hin := NR.start (ord := oH ls left ws[N.length]) (w := ws[N.length]) ho hwb;have hlk : yS ls left := fun i hi => by
        have h1 := ho.lot i (by omega)
        rw [bN] at h1;rw [h1];exact hk i (by rw [← ho.len];exact hi)
      have hor := WZ ls left ws[N.length] hl (by rw [ho.len];exact hb) hlk
      have hom : ∀ i,i ∈ oH ls left ws[N.length] → 0 ≤ i ∧ i < left.length := fun i hi => (sT.1 hi).1;have hol := GN (ls := ls) (bs := left) (w := ws[N.length]);have hleft := ho.len;have nx := @L6.next ls bs ws N.length left N p X ho hlt
      have fl := @L6.fail ls bs ws N.length left N p X ho hlt;generalize ws[N.length] = w at *;generalize oH ls left w = ord at *
      (repeat' (first|refine wS ?_|refine wB ?_|refine wK ?_|refine wT ?_|(refine rg 7 (vV (cJ rfl rfl (by omega)) ?_))|(refine rg 8 (vV (ix T rfl (by omega) (jW ws) hg) (lW T rfl (dQ (dC T rfl) rfl (bA T rfl rfl rfl rfl rfl rfl (by decide) (oC bY rfl rfl) ?_)))))|refine nZ ?_));refine fK 11 (cs := [.i w.1,.i w.2.1,.i w.2.2]) rfl (gE (by simp)) rfl ?_
      rw [I8]
      (repeat' (first|refine wS ?_|(refine rg 9 (aV ?_))|refine nZ ?_));refine pY 12 2 rfl (by decide) ?_
      have h00 := hin.h0
      (repeat' (first|refine wS ?_|refine wB ?_|(refine rg 10 (eT T rfl (aV ?_)))|(refine rg 11 (dS rfl (lW T rfl (vV (by exact kX rfl rfl hor (.cons (.row _ _ _) (.cons (wD h00 (by simp;omega) (EH _)) (.cons (wA _ rfl) .nil))) (lG _).symm (GF _) (CM _)) ?_)));refine qW T rfl (mV ?_))|refine nZ ?_));refine lK (X := {x : Nat × List Bo × List Tk × Int × Nat × Hp // NR left ord w.2.1 N p x.2.2.2.2.2 x.1 x.2.1 x.2.2.1 x.2.2.2.1 x.2.2.2.2.1}) (fun x => [(0, .rowE (iX ls) 3), (8, .sl 0 0 (eY bs).length 3), (9, .sl p 0 N.length 1), (12, .sl x.1.2.2.2.2.1 0 x.1.2.2.1.length 2), (13, .i x.1.2.2.2.1), (25, .rowE (bV ws) 3), (26, .i (bV ws).length), (27, .i (N.length : Int)), (36, .rowE (fQ ord) 1), (37, .i (fQ ord).length), (38, .i (x.1.1 : Int))]) (fun x => x.1.2.2.2.2.2) (fun x => ord.length - x.1.1)
        ⟨(0,left,[],w.2.1,_,_),hin⟩ (mP.of rfl (by repeat first|exact trivial|refine ⟨rfl,?_⟩)) ?_
      clear hin hor h00 hg;rintro ⟨⟨j,left',tk,need,q,Y⟩,g⟩;dsimp only at g ⊢;have hnu := lG ord;have hll := g.len;have hn0 := g.n0;have htl := g.tl;by_cases hcon : ∃ hj : j < ord.length,min need (cnt left' ord[j]) ≠ 0
      · obtain ⟨hj,hm⟩ := hcon;have gn := g.next hj hom hm
        obtain ⟨i0,i1⟩ := hom _ (aH hj);have hgo := KN hj;have hbo := P8 (bs := left') i0 (by omega)
        have hcc := g.nn _ i0;have g0 := g.h0;have gq := g.hq;have hds := NF (bs := left') (j := ord[j]) (n := min need (cnt left' ord[j]));have hnd := g.nd;simp only [aP,aT,not_or] at hnd;have n0q : 0 ≠ q := fun e => hnd.1.2.1 e
        have hta := I5 tk (ord[j],min need (cnt left' ord[j]));dsimp only at hta;generalize ord[j] = i at *;generalize (left'.getD i.toNat (0,0,0)).1 = x1 at *;generalize (left'.getD i.toNat (0,0,0)).2.2 = x3 at *;generalize qE left' i (min need (cnt left' i)) = left2 at *;generalize cnt left' i = c at *
        (repeat' (first|refine wS ?_|refine wB ?_|refine wK ?_|refine wT ?_|(refine wC rfl ?_ ?_<;>(intro hb;(try simp only [nm] at hb);try (exfalso;omega)))|(refine rg 12 (vV (cJ rfl rfl (by omega)) ?_))|(refine rg 13 (vV (ix T rfl (by omega) (KM ord) hgo) (vV (aX T rfl rfl rfl rfl) (aV ?_))))|(refine rg 14 (dS rfl (mW rfl (vV (by exact bQ T rfl rfl rfl rfl rfl (by omega) (by omega)) ?_)));refine fW T rfl (vV (by exact aX T rfl rfl (eJ g0 hbo) rfl) ?_);refine vV (rF rfl rfl) (aV ?_))|(refine rg 15 (mW rfl (vV (cW rfl rfl) ?_)))|(refine rg 16 (dS rfl (mW rfl (vV (by exact gS T rfl rfl rfl rfl) ?_)));refine dQ (by exact bO T rfl rfl (by decide) (by decide) rfl rfl rfl) rfl ?_;refine fH T rfl rfl rfl rfl rfl (bL gq) (by simp) (jA.whole bY rfl) rfl (by simp;omega) (by simp;omega) rfl ?_;refine aV ?_)|(refine rg 17 (dS rfl (vV (by exact bQ T rfl rfl rfl rfl rfl (by omega) (by omega)) ?_));refine fW T rfl (vV (by exact aX T rfl rfl (eJ (bL (fO n0q (bL g0))) hbo) rfl) ?_);refine mW rfl (vV (fX rfl rfl (by omega) (by omega)) (vV (by exact bQ T rfl rfl rfl rfl rfl (by omega) (by omega)) ?_));refine fW T rfl (bA T rfl rfl rfl rfl rfl rfl (by decide) (lT (bL (fO n0q (bL g0))) hbo rfl rfl) ?_))|(refine rg 18 (dS rfl (vV (fX rfl rfl (by omega) (by omega)) (aV ?_))))|(refine rg 19 (vV (eD rfl rfl (by omega) (by omega)) (mV ?_)))|refine nZ ?_));all_goals try (exfalso;omega)
        all_goals exact ⟨⟨(j + 1,left2,tk ++ [(i,min need c)],need - min need c,_,_),gn⟩,by dsimp only;omega,mP.of (by dsimp only;rw [← hta,← hds];rfl) ⟨rfl,rfl,rfl,by dsimp only;rw [show (tk ++ [(i,min need c)]).length = tk.length + 1 by simp];rfl,rfl,rfl,rfl,rfl,rfl,rfl,rfl,trivial⟩⟩
      · have hf := g.fin fun hj => Classical.byContradiction fun e => hcon ⟨hj,e⟩
        have nx2 := nx (need := need) g hf;have fl2 := fl (need := need) hf;have oa := DL N q tk;have gp := g.hp;have hpf2 := hpf;clear nx fl;by_cases hj : j < ord.length
        · have hm : min need (cnt left' ord[j]) = 0 := Classical.byContradiction fun e => hcon ⟨hj,e⟩
          obtain ⟨i0,i1⟩ := hom _ (aH hj);have hgo := KN hj;have hbo := P8 (bs := left') i0 (by omega)
          have g0 := g.h0;generalize ord[j] = i at *;generalize (left'.getD i.toNat (0,0,0)).1 = x1 at *;generalize (left'.getD i.toNat (0,0,0)).2.2 = x3 at *;generalize cnt left' i = c at *
          (repeat' (first|refine wS ?_|refine wB ?_|refine wK ?_|refine wE ?_|refine wT ?_|(refine wC rfl ?_ ?_<;>(intro hb;(try simp only [nm] at hb);try (exfalso;omega)))|(refine rg 12 (vV (cJ rfl rfl (by omega)) ?_))|(refine rg 13 (vV (ix T rfl (by omega) (KM ord) hgo) (vV (aX T rfl rfl rfl rfl) (aV ?_))))|(refine rg 14 (dS rfl (mW rfl (vV (by exact bQ T rfl rfl rfl rfl rfl (by omega) (by omega)) ?_)));refine fW T rfl (vV (by exact aX T rfl rfl (eJ g0 hbo) rfl) ?_);refine vV (rF rfl rfl) (aV ?_))|(refine rg 15 (mW rfl (vV (cW rfl rfl) ?_)))|refine nZ ?_));all_goals try (exfalso;omega)
          all_goals
            by_cases hn : 0 < need
            · rw [fl2 hn] at hpf2
              (repeat' (first|refine wS ?_|refine wR ?_|refine wT ?_|(refine rg 20 (mW rfl (vV (iE rfl rfl (by omega)) ?_)))|(refine rg 21 (kJ ?_))|refine nZ ?_));all_goals try (exfalso;omega)
              all_goals exact ⟨.inl rfl,_,rfl,.nils,[],by rw [hpf2];rfl,.inl ⟨rfl,by rw [hpf2],rfl⟩,rfl,g.rf⟩
            · have no := nx2 hn
              (repeat' (first|refine wK ?_|refine wU ?_|(refine rg 20 (mW rfl (vV (iU rfl rfl (by omega)) ?_)))|(refine rg 22 (dS rfl (dQ (by exact bO T rfl rfl (by decide) (by decide) rfl rfl rfl) rfl ?_));refine fH T rfl rfl rfl rfl rfl (bL gp) (by simp) (jA.whole bY rfl) rfl (by simp;omega) (by simp;omega) rfl ?_;refine aV ?_)|(refine rg 23 (vV (eD rfl rfl (by omega) (by omega)) (mV ?_)))|refine nZ ?_));all_goals try (exfalso;omega)
              all_goals exact ⟨⟨(N.length + 1,left',N ++ [(q,tk)],_,_),no⟩,by dsimp only;omega,mP.of (by dsimp only;rw [← oa];rfl) (by dsimp only;(repeat (first | exact trivial | refine ⟨rfl,?_⟩)))⟩
        · (repeat' (first|refine wS ?_|refine wE ?_|refine kN rfl ?_|(refine rg 12 (vV (cX rfl rfl (by omega)) ?_))|(refine nZ ?_)));all_goals try (exfalso;omega)
          all_goals
            by_cases hn : 0 < need
            · rw [fl2 hn] at hpf2
              (repeat' (first|refine wS ?_|refine wR ?_|refine wT ?_|(refine rg 20 (mW rfl (vV (iE rfl rfl (by omega)) ?_)))|(refine rg 21 (kJ ?_))|refine nZ ?_));all_goals try (exfalso;omega)
              all_goals exact ⟨.inl rfl,_,rfl,.nils,[],by rw [hpf2];rfl,.inl ⟨rfl,by rw [hpf2],rfl⟩,rfl,g.rf⟩
            · have no := nx2 hn
              (repeat' (first|refine wK ?_|refine wU ?_|(refine rg 20 (mW rfl (vV (iU rfl rfl (by omega)) ?_)))|(refine rg 22 (dS rfl (dQ (by exact bO T rfl rfl (by decide) (by decide) rfl rfl rfl) rfl ?_));refine fH T rfl rfl rfl rfl rfl (bL gp) (by simp) (jA.whole bY rfl) rfl (by simp;omega) (by simp;omega) rfl ?_;refine aV ?_)|(refine rg 23 (vV (eD rfl rfl (by omega) (by omega)) (mV ?_)))|refine nZ ?_));all_goals try (exfalso;omega)
              all_goals exact ⟨⟨(N.length + 1,left',N ++ [(q,tk)],_,_),no⟩,by dsimp only;omega,mP.of (by dsimp only;rw [← oa];rfl) (by dsimp only;(repeat (first | exact trivial | refine ⟨rfl,?_⟩)))⟩
    · have heq := ho.eq;rw [dH (by omega)] at heq
      have hpn : qF ls bs ws = some (N.map (·.2)) := by rw [heq];simp [qF]
      rw [hpn] at hpf;have hnd := ho.nd
      (repeat' (first|refine wS ?_|refine wR ?_|refine wE ?_|refine wU ?_|(refine rg 7 (vV (cX rfl rfl (by omega)) ?_))|(refine rg 24 (mW rfl (kJ ?_)))|refine nZ ?_));all_goals try (exfalso;omega)
      all_goals exact ⟨.inl rfl,_,rfl,.sl p 0 N.length 1,p :: N.map (·.1),by rw [hpf];rfl,.inr ⟨p,N,rfl,ho.hp,ho.hn,by rw [hpf],rfl,(aP.1 hnd).2⟩,rfl,ho.rf⟩
end Go.Proofs.YtdfmhddmddgniaaGreatDoor
namespace Go.Or
open Go Go.Ab
theorem gJ (tk : List (List Tk)) : ∀ e,e ∈ xK tk → e.length = 1 := by intro e he;obtain ⟨n,_,rfl⟩ := aK.1 he;rfl
theorem kD (tk : List (List Tk)) : (xK tk).length = tk.length := bF _
theorem tV {tk : List (List Tk)} {k : Nat} (h : k < tk.length) : (xK tk)[(k : Int).toNat]? = some [AV.rowE (eZ tk[k]) 2] := by simp [h]
theorem kR (bk : Bk) : ∀ e,e ∈ uW bk → e.length = 4 := by intro e he;obtain ⟨n,_,rfl⟩ := aK.1 he;rfl
theorem jG (bk : Bk) : (uW bk).length = bk.length := bF _
theorem rX {bk : Bk} {k : Nat} (h : k < bk.length) : (uW bk)[(k : Int).toNat]? = some (zU bk[k]) := by simp [h]
def JL (tk : List (List Tk)) (k : Nat) : List AV := match tk.flatten[k]? with
  | some t => [.agg [.i t.1,.i t.2]]
  | none => []
theorem uY {tk : List (List Tk)} {k : Nat} (h : k < tk.flatten.length) : JL tk k = [.agg [.i tk.flatten[k].1,.i tk.flatten[k].2]] := by
  unfold JL;rw [aC h]
theorem sH {α : Type} {tk : List (List α)} {i : Nat} (hi : i < tk.length) : (tk.take (i + 1)).flatten.length = (tk.take i).flatten.length + tk[i].length := by
  rw [bB hi,gQ,aB];simp
theorem YH {α : Type} {tk : List (List α)} {i : Nat} : (tk.take i).flatten.length ≤ tk.flatten.length := by
  conv => rhs;rw [← cI i tk]
  rw [gQ,aB];omega
theorem NB {α : Type} {tk : List (List α)} {i j : Nat} (hi : i < tk.length) (hj : j < tk[i].length) : ∃ h : (tk.take i).flatten.length + j < tk.flatten.length,tk.flatten[(tk.take i).flatten.length + j] = tk[i][j] := by
  have e : tk.flatten = (tk.take i).flatten ++ (tk[i] ++ (tk.drop (i + 1)).flatten) := by
    conv => lhs;rw [← cI i tk]
    rw [gQ,aO hi,cH]
  have hl : (tk.take i).flatten.length + j < tk.flatten.length := by
    rw [e,aB,aB];omega
  refine ⟨hl,?_⟩;apply Option.some.inj;rw [← aC hl,e,aE (by omega),Nat.add_sub_cancel_left,aG hj,aC hj]
theorem AR {l : List Tk} {b : Int} {k : Nat} (h : k < l.length) : eW (l.take (k + 1)) b = eW (l.take k) b + (if l[k].1 = b then l[k].2 else 0) := by
  rw [bB h,kV];simp [eW]
def VF (l : List Tk) : Prop := ∀ (b : Int) (k : Nat),0 ≤ eW (l.take k) b ∧ eW (l.take k) b ≤ 1000000000000
def CT (bk : Bk) : Prop := (∀ o,o ∈ bk → VF o.tk.flatten) ∧ ∀ (b : Int) (k : Nat),0 ≤ lO (bk.take k) b ∧ lO (bk.take k) b ≤ 1000000000000
theorem BF {bk : Bk} {b : Int} {k : Nat} (h : k < bk.length) : lO (bk.take (k + 1)) b = lO (bk.take k) b + eW bk[k].tk.flatten b := by
  have e : ∀ (l : Bk) (o : Od),lO (l ++ [o]) b = lO l b + eW o.tk.flatten b := fun l o => by
    unfold lO jO;rw [gR,kV];simp
  rw [bB h,e]
end Go.Or
namespace Go.Proofs.YtdfmhddmddgniaaGreatDoor
open Go Go.Ab Go.Or
attribute [local irreducible] VC AW bJ bI eO AY VY O3
set_option maxHeartbeats 4000000
theorem zP3 : ∀ i : Nat,i < 2 → ([0,1] : List Nat)[i]? = some i := by decide
theorem VB (o : Od) (h1 : o.tk.length ≤ 1000000) (h2 : ∀ l,l ∈ o.tk → l.length ≤ 1000000) :
    O3 Tryz.prog 142 [] [.pr [.pr (zU o) 0] 0] [] (JL o.tk) o.tk.flatten.length := by
  have hla := kD o.tk;refine zL7 T Tryz.func142 rfl rfl rfl rfl ?_;intro J A y hJ hy
  (repeat' (first|(first|(refine W7 ?_)|(refine W8 ?_))|(((refine zW hJ (lZ (id := 0) ?_)));(all_goals (refine lV T ?_;refine nV ?_;refine IA T ?_;(refine qV T ?_);refine mV ?_)))|refine nZ ?_));refine NJ (X := {i : Nat // i ≤ o.tk.length}) (fun i => [(0,.clo (.yield y) [] []),(10,mA o.tk),(11,.i (xK o.tk).length),(12,.i i.1)]) (fun _ => []) (fun i => ((o.tk.take i.1).flatten.length,false)) (fun i => o.tk.length - i.1) ⟨0,bG _⟩ rfl (qO []) ?_
  rintro ⟨i,hi⟩;dsimp only;by_cases hlt : i < o.tk.length
  · have ga := tV hlt;have hlm := h2 _ (aH hlt);have hft := sH hlt;have hfa := fun (j : Nat) (hj : j < o.tk[i].length) => NB hlt hj;generalize o.tk[i] = l at *;have hlb := kT l
    (repeat' (first|(first|(refine W7 ?_)|(refine W8 ?_)|(refine NI ?_))|((refine P9 rfl (fun hb=>?_) (fun hb=>?_)<;>(((try simp only [nm] at hb);try ((exfalso;omega);done)))))|(((refine zW hJ (lZ (id := 1) ?_)));(all_goals (refine vV (bE rfl rfl) ?_)))|(((refine zW hJ (lZ (id := 2) ?_)));(all_goals (refine vV (ix T rfl (by omega) (gJ _) ga) ?_;refine lV T ?_;refine aV ?_)))|(((refine zW hJ (lZ (id := 3) ?_)));(all_goals (refine mV ?_;(refine qV T ?_);refine mV ?_)))|refine nZ ?_));all_goals try (exfalso;omega)
    refine NJ (X := {j : Nat // j ≤ l.length}) (fun j => [(0,.clo (.yield y) [] []),(10,mA o.tk),(11,.i (xK o.tk).length),(12,.i i),(16,.rowE (eZ l) 2),(17,.i (eZ l).length),(18,.i j.1)]) (fun _ => []) (fun j => ((o.tk.take i).flatten.length + j.1,false)) (fun j => l.length - j.1) ⟨0,bG _⟩ rfl (qO []) ?_;rintro ⟨j,hj⟩;dsimp only;by_cases hjl : j < l.length
    · have gb := xO hjl;obtain ⟨hk,he⟩ := hfa j hjl;have hit := uY hk;rw [he] at hit;generalize l[j] = z at *
      (repeat' (first|(first|(refine W7 ?_)|(refine W8 ?_)|(refine NI ?_)|(refine zF7 ?_))|((refine P9 rfl (fun hb=>?_) (fun hb=>?_)<;>(((try simp only [nm] at hb);try ((exfalso;omega);done)))))|(((refine zW hJ (lZ (id := 4) ?_)));(all_goals (refine vV (bE rfl rfl) ?_)))|(((refine zW hJ (lZ (id := 5) ?_)));(all_goals (refine vV (ix T rfl (by omega) (nD _) gb) ?_;refine lV T ?_;refine dQ (dC T rfl) rfl ?_;refine bA T rfl rfl rfl rfl rfl rfl (by decide) rfl ?_)))|(((refine PV (id := 6) ?_));((refine ZX 2 hJ ?_));(dsimp only [List.take,List.drop]);(all_goals (refine mV ?_;refine lV T ?_;refine uN ?_;refine QN hJ hy rfl rfl rfl hk hit rfl ?_));(all_goals (intro yes));(all_goals (refine zH5 hJ ?_;refine vV (cV rfl) ?_;refine P2 (by ((dsimp only [List.nil_append,List.cons_append,List.append_nil,List.length_cons,List.length_nil,List.set_cons_zero,List.set_cons_succ,List.map_cons,List.map_nil,iZ,fR,nY,rH,NW,I2,AP,AN,AM,AO,I1,I4,I0,I3,Nat.zero_add,Nat.add_zero,Nat.reduceAdd,Bool.not_true,Bool.not_false];done))) ?_)))|(((refine zW hJ (lZ (id := 7) ?_)));(all_goals (refine vV (eD rfl rfl (by omega) (by omega)) ?_;refine mV ?_)))|refine nZ ?_));all_goals first | (exfalso;omega) | skip
      · exact ⟨.inl rfl,fun h => (by first | (subst hb;cases h) | (cases h;done)),[],rfl⟩
      · obtain rfl := hb;exact ⟨⟨j + 1,hjl⟩,by dsimp only;omega,rfl,qO []⟩
    · (repeat' (first|(first|(refine W7 ?_)|(refine NK ?_))|((refine P9 rfl (fun hb => ?_) (fun hb => ?_) <;> (((try simp only [nm] at hb);try ((exfalso;omega);done)))))|(((refine zW hJ (lZ (id := 4) ?_)));(all_goals (refine vV (bE rfl rfl) ?_)))|(((refine zW hJ (lZ (id := 8) ?_)));(all_goals (refine vV (eD rfl rfl (by omega) (by omega)) ?_;refine mV ?_)))|(refine P2 (by ((dsimp only [List.nil_append,List.cons_append,List.append_nil,List.length_cons,List.length_nil,List.set_cons_zero,List.set_cons_succ,List.map_cons,List.map_nil,iZ,fR,nY,rH,NW,I2,AP,AN,AM,AO,I1,I4,I0,I3,Nat.zero_add,Nat.add_zero,Nat.reduceAdd,Bool.not_true,Bool.not_false];done))) ?_)));all_goals try (exfalso;omega)
      obtain rfl : j = l.length := by omega
      all_goals exact ⟨⟨i + 1,hlt⟩,by dsimp only;omega,by dsimp only;rw [hft],qO []⟩
  · (repeat' (first|(first|(refine W7 ?_)|(refine NK ?_))|((refine P9 rfl (fun hb => ?_) (fun hb => ?_) <;> (((try simp only [nm] at hb);try ((exfalso;omega);done)))))|(((refine zW hJ (lZ (id := 1) ?_)));(all_goals (refine vV (bE rfl rfl) ?_)))|(refine P2 (by ((dsimp only [List.nil_append,List.cons_append,List.append_nil,List.length_cons,List.length_nil,List.set_cons_zero,List.set_cons_succ,List.map_cons,List.map_nil,iZ,fR,nY,rH,NW,I2,AP,AN,AM,AO,I1,I4,I0,I3,Nat.zero_add,Nat.add_zero,Nat.reduceAdd,Bool.not_true,Bool.not_false];done))) ?_)));all_goals try (exfalso;omega)
    obtain rfl : i = o.tk.length := by omega
    exact ⟨.inr rfl,fun _ => by rw [dJ],[],rfl⟩
theorem ZR (o : Od) : bI Tryz.prog 101 [.pr (zU o) 0] [] (.clo (.func 142) [] [.pr [.pr (zU o) 0] 0]) [] := by
  refine LO rfl ?_;refine dA T Tryz.func101 rfl rfl rfl rfl ?_
  (repeat' (first|refine wS ?_|refine wR ?_|(refine rg 0 (dQ (fE rfl rfl) rfl (aV ?_)))|(refine rg 1 (vV (by exact qZ rfl rfl) ?_);refine aV ?_)|refine nZ ?_));exact ⟨.inl rfl,[0],_,rfl,rfl,rfl,⟨.inr rfl,trivial⟩,by decide,iK _⟩
theorem TT (o : Od) (body : Int) (h1 : o.tk.length ≤ 1000000) (h2 : ∀ l,l ∈ o.tk → l.length ≤ 1000000) (hs : VF o.tk.flatten) :
    bI Tryz.prog 50 [.pr (zU o) 0,.i body] [] (.i (eW o.tk.flatten body)) [] := by
  have hal := ZR o;have hit := VB o h1 h2;refine dA T Tryz.func50 rfl rfl rfl rfl ?_
  (repeat' (first|refine wS ?_|refine wB ?_|(refine rg 0 (dQ (fE rfl rfl) rfl (aV ?_)))|(refine rg 1 (dQ (dC T rfl) rfl (bA T rfl rfl rfl rfl rfl rfl (by decide) rfl ?_)))|(refine rg 2 (mW rfl (vV (kC (hal)) ?_)))|refine nZ ?_));refine IK [] [0,1] [(3,.ptr 0 0),(5,.ptr 1 0)] (fun k => [.cells [.i body],.cells [.i (eW (o.tk.flatten.take k) body)]]) 2 rfl hit rfl rfl rfl trivial aI rfl (by repeat first|exact trivial|refine ⟨rfl,?_⟩) ⟨.inr rfl,.inr rfl,trivial⟩ (by decide) (iK _) (by simp) (bG _) (bC rfl) rfl (by decide) (fun m hm => by rw [uY hm];exact ⟨rfl,rfl⟩) ?_ ?_
  · intro k hk;rw [uY hk];have hst := AR (b := body) hk;have hb1 := hs body k;have hb2 := hs body (k + 1);generalize o.tk.flatten[k] = t at *;obtain ⟨tb,tn⟩ := t;dsimp only at *;have hn0 : tb = body → eW (o.tk.flatten.take (k + 1)) body = eW (o.tk.flatten.take k) body + tn := fun e => by rw [hst,if_pos e]
    have hn1 : tb ≠ body → eW (o.tk.flatten.take (k + 1)) body = eW (o.tk.flatten.take k) body := fun e => by rw [hst,if_neg e];omega
    clear hst;generalize eW (o.tk.flatten.take k) body = s0 at *;generalize hs1 : eW (o.tk.flatten.take (k + 1)) body = s1 at *
    (repeat' (first|(refine rg 3 (dQ (dC T rfl) rfl (bA T rfl rfl rfl rfl rfl rfl (by decide) rfl ?_)))|refine nZ ?_));refine ⟨rfl,?_⟩
    by_cases hbd : tb = body
    · have e0 := hn0 hbd;subst e0
      (repeat' (first|refine wS ?_|refine wB ?_|(refine wC rfl ?_ ?_<;>(intro hb;(try simp only [nm] at hb);try (exfalso;omega)))|(refine rg 4 (eT T rfl (lW T rfl (vV (cW rfl rfl) ?_))))|(refine rg 5 (lW T rfl (eT T rfl (vV (eD rfl rfl (by omega) (by omega)) (bA T rfl rfl rfl rfl rfl rfl (by decide) rfl ?_)))))|refine nZ ?_));all_goals try (exfalso;omega)
      all_goals
        show EQ _ _ _ _ [AB.cells [AV.i body],AB.cells [AV.i (eW (o.tk.flatten.take (k + 1)) body)]];rw [hs1];exact ⟨[0,1],rfl,trivial,⟨.inr rfl,.inr rfl,trivial⟩,by decide,zP3⟩
    · have e0 := hn1 hbd;subst e0
      (repeat' (first|refine wS ?_|refine wB ?_|refine wK ?_|(refine wC rfl ?_ ?_<;>(intro hb;(try simp only [nm] at hb);try (exfalso;omega)))|(refine rg 4 (eT T rfl (lW T rfl (vV (cW rfl rfl) ?_))))|refine nZ ?_));all_goals try (exfalso;omega)
      all_goals
        show EQ _ _ _ _ [AB.cells [AV.i body],AB.cells [AV.i (eW (o.tk.flatten.take (k + 1)) body)]];rw [hs1];exact ⟨[0,1],rfl,trivial,⟨.inr rfl,.inr rfl,trivial⟩,by decide,zP3⟩
  · rw [dJ]
    (repeat' (first|refine wS ?_|refine wR ?_|(refine rg 6 (lW T rfl (aV ?_)))|refine nZ ?_));all_goals exact rQ
theorem R7 (bk : Bk) (body : Int) (hl : bk.length ≤ 1000000) (h1 : ∀ o,o ∈ bk → o.tk.length ≤ 1000000 ∧ ∀ l,l ∈ o.tk → l.length ≤ 1000000) (hs : CT bk) :
    bI Tryz.prog 14 [xX bk,.i body] [] (.i (lO bk body)) [] := by
  have hbl := jG bk;refine dA T Tryz.func14 rfl rfl rfl rfl ?_
  (repeat' (first|refine wS ?_|refine wB ?_|(refine rg 0 (aV ?_))|(refine rg 1 (aV ?_))|(refine rg 2 (mW rfl (nV ?_));refine eT T rfl (qW T rfl (mV ?_)))|refine nZ ?_));refine dR (X := {k : Nat // k ≤ bk.length}) (fun k => [(0,xX bk),(1,.i body),(5,.i (lO (bk.take k.1) body)),(10,.rowE (uW bk) 4),(11,.i (uW bk).length),(12,.i k.1)]) (fun _ => []) (fun k => bk.length - k.1) ⟨0,bG _⟩ (qO []) ?_
  rintro ⟨k,hk⟩;dsimp only;by_cases hlt : k < bk.length
  · have hg := rX hlt;have hm := aH hlt;have hf := TT bk[k] body (h1 _ hm).1 (h1 _ hm).2 (hs.1 _ hm);have hrt := BF (b := body) hlt;have hb1 := hs.2 body k;have hb2 := hs.2 body (k + 1);generalize bk[k] = o at *;generalize eW o.tk.flatten body = q at *;generalize lO (bk.take k) body = s0 at *
    (repeat' (first|refine wS ?_|refine wB ?_|refine wK ?_|refine wT ?_|(refine rg 3 (vV (cJ rfl rfl (by omega)) ?_))|(refine rg 4 (mW rfl (aV ?_)))|(refine rg 5 (dS rfl (nV ?_));refine eT T rfl (mW rfl (vV (ix T rfl (by omega) (kR bk) hg) (mW rfl (vV (kC (hf)) (vV (eD rfl rfl (by omega) (by omega)) (aV ?_)))))))|(refine rg 6 (vV (eD rfl rfl (by omega) (by omega)) (mV ?_)))|refine nZ ?_));all_goals try (exfalso;omega)
    all_goals exact ⟨⟨k + 1,hlt⟩,by dsimp only;omega,⟨[],rfl,⟨rfl,rfl,by dsimp only;rw [hrt];rfl,rfl,rfl,rfl,trivial⟩,trivial,aI,fun _ h => absurd h (eM _)⟩⟩
  · obtain rfl : k = bk.length := by omega
    rw [dJ]
    (repeat' (first|refine wS ?_|refine wR ?_|refine wE ?_|refine wU ?_|(refine rg 3 (vV (cX rfl rfl (by omega)) ?_))|(refine rg 7 (mW rfl (aV ?_)))|refine nZ ?_));all_goals try (exfalso;omega)
    all_goals exact rQ
end Go.Proofs.YtdfmhddmddgniaaGreatDoor
namespace Go.Or
open Go Go.Ab Go.MapKept
def PZ (m : List (Int × Int)) (t : Tk) : List (Int × Int) := match m.findIdx? fun e => decide (e.1 = t.1) with
  | some i => m.set i (t.1,(m.getD i (0,0)).2 + t.2)
  | none => m ++ [(t.1,t.2)]
def rE (l : List Tk) : List (Int × Int) := l.foldl PZ []
theorem BY (l : List Tk) (t : Tk) : rE (l ++ [t]) = PZ (rE l) t := by unfold rE;rw [qG];rfl
structure H7 (l : List Tk) (m : List (Int × Int)) : Prop where
  nd : (m.map (·.1)).Nodup
  val : ∀ e,e ∈ m → e.2 = eW l e.1
  cov : ∀ t,t ∈ l → t.1 ∈ m.map (·.1)
  sub : ∀ e,e ∈ m → ∃ t,t ∈ l ∧ t.1 = e.1
theorem FS {m : List (Int × Int)} {i : Nat} {k v w : Int} (h : m[i]? = some (k,w)) : (m.set i (k,v)).map (·.1) = m.map (·.1) := by
  apply dX;intro j;rw [aS,aS,cK];split
  · rename_i e;subst e;rw [h];simp [(aA.1 h).1]
  · rfl
theorem sI {m : List (Int × Int)} {b : Int} {i : Nat} (h : (m.findIdx? fun e => decide (e.1 = b)) = some i) : m[i]? = some (b,(m.getD i (0,0)).2) := by
  rw [List.findIdx?_eq_some_iff_getElem] at h;obtain ⟨h1,h2,_⟩ := h;rw [aC h1,aD,aC h1];have : m[i].1 = b := by simpa using h2
  rw [← this];rfl
theorem sJ {m : List (Int × Int)} {b : Int} (h : (m.findIdx? fun e => decide (e.1 = b)) = none) : b ∉ m.map (·.1) := by
  rw [List.findIdx?_eq_none_iff] at h;intro hm;obtain ⟨e,he,rfl⟩ := aK.1 hm;have := h e he;simp at this
theorem H7.nil : H7 [] [] := ⟨aI,fun e h => absurd h cG,fun t h => absurd h cG,fun e h => absurd h cG⟩
theorem H7.next {l : List Tk} {m : List (Int × Int)} (h : H7 l m) (t : Tk) : H7 (l ++ [t]) (PZ m t) := by
  have hs : ∀ b,eW (l ++ [t]) b = eW l b + if t.1 = b then t.2 else 0 := fun b => by rw [kV];simp [eW]
  unfold PZ;split
  · rename_i i hi;have hg := sI hi;have hk := FS (v := (m.getD i (0,0)).2 + t.2) hg;have hv := h.val _ (aJ hg);dsimp only at hv;have hun : ∀ {j : Nat} {e : Int × Int},m[j]? = some e → e.1 = t.1 → j = i := fun {j e} hj he => by
      have hjl := (aA.1 hj).1;exact (vY (by simpa using hjl) h.nd).1 (by rw [aS,aS,hj,hg];simp [he])
    refine ⟨by rw [hk];exact h.nd,fun e he => ?_,fun u hu => ?_,fun e he => ?_⟩
    · obtain ⟨j,hj⟩ := cN.1 he;rw [cK] at hj;split at hj
      · split at hj
        · cases hj;rw [hs,hv];simp
        · cases hj
      · rename_i hne;have hm := aJ hj;rw [hs,if_neg (fun e1 => hne (hun hj e1.symm).symm),h.val e hm];omega
    · rw [hk];rcases bH.1 hu with hu | hu
      · exact h.cov u hu
      · rw [bK.1 hu];exact aK.2 ⟨_,aJ hg,rfl⟩
    · obtain ⟨j,hj⟩ := cN.1 he;rw [cK] at hj;split at hj
      · split at hj
        · cases hj;exact ⟨t,by simp,rfl⟩
        · cases hj
      · obtain ⟨u,h1,h2⟩ := h.sub e (aJ hj);exact ⟨u,rA _ h1,h2⟩
  · rename_i hi;have hni := sJ hi;have hz : eW l t.1 = 0 := uZ fun u hu e => hni (e ▸ h.cov u hu)
    refine ⟨?_,fun e he => ?_,fun u hu => ?_,fun e he => ?_⟩
    · rw [dI,fB];exact ⟨h.nd,by simp,fun a ha b hb e => by simp at hb;subst hb;exact hni (e ▸ ha)⟩
    · rcases bH.1 he with he | he
      · have hne : t.1 ≠ e.1 := fun e1 => hni (e1 ▸ aK.2 ⟨e,he,rfl⟩);rw [hs,if_neg hne,h.val e he];omega
      · rw [bK.1 he,hs];dsimp only;rw [hz,if_pos rfl];omega
    · rw [dI];rcases bH.1 hu with hu | hu
      · exact rA _ (h.cov u hu)
      · rw [bK.1 hu];simp
    · rcases bH.1 he with he | he
      · obtain ⟨u,h1,h2⟩ := h.sub e he;exact ⟨u,rA _ h1,h2⟩
      · rw [bK.1 he];exact ⟨t,by simp,rfl⟩
theorem RD {α : Type} {P : List α → Prop} (h0 : P []) (h1 : ∀ l x,P l → P (l ++ [x])) : ∀ l,P l := fun l => by
  have key : ∀ m : List α,P m.reverse := fun m => by
    induction m with
    | nil => exact h0
    | cons x m ih => rw [List.reverse_cons];exact h1 _ _ ih
  have := key l.reverse
  rwa [List.reverse_reverse] at this
theorem DO (l : List Tk) : H7 l (rE l) := RD (P := fun l => H7 l (rE l)) H7.nil (fun l t h => by rw [BY];exact h.next t) l
abbrev M7 (m : List (Int × Int)) : List Value := m.map fun e => kI e.1
abbrev AA (m : List (Int × Int)) : List AV := m.map fun e => AV.i e.2
theorem TF {a b : Int} (h : kI a = kI b) : a = b := by cases h;rfl
theorem SU {m : List (Int × Int)} (h : (m.map (·.1)).Nodup) : (M7 m).Nodup := by
  rw [show M7 m = (m.map (·.1)).map kI by simp [M7]]
  generalize m.map (·.1) = L at *
  induction L with
  | nil => exact aI
  | cons x l ih =>
    rw [aP] at h;rw [List.map_cons,aP];exact ⟨fun hm => by obtain ⟨y,hy,e⟩ := aK.1 hm;exact h.1 (TF e ▸ hy),ih h.2⟩
theorem xZ (m : List (Int × Int)) : ∀ q,q ∈ M7 m → IsKey (.int .i64) q := by
  intro q hq;obtain ⟨e,_,rfl⟩ := aK.1 hq;exact K4 _
theorem zC1 {m : List (Int × Int)} {b : Int} (h : b ∉ m.map (·.1)) : kI b ∉ M7 m := fun hm => by
  obtain ⟨e,he,e1⟩ := aK.1 hm;exact h (aK.2 ⟨e,he,TF e1⟩)
theorem XL {m : List (Int × Int)} {i : Nat} {b v w : Int} (h : m[i]? = some (b,w)) : M7 (m.set i (b,v)) = M7 m := by
  have e : ∀ q : List (Int × Int),M7 q = (q.map (·.1)).map kI := fun q => by simp [M7]
  rw [e,e,FS h]
theorem XJ {m : List (Int × Int)} {i : Nat} {b v : Int} : AA (m.set i (b,v)) = (AA m).set i (.i v) := by
  show List.map (fun e : Int × Int => AV.i e.2) (m.set i (b,v)) = _;rw [nQ]
theorem mF (m : List (Int × Int)) : AV.idfL (AA m) = true := by
  induction m with
  | nil => rfl
  | cons e m ih => exact ih
def uR (l : List Tk) (sure : List Bo) (D : List Int) : List Bo := sure.mapIdx fun j b => if (j : Int) ∈ D then (b.1,max 0 (b.2.1 - eW l j),b.2.2) else b
theorem SE {l : List Tk} {sure : List Bo} {D : List Int} : (uR l sure D).length = sure.length := by simp [uR]
theorem SD {l : List Tk} {sure : List Bo} : uR l sure [] = sure := by
  unfold uR;apply dX;intro j;rw [gC];cases sure[j]? <;> simp
theorem SF {l : List Tk} {sure : List Bo} {D : List Int} {b : Int} (hb : 0 ≤ b) (hl : b < sure.length) (hn : b ∉ D) : (uR l sure D).getD b.toNat (0,0,0) = sure.getD b.toNat (0,0,0) := by
  unfold uR;rw [aD,gC,aD,aC (by omega)]
  simp only [lP,rI];rw [if_neg (by rw [LV hb];exact hn)]
theorem OS {l : List Tk} {sure : List Bo} {D : List Int} {b : Int} (hb : 0 ≤ b) (hl : b < sure.length) (hn : b ∉ D) :
    (uR l sure D).set b.toNat ((sure.getD b.toNat (0,0,0)).1,max 0 (cnt sure b - eW l b),(sure.getD b.toNat (0,0,0)).2.2) = uR l sure (D ++ [b]) := by
  apply dX;intro j;rw [cK];unfold uR;rw [gC,gC];by_cases hj : b.toNat = j
  · subst hj;rw [if_pos rfl,if_pos (by simp;omega),aC (by omega)]
    simp only [lP];rw [LV hb,if_pos (by simp)]
    unfold cnt;rw [aD,aC (by omega)]
    rfl
  · rw [if_neg hj];have : ((j : Int) ∈ D ++ [b]) ↔ (j : Int) ∈ D := by
      rw [bH,bK];exact ⟨fun h => h.resolve_right (by omega),.inl⟩
    simp only [this]
theorem OT {l : List Tk} {sure : List Bo} {D : List Int} {b : Int} (hl : (sure.length : Int) ≤ b) : uR l sure (D ++ [b]) = uR l sure D := by
  apply dX;intro j;unfold uR;rw [gC,gC];by_cases hj : j < sure.length
  · have : ((j : Int) ∈ D ++ [b]) ↔ (j : Int) ∈ D := by
      rw [bH,bK];exact ⟨fun h => h.resolve_right (by omega),.inl⟩
    simp only [this]
  · rw [bU (by omega)];rfl
theorem SG {bk : Bk} {sure : List Bo} {D : List Int} (hD : ∀ t,t ∈ jO bk → t.1 ∈ D) (hc : ∀ b : Int,0 ≤ b → 0 ≤ cnt sure b) : uR (jO bk) sure D = gY bk sure := by
  apply dX;intro j;unfold uR gY;rw [gC,gC];cases hj : sure[j]? with
  | none => rfl
  | some x =>
    simp only [lP];congr 1;unfold lO;split
    · rfl
    · rename_i hn;rw [uZ fun t ht e => hn (by rw [← e];exact hD t ht)]
      have := hc j (by omega)
      unfold cnt at this;rw [bN,aD,hj] at this;simp only [rI] at this;rw [Int.sub_zero,Int.max_eq_right this]
theorem PY {bk : Bk} {k : Nat} (h : k < bk.length) : jO (bk.take (k + 1)) = jO (bk.take k) ++ bk[k].tk.flatten := by
  unfold jO;rw [bB h,gR];simp
def BD (bs : List Nat) (d : List Nat) : List Nat := d.map fun i => bs.getD i 0
theorem OE {bs d : List Nat} (hnd : bs.Nodup) (hlt : ∀ i,i ∈ d → i < bs.length) (h : ∀ b,b ∈ bs → b ∈ BD bs d) : ∀ i,i < bs.length → i ∈ d := fun i hi => by
  obtain ⟨j,hj,e⟩ := aK.1 (h bs[i] (aH hi));have hjl := hlt j hj;rw [aD,aC hjl] at e;have : j = i := (vY hjl hnd).1 (by rw [aC hjl,aC hi];simpa using e)
  rw [← this];exact hj
theorem OD {bs d : List Nat} {i b : Nat} (hi : bs[i]? = some b) (h : b ∉ BD bs d) : i ∉ d := fun hd => h (aK.2 ⟨i,hd,by rw [aD,hi];rfl⟩)
theorem JU {bs d : List Nat} {i b : Nat} (hi : bs[i]? = some b) : BD bs d ++ [b] = BD bs (d ++ [i]) := by
  unfold BD;rw [dI];simp [aD,hi]
theorem BU {d : List Nat} {n : Nat} (hnd : d.Nodup) (hlt : ∀ i,i ∈ d → i < n) : d.length ≤ n := by
  induction n generalizing d with
  | zero =>
    cases d with
    | nil => exact aU _
    | cons x d => exact absurd (hlt x aL) (by omega)
  | succ n ih =>
    have h1 := ih (d := d.erase n) (hnd.erase n) fun i hi => by
      have h2 := hlt i (List.mem_of_mem_erase hi);have h3 : i ≠ n := fun e => by subst e;exact (List.Nodup.mem_erase_iff hnd).1 hi |>.1 rfl
      omega
    rw [List.length_erase] at h1;split at h1 <;> omega
end Go.Or
