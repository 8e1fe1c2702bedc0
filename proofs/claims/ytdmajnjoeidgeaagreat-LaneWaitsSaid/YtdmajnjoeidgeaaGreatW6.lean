/-
  Texts of the logic and of the layer,in one module (part 6).
-/
import Derived.Test.YtdmajnjoeidgeaaGreatW5
import Derived.Shelf.Slices.Reverse
set_option linter.unusedVariables false
set_option linter.unusedSimpArgs false
namespace Go.Ab
open Go Go.MapKept
section
variable {P : Program} {env : Env} {h : Hp}
variable {d : Option Nat} {ty : TypeId} {pos : String} {af : Array Edge} {g : Option (Nat × Bool)}
def NodeT (P : Program) (t : TypeId) : Prop := (match P.underlying t with
  | some (.struct fs) => (match fs.toList with
    | [f, g] => decide (f.name ≠ "_") && decide (g.name ≠ "_") && Nat.beq f.offset 0 && Nat.beq g.offset 1 && (match P.underlying f.type with | some (.int _) => P.plainKey f.type | _ => false) && (match P.underlying g.type with | some .bool => P.plainKey g.type | _ => false)
    | _ => false) && !P.stoodInHeld t && !P.eqGuardType P.depth t
  | _ => false) = true
theorem fs_neqNode {t t2 : TypeId} {x y : Operand} {a a' : Int} {b b' : Bool} (ht : NodeT P t) (hx : evu env x = some (.agg [AV.i a,AV.b b])) (hy : evu env y = some (.agg [AV.i a',AV.b b'])) :
    FStep P ⟨d,.binOp .neq t x y t2,ty,pos,af,g⟩ env h 0 (fun _ => .b (!decide ((a,b) = (a',b')))) (fun _ => []) := by
  refine fs_val fun ρ S A w p => ⟨.bool (!decide ((a,b) = (a',b'))),?_,R_v_mk _⟩
  have h3 := p.evu hx
  have h4 := p.evu hy
  simp only [R] at h3 h4
  obtain ⟨xs,e1,h3⟩ := h3
  obtain ⟨ys,e2,h4⟩ := h4
  simp only [RL] at h3 h4
  obtain ⟨x1,_,q1,r1,x2,_,rfl,r2,rfl⟩ := h3
  obtain ⟨y1,_,q2,s1,y2,_,rfl,s2,rfl⟩ := h4
  have r1 := R_v r1
  have r2 := R_v r2
  have s1 := R_v s1
  have s2 := R_v s2
  subst r1 r2 s1 s2
  unfold NodeT at ht
  split at ht
  case h_2 => cases ht
  rename_i fs hu
  simp only [Bool.and_eq_true,Bool.not_eq_true'] at ht
  obtain ⟨⟨h5,h7⟩,h8⟩ := ht
  split at h5
  case h_2 => cases h5
  rename_i f1 f2 hl
  simp only [Bool.and_eq_true,decide_eq_true_eq] at h5
  obtain ⟨⟨⟨⟨⟨n1,n2⟩,o1⟩,o2⟩,k1⟩,k2⟩ := h5
  have o1 := Nat.eq_of_beq_eq_true o1
  have o2 := Nat.eq_of_beq_eq_true o2
  split at k1
  case h_2 => cases k1
  rename_i q hq
  split at k2
  case h_2 => cases k2
  rename_i hq2
  have hfo : P.fieldsOf t = fs := by simp [Program.fieldsOf,hu]
  have he : (Op.equalIn 10000 t (.agg xs) (.agg ys)).run P w = .ok (decide ((a,b) = (a',b'))) w := by
    rw [run_equalIn_struct w 9999 t xs ys (by rw [hfo];exact hu) h7,hfo,hl]
    have x0 : xs[f1.offset]? = some (.int .i64 a) := by rw [o1,← Array.getElem?_toList,q1];rfl
    have x1 : xs[f2.offset]? = some (.bool b) := by rw [o2,← Array.getElem?_toList,q1];rfl
    have y0 : ys[f1.offset]? = some (.int .i64 a') := by rw [o1,← Array.getElem?_toList,q2];rfl
    have y1 : ys[f2.offset]? = some (.bool b') := by rw [o2,← Array.getElem?_toList,q2];rfl
    simp only [Op.eqFields,n1,n2,ne_eq,not_false_eq_true,if_true,Sem.run_bind,run_part_plain w k1 x0,run_part_plain w k1 y0,run_part_plain w k2 x1,run_part_plain w k2 y1,Result.andThen_ok,run_equalIn_int w 9998 f1.type _ _ a a' hq,run_equalIn_bool w 9998 f2.type b b' hq2]
    by_cases hab : a = a'
    · subst hab
      have e3 := run_part_plain w k2 x1
      have e4 := run_part_plain w k2 y1
      have e5 := run_equalIn_bool w 9998 f2.type b b' hq2
      by_cases hbb : b = b'
      · subst hbb;simp [e3,e4,e5]
      · have e6 : (b == b') = false := by simpa using hbb
        simp [e3,e4,e5,e6,hbb]
    · have : (a == a') = false := by simpa using hab
      simp [this,hab]
  simp [execOp,e1,e2,run_eqGuard_agg w .neq t x y xs ys h8,run_neq_struct,he]
end
end Go.Ab
namespace Go.Proofs.YtdmajnjoeidgeaaGreat
open Go Go.Ab Go.Fl Go.Re Go.Ln Go.MapKept
theorem nodeT : NodeT Tryz.prog 122 := by unfold NodeT;kernel_rfl
attribute [local irreducible] VC AW FStep ACall PCall NodeT
set_option maxHeartbeats 4000000
abbrev fkA (F : List (LNode × LNode)) : List Value := F.map fun x => kN x.1
abbrev fvA (F : List (LNode × LNode)) : List AV := F.map fun x => AV.agg [.i x.2.1,.b x.2.2]
def RngF (F : List (LNode × LNode)) : Prop := ∀ x,x ∈ F → rngI x.1.1 ∧ rngI x.2.1
theorem RngF.good {F : List (LNode × LNode)} (h : RngF F) : ∀ q,q ∈ fkA F → goodN q := by
  intro q hq
  obtain ⟨e,he,rfl⟩ := List.mem_map.1 hq
  exact ⟨e.1,(h e he).1,rfl⟩
theorem fk_nd {F : List (LNode × LNode)} (h : (F.map (·.1)).Nodup) : (fkA F).Nodup := by
  have := List.Pairwise.map kN (S := fun a b => a ≠ b) (fun a b hab e => hab (kN_inj e)) h
  rw [List.map_map] at this
  exact this
theorem fk_at {F : List (LNode × LNode)} {x : LNode × LNode} (h : x ∈ F) : ∃ i : Nat,(fkA F)[i]? = some (kN x.1) ∧ (fvA F)[i]? = some (AV.agg [.i x.2.1,.b x.2.2]) := by
  obtain ⟨i,hi⟩ := List.mem_iff_getElem?.1 h
  exact ⟨i,by simp [hi],by simp [hi]⟩
theorem idfL_map {α : Type} {f : α → AV} (hf : ∀ a, (f a).idf = true) : ∀ l : List α, AV.idfL (l.map f) = true
  | [] => rfl
  | a :: l => by simp only [List.map_cons,AV.idfL,hf a,idfL_map hf l,Bool.and_self]
theorem tr_idf (Te : List LEdge) : AV.idfL (trA Te) = true := idfL_map (fun _ => rfl) _
theorem pv_idf (U : List (Int × Int)) : AV.idfL (pvA U) = true := idfL_map (fun _ => rfl) _
abbrev nwH (s : Sit) (W : List Int) (st : Int) (Te : List LEdge) (U : List (Int × Int)) : Hp := [.cells (netA s W st (.mp 1) (.mp 2)),.mapO (Te.map kE) (trA Te),.mapO (pkA U) (pvA U)]
theorem perm_erase {Te : List LEdge} {i : Nat} {e : LEdge} (h : Te[i]? = some e) : Te.Perm (e :: Te.eraseIdx i) := by
  induction Te generalizing i with
  | nil => simp at h
  | cons a l ih =>
    cases i with
    | zero => simp at h;subst h;simp
    | succ i =>
      simp at h
      have := ih h
      rw [List.eraseIdx_cons_succ]
      exact (this.cons a).trans (List.Perm.swap e a _)
theorem R_tupE {S : Nat → Prop} {w : World} {ρ : Pl} {y : Value} {a c : Int} {v : AV} (h : R S w (.tup [.v (kE (a,c)),v]) ρ y) : R S w (.tup [.agg [.i a,.i c],v]) ρ y := by
  simp only [R,RL] at h ⊢
  obtain ⟨ys,rfl,u,us,e,h1,rest⟩ := h
  exact ⟨ys,rfl,u,us,e,⟨#[.int .i64 a,.int .i64 c],h1,_,_,rfl,rfl,_,_,rfl,rfl,rfl⟩,rest⟩
def seenB (bs : List Nat) (d : List Nat) : List Nat := d.map fun i => bs.getD i 0
theorem sub_mapB {h : Hp} {i : Nat} {θ : Nat → Nat} {ks : List Value} {vs : List AV} {bs : List Nat} {ck : Nat} (hk : h[i]? = some (.mapB ks vs bs ck)) (hi : AV.idfL vs = true) : h[i]? = some ((AB.mapB ks vs bs ck).map θ) := by
  rw [hk]
  show _ = some (AB.mapB ks (AV.mapL θ vs) bs ck)
  rw [mapL_idf θ vs hi]
theorem seen_all {bs d : List Nat} (hnd : bs.Nodup) (hlt : ∀ i,i ∈ d → i < bs.length) (h : ∀ b,b ∈ bs → b ∈ seenB bs d) : ∀ i,i < bs.length → i ∈ d := fun i hi => by
  obtain ⟨j,hj,e⟩ := List.mem_map.1 (h _ (List.getElem_mem hi))
  have hjl := hlt j hj
  rw [List.getD_eq_getElem?_getD,List.getElem?_eq_getElem hjl,Option.getD_some] at e
  have : j = i := (List.getElem?_inj hjl hnd).1 (by rw [List.getElem?_eq_getElem hjl,List.getElem?_eq_getElem hi,e])
  rw [← this];exact hj
theorem seen_not {bs d : List Nat} {i b : Nat} (hi : bs[i]? = some b) (h : b ∉ seenB bs d) : i ∉ d := fun hd => h (List.mem_map.2 ⟨i,hd,by rw [List.getD_eq_getElem?_getD,hi];rfl⟩)
theorem seen_snoc {bs d : List Nat} {i b : Nat} (hi : bs[i]? = some b) : seenB bs d ++ [b] = seenB bs (d ++ [i]) := by
  simp [seenB,List.getD_eq_getElem?_getD,hi]
theorem nodup_le {d : List Nat} {k : Nat} (hnd : d.Nodup) (hlt : ∀ i,i ∈ d → i < k) : d.length ≤ k := by
  have := hnd.length_le_of_subset (l₂ := List.range k) fun i hi => List.mem_range.2 (hlt i hi)
  simpa using this
theorem nodup_snoc {d : List Nat} {i : Nat} (h : d.Nodup) (hi : i ∉ d) : (d ++ [i]).Nodup := by
  rw [List.nodup_append];exact ⟨h,by simp,fun a ha b hb e => hi (by simp at hb;rw [← hb,← e];exact ha)⟩
theorem sub_iter {h : Hp} {i : Nat} {θ : Nat → Nat} {km since c0 : Nat} {a b : List Nat} (hk : h[i]? = some (.iter (θ km) since a c0)) (e : a = b) : h[i]? = some ((AB.iter km since b c0).map θ) := by rw [hk,e];rfl
def prevD (Te : List LEdge) (d : List Nat) : List (Int × Int) := d.filterMap fun i => (Te[i]?).map fun e => (e.2,e.1)
theorem prevD_snoc {Te : List LEdge} {d : List Nat} {i : Nat} {a c : Int} (h : Te[i]? = some (a,c)) : prevD Te (d ++ [i]) = prevD Te d ++ [(c,a)] := by
  unfold prevD;rw [List.filterMap_append];simp [h]
theorem mem_prevD {Te : List LEdge} {d : List Nat} {a c : Int} (h : (c,a) ∈ prevD Te d) : ∃ i,i ∈ d ∧ Te[i]? = some (a,c) := by
  obtain ⟨i,hi,e⟩ := List.mem_filterMap.1 h
  obtain ⟨⟨x,y⟩,hx,hq⟩ := Option.map_eq_some_iff.1 e
  cases hq;exact ⟨i,hi,hx⟩
theorem prevF_iff {U : List (Int × Int)} (hU : (pkA U).Nodup) {c p : Int} : prevF U c = some p ↔ (c,p) ∈ U := by
  unfold prevF
  constructor
  · intro h
    obtain ⟨x,hx,rfl⟩ := Option.map_eq_some_iff.1 h
    have hc := List.find?_some hx
    simp only [decide_eq_true_eq] at hc
    subst hc
    exact List.mem_of_find?_eq_some hx
  · intro h
    obtain ⟨y,hy⟩ : ∃ y,U.find? (fun x => decide (x.1 = c)) = some y := by
      cases hf : U.find? (fun x => decide (x.1 = c)) with
      | none => rw [List.find?_eq_none] at hf;have := hf _ h;simp at this
      | some y => exact ⟨y,rfl⟩
    rw [hy]
    have hyc := List.find?_some hy
    simp only [decide_eq_true_eq] at hyc
    have hym := List.mem_of_find?_eq_some hy
    obtain ⟨i,hi⟩ := List.mem_iff_getElem?.1 h
    obtain ⟨j,hj⟩ := List.mem_iff_getElem?.1 hym
    have hil := (List.getElem?_eq_some_iff.1 hi).1
    have : i = j := (List.getElem?_inj (by simpa using hil) hU).1 (by simp [hi,hj,hyc])
    subst this
    rw [hi] at hj;cases hj;rfl
theorem prevD_nd {g : Net} {k : Nat} {Te : List LEdge} (h : Flow g k Te) : ∀ {d : List Nat},d.Nodup → (pkA (prevD Te d)).Nodup := by
  intro d hd
  have e : pkA (prevD Te d) = d.filterMap fun i => (Te[i]?).map fun e => kI e.2 := by
    unfold prevD;show List.map _ _ = _;rw [List.map_filterMap];congr 1;funext i;cases Te[i]? <;> rfl
  rw [e]
  refine List.Pairwise.filterMap _ (fun i j hij x hx y hy he => ?_) hd
  subst he
  obtain ⟨⟨a,c⟩,h1,e1⟩ := Option.map_eq_some_iff.1 hx
  obtain ⟨⟨a',c'⟩,h2,e2⟩ := Option.map_eq_some_iff.1 hy
  have hcc : c = c' := by rw [← e2] at e1;simpa [kI] using e1
  subst hcc
  have := inT_uniq h.nd (h.le1 c) (List.mem_of_getElem? h1) (List.mem_of_getElem? h2)
  subst this
  exact hij ((List.getElem?_inj (List.getElem?_eq_some_iff.1 h1).1 h.nd).1 (h1.trans h2.symm))
theorem prevD_ok {g : Net} {k : Nat} {Te : List LEdge} (h : Flow g k Te) {d : List Nat} (hd : d.Nodup) (hall : ∀ i,i < Te.length → i ∈ d) : PrevOk Te (prevF (prevD Te d)) := fun c p => by
  rw [prevF_iff (prevD_nd h hd)]
  constructor
  · intro hm
    obtain ⟨i,_,hi⟩ := mem_prevD hm
    exact List.mem_of_getElem? hi
  · intro hm
    obtain ⟨i,hi⟩ := List.mem_iff_getElem?.1 hm
    exact List.mem_filterMap.2 ⟨i,hall i (List.getElem?_eq_some_iff.1 hi).1,by rw [hi];rfl⟩
abbrev nwF (s : Sit) (W : List Int) (st : Int) (Te : List LEdge) (U : List (Int × Int)) (F : List (LNode × LNode)) : Hp := [.cells (netA s W st (.mp 1) (.mp 2)),.mapO (Te.map kE) (trA Te),.mapO (pkA U) (pvA U),.mapO (fkA F) (fvA F)]
theorem fv_idf (F : List (LNode × LNode)) : AV.idfL (fvA F) = true := idfL_map (fun _ => rfl) _
theorem lt24 : ∀ i : Nat,i < 4 → ([0,1,2,3,4] : List Nat)[i]? = some i := by decide
theorem lt25 : ∀ i : Nat,i < 4 → ([0,1,2,3,5,6] : List Nat)[i]? = some i := by decide
theorem lt26 : ∀ i : Nat,i < 4 → ([0,1,2,3,4,5] : List Nat)[i]? = some i := by decide
theorem take_c (s : Sit) (g : Fine s.fl) (W : List Int) (st : Int) (hst : exB s.fl st = false) {k : Nat} {Te : List LEdge} {U : List (Int × Int)} {F : List (LNode × LNode)} (hF : Flow (netP s W st) k Te) (ht : Tree (netP s W st) Te F)
    {e : Int} (he : exB s.fl e = true) (hu : inT Te e = 0) (hm : (e,false) ∈ F.map (·.1)) (hTr : RngT Te) (hFr : RngF F) :
    PCall Tryz.prog 76 [.ptr 0 0,.agg [.i e,.b false],.mp 3] (nwF s W st Te U F) (fun r o => r = .tup [] ∧ ∃ T' U',o = [.cells (netA s W st (.mp 1) (.mp 4)),.mapO (T'.map kE) (trA T'),.mapO (pkA U) (pvA U),.mapO (fkA F) (fvA F),.mapO (pkA U') (pvA U')] ∧ Flow (netP s W st) (k + 1) T' ∧ RngT T' ∧ PrevOk T' (prevF U') ∧ (pkA U').Nodup) := by
  obtain ⟨l,hb⟩ := Back.start hF hst ht he hu hm
  refine pcall T Tryz.func76 rfl rfl rfl rfl ?_
  repeat' (first|refine wS ?_|refine wB ?_|(refine rg 0 ?_;refine vc_n (by exact fs_box rfl rfl) rfl ?_)|refine nZ ?_)
  refine aw_loop (X := {p : List LEdge × LNode × List LNode // Back (netP s W st) k Te F p.1 (p.2.1 :: p.2.2) ∧ RngT p.1}) (fun p => [(0,.ptr 0 0),(2,.mp 3),(4,.ptr 4 0)]) (fun p => [.cells (netA s W st (.mp 1) (.mp 2)),.mapO (p.1.1.map kE) (trA p.1.1),.mapO (pkA U) (pvA U),.mapO (fkA F) (fvA F),.cells [.i p.1.2.1.1,.b p.1.2.1.2]]) (fun p => p.1.2.2.length) ⟨(Te,(e,false),l),hb,hTr⟩ ⟨[0,1,2,3,4],rfl,(by (repeat (first | exact trivial | refine ⟨rfl,?_⟩))),⟨.inr rfl,.inr (sub_map rfl rfl rfl (tr_idf _)),.inr (sub_map rfl rfl rfl (pv_idf _)),.inr (sub_map rfl rfl rfl (fv_idf _)),.inr rfl,trivial⟩,by decide,lt24⟩ ?_
  rintro ⟨⟨T1,⟨nc,no⟩,r⟩,hb1,hr1⟩
  dsimp only at *
  by_cases hfin : (nc,no) = (st,true)
  · cases hfin
    have hFl := hb1.done
    repeat' (first|refine wS ?_|refine wB ?_|refine wK ?_|refine wE ?_|(refine wC rfl (fun hb=>?_) (fun hb=>?_)<;>(((try simp only [nm] at hb);try (exfalso;omega))))|(refine aw_draw2k (id := 1) 88 [[],[],[1],[1,2],[1,2,3],[1,2,3,4],[0,1,2,3,4,5]] [8,9,10,11,12,13,14] [[],[8],[8],[8],[8],[8],[]] mixedP rfl (by decide +kernel) ?_;refine dL T ?_;refine dM ?_;refine dV rfl (by exact fs_nilCheck rfl rfl) ?_;refine dF T ?_;refine dL T ?_;refine dV rfl (by exact fs_build T rfl rfl rfl rfl) ?_;refine dV rfl (by exact fs_neqNode nodeT rfl rfl) ?_;refine dw_fin rfl rfl (by ((dsimp only [ln1,ln2,List.append_nil,ln4,ln5,ln6,ln7,ln8,ln9,putAt,putd,allObjs,argEnv,un_v,un_ptr,un_ep,un_pr,un_sl,un_mp,un_row,un_agg,un_tup,un_clo,Nat.zero_add,lnb,Nat.reduceAdd,lnc,lnd];done))) ?_)|(refine rg 8 ?_;refine mV ?_;refine vc_n (by exact fs_mapNew) rfl ?_;refine nV ?_;refine fV T ?_;refine vc_store T rfl rfl rfl rfl rfl rfl (by decide) rfl ?_)|refine nZ ?_)
    all_goals first | exact absurd rfl hb | exact absurd trivial hb | skip
    refine aw_mapOpen 1 rfl fun bs ck hb1' hb2' hb3' hb4' => ?_
    dsimp only [ln1,ln2,List.append_nil,ln4,ln5,ln6,ln7,ln8,ln9,putAt,putd,allObjs,argEnv,un_v,un_ptr,un_ep,un_pr,un_sl,un_mp,un_row,un_agg,un_tup,un_clo,Nat.zero_add,lnb,Nat.reduceAdd,lnc,lnd]
    have hbl : bs.length = T1.length := by rw [hb1'];simp
    repeat' (first|refine wB ?_|(refine rg 9 ?_;refine mV ?_;refine nV ?_;refine flV T ?_;refine vc_n (by exact fs_range edgeM_u rfl rfl) rfl ?_)|refine nZ ?_)
    refine aw_loop (X := {d : List Nat // d.Nodup ∧ ∀ i,i ∈ d → i < T1.length}) (fun d => [(0,.ptr 0 0),(75,.ptr 5 0)]) (fun d => [.cells (netA s W st (.mp 1) (.mp 4)),.mapB (T1.map kE) (trA T1) bs ck,.mapO (pkA U) (pvA U),.mapO (fkA F) (fvA F),.mapO (pkA (prevD T1 d.1)) (pvA (prevD T1 d.1)),.iter 1 ck (seenB bs d.1) ck]) (fun d => T1.length - d.1.length) ⟨[],List.nodup_nil,fun i hi => by cases hi⟩ ⟨[0,1,2,3,5,6],rfl,(by (repeat (first | exact trivial | refine ⟨rfl,?_⟩))),⟨.inr rfl,.inr (sub_mapB rfl (tr_idf _)),.inr (sub_map rfl rfl rfl (pv_idf _)),.inr (sub_map rfl rfl rfl (fv_idf _)),.inr (sub_map rfl rfl rfl (pv_idf _)),.inr rfl,trivial⟩,by decide,lt25⟩ ?_
    rintro ⟨d,hnd,hlt⟩
    dsimp only
    have hdl := nodup_le hnd hlt
    repeat' (first|refine wS ?_|refine wB ?_|refine wK ?_|refine wE ?_|refine wT ?_|refine wU ?_|(refine rg 10 ?_;refine vc_next rfl rfl rfl hb4' (Nat.le_refl _) rfl (fun hend=>vc_mapShut 1 rfl ?_) (fun i kv v b g1 g1' g2 g3=>?_);(all_goals (refine xV ?_)))|refine nZ ?_)
    · have hall := seen_all hb3' (by rw [hbl];exact hlt) hend
      rw [hbl] at hall
      exact ⟨_,_,⟨rfl,T1,prevD T1 d,rfl,hFl,hr1,prevD_ok hFl hnd hall,prevD_nd hFl hnd⟩,.inr rfl,[0,1,2,3,4],[],rfl,rfl,rfl,⟨.inr rfl,.inr (sub_map rfl rfl rfl (tr_idf _)),.inr (sub_map rfl rfl rfl (pv_idf _)),.inr (sub_map rfl rfl rfl (fv_idf _)),.inr (sub_map rfl rfl rfl (pv_idf _)),trivial⟩,by decide,lt24⟩
    · rw [List.getElem?_map] at g1
      obtain ⟨⟨a,c⟩,hac,rfl⟩ := Option.map_eq_some_iff.1 g1
      have hv : v = .b true := by rw [List.getElem?_map,hac] at g1';simpa using g1'.symm
      subst hv
      have k1 : (T1.map kE)[i]? = some (kE (a,c)) := by simp [hac]
      have k2 : (trA T1)[i]? = some (.b true) := by simp [hac]
      have hnew := seen_not g2 g3
      have hil := (List.getElem?_eq_some_iff.1 hac).1
      have hsn := seen_snoc (d := d) g2
      have hd' : (d ++ [i]).Nodup ∧ ∀ j,j ∈ d ++ [i] → j < T1.length := ⟨nodup_snoc hnd hnew,fun j hj => (List.mem_append.1 hj).elim (hlt j) (fun e => by simp at e;rw [e];exact hil)⟩
      have hdl2 := nodup_le hd'.1 hd'.2
      rw [List.length_append,List.length_singleton] at hdl2
      have hpn := prevD_nd hFl hd'.1
      have hps := prevD_snoc (d := d) hac
      have hni : kI c ∉ pkA (prevD T1 d) := by
        rw [hps] at hpn
        change (List.map _ _).Nodup at hpn
        rw [List.map_append,List.nodup_append] at hpn
        intro hm
        exact hpn.2.2 _ hm _ (by simp) rfl
      repeat' (first|(refine rg 11 ?_;refine vc_n (by exact fs_entry rfl rfl rfl rfl g2 k1 k2) rfl ?_;refine vc_weak 78 (.tup [.agg [.i a,.i c],.b true]) rfl (fun _ _ _ _ q=>R_tupE q) ?_;refine xV ?_;refine vc_n (by exact fs_alloc T rfl) rfl ?_;refine vc_store T rfl rfl rfl rfl rfl rfl (by decide) rfl ?_)|(refine aw_draw2k (id := 12) 88 [[],[0],[0,1],[0,1,2],[],[4],[],[6]] [80,81,82,83,84,85,86,87] [[],[],[],[],[80,81,82,83],[80,81,82,83],[80,81,82,83,84,85],[80,81,82,83,84,85]] mixedP rfl (by decide +kernel) ?_;refine dM ?_;refine dV rfl (by exact fs_nilCheck rfl rfl) ?_;refine dF T ?_;refine dL T ?_;refine dF T ?_;refine dL T ?_;refine dF T ?_;refine dL T ?_;refine dw_fin rfl rfl (by ((dsimp only [ln1,ln2,List.append_nil,ln4,ln5,ln6,ln7,ln8,ln9,putAt,putd,allObjs,argEnv,un_v,un_ptr,un_ep,un_pr,un_sl,un_mp,un_row,un_agg,un_tup,un_clo,Nat.zero_add,lnb,Nat.reduceAdd,lnc,lnd];done))) ?_;refine vc_mapNew mapII intK rfl rfl (isv_i _) rfl rfl (pk_good _) (good_i _) hni ?_)|refine nZ ?_)
      all_goals exact ⟨⟨d ++ [i],hd'⟩,by dsimp only;rw [List.length_append,List.length_singleton];omega,[0,1,2,3,4,5],rfl,(by (repeat (first | exact trivial | refine ⟨rfl,?_⟩))),⟨.inr rfl,.inr (sub_mapB rfl (tr_idf _)),.inr (sub_map rfl rfl rfl (pv_idf _)),.inr (sub_map rfl rfl rfl (fv_idf _)),.inr (sub_map rfl (by dsimp only;rw [hps];simp) (by dsimp only;rw [hps];simp) (pv_idf _)),.inr (sub_iter rfl hsn),trivial⟩,by decide,lt26⟩
  · obtain ⟨⟨bc,bo⟩,r',rfl,hbF,hnext,hnew,hold⟩ := hb1.more hfin
    obtain ⟨i,hi1,hi2⟩ := fk_at hbF
    have hrb := (hFr _ hbF).2
    have hrn := (hFr _ hbF).1
    dsimp only at *
    have same : ¬ (bo = true ∧ no = false ∧ bc ≠ nc) → ¬ (bo = false ∧ no = true ∧ bc ≠ nc) → Back (netP s W st) k Te F T1 ((bc,bo) :: r') := fun h1 h2 => hnext T1 (by unfold Tk;rw [if_neg h1,if_neg h2])
    by_cases hA : bo = true ∧ no = false ∧ bc ≠ nc
    · obtain ⟨rfl,rfl,hne⟩ := hA
      have hT' := hnext (T1 ++ [(bc,nc)]) (by unfold Tk;rw [if_pos ⟨rfl,rfl,hne⟩];exact List.perm_append_singleton _ _)
      have hno := hnew ⟨rfl,rfl,hne⟩
      repeat' (first|refine wS ?_|refine wB ?_|refine wK ?_|refine wE ?_|(refine wC rfl (fun hb=>?_) (fun hb=>?_)<;>(((try simp only [nm] at hb);try (exfalso;omega))))|(refine aw_draw2k (id := 1) 88 [[],[],[1],[1,2],[1,2,3],[1,2,3,4],[0,1,2,3,4,5]] [8,9,10,11,12,13,14] [[],[8],[8],[8],[8],[8],[]] mixedP rfl (by decide +kernel) ?_;refine dL T ?_;refine dM ?_;refine dV rfl (by exact fs_nilCheck rfl rfl) ?_;refine dF T ?_;refine dL T ?_;refine dV rfl (by exact fs_build T rfl rfl rfl rfl) ?_;refine dV rfl (by exact fs_neqNode nodeT rfl rfl) ?_;refine dw_fin rfl rfl (by ((dsimp only [ln1,ln2,List.append_nil,ln4,ln5,ln6,ln7,ln8,ln9,putAt,putd,allObjs,argEnv,un_v,un_ptr,un_ep,un_pr,un_sl,un_mp,un_row,un_agg,un_tup,un_clo,Nat.zero_add,lnb,Nat.reduceAdd,lnc,lnd];done))) ?_)|(refine rg 2 ?_;refine mV ?_;refine lV T ?_;refine vV (by exact fs_mapGet1 nodeM_u nodeK rfl rfl (isv_N _ _) rfl hFr.good ⟨_,(hFr _ hbF).1,rfl⟩ (fk_nd ht.nodup) hi1 hi2) ?_;refine vc_n (by exact fs_alloc T rfl) rfl ?_;refine vc_store T rfl rfl rfl rfl rfl rfl (by decide) rfl ?_)|(refine rg 3 ?_;refine flV T ?_;refine mV ?_;refine gK ?_;refine yF T ?_;refine yL T ?_;refine yV (by exact fs_not rfl) ?_;refine pV ?_;refine mV ?_;refine gK ?_;refine yF T ?_;refine yL T ?_;refine yF T ?_;refine yL T ?_;refine yV (by exact fs_neq rfl rfl) ?_;refine pV ?_;refine aV ?_)|(refine aw_draw2k (id := 4) 88 [[],[0],[0,1],[0,1,2],[],[4],[],[6],[4,5,6,7]] [33,34,35,36,37,38,39,40,41] [[],[],[],[],[33,34,35,36],[33,34,35,36],[33,34,35,36,37,38],[33,34,35,36,37,38],[33,34,35,36]] mixedP rfl (by decide +kernel) ?_;refine dM ?_;refine dV rfl (by exact fs_nilCheck rfl rfl) ?_;refine dF T ?_;refine dL T ?_;refine dF T ?_;refine dL T ?_;refine dF T ?_;refine dL T ?_;refine dV rfl (by exact fs_build T rfl rfl rfl rfl) ?_;refine dw_fin rfl rfl (by ((dsimp only [ln1,ln2,List.append_nil,ln4,ln5,ln6,ln7,ln8,ln9,putAt,putd,allObjs,argEnv,un_v,un_ptr,un_ep,un_pr,un_sl,un_mp,un_row,un_agg,un_tup,un_clo,Nat.zero_add,lnb,Nat.reduceAdd,lnc,lnd];done))) ?_;refine vc_mapNew edgeM_u edgeK rfl rfl (isv_E _ _) rfl rfl hr1.good ⟨(bc,nc),⟨hrb,hrn⟩,rfl⟩ (kE_no hno) ?_)|(refine rg 7 ?_;refine lV T ?_;refine vc_store T rfl rfl rfl rfl rfl rfl (by decide) rfl ?_)|refine nZ ?_)
      all_goals first | exact absurd hb hfin | exact absurd hb hne | skip
      all_goals exact ⟨⟨(T1 ++ [(bc,nc)],(bc,true),r'),hT',fun e he => (List.mem_append.1 he).elim (hr1 e) (fun q => by simp at q;subst q;exact ⟨hrb,hrn⟩)⟩,by simp,[0,1,2,3,4],rfl,(by (repeat (first | exact trivial | refine ⟨rfl,?_⟩))),⟨.inr rfl,.inr (sub_map rfl (by simp) (by simp) (tr_idf _)),.inr (sub_map rfl rfl rfl (pv_idf _)),.inr (sub_map rfl rfl rfl (fv_idf _)),.inr rfl,trivial⟩,by decide,lt24⟩
    · by_cases hB : bo = false ∧ no = true ∧ bc ≠ nc
      · obtain ⟨rfl,rfl,hne⟩ := hB
        have hyes := hold ⟨rfl,rfl,hne⟩
        obtain ⟨j,hj⟩ := List.mem_iff_getElem?.1 hyes
        have hT' := hnext (T1.eraseIdx j) (by unfold Tk;rw [if_neg (by simp),if_pos ⟨rfl,rfl,hne⟩];exact perm_erase hj)
        repeat' (first|refine wS ?_|refine wB ?_|refine wK ?_|refine wE ?_|refine wU ?_|(refine wC rfl (fun hb=>?_) (fun hb=>?_)<;>(((try simp only [nm] at hb);try (exfalso;omega))))|(refine aw_draw2k (id := 1) 88 [[],[],[1],[1,2],[1,2,3],[1,2,3,4],[0,1,2,3,4,5]] [8,9,10,11,12,13,14] [[],[8],[8],[8],[8],[8],[]] mixedP rfl (by decide +kernel) ?_;refine dL T ?_;refine dM ?_;refine dV rfl (by exact fs_nilCheck rfl rfl) ?_;refine dF T ?_;refine dL T ?_;refine dV rfl (by exact fs_build T rfl rfl rfl rfl) ?_;refine dV rfl (by exact fs_neqNode nodeT rfl rfl) ?_;refine dw_fin rfl rfl (by ((dsimp only [ln1,ln2,List.append_nil,ln4,ln5,ln6,ln7,ln8,ln9,putAt,putd,allObjs,argEnv,un_v,un_ptr,un_ep,un_pr,un_sl,un_mp,un_row,un_agg,un_tup,un_clo,Nat.zero_add,lnb,Nat.reduceAdd,lnc,lnd];done))) ?_)|(refine rg 2 ?_;refine mV ?_;refine lV T ?_;refine vV (by exact fs_mapGet1 nodeM_u nodeK rfl rfl (isv_N _ _) rfl hFr.good ⟨_,(hFr _ hbF).1,rfl⟩ (fk_nd ht.nodup) hi1 hi2) ?_;refine vc_n (by exact fs_alloc T rfl) rfl ?_;refine vc_store T rfl rfl rfl rfl rfl rfl (by decide) rfl ?_)|(refine rg 3 ?_;refine flV T ?_;refine mV ?_;refine gK ?_;(iterate 3 refine gF ?_);refine pV ?_;refine mV ?_;refine gK ?_;(iterate 5 refine gF ?_);refine pV ?_;refine aV ?_)|(refine rg 5 ?_;refine flV T ?_;refine vV (by exact fs_not rfl) ?_;refine mV ?_;refine gK ?_;refine yF T ?_;refine yL T ?_;refine pV ?_;refine mV ?_;refine gK ?_;refine yF T ?_;refine yL T ?_;refine yF T ?_;refine yL T ?_;refine yV (by exact fs_neq rfl rfl) ?_;refine pV ?_;refine aV ?_)|(refine aw_drawT (id := 6) 9 88 [[],[0],[0,1],[0,1,2],[],[4],[],[6],[4,5,6,7],[0,1,2,3,4,5,6,7,8]] [[],[0],[0,1],[0,1,2],[],[4],[],[6],[4,5,6,7]] [57,58,59,60,61,62,63,64,65] [[],[],[],[],[57,58,59,60],[57,58,59,60],[57,58,59,60,61,62],[57,58,59,60,61,62],[57,58,59,60]] mixedP rfl (by decide +kernel) (by decide +kernel) ?_;(dsimp only [List.take,List.drop]);refine dM ?_;refine dV rfl (by exact fs_nilCheck rfl rfl) ?_;refine dF T ?_;refine dL T ?_;refine dF T ?_;refine dL T ?_;refine dF T ?_;refine dL T ?_;refine dV rfl (by exact fs_build T rfl rfl rfl rfl) ?_;refine dw_fin rfl rfl (by ((dsimp only [ln1,ln2,List.append_nil,ln4,ln5,ln6,ln7,ln8,ln9,putAt,putd,allObjs,argEnv,un_v,un_ptr,un_ep,un_pr,un_sl,un_mp,un_row,un_agg,un_tup,un_clo,Nat.zero_add,lnb,Nat.reduceAdd,lnc,lnd];done))) ?_;refine vc_nil ?_;refine vc_mapDel edgeM_u edgeK rfl rfl (isv_E _ _) rfl hr1.good ⟨(nc,bc),⟨hrn,hrb⟩,rfl⟩ (kE_nd hb1.nodupT) (show (T1.map kE)[j]? = some (kE (nc,bc)) by simp [hj]) ?_)|(refine rg 7 ?_;refine lV T ?_;refine vc_store T rfl rfl rfl rfl rfl rfl (by decide) rfl ?_)|refine nZ ?_)
        all_goals first | exact absurd hb hfin | exact absurd hb hne | skip
        all_goals exact ⟨⟨(T1.eraseIdx j,(bc,false),r'),hT',fun e he => hr1 e (List.mem_of_mem_eraseIdx he)⟩,by simp,[0,1,2,3,4],rfl,(by (repeat (first | exact trivial | refine ⟨rfl,?_⟩))),⟨.inr rfl,.inr (sub_map rfl (map_eraseIdx _ _ _).symm (map_eraseIdx _ _ _).symm (tr_idf _)),.inr (sub_map rfl rfl rfl (pv_idf _)),.inr (sub_map rfl rfl rfl (fv_idf _)),.inr rfl,trivial⟩,by decide,lt24⟩
      · have hsame := same hA hB
        repeat' (first|refine wS ?_|refine wB ?_|refine wK ?_|refine wE ?_|refine wU ?_|(refine wC rfl (fun hb=>?_) (fun hb=>?_)<;>(((try simp only [nm] at hb);try (exfalso;omega))))|(refine aw_draw2k (id := 1) 88 [[],[],[1],[1,2],[1,2,3],[1,2,3,4],[0,1,2,3,4,5]] [8,9,10,11,12,13,14] [[],[8],[8],[8],[8],[8],[]] mixedP rfl (by decide +kernel) ?_;refine dL T ?_;refine dM ?_;refine dV rfl (by exact fs_nilCheck rfl rfl) ?_;refine dF T ?_;refine dL T ?_;refine dV rfl (by exact fs_build T rfl rfl rfl rfl) ?_;refine dV rfl (by exact fs_neqNode nodeT rfl rfl) ?_;refine dw_fin rfl rfl (by ((dsimp only [ln1,ln2,List.append_nil,ln4,ln5,ln6,ln7,ln8,ln9,putAt,putd,allObjs,argEnv,un_v,un_ptr,un_ep,un_pr,un_sl,un_mp,un_row,un_agg,un_tup,un_clo,Nat.zero_add,lnb,Nat.reduceAdd,lnc,lnd];done))) ?_)|(refine rg 2 ?_;refine mV ?_;refine lV T ?_;refine vV (by exact fs_mapGet1 nodeM_u nodeK rfl rfl (isv_N _ _) rfl hFr.good ⟨_,(hFr _ hbF).1,rfl⟩ (fk_nd ht.nodup) hi1 hi2) ?_;refine vc_n (by exact fs_alloc T rfl) rfl ?_;refine vc_store T rfl rfl rfl rfl rfl rfl (by decide) rfl ?_)|(refine rg 3 ?_;refine flV T ?_;refine mV ?_;refine vc_split rfl rfl (fun hb=>?_) (fun hb=>?_)<;>(subst hb);(all_goals first|(refine gT ?_;(refine fV T ?_);refine gT ?_;(refine lV T ?_);refine gT ?_;(refine vV (by exact fs_not rfl) ?_))|(iterate 3 refine gF ?_));(all_goals (refine pV ?_;refine mV ?_));(all_goals first|(refine gK ?_)|(refine vc_split rfl rfl (fun hb=>?_) (fun hb=>?_)<;>((rw [hb];(try simp only [nm] at hb);try ((exfalso;omega);done)))));(all_goals first|(refine gT ?_;(refine fV T ?_);refine gT ?_;(refine lV T ?_);refine gT ?_;(refine fV T ?_);refine gT ?_;(refine lV T ?_);refine gT ?_;(refine vV (by exact fs_neq rfl rfl) ?_))|(iterate 5 refine gF ?_));(all_goals (refine pV ?_;refine aV ?_)))|(refine rg 5 ?_;refine flV T ?_;refine vV (by exact fs_not rfl) ?_;refine mV ?_;refine gK ?_;(all_goals first|(refine gT ?_;(refine fV T ?_);refine gT ?_;(refine lV T ?_))|(iterate 2 refine gF ?_));(all_goals (refine pV ?_;refine mV ?_));(all_goals first|(refine gK ?_)|(refine vc_split rfl rfl (fun hb=>?_) (fun hb=>?_)<;>(subst hb)));(all_goals first|(refine gT ?_;(refine fV T ?_);refine gT ?_;(refine lV T ?_);refine gT ?_;(refine fV T ?_);refine gT ?_;(refine lV T ?_);refine gT ?_;(refine vV (by exact fs_neq rfl rfl) ?_))|(iterate 5 refine gF ?_));(all_goals (refine pV ?_;refine aV ?_)))|(refine rg 7 ?_;refine lV T ?_;refine vc_store T rfl rfl rfl rfl rfl rfl (by decide) rfl ?_)|refine nZ ?_)
        all_goals first | exact absurd hb hfin | (exfalso;exact hA ⟨by first | rfl | assumption,by first | rfl | assumption,by assumption⟩) | (exfalso;exact hB ⟨by first | rfl | assumption,by first | rfl | assumption,by assumption⟩) | skip
        all_goals exact ⟨⟨(T1,_,r'),hsame,hr1⟩,by simp,[0,1,2,3,4],rfl,(by (repeat (first | exact trivial | refine ⟨rfl,?_⟩))),⟨.inr rfl,.inr (sub_map rfl rfl rfl (tr_idf _)),.inr (sub_map rfl rfl rfl (pv_idf _)),.inr (sub_map rfl rfl rfl (fv_idf _)),.inr rfl,trivial⟩,by decide,lt24⟩
end Go.Proofs.YtdmajnjoeidgeaaGreat
namespace Go.Ab
open Go Go.MapKept
section
variable {P : Program} {env : Env} {h : Hp}
variable {d : Option Nat} {ty : TypeId} {pos : String} {af : Array Edge} {g : Option (Nat × Bool)}
variable {n : Nat × Nat} {ops : Array Oper} {rest : List Oper} {K : Env → Hp → Prop}
variable {t kt et : TypeId} {good : Value → Prop} {x y z : Operand} {k i : Nat} {kv : Value} {ks : List Value} {vs : List AV} {v : AV}
theorem vc_mapIns (ht : P.underlying t = some (.map kt et)) (ko : KeyOk P kt good) (hx : evu env x = some (.mp k)) {yv : AV} (hy : evu env y = some yv) (hyv : IsV yv kv) (hz : evu env z = some v) (hk : h[k]? = some (.mapO ks vs)) (hkeys : ∀ q, q ∈ ks → good q) (hkey : good kv) (hni : kv ∉ ks)
    (hv : VC P n ops rest env (h.set k (.mapO (ks ++ [kv]) (vs ++ [v]))) K) : VC P n ops (⟨none,.insert t x y z,ty,pos,af,none⟩ :: rest) env h K := by
  intro c ρ S a w Q s hQ
  refine wpList_plain rfl fun K' hK' => ?_
  have p := s.pre
  have h1 := p.evu hx
  simp only [R] at h1
  obtain ⟨b,o,h2,h3⟩ := h1
  have h4 := hyv _ _ _ _ (p.evu hy)
  have hzv := p.evu hz
  obtain ⟨b',o',l,ck,h5,h6,h7,h8,h13⟩ := map_findS (p.blk k _ hk)
  rw [h2] at h5;cases h5
  have h9 := find_none ko w h7 hkeys hkey hni
  have hr : (execOp a.eval ⟨none,.insert t x y z,ty,pos,af,none⟩).run P w = .ok .skip { w with heap := w.heap.setIfInBounds b (.map (l.push { key := kv,val := a.eval z,born := ck }) (ck + 1)) } := by
    simp [execOp,h3,h4,Instr.mapUpdate,run_underlying ht,MapKept.run_getObj_map h6,ko.check w _ hkey,h9,MapKept.run_setObj_map _ h6]
  unfold Oper.wp
  rw [hr]
  obtain ⟨g1,g2⟩ := s.hs.upd (nb := .mapO (ks ++ [kv]) (vs ++ [v])) hk (by simp) h2 (ext_setObj (o := .map (l.push { key := kv,val := a.eval z,born := ck }) (ck + 1)) h6) (fun l' => by
    simp only [RB]
    refine ⟨b,o,_,_,rfl,(MapKept.heap_set h6).1,⟨by simp [h7],h13.push⟩,?_⟩
    rw [Array.toList_push,List.map_append]
    exact RL_append (h8.later l') (by simp only [List.map_cons,List.map_nil,RL];exact ⟨_,_,rfl,hzv.later l',rfl⟩))
  exact hK' _ _ (hv c ρ S _ _ Q ⟨by rw [size_put];exact s.size,by rw [defers_put];exact s.defers.later g2,fun tt uu huu => (s.env tt uu huu).later g2,g1,s.cm⟩ hQ)
end
end Go.Ab
namespace Go.Proofs.YtdmajnjoeidgeaaGreat
open Go Go.Ab Go.Fl Go.Re Go.Ln Go.MapKept
attribute [local irreducible] VC AW FStep ACall PCall NodeT
set_option maxHeartbeats 4000000
def inW (W : List Int) (st : Int) (n : LNode) : Prop := n.1 ∈ W ∨ n.1 = st
theorem next_inW {s : Sit} {W : List Int} {st : Int} {Te : List LEdge} {k : Nat} {U : List (Int × Int)} (hF : Flow (netP s W st) k Te) (hU : PrevOk Te (prevF U)) {n x : LNode} (hn : inW W st n) (hTW : ∀ e,e ∈ Te → inW W st (e.1,true)) (hx : x ∈ nextP (netP s W st) Te (prevF U) n) : inW W st x := by
  obtain ⟨c,o⟩ := n
  unfold nextP at hx
  cases o with
  | true =>
    simp only [if_true] at hx
    rcases List.mem_append.1 hx with hx | hx
    · obtain ⟨y,hy,hq⟩ := List.mem_filterMap.1 hx
      split at hq
      · cases hq;exact .inl (mem_stepP.1 hy).1
      · cases hq
    · split at hx
      · simp only [List.mem_singleton] at hx;subst hx;exact hn
      · cases hx
  | false =>
    simp only [Bool.false_eq_true,if_false] at hx
    split at hx
    · simp only [List.mem_singleton] at hx;subst hx;exact hn
    · rename_i b hu
      split at hx
      · simp only [List.mem_singleton] at hx;subst hx
        exact hTW _ ((hU c b).1 hu)
      · cases hx
theorem lt33 : ∀ i : Nat,i < 3 → ([0,1,2] : List Nat)[i]? = some i := by decide
theorem tr_view {h : Hp} : ∀ Te : List LEdge, ViewL h (trA Te) (trA Te)
  | [] => .nil
  | _ :: l => .cons (.v _) (tr_view l)
theorem pv_view {h : Hp} : ∀ U : List (Int × Int), ViewL h (pvA U) (pvA U)
  | [] => .nil
  | _ :: l => .cons (.v _) (pv_view l)
theorem zNode : ∀ w,(zeroValue 122).run Tryz.prog w = .ok (.agg #[.int .i64 0,.bool false]) w := zero_run (by kernel_rfl)
theorem zNodeA (S : Nat → Prop) (w : World) (ρ : Pl) : R S w (.agg [.i 0,.b false]) ρ (.agg #[.int .i64 0,.bool false]) := by simp [R,RL]
theorem nextP_len (s : Sit) (W : List Int) (st : Int) (Te : List LEdge) (V : Int → Option Int) (n : LNode) : (nextP (netP s W st) Te V n).length ≤ 7 := by
  unfold nextP
  split
  · rw [List.length_append]
    have h1 := Nat.le_trans (List.length_filterMap_le (fun c => if c ≠ (netP s W st).st ∧ (n.1,c) ∉ Te then some (c,false) else none) ((netP s W st).sp n.1)) (stepK_len s.fl W n.1 6)
    split <;> simp only [List.length_cons,List.length_nil] <;> omega
  · split
    · simp
    · split <;> simp
theorem nodes_app2 {pre Q : List LNode} {n : LNode} {c : Int} {o : Bool} : List.take (Q.length + 1) (List.drop pre.length (nodesA (pre ++ n :: Q))) ++ [[AV.i c,AV.b o]] = nodesA ([] ++ n :: (Q ++ [(c,o)])) := by
  rw [show nodesA (pre ++ n :: Q) = nodesA pre ++ nodesA (n :: Q) by simp,List.drop_left' (by simp),List.take_of_length_le (by simp)];simp
theorem stepP_ne {f : Flo} (g : Fine f) (W : List Int) : ∀ a,a ∉ stepP f W a := fun a ha => by
  obtain ⟨_,d,_,hd⟩ := mem_stepP.1 ha
  have h := next_some g hd
  have := (beside_opp g (c := a) (d := d) (by rw [h.2.2.2.1];exact h.2.2.1.1)).2
  rw [h.2.2.2.1] at this
  exact this rfl
theorem nodes_len (l : List LNode) : ∀ e,e ∈ nodesA l → e.length = 2 := by intro e he;obtain ⟨n,_,rfl⟩ := List.mem_map.1 he;rfl
theorem lt38 : ∀ i : Nat,i < 3 → ([0,1,2,6] : List Nat)[i]? = some i := by decide
theorem fk_no {F : List (LNode × LNode)} {n : LNode} (h : n ∉ F.map (·.1)) : kN n ∉ fkA F := fun hm => by
  obtain ⟨x,hx,e⟩ := List.mem_map.1 hm
  exact h (List.mem_map.2 ⟨x,hx,kN_inj e⟩)
theorem lt39 : ∀ i : Nat,i < 3 → ([0,1,2,3,4] : List Nat)[i]? = some i := by decide
theorem lt37 : ∀ i : Nat,i < 3 → ([0,1,2,3,9,5] : List Nat)[i]? = some i := by decide
theorem nodes_rfl : ∀ l : List LNode, AV.rfL (nodesA l).flatten = true
  | [] => rfl
  | _ :: l => nodes_rfl l
theorem nodes_all : ∀ l : List LNode, (nodesA l).all AV.rfL = true
  | [] => rfl
  | _ :: l => nodes_all l
theorem nodes_rf (l : List LNode) : ((AV.sl 0 0 l.length 2).rf && [AB.arr (nodesA l) 2].all AB.rf) = true := by
  simp only [AV.rf,List.all_cons,List.all_nil,Bool.and_true,Bool.true_and]
  exact nodes_all l
theorem lt36 : ∀ i : Nat,i < 3 → ([0,1,2,3,4,5] : List Nat)[i]? = some i := by decide
theorem lt35 : ∀ i : Nat,i < 3 → ([0,1,2,4,5] : List Nat)[i]? = some i := by decide
section
variable {env : Env} {h : Hp} {d : Option Nat} {ty : TypeId} {pos : String} {af : Array Edge} {g : Option (Nat × Bool)} {x y : Operand} {k : Nat}
theorem fs_prev {U : List (Int × Int)} {c : Int} (hU : (pkA U).Nodup) (hx : evu env x = some (.mp k)) (hy : evu env y = some (.i c)) (hk : h[k]? = some (.mapO (pkA U) (pvA U))) :
    FStep Tryz.prog ⟨d,.lookup 72 x y true,ty,pos,af,g⟩ env h 0 (fun _ => .tup [.i ((prevF U c).getD 0),.b (prevF U c).isSome]) (fun _ => []) := by
  cases hu : prevF U c with
  | none => exact fs_mapMiss mapII intK zInt (fun _ _ _ => R_v_mk _) hx hy (isv_i _) hk (pk_good U) (good_i _) (prevF_none hu)
  | some p =>
    obtain ⟨i,hi1,hi2⟩ := prevF_some hu
    exact fs_mapGet mapII intK hx hy (isv_i _) hk (pk_good U) (good_i _) hU hi1 hi2
end
structure GSt (s : Sit) (W : List Int) (st : Int) (Te : List LEdge) (U : List (Int × Int)) (F : List (LNode × LNode)) (Q D : List LNode) : Prop where
  gr : Grow (netP s W st) Te (prevF U) F Q D
  iw : ∀ n,n ∈ F.map (·.1) → inW W st n
theorem _root_.Go.Ln.Tree.vals {g : Net} {Te : List LEdge} {F : List (LNode × LNode)} (h : Tree g Te F) : ∀ p,p ∈ F → p.2 ∈ F.map (·.1) := by
  induction h with
  | one => intro p hp;simp only [List.mem_singleton] at hp;subst hp;simp
  | more _ hn _ _ _ ih =>
    intro p hp
    rw [List.map_append]
    rcases List.mem_append.1 hp with hp | hp
    · exact List.mem_append_left _ (ih p hp)
    · simp only [List.mem_singleton] at hp;subst hp;exact List.mem_append_left _ hn
theorem nodes_le {N : Nat} {l : List LNode} (hn : l.Nodup) (h : ∀ n,n ∈ l → 0 ≤ n.1 ∧ n.1 < N) : l.length ≤ 2 * N := by
  have h1 : l.length ≤ ((List.range N).flatMap fun i : Nat => [((i : Int),false),((i : Int),true)]).length := nodup_sub hn fun n hm => by
    obtain ⟨c,o⟩ := n
    obtain ⟨h0,h2⟩ := h _ hm
    refine List.mem_flatMap.2 ⟨c.toNat,List.mem_range.2 (by simp only at h0 h2;omega),?_⟩
    simp only at h0
    cases o <;> simp <;> omega
  have h2 : ((List.range N).flatMap fun i : Nat => [((i : Int),false),((i : Int),true)]).length = 2 * N := by
    clear h1 h hn
    induction N with
    | zero => rfl
    | succ N ih => rw [List.range_succ,List.flatMap_append,List.length_append,ih];simp;omega
  omega
theorem grow_c (s : Sit) (g : Fine s.fl) (W : List Int) (hW : Asc W) (hWl : W.length ≤ 1000000) (hWr : ∀ x,x ∈ W → 0 ≤ x ∧ x < s.fl.k.length) (st : Int) (hstr : 0 ≤ st ∧ st < s.fl.k.length) (hst : exB s.fl st = false) {k : Nat} {Te : List LEdge} {U : List (Int × Int)} (hF : Flow (netP s W st) k Te) (hTr : RngT Te) (hTW : ∀ e,e ∈ Te → inW W st (e.1,true)) (hU : PrevOk Te (prevF U)) (hUn : (pkA U).Nodup) :
    PCall Tryz.prog 35 [.ptr 0 0] (nwH s W st Te U) (fun r o => (r = .b true ∧ ∃ T' U',o = [.cells (netA s W st (.mp 1) (.mp 3)),.mapO (T'.map kE) (trA T'),.mapO (pkA U) (pvA U),.mapO (pkA U') (pvA U')] ∧ Flow (netP s W st) (k + 1) T' ∧ RngT T' ∧ PrevOk T' (prevF U') ∧ (pkA U').Nodup) ∨ (r = .b false ∧ o = nwH s W st Te U ∧ ∃ R,Shut (netP s W st) Te R)) := by
  have hN := g.le
  have hri : ∀ c : Int,0 ≤ c ∧ c < s.fl.k.length → rngI c := fun c hc => ⟨by omega,by omega⟩
  refine pcall T Tryz.func35 rfl rfl rfl rfl ?_
  repeat' (first|refine wS ?_|refine wB ?_|(refine rg 0 ?_;refine aV ?_)|(refine rg 1 ?_;refine mV ?_;refine nV ?_;refine flV T ?_;refine vV (by exact fs_build T rfl rfl rfl rfl) ?_;refine vc_n (by exact fs_alloc T rfl) rfl ?_;refine vc_store T rfl rfl rfl rfl rfl rfl (by decide) rfl ?_)|(refine rg 2 ?_;refine vc_n (by exact fs_mapNew) rfl ?_;refine lV T ?_;refine lV T ?_;refine vc_mapIns nodeM_u nodeK rfl rfl (isv_N _ _) rfl rfl (fun q hq=>by cases hq) ⟨(st,true),hri st hstr,rfl⟩ (by simp) ?_;(all_goals (refine mV ?_;refine aV ?_)))|(refine rg 3 ?_;refine lV T ?_;refine vc_n (by exact fs_buildSlice T rfl rfl (by decide) (by decide) rfl rfl rfl) rfl ?_;refine aV ?_)|refine nZ ?_)
  refine aw_loop (X := {p : List (LNode × LNode) × List LNode × List LNode × List LNode // GSt s W st Te U p.1 p.2.1 p.2.2.1}) (fun p => [(0,.ptr 0 0),(4,.mp 3),(5,.sl 4 p.1.2.2.2.length p.1.2.1.length 2)]) (fun p => [.cells (netA s W st (.mp 1) (.mp 2)),.mapO (Te.map kE) (trA Te),.mapO (pkA U) (pvA U),.mapO (fkA p.1.1) (fvA p.1.1),.arr (nodesA (p.1.2.2.2 ++ p.1.2.1)) 2]) (fun p => 2 * (2 * s.fl.k.length - p.1.1.length) + p.1.2.1.length) ⟨([((st,true),(st,true))],[(st,true)],[],[]),Grow.start,fun n hn => by simp at hn;subst hn;exact .inr rfl⟩ ⟨[0,1,2,4,5],rfl,(by (repeat (first | exact trivial | refine ⟨rfl,?_⟩))),⟨.inr rfl,.inr (sub_map rfl rfl rfl (tr_idf _)),.inr (sub_map rfl rfl rfl (pv_idf _)),.inr (sub_map rfl rfl rfl rfl),.inr (sub_arr rfl rfl (nodes_idf _)),trivial⟩,by decide,lt35⟩ ?_
  rintro ⟨⟨F,Q,D,pre⟩,hg⟩
  dsimp only
  dsimp only at hg
  have hcl : ∀ n : LNode,n ∈ F.map (·.1) → 0 ≤ n.1 ∧ n.1 < (s.fl.k.length : Int) := fun n hn => (hg.iw n hn).elim (fun h => hWr _ h) (fun h => by rw [h];exact hstr)
  have hFl := nodes_le hg.gr.tree.nodup hcl
  match Q,hg with
  | [],hg =>
    repeat' (first|refine wS ?_|refine wR ?_|refine wE ?_|refine wU ?_|(refine rg 4 ?_;refine mV ?_;refine qV T ?_;refine vV (by exact fs_gtr rfl rfl) ?_)|(refine rg 19 ?_;refine aV ?_)|refine nZ ?_)
    all_goals exact ⟨_,_,.inr ⟨rfl,rfl,_,hg.gr.shut hF hU⟩,.inl rfl,[0,1,2],_,rfl,rfl,rfl,⟨.inr rfl,.inr (sub_map rfl rfl rfl (tr_idf _)),.inr (sub_map rfl rfl rfl (pv_idf _)),trivial⟩,by decide,lt33⟩
  | n :: Q,hg =>
    obtain ⟨c,o⟩ := n
    have e1 : (nodesA (pre ++ (c,o) :: Q))[pre.length + (0 : Int).toNat]? = some [AV.i c,AV.b o] := by simp
    have hcF : (c,o) ∈ F.map (·.1) := by rw [hg.gr.all];simp
    have hcr : 0 ≤ c ∧ c < (s.fl.k.length : Int) := hcl (c,o) hcF
    have cx := isExit_c s c hcr.1 hcr.2
    have hFr : RngF F := fun p hp => ⟨hri _ (hcl _ (List.mem_map.2 ⟨p,hp,rfl⟩)),hri _ (hcl _ (hg.gr.tree.vals p hp))⟩
    have hQl : ((c,o) :: Q).length ≤ F.length := by have := congrArg List.length hg.gr.all;simp only [List.length_map,List.length_append] at this;omega
    by_cases hq : o = false ∧ (prevF U c).isSome = false ∧ exB s.fl c = true
    · obtain ⟨rfl,hu,hx⟩ := hq
      have hu : prevF U c = none := by simpa using hu
      rw [hx] at cx
      have ct := take_c (U := U) s g W st hst hF hg.gr.tree hx (hU.free.1 hu) hcF hTr hFr
      repeat' (first|refine wS ?_|refine wB ?_|refine wK ?_|refine wR ?_|(first|(refine wT ?_)|(refine aw_cond rfl (fun hb=>?_) (fun hb=>?_)<;>(((try simp only [nm] at hb);try ((exfalso;omega);done)))))|(refine rg 4 ?_;refine mV ?_;refine qV T ?_;refine vV (by exact fs_gtr rfl rfl) ?_)|(refine rg 6 ?_;refine mV ?_;refine vV (by exact fs_indexOwn T rfl rfl rfl rfl rfl (by omega) (by simp)) ?_;refine vV (by exact fs_load T rfl rfl (behind_ep rfl e1) rfl) ?_;refine vc_n (by exact fs_alloc T rfl) rfl ?_;refine vc_store T rfl rfl rfl rfl rfl rfl (by decide) rfl ?_)|(refine aw_draw2k (id := 7) 86 [[],[0],[0,1],[0,1,2],[],[4],[0,1,2,3,4,5],[0,1,2,3,4,5,6],[0,1,2,3,4,5,6,7],[0,1,2,3,4,5,6,7],[0,1,2,3,4,5,6,7,8]] [33,34,35,36,37,38,39,32,40,41,7] [[],[],[],[],[33,34,35,36],[33,34,35,36],[],[],[],[40],[41]] mixedP rfl (by decide +kernel) ?_;refine dM ?_;refine dV rfl (by exact fs_nilCheck rfl rfl) ?_;refine dF T ?_;refine dL T ?_;refine dF T ?_;refine dL T ?_;refine dV rfl (by exact fs_prev hUn rfl rfl rfl) ?_;refine dM ?_;refine dV rfl (by exact fs_extract rfl rfl) ?_;refine dV rfl (by exact fs_extract rfl rfl) ?_;refine dV rfl (by exact fs_assign rfl) ?_;refine dw_fin rfl rfl (by ((dsimp only [ln1,ln2,List.append_nil,ln4,ln5,ln6,ln7,ln8,ln9,putAt,putd,allObjs,argEnv,un_v,un_ptr,un_ep,un_pr,un_sl,un_mp,un_row,un_agg,un_tup,un_clo,Nat.zero_add,lnb,Nat.reduceAdd,lnc,lnd];done))) ?_;refine aV ?_)|(refine aw_draw2k (id := 8) 86 [[],[0],[0,1],[0,1,2],[0,1,2,3],[0,1,2,3,4],[0,1,2,3,4,5],[0,1,2,3,4,5,6],[0,1,2,3,4,5,6,7],[0,1,2,3,4,5,6,7,8],[0,1,2,3,4,5,6,7,8,9],[0,1,2,3,4,5,6,7,8,9,10],[0,1,2,3,4,5,6,7],[0,1,2,3,4,5,6,7,12],[0,1,2,3,4,5,6,7,8,9,10,11,12,13],[0,1,2,3,4,5,6,7,8,9,10,11,12,13,14]] [42,43,44,45,46,47,48,49,50,51,52,53,54,55,56,57] [[],[],[],[],[],[],[],[],[],[],[],[],[50,51,52,53],[50,51,52,53],[],[]] mixedP rfl (by decide +kernel) ?_;refine dF T ?_;refine dL T ?_;refine dV rfl (by exact fs_not rfl) ?_;refine dM ?_;refine tM ?_;refine dT rfl (by exact fs_not rfl) ?_;refine dV rfl (by exact fs_pickt rfl rfl) ?_;refine dM ?_;refine dw_split rfl rfl rfl rfl (fun hb=>?_) (fun hb=>?_)<;>((rw [hb];(try simp only [nm] at hb);try ((exfalso;(simp [hu] at hb;done));done)))<;>(refine tM ?_);(all_goals (refine dT rfl (by exact fs_nilCheck rfl rfl) ?_;refine tF T ?_;refine tL T ?_;refine tF T ?_;refine tL T ?_;refine dT rfl (by exact kC (cx)) ?_;refine dV rfl (by exact fs_pickt rfl rfl) ?_;refine dw_fin rfl rfl (by ((dsimp only [ln1,ln2,List.append_nil,ln4,ln5,ln6,ln7,ln8,ln9,putAt,putd,allObjs,argEnv,un_v,un_ptr,un_ep,un_pr,un_sl,un_mp,un_row,un_agg,un_tup,un_clo,Nat.zero_add,lnb,Nat.reduceAdd,lnc,lnd];done))) ?_)))|(refine rg 9 ?_;refine mV ?_;refine vV (by exact fs_load T rfl rfl rfl rfl) ?_;refine mV ?_;refine vc_pcallw [0,1,2,3] rfl rfl ct rfl rfl (by decide) ⟨.inr rfl,.inr (sub_map rfl rfl rfl (tr_idf _)),.inr (sub_map rfl rfl rfl (pv_idf _)),.inr (sub_map rfl rfl rfl (fv_idf _)),trivial⟩ (by simp) rfl ?_;rintro _ _ ⟨rfl,T',U',rfl,p1,p2,p3,p4⟩)|(refine rg 10 ?_;refine aV ?_)|refine nZ ?_)
      all_goals exact ⟨_,_,.inl ⟨rfl,T',U',rfl,p1,p2,p3,p4⟩,.inl rfl,[0,1,2,6],_,rfl,rfl,rfl,⟨.inr rfl,.inr (by first|exact sub_map rfl rfl rfl (tr_idf _)|exact sub_map rfl rfl (mapL_idf _ _ (tr_idf _)) (tr_idf _)),.inr (by first|exact sub_map rfl rfl rfl (pv_idf _)|exact sub_map rfl rfl (mapL_idf _ _ (pv_idf _)) (pv_idf _)),.inr (by first|exact sub_map rfl rfl rfl (pv_idf _)|exact sub_map rfl rfl (mapL_idf _ _ (pv_idf _)) (pv_idf _)),trivial⟩,by decide,lt38⟩
    · apply cutT
      · intro rest
        repeat' (first|refine wS ?_|refine wB ?_|refine wK ?_|refine wU ?_|(refine wC rfl (fun hb=>?_) (fun hb=>?_)<;>(((try simp only [nm] at hb);try (exfalso;omega))))|(refine rg 4 ?_;refine mV ?_;refine qV T ?_;refine vV (by exact fs_gtr rfl rfl) ?_)|(refine rg 6 ?_;refine mV ?_;refine vV (by exact fs_indexOwn T rfl rfl rfl rfl rfl (by omega) (by simp)) ?_;refine vV (by exact fs_load T rfl rfl (behind_ep rfl e1) rfl) ?_;refine vc_n (by exact fs_alloc T rfl) rfl ?_;refine vc_store T rfl rfl rfl rfl rfl rfl (by decide) rfl ?_)|(refine aw_draw2k (id := 7) 86 [[],[0],[0,1],[0,1,2],[],[4],[0,1,2,3,4,5],[0,1,2,3,4,5,6],[0,1,2,3,4,5,6,7],[0,1,2,3,4,5,6,7],[0,1,2,3,4,5,6,7,8]] [33,34,35,36,37,38,39,32,40,41,7] [[],[],[],[],[33,34,35,36],[33,34,35,36],[],[],[],[40],[41]] mixedP rfl (by decide +kernel) ?_;refine dM ?_;refine dV rfl (by exact fs_nilCheck rfl rfl) ?_;refine dF T ?_;refine dL T ?_;refine dF T ?_;refine dL T ?_;refine dV rfl (by exact fs_prev hUn rfl rfl rfl) ?_;refine dM ?_;refine dV rfl (by exact fs_extract rfl rfl) ?_;refine dV rfl (by exact fs_extract rfl rfl) ?_;refine dV rfl (by exact fs_assign rfl) ?_;refine dw_fin rfl rfl (by ((dsimp only [ln1,ln2,List.append_nil,ln4,ln5,ln6,ln7,ln8,ln9,putAt,putd,allObjs,argEnv,un_v,un_ptr,un_ep,un_pr,un_sl,un_mp,un_row,un_agg,un_tup,un_clo,Nat.zero_add,lnb,Nat.reduceAdd,lnc,lnd];done))) ?_;refine aV ?_)|(refine aw_draw2k (id := 8) 86 [[],[0],[0,1],[0,1,2],[0,1,2,3],[0,1,2,3,4],[0,1,2,3,4,5],[0,1,2,3,4,5,6],[0,1,2,3,4,5,6,7],[0,1,2,3,4,5,6,7,8],[0,1,2,3,4,5,6,7,8,9],[0,1,2,3,4,5,6,7,8,9,10],[0,1,2,3,4,5,6,7],[0,1,2,3,4,5,6,7,12],[0,1,2,3,4,5,6,7,8,9,10,11,12,13],[0,1,2,3,4,5,6,7,8,9,10,11,12,13,14]] [42,43,44,45,46,47,48,49,50,51,52,53,54,55,56,57] [[],[],[],[],[],[],[],[],[],[],[],[],[50,51,52,53],[50,51,52,53],[],[]] mixedP rfl (by decide +kernel) ?_;refine dF T ?_;refine dL T ?_;refine dV rfl (by exact fs_not rfl) ?_;refine dM ?_;(refine dw_split rfl rfl rfl rfl (fun hb=>?_) (fun hb=>?_)<;>((rw [hb];(try simp only [nm] at hb);try ((exfalso;omega);done)))<;>first|(refine tM ?_)|(refine dG ?_));(all_goals first|(refine dT rfl (by exact fs_not rfl) ?_)|(refine dG ?_));(all_goals (refine dV rfl (by first|exact fs_pickt rfl rfl|exact fs_pickf rfl rfl) ?_;refine dM ?_));(all_goals first|(refine dG ?_)|(refine dw_split rfl rfl rfl rfl (fun hb=>?_) (fun hb=>?_)<;>((rw [hb];(try simp only [nm] at hb);try ((exfalso;omega);done)))<;>first|(refine tM ?_)|(refine dG ?_)));(all_goals first|(refine dT rfl (by exact fs_nilCheck rfl rfl) ?_)|(refine dG ?_));(all_goals first|(refine tF T ?_)|(refine dG ?_));(all_goals first|(refine tL T ?_)|(refine dG ?_));(all_goals first|(refine tF T ?_)|(refine dG ?_));(all_goals first|(refine tL T ?_)|(refine dG ?_));(all_goals first|(refine dT rfl (by exact kC (cx)) ?_)|(refine dG ?_));(all_goals (refine dV rfl (by first|exact fs_pickt rfl rfl|exact fs_pickf rfl rfl) ?_;refine dw_fin rfl rfl (by ((dsimp only [ln1,ln2,List.append_nil,ln4,ln5,ln6,ln7,ln8,ln9,putAt,putd,allObjs,argEnv,un_v,un_ptr,un_ep,un_pr,un_sl,un_mp,un_row,un_agg,un_tup,un_clo,Nat.zero_add,lnb,Nat.reduceAdd,lnc,lnd];done))) ?_)))|refine nZ ?_)
        all_goals first | exact absurd ⟨by assumption,by assumption,by assumption⟩ hq | exact aw_keep ([(0,.ptr 0 0),(4,.mp 3),(5,.sl 4 pre.length ((c,o) :: Q).length 2),(6,.ptr 5 0)]) ([.cells (netA s W st (.mp 1) (.mp 2)),.mapO (Te.map kE) (trA Te),.mapO (pkA U) (pvA U),.mapO (fkA F) (fvA F),.arr (nodesA (pre ++ (c,o) :: Q)) 2,.cells [.i c,.b o]]) ⟨[0,1,2,3,4,5],rfl,(by (repeat (first | exact trivial | refine ⟨rfl,?_⟩))),⟨.inr rfl,.inr (sub_map rfl rfl rfl (tr_idf _)),.inr (sub_map rfl rfl rfl (pv_idf _)),.inr (sub_map rfl rfl rfl (fv_idf _)),.inr (sub_arr rfl rfl (nodes_idf _)),.inr rfl,trivial⟩,by decide,lt36⟩ rest.get
      · have hnx := next_cl0 s g W hW hWl (fun x hx => hri x (hWr x hx)) st Te hTr hF.nd U hUn c (hri c hcr) o
        have hni : ∀ x,x ∈ nextP (netP s W st) Te (prevF U) (c,o) → inW W st x := fun x hx => next_inW hF hU (hg.iw (c,o) hcF) hTW hx
        have hgm := hg.gr.open (fun q => hq ⟨q.1,by have := q.2.1;simp only at this;rw [this];rfl,q.2.2⟩)
        have hnl := nextP_len s W st Te (prevF U) (c,o)
        generalize hNX : nextP (netP s W st) Te (prevF U) (c,o) = NX at *
        have hNl : (nodesA NX).length = NX.length := by simp
        repeat' (first|refine wB ?_|(refine rg 11 ?_;refine mV ?_;refine vV (by exact fs_load T rfl rfl rfl rfl) ?_;refine vc_n (by exact fs_call rfl rfl hnx (.inl ⟨.cons (.ptr rfl (by repeat (first|exact .nil|exact .v _|exact .row _ _ _|exact .mp rfl (tr_view _)|exact .mp rfl (pv_view _)|refine .cons ?_ ?_))) (.cons (.agg (.cons (.v _) (.cons (.v _) .nil))) .nil),nodes_rf _⟩)) rfl ?_;refine vc_frz (es := nodesA NX) 64 rfl (congrArg (fun l=>some (AB.arr l 2)) (mapL_idfs _ (nodes_idf NX))) (by simp) (idfL_flat (nodes_idf NX)) ?_;(all_goals (refine qV T ?_;refine mV ?_)))|refine nZ ?_)
        refine aw_loop (X := {p : List (LNode × LNode) × List LNode × List LNode × Nat // p.2.2.2 ≤ NX.length ∧ GMid (netP s W st) Te (prevF U) (c, o) p.1 p.2.1 D (NX.take p.2.2.2) (NX.drop p.2.2.2) ∧ (∀ n, n ∈ p.1.map (·.1) → inW W st n) ∧ 2 * (2 * s.fl.k.length - p.1.length) + p.2.1.length ≤ 2 * (2 * s.fl.k.length - F.length) + Q.length})
          (fun p => [(0,.ptr 0 0),(4,.mp 3),(5,.sl 4 p.1.2.2.1.length ((c,o) :: p.1.2.1).length 2),(6,.ptr 5 0),(64,.rowE (nodesA NX) 2),(65,.i NX.length),(66,.i (p.1.2.2.2 : Int))])
          (fun p => [.cells (netA s W st (.mp 1) (.mp 2)),.mapO (Te.map kE) (trA Te),.mapO (pkA U) (pvA U),.mapO (fkA p.1.1) (fvA p.1.1),.arr (nodesA (p.1.2.2.1 ++ (c,o) :: p.1.2.1)) 2,.cells [.i c,.b o]])
          (fun p => NX.length - p.1.2.2.2) ⟨(F,Q,pre,0),by simp,by simpa using hgm,hg.iw,by simp⟩ ⟨[0,1,2,3,4,5],rfl,⟨rfl,rfl,rfl,rfl,rfl,congrArg (fun n : Nat => some (AV.i n)) hNl,rfl,trivial⟩,⟨.inr rfl,.inr (sub_map rfl rfl rfl (tr_idf _)),.inr (sub_map rfl rfl rfl (pv_idf _)),.inr (sub_map rfl rfl rfl (fv_idf _)),.inr (sub_arr rfl rfl (nodes_idf _)),.inr rfl,trivial⟩,by decide,lt36⟩ ?_
        rintro ⟨⟨F',Q',pre',j⟩,hj,hm,hiw,hle⟩
        dsimp only
        dsimp only at hj hm hiw hle
        have hcl' : ∀ n : LNode,n ∈ F'.map (·.1) → 0 ≤ n.1 ∧ n.1 < (s.fl.k.length : Int) := fun n hn => (hiw n hn).elim (fun h => hWr _ h) (fun h => by rw [h];exact hstr)
        have hFr' : RngF F' := fun p hp => ⟨hri _ (hcl' _ (List.mem_map.2 ⟨p,hp,rfl⟩)),hri _ (hcl' _ (hm.tree.vals p hp))⟩
        have hFl' := nodes_le hm.tree.nodup hcl'
        have hQl' : Q'.length + 1 ≤ F'.length := by have := congrArg List.length hm.all;simp only [List.length_map,List.length_append,List.length_singleton] at this;omega
        rw [List.length_map] at hFl'
        by_cases hlt : j < NX.length
        · have hdr := List.drop_eq_getElem_cons hlt
          have htk := List.take_succ_eq_append_getElem hlt
          have hxm := hni NX[j] (List.getElem_mem hlt)
          have q1 : (nodesA NX)[(j : Int).toNat]? = some [AV.i NX[j].1,AV.b NX[j].2] := by rw [Int.toNat_natCast];simp [hlt]
          rw [hdr] at hm
          generalize NX[j] = x at *
          obtain ⟨xc,xo⟩ := x
          have hxr : 0 ≤ xc ∧ xc < (s.fl.k.length : Int) := hxm.elim (fun h => hWr _ h) (fun h => by simp only at h;rw [h];exact hstr)
          dsimp only at q1
          by_cases hx : (xc,xo) ∈ F'.map (·.1)
          · have hm2 := hm.old hx
            rw [← htk] at hm2
            obtain ⟨y,hy,hyx⟩ := List.mem_map.1 hx
            obtain ⟨⟨y1,y2⟩,⟨z1,z2⟩⟩ := y
            cases hyx
            obtain ⟨i,hi1,hi2⟩ := fk_at hy
            repeat' (first|refine wS ?_|refine wB ?_|refine wK ?_|refine wT ?_|refine wU ?_|(refine rg 12 ?_;refine vV (by exact fs_lssT rfl rfl (by omega)) ?_)|(refine rg 13 ?_;refine vV (by exact ix T rfl (by omega) (nodes_len _) q1) ?_;refine lV T ?_;refine vc_n (by exact fs_alloc T rfl) rfl ?_;refine vc_store T rfl rfl rfl rfl rfl rfl (by decide) rfl ?_)|(refine rg 14 ?_;refine mV ?_;refine lV T ?_;refine vV (by exact fs_mapGet nodeM_u nodeK rfl rfl (isv_N _ _) rfl hFr'.good ⟨_,hri _ hxr,rfl⟩ (fk_nd hm.tree.nodup) hi1 hi2) ?_;refine mV ?_;refine xV ?_;refine xV ?_;refine vc_n (by exact fs_alloc T rfl) rfl ?_;refine vc_store T rfl rfl rfl rfl rfl rfl (by decide) rfl ?_;refine aV ?_)|(refine rg 15 ?_;refine mV ?_;refine vV (by exact fs_not rfl) ?_)|(refine rg 18 ?_;refine vV (by exact fs_addr rfl rfl (by omega) (by omega)) ?_;refine mV ?_)|refine nZ ?_)
            all_goals exact ⟨⟨(F',Q',pre',j + 1),hlt,hm2,hiw,hle⟩,by dsimp only;omega,[0,1,2,3,4,5],rfl,(by (repeat (first | exact trivial | refine ⟨rfl,?_⟩))),⟨.inr rfl,.inr (sub_map rfl rfl rfl (tr_idf _)),.inr (sub_map rfl rfl rfl (pv_idf _)),.inr (sub_map rfl rfl rfl (fv_idf _)),.inr (sub_arr rfl rfl (nodes_idf _)),.inr rfl,trivial⟩,by decide,lt36⟩
          · have hm2 := hm.new hF hU hst (stepP_ne g W) hx
            rw [← htk] at hm2
            have hiw2 : ∀ n,n ∈ (F' ++ [((xc,xo),(c,o))]).map (·.1) → inW W st n := fun n hn => by
              rw [List.map_append] at hn
              rcases List.mem_append.1 hn with hn | hn
              · exact hiw n hn
              · simp only [List.map_cons,List.map_nil,List.mem_singleton] at hn;subst hn;exact hxm
            have hFl2 := nodes_le hm2.tree.nodup (fun n hn => (hiw2 n hn).elim (fun h => hWr _ h) (fun h => by rw [h];exact hstr))
            rw [List.length_map,List.length_append,List.length_singleton] at hFl2
            repeat' (first|refine wS ?_|refine wB ?_|refine wK ?_|refine wT ?_|(refine rg 12 ?_;refine vV (by exact fs_lssT rfl rfl (by omega)) ?_)|(refine rg 13 ?_;refine vV (by exact ix T rfl (by omega) (nodes_len _) q1) ?_;refine lV T ?_;refine vc_n (by exact fs_alloc T rfl) rfl ?_;refine vc_store T rfl rfl rfl rfl rfl rfl (by decide) rfl ?_)|(refine rg 14 ?_;refine mV ?_;refine lV T ?_;refine vV (by exact fs_mapMiss nodeM_u nodeK zNode zNodeA rfl rfl (isv_N _ _) rfl hFr'.good ⟨_,hri _ hxr,rfl⟩ (fk_no hx)) ?_;refine mV ?_;refine xV ?_;refine xV ?_;refine vc_n (by exact fs_alloc T rfl) rfl ?_;refine vc_store T rfl rfl rfl rfl rfl rfl (by decide) rfl ?_;refine aV ?_)|(refine rg 15 ?_;refine mV ?_;refine vV (by exact fs_not rfl) ?_)|(refine rg 16 ?_;refine mV ?_;refine lV T ?_;refine lV T ?_;refine vc_mapNew nodeM_u nodeK rfl rfl (isv_N _ _) rfl rfl hFr'.good ⟨(xc,xo),hri _ hxr,rfl⟩ (fk_no hx) ?_)|(refine rg 17 ?_;refine mV ?_;refine lV T ?_;refine vc_n (by exact fs_buildSlice T rfl rfl (by decide) (by decide) rfl rfl rfl) rfl ?_;refine vc_append T rfl rfl rfl rfl rfl rfl (by simp) (Elems.whole rfl rfl) rfl (by simp;omega) (by simp;omega) rfl ?_;refine aV ?_)|(refine rg 18 ?_;refine vV (by exact fs_addr rfl rfl (by omega) (by omega)) ?_;refine mV ?_)|refine nZ ?_)
            all_goals exact ⟨⟨(F' ++ [((xc,xo),(c,o))],Q' ++ [(xc,xo)],[],j + 1),hlt,hm2,hiw2,by simp only [List.length_append,List.length_singleton];omega⟩,by dsimp only;omega,[0,1,2,3,9,5],rfl,⟨rfl,rfl,congrArg (fun n : Nat => some (AV.sl 9 0 n 2)) (show Q'.length + 1 + 1 = ((c,o) :: (Q' ++ [(xc,xo)])).length by simp),rfl,rfl,rfl,rfl,trivial⟩,⟨.inr rfl,.inr (sub_map rfl rfl rfl (tr_idf _)),.inr (sub_map rfl rfl rfl (pv_idf _)),.inr (sub_map rfl (by simp) (by simp) (fv_idf _)),.inr (sub_arr rfl nodes_app2 (nodes_idf _)),.inr rfl,trivial⟩,by decide,lt37⟩
        · obtain rfl : j = NX.length := Nat.le_antisymm hj (Nat.le_of_not_lt hlt)
          rw [List.drop_length,List.take_length] at hm
          have hg2 := hm.shut
          repeat' (first|refine wS ?_|refine wE ?_|refine wU ?_|(refine rg 12 ?_;refine vV (by exact fs_lssF rfl rfl (by omega)) ?_)|(refine rg 5 ?_;refine mV ?_;refine vV (by exact fs_sliceOwn T rfl rfl rfl rfl rfl rfl (by omega) (by omega) (by omega)) ?_;refine aV ?_)|refine nZ ?_)
          all_goals exact ⟨⟨(F',Q',D ++ [(c,o)],pre' ++ [(c,o)]),hg2,hiw⟩,by dsimp only;rw [List.length_cons];omega,[0,1,2,3,4],rfl,⟨rfl,rfl,(show some (AV.sl 4 (pre'.length + (1 : Int).toNat) (((Q'.length + 1 : Nat) : Int) - 1).toNat 2) = some (AV.sl 4 (pre' ++ [(c,o)]).length Q'.length 2) by rw [show pre'.length + (1 : Int).toNat = (pre' ++ [(c,o)]).length by simp,show (((Q'.length + 1 : Nat) : Int) - 1).toNat = Q'.length by omega]),trivial⟩,⟨.inr rfl,.inr (sub_map rfl rfl rfl (tr_idf _)),.inr (sub_map rfl rfl rfl (pv_idf _)),.inr (sub_map rfl rfl rfl (fv_idf _)),.inr (sub_arr rfl (by simp) (nodes_idf _)),trivial⟩,by decide,lt39⟩
end Go.Proofs.YtdmajnjoeidgeaaGreat
namespace Go.Fl
end Go.Fl
namespace Go.Proofs.YtdmajnjoeidgeaaGreat
open Go Go.Ab Go.Fl Go.Re Go.Ln Go.MapKept
attribute [local irreducible] VC AW FStep ACall PCall
set_option maxHeartbeats 4000000
def srcB (f : Flo) (W : List Int) (c : Nat) : Bool := decide (f.k.getD c 0 ≠ 0) && !decide ((c : Int) ∈ W)
def srcK (f : Flo) (W : List Int) (n : Nat) : List Nat := (List.range n).filter (srcB f W)
def okN (f : Flo) (c : Nat) : Bool := decide (f.k.getD c 0 ≠ 0)
abbrev srcF (f : Flo) : List Nat := srcK f (walkP f) f.k.length
theorem srcK_succ (f : Flo) (W : List Int) (n : Nat) : srcK f W (n + 1) = if srcB f W n = true then srcK f W n ++ [n] else srcK f W n := by
  unfold srcK
  rw [List.range_succ,List.filter_append]
  by_cases h : srcB f W n = true
  · rw [if_pos h,List.filter_cons,if_pos h];rfl
  · rw [if_neg h,List.filter_cons,if_neg h];simp
theorem mem_srcK {f : Flo} {W : List Int} {n c : Nat} : c ∈ srcK f W n ↔ c < n ∧ srcB f W c = true := by
  unfold srcK;rw [List.mem_filter,List.mem_range]
theorem srcK_lt {f : Flo} {W : List Int} {n N : Nat} (h : n ≤ N) : ∀ c,c ∈ srcK f W n → c < N := fun c hc => by have := (mem_srcK.1 hc).1;omega
def offO (f : Flo) : List Int := (spreadM f.k.length (bvN f) (okN f) (srcF f)).out
abbrev offD (f : Flo) (c : Nat) : Int := (offO f).getD c (-1)
theorem off_far {f : Flo} (g : Fine f) : Far f.k.length (bvN f) (okN f) (· ∈ srcF f) (offD f) ∧ (offO f).length = f.k.length := spread_far (bvN_lt g) _ (srcK_lt (Nat.le_refl _))
theorem off_le {f : Flo} (g : Fine f) : ∀ c,c < f.k.length → offD f c ≤ f.k.length := spread_le (bvN_lt g) _ (srcK_lt (Nat.le_refl _))
def nearB (out : List Int) (c n : Nat) : Bool := decide (0 ≤ out.getD n (-1)) && decide (out.getD n (-1) = out.getD c (-1) - 1)
def downF (f : Flo) (out : List Int) (c d : Nat) : Option Nat := match mvN f c d with
  | some n => if nearB out c n = true then some n else none
  | none => none
def downN (f : Flo) (out : List Int) (c : Nat) : Nat := ((List.range 6).findSome? (downF f out c)).getD c
def wayT (f : Flo) (out : List Int) : Nat → Nat → List Int
  | 0,_ => []
  | n + 1,c => (downN f out c : Int) :: wayT f out n (downN f out c)
def offW (f : Flo) (c : Nat) : List Int := (c : Int) :: wayT f (offO f) (offD f c).toNat c
def offE (f : Flo) (c : Int) : Option (Int × List Int) := if 0 ≤ offD f c.toNat then some (c,offW f c.toNat) else none
def offL (f : Flo) (W : List Int) : List (Int × List Int) := W.filterMap (offE f)
theorem wayT_len (f : Flo) (out : List Int) : ∀ (n c : Nat), (wayT f out n c).length = n
  | 0,_ => rfl
  | n + 1,c => by unfold wayT;rw [List.length_cons,wayT_len f out n]
theorem down_near {f : Flo} (g : Fine f) {out : List Int} (h : Far f.k.length (bvN f) (okN f) (· ∈ srcF f) (fun c => out.getD c (-1))) {c : Nat} (hc : c < f.k.length) (h0 : 0 < out.getD c (-1)) :
    downN f out c < f.k.length ∧ out.getD (downN f out c) (-1) = out.getD c (-1) - 1 ∧ ∃ d : Nat,d < 6 ∧ mvN f c d = some (downN f out c) := by
  unfold downN
  obtain ⟨p,d,hp,hd,hm,he⟩ := h.pos c hc h0
  have hmv := (mv_bv g (c := c) (d := d) (n := p)).2 hm
  cases hs : (List.range 6).findSome? (downF f out c) with
  | none =>
    exfalso
    have := (List.findSome?_eq_none_iff.1 hs) d (List.mem_range.2 hd)
    unfold downF at this
    rw [hmv] at this
    simp only at this
    rw [if_pos (by unfold nearB;rw [decide_eq_true (by omega),decide_eq_true he];rfl)] at this
    cases this
  | some n =>
    obtain ⟨l1,d',l2,e1,e2,_⟩ := List.findSome?_eq_some_iff.1 hs
    have hd' : d' < 6 := List.mem_range.1 (by rw [e1];simp)
    unfold downF at e2
    cases hq : mvN f c d' with
    | none => rw [hq] at e2;cases e2
    | some m =>
      rw [hq] at e2
      simp only at e2
      split at e2
      · rename_i hn
        cases e2
        unfold nearB at hn
        rw [Bool.and_eq_true,decide_eq_true_eq,decide_eq_true_eq] at hn
        exact ⟨mvN_lt g c d' _ hc hq,hn.2,d',hd',hq⟩
      · cases e2
abbrev dkA (l : List Nat) : List Value := l.map fun c : Nat => kI (c : Int)
abbrev dvA (out : List Int) (l : List Nat) : List AV := l.map fun c => AV.i (out.getD c (-1))
theorem dk_good (l : List Nat) : ∀ q,q ∈ dkA l → MapKept.IsKey (.int .i64) q := fun q hq => by
  obtain ⟨c,_,rfl⟩ := List.mem_map.1 hq;rfl
theorem dk_nd {l : List Nat} (h : l.Nodup) : (dkA l).Nodup := List.Pairwise.map _ (fun a b hab e => hab (by simp [kI] at e;omega)) h
theorem dk_no {l : List Nat} {x : Int} (h : ∀ c : Nat,(c : Int) = x → c ∉ l) : kI x ∉ dkA l := fun hm => by
  obtain ⟨c,hc,e⟩ := List.mem_map.1 hm
  simp [kI] at e
  exact h c e hc
theorem dk_at {l : List Nat} {out : List Int} {c : Nat} (h : c ∈ l) : ∃ i : Nat,(dkA l)[i]? = some (kI (c : Int)) ∧ (dvA out l)[i]? = some (AV.i (out.getD c (-1))) := by
  obtain ⟨i,hi⟩ := List.getElem?_of_mem h
  exact ⟨i,by simp [hi],by simp [hi]⟩
theorem dv_idf (out : List Int) (l : List Nat) : AV.idfL (dvA out l) = true := by
  induction l with
  | nil => rfl
  | cons c l ih => exact ih
theorem dv_view {h : Hp} (out : List Int) : ∀ l : List Nat, ViewL h (dvA out l) (dvA out l)
  | [] => .nil
  | _ :: l => .cons (.v _) (dv_view out l)
def kn (hist : List Nat) (x : Int) : Bool := decide (0 ≤ x ∧ x.toNat ∈ hist)
def dv (hist : List Nat) (out : List Int) (x : Int) : Int := if kn hist x = true then out.getD x.toNat (-1) else 0
section
variable {env : Env} {h : Hp} {d : Option Nat} {ty : TypeId} {pos : String} {af : Array Edge} {g : Option (Nat × Bool)} {x y : Operand} {k : Nat}
theorem fs_distO {hist : List Nat} {out : List Int} {c : Int} (hnd : hist.Nodup) (hx : evu env x = some (.mp k)) (hy : evu env y = some (.i c)) (hk : h[k]? = some (.mapO (dkA hist) (dvA out hist))) :
    FStep Tryz.prog ⟨d,.lookup 72 x y true,ty,pos,af,g⟩ env h 0 (fun _ => .tup [.i (dv hist out c),.b (kn hist c)]) (fun _ => []) := by
  unfold dv
  cases hq : kn hist c with
  | false =>
    rw [if_neg (by decide)]
    refine fs_mapMiss mapII intK zInt (fun _ _ _ => R_v_mk _) hx hy (isv_i _) hk (dk_good _) (good_i _) (dk_no fun c' e hm => ?_)
    unfold kn at hq
    exact (of_decide_eq_false hq) ⟨by omega,by rw [← e];simpa using hm⟩
  | true =>
    rw [if_pos rfl]
    unfold kn at hq
    obtain ⟨h0,hm⟩ := of_decide_eq_true hq
    obtain ⟨i,hi1,hi2⟩ := dk_at (out := out) hm
    rw [Int.toNat_of_nonneg h0] at hi1
    exact fs_mapGet mapII intK hx hy (isv_i _) hk (dk_good _) (good_i _) (dk_nd hnd) hi1 hi2
theorem fs_distR {hist : List Nat} {out : List Int} {c : Int} (hnd : hist.Nodup) (hx : evu env x = some (.mrow (dkA hist) (dvA out hist))) (hy : evu env y = some (.i c)) :
    FStep Tryz.prog ⟨d,.lookup 72 x y true,ty,pos,af,g⟩ env h 0 (fun _ => .tup [.i (dv hist out c),.b (kn hist c)]) (fun _ => []) := by
  unfold dv
  cases hq : kn hist c with
  | false =>
    rw [if_neg (by decide)]
    refine fs_mapMissR (zA := .i 0) mapII intK zInt (fun _ _ _ => R_v_mk _) hx hy (isv_i _) (dk_good _) (good_i _) (dk_no fun c' e hm => ?_)
    unfold kn at hq
    exact (of_decide_eq_false hq) ⟨by omega,by rw [← e];simpa using hm⟩
  | true =>
    rw [if_pos rfl]
    unfold kn at hq
    obtain ⟨h0,hm⟩ := of_decide_eq_true hq
    obtain ⟨i,hi1,hi2⟩ := dk_at (out := out) hm
    rw [Int.toNat_of_nonneg h0] at hi1
    exact fs_mapGetR mapII intK hx hy (isv_i _) (dk_good _) (good_i _) (dk_nd hnd) hi1 hi2 rfl
theorem fs_dkTO {hist : List Nat} {out : List Int} {c : Nat} (hnd : hist.Nodup) (hm : c ∈ hist) (hx : evu env x = some (.mp k)) (hy : evu env y = some (.i (c : Int))) (hk : h[k]? = some (.mapO (dkA hist) (dvA out hist))) :
    FStep Tryz.prog ⟨d,.lookup 72 x y true,ty,pos,af,g⟩ env h 0 (fun _ => .tup [.i (out.getD c (-1)),.b true]) (fun _ => []) := by
  obtain ⟨i,hi1,hi2⟩ := dk_at (out := out) hm
  exact fs_mapGet mapII intK hx hy (isv_i _) hk (dk_good _) (good_i _) (dk_nd hnd) hi1 hi2
theorem fs_dkFO {hist : List Nat} {out : List Int} {c : Int} (hm : kI c ∉ dkA hist) (hx : evu env x = some (.mp k)) (hy : evu env y = some (.i c)) (hk : h[k]? = some (.mapO (dkA hist) (dvA out hist))) :
    FStep Tryz.prog ⟨d,.lookup 72 x y true,ty,pos,af,g⟩ env h 0 (fun _ => .tup [.i 0,.b false]) (fun _ => []) :=
  fs_mapMiss mapII intK zInt (fun _ _ _ => R_v_mk _) hx hy (isv_i _) hk (dk_good _) (good_i _) hm
theorem fs_dkTR {hist : List Nat} {out : List Int} {c : Nat} (hnd : hist.Nodup) (hm : c ∈ hist) (hx : evu env x = some (.mrow (dkA hist) (dvA out hist))) (hy : evu env y = some (.i (c : Int))) :
    FStep Tryz.prog ⟨d,.lookup 72 x y true,ty,pos,af,g⟩ env h 0 (fun _ => .tup [.i (out.getD c (-1)),.b true]) (fun _ => []) := by
  obtain ⟨i,hi1,hi2⟩ := dk_at (out := out) hm
  exact fs_mapGetR mapII intK hx hy (isv_i _) (dk_good _) (good_i _) (dk_nd hnd) hi1 hi2 rfl
theorem fs_dkFR {hist : List Nat} {out : List Int} {c : Int} (hm : kI c ∉ dkA hist) (hx : evu env x = some (.mrow (dkA hist) (dvA out hist))) (hy : evu env y = some (.i c)) :
    FStep Tryz.prog ⟨d,.lookup 72 x y true,ty,pos,af,g⟩ env h 0 (fun _ => .tup [.i 0,.b false]) (fun _ => []) :=
  fs_mapMissR (zA := .i 0) mapII intK zInt (fun _ _ _ => R_v_mk _) hx hy (isv_i _) (dk_good _) (good_i _) hm
theorem fs_dist1O {hist : List Nat} {out : List Int} {c : Nat} (hnd : hist.Nodup) (hm : c ∈ hist) (hx : evu env x = some (.mp k)) (hy : evu env y = some (.i (c : Int))) (hk : h[k]? = some (.mapO (dkA hist) (dvA out hist))) :
    FStep Tryz.prog ⟨d,.lookup 72 x y false,ty,pos,af,g⟩ env h 0 (fun _ => .i (out.getD c (-1))) (fun _ => []) := by
  obtain ⟨i,hi1,hi2⟩ := dk_at (out := out) hm
  exact fs_mapGet1 mapII intK hx hy (isv_i _) hk (dk_good _) (good_i _) (dk_nd hnd) hi1 hi2
theorem fs_dist1R {hist : List Nat} {out : List Int} {c : Nat} (hnd : hist.Nodup) (hm : c ∈ hist) (hx : evu env x = some (.mrow (dkA hist) (dvA out hist))) (hy : evu env y = some (.i (c : Int))) :
    FStep Tryz.prog ⟨d,.lookup 72 x y false,ty,pos,af,g⟩ env h 0 (fun _ => .i (out.getD c (-1))) (fun _ => []) := by
  obtain ⟨i,hi1,hi2⟩ := dk_at (out := out) hm
  exact fs_mapGet1R mapII intK hx hy (isv_i _) (dk_good _) (good_i _) (dk_nd hnd) hi1 hi2 rfl
end
theorem findSome_none {α : Type} {F : Nat → Option α} {n : Nat} (h : ∀ i,i < n → F i = none) : (List.range n).findSome? F = none :=
  List.findSome?_eq_none_iff.2 fun i hi => h i (List.mem_range.1 hi)
theorem findSome_first {α : Type} {F : Nat → Option α} {n i : Nat} {a : α} (hi : i < n) (h : ∀ j,j < i → F j = none) (ha : F i = some a) : (List.range n).findSome? F = some a := by
  induction n with
  | zero => omega
  | succ n ih =>
    rw [List.range_succ,List.findSome?_append]
    by_cases q : i < n
    · rw [ih q];rfl
    · obtain rfl : i = n := by omega
      rw [findSome_none h];simp [ha]
theorem down_c (s : Sit) (g : Fine s.fl) {hist : List Nat} {out : List Int} (hnd : hist.Nodup) (hmem : ∀ c,c < s.fl.k.length → (c ∈ hist ↔ 0 ≤ out.getD c (-1))) (hle : ∀ c,c < s.fl.k.length → out.getD c (-1) ≤ s.fl.k.length) {c : Nat} (hc : c < s.fl.k.length) (hcm : c ∈ hist) :
    ACall Tryz.prog 81 [.agg (sitA s),.mrow (dkA hist) (dvA out hist),.i (c : Int)] [] (.i (downN s.fl out c : Int)) [] := by
  have hN := g.le
  have h0 := (hmem c hc).1 hcm
  have h1 := hle c hc
  refine acall T Tryz.func81 rfl rfl rfl rfl ?_
  repeat' (first|refine wS ?_|refine wB ?_|(refine rg 0 ?_;refine vc_n (by exact fs_box rfl rfl) rfl ?_;refine aV ?_)|(refine rg 1 ?_;refine mV ?_)|refine nZ ?_)
  refine aw_loop (X := {j : Nat // j ≤ 6 ∧ ∀ i,i < j → downF s.fl out c i = none}) (fun j => [(1,.mrow (dkA hist) (dvA out hist)),(2,.i (c : Int)),(3,.ptr 0 0),(12,.i (j.1 : Int))]) (fun _ => [.cells (sitA s)]) (fun j => 6 - j.1) ⟨0,by omega,fun i hi => by omega⟩ ⟨[0],rfl,⟨rfl,rfl,rfl,rfl,trivial⟩,⟨.inr rfl,trivial⟩,by decide,nz0⟩ ?_
  rintro ⟨j,hj,hno⟩
  dsimp only
  by_cases hlt : j < 6
  · have cn := next_n g c j
    have next : downF s.fl out c j = none → ∀ i,i < j + 1 → downF s.fl out c i = none := fun h i hi => by
      by_cases q : i = j
      · rw [q];exact h
      · exact hno i (by omega)
    cases hm : mvN s.fl c j with
    | none =>
      rw [hm] at cn
      have hn := next (by unfold downF;rw [hm])
      repeat' (first|refine wS ?_|refine wB ?_|refine wK ?_|refine wT ?_|refine wU ?_|(refine rg 2 ?_;refine vV (by exact fs_lssT rfl rfl (by omega)) ?_)|(refine rg 3 ?_;refine mV ?_;refine aV ?_)|(refine rg 4 ?_;refine flV T ?_;refine mmV ?_;refine vV (by exact kC (cn)) ?_;refine mV ?_;refine xV ?_;refine xV ?_;refine aaV ?_)|(refine rg 5 ?_;refine mmV ?_;refine vV (by exact fs_distR hnd rfl rfl) ?_;refine mV ?_;refine xV ?_;refine xV ?_;refine aaV ?_)|(refine rg 6 ?_;refine mmV ?_;refine gK ?_;refine gF ?_;refine pV ?_;refine mV ?_;refine gK ?_;(iterate 6 refine gF ?_);refine pV ?_)|(refine rg 8 ?_;refine vV (by exact fs_addr rfl rfl (by omega) (by omega)) ?_;refine mV ?_)|refine nZ ?_)
      all_goals exact ⟨⟨j + 1,hlt,hn⟩,by dsimp only;omega,[0],rfl,⟨rfl,rfl,rfl,rfl,trivial⟩,⟨.inr rfl,trivial⟩,by decide,nz0⟩
    | some n =>
      rw [hm] at cn
      have hn := mvN_lt g c j n hc hm
      by_cases hkn : kn hist (n : Int) = true
      · have hnm : n ∈ hist := by unfold kn at hkn;simpa using (of_decide_eq_true hkn).2
        have hn0 := (hmem n hn).1 hnm
        have hdv : dv hist out (n : Int) = out.getD n (-1) := by unfold dv;rw [if_pos hkn];rfl
        by_cases he : out.getD n (-1) = out.getD c (-1) - 1
        · have hq : downF s.fl out c j = some n := by unfold downF;rw [hm];simp only;rw [if_pos (by unfold nearB;rw [decide_eq_true hn0,decide_eq_true he];rfl)]
          have hr : downN s.fl out c = n := by unfold downN;rw [findSome_first hlt hno hq];rfl
          rw [hr]
          repeat' (first|refine wS ?_|refine wB ?_|refine wK ?_|refine wR ?_|refine wT ?_|(refine rg 2 ?_;refine vV (by exact fs_lssT rfl rfl (by omega)) ?_)|(refine rg 3 ?_;refine mV ?_;refine aV ?_)|(refine rg 4 ?_;refine flV T ?_;refine mmV ?_;refine vV (by exact kC (cn)) ?_;refine mV ?_;refine xV ?_;refine xV ?_;refine aaV ?_)|(refine rg 5 ?_;refine mmV ?_;refine vV (by exact fs_dkTR (c := n) hnd hnm rfl rfl) ?_;refine mV ?_;refine xV ?_;refine xV ?_;refine aaV ?_)|(refine rg 6 ?_;refine mmV ?_;refine gK ?_;refine yM ?_;refine pV ?_;refine mV ?_;refine gK ?_;refine yM ?_;refine yM ?_;refine yM ?_;refine yV (by exact fs_dist1R hnd hcm rfl rfl) ?_;refine yV (by exact fs_subr rfl rfl (by omega) (by omega)) ?_;refine yV (by exact fs_eqlT rfl rfl (by omega)) ?_;refine pV ?_)|(refine rg 7 ?_;refine mV ?_;refine aV ?_)|refine nZ ?_)
          all_goals first | (exfalso;omega) | exact rQ
        · have hn := next (by unfold downF;rw [hm];simp only;rw [if_neg (by unfold nearB;rw [decide_eq_false he,Bool.and_false];decide)])
          repeat' (first|refine wS ?_|refine wB ?_|refine wK ?_|refine wT ?_|refine wU ?_|(refine rg 2 ?_;refine vV (by exact fs_lssT rfl rfl (by omega)) ?_)|(refine rg 3 ?_;refine mV ?_;refine aV ?_)|(refine rg 4 ?_;refine flV T ?_;refine mmV ?_;refine vV (by exact kC (cn)) ?_;refine mV ?_;refine xV ?_;refine xV ?_;refine aaV ?_)|(refine rg 5 ?_;refine mmV ?_;refine vV (by exact fs_dkTR (c := n) hnd hnm rfl rfl) ?_;refine mV ?_;refine xV ?_;refine xV ?_;refine aaV ?_)|(refine rg 6 ?_;refine mmV ?_;refine gK ?_;refine yM ?_;refine pV ?_;refine mV ?_;refine gK ?_;refine yM ?_;refine yM ?_;refine yM ?_;refine yV (by exact fs_dist1R hnd hcm rfl rfl) ?_;refine yV (by exact fs_subr rfl rfl (by omega) (by omega)) ?_;refine yV (by exact fs_eqlF rfl rfl (by omega)) ?_;refine pV ?_)|(refine rg 8 ?_;refine vV (by exact fs_addr rfl rfl (by omega) (by omega)) ?_;refine mV ?_)|refine nZ ?_)
          all_goals first | (exfalso;omega) | exact ⟨⟨j + 1,hlt,hn⟩,by dsimp only;omega,[0],rfl,⟨rfl,rfl,rfl,rfl,trivial⟩,⟨.inr rfl,trivial⟩,by decide,nz0⟩
      · have hkn : kn hist (n : Int) = false := by simpa using hkn
        have hnm : n ∉ hist := by unfold kn at hkn;simpa using of_decide_eq_false hkn
        have hni : kI (n : Int) ∉ dkA hist := dk_no fun c' e hm' => hnm (by rw [show n = c' by omega];exact hm')
        have hn := next (by unfold downF;rw [hm];simp only;rw [if_neg (by unfold nearB;rw [decide_eq_false (fun q => hnm ((hmem n hn).2 q)),Bool.false_and];decide)])
        repeat' (first|refine wS ?_|refine wB ?_|refine wK ?_|refine wT ?_|refine wU ?_|(refine rg 2 ?_;refine vV (by exact fs_lssT rfl rfl (by omega)) ?_)|(refine rg 3 ?_;refine mV ?_;refine aV ?_)|(refine rg 4 ?_;refine flV T ?_;refine mmV ?_;refine vV (by exact kC (cn)) ?_;refine mV ?_;refine xV ?_;refine xV ?_;refine aaV ?_)|(refine rg 5 ?_;refine mmV ?_;refine vV (by exact fs_dkFR (c := (n : Int)) hni rfl rfl) ?_;refine mV ?_;refine xV ?_;refine xV ?_;refine aaV ?_)|(refine rg 6 ?_;refine mmV ?_;refine gK ?_;refine yM ?_;refine pV ?_;refine mV ?_;refine gK ?_;(iterate 6 refine gF ?_);refine pV ?_)|(refine rg 8 ?_;refine vV (by exact fs_addr rfl rfl (by omega) (by omega)) ?_;refine mV ?_)|refine nZ ?_)
        all_goals first | (exfalso;omega) | exact ⟨⟨j + 1,hlt,hn⟩,by dsimp only;omega,[0],rfl,⟨rfl,rfl,rfl,rfl,trivial⟩,⟨.inr rfl,trivial⟩,by decide,nz0⟩
  · obtain rfl : j = 6 := by omega
    have hr : downN s.fl out c = c := by unfold downN;rw [findSome_none hno];rfl
    rw [hr]
    repeat' (first|refine wS ?_|refine wR ?_|refine wE ?_|refine wU ?_|(refine rg 2 ?_;refine vV (by exact fs_lssF rfl rfl (by omega)) ?_)|(refine rg 9 ?_;refine mV ?_;refine aV ?_)|refine nZ ?_)
    all_goals first | (exfalso;omega) | exact rQ
end Go.Proofs.YtdmajnjoeidgeaaGreat
namespace Go.Proofs.YtdmajnjoeidgeaaGreat
open Go Go.Ab Go.Fl Go.Re Go.Ln
set_option maxHeartbeats 4000000
def wkB (f : Flo) (c : Nat) : Bool := decide (f.k.getD c 0 = 4) || decide (f.k.getD c 0 = 5)
theorem mem_walk {f : Flo} {x : Int} : x ∈ walkP f ↔ 0 ≤ x ∧ x < f.k.length ∧ wkB f x.toNat = true := by
  unfold walkP wkB
  rw [mem_union (ofK_asc _ _ _) (ofK_asc _ _ _)]
  simp only [mem_ofK,Bool.or_eq_true,decide_eq_true_eq]
  omega
theorem src_iff {f : Flo} {c : Nat} : c ∈ srcF f ↔ c < f.k.length ∧ f.k.getD c 0 ≠ 0 ∧ wkB f c = false := by
  unfold srcF
  rw [mem_srcK]
  unfold srcB
  simp only [Bool.and_eq_true,decide_eq_true_eq,Bool.not_eq_true',decide_eq_false_iff_not,mem_walk,Int.toNat_natCast]
  constructor
  · rintro ⟨h1,h2,h3⟩
    exact ⟨h1,h2,by cases h : wkB f c with | false => rfl | true => exact absurd ⟨by omega,by omega,h⟩ h3⟩
  · rintro ⟨h1,h2,h3⟩
    exact ⟨h1,h2,fun h => by rw [h3] at h;exact absurd h.2.2 (by decide)⟩
def offR (f : Flo) (c : Int) : List Int := if c ∈ walkP f ∧ 0 ≤ offD f c.toNat then offW f c.toNat else []
theorem wayT_at {f : Flo} (g : Fine f) : ∀ (n c : Nat), c < f.k.length → offD f c = n → ∀ i, i ≤ n → ∃ b : Nat, ((c : Int) :: wayT f (offO f) n c)[i]? = some (b : Int) ∧ b < f.k.length ∧ offD f b = ((n - i : Nat) : Int) ∧ (i = 0 → b = c) ∧ (0 < i → ∃ a d : Nat, ((c : Int) :: wayT f (offO f) n c)[i - 1]? = some (a : Int) ∧ d < 6 ∧ mvN f a d = some b ∧ a < f.k.length)
  | 0, c, hc, h, i, hi => ⟨c, by obtain rfl : i = 0 := by omega
                                 rfl,hc,by simpa using h,fun _ => rfl,fun h => by omega⟩
  | n + 1,c,hc,h,i,hi => by
    have hF := (off_far g).1
    have hdn := down_near g hF (c := c) hc (by show 0 < offD f c;omega)
    obtain ⟨h1,h2,d,h3,h4⟩ := hdn
    cases i with
    | zero => exact ⟨c,rfl,hc,by simpa using h,fun _ => rfl,fun h => by omega⟩
    | succ i =>
      obtain ⟨b,b1,b2,b3,b4,b5⟩ := wayT_at g n (downN f (offO f) c) h1 (by show (offO f).getD _ (-1) = _;rw [h2];show offD f c - 1 = _;omega) i (by omega)
      refine ⟨b,by unfold wayT;rw [List.getElem?_cons_succ];exact b1,b2,by rw [b3,Nat.add_sub_add_right],fun h => by omega,fun _ => ?_⟩
      cases i with
      | zero =>
        rw [b4 rfl]
        exact ⟨c,d,rfl,h3,h4,hc⟩
      | succ i =>
        obtain ⟨a,d',a1,a2,a3,a4⟩ := b5 (by omega)
        refine ⟨a,d',?_,a2,a3,a4⟩
        unfold wayT
        rw [show i + 1 + 1 - 1 = i + 1 by omega,List.getElem?_cons_succ]
        exact a1
theorem offW_len (f : Flo) (c : Nat) : (offW f c).length = (offD f c).toNat + 1 := by unfold offW;rw [List.length_cons,wayT_len]
theorem offW_at {f : Flo} (g : Fine f) {c : Nat} (hc : c < f.k.length) (h : 0 ≤ offD f c) {i : Nat} (hi : i < (offW f c).length) : ∃ b : Nat,(offW f c)[i]? = some (b : Int) ∧ b < f.k.length ∧ offD f b = offD f c - i ∧ (i = 0 → b = c) ∧ (0 < i → ∃ a d : Nat,(offW f c)[i - 1]? = some (a : Int) ∧ d < 6 ∧ mvN f a d = some b ∧ a < f.k.length) := by
  rw [offW_len] at hi
  obtain ⟨b,h1,h2,h3,h4,h5⟩ := wayT_at g (offD f c).toNat c hc (by omega) i (by omega)
  exact ⟨b,h1,h2,by rw [h3,Int.ofNat_sub (Nat.lt_succ_iff.1 hi),Int.toNat_of_nonneg h],h4,h5⟩
end Go.Proofs.YtdmajnjoeidgeaaGreat
namespace Go.Fl
end Go.Fl
namespace Go.Proofs.YtdmajnjoeidgeaaGreat
open Go Go.Ab Go.Fl Go.Re Go.Ln
set_option maxHeartbeats 4000000
theorem fromH_inv {N : Nat} {mv : MV} {ok : Nat → Bool} : ∀ (k : Nat) (l : List Nat),l.length = k → (∀ c,c ∈ l → c < N) → HInv N (fromH l (startH N ok)) := by
  intro k
  induction k with
  | zero =>
    intro l h _
    obtain rfl : l = [] := List.eq_nil_of_length_eq_zero h
    refine ⟨List.nodup_nil,(fun c hc => by cases hc),fun c hc => ?_⟩
    show c ∈ ([] : List Nat) ↔ 0 ≤ (List.replicate N (-1 : Int)).getD c (-1)
    simp [List.getD_eq_getElem?_getD,List.getElem?_replicate,hc]
  | succ k ih =>
    intro l h hl
    obtain ⟨l',c,rfl⟩ : ∃ l' c,l = l' ++ [c] := ⟨l.dropLast,l.getLast (by intro e;rw [e] at h;cases h),(List.dropLast_concat_getLast _).symm⟩
    rw [fromH_snoc]
    have hl' : ∀ x,x ∈ l' → x < N := fun x hx => hl x (by simp [hx])
    have h1 := ih l' (by simpa using h) hl'
    obtain ⟨s1,_,_⟩ := start_srch (N := N) (mv := mv) (ok := ok) l' hl'
    have e : (fromH l' (startH N ok)).1 = fromM l' (startS N ok) := fromH_1 _ _
    have hc := hl c (by simp)
    exact h1.reach hc (by rw [e];exact s1.inv.lu) (Int.le_refl _) (fun ho => by rw [e] at ho ⊢;exact ((s1.inv.opn c hc).1 ho).2)
theorem from_list {N : Nat} {mv : MV} {ok : Nat → Bool} : ∀ (k : Nat) (l : List Nat),l.length = k → (∀ c,c ∈ l → c < N ∧ ok c = true) → l.Nodup → (fromH l (startH N ok)).2 = l ∧ (fromH l (startH N ok)).1.q = l := by
  intro k
  induction k with
  | zero =>
    intro l h _ _
    obtain rfl : l = [] := List.eq_nil_of_length_eq_zero h
    exact ⟨rfl,rfl⟩
  | succ k ih =>
    intro l h hl hnd
    obtain ⟨l',c,rfl⟩ : ∃ l' c,l = l' ++ [c] := ⟨l.dropLast,l.getLast (by intro e;rw [e] at h;cases h),(List.dropLast_concat_getLast _).symm⟩
    rw [fromH_snoc]
    have hl' : ∀ x,x ∈ l' → x < N := fun x hx => (hl x (by simp [hx])).1
    rw [List.nodup_append] at hnd
    obtain ⟨h1,h2⟩ := ih l' (by simpa using h) (fun x hx => hl x (by simp [hx])) hnd.1
    have hi := fromH_inv (N := N) (mv := mv) (ok := ok) _ l' rfl hl'
    obtain ⟨s1,_,_⟩ := start_srch (N := N) (mv := mv) (ok := ok) l' hl'
    have e : (fromH l' (startH N ok)).1 = fromM l' (startS N ok) := fromH_1 _ _
    have hc := hl c (by simp)
    have hno : c ∉ (fromH l' (startH N ok)).2 := by rw [h1];exact fun hm => hnd.2.2 c hm c (by simp) rfl
    have hop : (fromH l' (startH N ok)).1.op.getD c false = true := by
      rw [e]
      refine (s1.inv.opn c hc.1).2 ⟨hc.2,?_⟩
      have := mt (hi.mem c hc.1).2 hno
      rw [e] at this;omega
    unfold reachH
    rw [if_pos hop,h1]
    exact ⟨rfl,by simp only;rw [h2]⟩
theorem from_zero {N : Nat} {mv : MV} {ok : Nat → Bool} {l : List Nat} (hl : ∀ c,c ∈ l → c < N ∧ ok c = true) (hnd : l.Nodup) : ∀ c,c ∈ l → (fromH l (startH N ok)).1.out.getD c (-1) = 0 := fun c hc => by
  obtain ⟨s1,_,_⟩ := start_srch (N := N) (mv := mv) (ok := ok) l (fun x hx => (hl x hx).1)
  have e : (fromH l (startH N ok)).1 = fromM l (startS N ok) := fromH_1 _ _
  rw [e]
  exact s1.all c (hl c hc).1 (hl c hc).2 hc
abbrev z0 (l : List Nat) : List AV := l.map fun _ => AV.i 0
theorem z0_dv {l : List Nat} {out : List Int} (h : ∀ c,c ∈ l → out.getD c (-1) = 0) : dvA out l = z0 l := by
  refine List.map_congr_left fun c hc => ?_
  rw [h c hc]
theorem srcK_nd (f : Flo) (W : List Int) (n : Nat) : (srcK f W n).Nodup := List.nodup_range.filter _
theorem srcK_len (f : Flo) (W : List Int) (n : Nat) : (srcK f W n).length ≤ n := by
  unfold srcK
  exact Nat.le_trans (List.length_filter_le _ _) (by simp)
theorem z0_idf : ∀ l : List Nat, AV.idfL (z0 l) = true
  | [] => rfl
  | _ :: l => z0_idf l
theorem dv_snoc {out : List Int} {n : Nat} {v : Int} {hist : List Nat} (hn : n ∉ hist) (hl : n < out.length) : dvA out hist ++ [AV.i v] = dvA (out.set n v) (hist ++ [n]) := by
  rw [dvA,dvA,List.map_append]
  congr 1
  · refine List.map_congr_left fun c hc => ?_
    rw [getD_set,if_neg (fun q => hn (by rw [q.1];exact hc))]
  · rw [List.map_cons,List.map_nil,getD_set,if_pos ⟨rfl,hl⟩]
theorem dk_snoc {n : Nat} {hist : List Nat} : dkA hist ++ [kI (n : Int)] = dkA (hist ++ [n]) := by simp
end Go.Proofs.YtdmajnjoeidgeaaGreat
namespace Go.Ln
def tickL (w : List Int) : Int → List Int → Int
  | n,[] => n
  | n,c :: r => if 0 ≤ c ∧ c < w.length ∧ w.getD c.toNat (-1) ≠ -1 then tickL w (max n (w.getD c.toNat (-1))) r else -1
def tickP (w l : List Int) : Int := tickL w 0 (l.drop 1)
abbrev LaneT := Int × List Int × List Int
def reqA (x : LaneT) (b : Int) (w : List Int) : Int × Int × Int :=
  if tickP w x.2.1 < 0 ∧ tickP w x.2.2 < 0 then (0,0,14)
  else if tickP w x.2.1 < 0 ∨ (0 ≤ tickP w x.2.2 ∧ tickP w x.2.2 < tickP w x.2.1) then (if b < tickP w x.2.2 then (1,tickP w x.2.2,20) else (1,tickP w x.2.2,0))
  else (if b < tickP w x.2.1 then (0,tickP w x.2.1,20) else (0,tickP w x.2.1,0))
def reqP (l : List LaneT) (b c : Int) (w : List Int) : Int × Int × Int := match l.find? (fun x => decide (x.1 = c)) with
  | none => (0,0,4)
  | some x => reqA x b w
theorem tick_cons {w : List Int} {n c : Int} {r : List Int} : tickL w n (c :: r) = if 0 ≤ c ∧ c < w.length ∧ w.getD c.toNat (-1) ≠ -1 then tickL w (max n (w.getD c.toNat (-1))) r else -1 := rfl
theorem tick_free {w : List Int} {b : Int} : ∀ {t : List Int} {n : Int}, 0 ≤ n → n ≤ b → (∀ x, x ∈ t → 0 ≤ x ∧ x < w.length ∧ 0 ≤ w.getD x.toNat (-1) ∧ w.getD x.toNat (-1) ≤ b) → n ≤ tickL w n t ∧ tickL w n t ≤ b ∧ ∀ x, x ∈ t → w.getD x.toNat (-1) ≤ tickL w n t
  | [],n,h0,h1,_ => ⟨Int.le_refl _,h1,fun x hx => by cases hx⟩
  | c :: r,n,h0,h1,h => by
    obtain ⟨a1,a2,a3,a4⟩ := h c List.mem_cons_self
    rw [tick_cons,if_pos ⟨a1,a2,by omega⟩]
    obtain ⟨b1,b2,b3⟩ := tick_free (w := w) (b := b) (t := r) (n := max n (w.getD c.toNat (-1))) (by omega) (by omega) fun x hx => h x (.tail _ hx)
    refine ⟨by omega,b2,fun x hx => ?_⟩
    rcases List.mem_cons.1 hx with rfl | hx
    · omega
    · exact b3 x hx
theorem tick_or {w : List Int} : ∀ {t : List Int} {n : Int}, 0 ≤ n → (∀ x, x ∈ t → 0 ≤ x ∧ x < w.length ∧ -1 ≤ w.getD x.toNat (-1)) → tickL w n t = -1 ∨ ∀ x, x ∈ t → 0 ≤ w.getD x.toNat (-1)
  | [],n,h0,_ => .inr fun x hx => by cases hx
  | c :: r,n,h0,h => by
    obtain ⟨a1,a2,a3⟩ := h c List.mem_cons_self
    rw [tick_cons]
    by_cases q : w.getD c.toNat (-1) = -1
    · rw [if_neg (fun hh => hh.2.2 q)];exact .inl rfl
    · rw [if_pos ⟨a1,a2,q⟩]
      rcases tick_or (w := w) (t := r) (n := max n (w.getD c.toNat (-1))) (by omega) fun x hx => h x (.tail _ hx) with h1 | h1
      · exact .inl h1
      · refine .inr fun x hx => ?_
        rcases List.mem_cons.1 hx with rfl | hx
        · omega
        · exact h1 x hx
theorem tick_ge {w : List Int} : ∀ {t : List Int} {n : Int}, -1 ≤ n → -1 ≤ tickL w n t
  | [],n,h => h
  | c :: r,n,h => by
    rw [tick_cons]
    split
    · exact tick_ge (by omega)
    · omega
theorem req_free {x : LaneT} {b : Int} {w : List Int} (hb : 0 ≤ b) (hA : ∀ y, y ∈ x.2.1.drop 1 → 0 ≤ y ∧ y < w.length ∧ -1 ≤ w.getD y.toNat (-1) ∧ w.getD y.toNat (-1) ≤ b) (hB : ∀ y, y ∈ x.2.2.drop 1 → 0 ≤ y ∧ y < w.length ∧ -1 ≤ w.getD y.toNat (-1) ∧ w.getD y.toNat (-1) ≤ b)
    (h : (∀ y,y ∈ x.2.1.drop 1 → w.getD y.toNat (-1) ≠ -1) ∨ (∀ y,y ∈ x.2.2.drop 1 → w.getD y.toNat (-1) ≠ -1)) :
    ∃ k n,reqA x b w = (k,n,0) ∧ 0 ≤ n ∧ n ≤ b ∧ ((k = 0 ∧ ∀ y,y ∈ x.2.1.drop 1 → 0 ≤ w.getD y.toNat (-1) ∧ w.getD y.toNat (-1) ≤ n) ∨ (k = 1 ∧ ∀ y,y ∈ x.2.2.drop 1 → 0 ≤ w.getD y.toNat (-1) ∧ w.getD y.toNat (-1) ≤ n)) := by
  have key : ∀ t : List Int,(∀ y,y ∈ t → 0 ≤ y ∧ y < w.length ∧ -1 ≤ w.getD y.toNat (-1) ∧ w.getD y.toNat (-1) ≤ b) → (tickL w 0 t = -1 ∧ ¬ ∀ y,y ∈ t → w.getD y.toNat (-1) ≠ -1) ∨ (0 ≤ tickL w 0 t ∧ tickL w 0 t ≤ b ∧ ∀ y,y ∈ t → 0 ≤ w.getD y.toNat (-1) ∧ w.getD y.toNat (-1) ≤ tickL w 0 t) := by
    intro t ht
    by_cases q : ∀ y,y ∈ t → w.getD y.toNat (-1) ≠ -1
    · have hf := tick_free (w := w) (b := b) (t := t) (n := 0) (by omega) hb fun y hy => by obtain ⟨a,b,c,d⟩ := ht y hy;exact ⟨a,b,by have := q y hy;omega,d⟩
      exact .inr ⟨hf.1,hf.2.1,fun y hy => ⟨by have := q y hy;have := ht y hy;omega,hf.2.2 y hy⟩⟩
    · rcases tick_or (w := w) (t := t) (n := 0) (by omega) fun y hy => by obtain ⟨a,b,c,d⟩ := ht y hy;exact ⟨a,b,c⟩ with h1 | h1
      · exact .inl ⟨h1,q⟩
      · exact absurd (fun y hy => by have := h1 y hy;omega) q
  have kA := key _ hA
  have kB := key _ hB
  have eA : tickP w x.2.1 = tickL w 0 (x.2.1.drop 1) := rfl
  have eB : tickP w x.2.2 = tickL w 0 (x.2.2.drop 1) := rfl
  unfold reqA
  rw [eA,eB]
  generalize tickL w 0 (x.2.1.drop 1) = ta at *
  generalize tickL w 0 (x.2.2.drop 1) = tb at *
  have hno : ¬ (ta < 0 ∧ tb < 0) := by
    rintro ⟨h1,h2⟩
    rcases h with h | h
    · rcases kA with kA | kA
      · exact kA.2 h
      · omega
    · rcases kB with kB | kB
      · exact kB.2 h
      · omega
  rw [if_neg hno]
  by_cases q : ta < 0 ∨ (0 ≤ tb ∧ tb < ta)
  · rw [if_pos q]
    have hb0 : 0 ≤ tb := by omega
    rcases kB with kB | kB
    · omega
    · rw [if_neg (by omega)]
      exact ⟨1,tb,rfl,kB.1,kB.2.1,.inr ⟨rfl,kB.2.2⟩⟩
  · rw [if_neg q]
    rcases kA with kA | kA
    · omega
    · rw [if_neg (by omega)]
      exact ⟨0,ta,rfl,kA.1,kA.2.1,.inl ⟨rfl,kA.2.2⟩⟩
theorem Lst.mem {g : Net} {Te : List Edge} : ∀ {l : List Int} {c x : Int}, Lst g Te c l → x ∈ c :: l → x = g.st ∨ ∃ p, (p, x) ∈ Te
  | [],c,x,h,hx => by simp at hx;subst hx;exact .inl h
  | p :: l,c,x,h,hx => by
    rcases List.mem_cons.1 hx with rfl | hx
    · exact .inr ⟨p,h.2.1⟩
    · exact Lst.mem h.2.2 hx
end Go.Ln
namespace Go.Proofs.YtdmajnjoeidgeaaGreat
open Go Go.Ab Go.Fl Go.Re Go.Ln Go.MapKept Go.Shelf
attribute [local irreducible] VC AW FStep ACall PCall NodeT
set_option maxHeartbeats 4000000
shelf_lay Lays.n112 Nm 112 at Tryz as laysReverse
theorem reverse_c (l : List Int) (hl : l.length ≤ 1000000) : ACall Tryz.prog 79 [.sl 0 0 l.length 1] [.arr (ints l) 1] (.tup []) [.arr (ints l.reverse) 1] :=
  acall_reverse ⟨_,Tryz.func79,by kernel_rfl,by kernel_rfl⟩ (fun blk off cap zs w h1 h2 => Any.slices_Reverse_int laysReverse blk off cap zs w h1 h2) (fun p cap w => Any.slices_Reverse_int_empty laysReverse p cap w) l [] (by simpa using hl) rfl
def rwI (w : List (List Int)) : List (List AV) := w.map fun c => [AV.rowE (ints c) 1]
theorem rwI_len (w : List (List Int)) : ∀ e,e ∈ rwI w → e.length = 1 := by
  intro e he
  obtain ⟨c,_,rfl⟩ := List.mem_map.1 he
  rfl
theorem rwI_length (w : List (List Int)) : (rwI w).length = w.length := by simp [rwI]
theorem rwI_snoc (w : List (List Int)) (c : List Int) : rwI w ++ [[AV.rowE (ints c) 1]] = rwI (w ++ [c]) := by simp [rwI]
theorem rwI_idfs (w : List (List Int)) : ∀ e,e ∈ rwI w → AV.idfL e = true := by
  intro e he
  obtain ⟨c,_,rfl⟩ := List.mem_map.1 he
  simp only [AV.idfL,AV.idf,Bool.and_true]
theorem sub_rwI {h : Hp} {i : Nat} {θ : Nat → Nat} {es : List (List AV)} {w : List (List Int)} (hk : h[i]? = some (.arr es 1)) (e : es = rwI w) : h[i]? = some ((AB.arr (rwI w) 1).map θ) := by
  rw [hk,e]
  exact (congrArg (fun x => some (AB.arr x 1)) (mapL_idfs θ (rwI_idfs w))).symm
theorem rw_next {w : List (List Int)} {c : List Int} {k : Nat} (hk : k = w.length) : (((rwI w).drop 0).take k ++ [[AV.rowE (ints c) 1]]) = rwI (w ++ [c]) := by
  rw [List.drop_zero,List.take_of_length_le (by rw [rwI_length];omega),rwI_snoc]
theorem flow_len {s : Sit} {W : List Int} {st : Int} {k : Nat} {Te : List LEdge} (h : Flow (netP s W st) k Te) : Te.length ≤ W.length := by
  have h1 : (Te.map (·.2)).Nodup := nodup_mapOn h.nd fun x y hx hy e => by
    obtain ⟨a,b⟩ := x;obtain ⟨a',b'⟩ := y
    simp only at e;subst e
    have := inT_uniq h.nd (h.le1 b) hx hy
    subst this;rfl
  have := nodup_sub h1 (m := W) fun x hx => by
    obtain ⟨e,he,rfl⟩ := List.mem_map.1 hx
    exact (mem_stepP.1 (h.val e he).1).1
  simpa using this
theorem flow_W {s : Sit} {W : List Int} {st : Int} {k : Nat} {Te : List LEdge} (h : Flow (netP s W st) k Te) {e : LEdge} (he : e ∈ Te) : e.2 ∈ W ∧ (e.1 ∈ W ∨ e.1 = st) := by
  refine ⟨(mem_stepP.1 (h.val e he).1).1,?_⟩
  by_cases q : e.1 = st
  · exact .inr q
  · left
    have hx := (h.val e he).2.2
    have h0 : 0 < inT Te e.1 := by rw [← h.bal e.1 q hx];exact outT_pos.2 ⟨e.2,he⟩
    obtain ⟨p,hp⟩ := inT_pos.1 h0
    exact (mem_stepP.1 (h.val _ hp).1).1
theorem lst_len {s : Sit} {W : List Int} {st : Int} {k : Nat} {Te : List LEdge} (h : Flow (netP s W st) k Te) {c : Int} {l : List Int} (hl : Lst (netP s W st) Te c l) : (c :: l).length ≤ W.length + 1 := by
  have := nodup_sub (hl.nodup h) (m := st :: W) fun x hx => by
    rcases hl.mem hx with e | ⟨p,hp⟩
    · rw [e];exact List.mem_cons_self
    · exact .tail _ (flow_W h hp).1
  simpa using this
def edD (Te : List LEdge) (d : List Nat) : List LEdge := d.filterMap fun i => Te[i]?
theorem edD_snoc {Te : List LEdge} {d : List Nat} {i : Nat} {e : LEdge} (h : Te[i]? = some e) : edD Te (d ++ [i]) = edD Te d ++ [e] := by
  unfold edD;rw [List.filterMap_append];simp [h]
theorem edD_len (Te : List LEdge) (d : List Nat) : (edD Te d).length ≤ d.length := List.length_filterMap_le _ _
theorem edD_all {Te : List LEdge} {d : List Nat} (hd : d.Nodup) (hlt : ∀ i,i ∈ d → i < Te.length) (hall : ∀ i,i < Te.length → i ∈ d) : (edD Te d).Perm Te := by
  have hp : d.Perm (List.range Te.length) := (List.perm_ext_iff_of_nodup hd List.nodup_range).2 fun i => by
    rw [List.mem_range];exact ⟨hlt i,hall i⟩
  have h1 := hp.filterMap fun i => Te[i]?
  have h2 : (List.range Te.length).filterMap (fun i => Te[i]?) = Te := by
    have key : ∀ n,n ≤ Te.length → (List.range n).filterMap (fun i => Te[i]?) = Te.take n := by
      intro n
      induction n with
      | zero => intro _;simp
      | succ n ih =>
        intro hn
        rw [List.range_succ,List.filterMap_append,ih (by omega),List.take_succ_eq_append_getElem (by omega : n < Te.length)]
        simp [List.getElem?_eq_getElem (by omega : n < Te.length)]
    rw [key _ (Nat.le_refl _),List.take_length]
  rw [h2] at h1
  exact h1
def endD (s : Sit) (Te : List LEdge) (d : List Nat) : List Int := ((edD Te d).filter fun e => exB s.fl e.2).map (·.2)
theorem endD_snoc {s : Sit} {Te : List LEdge} {d : List Nat} {i : Nat} {a c : Int} (h : Te[i]? = some (a,c)) : endD s Te (d ++ [i]) = if exB s.fl c = true then endD s Te d ++ [c] else endD s Te d := by
  unfold endD
  rw [edD_snoc h,List.filter_append,List.map_append]
  by_cases q : exB s.fl c = true
  · rw [if_pos q,List.filter_cons,if_pos (by simpa using q)];rfl
  · rw [if_neg q,List.filter_cons,if_neg (by simpa using q)];simp
theorem endD_len (s : Sit) (Te : List LEdge) (d : List Nat) : (endD s Te d).length ≤ d.length := by
  unfold endD
  rw [List.length_map]
  exact Nat.le_trans (List.length_filter_le _ _) (edD_len Te d)
structure EndsOk (s : Sit) (W : List Int) (st : Int) (k : Nat) (Te : List LEdge) (es : List Int) : Prop where
  nd : es.Nodup
  len : es.length = k
  ok : ∀ e,e ∈ es → exB s.fl e = true ∧ ∃ p,(p,e) ∈ Te
theorem ends_ok {s : Sit} {W : List Int} {st : Int} {k : Nat} {Te : List LEdge} (h : Flow (netP s W st) k Te) {d : List Nat} (hd : d.Nodup) (hlt : ∀ i,i ∈ d → i < Te.length) (hall : ∀ i,i < Te.length → i ∈ d) : EndsOk s W st k Te (sorted (endD s Te d)) := by
  have hp := edD_all hd hlt hall
  have hs : (sorted (endD s Te d)).Perm (endD s Te d) := List.mergeSort_perm _ _
  refine ⟨hs.nodup_iff.2 ?_,?_,fun e he => ?_⟩
  · unfold endD
    refine nodup_mapOn ((hp.nodup_iff.2 h.nd).filter _) fun x y hx hy e => ?_
    have hx := hp.mem_iff.1 (List.mem_filter.1 hx).1
    have hy := hp.mem_iff.1 (List.mem_filter.1 hy).1
    obtain ⟨a,b⟩ := x;obtain ⟨a',b'⟩ := y
    simp only at e;subst e
    have := inT_uniq h.nd (h.le1 b) hx hy
    subst this;rfl
  · rw [hs.length_eq]
    unfold endD
    rw [List.length_map,← List.countP_eq_length_filter,hp.countP_eq]
    exact h.ends
  · have he := hs.mem_iff.1 he
    unfold endD at he
    obtain ⟨x,hx,rfl⟩ := List.mem_map.1 he
    obtain ⟨h1,h2⟩ := List.mem_filter.1 hx
    exact ⟨h2,x.1,hp.mem_iff.1 h1⟩
structure WaysOk (s : Sit) (W : List Int) (st : Int) (k : Nat) (Te : List LEdge) (es : List Int) (bF : Int → List Int) : Prop where
  nd : es.Nodup
  len : es.length = k
  ok : ∀ e,e ∈ es → exB s.fl e = true ∧ Lst (netP s W st) Te e (bF e)
theorem ways_ok {s : Sit} {W : List Int} {st : Int} {k : Nat} {Te : List LEdge} {es : List Int} (g : Fine s.fl) (h : Flow (netP s W st) k Te) (he : EndsOk s W st k Te es) : ∃ bF,WaysOk s W st k Te es bF := by
  classical
  refine ⟨fun e => if h : ∃ b,Lst (netP s W st) Te e b then Classical.choose h else [],he.nd,he.len,fun e hm => ?_⟩
  obtain ⟨h1,p,hp⟩ := he.ok e hm
  have hb := h.back (stepP_ne g W) h1 hp
  exact ⟨h1,by rw [dif_pos hb];exact Classical.choose_spec hb⟩
def wayR (bF : Int → List Int) (e : Int) : List Int := (e :: bF e).reverse
theorem lt48 : ∀ i : Nat,i < 3 → ([0,1,2,4] : List Nat)[i]? = some i := by decide
theorem lt49 : ∀ i : Nat,i < 3 → ([0,1,2,3,7] : List Nat)[i]? = some i := by decide
theorem lt4a : ∀ i : Nat,i < 3 → ([0,1,2,3,4,7] : List Nat)[i]? = some i := by decide
theorem lt45 : ∀ i : Nat,i < 3 → ([0,1,2,3,4] : List Nat)[i]? = some i := by decide
theorem lt46 : ∀ i : Nat,i < 3 → ([0,1,2,7,4] : List Nat)[i]? = some i := by decide
theorem lt47 : ∀ i : Nat,i < 3 → ([0,1,2,3,5] : List Nat)[i]? = some i := by decide
theorem ways_p (s : Sit) (g : Fine s.fl) (W : List Int) (hWl : W.length ≤ 100000) (hWr : ∀ x,x ∈ W → 0 ≤ x ∧ x < s.fl.k.length) (st : Int) {k : Nat} {Te : List LEdge} {U : List (Int × Int)} (hF : Flow (netP s W st) k Te) (hU : PrevOk Te (prevF U)) (hUn : (pkA U).Nodup) :
    PCall Tryz.prog 36 [.ptr 0 0] (nwH s W st Te U) (fun r o => ∃ es bF,WaysOk s W st k Te es bF ∧ r = .sl 3 0 es.length 1 ∧ o = [.cells (netA s W st (.mp 1) (.mp 2)),.mapO (Te.map kE) (trA Te),.mapO (pkA U) (pvA U),.arr (rwI (es.map (wayR bF))) 1]) := by
  have hTl := flow_len hF
  refine pcall T Tryz.func36 rfl rfl rfl rfl ?_
  repeat' (first|refine wS ?_|(refine rg 0 ?_;refine aV ?_)|(refine rg 1 ?_;refine aV ?_)|refine nZ ?_)
  refine aw_own 3 1 rfl (by decide) ?_
  refine aw_mapOpen 1 rfl fun bs ck hb1' hb2' hb3' hb4' => ?_
  dsimp only [ln1,ln2,List.append_nil,ln4,ln5,ln6,ln7,ln8,ln9,putAt,putd,allObjs,argEnv,un_v,un_ptr,un_ep,un_pr,un_sl,un_mp,un_row,un_agg,un_tup,un_clo,Nat.zero_add,lnb,Nat.reduceAdd,lnc,lnd]
  have hbl : bs.length = Te.length := by rw [hb1'];simp
  repeat' (first|refine wB ?_|(refine rg 2 ?_;refine mV ?_;refine nV ?_;refine flV T ?_;refine vc_n (by exact fs_range edgeM_u rfl rfl) rfl ?_)|refine nZ ?_)
  refine aw_loop (X := {d : List Nat // d.Nodup ∧ ∀ i,i ∈ d → i < Te.length}) (fun d => [(0,.ptr 0 0),(3,.sl 3 0 (endD s Te d.1).length 1),(13,.ptr 4 0)]) (fun d => [.cells (netA s W st (.mp 1) (.mp 2)),.mapB (Te.map kE) (trA Te) bs ck,.mapO (pkA U) (pvA U),.arr (ints (endD s Te d.1)) 1,.iter 1 ck (seenB bs d.1) ck]) (fun d => Te.length - d.1.length) ⟨[],List.nodup_nil,fun i hi => by cases hi⟩ ⟨[0,1,2,3,4],rfl,(by (repeat (first | exact trivial | refine ⟨rfl,?_⟩))),⟨.inr rfl,.inr (sub_mapB rfl (tr_idf _)),.inr (sub_map rfl rfl rfl (pv_idf _)),.inr rfl,.inr rfl,trivial⟩,by decide,lt45⟩ ?_
  rintro ⟨d,hnd,hlt⟩
  dsimp only
  have hdl := nodup_le hnd hlt
  have hel := endD_len s Te d
  repeat' (first|refine wS ?_|refine wB ?_|refine wK ?_|refine wE ?_|refine wT ?_|refine wU ?_|(refine rg 3 ?_;refine vc_next rfl rfl rfl hb4' (Nat.le_refl _) rfl (fun hend=>vc_mapShut 1 rfl ?_) (fun i kv v b g1 g1' g2 g3=>?_);(all_goals (refine xV ?_)))|refine nZ ?_)
  · have hall := seen_all hb3' (by rw [hbl];exact hlt) hend
    rw [hbl] at hall
    have heo := ends_ok hF hnd hlt hall
    obtain ⟨bF,hw⟩ := ways_ok g hF heo
    clear heo
    have hsl := sorted_len (endD s Te d)
    have hsc := sort_c (endD s Te d) (by omega)
    generalize hes : sorted (endD s Te d) = es at *
    rw [← hsl] at hsc ⊢
    repeat' (first|refine wS ?_|(refine rg 7 ?_;refine mV ?_;refine vc_callw [3] rfl rfl hsc rfl rfl (by decide) ⟨.inr (sub_arr rfl rfl (ints_idf _)),trivial⟩ (by simp) rfl ?_)|(refine rg 8 ?_;refine aV ?_)|refine nZ ?_)
    refine aw_own 5 1 rfl (by decide) ?_
    have hel2 : es.length ≤ W.length := by omega
    have hesl : (ints es).length = es.length := ints_length _
    repeat' (first|refine wB ?_|(refine rg 9 ?_;refine mV ?_;refine qV T ?_;refine mV ?_)|refine nZ ?_)
    refine aw_loop (X := {j : Nat // j ≤ es.length}) (fun j => [(0,.ptr 0 0),(5,.sl 4 0 j.1 1),(32,.sl 3 0 es.length 1),(33,.i es.length),(34,.i (j.1 : Int))]) (fun j => [.cells (netA s W st (.mp 1) (.mp 2)),.mapO (Te.map kE) (trA Te),.mapO (pkA U) (pvA U),.arr (ints es) 1,.arr (rwI ((es.take j.1).map (wayR bF))) 1]) (fun j => es.length - j.1) ⟨0,by omega⟩ ⟨[0,1,2,3,5],rfl,(by (repeat (first | exact trivial | refine ⟨rfl,?_⟩))),⟨.inr rfl,.inr (by first|exact sub_map rfl rfl rfl (tr_idf _)|exact sub_map rfl rfl (mapL_idf _ _ (tr_idf _)) (tr_idf _)),.inr (by first|exact sub_map rfl rfl rfl (pv_idf _)|exact sub_map rfl rfl (mapL_idf _ _ (pv_idf _)) (pv_idf _)),.inr (sub_arr rfl (mapL_idfs _ (ints_idf _)) (ints_idf _)),.inr (sub_rwI rfl rfl),trivial⟩,by decide,lt47⟩ ?_
    rintro ⟨j,hj⟩
    dsimp only
    by_cases hjl : j < es.length
    · have htk := List.take_succ_eq_append_getElem hjl
      have hwe := hw.ok es[j] (List.getElem_mem hjl)
      have q1 : (ints es)[0 + (j : Int).toNat]? = some [AV.i es[j]] := by rw [Nat.zero_add,Int.toNat_natCast];exact ints_get hjl
      generalize es[j] = e at *
      have hll := lst_len hF hwe.2
      have hwr : wayR bF e = (e :: bF e).reverse := rfl
      repeat' (first|refine wS ?_|refine wB ?_|refine wK ?_|refine wT ?_|(refine rg 10 ?_;refine vV (by exact fs_lssT rfl rfl (by omega)) ?_)|(refine rg 11 ?_;refine vV (by exact fs_indexOwn T rfl rfl rfl rfl rfl (by omega) (by omega)) ?_;refine vV (by exact fs_load T rfl rfl (behind_ep rfl q1) rfl) ?_;refine aV ?_)|(refine rg 12 ?_;refine mV ?_;refine vc_n (by exact fs_buildSlice T rfl rfl (by decide) (by decide) rfl rfl rfl) rfl ?_;refine aV ?_)|refine nZ ?_)
      refine aw_loop (X := {p : List Int × Int × List Int // Lst (netP s W st) Te p.2.1 p.2.2 ∧ p.1 ++ p.2.2 = e :: bF e}) (fun p => [(0,.ptr 0 0),(5,.sl 4 0 j 1),(7,.i p.1.2.1),(8,.sl 5 0 p.1.1.length 1),(32,.sl 3 0 es.length 1),(33,.i es.length),(34,.i (j : Int))]) (fun p => [.cells (netA s W st (.mp 1) (.mp 2)),.mapO (Te.map kE) (trA Te),.mapO (pkA U) (pvA U),.arr (ints es) 1,.arr (rwI ((es.take j).map (wayR bF))) 1,.arr (ints p.1.1) 1]) (fun p => p.1.2.2.length) ⟨([e],e,bF e),hwe.2,rfl⟩ ⟨[0,1,2,3,4,5],rfl,(by (repeat (first | exact trivial | refine ⟨rfl,?_⟩))),⟨.inr rfl,.inr (by first|exact sub_map rfl rfl rfl (tr_idf _)|exact sub_map rfl rfl (mapL_idf _ _ (tr_idf _)) (tr_idf _)),.inr (by first|exact sub_map rfl rfl rfl (pv_idf _)|exact sub_map rfl rfl (mapL_idf _ _ (pv_idf _)) (pv_idf _)),.inr (sub_arr rfl rfl (ints_idf _)),.inr (sub_rwI rfl rfl),.inr (sub_arr rfl rfl (ints_idf _)),trivial⟩,by decide,lt36⟩ ?_
      rintro ⟨⟨pre,c,b'⟩,hL,hpre⟩
      dsimp only
      dsimp only at hL hpre
      have hpl : pre.length ≤ W.length + 1 := by have := congrArg List.length hpre;rw [List.length_append] at this;omega
      match b',hL,hpre with
      | [],hL,hpre =>
        have hcs : c = st := hL
        rw [List.append_nil] at hpre
        subst hpre
        have hrc := reverse_c (e :: bF e) (by omega)
        have hrl : (ints (e :: bF e).reverse).length = (e :: bF e).length := by rw [ints_length,List.length_reverse]
        repeat' (first|refine wS ?_|refine wE ?_|refine wU ?_|(refine rg 13 ?_;refine mmV ?_;refine nV ?_;refine flV T ?_;refine vV (by exact fs_neqF rfl rfl hcs) ?_)|(refine rg 16 ?_;refine mV ?_;refine vc_callw [5] rfl rfl hrc rfl rfl (by decide) ⟨.inr (sub_arr rfl rfl (ints_idf _)),trivial⟩ (by simp) rfl ?_)|refine nZ ?_)
        refine aw_frz (es := ints (e :: bF e).reverse) 8 rfl (congrArg (fun l => some (AB.arr l 1)) (mapL_idfs _ (ints_idf _))) (by simp) (idfL_flat (ints_idf _)) ?_
        have hrw := rwI_length ((es.take j).map (wayR bF))
        rw [List.length_map,List.length_take,Nat.min_eq_left (by omega)] at hrw
        repeat' (first|(refine rg 17 ?_;refine mmV ?_;refine vc_n (by exact fs_buildSlice T rfl rfl (by decide) (by decide) rfl rfl rfl) rfl ?_;refine vc_append T rfl rfl rfl rfl rfl rfl (by rw [hrw];omega) (Elems.whole rfl rfl) rfl (by simp;omega) (by simp;omega) rfl ?_;refine aV ?_)|(refine rg 18 ?_;refine vV (by exact fs_addr rfl rfl (by omega) (by omega)) ?_;refine mV ?_)|refine nZ ?_)
        all_goals exact ⟨⟨j + 1,hjl⟩,by dsimp only;omega,[0,1,2,3,7],rfl,(by (repeat (first | exact trivial | refine ⟨rfl,?_⟩))),⟨.inr rfl,.inr (sub_map rfl rfl rfl (tr_idf _)),.inr (sub_map rfl rfl rfl (pv_idf _)),.inr (sub_arr rfl rfl (ints_idf _)),.inr (sub_rwI rfl (by dsimp only;rw [htk,List.map_append,List.map_cons,List.map_nil,← hwr];exact rw_next (by rw [List.length_map,List.length_take,Nat.min_eq_left (by omega)]))),trivial⟩,by decide,lt49⟩
      | p :: b'',hL,hpre =>
        obtain ⟨hcs,hpc,hL2⟩ := hL
        obtain ⟨i,hi1,hi2⟩ := prevF_some ((hU c p).2 hpc)
        repeat' (first|refine wS ?_|refine wB ?_|refine wK ?_|refine wT ?_|(refine rg 13 ?_;refine mmV ?_;refine nV ?_;refine flV T ?_;refine vV (by exact fs_neqT rfl rfl hcs) ?_)|(refine rg 14 ?_;refine mV ?_;refine nV ?_;refine flV T ?_;refine mV ?_;refine vV (by exact fs_mapGet1 mapII intK rfl rfl (isv_i _) rfl (pk_good _) (good_i _) hUn hi1 hi2) ?_;refine aV ?_)|(refine rg 15 ?_;refine mmV ?_;refine vc_n (by exact fs_buildSlice T rfl rfl (by decide) (by decide) rfl rfl rfl) rfl ?_;refine vc_append T rfl rfl rfl rfl rfl rfl (by simp) (Elems.whole rfl rfl) rfl (by simp;omega) (by simp;omega) rfl ?_;refine aV ?_)|refine nZ ?_)
        all_goals exact ⟨⟨(pre ++ [p],p,b''),hL2,by dsimp only;rw [List.append_assoc];exact hpre⟩,by dsimp only;rw [List.length_cons];omega,[0,1,2,3,4,7],rfl,⟨rfl,rfl,rfl,by dsimp only;rw [List.length_append];rfl,rfl,rfl,rfl,trivial⟩,⟨.inr rfl,.inr (sub_map rfl rfl rfl (tr_idf _)),.inr (sub_map rfl rfl rfl (pv_idf _)),.inr (sub_arr rfl rfl (ints_idf _)),.inr (sub_rwI rfl rfl),.inr (sub_arr rfl ints_app (ints_idf _)),trivial⟩,by decide,lt4a⟩
    · obtain rfl : j = es.length := by omega
      rw [List.take_length]
      repeat' (first|refine wS ?_|refine wR ?_|refine wE ?_|refine wU ?_|(refine rg 10 ?_;refine vV (by exact fs_lssF rfl rfl (by omega)) ?_)|(refine rg 19 ?_;refine mV ?_;refine aV ?_)|refine nZ ?_)
      all_goals exact ⟨_,_,⟨es,bF,hw,rfl,rfl⟩,.inl rfl,[0,1,2,4],_,rfl,rfl,rfl,⟨.inr rfl,.inr (sub_map rfl rfl rfl (tr_idf _)),.inr (sub_map rfl rfl rfl (pv_idf _)),.inr (sub_rwI rfl rfl),trivial⟩,by decide,lt48⟩
  · rw [List.getElem?_map] at g1
    obtain ⟨⟨a,c⟩,hac,rfl⟩ := Option.map_eq_some_iff.1 g1
    have hv : v = .b true := by rw [List.getElem?_map,hac] at g1';simpa using g1'.symm
    subst hv
    have k1 : (Te.map kE)[i]? = some (kE (a,c)) := by simp [hac]
    have k2 : (trA Te)[i]? = some (.b true) := by simp [hac]
    have hnew := seen_not g2 g3
    have hil := (List.getElem?_eq_some_iff.1 hac).1
    have hsn := seen_snoc (d := d) g2
    have hd' : (d ++ [i]).Nodup ∧ ∀ j,j ∈ d ++ [i] → j < Te.length := ⟨nodup_snoc hnd hnew,fun j hj => (List.mem_append.1 hj).elim (hlt j) (fun e => by simp at e;rw [e];exact hil)⟩
    have hdl2 := nodup_le hd'.1 hd'.2
    rw [List.length_append,List.length_singleton] at hdl2
    have hcr := hWr c (flow_W hF (List.mem_of_getElem? hac)).1
    have cx := isExit_c s c hcr.1 hcr.2
    have he := endD_snoc (s := s) (d := d) hac
    generalize hT1 : endD s Te (d ++ [i]) = T1 at *
    generalize endD s Te d = T0 at *
    cases hx : exB s.fl c with
    | true =>
      rw [hx] at cx
      rw [if_pos hx] at he
      repeat' (first|refine wS ?_|refine wT ?_|(refine rg 4 ?_;refine vc_n (by exact fs_entry rfl rfl rfl rfl g2 k1 k2) rfl ?_;refine vc_weak 16 (.tup [.agg [.i a,.i c],.b true]) rfl (fun _ _ _ _ q=>R_tupE q) ?_;refine xV ?_;refine vc_n (by exact fs_alloc T rfl) rfl ?_;refine vc_store T rfl rfl rfl rfl rfl rfl (by decide) rfl ?_)|(refine aw_drawT (id := 5) 6 64 [[],[0],[0,1],[0,1,2],[],[4],[0,1,2,3,4,5]] [[],[0],[0,1],[0,1,2],[],[4]] [18,19,20,21,22,23] [[],[],[],[],[18,19,20,21],[18,19,20,21]] mixedP rfl (by decide +kernel) (by decide +kernel) ?_;(dsimp only [List.take,List.drop]);refine dM ?_;refine dV rfl (by exact fs_nilCheck rfl rfl) ?_;refine dF T ?_;refine dL T ?_;refine dF T ?_;refine dL T ?_;refine dw_fin rfl rfl (by ((dsimp only [ln1,ln2,List.append_nil,ln4,ln5,ln6,ln7,ln8,ln9,putAt,putd,allObjs,argEnv,un_v,un_ptr,un_ep,un_pr,un_sl,un_mp,un_row,un_agg,un_tup,un_clo,Nat.zero_add,lnb,Nat.reduceAdd,lnc,lnd];done))) ?_;refine vc_nil ?_;refine vV (by exact kC (cx)) ?_)|(refine rg 6 ?_;refine mV ?_;refine flV T ?_;refine vc_n (by exact fs_buildSlice T rfl rfl (by decide) (by decide) rfl rfl rfl) rfl ?_;refine vc_append T rfl rfl rfl rfl rfl rfl (by simp) (Elems.whole rfl rfl) rfl (by simp;omega) (by simp;omega) rfl ?_;refine aV ?_)|refine nZ ?_)
      all_goals exact ⟨⟨d ++ [i],hd'⟩,by dsimp only;rw [List.length_append,List.length_singleton];omega,[0,1,2,7,4],rfl,⟨rfl,by dsimp only;rw [hT1,he,List.length_append];rfl,rfl,trivial⟩,⟨.inr rfl,.inr (sub_mapB rfl (tr_idf _)),.inr (sub_map rfl rfl rfl (pv_idf _)),.inr (sub_arr rfl (by dsimp only;rw [hT1,he];exact ints_app) (ints_idf _)),.inr (sub_iter rfl hsn),trivial⟩,by decide,lt46⟩
    | false =>
      rw [hx] at cx
      rw [if_neg (by rw [hx];decide)] at he
      repeat' (first|refine wS ?_|refine wK ?_|refine wU ?_|(refine rg 4 ?_;refine vc_n (by exact fs_entry rfl rfl rfl rfl g2 k1 k2) rfl ?_;refine vc_weak 16 (.tup [.agg [.i a,.i c],.b true]) rfl (fun _ _ _ _ q=>R_tupE q) ?_;refine xV ?_;refine vc_n (by exact fs_alloc T rfl) rfl ?_;refine vc_store T rfl rfl rfl rfl rfl rfl (by decide) rfl ?_)|(refine aw_drawT (id := 5) 6 64 [[],[0],[0,1],[0,1,2],[],[4],[0,1,2,3,4,5]] [[],[0],[0,1],[0,1,2],[],[4]] [18,19,20,21,22,23] [[],[],[],[],[18,19,20,21],[18,19,20,21]] mixedP rfl (by decide +kernel) (by decide +kernel) ?_;(dsimp only [List.take,List.drop]);refine dM ?_;refine dV rfl (by exact fs_nilCheck rfl rfl) ?_;refine dF T ?_;refine dL T ?_;refine dF T ?_;refine dL T ?_;refine dw_fin rfl rfl (by ((dsimp only [ln1,ln2,List.append_nil,ln4,ln5,ln6,ln7,ln8,ln9,putAt,putd,allObjs,argEnv,un_v,un_ptr,un_ep,un_pr,un_sl,un_mp,un_row,un_agg,un_tup,un_clo,Nat.zero_add,lnb,Nat.reduceAdd,lnc,lnd];done))) ?_;refine vc_nil ?_;refine vV (by exact kC (cx)) ?_)|refine nZ ?_)
      all_goals exact ⟨⟨d ++ [i],hd'⟩,by dsimp only;rw [List.length_append,List.length_singleton];omega,[0,1,2,3,4],rfl,⟨rfl,by dsimp only;rw [hT1,he];rfl,rfl,trivial⟩,⟨.inr rfl,.inr (sub_mapB rfl (tr_idf _)),.inr (sub_map rfl rfl rfl (pv_idf _)),.inr (sub_arr rfl (by dsimp only;rw [hT1,he]) (ints_idf _)),.inr (sub_iter rfl hsn),trivial⟩,by decide,lt45⟩
end Go.Proofs.YtdmajnjoeidgeaaGreat
namespace Go.Proofs.YtdmajnjoeidgeaaGreat
open Go Go.Ab Go.Fl Go.Re Go.Ln
set_option maxHeartbeats 4000000
def PairOk (s : Sit) (x : LaneT) : Prop := LaneP (netP s (walkP s.fl) x.1) x.2.1 ∧ LaneP (netP s (walkP s.fl) x.1) x.2.2 ∧ ∀ y,y ∈ x.2.1 → y ∈ x.2.2 → y = x.1
def StuckP (s : Sit) (c : Int) : Prop := (∀ l,¬ LaneP (netP s (walkP s.fl) c) l) ∨ ∃ x,x ≠ c ∧ ∀ l,LaneP (netP s (walkP s.fl) c) l → x ∈ l
abbrev laneA (x : LaneT) : List AV := [.i x.1,.rowE (ints x.2.1) 1,.rowE (ints x.2.2) 1]
abbrev lanesA (l : List LaneT) : List (List AV) := l.map laneA
theorem stuck_0 {s : Sit} (g : Fine s.fl) {c : Int} (hst : exB s.fl c = false) {Te : List LEdge} {R} (h : Flow (netP s (walkP s.fl) c) 0 Te) (hs : Shut (netP s (walkP s.fl) c) Te R) : StuckP s c :=
  .inl fun l hl => by
    obtain ⟨_,r,_,hw⟩ := hl
    exact hs.none h hst (stepP_ne g _) hw
theorem stuck_1 {s : Sit} (g : Fine s.fl) {c : Int} (hst : exB s.fl c = false) {Te : List LEdge} {R} (h : Flow (netP s (walkP s.fl) c) 1 Te) (hs : Shut (netP s (walkP s.fl) c) Te R) : StuckP s c := by
  obtain ⟨p,x,_,hx,hw⟩ := hs.one h hst (stepP_ne g _)
  refine .inr ⟨x,hx,fun l hl => ?_⟩
  obtain ⟨_,r,rfl,hr⟩ := hl
  exact .tail _ (hw r hr)
theorem two_ok {s : Sit} {c : Int} {Te : List LEdge} {es : List Int} {bF : Int → List Int} (h : Flow (netP s (walkP s.fl) c) 2 Te) (hw : WaysOk s (walkP s.fl) c 2 Te es bF) : ∃ e0 e1,es = [e0,e1] ∧ PairOk s (c,wayR bF e0,wayR bF e1) := by
  match es,hw with
  | [],hw => exact absurd hw.len (by simp)
  | [_],hw => exact absurd hw.len (by simp)
  | _ :: _ :: _ :: _,hw => exact absurd hw.len (by simp)
  | [e0,e1],hw =>
    obtain ⟨x0,l0⟩ := hw.ok e0 (by simp)
    obtain ⟨x1,l1⟩ := hw.ok e1 (by simp)
    have hne : e0 ≠ e1 := fun e => by have := hw.nd;rw [e] at this;simp at this
    refine ⟨e0,e1,rfl,l0.lane h x0,l1.lane h x1,fun y hy hy' => ?_⟩
    exact Lst.apart h x0 x1 l0 l1 hne (List.mem_reverse.1 hy) (List.mem_reverse.1 hy')
theorem way_W {s : Sit} {W : List Int} {st : Int} : ∀ {r : List Int} {c : Int}, Ln.Way (netP s W st) c r → ∀ x, x ∈ r → x ∈ W
  | [],_,_,x,hx => by cases hx
  | y :: r,c,h,x,hx => by
    obtain ⟨_,h2,h3⟩ := h
    rcases List.mem_cons.1 hx with rfl | hx
    · exact (mem_stepP.1 h2).1
    · exact way_W h3 x hx
theorem lane_drop {s : Sit} {W : List Int} {st : Int} {l : List Int} (h : LaneP (netP s W st) l) : ∃ r,l = st :: r ∧ l.drop 1 = r ∧ (∀ x,x ∈ r → x ∈ W ∧ x ≠ st) := by
  obtain ⟨hn,r,rfl,hw⟩ := h
  refine ⟨r,rfl,rfl,fun x hx => ⟨way_W hw x hx,fun e => ?_⟩⟩
  subst e
  exact (List.nodup_cons.1 hn).1 hx
theorem lane_len {s : Sit} {W : List Int} {st : Int} {l : List Int} (h : LaneP (netP s W st) l) : l.length ≤ W.length + 1 := by
  obtain ⟨r,e,_,hW⟩ := lane_drop h
  have hn := h.1
  rw [e] at hn ⊢
  have := nodup_sub (List.nodup_cons.1 hn).2 (m := W) fun x hx => (hW x hx).1
  simpa using this
def mxL (n : Int) (e : Int × List Int) : Int := max n ((e.2.length : Int) - 1)
def boundP (f : Flo) : Int := (offL f (walkP f)).foldl mxL 0
def smF : Flo := ⟨5,2,1,[5,4,4,4,5,1,1,1,1,3],[15,15,15,15,15,15,15,15,15,15]⟩
def smS : Sit := ⟨smF,[],[],[],[]⟩
theorem sm_walk : walkP smF = [0,1,2,3,4] := by decide
theorem sm_kind : kindC smF 4 = [1,2,3] := by decide
theorem sm_bound : boundP smF = 1 := by decide
theorem sm_off : offR smF 2 = [2,7] := by decide
theorem sm_s1 : stepP smF [0,1,2,3,4] 1 = [2,0] := by decide
theorem sm_s2 : stepP smF [0,1,2,3,4] 2 = [3,1] := by decide
theorem sm_s3 : stepP smF [0,1,2,3,4] 3 = [4,2] := by decide
theorem sm_fine : Fine smF := by
  constructor <;> decide
theorem sm_lane {l : List Int} (h : LaneP (netP smS (walkP smF) 2) l) : l = [2,1,0] ∨ l = [2,3,4] := by
  rw [sm_walk] at h
  obtain ⟨hn,r,rfl,hw⟩ := h
  have x1 : exB smF 1 = false := by decide
  have x2 : exB smF 2 = false := by decide
  have x3 : exB smF 3 = false := by decide
  have x0 : exB smF 0 = true := by decide
  have x4 : exB smF 4 = true := by decide
  have en : ∀ (r : List Int) (c : Int),exB smF c = true → Ln.Way (netP smS [0,1,2,3,4] 2) c r → r = [] := fun r c hc h => by
    cases r with
    | nil => rfl
    | cons y r => exact absurd (h.1.symm.trans hc) (by decide)
  have ex : (netP smS [0,1,2,3,4] 2).ex = exB smF := rfl
  have sp : (netP smS [0,1,2,3,4] 2).sp = stepP smF [0,1,2,3,4] := rfl
  have st : (netP smS [0,1,2,3,4] 2).st = 2 := rfl
  rw [st] at hn hw ⊢
  cases r with
  | nil => exact absurd (show exB smF 2 = true from hw) (by rw [x2];decide)
  | cons y r =>
    obtain ⟨_,hy,hw⟩ := hw
    rw [sp,sm_s2] at hy
    cases r with
    | nil =>
      have hw : exB smF y = true := hw
      simp only [List.mem_cons,List.not_mem_nil,or_false] at hy
      rcases hy with rfl | rfl
      · rw [x3] at hw;cases hw
      · rw [x1] at hw;cases hw
    | cons z r =>
      obtain ⟨_,hz,hw⟩ := hw
      simp only [List.mem_cons,List.not_mem_nil,or_false] at hy
      rcases hy with rfl | rfl
      · rw [sp,sm_s3] at hz
        simp only [List.mem_cons,List.not_mem_nil,or_false] at hz
        rcases hz with rfl | rfl
        · rw [en r 4 x4 hw];exact .inr rfl
        · simp at hn
      · rw [sp,sm_s1] at hz
        simp only [List.mem_cons,List.not_mem_nil,or_false] at hz
        rcases hz with rfl | rfl
        · simp at hn
        · rw [en r 0 x0 hw];exact .inl rfl
end Go.Proofs.YtdmajnjoeidgeaaGreat
namespace Go.Proofs.YtdmajnjoeidgeaaGreat
open Go Go.Ab Go.Fl Go.Re Go.Ln Go.MapKept
attribute [local irreducible] VC AW FStep ACall PCall
set_option maxHeartbeats 4000000
theorem walk_asc (f : Flo) : Asc (walkP f) := union_asc (ofK_asc _ _ _) (ofK_asc _ _ _)
theorem walk_len (f : Flo) : (walkP f).length ≤ f.k.length := by
  have h : (walkP f).Nodup := (walk_asc f).imp (fun h => by omega)
  have := nodup_sub (l := walkP f) (m := (List.range f.k.length).map fun i : Nat => (i : Int)) h fun x hx => by
    obtain ⟨h1,h2,_⟩ := mem_walk.1 hx
    exact List.mem_map.2 ⟨x.toNat,List.mem_range.2 (by omega),by omega⟩
  simpa using this
abbrev okA (L : List (Int × List Int)) : List Value := L.map fun e => kI e.1
abbrev ovA (L : List (Int × List Int)) : List AV := L.map fun e => AV.rowE (ints e.2) 1
theorem ok_good (L : List (Int × List Int)) : ∀ q,q ∈ okA L → MapKept.IsKey (.int .i64) q := fun q hq => by
  obtain ⟨c,_,rfl⟩ := List.mem_map.1 hq;rfl
theorem ov_idf (L : List (Int × List Int)) : AV.idfL (ovA L) = true := by
  induction L with
  | nil => rfl
  | cons e L ih => exact ih
theorem offL_snoc (f : Flo) (W : List Int) (c : Int) : offL f (W ++ [c]) = if 0 ≤ offD f c.toNat then offL f W ++ [(c,offW f c.toNat)] else offL f W := by
  unfold offL
  by_cases h : 0 ≤ offD f c.toNat
  · have e : offE f c = some (c,offW f c.toNat) := by unfold offE;rw [if_pos h]
    rw [if_pos h,List.filterMap_append,List.filterMap_cons,e];rfl
  · have e : offE f c = none := by unfold offE;rw [if_neg h]
    rw [if_neg h,List.filterMap_append,List.filterMap_cons,e];exact List.append_nil _
theorem mem_offL {f : Flo} {W : List Int} {e : Int × List Int} : e ∈ offL f W ↔ e.1 ∈ W ∧ 0 ≤ offD f e.1.toNat ∧ e.2 = offW f e.1.toNat := by
  unfold offL
  rw [List.mem_filterMap]
  constructor
  · rintro ⟨c,hc,h⟩
    unfold offE at h
    split at h
    · rename_i h0;cases h;exact ⟨hc,h0,rfl⟩
    · cases h
  · rintro ⟨h1,h2,h3⟩
    exact ⟨e.1,h1,by unfold offE;rw [if_pos h2,← h3]⟩
theorem offL_no {f : Flo} {W : List Int} {c : Int} (h : c ∉ W) : kI c ∉ okA (offL f W) := fun hm => by
  obtain ⟨e,he,q⟩ := List.mem_map.1 hm
  have := (mem_offL.1 he).1
  simp [kI] at q
  rw [q] at this;exact h this
theorem offL_nd {f : Flo} {W : List Int} (h : W.Nodup) : (okA (offL f W)).Nodup := by
  induction W with
  | nil => exact List.nodup_nil
  | cons c W ih =>
    rw [List.nodup_cons] at h
    unfold offL at ih ⊢
    rw [List.filterMap_cons]
    have hno := offL_no (f := f) h.1
    unfold offL at hno
    unfold offE
    by_cases q : 0 ≤ offD f c.toNat
    · rw [if_pos q]
      exact List.nodup_cons.2 ⟨hno,ih h.2⟩
    · rw [if_neg q];exact ih h.2
theorem nats_app2 {pre Q : List Nat} {n c : Nat} : List.take (Q.length + 1) (List.drop pre.length (nats (pre ++ n :: Q))) ++ [[AV.i (c : Int)]] = nats ([] ++ n :: (Q ++ [c])) := by
  rw [show nats (pre ++ n :: Q) = nats pre ++ nats (n :: Q) by simp,List.drop_left' (by simp),List.take_of_length_le (by simp)];simp
theorem mapIS : Tryz.prog.underlying 77 = some (.map 3 22) := by kernel_rfl
theorem spread_inv {N : Nat} {mv : MV} {ok : Nat → Bool} (hmv : ∀ c d n,c < N → mv c d = some n → n < N) (l : List Nat) (hl : ∀ c,c ∈ l → c < N) : HInv N (spreadH N mv ok l) := by
  obtain ⟨g1,g2,_⟩ := start_srch (N := N) (mv := mv) (ok := ok) l hl
  have h0 : HInv N (fromH l (startH N ok)) := fromH_inv (mv := mv) _ _ rfl hl
  have e0 : (fromH l (startH N ok)).1 = fromM l (startS N ok) := fromH_1 _ _
  rw [← e0] at g1
  unfold spreadH
  generalize fromH l (startH N ok) = x at h0 g1
  clear g2 e0
  suffices ∀ k (x : SH),HInv N x → Srch N mv ok (· ∈ l) x.1 → HInv N (bfsH mv k x) from this N x h0 g1
  intro k
  induction k with
  | zero => intro x h _;exact h
  | succ k ih =>
    intro x h s
    unfold bfsH
    cases hq : x.1.q with
    | nil => exact h
    | cons c r' =>
      simp only
      have m0 := s.pop hq
      have key : ∀ (j d : Nat) (y : SH),d + j = 6 → Mid N mv ok (· ∈ l) c d y.1 → HInv N y → HInv N ((List.range' d j).foldl (tryH mv c) y) ∧ Mid N mv ok (· ∈ l) c 6 ((List.range' d j).foldl (tryH mv c) y).1 := by
        intro j
        induction j with
        | zero =>
          intro d y hd m hy
          obtain rfl : d = 6 := by omega
          exact ⟨hy,m⟩
        | succ j ihj =>
          intro d y hd m hy
          rw [List.range'_succ,List.foldl_cons]
          refine ihj (d + 1) _ (by omega) (by rw [tryH_1];exact m.next hmv (by omega)) ?_
          unfold tryH
          cases hm : mv c d with
          | none => exact hy
          | some n =>
            have hn := hmv c d n m.hc hm
            exact hy.reach hn m.inv.lu (by have := m.h0;omega) (fun ho => ((m.inv.opn n hn).1 ho).2)
      obtain ⟨k1,k2⟩ := key 6 0 (⟨x.1.op,x.1.out,r'⟩,x.2) rfl m0 ⟨h.nd,h.lt,h.mem⟩
      have e6 : expandH mv c (⟨x.1.op,x.1.out,r'⟩,x.2) = (List.range' 0 6).foldl (tryH mv c) (⟨x.1.op,x.1.out,r'⟩,x.2) := by unfold expandH;rw [List.range_eq_range']
      rw [e6]
      exact ih _ k1 k2.end
theorem bv_wall {f : Flo} (g : Fine f) {c d n : Nat} (h : bvN f c d = some n) : f.k.getD n 0 ≠ 0 := by
  have h1 := (next_some g ((mvN_some g).1 ((mv_bv g).2 h))).2.2.2.2.1
  unfold kindI at h1
  rwa [Int.toNat_natCast] at h1
theorem offs_c (s : Sit) (g : Fine s.fl) : ACall Tryz.prog 37 [.agg (sitA s)] [] (.mp 0) [.mapO (okA (offL s.fl (walkP s.fl))) (ovA (offL s.fl (walkP s.fl)))] := by
  have hN := g.le
  have hb := g.bounds
  have hkl : (ints s.fl.k).length = s.fl.k.length := ints_length _
  have hWa := walk_asc s.fl
  have hWn : (walkP s.fl).Nodup := hWa.imp (fun h => by omega)
  have hWl := walk_len s.fl
  have cw := walkOf_c s (by omega)
  have hWr : ∀ x,x ∈ walkP s.fl → 0 ≤ x ∧ x < s.fl.k.length := fun x hx => by obtain ⟨h1,h2,_⟩ := mem_walk.1 hx;exact ⟨h1,h2⟩
  have hsrc : ∀ c,c ∈ srcF s.fl → c < s.fl.k.length := srcK_lt (Nat.le_refl _)
  have hinv := spread_inv (ok := okN s.fl) (bvN_lt g) (srcF s.fl) hsrc
  have hfar := (off_far g).1
  have hole := off_le g
  have holen := (off_far g).2
  have hF1 : (spreadH s.fl.k.length (bvN s.fl) (okN s.fl) (srcF s.fl)).1 = spreadM s.fl.k.length (bvN s.fl) (okN s.fl) (srcF s.fl) := spreadH_1 _ _ _ _
  have hFo : (spreadH s.fl.k.length (bvN s.fl) (okN s.fl) (srcF s.fl)).1.out = offO s.fl := by rw [hF1];rfl
  have hF0 : spreadH s.fl.k.length (bvN s.fl) (okN s.fl) (srcF s.fl) = bfsH (bvN s.fl) s.fl.k.length (fromH (srcF s.fl) (startH s.fl.k.length (okN s.fl))) := rfl
  generalize spreadH s.fl.k.length (bvN s.fl) (okN s.fl) (srcF s.fl) = F at *
  clear hF1
  refine acall T Tryz.func37 rfl rfl rfl rfl ?_
  repeat' (first|refine wS ?_|(refine rg 0 ?_;refine vc_n (by exact fs_box rfl rfl) rfl ?_;refine aV ?_)|(refine rg 1 ?_;refine lV T ?_;refine vV (by exact kC (cw)) ?_;refine aV ?_)|(refine rg 2 ?_;refine vc_n (by exact fs_mapNew) rfl ?_;refine aV ?_)|(refine rg 3 ?_;refine aV ?_)|refine nZ ?_)
  refine aw_own 5 1 rfl (by decide) ?_
  dsimp only [ln1,ln2,List.append_nil,ln4,ln5,ln6,ln7,ln8,ln9,putAt,putd,allObjs,argEnv,un_v,un_ptr,un_ep,un_pr,un_sl,un_mp,un_row,un_agg,un_tup,un_clo,Nat.zero_add,lnb,Nat.reduceAdd,lnc,lnd]
  repeat' (first|refine wB ?_|(refine rg 4 ?_;refine fV T ?_;refine flV T ?_;refine qV T ?_;refine mV ?_)|refine nZ ?_)
  -- the cells that do not belong to the walk
  refine aw_loop (X := {j : Nat // j ≤ s.fl.k.length}) (fun j => [(1, .ptr 0 0), (3, .rowE (ints (walkP s.fl)) 1), (4, .mp 1), (5, .sl 2 0 (srcK s.fl (walkP s.fl) j.1).length 1), (25, .rowE (ints s.fl.k) 1), (26, .i s.fl.k.length), (27, .i (j.1 : Int))])
    (fun j => [.cells (sitA s),.mapO (dkA (srcK s.fl (walkP s.fl) j.1)) (z0 (srcK s.fl (walkP s.fl) j.1)),.arr (nats (srcK s.fl (walkP s.fl) j.1)) 1]) (fun j => s.fl.k.length - j.1) ⟨0,Nat.zero_le _⟩ ⟨[0,1,2],rfl,⟨rfl,rfl,rfl,rfl,rfl,congrArg (fun n : Nat => some (AV.i n)) hkl,rfl,trivial⟩,⟨.inr rfl,.inr (sub_map rfl rfl rfl (z0_idf _)),.inr (sub_arr rfl rfl (nats_idf _)),trivial⟩,by decide,nz0⟩ ?_
  rintro ⟨j,hj⟩
  dsimp only
  by_cases hlt : j < s.fl.k.length
  · have hs := srcK_succ s.fl (walkP s.fl) j
    have hn := srcK_len s.fl (walkP s.fl) j
    have hno : kI (j : Int) ∉ dkA (srcK s.fl (walkP s.fl) j) := dk_no fun c hc hm => by have := (mem_srcK.1 hm).1;omega
    have q1 : (ints s.fl.k)[(j : Int).toNat]? = some [AV.i (s.fl.k.getD j 0)] := ints_gI (l := s.fl.k) (j := (j : Int)) 0 hlt rfl
    have ch := rhas_c (walkP s.fl) (j : Int) hWa (by omega)
    unfold srcB at hs
    generalize hT : srcK s.fl (walkP s.fl) (j + 1) = T1 at *
    generalize srcK s.fl (walkP s.fl) j = T0 at *
    generalize s.fl.k.getD j 0 = y at *
    by_cases hy : y = 0
    · subst hy
      rw [decide_eq_false (by simp),Bool.false_and,if_neg (by decide)] at hs
      repeat' (first|refine wS ?_|refine wB ?_|refine wK ?_|refine wT ?_|refine wU ?_|(refine rg 5 ?_;refine vV (by exact fs_lssT rfl rfl (by omega)) ?_)|(refine rg 6 ?_;refine mV ?_;refine vV (by exact ix T rfl (by omega) (ints_len _) q1) ?_;refine lV T ?_;refine aaV ?_)|(refine rg 7 ?_;refine mV ?_;refine vV (by exact fs_neqF rfl rfl rfl) ?_;refine mV ?_;refine gK ?_;(iterate 4 refine gF ?_);refine pV ?_)|(refine rg 10 ?_;refine vV (by exact fs_addr rfl rfl (by omega) (by omega)) ?_;refine mV ?_)|refine nZ ?_)
      all_goals exact ⟨⟨j + 1,hlt⟩,by dsimp only;omega,[0,1,2],rfl,⟨rfl,rfl,rfl,by dsimp only;rw [hT,hs];rfl,rfl,rfl,rfl,trivial⟩,⟨.inr rfl,.inr (sub_map rfl (by dsimp only;rw [hT,hs]) (by dsimp only;rw [hT,hs]) (z0_idf _)),.inr (sub_arr rfl (by dsimp only;rw [hT,hs]) (nats_idf _)),trivial⟩,by decide,nz0⟩
    · rw [decide_eq_true hy,Bool.true_and] at hs
      by_cases hm : (j : Int) ∈ walkP s.fl
      · rw [decide_eq_true hm] at hs ch
        rw [if_neg (by decide)] at hs
        repeat' (first|refine wS ?_|refine wB ?_|refine wK ?_|refine wT ?_|refine wU ?_|(refine rg 5 ?_;refine vV (by exact fs_lssT rfl rfl (by omega)) ?_)|(refine rg 6 ?_;refine mV ?_;refine vV (by exact ix T rfl (by omega) (ints_len _) q1) ?_;refine lV T ?_;refine aaV ?_)|(refine rg 7 ?_;refine mV ?_;refine vV (by exact fs_neqT rfl rfl hy) ?_;refine mV ?_;refine gK ?_;refine yM ?_;refine yM ?_;refine yV (by exact kC (ch)) ?_;refine yV (by exact fs_not rfl) ?_;refine pV ?_)|(refine rg 10 ?_;refine vV (by exact fs_addr rfl rfl (by omega) (by omega)) ?_;refine mV ?_)|refine nZ ?_)
        all_goals exact ⟨⟨j + 1,hlt⟩,by dsimp only;omega,[0,1,2],rfl,⟨rfl,rfl,rfl,by dsimp only;rw [hT,hs];rfl,rfl,rfl,rfl,trivial⟩,⟨.inr rfl,.inr (sub_map rfl (by dsimp only;rw [hT,hs]) (by dsimp only;rw [hT,hs]) (z0_idf _)),.inr (sub_arr rfl (by dsimp only;rw [hT,hs]) (nats_idf _)),trivial⟩,by decide,nz0⟩
      · rw [decide_eq_false hm] at hs ch
        rw [if_pos (by decide)] at hs
        repeat' (first|refine wS ?_|refine wB ?_|refine wK ?_|refine wT ?_|(refine rg 5 ?_;refine vV (by exact fs_lssT rfl rfl (by omega)) ?_)|(refine rg 6 ?_;refine mV ?_;refine vV (by exact ix T rfl (by omega) (ints_len _) q1) ?_;refine lV T ?_;refine aaV ?_)|(refine rg 7 ?_;refine mV ?_;refine vV (by exact fs_neqT rfl rfl hy) ?_;refine mV ?_;refine gK ?_;refine yM ?_;refine yM ?_;refine yV (by exact kC (ch)) ?_;refine yV (by exact fs_not rfl) ?_;refine pV ?_)|(refine rg 8 ?_;refine mmV ?_;refine vc_mapNew mapII intK rfl rfl (isv_i _) rfl rfl (dk_good _) (good_i _) hno ?_)|(refine rg 9 ?_;refine mmV ?_;refine vc_n (by exact fs_buildSlice T rfl rfl (by decide) (by decide) rfl rfl rfl) rfl ?_;refine vc_append T rfl rfl rfl rfl rfl rfl (by simp) (Elems.whole rfl rfl) rfl (by simp;omega) (by simp;omega) rfl ?_;refine aV ?_)|(refine rg 10 ?_;refine vV (by exact fs_addr rfl rfl (by omega) (by omega)) ?_;refine mV ?_)|refine nZ ?_)
        all_goals exact ⟨⟨j + 1,hlt⟩,by dsimp only;omega,[0,1,4],rfl,⟨rfl,rfl,rfl,by dsimp only;rw [hT,hs,List.length_append];rfl,rfl,rfl,rfl,trivial⟩,⟨.inr rfl,.inr (sub_map rfl (by dsimp only;rw [hT,hs];simp) (by dsimp only;rw [hT,hs];simp) (z0_idf _)),.inr (sub_arr rfl (by dsimp only;rw [hT,hs];simp;exact List.take_of_length_le (by simp)) (nats_idf _)),trivial⟩,by decide,nz0⟩
  obtain rfl : j = s.fl.k.length := by omega
  repeat' (first|refine wS ?_|refine wB ?_|refine wE ?_|refine wU ?_|(refine rg 5 ?_;refine vV (by exact fs_lssF rfl rfl (by omega)) ?_)|refine nZ ?_)
  -- the search
  have hok : ∀ c,c ∈ srcF s.fl → c < s.fl.k.length ∧ okN s.fl c = true := fun c hc => by
    obtain ⟨h1,h2,_⟩ := src_iff.1 hc
    exact ⟨h1,by unfold okN;exact decide_eq_true h2⟩
  have hsnd := srcK_nd s.fl (walkP s.fl) s.fl.k.length
  obtain ⟨g1,g2,g3⟩ := start_srch (N := s.fl.k.length) (mv := bvN s.fl) (ok := okN s.fl) (srcF s.fl) hsrc
  have hi0 := fromH_inv (N := s.fl.k.length) (mv := bvN s.fl) (ok := okN s.fl) _ (srcF s.fl) rfl hsrc
  have e0 : (fromH (srcF s.fl) (startH s.fl.k.length (okN s.fl))).1 = fromM (srcF s.fl) (startS s.fl.k.length (okN s.fl)) := fromH_1 _ _
  rw [← e0] at g1 g2 g3
  obtain ⟨l1,l2⟩ := from_list (N := s.fl.k.length) (mv := bvN s.fl) (ok := okN s.fl) _ (srcF s.fl) rfl hok hsnd
  have hz := z0_dv (from_zero (N := s.fl.k.length) (mv := bvN s.fl) (ok := okN s.fl) hok hsnd)
  generalize fromH (srcF s.fl) (startH s.fl.k.length (okN s.fl)) = x0 at *
  refine aw_loop (X := {x : SH × List Nat × Nat // Srch s.fl.k.length (bvN s.fl) (okN s.fl) (· ∈ srcF s.fl) x.1.1 ∧ HInv s.fl.k.length x.1 ∧ roomS x.1.1 ≤ x.2.2 ∧ x.2.2 ≤ s.fl.k.length ∧ bfsH (bvN s.fl) x.2.2 x.1 = F ∧ ∀ k, k < s.fl.k.length → x.1.1.out.getD k (-1) + x.2.2 ≤ s.fl.k.length})
    (fun x => [(1,.ptr 0 0),(3,.rowE (ints (walkP s.fl)) 1),(4,.mp 1),(5,.sl 2 x.1.2.1.length x.1.1.1.q.length 1)])
    (fun x => [.cells (sitA s),.mapO (dkA x.1.1.2) (dvA x.1.1.1.out x.1.1.2),.arr (nats (x.1.2.1 ++ x.1.1.1.q)) 1]) (fun x => x.1.2.2) ⟨(x0,[],s.fl.k.length),g1,hi0,g2,Nat.le_refl _,hF0.symm,fun k hk => by have := g3 k hk;dsimp only;omega⟩
    ⟨[0,1,2],rfl,⟨rfl,rfl,rfl,by dsimp only;rw [l2];rfl,trivial⟩,⟨.inr rfl,.inr (sub_map rfl (by dsimp only;rw [l1]) (by dsimp only;rw [l1];exact hz.symm) (dv_idf _ _)),.inr (sub_arr rfl (by dsimp only;rw [l2];rfl) (nats_idf _)),trivial⟩,by decide,nz0⟩ ?_
  clear g1 g2 g3 l1 l2 hz hi0 e0
  rintro ⟨⟨⟨⟨op,out,q⟩,hist⟩,pre,fuel⟩,h1,hh1,h2,h3,h4,h5⟩
  simp only at h1 h2 h3 h4 h5
  dsimp only
  have lu : out.length = s.fl.k.length := h1.inv.lu
  cases q with
  | nil =>
    have e : F = (⟨op,out,[]⟩,hist) := by rw [← h4];cases fuel <;> rfl
    rw [e] at hFo hinv
    dsimp only at hFo hinv
    subst hFo
    have hnd := hinv.nd
    have hmem := hinv.mem
    clear h1 hh1 h2 h3 h4 h5 e
    repeat' (first|refine wS ?_|refine wB ?_|refine wE ?_|refine wU ?_|(refine rg 11 ?_;refine mV ?_;refine qV T ?_;refine vV (by exact fs_gtr rfl rfl) ?_)|(refine rg 22 ?_;refine vc_n (by exact fs_mapNew) rfl ?_;refine aV ?_)|(refine rg 23 ?_;refine mV ?_;refine qV T ?_;refine mV ?_)|refine nZ ?_)
    have hwl : (ints (walkP s.fl)).length = (walkP s.fl).length := ints_length _
    refine aw_loop (X := {j : Nat // j ≤ (walkP s.fl).length}) (fun j => [(1, .ptr 0 0), (4, .mp 1), (13, .mp 2), (95, .rowE (ints (walkP s.fl)) 1), (96, .i (walkP s.fl).length), (97, .i (j.1 : Int))])
      (fun j => [.cells (sitA s),.mapO (dkA hist) (dvA (offO s.fl) hist),.mapO (okA (offL s.fl ((walkP s.fl).take j.1))) (ovA (offL s.fl ((walkP s.fl).take j.1)))]) (fun j => (walkP s.fl).length - j.1) ⟨0,Nat.zero_le _⟩ ⟨[0,1,3],rfl,⟨rfl,rfl,rfl,rfl,congrArg (fun n : Nat => some (AV.i n)) hwl,rfl,trivial⟩,⟨.inr rfl,.inr (sub_map rfl rfl rfl (dv_idf _ _)),.inr (sub_map rfl rfl rfl (ov_idf _)),trivial⟩,by decide,nz0⟩ ?_
    rintro ⟨j,hj⟩
    dsimp only
    by_cases hlt : j < (walkP s.fl).length
    · have htk := List.take_succ_eq_append_getElem hlt
      have q1 : (ints (walkP s.fl))[(j : Int).toNat]? = some [AV.i (walkP s.fl)[j]] := by rw [Int.toNat_natCast];exact ints_get hlt
      have hcr := hWr _ (List.getElem_mem hlt)
      have hcno : (walkP s.fl)[j] ∉ (walkP s.fl).take j := fun hm => by
        obtain ⟨i,hi,he⟩ := List.mem_iff_getElem.1 hm
        rw [List.getElem_take] at he
        rw [List.length_take] at hi
        have := (List.getElem_inj hWn).1 he
        omega
      generalize (walkP s.fl)[j] = x at *
      obtain ⟨c,rfl⟩ := Int.eq_ofNat_of_zero_le hcr.1
      have hc : c < s.fl.k.length := by omega
      have hos := offL_snoc s.fl ((walkP s.fl).take j) (c : Int)
      rw [Int.toNat_natCast] at hos
      have hno := offL_no (f := s.fl) hcno
      by_cases hkn : kn hist (c : Int) = true
      · have hcm : c ∈ hist := by unfold kn at hkn;simpa using (of_decide_eq_true hkn).2
        have h0 := (hmem c hc).1 hcm
        rw [if_pos h0] at hos
        repeat' (first|refine wS ?_|refine wB ?_|refine wK ?_|refine wT ?_|refine wU ?_|(refine rg 24 ?_;refine vV (by exact fs_lssT rfl rfl (by omega)) ?_)|(refine rg 25 ?_;refine vV (by exact ix T rfl (by omega) (ints_len _) q1) ?_;refine lV T ?_;refine aV ?_)|(refine rg 26 ?_;refine mmV ?_;refine vV (by exact fs_dkTO (c := c) hnd hcm rfl rfl rfl) ?_;refine mV ?_;refine xV ?_;refine xV ?_;refine aaV ?_)|(refine rg 27 ?_;refine mV ?_;refine vV (by exact fs_not rfl) ?_)|(refine rg 28 ?_;refine mV ?_;refine vc_n (by exact fs_buildSlice T rfl rfl (by decide) (by decide) rfl rfl rfl) rfl ?_;refine aV ?_)|(refine rg 29 ?_;refine mV ?_;refine aV ?_)|refine nZ ?_)
        refine aw_loop (X := {p : Nat × List Int × Nat // p.1 < s.fl.k.length ∧ offD s.fl p.1 = p.2.2 ∧ p.1 ∈ hist ∧ p.2.1 ++ wayT s.fl (offO s.fl) p.2.2 p.1 = offW s.fl c}) (fun p => [(1, .ptr 0 0), (4, .mp 1), (13, .mp 2), (15, .i (c : Int)), (18, .sl 3 0 p.1.2.1.length 1), (19, .i (p.1.1 : Int)), (95, .rowE (ints (walkP s.fl)) 1), (96, .i (walkP s.fl).length), (97, .i (j : Int))])
          (fun p => [.cells (sitA s),.mapO (dkA hist) (dvA (offO s.fl) hist),.mapO (okA (offL s.fl ((walkP s.fl).take j))) (ovA (offL s.fl ((walkP s.fl).take j))),.arr (ints p.1.2.1) 1]) (fun p => p.1.2.2) ⟨(c,[(c : Int)],(offD s.fl c).toNat),hc,(Int.toNat_of_nonneg h0).symm,hcm,rfl⟩
          ⟨[0,1,2,3],rfl,⟨rfl,rfl,rfl,rfl,rfl,rfl,rfl,rfl,rfl,trivial⟩,⟨.inr rfl,.inr (sub_map rfl rfl rfl (dv_idf _ _)),.inr (sub_map rfl rfl rfl (ov_idf _)),.inr (sub_arr rfl rfl (ints_idf _)),trivial⟩,by decide,nz0⟩ ?_
        rintro ⟨⟨x,d,n⟩,hx,hxd,hxm,hway⟩
        dsimp only at hx hxd hxm hway
        dsimp only
        have hdl : d.length + n = (offD s.fl c).toNat + 1 := by have := congrArg List.length hway;rw [List.length_append,wayT_len,offW_len] at this;exact this
        have hcl := hole c hc
        have hge := (hmem x hx).1 hxm
        cases n with
        | zero =>
          have hde : d = offW s.fl c := by rw [← hway];simp [wayT]
          subst hde
          have hxd : (offO s.fl).getD x (-1) = 0 := hxd
          repeat' (first|refine wS ?_|refine wE ?_|(refine wC rfl (fun hb=>?_) (fun hb=>?_)<;>(((try simp only [nm] at hb);try (exfalso;omega))))|(refine rg 30 ?_;refine mmV ?_;refine vV (by exact fs_dist1O hnd hxm rfl rfl rfl) ?_;refine vV (by exact fs_gtr rfl rfl) ?_)|refine nZ ?_)
          refine aw_frz 18 rfl rfl (by simp) (idfL_flat (ints_idf _)) ?_
          repeat' (first|(refine rg 33 ?_;refine mmV ?_;refine mV ?_;refine vc_mapNew mapIS intK rfl rfl (isv_i _) rfl rfl (ok_good _) (good_i _) hno ?_)|(refine rg 34 ?_;refine vV (by exact fs_addr rfl rfl (by omega) (by omega)) ?_;refine mV ?_)|refine nZ ?_)
          all_goals exact ⟨⟨j + 1,hlt⟩,by dsimp only;omega,[0,1,2],rfl,⟨rfl,rfl,rfl,rfl,rfl,rfl,trivial⟩,⟨.inr rfl,.inr (sub_map rfl rfl rfl (dv_idf _ _)),.inr (sub_map rfl (by dsimp only;rw [htk,hos];simp) (by dsimp only;rw [htk,hos];simp) (ov_idf _)),trivial⟩,by decide,nz0⟩
        | succ n =>
          have hxd : (offO s.fl).getD x (-1) = ((n + 1 : Nat) : Int) := hxd
          obtain ⟨y1,y2,_⟩ := down_near g hfar (c := x) hx (by show 0 < (offO s.fl).getD x (-1);omega)
          have hdw := down_c s g (out := offO s.fl) hnd hmem hole hx hxm
          have hym : downN s.fl (offO s.fl) x ∈ hist := (hmem _ y1).2 (by rw [y2];omega)
          have hwt : wayT s.fl (offO s.fl) (n + 1) x = (downN s.fl (offO s.fl) x : Int) :: wayT s.fl (offO s.fl) n (downN s.fl (offO s.fl) x) := rfl
          rw [hwt] at hway
          generalize downN s.fl (offO s.fl) x = y at *
          repeat' (first|refine wS ?_|refine wB ?_|refine wK ?_|(refine wC rfl (fun hb=>?_) (fun hb=>?_)<;>(((try simp only [nm] at hb);try (exfalso;omega))))|(refine rg 30 ?_;refine mmV ?_;refine vV (by exact fs_dist1O hnd hxm rfl rfl rfl) ?_;refine vV (by exact fs_gtr rfl rfl) ?_)|(refine rg 32 ?_;refine lV T ?_;refine mmV ?_;refine vV (by exact fs_callb0 rfl rfl hdw (.cons (.agg (by repeat (first|exact .nil|exact .v _|exact .row _ _ _|refine .cons ?_ ?_))) (.cons (.mp rfl (dv_view _ _)) (.cons (.v _) .nil))) rfl rfl) ?_;(all_goals (refine aV ?_)))|(refine rg 31 ?_;refine mmV ?_;refine vc_n (by exact fs_buildSlice T rfl rfl (by decide) (by decide) rfl rfl rfl) rfl ?_;refine vc_append T rfl rfl rfl rfl rfl rfl (by simp) (Elems.whole rfl rfl) rfl (by simp;omega) (by simp;omega) rfl ?_;refine aV ?_)|refine nZ ?_)
          all_goals exact ⟨⟨(y,d ++ [(y : Int)],n),y1,by dsimp only;show (offO s.fl).getD y (-1) = _;rw [y2,hxd];omega,hym,by dsimp only;rw [List.append_assoc];exact hway⟩,by dsimp only;omega,[0,1,2,5],rfl,⟨rfl,rfl,rfl,rfl,by dsimp only;rw [List.length_append];rfl,rfl,rfl,rfl,rfl,trivial⟩,⟨.inr rfl,.inr (sub_map rfl rfl rfl (dv_idf _ _)),.inr (sub_map rfl rfl rfl (ov_idf _)),.inr (sub_arr rfl ints_app (ints_idf _)),trivial⟩,by decide,nz0⟩
      · have hkn : kn hist (c : Int) = false := by simpa using hkn
        have hcm : c ∉ hist := by unfold kn at hkn;simpa using of_decide_eq_false hkn
        have hci : kI (c : Int) ∉ dkA hist := dk_no fun c' e hm' => hcm (by rw [show c = c' by omega];exact hm')
        rw [if_neg (fun q => hcm ((hmem c hc).2 q))] at hos
        repeat' (first|refine wS ?_|refine wB ?_|refine wK ?_|refine wE ?_|refine wT ?_|(refine rg 24 ?_;refine vV (by exact fs_lssT rfl rfl (by omega)) ?_)|(refine rg 25 ?_;refine vV (by exact ix T rfl (by omega) (ints_len _) q1) ?_;refine lV T ?_;refine aV ?_)|(refine rg 26 ?_;refine mmV ?_;refine vV (by exact fs_dkFO (c := (c : Int)) hci rfl rfl rfl) ?_;refine mV ?_;refine xV ?_;refine xV ?_;refine aaV ?_)|(refine rg 27 ?_;refine mV ?_;refine vV (by exact fs_not rfl) ?_)|(refine rg 34 ?_;refine vV (by exact fs_addr rfl rfl (by omega) (by omega)) ?_;refine mV ?_)|refine nZ ?_)
        all_goals exact ⟨⟨j + 1,hlt⟩,by dsimp only;omega,[0,1,2],rfl,⟨rfl,rfl,rfl,rfl,rfl,rfl,trivial⟩,⟨.inr rfl,.inr (sub_map rfl rfl rfl (dv_idf _ _)),.inr (sub_map rfl (by dsimp only;rw [htk,hos]) (by dsimp only;rw [htk,hos]) (ov_idf _)),trivial⟩,by decide,nz0⟩
    · obtain rfl : j = (walkP s.fl).length := by omega
      rw [List.take_length]
      repeat' (first|refine wS ?_|refine wR ?_|refine wE ?_|refine wU ?_|(refine rg 24 ?_;refine vV (by exact fs_lssF rfl rfl (by omega)) ?_)|(refine rg 35 ?_;refine mV ?_;refine aV ?_)|refine nZ ?_)
      all_goals exact ⟨.inl rfl,[2],_,rfl,rfl,rfl,⟨.inr (sub_map rfl rfl rfl (ov_idf _)),trivial⟩,by decide,nz0⟩
  | cons c r' =>
    have hcr : (c :: r').length = r'.length + 1 := rfl
    have hrm : roomS ⟨op,out,c :: r'⟩ = roomS ⟨op,out,r'⟩ + 1 := by unfold roomS;simp;omega
    obtain ⟨k,rfl⟩ : ∃ k,fuel = k + 1 := ⟨fuel - 1,by omega⟩
    have m0 := h1.pop rfl
    have hc := m0.hc
    repeat' (first|refine wS ?_|refine wB ?_|refine wK ?_|(refine wC rfl (fun hb=>?_) (fun hb=>?_)<;>(((try simp only [nm] at hb);try (exfalso;omega))))|(refine rg 11 ?_;refine mV ?_;refine qV T ?_;refine vV (by exact fs_gtr rfl rfl) ?_)|(refine rg 13 ?_;refine mV ?_)|refine nZ ?_)
    refine aw_loop (X := {x : SH × List Nat × Nat // Mid s.fl.k.length (bvN s.fl) (okN s.fl) (· ∈ srcF s.fl) c x.2.2 x.1.1 ∧ HInv s.fl.k.length x.1 ∧ x.2.2 ≤ 6 ∧ (List.range' x.2.2 (6 - x.2.2)).foldl (tryH (bvN s.fl) c) x.1 = expandH (bvN s.fl) c (⟨op, out, r'⟩, hist) ∧ roomS x.1.1 ≤ k ∧ (∀ y, y < s.fl.k.length → x.1.1.out.getD y (-1) ≤ s.fl.k.length - k) ∧ x.1.1.out.getD c (-1) + 1 ≤ s.fl.k.length - k})
      (fun x => [(1,.ptr 0 0),(3,.rowE (ints (walkP s.fl)) 1),(4,.mp 1),(5,.sl 2 x.1.2.1.length (c :: x.1.1.1.q).length 1),(52,.i x.1.2.2)])
      (fun x => [.cells (sitA s),.mapO (dkA x.1.1.2) (dvA x.1.1.1.out x.1.1.2),.arr (nats (x.1.2.1 ++ c :: x.1.1.1.q)) 1]) (fun x => 6 - x.1.2.2) ⟨((⟨op,out,r'⟩,hist),pre,0),m0,⟨hh1.nd,hh1.lt,hh1.mem⟩,Nat.zero_le _,by unfold expandH;rw [List.range_eq_range'] <;> rfl,by dsimp only;omega,fun y hy => by have := h5 y hy;dsimp only;omega,by have := h5 c hc;dsimp only;omega⟩
      ⟨[0,1,2],rfl,⟨rfl,rfl,rfl,rfl,rfl,trivial⟩,⟨.inr rfl,.inr (sub_map rfl rfl rfl (dv_idf _ _)),.inr (sub_arr rfl rfl (nats_idf _)),trivial⟩,by decide,nz0⟩ ?_
    rintro ⟨⟨⟨⟨op',out',q'⟩,hist'⟩,pre',d⟩,m1,hm1,m2,m3,m4,m5,m6⟩
    simp only at m1 m2 m3 m4 m5 m6
    dsimp only
    have lu' : out'.length = s.fl.k.length := m1.inv.lu
    have m0' : 0 ≤ out'.getD c (-1) := m1.h0
    have hq : q'.length ≤ 300 := by unfold roomS at m4;simp only at m4;omega
    have hnd' := hm1.nd
    have e1 : (nats (pre' ++ c :: q'))[pre'.length + (0 : Int).toNat]? = some [AV.i (c : Int)] := by simp
    by_cases hd : d < 6
    · have hcm := back_n g c d
      have hcmm := (hm1.mem c hc).2 m0'
      have n1 := m1.next (bvN_lt g) hd
      obtain ⟨n2,n3⟩ := m1.bound (bvN_lt g) m5 m6
      have n4 : (List.range' (d + 1) (6 - (d + 1))).foldl (tryH (bvN s.fl) c) (tryH (bvN s.fl) c (⟨op',out',q'⟩,hist') d) = expandH (bvN s.fl) c (⟨op,out,r'⟩,hist) := by
        rw [← m3,show 6 - d = (6 - (d + 1)) + 1 by omega,List.range'_succ,List.foldl_cons]
      have n5 : roomS (tryM (bvN s.fl) c ⟨op',out',q'⟩ d) ≤ k := by rw [room_try];exact m4
      have n6 : (tryM (bvN s.fl) c ⟨op',out',q'⟩ d).out.getD c (-1) + 1 ≤ s.fl.k.length - k := by rw [n3];exact m6
      have nh : HInv s.fl.k.length (tryH (bvN s.fl) c (⟨op',out',q'⟩,hist') d) := by
        unfold tryH
        cases hm : bvN s.fl c d with
        | none => exact hm1
        | some n =>
          have hn := bvN_lt g c d n hc hm
          exact hm1.reach hn lu' (by dsimp only;omega) (fun ho => ((m1.inv.opn n hn).1 ho).2)
      have nx : ∀ s',tryH (bvN s.fl) c (⟨op',out',q'⟩,hist') d = s' → Mid s.fl.k.length (bvN s.fl) (okN s.fl) (· ∈ srcF s.fl) c (d + 1) s'.1 ∧ HInv s.fl.k.length s' ∧ d + 1 ≤ 6 ∧ (List.range' (d + 1) (6 - (d + 1))).foldl (tryH (bvN s.fl) c) s' = expandH (bvN s.fl) c (⟨op,out,r'⟩,hist) ∧ roomS s'.1 ≤ k ∧ (∀ y,y < s.fl.k.length → s'.1.out.getD y (-1) ≤ s.fl.k.length - k) ∧ s'.1.out.getD c (-1) + 1 ≤ s.fl.k.length - k := by
        rintro s' rfl
        have e : (tryH (bvN s.fl) c (⟨op',out',q'⟩,hist') d).1 = tryM (bvN s.fl) c ⟨op',out',q'⟩ d := tryH_1
        rw [e]
        exact ⟨n1,nh,hd,n4,n5,n2,n6⟩
      clear nh n1 n2 n3 n4 n5 n6
      unfold tryH at nx
      cases hm : bvN s.fl c d with
      | none =>
        rw [hm] at hcm nx
        repeat' (first|refine wS ?_|refine wB ?_|refine wK ?_|refine wT ?_|refine wU ?_|(refine rg 14 ?_;refine vV (by exact fs_lssT rfl rfl (by omega)) ?_)|(refine rg 15 ?_;refine mV ?_;refine aV ?_)|(refine aw_draw2k (id := 16) 129 [[],[0],[],[2],[2,3],[],[0,1,2,3,4,5],[0,1,2,3,4,5,6],[0,1,2,3,4,5,6,7],[0,1,2,3,4,5,6,7],[0,1,2,3,4,5,6,7,8]] [56,57,58,59,60,61,62,55,63,64,9] [[],[],[56,57],[56,57],[56,57],[56,57,58,59,60],[],[],[],[63],[64]] mixedP rfl (by decide +kernel) ?_;refine dF T ?_;refine dL T ?_;refine dM ?_;refine dV rfl (by exact fs_indexOwn T rfl rfl rfl rfl rfl (by omega) (by simp)) ?_;refine dV rfl (by exact fs_load T rfl rfl (behind_ep rfl e1) rfl) ?_;refine dM ?_;refine dV rfl (by exact kC (hcm)) ?_;refine dM ?_;refine dV rfl (by exact fs_extract rfl rfl) ?_;refine dV rfl (by exact fs_extract rfl rfl) ?_;refine dV rfl (by exact fs_assign rfl) ?_;refine dw_fin rfl rfl (by ((dsimp only [ln1,ln2,List.append_nil,ln4,ln5,ln6,ln7,ln8,ln9,putAt,putd,allObjs,argEnv,un_v,un_ptr,un_ep,un_pr,un_sl,un_mp,un_row,un_agg,un_tup,un_clo,Nat.zero_add,lnb,Nat.reduceAdd,lnc,lnd];done))) ?_;refine aV ?_)|(refine rg 17 ?_;refine mmV ?_;refine vV (by exact fs_distO hnd' rfl rfl rfl) ?_;refine mV ?_;refine xV ?_;refine xV ?_;refine aaV ?_)|(refine rg 18 ?_;refine mmV ?_;refine gK ?_;(iterate 2 refine gF ?_);refine pV ?_;refine mV ?_;refine gK ?_;(iterate 3 refine gF ?_);refine pV ?_)|(refine rg 21 ?_;refine vV (by exact fs_addr rfl rfl (by omega) (by omega)) ?_;refine mV ?_)|refine nZ ?_)
        all_goals exact ⟨⟨((⟨op',out',q'⟩,hist'),pre',d + 1),nx _ rfl⟩,by dsimp only;omega,[0,1,2],rfl,(by (repeat (first | exact trivial | refine ⟨rfl,?_⟩))),⟨.inr rfl,.inr (sub_map rfl rfl rfl (dv_idf _ _)),.inr (sub_arr rfl rfl (nats_idf _)),trivial⟩,by decide,nz0⟩
      | some n =>
        have hn := bvN_lt g c d n hc hm
        have hokn : okN s.fl n = true := by unfold okN;exact decide_eq_true (bv_wall g hm)
        have hopn := m1.inv.opn n hn
        have hmemn := hm1.mem n hn
        simp only at hopn hmemn
        rw [hm] at hcm nx
        simp only at nx
        unfold reachH at nx
        by_cases hkn : kn hist' (n : Int) = true
        · have hnm : n ∈ hist' := by unfold kn at hkn;simpa using (of_decide_eq_true hkn).2
          have hop : op'.getD n false = false := by
            cases hop : op'.getD n false with
            | false => rfl
            | true => have := (hopn.1 hop).2;have := hmemn.1 hnm;omega
          rw [if_neg (by simp only;rw [hop];decide)] at nx
          repeat' (first|refine wS ?_|refine wB ?_|refine wK ?_|refine wT ?_|refine wU ?_|(refine rg 14 ?_;refine vV (by exact fs_lssT rfl rfl (by omega)) ?_)|(refine rg 15 ?_;refine mV ?_;refine aV ?_)|(refine aw_draw2k (id := 16) 129 [[],[0],[],[2],[2,3],[],[0,1,2,3,4,5],[0,1,2,3,4,5,6],[0,1,2,3,4,5,6,7],[0,1,2,3,4,5,6,7],[0,1,2,3,4,5,6,7,8]] [56,57,58,59,60,61,62,55,63,64,9] [[],[],[56,57],[56,57],[56,57],[56,57,58,59,60],[],[],[],[63],[64]] mixedP rfl (by decide +kernel) ?_;refine dF T ?_;refine dL T ?_;refine dM ?_;refine dV rfl (by exact fs_indexOwn T rfl rfl rfl rfl rfl (by omega) (by simp)) ?_;refine dV rfl (by exact fs_load T rfl rfl (behind_ep rfl e1) rfl) ?_;refine dM ?_;refine dV rfl (by exact kC (hcm)) ?_;refine dM ?_;refine dV rfl (by exact fs_extract rfl rfl) ?_;refine dV rfl (by exact fs_extract rfl rfl) ?_;refine dV rfl (by exact fs_assign rfl) ?_;refine dw_fin rfl rfl (by ((dsimp only [ln1,ln2,List.append_nil,ln4,ln5,ln6,ln7,ln8,ln9,putAt,putd,allObjs,argEnv,un_v,un_ptr,un_ep,un_pr,un_sl,un_mp,un_row,un_agg,un_tup,un_clo,Nat.zero_add,lnb,Nat.reduceAdd,lnc,lnd];done))) ?_;refine aV ?_)|(refine rg 17 ?_;refine mmV ?_;refine vV (by exact fs_dkTO (c := n) hnd' hnm rfl rfl rfl) ?_;refine mV ?_;refine xV ?_;refine xV ?_;refine aaV ?_)|(refine rg 18 ?_;refine mmV ?_;refine gK ?_;refine yM ?_;refine yV (by exact fs_not rfl) ?_;refine pV ?_;refine mV ?_;refine gK ?_;(iterate 3 refine gF ?_);refine pV ?_)|(refine rg 21 ?_;refine vV (by exact fs_addr rfl rfl (by omega) (by omega)) ?_;refine mV ?_)|refine nZ ?_)
          all_goals exact ⟨⟨((⟨op',out',q'⟩,hist'),pre',d + 1),nx _ rfl⟩,by dsimp only;omega,[0,1,2],rfl,(by (repeat (first | exact trivial | refine ⟨rfl,?_⟩))),⟨.inr rfl,.inr (sub_map rfl rfl rfl (dv_idf _ _)),.inr (sub_arr rfl rfl (nats_idf _)),trivial⟩,by decide,nz0⟩
        · have hkn : kn hist' (n : Int) = false := by simpa using hkn
          have hnm : n ∉ hist' := by unfold kn at hkn;simpa using of_decide_eq_false hkn
          have hlt0 : out'.getD n (-1) < 0 := by have : ¬ 0 ≤ out'.getD n (-1) := fun q => hnm (hmemn.2 q);omega
          have hop : op'.getD n false = true := hopn.2 ⟨hokn,hlt0⟩
          rw [if_pos hop] at nx
          have hnW : (n : Int) ∈ walkP s.fl := by
            by_cases q : (n : Int) ∈ walkP s.fl
            · exact q
            · exfalso
              have hw : wkB s.fl n = false := by
                cases h : wkB s.fl n with
                | false => rfl
                | true => exact absurd (mem_walk.2 ⟨by omega,by omega,by rw [Int.toNat_natCast];exact h⟩) q
              have : out'.getD n (-1) = 0 := m1.all n hn hokn (src_iff.2 ⟨hn,bv_wall g hm,hw⟩)
              omega
          have ch := rhas_c (walkP s.fl) (n : Int) hWa (by omega)
          rw [decide_eq_true hnW] at ch
          have hni : kI (n : Int) ∉ dkA hist' := dk_no fun c' e hm' => hnm (by rw [show n = c' by omega];exact hm')
          have hdv := dv_snoc (out := out') (v := out'.getD c (-1) + 1) hnm (by omega)
          repeat' (first|refine wS ?_|refine wB ?_|refine wK ?_|refine wT ?_|(refine rg 14 ?_;refine vV (by exact fs_lssT rfl rfl (by omega)) ?_)|(refine rg 15 ?_;refine mV ?_;refine aV ?_)|(refine aw_draw2k (id := 16) 129 [[],[0],[],[2],[2,3],[],[0,1,2,3,4,5],[0,1,2,3,4,5,6],[0,1,2,3,4,5,6,7],[0,1,2,3,4,5,6,7],[0,1,2,3,4,5,6,7,8]] [56,57,58,59,60,61,62,55,63,64,9] [[],[],[56,57],[56,57],[56,57],[56,57,58,59,60],[],[],[],[63],[64]] mixedP rfl (by decide +kernel) ?_;refine dF T ?_;refine dL T ?_;refine dM ?_;refine dV rfl (by exact fs_indexOwn T rfl rfl rfl rfl rfl (by omega) (by simp)) ?_;refine dV rfl (by exact fs_load T rfl rfl (behind_ep rfl e1) rfl) ?_;refine dM ?_;refine dV rfl (by exact kC (hcm)) ?_;refine dM ?_;refine dV rfl (by exact fs_extract rfl rfl) ?_;refine dV rfl (by exact fs_extract rfl rfl) ?_;refine dV rfl (by exact fs_assign rfl) ?_;refine dw_fin rfl rfl (by ((dsimp only [ln1,ln2,List.append_nil,ln4,ln5,ln6,ln7,ln8,ln9,putAt,putd,allObjs,argEnv,un_v,un_ptr,un_ep,un_pr,un_sl,un_mp,un_row,un_agg,un_tup,un_clo,Nat.zero_add,lnb,Nat.reduceAdd,lnc,lnd];done))) ?_;refine aV ?_)|(refine rg 17 ?_;refine mmV ?_;refine vV (by exact fs_dkFO (c := (n : Int)) hni rfl rfl rfl) ?_;refine mV ?_;refine xV ?_;refine xV ?_;refine aaV ?_)|(refine rg 18 ?_;refine mmV ?_;refine gK ?_;refine yM ?_;refine yV (by exact fs_not rfl) ?_;refine pV ?_;refine mV ?_;refine gK ?_;refine yM ?_;refine yM ?_;refine yV (by exact kC (ch)) ?_;refine pV ?_)|(refine rg 19 ?_;refine mmV ?_;refine mmV ?_;refine vV (by exact fs_indexOwn T rfl rfl rfl rfl rfl (by omega) (by simp)) ?_;refine vV (by exact fs_load T rfl rfl (behind_ep rfl e1) rfl) ?_;refine vV (by exact fs_dist1O hnd' hcmm rfl rfl rfl) ?_;refine vV (by exact fs_addr rfl rfl (by omega) (by omega)) ?_;refine vc_mapNew mapII intK rfl rfl (isv_i _) rfl rfl (dk_good _) (good_i _) hni ?_)|(refine rg 20 ?_;refine mmV ?_;refine vc_n (by exact fs_buildSlice T rfl rfl (by decide) (by decide) rfl rfl rfl) rfl ?_;refine vc_append T rfl rfl rfl rfl rfl rfl (by simp) (Elems.whole rfl rfl) rfl (by simp;omega) (by simp;omega) rfl ?_;refine aV ?_)|(refine rg 21 ?_;refine vV (by exact fs_addr rfl rfl (by omega) (by omega)) ?_;refine mV ?_)|refine nZ ?_)
          all_goals exact ⟨⟨((⟨op'.set n false,out'.set n (out'.getD c (-1) + 1),q' ++ [n]⟩,hist' ++ [n]),[],d + 1),nx _ rfl⟩,by dsimp only;omega,[0,1,4],rfl,⟨rfl,rfl,rfl,(by simp only [List.length_cons,List.length_append,List.length_nil];rfl),rfl,trivial⟩,⟨.inr rfl,.inr (sub_map rfl dk_snoc hdv (dv_idf _ _)),.inr (sub_arr rfl nats_app2 (nats_idf _)),trivial⟩,by decide,nz0⟩
    · obtain rfl : d = 6 := by omega
      have m3 : ((⟨op',out',q'⟩,hist') : SH) = expandH (bvN s.fl) c (⟨op,out,r'⟩,hist) := m3
      have h4 : bfsH (bvN s.fl) k (expandH (bvN s.fl) c (⟨op,out,r'⟩,hist)) = F := h4
      repeat' (first|refine wS ?_|refine wE ?_|refine wU ?_|(refine rg 14 ?_;refine vV (by exact fs_lssF rfl rfl (by omega)) ?_)|(refine rg 12 ?_;refine mV ?_;refine vV (by exact fs_sliceOwn T rfl rfl rfl rfl rfl rfl (by omega) (by omega) (by omega)) ?_;refine aV ?_)|refine nZ ?_)
      all_goals exact ⟨⟨((⟨op',out',q'⟩,hist'),pre' ++ [c],k),m1.end,hm1,m4,by dsimp only;omega,by dsimp only;rw [m3];exact h4,fun y hy => by have := m5 y hy;dsimp only;omega⟩,by dsimp only;omega,[0,1,2],rfl,⟨rfl,rfl,rfl,(show some (AV.sl 2 (pre'.length + (1 : Int).toNat) (((q'.length + 1 : Nat) : Int) - 1).toNat 1) = some (AV.sl 2 (pre' ++ [c]).length q'.length 1) by rw [show pre'.length + (1 : Int).toNat = (pre' ++ [c]).length by simp,show (((q'.length + 1 : Nat) : Int) - 1).toNat = q'.length by omega]),trivial⟩,⟨.inr rfl,.inr (sub_map rfl rfl rfl (dv_idf _ _)),.inr (sub_arr rfl (by simp) (nats_idf _)),trivial⟩,by decide,nz0⟩
end Go.Proofs.YtdmajnjoeidgeaaGreat
namespace Go.Ab
open Go
theorem pcall_view {P : Program} {f : FuncId} {args : List AV} {Φ : AV → Hp → Prop} {Ψ : AV → Prop} (h : PCall P f args [] Φ) (hv : ∀ r o,Φ r o → ∃ r',View o r r' ∧ Ψ r') : PCall P f args [] (fun r o => o = [] ∧ Ψ r) := by
  refine ⟨h.1,fun ρ S w vs hs ha => (h.2 ρ S w vs hs ha).mono ?_⟩
  rintro e w' ⟨r,o,hΦ,y,ρ',S',rfl,h2,h3⟩
  obtain ⟨r',hv',hψ⟩ := hv _ _ hΦ
  exact ⟨r',[],⟨rfl,hψ⟩,y,_,_,rfl,h2.view rfl,view_val h2.blk hv' h3⟩
end Go.Ab
namespace Go.Proofs.YtdmajnjoeidgeaaGreat
open Go Go.Ab Go.Fl Go.Re Go.Ln Go.MapKept
attribute [local irreducible] VC AW FStep ACall PCall AStep
set_option maxHeartbeats 4000000
def atD {α : Type} (L : List α) (d : List Nat) : List α := d.filterMap fun i => L[i]?
theorem atD_snoc {α : Type} {L : List α} {d : List Nat} {i : Nat} {e : α} (h : L[i]? = some e) : atD L (d ++ [i]) = atD L d ++ [e] := by
  unfold atD;rw [List.filterMap_append];simp [h]
theorem atD_all {α : Type} {L : List α} {d : List Nat} (hd : d.Nodup) (hlt : ∀ i,i ∈ d → i < L.length) (hall : ∀ i,i < L.length → i ∈ d) : (atD L d).Perm L := by
  have hp : d.Perm (List.range L.length) := (List.perm_ext_iff_of_nodup hd List.nodup_range).2 fun i => by
    rw [List.mem_range];exact ⟨hlt i,hall i⟩
  have h1 := hp.filterMap fun i => L[i]?
  have h2 : (List.range L.length).filterMap (fun i => L[i]?) = L := by
    have key : ∀ n,n ≤ L.length → (List.range n).filterMap (fun i => L[i]?) = L.take n := by
      intro n
      induction n with
      | zero => intro _;simp
      | succ n ih =>
        intro hn
        rw [List.range_succ,List.filterMap_append,ih (by omega),List.take_succ_eq_append_getElem (by omega : n < L.length)]
        simp [List.getElem?_eq_getElem (by omega : n < L.length)]
    rw [key _ (Nat.le_refl _),List.take_length]
  rw [h2] at h1
  exact h1
theorem zSl : ∀ w,(zeroValue 22).run Tryz.prog w = .ok (.slice none 0 0) w := zero_run (by kernel_rfl)
theorem zSlA (S : Nat → Prop) (w : World) (ρ : Pl) : R S w .nils ρ (.slice none 0 0) := by simp [R]
theorem sub_mapBe {h : Hp} {i : Nat} {θ : Nat → Nat} {ks : List Value} {vs vs' : List AV} {bs : List Nat} {ck : Nat} (hk : h[i]? = some (.mapB ks vs' bs ck)) (e : vs' = vs) (hi : AV.idfL vs = true) : h[i]? = some ((AB.mapB ks vs bs ck).map θ) := by
  subst e;exact sub_mapB hk hi
def mxD (L : List (Int × List Int)) (d : List Nat) : Int := (atD L d).foldl mxL 0
theorem mxD_snoc {L : List (Int × List Int)} {d : List Nat} {i : Nat} {e : Int × List Int} (h : L[i]? = some e) : mxD L (d ++ [i]) = max (mxD L d) ((e.2.length : Int) - 1) := by
  unfold mxD;rw [atD_snoc h,List.foldl_append];rfl
theorem mx_le {b : Int} : ∀ {L : List (Int × List Int)} {n : Int}, n ≤ b → (∀ e, e ∈ L → (e.2.length : Int) - 1 ≤ b) → n ≤ L.foldl mxL n ∧ L.foldl mxL n ≤ b
  | [],n,h,_ => ⟨Int.le_refl _,h⟩
  | e :: L,n,h,hl => by
    have h1 := hl e List.mem_cons_self
    rw [List.foldl_cons]
    obtain ⟨a,c⟩ := mx_le (L := L) (n := mxL n e) (b := b) (by unfold mxL;omega) fun x hx => hl x (.tail _ hx)
    have hm : n ≤ mxL n e := by unfold mxL;omega
    exact ⟨Int.le_trans hm a,c⟩
theorem mxD_all {L : List (Int × List Int)} {d : List Nat} (hd : d.Nodup) (hlt : ∀ i,i ∈ d → i < L.length) (hall : ∀ i,i < L.length → i ∈ d) : mxD L d = L.foldl mxL 0 :=
  (atD_all hd hlt hall).foldl_eq' (fun x _ y _ z => by unfold mxL;omega) 0
theorem bound_c (s : Sit) (g : Fine s.fl) : ACall Tryz.prog 32 [.agg (sitA s)] [] (.i (boundP s.fl)) [] := by
  have hN := g.le
  have hb := g.bounds
  have ho := offs_c s g
  have hll : ∀ e,e ∈ offL s.fl (walkP s.fl) → (e.2.length : Int) ≤ s.fl.k.length + 1 := fun e he => by
    obtain ⟨h1,h2,h3⟩ := mem_offL.1 he
    obtain ⟨w1,w2,_⟩ := mem_walk.1 h1
    have := off_le g e.1.toNat (by omega)
    rw [h3,offW_len];omega
  unfold boundP
  generalize offL s.fl (walkP s.fl) = L at *
  refine acall T Tryz.func32 rfl rfl rfl rfl ?_
  repeat' (first|refine wS ?_|refine wB ?_|(refine rg 0 ?_;refine vc_n (by exact fs_box rfl rfl) rfl ?_;refine aV ?_)|(refine rg 1 ?_;refine aV ?_)|(refine rg 2 ?_;refine lV T ?_;refine vc_n (by exact fs_call rfl rfl ho (.inr ⟨rfl,rfl,by simp⟩)) rfl ?_;refine vc_mapOpen 1 rfl fun bs ck hb1' hb2' hb3' hb4'=>?_;refine vc_n (by exact fs_range mapIS rfl rfl) rfl ?_)|refine nZ ?_)
  have hbl : bs.length = L.length := by rw [hb1'];simp
  refine aw_loop (X := {d : List Nat // d.Nodup ∧ ∀ i,i ∈ d → i < L.length}) (fun d => [(3,.i (mxD L d.1)),(8,.ptr 2 0)]) (fun d => [.cells (sitA s),.mapB (okA L) (ovA L) bs ck,.iter 1 ck (seenB bs d.1) ck]) (fun d => L.length - d.1.length) ⟨[],List.nodup_nil,fun i hi => by cases hi⟩ ⟨[0,1,2],rfl,(by (repeat (first | exact trivial | refine ⟨rfl,?_⟩))),⟨.inr rfl,.inr (sub_mapBe rfl (mapL_idf _ _ (ov_idf _)) (ov_idf _)),.inr rfl,trivial⟩,by decide,lt0 _⟩ ?_
  rintro ⟨d,hnd,hlt⟩
  dsimp only
  have hdl := nodup_le hnd hlt
  repeat' (first|refine wS ?_|refine wB ?_|refine wK ?_|refine wE ?_|refine wT ?_|refine wU ?_|(refine rg 3 ?_;refine vc_next rfl rfl rfl hb4' (Nat.le_refl _) rfl (fun hend=>vc_mapShut 1 rfl ?_) (fun i kv v b g1 g1' g2 g3=>?_);(all_goals (refine xV ?_)))|refine nZ ?_)
  · have hall := seen_all hb3' (by rw [hbl];exact hlt) hend
    rw [hbl] at hall
    have hmx := mxD_all hnd hlt hall
    rw [hmx]
    repeat' (first|refine wR ?_|(refine rg 6 ?_;refine mV ?_;refine aV ?_)|refine nZ ?_)
    all_goals exact rQ
  · rw [List.getElem?_map] at g1
    obtain ⟨⟨c,w⟩,hac,rfl⟩ := Option.map_eq_some_iff.1 g1
    have hv : v = .rowE (ints w) 1 := by rw [List.getElem?_map,hac] at g1';simpa using g1'.symm
    subst hv
    have k1 : (okA L)[i]? = some (kI c) := by simp [hac]
    have k2 : (ovA L)[i]? = some (.rowE (ints w) 1) := by simp [hac]
    have hnew := seen_not g2 g3
    have hil := (List.getElem?_eq_some_iff.1 hac).1
    have hsn := seen_snoc (d := d) g2
    have hd' : (d ++ [i]).Nodup ∧ ∀ j,j ∈ d ++ [i] → j < L.length := ⟨nodup_snoc hnd hnew,fun j hj => (List.mem_append.1 hj).elim (hlt j) (fun e => by simp at e;rw [e];exact hil)⟩
    have hdl2 := nodup_le hd'.1 hd'.2
    rw [List.length_append,List.length_singleton] at hdl2
    have hwl := hll _ (List.mem_of_getElem? hac)
    dsimp only at hwl
    have hms := mxD_snoc (d := d) hac
    dsimp only at hms
    have hil2 : (ints w).length = w.length := ints_length _
    generalize hT1 : mxD L (d ++ [i]) = T1 at *
    generalize mxD L d = T0 at *
    repeat' (first|(refine rg 4 ?_;refine vc_n (by exact fs_entry rfl rfl rfl rfl g2 k1 k2) rfl ?_;refine xV ?_;refine aV ?_)|(refine rg 5 ?_;refine mmV ?_;refine qV T ?_;refine vV (by exact fs_subr rfl rfl (by omega) (by omega)) ?_;refine vV (by exact fs_max rfl rfl) ?_;refine aV ?_)|refine nZ ?_)
    all_goals exact ⟨⟨d ++ [i],hd'⟩,by dsimp only;rw [List.length_append,List.length_singleton];omega,[0,1,2],rfl,⟨by dsimp only;rw [hT1,hms,← hil2];rfl,rfl,trivial⟩,⟨.inr rfl,.inr (sub_mapB rfl (ov_idf _)),.inr (sub_iter rfl hsn),trivial⟩,by decide,lt0 _⟩
theorem off_c (s : Sit) (g : Fine s.fl) (c : Int) (hc : rngI c) : ACall Tryz.prog 10 [.agg (sitA s),.i c] [] (.rowE (ints (offR s.fl c)) 1) [] := by
  have ho := offs_c s g
  have hnd := offL_nd (f := s.fl) ((walk_asc s.fl).imp (fun h => by omega) : (walkP s.fl).Nodup)
  unfold offR
  by_cases h : c ∈ walkP s.fl ∧ 0 ≤ offD s.fl c.toNat
  · rw [if_pos h]
    obtain ⟨i,hi⟩ := List.mem_iff_getElem?.1 (mem_offL.2 ⟨h.1,h.2,rfl⟩ : (c,offW s.fl c.toNat) ∈ offL s.fl (walkP s.fl))
    have k1 : (okA (offL s.fl (walkP s.fl)))[i]? = some (kI c) := by simp [hi]
    have k2 : (ovA (offL s.fl (walkP s.fl)))[i]? = some (.rowE (ints (offW s.fl c.toNat)) 1) := by simp [hi]
    refine acall T Tryz.func10 rfl rfl rfl rfl ?_
    repeat' (first|refine wS ?_|refine wR ?_|(refine rg 0 ?_;refine vc_n (by exact fs_box rfl rfl) rfl ?_;refine aV ?_)|(refine rg 1 ?_;refine lV T ?_;refine vc_n (by exact fs_call rfl rfl ho (.inr ⟨rfl,rfl,by simp⟩)) rfl ?_;refine mV ?_;refine vV (by exact fs_mapGet1 mapIS intK rfl rfl (isv_i _) rfl (ok_good _) (good_i _) hnd k1 (by rw [mapL_idf _ _ (ov_idf _)];exact k2)) ?_;refine aV ?_)|refine nZ ?_)
    all_goals exact rQ
  · rw [if_neg h]
    have hno : kI c ∉ okA (offL s.fl (walkP s.fl)) := fun hm => by
      obtain ⟨e,he,q⟩ := List.mem_map.1 hm
      simp [kI] at q
      obtain ⟨h1,h2,_⟩ := mem_offL.1 he
      rw [q] at h1 h2;exact h ⟨h1,h2⟩
    refine acall_nils ?_
    refine acall T Tryz.func10 rfl rfl rfl rfl ?_
    repeat' (first|refine wS ?_|refine wR ?_|(refine rg 0 ?_;refine vc_n (by exact fs_box rfl rfl) rfl ?_;refine aV ?_)|(refine rg 1 ?_;refine lV T ?_;refine vc_n (by exact fs_call rfl rfl ho (.inr ⟨rfl,rfl,by simp⟩)) rfl ?_;refine mV ?_;refine vV (by exact fs_mapMiss1 (zA := .nils) mapIS intK zSl zSlA rfl rfl (isv_i _) rfl (ok_good _) (good_i _) hno) ?_;refine aV ?_)|refine nZ ?_)
    all_goals exact rQ
theorem flow_0 (s : Sit) (W : List Int) (c : Int) : Flow (netP s W c) 0 [] := ⟨List.nodup_nil,(fun e h => by cases h),fun _ => Nat.zero_le _,fun _ _ _ => rfl,rfl⟩
theorem prev_0 : PrevOk [] (prevF []) := fun c p => by simp [prevF]
theorem flow_iw {s : Sit} {W : List Int} {st : Int} {k : Nat} {Te : List LEdge} (h : Flow (netP s W st) k Te) : ∀ e,e ∈ Te → inW W st (e.1,true) := fun e he => (flow_W h he).2
theorem lanes_idfs (l : List LaneT) : ∀ e,e ∈ lanesA l → AV.idfL e = true := by intro e he;obtain ⟨x,_,rfl⟩ := List.mem_map.1 he;rfl
theorem lanes_pln : ∀ l : List LaneT, AV.plnL (lanesA l).flatten = true
  | [] => rfl
  | _ :: l => lanes_pln l
theorem lanes_len (l : List LaneT) : ∀ e,e ∈ lanesA l → e.length = 3 := by intro e he;obtain ⟨x,_,rfl⟩ := List.mem_map.1 he;rfl
theorem lanes_next (l : List LaneT) (x : LaneT) : ((lanesA l).drop 0).take l.length ++ [laneA x] = lanesA (l ++ [x]) := by
  rw [List.drop_zero,List.take_of_length_le (by simp)];simp
abbrev certA (l : List LaneT) (b : Int) : List AV := [.rowE (lanesA l) 3,.i b]
inductive MakeOk (s : Sit) : AV → Prop
  | ok (L : List LaneT) (h1 : L.map (·.1) = kindC s.fl 4) (h2 : ∀ x,x ∈ L → PairOk s x) : MakeOk s (.tup [.agg (certA L (boundP s.fl)),.i (-1),.i 0])
  | no (L : List LaneT) (c : Int) (post : List Int) (h1 : L.map (·.1) ++ c :: post = kindC s.fl 4) (h2 : ∀ x,x ∈ L → PairOk s x) (h3 : StuckP s c) : MakeOk s (.tup [.agg (certA [] 0),.i c,.i 14])
theorem make_p (s : Sit) (g : Fine s.fl) : PCall Tryz.prog 9 [.agg (sitA s)] [] (fun r o => o = [] ∧ MakeOk s r) := by
  have hN := g.le
  have hbb := g.bounds
  have cb := bound_c s g
  have hWa := walk_asc s.fl
  have hWl := walk_len s.fl
  have cw := walkOf_c s (by omega)
  have ck := ofKind_c s 4 (by omega)
  have hWr : ∀ x,x ∈ walkP s.fl → 0 ≤ x ∧ x < s.fl.k.length := fun x hx => by obtain ⟨h1,h2,_⟩ := mem_walk.1 hx;exact ⟨h1,h2⟩
  have hKl := ofK_len s.fl.k 4 s.fl.k.length
  have hKm : ∀ x,x ∈ kindC s.fl 4 → 0 ≤ x ∧ x < s.fl.k.length ∧ exB s.fl x = false := fun x hx => by
    obtain ⟨h1,h2,h3⟩ := mem_ofK.1 hx
    exact ⟨h1,h2,by unfold exB;rw [h3];decide⟩
  refine pcall_view (Φ := fun r o => (∃ L : List LaneT,L.map (·.1) = kindC s.fl 4 ∧ (∀ x,x ∈ L → PairOk s x) ∧ r = .tup [.agg [.sl 0 0 L.length 3,.i (boundP s.fl)],.i (-1),.i 0] ∧ o = [.arr (lanesA L) 3]) ∨
    (∃ (L : List LaneT) (c : Int) (post : List Int),L.map (·.1) ++ c :: post = kindC s.fl 4 ∧ (∀ x,x ∈ L → PairOk s x) ∧ StuckP s c ∧ r = .tup [.agg [.nils,.i 0],.i c,.i 14] ∧ o = [])) ?_ ?_
  · generalize hKK : kindC s.fl 4 = K at *
    generalize boundP s.fl = b at *
    have hkl : (ints K).length = K.length := ints_length _
    have hKl : K.length ≤ 300 := by rw [← hKK];exact Nat.le_trans hKl hN
    refine pcall T Tryz.func9 rfl rfl rfl rfl ?_
    repeat' (first|refine wS ?_|refine wB ?_|(refine rg 0 ?_;refine vc_n (by exact fs_box rfl rfl) rfl ?_;refine vc_n (by exact fs_alloc T rfl) rfl ?_;refine aaV ?_)|(refine rg 1 ?_;refine lV T ?_;refine vV (by exact kC (cb)) ?_;refine vV (by exact fs_build T rfl rfl rfl rfl) ?_;refine vc_n (by exact fs_alloc T rfl) rfl ?_;refine vc_store T rfl rfl rfl rfl rfl rfl (by decide) rfl ?_)|(refine rg 2 ?_;refine lV T ?_;refine vV (by exact kC (cw)) ?_;refine aV ?_)|(refine rg 3 ?_;refine lV T ?_;refine vV (by exact kC (ck)) ?_;refine qV T ?_;refine mV ?_)|refine nZ ?_)
    refine aw_ownC 2 0 3 rfl rfl (by decide) ?_
    refine aw_loop (X := {L : List LaneT // L.length ≤ K.length ∧ L.map (·.1) = K.take L.length ∧ ∀ x, x ∈ L → PairOk s x}) (fun L => [(1, .ptr 0 0), (2, .ptr 1 0), (5, .ptr 2 0), (6, .rowE (ints (walkP s.fl)) 1), (17, .rowE (ints K) 1), (18, .i K.length), (19, .i (L.1.length : Int))])
      (fun L => [.cells (sitA s),.cells [.nils,.i 0],.cells [.sl 3 0 L.1.length 3,.i b],.arr (lanesA L.1) 3]) (fun L => K.length - L.1.length) ⟨[],Nat.zero_le _,rfl,fun x hx => by cases hx⟩ ⟨[0,1,2,3],rfl,⟨rfl,rfl,rfl,rfl,rfl,congrArg (fun n : Nat => some (AV.i n)) hkl,rfl,trivial⟩,⟨.inr rfl,.inr rfl,.inr rfl,.inr rfl,trivial⟩,by decide,nz0⟩ ?_
    rintro ⟨L,hLl,hLm,hLp⟩
    dsimp only
    by_cases hlt : L.length < K.length
    · have htk := List.take_succ_eq_append_getElem hlt
      have hsp : K.take L.length ++ K[L.length] :: K.drop (L.length + 1) = K := by rw [← List.drop_eq_getElem_cons hlt,List.take_append_drop]
      have hcm : K[L.length] ∈ K := List.getElem_mem hlt
      have q1 : (ints K)[(L.length : Int).toNat]? = some [AV.i K[L.length]] := by rw [Int.toNat_natCast];exact ints_get hlt
      generalize K[L.length] = c at *
      obtain ⟨hc0,hc1,hcx⟩ := hKm c hcm
      have hg1 := grow_c s g (walkP s.fl) hWa (by omega) hWr c ⟨hc0,hc1⟩ hcx (flow_0 s (walkP s.fl) c) (fun e he => by cases he) (fun e he => by cases he) prev_0 List.nodup_nil
      have hll : (lanesA L).length = L.length := by simp
      repeat' (first|refine wS ?_|refine wB ?_|refine wK ?_|refine wT ?_|(refine rg 4 ?_;refine vV (by exact fs_lssT rfl rfl (by omega)) ?_)|(refine rg 5 ?_;refine vV (by exact ix T rfl (by omega) (ints_len _) q1) ?_;refine lV T ?_;refine aV ?_)|(refine rg 6 ?_;refine lV T ?_;refine mmV ?_;refine vc_n (by exact fs_mapNew) rfl ?_;refine vc_n (by exact fs_mapNew) rfl ?_;refine vV (by exact fs_build T rfl rfl rfl rfl) ?_;refine vc_n (by exact fs_box rfl rfl) rfl ?_;refine aV ?_)|refine nZ ?_)
      refine aw_keep [(1, .ptr 0 0), (2, .ptr 1 0), (5, .ptr 2 0), (6, .rowE (ints (walkP s.fl)) 1), (8, .i c), (9, .ptr 6 0), (17, .rowE (ints K) 1), (18, .i K.length), (19, .i (L.length : Int))]
        [.cells (sitA s),.cells [.nils,.i 0],.cells [.sl 3 0 L.length 3,.i b],.arr (lanesA L) 3,.mapO [] [],.mapO [] [],.cells (netA s (walkP s.fl) c (.mp 4) (.mp 5))] ⟨[0,1,2,3,4,5,6],rfl,(by (repeat (first | exact trivial | refine ⟨rfl,?_⟩))),⟨.inr rfl,.inr rfl,.inr rfl,.inr (sub_arr rfl rfl (lanes_idfs _)),.inr rfl,.inr rfl,.inr rfl,trivial⟩,by decide,nz0⟩ ?_
      repeat' (first|refine wS ?_|refine wK ?_|refine wT ?_|refine wU ?_|(refine rg 7 ?_;refine mV ?_;refine vc_pcallw [6,4,5] rfl rfl hg1 rfl rfl (by decide) ⟨.inr rfl,.inr (sub_map rfl rfl rfl rfl),.inr (sub_map rfl rfl rfl rfl),trivial⟩ (by simp) rfl ?_;rintro r o (⟨rfl,T1,U1,rfl,f1,f2,f3,f4⟩|⟨rfl,rfl,R1,f1⟩);(all_goals (refine vV (by exact fs_not rfl) ?_;refine mV ?_;refine gK ?_));(all_goals first|(refine gT ?_;(refine mV ?_);refine gT ?_;((refine vc_pcallw [6,4,7] rfl rfl (grow_c s g (walkP s.fl) hWa (by omega) hWr c ⟨hc0,hc1⟩ hcx f1 f2 (flow_iw f1) f3 f4) rfl rfl (by decide) ⟨.inr rfl,.inr (by exact sub_map rfl rfl (mapL_idf _ _ (tr_idf _)) (tr_idf _)),.inr (by exact sub_map rfl rfl (mapL_idf _ _ (pv_idf _)) (pv_idf _)),trivial⟩ (by simp) rfl ?_;rintro r o (⟨rfl,T2,U2,rfl,k1,k2,k3,k4⟩|⟨rfl,rfl,R2,k1⟩))))|(iterate 2 refine gF ?_));(all_goals first|(refine gT ?_;(refine vV (by exact fs_not rfl) ?_))|(refine gF ?_));(all_goals (refine pV ?_)))|refine nZ ?_)
      · have hw2 := ways_p s g (walkP s.fl) (by omega) hWr c k1 k3 k4
        repeat' (first|(refine rg 9 ?_;refine mV ?_;refine vc_pcallw [6,4,8] rfl rfl hw2 rfl rfl (by decide) ⟨.inr rfl,.inr (by exact sub_map rfl rfl (mapL_idf _ _ (tr_idf _)) (tr_idf _)),.inr (by exact sub_map rfl rfl (mapL_idf _ _ (pv_idf _)) (pv_idf _)),trivial⟩ (by simp) rfl ?_;rintro r o ⟨es,bF,hwk,rfl,rfl⟩;refine aV ?_)|refine nZ ?_)
        obtain ⟨e0,e1,rfl,hp⟩ := two_ok k1 hwk
        refine aw_keep [(1, .ptr 0 0), (2, .ptr 1 0), (5, .ptr 2 0), (6, .rowE (ints (walkP s.fl)) 1), (8, .i c), (10, .sl 4 0 2 1), (17, .rowE (ints K) 1), (18, .i K.length), (19, .i (L.length : Int))]
          [.cells (sitA s),.cells [.nils,.i 0],.cells [.sl 3 0 L.length 3,.i b],.arr (lanesA L) 3,.arr (rwI [wayR bF e0,wayR bF e1]) 1] ⟨[0,1,2,3,9],rfl,(by (repeat (first | exact trivial | refine ⟨rfl,?_⟩))),⟨.inr rfl,.inr rfl,.inr rfl,.inr (sub_arr rfl rfl (lanes_idfs _)),.inr (sub_rwI rfl rfl),trivial⟩,by decide,nz0⟩ ?_
        refine aw_frz 10 rfl rfl rfl (idfL_flat (rwI_idfs _)) ?_
        have qa : (rwI [wayR bF e0,wayR bF e1])[(0 : Int).toNat]? = some [.rowE (ints (wayR bF e0)) 1] := rfl
        have qb : (rwI [wayR bF e0,wayR bF e1])[(1 : Int).toNat]? = some [.rowE (ints (wayR bF e1)) 1] := rfl
        generalize wayR bF e0 = w0 at *
        generalize wayR bF e1 = w1 at *
        repeat' (first|(refine aw_draw4k (id := 10) 57 [[],[0],[],[],[3],[3,4],[],[6],[6,7],[2,3,4,5,6,7,8],[2,3,4,5,6,7,8,9],[0,1,2,3,4,5,6,7,8,9,10]] [42,43,44,45,46,47,48,49,50,51,52,53] [[],[],[42,43],[42,43,44],[42,43,44],[42,43,44],[42,43,44,45,46,47],[42,43,44,45,46,47],[42,43,44,45,46,47],[42,43],[42,43],[]] [(11,3)] mixedP rfl (by decide +kernel) ?_;refine dwa_v rfl rfl rfl rfl (by exact fs_fieldAddr T rfl rfl rfl) ?_;refine dwa_v rfl rfl rfl rfl (by exact fs_load T rfl rfl rfl rfl) ?_;refine dwa_v rfl rfl rfl rfl (by exact fs_move rfl) ?_;refine dwa_v rfl rfl rfl rfl (by exact fs_move rfl) ?_;refine dwa_v rfl rfl rfl rfl (by exact ix T rfl (by decide) (rwI_len _) qa) ?_;refine dwa_v rfl rfl rfl rfl (by exact fs_load T rfl rfl rfl rfl) ?_;refine dwa_v rfl rfl rfl rfl (by exact fs_move rfl) ?_;refine dwa_v rfl rfl rfl rfl (by exact ix T rfl (by decide) (rwI_len _) qb) ?_;refine dwa_v rfl rfl rfl rfl (by exact fs_load T rfl rfl rfl rfl) ?_;refine dwa_v rfl rfl rfl rfl (by exact fs_build T rfl rfl rfl rfl) ?_;refine dwa_n rfl rfl rfl rfl (by exact fs_buildSlice T rfl rfl (by decide) (by decide) rfl rfl rfl) rfl ?_;refine dwa_a1 rfl rfl rfl rfl (Nat.le_of_ble_eq_true rfl) (by exact as_append T rfl rfl rfl rfl rfl rfl (by simp) (Elems.whole rfl rfl) rfl (by simp;omega) (by simp;omega)) ?_;refine dwa_fin rfl rfl rfl (by exact rfl) ?_;refine fV T ?_;refine vc_store T rfl rfl rfl rfl rfl rfl (by decide) rfl ?_)|(refine rg 11 ?_;refine vV (by exact fs_addr rfl rfl (by omega) (by omega)) ?_;refine mV ?_)|refine nZ ?_)
        have hln : (L ++ [(c,w0,w1)]).length = L.length + 1 := by simp
        all_goals exact ⟨⟨L ++ [(c,w0,w1)],by rw [List.length_append,List.length_singleton];omega,by rw [List.map_append,hLm,List.length_append,List.length_singleton,htk];rfl,fun x hx => (List.mem_append.1 hx).elim (hLp x) (fun h => by simp only [List.mem_singleton] at h;rw [h];exact hp)⟩,by dsimp only;rw [List.length_append,List.length_singleton];omega,[0,1,2,6],rfl,⟨rfl,rfl,rfl,rfl,rfl,rfl,(congrArg (fun n : Nat => some (AV.i (n : Int))) hln).symm,trivial⟩,⟨.inr rfl,.inr rfl,.inr (congrArg (fun n : Nat => some (AB.cells [.sl 6 0 n 3,.i b])) hln).symm,.inr (sub_arr rfl (lanes_next L (c,w0,w1)) (lanes_idfs _)),trivial⟩,by decide,nz0⟩
      · repeat' (first|refine wR ?_|(((refine rg 8 ?_));(all_goals (refine vV (by exact fs_build T rfl rfl rfl rfl) ?_;refine mV ?_;refine vc_store T rfl rfl rfl rfl rfl rfl (by decide) rfl ?_;refine aV ?_;refine aV ?_)))|(refine nZ ?_))
        all_goals exact ⟨_,_,.inr ⟨L,c,K.drop (L.length + 1),by rw [hLm];exact hsp,hLp,stuck_1 g hcx f1 k1,rfl,rfl⟩,.inl rfl,[],_,rfl,rfl,rfl,trivial,List.nodup_nil,nz0⟩
      · repeat' (first|refine wR ?_|(((refine rg 8 ?_));(all_goals (refine vV (by exact fs_build T rfl rfl rfl rfl) ?_;refine mV ?_;refine vc_store T rfl rfl rfl rfl rfl rfl (by decide) rfl ?_;refine aV ?_;refine aV ?_)))|(refine nZ ?_))
        all_goals exact ⟨_,_,.inr ⟨L,c,K.drop (L.length + 1),by rw [hLm];exact hsp,hLp,stuck_0 g hcx (flow_0 s (walkP s.fl) c) f1,rfl,rfl⟩,.inl rfl,[],_,rfl,rfl,rfl,trivial,List.nodup_nil,nz0⟩
    · have hle : L.length = K.length := by omega
      rw [hle,List.take_length] at hLm
      repeat' (first|refine wS ?_|refine wR ?_|refine wE ?_|refine wU ?_|(refine rg 4 ?_;refine vV (by exact fs_lssF rfl rfl (by omega)) ?_)|(refine rg 12 ?_;refine lV T ?_;refine vc_store T rfl rfl rfl rfl rfl rfl (by decide) rfl ?_;refine aaV ?_)|refine nZ ?_)
      all_goals exact ⟨_,_,.inl ⟨L,hLm,hLp,rfl,rfl⟩,.inl rfl,[3],_,rfl,rfl,rfl,⟨.inr (sub_arr rfl rfl (lanes_idfs _)),trivial⟩,by decide,nz0⟩
  · rintro r o (⟨L,h1,h2,rfl,rfl⟩ | ⟨L,c,post,h1,h2,h3,rfl,rfl⟩)
    · refine ⟨_,?_,.ok L h1 h2⟩
      have e : AV.rowE (lanesA L) 3 = .row (lanesA L).flatten L.length 3 := by simp [AV.rowE]
      dsimp only [certA]
      rw [e]
      refine .tup (.cons (.agg (.cons (.sl (es := lanesA L) rfl (by simp) ?_) (.cons (.v _) .nil))) (.cons (.v _) (.cons (.v _) .nil)))
      rw [List.drop_zero,List.take_of_length_le (by simp)]
      exact viewL_self _ (lanes_pln L)
    · exact ⟨_,.tup (.cons (.agg (.cons (.nils 3) (.cons (.v _) .nil))) (.cons (.v _) (.cons (.v _) .nil))),.no L c post h1 h2 h3⟩
theorem ticks_c (l w : List Int) (hl : l.length ≤ 1000000) : ACall Tryz.prog 41 [.rowE (ints l) 1,.rowE (ints w) 1] [] (.i (tickP w l)) [] := by
  have hll : (ints l).length = l.length := ints_length _
  have hwl : (ints w).length = w.length := ints_length _
  have hmin : min (1 : Int) (((ints l).length : Nat) : Int) = ((min 1 l.length : Nat) : Int) := by rw [hll];omega
  have hdr : (ints l).drop (min 1 l.length) = ints (l.drop 1) := by
    cases l with
    | nil => rfl
    | cons a l => rw [show min 1 (a :: l).length = 1 by simp];rfl
  have htl : (l.drop 1).length ≤ 1000000 := by rw [List.length_drop];omega
  unfold tickP
  refine acall T Tryz.func41 rfl rfl rfl rfl ?_
  repeat' (first|refine wS ?_|refine wB ?_|(refine rg 0 ?_;refine aV ?_)|(refine rg 1 ?_;refine aV ?_)|(refine rg 2 ?_;refine mmV ?_;refine qV T ?_;refine vV (by exact fs_min rfl rfl) ?_;refine vV (by exact (show FStep _ _ _ _ 0 (fun _=>AV.rowE (ints (l.drop 1)) 1) (fun _=>[]) from hdr ▸ fs_sliceFromE T rfl rfl rfl rfl (k := min 1 l.length) (congrArg some hmin) (by omega) (ints_len _))) ?_;refine qV T ?_;refine mV ?_)|refine nZ ?_)
  generalize l.drop 1 = t at *
  have htl2 : (ints t).length = t.length := ints_length _
  refine aw_loop (X := {p : Nat × Int // p.1 ≤ t.length ∧ tickL w p.2 (t.drop p.1) = tickL w 0 t}) (fun p => [(1,.rowE (ints w) 1),(5,.i p.1.2),(12,.rowE (ints t) 1),(13,.i t.length),(14,.i (p.1.1 : Int))]) (fun _ => []) (fun p => t.length - p.1.1) ⟨(0,0),Nat.zero_le _,by rw [List.drop_zero]⟩ ⟨[],rfl,⟨rfl,rfl,rfl,congrArg (fun n : Nat => some (AV.i n)) htl2,rfl,trivial⟩,trivial,List.nodup_nil,nz0⟩ ?_
  rintro ⟨⟨j,n⟩,hj,hn⟩
  dsimp only at hj hn ⊢
  by_cases hlt : j < t.length
  · rw [List.drop_eq_getElem_cons hlt,tick_cons] at hn
    have q1 : (ints t)[(j : Int).toNat]? = some [AV.i t[j]] := by rw [Int.toNat_natCast];exact ints_get hlt
    generalize t[j] = c at *
    by_cases h1 : 0 ≤ c ∧ c < w.length
    · have q2 := ints_gI (l := w) (j := c) (i := c.toNat) (-1) (by omega) (by omega)
      generalize w.getD c.toNat (-1) = y at *
      by_cases h2 : y = -1
      · rw [if_neg (fun h => h.2.2 h2)] at hn
        rw [← hn]
        repeat' (first|refine wS ?_|refine wB ?_|refine wK ?_|refine wR ?_|refine wT ?_|(refine rg 3 ?_;refine vV (by exact fs_lssT rfl rfl (by omega)) ?_)|(refine rg 4 ?_;refine vV (by exact ix T rfl (by omega) (ints_len _) q1) ?_;refine lV T ?_;refine aV ?_)|(refine rg 5 ?_;refine mV ?_;refine vV (by exact fs_lssF rfl rfl (by omega)) ?_;refine mV ?_;refine gK ?_;refine yM ?_;refine yM ?_;refine gT ?_;refine qV T ?_;refine yV (by exact fs_geqF rfl rfl (by omega)) ?_;refine pV ?_;refine mV ?_;refine gK ?_;refine yM ?_;refine yM ?_;refine yV (by exact ix T rfl (by omega) (ints_len _) q2) ?_;refine yL T ?_;refine yV (by exact fs_eqlT rfl rfl h2) ?_;refine pV ?_)|(refine rg 6 ?_;refine aV ?_)|refine nZ ?_)
        all_goals first | (exfalso;omega) | exact rQ
      · rw [if_pos ⟨h1.1,h1.2,h2⟩] at hn
        repeat' (first|refine wS ?_|refine wB ?_|refine wK ?_|refine wT ?_|refine wU ?_|(refine rg 3 ?_;refine vV (by exact fs_lssT rfl rfl (by omega)) ?_)|(refine rg 4 ?_;refine vV (by exact ix T rfl (by omega) (ints_len _) q1) ?_;refine lV T ?_;refine aV ?_)|(refine rg 5 ?_;refine mV ?_;refine vV (by exact fs_lssF rfl rfl (by omega)) ?_;refine mV ?_;refine gK ?_;refine yM ?_;refine yM ?_;refine gT ?_;refine qV T ?_;refine yV (by exact fs_geqF rfl rfl (by omega)) ?_;refine pV ?_;refine mV ?_;refine gK ?_;refine yM ?_;refine yM ?_;refine yV (by exact ix T rfl (by omega) (ints_len _) q2) ?_;refine yL T ?_;refine yV (by exact fs_eqlF rfl rfl h2) ?_;refine pV ?_)|(refine rg 7 ?_;refine mmV ?_;refine mV ?_;refine vV (by exact ix T rfl (by omega) (ints_len _) q2) ?_;refine lV T ?_;refine vV (by exact fs_max rfl rfl) ?_;refine aV ?_)|(refine rg 8 ?_;refine vV (by exact fs_addr rfl rfl (by omega) (by omega)) ?_;refine mV ?_)|refine nZ ?_)
        all_goals first | (exfalso;omega) | exact ⟨⟨(j + 1,max n y),hlt,hn⟩,by dsimp only;omega,by (refine ⟨[],rfl,?_,trivial,List.nodup_nil,fun _ h => absurd h (Nat.not_lt_zero _)⟩;(repeat (first | exact trivial | refine ⟨rfl,?_⟩)))⟩
    · rw [if_neg (fun h => h1 ⟨h.1,h.2.1⟩)] at hn
      rw [← hn]
      repeat' (first|refine wS ?_|refine wB ?_|refine wK ?_|refine wR ?_|refine wT ?_|(refine rg 3 ?_;refine vV (by exact fs_lssT rfl rfl (by omega)) ?_)|(refine rg 4 ?_;refine vV (by exact ix T rfl (by omega) (ints_len _) q1) ?_;refine lV T ?_;refine aV ?_)|(refine rg 5 ?_;refine mV ?_;refine vV (by exact fs_lss rfl rfl) ?_;refine mV ?_;refine vc_split rfl rfl (fun hb=>?_) (fun hb=>?_)<;>((rw [hb];(try simp only [nm] at hb);try ((exfalso;omega);done)));(all_goals first|(refine gT ?_;(refine mV ?_);refine gT ?_;(refine mV ?_);refine gT ?_;(refine qV T ?_);refine gT ?_;(refine vV (by exact fs_geq rfl rfl) ?_))|(iterate 4 refine gF ?_));(all_goals (refine pV ?_;refine mV ?_));(all_goals first|(refine gK ?_)|(refine vc_split rfl rfl (fun hb=>?_) (fun hb=>?_)<;>((rw [hb];(try simp only [nm] at hb);try ((exfalso;omega);done)))));(all_goals ((iterate 5 refine gF ?_);refine pV ?_)))|(refine rg 6 ?_;refine aV ?_)|refine nZ ?_)
      all_goals first | (exfalso;omega) | exact rQ
  · rw [List.drop_of_length_le (by omega)] at hn
    rw [← hn]
    rw [show tickL w n [] = n from rfl]
    repeat' (first|refine wS ?_|refine wR ?_|refine wE ?_|refine wU ?_|(refine rg 3 ?_;refine vV (by exact fs_lssF rfl rfl (by omega)) ?_)|(refine rg 9 ?_;refine mV ?_;refine aV ?_)|refine nZ ?_)
    all_goals first | (exfalso;omega) | exact rQ
def laneF : List LaneT → Int → Int → Int
  | [],_,_ => -1
  | x :: l,c,k => if x.1 = c then k else laneF l c (k + 1)
theorem laneF_drop {l : List LaneT} {c : Int} {k : Nat} (h : k < l.length) : laneF (l.drop k) c k = if (l[k]).1 = c then (k : Int) else laneF (l.drop (k + 1)) c ((k + 1 : Nat) : Int) := by
  rw [List.drop_eq_getElem_cons h];simp [laneF]
theorem laneF_find : ∀ (l : List LaneT) (c : Int) (k : Nat), (laneF l c k = -1 ∧ l.find? (fun x => decide (x.1 = c)) = none) ∨ ∃ i : Nat, laneF l c k = ((k + i : Nat) : Int) ∧ i < l.length ∧ l[i]? = l.find? (fun x => decide (x.1 = c))
  | [],_,_ => .inl ⟨rfl,rfl⟩
  | x :: l,c,k => by
    unfold laneF
    by_cases h : x.1 = c
    · rw [if_pos h]
      exact .inr ⟨0,rfl,by simp,by simp [h]⟩
    · rw [if_neg h,List.find?_cons_of_neg (by simpa using h)]
      rcases laneF_find l c (k + 1) with ⟨h1,h2⟩ | ⟨i,h1,h2,h3⟩
      · exact .inl ⟨h1,h2⟩
      · exact .inr ⟨i + 1,by rw [← show ((k + 1 : Nat) : Int) = (k : Int) + 1 by omega,h1];omega,by simp only [List.length_cons];omega,by rw [List.getElem?_cons_succ];exact h3⟩
theorem lanes_get {l : List LaneT} {i : Nat} {x : LaneT} (h : l[i]? = some x) : (lanesA l)[i]? = some (laneA x) := by simp [h]
theorem req1_c (x : LaneT) (c : Int) : ACall Tryz.prog 40 [.agg (laneA x),.pr [.i c] 0] [] (.b (decide (x.1 = c))) [] := by
  obtain ⟨y,a,b⟩ := x
  refine acall T Tryz.func40 rfl rfl rfl rfl ?_
  repeat' (first|refine wS ?_|refine wR ?_|(refine rg 0 ?_;refine vc_n (by exact fs_box rfl rfl) rfl ?_;refine aV ?_)|(refine rg 1 ?_;refine fV T ?_;refine vV (by exact fs_load T rfl rfl rfl rfl) ?_;refine vV (by exact fs_load T rfl rfl rfl rfl) ?_;refine vV (by exact fs_eql rfl rfl) ?_;refine aV ?_)|refine nZ ?_)
  all_goals first | (exfalso;omega) | exact rQ
theorem indexL_c (l : List LaneT) (c : Int) (hl : l.length ≤ 9223372036854775807) : ACall Tryz.prog 39 [.rowE (lanesA l) 3,.clo (.func 40) [] [.pr [.i c] 0]] [] (.i (laneF l c 0)) [] := by
  have hlen : (lanesA l).length = l.length := by simp
  refine acall T Tryz.func39 rfl rfl rfl rfl ?_
  repeat' (first|refine wS ?_|refine wB ?_|(refine rg 0 ?_;refine aV ?_)|(refine rg 1 ?_;refine mV ?_;refine qV T ?_;refine mV ?_)|refine nZ ?_)
  refine aw_loop (X := {k : Nat // k ≤ l.length ∧ laneF l c 0 = laneF (l.drop k) c k}) (fun k => [(0,.rowE (lanesA l) 3),(1,.clo (.func 40) [] [.pr [.i c] 0]),(7,.i (lanesA l).length),(8,.i k.1)]) (fun _ => []) (fun k => l.length - k.1) ⟨0,by simp,rfl⟩ (by (refine ⟨[],rfl,?_,trivial,List.nodup_nil,fun _ h => absurd h (Nat.not_lt_zero _)⟩;(repeat (first | exact trivial | refine ⟨rfl,?_⟩)))) ?_
  rintro ⟨k,hk,hf⟩
  dsimp only
  by_cases hlt : k < l.length
  · have hd := laneF_drop (c := c) hlt
    have q1 : (lanesA l)[(k : Int).toNat]? = some (laneA l[k]) := lanes_get (by rw [Int.toNat_natCast,List.getElem?_eq_getElem hlt])
    have hc := req1_c l[k] c
    generalize l[k] = r at *
    obtain ⟨y,a,b⟩ := r
    dsimp only at hc hd q1
    by_cases hb : y = c
    · rw [decide_eq_true hb] at hc
      rw [hf,hd,if_pos hb]
      repeat' (first|refine wS ?_|refine wB ?_|refine wK ?_|refine wR ?_|refine wT ?_|(refine rg 2 ?_;refine vV (by exact fs_lssT rfl rfl (by omega)) ?_)|(refine rg 3 ?_;refine mV ?_;refine aV ?_)|(refine rg 4 ?_;refine mmV ?_;refine mV ?_;refine vV (by exact ix T rfl (by omega) (lanes_len l) q1) ?_;refine lV T ?_;refine vV (by exact kC (hc)) ?_)|(refine rg 5 ?_;refine mV ?_;refine aV ?_)|refine nZ ?_)
      all_goals first | (exfalso;omega) | exact rQ
    · rw [decide_eq_false hb] at hc
      rw [if_neg hb] at hd
      repeat' (first|refine wS ?_|refine wB ?_|refine wK ?_|refine wT ?_|refine wU ?_|(refine rg 2 ?_;refine vV (by exact fs_lssT rfl rfl (by omega)) ?_)|(refine rg 3 ?_;refine mV ?_;refine aV ?_)|(refine rg 4 ?_;refine mmV ?_;refine mV ?_;refine vV (by exact ix T rfl (by omega) (lanes_len l) q1) ?_;refine lV T ?_;refine vV (by exact kC (hc)) ?_)|(refine rg 6 ?_;refine vV (by exact fs_addr rfl rfl (by omega) (by omega)) ?_;refine mV ?_)|refine nZ ?_)
      all_goals first | (exfalso;omega) | exact ⟨⟨k + 1,by omega,by rw [hf,hd]⟩,by dsimp only;omega,by (refine ⟨[],rfl,?_,trivial,List.nodup_nil,fun _ h => absurd h (Nat.not_lt_zero _)⟩;(repeat (first | exact trivial | refine ⟨rfl,?_⟩)))⟩
  · rw [hf,List.drop_of_length_le (by omega)]
    repeat' (first|refine wS ?_|refine wR ?_|refine wE ?_|refine wU ?_|(refine rg 2 ?_;refine vV (by exact fs_lssF rfl rfl (by omega)) ?_)|(refine rg 7 ?_;refine aV ?_)|refine nZ ?_)
    all_goals first | (exfalso;omega) | exact rQ
abbrev ansA (x : Int × Int × Int) : AV := .tup [.i x.1,.i x.2.1,.i x.2.2]
theorem request_c (l : List LaneT) (b c : Int) (w : List Int) (hl : l.length ≤ 1000000) (hll : ∀ x,x ∈ l → x.2.1.length ≤ 1000000 ∧ x.2.2.length ≤ 1000000) :
    ACall Tryz.prog 12 [.agg (certA l b),.i c,.rowE (ints w) 1] [] (ansA (reqP l b c w)) [] := by
  have hi := indexL_c l c (by omega)
  unfold reqP
  rcases laneF_find l c 0 with ⟨h1,h2⟩ | ⟨i,h1,h2,h3⟩
  · rw [h2]
    rw [show laneF l c 0 = -1 from h1] at hi
    dsimp only
    refine acall T Tryz.func12 rfl rfl rfl rfl ?_
    repeat' (first|refine wS ?_|refine wR ?_|refine wT ?_|(refine rg 0 ?_;refine vc_n (by exact fs_box rfl rfl) rfl ?_;refine vc_n (by exact fs_box rfl rfl) rfl ?_;refine aaV ?_;refine aV ?_)|(refine rg 1 ?_;refine flV T ?_;refine vV (by exact fs_makeFunc rfl rfl) ?_;refine vV (by exact fs_callb0 rfl rfl hi (.cons (.row _ _ _) (.cons (.clo .nil (.cons (.ptr rfl (.cons (.v _) .nil)) .nil)) .nil)) rfl rfl) ?_;refine aV ?_)|(refine rg 2 ?_;refine mV ?_;refine vV (by exact fs_lss rfl rfl) ?_)|(refine rg 3 ?_;refine aaV ?_;refine aV ?_)|refine nZ ?_)
    all_goals first | (exfalso;omega) | exact rQ
  · rw [← h3]
    obtain ⟨x,hx⟩ : ∃ x,l[i]? = some x := ⟨l[i],List.getElem?_eq_getElem h2⟩
    rw [hx]
    have hxl := hll x (List.mem_of_getElem? hx)
    rw [show laneF l c 0 = ((i : Nat) : Int) by rw [show laneF l c 0 = laneF l c ((0 : Nat) : Int) from rfl,h1];omega] at hi
    have q1 : (lanesA l)[((i : Nat) : Int).toNat]? = some (laneA x) := lanes_get (by rw [Int.toNat_natCast];exact hx)
    obtain ⟨y,A,B⟩ := x
    have ca := ticks_c A w hxl.1
    have cb := ticks_c B w hxl.2
    dsimp only
    unfold reqA
    dsimp only
    have g1 := tick_ge (w := w) (t := A.drop 1) (n := 0) (by omega)
    have g2 := tick_ge (w := w) (t := B.drop 1) (n := 0) (by omega)
    generalize hta : tickP w A = ta at *
    generalize htb : tickP w B = tb at *
    refine acall T Tryz.func12 rfl rfl rfl rfl ?_
    repeat' (first|refine wS ?_|refine wB ?_|refine wK ?_|refine wU ?_|(refine rg 0 ?_;refine vc_n (by exact fs_box rfl rfl) rfl ?_;refine vc_n (by exact fs_box rfl rfl) rfl ?_;refine aaV ?_;refine aV ?_)|(refine rg 1 ?_;refine flV T ?_;refine vV (by exact fs_makeFunc rfl rfl) ?_;refine vV (by exact fs_callb0 rfl rfl hi (.cons (.row _ _ _) (.cons (.clo .nil (.cons (.ptr rfl (.cons (.v _) .nil)) .nil)) .nil)) rfl rfl) ?_;refine aV ?_)|(refine rg 2 ?_;refine mV ?_;refine vV (by exact fs_lssF rfl rfl (by omega)) ?_)|(refine aw_draw2k (id := 4) 63 [[],[0],[],[0,1,2],[0,1,2,3],[0,1,2,3,4],[],[0,1,2,3,4,5,6],[],[8],[],[8,9,10],[8,9,10,11],[8,9,10,11,12],[],[0,1,2,3,4,5,6,7,8,9,10,11,12,13,14],[0,1,2,3,4,5,6,7,8,9,10,11,12,13,14,15]] [18,19,20,21,22,23,24,25,26,27,28,29,30,31,32,33,10] [[],[],[18,19],[],[],[],[18,19,20,21,22,23],[],[18,19,20,21,22,23,24,25],[18,19,20,21,22,23,24,25],[18,19,20,21,22,23,24,25,26,27],[18,19,20,21,22,23,24,25],[18,19,20,21,22,23,24,25],[18,19,20,21,22,23,24,25],[18,19,20,21,22,23,24,25,26,27,28,29,30,31],[],[]] mixedP rfl (by decide +kernel) ?_;refine dF T ?_;refine dL T ?_;refine dM ?_;refine dV rfl (by exact ix T rfl (by omega) (lanes_len l) q1) ?_;refine dF T ?_;refine dL T ?_;refine dM ?_;refine dV rfl (by exact kC (ca)) ?_;refine dF T ?_;refine dL T ?_;refine dM ?_;refine dV rfl (by exact ix T rfl (by omega) (lanes_len l) q1) ?_;refine dF T ?_;refine dL T ?_;refine dM ?_;refine dV rfl (by exact kC (cb)) ?_;refine dV rfl (by exact fs_assign rfl) ?_;refine dw_fin rfl rfl (by ((dsimp only [ln1,ln2,List.append_nil,ln4,ln5,ln6,ln7,ln8,ln9,putAt,putd,allObjs,argEnv,un_v,un_ptr,un_ep,un_pr,un_sl,un_mp,un_row,un_agg,un_tup,un_clo,Nat.zero_add,lnb,Nat.reduceAdd,lnc,lnd];done))) ?_;refine aV ?_)|refine nZ ?_)
    refine aw_keep [(3,.ptr 0 0),(6,.i 0),(7,.i 0),(8,.i 0),(10,.i ta),(11,.i tb)] [.cells (certA l b)] ⟨[0],rfl,(by (repeat (first | exact trivial | refine ⟨rfl,?_⟩))),⟨.inr rfl,trivial⟩,by decide,nz0⟩ ?_
    have hcase : (ta < 0 ∧ tb < 0) ∨ (¬ (ta < 0 ∧ tb < 0) ∧ (ta < 0 ∨ (0 ≤ tb ∧ tb < ta)) ∧ b < tb) ∨ (¬ (ta < 0 ∧ tb < 0) ∧ (ta < 0 ∨ (0 ≤ tb ∧ tb < ta)) ∧ ¬ b < tb) ∨ (¬ (ta < 0 ∧ tb < 0) ∧ ¬ (ta < 0 ∨ (0 ≤ tb ∧ tb < ta)) ∧ b < ta) ∨ (¬ (ta < 0 ∧ tb < 0) ∧ ¬ (ta < 0 ∨ (0 ≤ tb ∧ tb < ta)) ∧ ¬ b < ta) := by omega
    rcases hcase with h | ⟨h1,h2,h3⟩ | ⟨h1,h2,h3⟩ | ⟨h1,h2,h3⟩ | ⟨h1,h2,h3⟩
    · rw [if_pos h]
      repeat' (first|refine wS ?_|refine wR ?_|refine wT ?_|(refine rg 6 ?_;refine mV ?_;refine vV (by exact fs_lssT rfl rfl (by omega)) ?_;refine mV ?_;refine gK ?_;refine yM ?_;refine yV (by exact fs_lssT rfl rfl (by omega)) ?_;refine pV ?_;refine aV ?_)|(refine rg 7 ?_;refine aaV ?_;refine aV ?_)|refine nZ ?_)
      all_goals first | (exfalso;omega) | exact rQ
    · rw [if_neg h1,if_pos h2,if_pos h3]
      repeat' (first|refine wS ?_|refine wR ?_|refine wT ?_|refine wU ?_|(refine wC rfl (fun hb=>?_) (fun hb=>?_)<;>(((try simp only [nm] at hb);try (exfalso;omega))))|(refine rg 6 ?_;refine mV ?_;refine vV (by exact fs_lss rfl rfl) ?_;refine mV ?_;refine vc_split rfl rfl (fun hb=>?_) (fun hb=>?_)<;>((rw [hb];(try simp only [nm] at hb);try ((exfalso;omega);done)));(all_goals first|(refine gT ?_;(refine mV ?_);refine gT ?_;(refine vV (by exact fs_lss rfl rfl) ?_))|(iterate 2 refine gF ?_));(all_goals (refine pV ?_;refine aV ?_)))|(refine rg 8 ?_;refine mV ?_;refine vV (by exact fs_lss rfl rfl) ?_;refine mV ?_;refine vc_split rfl rfl (fun hb=>?_) (fun hb=>?_)<;>((rw [hb];(try simp only [nm] at hb);try ((exfalso;omega);done)));(all_goals first|(refine gT ?_;(refine mV ?_);refine gT ?_;(refine vV (by exact fs_geq rfl rfl) ?_);refine gT ?_;(refine mV ?_))|(iterate 3 refine gF ?_));(all_goals first|(refine gK ?_)|(refine vc_split rfl rfl (fun hb=>?_) (fun hb=>?_)<;>((rw [hb];(try simp only [nm] at hb);try ((exfalso;omega);done)))));(all_goals first|(refine gT ?_;(refine mV ?_);refine gT ?_;(refine mV ?_);refine gT ?_;(refine vV (by exact fs_lss rfl rfl) ?_))|(iterate 3 refine gU ?_));(all_goals first|(refine gT ?_;(refine pV ?_))|(refine gF ?_));(all_goals (refine pV ?_;refine aV ?_)))|(refine rg 9 ?_;refine mV ?_;refine aaV ?_)|(refine rg 10 ?_;refine mV ?_;refine flV T ?_;refine vV (by exact fs_gtr rfl rfl) ?_)|(refine rg 11 ?_;refine mmV ?_;refine aaV ?_;refine aV ?_)|refine nZ ?_)
      all_goals first | (exfalso;omega) | exact rQ
    · rw [if_neg h1,if_pos h2,if_neg h3]
      repeat' (first|refine wS ?_|refine wK ?_|refine wR ?_|refine wT ?_|refine wU ?_|(refine wC rfl (fun hb=>?_) (fun hb=>?_)<;>(((try simp only [nm] at hb);try (exfalso;omega))))|(refine rg 6 ?_;refine mV ?_;refine vV (by exact fs_lss rfl rfl) ?_;refine mV ?_;refine vc_split rfl rfl (fun hb=>?_) (fun hb=>?_)<;>((rw [hb];(try simp only [nm] at hb);try ((exfalso;omega);done)));(all_goals first|(refine gT ?_;(refine mV ?_);refine gT ?_;(refine vV (by exact fs_lss rfl rfl) ?_))|(iterate 2 refine gF ?_));(all_goals (refine pV ?_;refine aV ?_)))|(refine rg 8 ?_;refine mV ?_;refine vV (by exact fs_lss rfl rfl) ?_;refine mV ?_;refine vc_split rfl rfl (fun hb=>?_) (fun hb=>?_)<;>((rw [hb];(try simp only [nm] at hb);try ((exfalso;omega);done)));(all_goals first|(refine gT ?_;(refine mV ?_);refine gT ?_;(refine vV (by exact fs_geq rfl rfl) ?_);refine gT ?_;(refine mV ?_))|(iterate 3 refine gF ?_));(all_goals first|(refine gK ?_)|(refine vc_split rfl rfl (fun hb=>?_) (fun hb=>?_)<;>((rw [hb];(try simp only [nm] at hb);try ((exfalso;omega);done)))));(all_goals first|(refine gT ?_;(refine mV ?_);refine gT ?_;(refine mV ?_);refine gT ?_;(refine vV (by exact fs_lss rfl rfl) ?_))|(iterate 3 refine gU ?_));(all_goals first|(refine gT ?_;(refine pV ?_))|(refine gF ?_));(all_goals (refine pV ?_;refine aV ?_)))|(refine rg 9 ?_;refine mV ?_;refine aaV ?_)|(refine rg 10 ?_;refine mV ?_;refine flV T ?_;refine vV (by exact fs_gtr rfl rfl) ?_)|(refine rg 12 ?_;refine mmV ?_;refine aaV ?_;refine aV ?_)|refine nZ ?_)
      all_goals first | (exfalso;omega) | exact rQ
    · rw [if_neg h1,if_neg h2,if_pos h3]
      repeat' (first|refine wS ?_|refine wR ?_|refine wU ?_|(refine wC rfl (fun hb=>?_) (fun hb=>?_)<;>(((try simp only [nm] at hb);try (exfalso;omega))))|(refine rg 6 ?_;refine mV ?_;refine vV (by exact fs_lss rfl rfl) ?_;refine mV ?_;refine vc_split rfl rfl (fun hb=>?_) (fun hb=>?_)<;>((rw [hb];(try simp only [nm] at hb);try ((exfalso;omega);done)));(all_goals ((iterate 2 refine gF ?_);refine pV ?_;refine aV ?_)))|(refine rg 8 ?_;refine mV ?_;refine vV (by exact fs_lss rfl rfl) ?_;refine mV ?_;refine vc_split rfl rfl (fun hb=>?_) (fun hb=>?_)<;>((rw [hb];(try simp only [nm] at hb);try ((exfalso;omega);done)));(all_goals (refine yM ?_;refine yV (by exact fs_geq rfl rfl) ?_;refine yM ?_;refine vc_split rfl rfl (fun hb=>?_) (fun hb=>?_)<;>((rw [hb];(try simp only [nm] at hb);try ((exfalso;omega);done)))));(all_goals first|(refine gT ?_;(refine mV ?_);refine gT ?_;(refine mV ?_);refine gT ?_;(refine vV (by exact fs_lss rfl rfl) ?_))|(iterate 3 refine gF ?_));(all_goals (refine gT ?_;refine pV ?_;refine pV ?_;refine aV ?_)))|(refine rg 5 ?_;refine mV ?_;refine aV ?_)|(refine rg 10 ?_;refine mV ?_;refine flV T ?_;refine vV (by exact fs_gtr rfl rfl) ?_)|(refine rg 11 ?_;refine mmV ?_;refine aaV ?_;refine aV ?_)|refine nZ ?_)
      all_goals first | (exfalso;omega) | exact rQ
    · rw [if_neg h1,if_neg h2,if_neg h3]
      repeat' (first|refine wS ?_|refine wK ?_|refine wR ?_|refine wU ?_|(refine wC rfl (fun hb=>?_) (fun hb=>?_)<;>(((try simp only [nm] at hb);try (exfalso;omega))))|(refine rg 6 ?_;refine mV ?_;refine vV (by exact fs_lss rfl rfl) ?_;refine mV ?_;refine vc_split rfl rfl (fun hb=>?_) (fun hb=>?_)<;>((rw [hb];(try simp only [nm] at hb);try ((exfalso;omega);done)));(all_goals ((iterate 2 refine gF ?_);refine pV ?_;refine aV ?_)))|(refine rg 8 ?_;refine mV ?_;refine vV (by exact fs_lss rfl rfl) ?_;refine mV ?_;refine vc_split rfl rfl (fun hb=>?_) (fun hb=>?_)<;>((rw [hb];(try simp only [nm] at hb);try ((exfalso;omega);done)));(all_goals (refine yM ?_;refine yV (by exact fs_geq rfl rfl) ?_;refine yM ?_;refine vc_split rfl rfl (fun hb=>?_) (fun hb=>?_)<;>((rw [hb];(try simp only [nm] at hb);try ((exfalso;omega);done)))));(all_goals first|(refine gT ?_;(refine mV ?_);refine gT ?_;(refine mV ?_);refine gT ?_;(refine vV (by exact fs_lss rfl rfl) ?_))|(iterate 3 refine gF ?_));(all_goals (refine gT ?_;refine pV ?_;refine pV ?_;refine aV ?_)))|(refine rg 5 ?_;refine mV ?_;refine aV ?_)|(refine rg 10 ?_;refine mV ?_;refine flV T ?_;refine vV (by exact fs_gtr rfl rfl) ?_)|(refine rg 12 ?_;refine mmV ?_;refine aaV ?_;refine aV ?_)|refine nZ ?_)
      all_goals first | (exfalso;omega) | exact rQ
end Go.Proofs.YtdmajnjoeidgeaaGreat
