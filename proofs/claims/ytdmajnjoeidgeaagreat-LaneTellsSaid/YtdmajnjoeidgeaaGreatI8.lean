/-
  Texts of the logic and of the layer,in one module (part 8).
-/
import Derived.Test.YtdmajnjoeidgeaaGreatI7
set_option linter.unusedVariables false
set_option linter.unusedSimpArgs false
namespace Go.Ab
open Go
theorem OZ {P : Program} {f : FuncId} {args args' : List AV} {hin : Hp} {Φ : AV → Hp → Prop} (h : fT P f args hin Φ) (ha : ∀ (S : Nat → Prop) w ρ ys,RL S w args' ρ ys → RL S w args ρ ys) : fT P f args' hin Φ :=
  ⟨h.1,fun ρ S w vs hs hv => h.2 ρ S w vs hs (ha S w ρ vs hv)⟩
end Go.Ab
namespace Go.Proofs.YtdmajnjoeidgeaaGreat
open Go Go.Ab Go.Fl Go.Re Go.Ln
attribute [local irreducible] VC AW bR bQ fT nK
set_option maxHeartbeats 4000000
theorem XE (l : List Int) (v : Int) (hl : l.length ≤ 1000) : bQ Tryz.prog 119 [.rowE (aI l) 1,.i v] [] (.b (decide (v ∈ l))) [] := by
  have hlen : (aI l).length = l.length := by simp
  refine dD T Tryz.func119 rfl rfl rfl rfl ?_
  (repeat' (first|refine wS ?_|refine wB ?_|(refine rg 0 (aV ?_))|(refine rg 1 (aV ?_))|refine nZ ?_));refine bV (X := {k : Nat // k ≤ l.length ∧ (v ∈ l ↔ v ∈ l.drop k)}) (fun k => [(0,.rowE (aI l) 1),(1,.i v),(5,.i k.1)]) (fun _ => []) (fun k => l.length - k.1) ⟨0,by simp⟩ (eI []) ?_
  rintro ⟨k,hk,hf⟩;dsimp only;by_cases hlt : k < l.length
  · repeat' (first|refine wS ?_|refine wB ?_|refine wK ?_|refine wR ?_|(refine wC rfl (fun hb => ?_) (fun hb => ?_) <;> (((try simp only [nm] at hb);try (exfalso;omega))))|(refine rg 2 (eX rfl (qW T rfl (vV (bX rfl rfl) ?_))))|(refine rg 4 (eX rfl (vV (ix T rfl (by omega) (aE l) (iF (k := k) (by omega))) (lW T rfl (mW rfl (vV (gD rfl rfl) ?_))))))|(refine rg 5 (aV ?_))|(refine iA 3 rfl rfl rfl (by omega) (by omega) ?_)|(refine nZ ?_))
    · refine gV (.inl rfl) rfl (xF ?_);have : v ∈ l := by rw [← hb];exact dB hlt
      simp [this]
    · refine ⟨⟨k + 1,by omega,?_⟩,by dsimp only;omega,eI []⟩
      rw [hf,bK hlt];simp only [bL];exact ⟨fun h => h.resolve_left (fun e => hb e.symm),.inr⟩
  · (repeat' (first|refine wS ?_|refine wR ?_|refine wE ?_|(refine wC rfl (fun hb => ?_) (fun hb => ?_) <;> (((try simp only [nm] at hb);try (exfalso;omega))))|(refine rg 2 (eX rfl (qW T rfl (vV (bX rfl rfl) ?_))))|(refine rg 6 (aV ?_))|(refine nZ ?_)));refine gV (.inl rfl) rfl (xF ?_)
    rw [fK (by omega)] at hf
    simp at hf;simp [hf]
theorem H6 (s : lN) (g : iL s.fl) (c : Int) : bQ Tryz.prog 49 [.agg (fS s),.i c] [] (.b (decide (c ∈ bO s.fl))) [] := by
  have hsz := H5 g;have cI := SD g c;have hkl : (aI s.fl.k).length = s.fl.k.length := aR _;by_cases hr : 0 ≤ c ∧ c < s.fl.size
  · have hi : (decide (0 ≤ c) && decide (c < s.fl.size)) = true := by
      rw [aT,decide_eq_true_eq,decide_eq_true_eq];exact hr
    rw [hi] at cI;have q1 := eY (l := s.fl.k) (j := c) (i := c.toNat) 0 (by omega) (by omega)
    have hm : c ∈ bO s.fl ↔ s.fl.k.getD c.toNat 0 = 4 ∨ s.fl.k.getD c.toNat 0 = 5 := by
      rw [jG];unfold ZY;rw [D5,decide_eq_true_eq,decide_eq_true_eq];exact ⟨fun h => h.2.2,fun h => ⟨hr.1,by omega,h⟩⟩
    generalize s.fl.k.getD c.toNat 0 = y at *;have hb : decide (c ∈ bO s.fl) = decide (y = 4 ∨ y = 5) := by rw [decide_eq_decide];exact hm
    rw [hb];refine dD T Tryz.func49 rfl rfl rfl rfl ?_
    (repeat' (first|refine wS ?_|refine wK ?_|refine wR ?_|refine wU ?_|(refine rg 0 (bH (bN rfl rfl) rfl (aV ?_)))|(refine rg 1 (eK T rfl (mW rfl (vV (kC (cI)) (vV (bB rfl) ?_)))))|(refine rg 3 (fW T rfl (eK T rfl (mW rfl (vV (ix T rfl (by omega) (aE _) q1) (lW T rfl (vV (gD rfl rfl) (mV ?_)))))));refine aO rfl rfl ?_ ?_<;>(intro hb;rw [hb];(try simp only [nm] at hb);try (exfalso;omega));(all_goals first|(refine gT (fW T rfl (gT (fW T rfl (gT (lW T rfl (gT (mW rfl (gT (vV (ix T rfl (by omega) (aE _) q1) ?_)))))))));refine gT (lW T rfl (gT (vV (gD rfl rfl) ?_))))|(iterate 7 refine gF ?_));(all_goals (refine pW rfl (aV ?_))))|refine nZ ?_));all_goals
      refine gV (.inl rfl) rfl (xF ?_)
      first | (symm;exact decide_eq_true (by omega)) | (symm;exact decide_eq_false (by omega)) | (exact decide_eq_decide.2 (by omega)) | (simp [*];done)
  · have hi : (decide (0 ≤ c) && decide (c < s.fl.size)) = false := by
      rw [← fE,aT,decide_eq_true_eq,decide_eq_true_eq];exact hr
    rw [hi] at cI;rw [decide_eq_false (fun h => by obtain ⟨h1,h2,_⟩ := jG.1 h;exact hr ⟨h1,by omega⟩)]
    refine dD T Tryz.func49 rfl rfl rfl rfl ?_
    (repeat' (first|refine wS ?_|refine wR ?_|refine wT ?_|(refine rg 0 (bH (bN rfl rfl) rfl (aV ?_)))|(refine rg 1 (eK T rfl (mW rfl (vV (kC (cI)) (vV (bB rfl) ?_)))))|(refine rg 2 (aV ?_))|refine nZ ?_));all_goals exact rQ
def Q2 (s : lN) (c : Int) (av l : List Int) : Prop :=
  (l = [] ∧ ∀ l',oU (iN s (bO s.fl) c) l' → ∃ z,z ∈ l'.drop 1 ∧ z ∈ av) ∨ (oU (iN s (bO s.fl) c) l ∧ ∀ z,z ∈ l.drop 1 → z ∉ av)
def WG (fr : List Int) (z : Int) : Int := if 0 ≤ z then fr.getD z.toNat (-1) else -1
theorem V3 {fr : List Int} {y x z : Int} (h0 : 0 ≤ y) (h1 : y < fr.length) : WG (fr.set y.toNat x) z = if z = y then x else WG fr z := by
  unfold WG;by_cases e : z = y
  · subst e;rw [if_pos h0,if_pos rfl,nQ,if_pos ⟨rfl,by omega⟩]
  · rw [if_neg e];by_cases q : 0 ≤ z
    · rw [if_pos q,if_pos q,nQ,if_neg (fun w => e (by omega))]
    · rw [if_neg q,if_neg q]
structure zK0 (s : lN) (c : Int) (av fr q : List Int) (i : Nat) : Prop where
  fl : fr.length = s.fl.k.length
  bq : Bq (iN s (bO s.fl) c) (· ∈ av) q (WG fr)
  dn : B0 (iN s (bO s.fl) c) (· ∈ av) q i
  il : i ≤ q.length
  rg : ∀ y : Int,y ∈ q → 0 ≤ y ∧ y < s.fl.k.length
  vis : ∀ y : Int,0 ≤ y → y < s.fl.k.length → (0 ≤ WG fr y ↔ y ∈ q)
theorem zK0.ql {s : lN} {c : Int} {av fr q : List Int} {i : Nat} (h : zK0 s c av fr q i) : q.length ≤ s.fl.k.length := by
  have := kA (m := (List.range s.fl.k.length).map fun i : Nat => (i : Int)) h.bq.nd fun x hx => by
    obtain ⟨a,b⟩ := h.rg x hx;exact aQ.2 ⟨x.toNat,fC.2 (by omega),by omega⟩
  simpa using this
theorem YA (s : lN) (W : List Int) (c x : Int) : (iN s W c).ex x = sW s.fl x := rfl
theorem qL (l : List Int) (j : Nat) (v : Int) : (aI l).set j [AV.i v] = aI (l.set j v) := by
  simp [xG]
theorem RP (s : lN) (g : iL s.fl) (c : Int) (hc : 0 ≤ c ∧ c < s.fl.k.length) (av : List Int) (hav : av.length ≤ 1000) : fT Tryz.prog 83 [.agg (fS s),.i c,.rowE (aI av) 1] [] (fun r o => o = [] ∧ ∃ l,r = .rowE (aI l) 1 ∧ Q2 s c av l) := by
  have hN := g.le;have hkl : (aI s.fl.k).length = s.fl.k.length := aR _;refine E9 (Φ := fun r o => (r = .nils ∧ o = [] ∧ Q2 s c av []) ∨ (∃ l,r = .sl 0 0 l.length 1 ∧ o = [.arr (aI l) 1] ∧ Q2 s c av l)) ?_ ?_;rotate_left
  · rintro r o (⟨rfl,rfl,h⟩ | ⟨l,rfl,rfl,h⟩)
    · exact ⟨_,.nils 1,[],rfl,h⟩
    · exact ⟨_,lA rfl rfl,l,rfl,h⟩
  refine mM T Tryz.func83 rfl rfl rfl rfl ?_
  (repeat' (first|refine wS ?_|refine wB ?_|(refine rg 0 (bH (bN rfl rfl) rfl (aV ?_)))|(refine rg 1 (fW T rfl (eK T rfl (qW T rfl (aV ?_)))))|(refine rg 2 (mW rfl (bH (by exact tX T rfl rfl rfl rfl (by omega) (by omega) (by dsimp only;omega) (by omega) (by decide)) rfl ?_));refine aV ?_)|(refine rg 3 (aV ?_))|refine nZ ?_));refine bV (X := {p : Nat × List Int // p.1 ≤ s.fl.k.length ∧ p.2.length = s.fl.k.length ∧ ∀ i,i < p.1 → p.2.getD i (-1) = -1}) (fun p => [(1,.i c),(2,.rowE (aI av) 1),(3,.ptr 0 0),(7,.i s.fl.k.length),(8,.sl 1 0 s.fl.k.length 1),(9,.i (p.1.1 : Int))]) (fun p => [.cells (fS s),.arr (aI p.1.2) 1]) (fun p => s.fl.k.length - p.1.1) ⟨(0,List.replicate s.fl.k.length 0),cH _,by simp,gL⟩ ?_ ?_
  · exact ⟨[0,1],rfl,⟨rfl,rfl,rfl,congrArg (fun n : Nat => some (AV.i n)) hkl,congrArg (fun n : Nat => some (AV.sl 1 0 n 1)) hkl,rfl,trivial⟩,⟨.inr rfl,.inr (aC rfl (by dsimp only;rw [hkl,aX];exact (vI (f := fun n : Int => [AV.i n]) (a := 0) (n := s.fl.k.length)).symm) (aM _)),trivial⟩,by decide,gL⟩
  rintro ⟨⟨j,fr⟩,hj,hfl,hfi⟩;dsimp only at hj hfl hfi ⊢;have hfrl : (aI fr).length = s.fl.k.length := by rw [aR,hfl]
  by_cases hlt : j < s.fl.k.length
  · have q0 : (aI fr)[0 + (j : Int).toNat]? = some [AV.i (fr.getD j 0)] := by rw [Nat.zero_add];exact eY 0 (by omega) (by simp)
    have hfi2 : ∀ i,i < j + 1 → (fr.set j (-1)).getD i (-1) = -1 := fun i hi => by
      rw [nQ];split
      · rfl
      · exact hfi i (by omega)
    have hst : (aI fr).set (0 + (j : Int).toNat) [AV.i (-1)] = aI (fr.set j (-1)) := by rw [Nat.zero_add,aX];exact qL _ _ _
    (repeat' (first|refine wS ?_|refine wB ?_|refine wK ?_|refine wT ?_|(refine rg 4 (eX rfl (vV (aL rfl rfl (by omega)) ?_)))|(refine rg 6 (eX rfl (vV (bZ T rfl rfl rfl rfl rfl (by omega) (by omega)) (bJ T rfl rfl rfl rfl rfl rfl (by decide) (rA rfl q0 rfl) ?_))))|(refine iA 5 rfl rfl rfl (by omega) (by omega) ?_)|refine nZ ?_));all_goals exact ⟨⟨(j + 1,fr.set j (-1)),hlt,by simpa using hfl,hfi2⟩,by dsimp only;omega,[0,1],rfl,(by repeat first|exact trivial|refine ⟨rfl,?_⟩),⟨.inr rfl,.inr (aC rfl hst (aM _)),trivial⟩,by decide,gL⟩
  obtain rfl : j = s.fl.k.length := by omega
  have q0 : (aI fr)[0 + c.toNat]? = some [AV.i (fr.getD c.toNat 0)] := by rw [Nat.zero_add];exact eY 0 (by omega) (by omega)
  have hst : (aI fr).set (0 + c.toNat) [AV.i c] = aI (fr.set c.toNat c) := by rw [Nat.zero_add];exact qL _ _ _
  have hI : zK0 s c av (fr.set c.toNat c) [c] 0 := by
    refine ⟨by simpa using hfl,.start,(fun k x hk => absurd hk (dJ _)),cH _,fun y hy => by simp at hy;subst hy;exact hc,fun y h0 h1 => ?_⟩
    rw [V3 hc.1 (by omega)]
    by_cases e : y = c
    · subst e;simp [h0]
    · rw [if_neg e];unfold WG;rw [if_pos h0,hfi _ (by omega)];simp [e]
  clear hfi
  (repeat' (first|refine wS ?_|refine wB ?_|refine wE ?_|refine wU ?_|(refine rg 4 (eX rfl (vV (bG rfl rfl (by omega)) ?_)))|(refine rg 7 (eX rfl (mW rfl (vV (bZ T rfl rfl rfl rfl rfl (by omega) (by omega)) (bJ T rfl rfl rfl rfl rfl rfl (by decide) (rA rfl q0 rfl) ?_)))))|(refine rg 8 (mW rfl (bH (by exact aS T rfl rfl (by decide) (by decide) rfl rfl rfl) rfl ?_));refine aV ?_)|(refine rg 9 (aV ?_))|refine nZ ?_));refine bV (X := {p : List Int × List Int × Nat // zK0 s c av p.1 p.2.1 p.2.2}) (fun p => [(1,.i c),(2,.rowE (aI av) 1),(3,.ptr 0 0),(8,.sl 1 0 s.fl.k.length 1),(10,.sl 2 0 p.1.2.1.length 1),(11,.i (p.1.2.2 : Int))]) (fun p => [.cells (fS s),.arr (aI p.1.1) 1,.arr (aI p.1.2.1) 1]) (fun p => s.fl.k.length - p.1.2.2) ⟨(fr.set c.toNat c,[c],0),hI⟩ ⟨[0,1,2],rfl,(by repeat first|exact trivial|refine ⟨rfl,?_⟩),⟨.inr rfl,.inr (aC rfl hst (aM _)),.inr rfl,trivial⟩,by decide,gL⟩ ?_
  clear hI hst q0 hfl hfrl;rintro ⟨⟨fr,q,i⟩,hI⟩;dsimp only at hI ⊢;have hql := hI.ql;have hfl := hI.fl;have hfrl : (aI fr).length = s.fl.k.length := by rw [aR,hfl]
  by_cases hil : i < q.length
  case neg =>
    have hie : i = q.length := by have := hI.il;omega
    have hok : Q2 s c av [] := by
      refine .inl ⟨rfl,fun l' hl' => Classical.byContradiction fun hn => ?_⟩
      obtain ⟨_,r,rfl,hw⟩ := hl';have hd := hI.dn;rw [hie] at hd;refine hd.no r c (bD hI.bq.head) hw fun y hy hya => hn ⟨y,?_,hya⟩
      simpa using hy
    (repeat' (first|refine wS ?_|refine wR ?_|refine wE ?_|refine wU ?_|(refine rg 10 (eX rfl (qW T rfl (vV (bG rfl rfl (by omega)) ?_))))|(refine rg 27 (aV ?_))|refine nZ ?_));all_goals exact ⟨_,[],.inl ⟨rfl,rfl,hok⟩,.inl rfl,[],_,rfl,rfl,rfl,trivial,dK,gL⟩
  have hxq : q[i]? = some q[i] := aB hil;have qx : (aI q)[0 + (i : Int).toNat]? = some [AV.i q[i]] := by rw [Nat.zero_add,aX];exact iF hil
  obtain ⟨hx0,hx1⟩ := hI.rg _ (dB hil);have qk := eY (l := s.fl.k) (j := q[i]) (i := (q[i]).toNat) 0 (by omega) (by omega)
  generalize q[i] = x at *;by_cases hx : s.fl.k.getD x.toNat 0 = 5
  · have hbl := Bl.start (g := iN s (bO s.fl) c) (av := (· ∈ av)) hxq (by rw [YA];unfold sW;exact decide_eq_true hx)
    (repeat' (first|refine wS ?_|refine wB ?_|refine wK ?_|refine wT ?_|(refine rg 10 (eX rfl (qW T rfl (vV (aL rfl rfl (by omega)) ?_))))|(refine rg 12 (eX rfl (vV (bZ T rfl rfl rfl rfl rfl (by omega) (by omega)) (vV (cJ T rfl rfl (eO rfl qx) rfl) (aV ?_)))))|(refine rg 13 (fW T rfl (fW T rfl (vV (cJ T rfl rfl rfl rfl) (mW rfl (vV (ix T rfl (by omega) (aE _) qk) (vV (cJ T rfl rfl rfl rfl) (vV (gH rfl rfl hx) ?_))))))))|(refine rg 14 (aV ?_))|refine nZ ?_));refine rR 13 1 rfl (by decide) ?_
    refine bV (X := {p : Int × List Int × Nat // Bl (iN s (bO s.fl) c) (· ∈ av) q p.1 p.2.1 p.2.2}) (fun p => [(1,.i c),(8,.sl 0 0 s.fl.k.length 1),(12,.i p.1.1),(13,.sl 1 0 p.1.2.1.length 1)]) (fun p => [.arr (aI fr) 1,.arr (aI p.1.2.1) 1]) (fun p => p.1.2.2) ⟨(x,[],i),hbl⟩ ⟨[1,3],rfl,(by repeat first|exact trivial|refine ⟨rfl,?_⟩),⟨.inr (aC rfl rfl (aM _)),.inr rfl,trivial⟩,by decide,gL⟩ ?_
    rintro ⟨⟨z,l,k⟩,hb⟩;dsimp only at hb ⊢;have hll := hb.len;by_cases hz : z = c
    · subst hz;have hdn := Bl.done hI.bq hb;have hok : Q2 s z av (z :: l) := .inr ⟨hdn.1,fun y hy => hdn.2 y (by simpa using hy)⟩
      (repeat' (first|refine wS ?_|refine wR ?_|refine wE ?_|refine wU ?_|(refine rg 15 (eX rfl (vV (gE rfl rfl rfl) ?_)))|(refine rg 18 (mW rfl (bH (by exact aS T rfl rfl (by decide) (by decide) rfl rfl rfl) rfl ?_));refine mW rfl (eL T rfl rfl rfl rfl rfl rfl (by simp) (iU.whole rfl (by simp)) (pQ _) (by simp;omega) (by simp;omega) rfl ?_);refine aV ?_)|refine nZ ?_));all_goals exact ⟨_,_,.inr ⟨z :: l,rfl,rfl,hok⟩,.inl rfl,[3],_,rfl,(by show AV.sl 3 0 (1 + (aI l).length) 1 = AV.sl 3 0 (z :: l).length 1;rw [aR,List.length_cons,qY]),rfl,⟨.inr (aC rfl rfl (aM _)),trivial⟩,by decide,gL⟩
    · obtain ⟨m,hmk,hb2⟩ := Bl.more hI.bq hb hz;obtain ⟨hz0,hz1⟩ := hI.rg _ (bD hb.at');have qz : (aI fr)[0 + z.toNat]? = some [AV.i (fr.getD z.toNat (-1))] := by rw [Nat.zero_add];exact eY (-1) (by omega) (by omega)
      have hfz : WG fr z = fr.getD z.toNat (-1) := by unfold WG;rw [if_pos hz0]
      rw [hfz] at hb2
      (repeat' (first|refine wS ?_|refine wB ?_|refine wK ?_|refine wT ?_|(refine rg 15 (eX rfl (vV (lC rfl rfl hz) ?_)))|(refine rg 16 (mW rfl (bH (by exact aS T rfl rfl (by decide) (by decide) rfl rfl rfl) rfl ?_));refine mW rfl (eL T rfl rfl rfl rfl rfl rfl (by simp) (iU.whole rfl (by simp)) (pQ _) (by simp;omega) (by simp;omega) rfl ?_);refine aV ?_)|(refine rg 17 (eX rfl (vV (bZ T rfl rfl rfl rfl rfl (by omega) (by omega)) (vV (cJ T rfl rfl (eO rfl qz) rfl) (aV ?_)))))|refine nZ ?_));all_goals exact ⟨⟨(_,z :: l,m),hb2⟩,hmk,[0,3],rfl,⟨rfl,rfl,rfl,congrArg (fun n : Nat => some (AV.sl 3 0 n 1)) (show 1 + (aI l).length = (z :: l).length by rw [aR,List.length_cons,qY]),trivial⟩,⟨.inr (aC rfl rfl (aM _)),.inr (aC rfl rfl (aM _)),trivial⟩,by decide,gL⟩
  · have hxe : sW s.fl x = false := by unfold sW;exact decide_eq_false hx
    repeat' (first|refine wS ?_|refine wB ?_|refine wK ?_|refine wT ?_|refine wU ?_|(refine rg 10 (eX rfl (qW T rfl (vV (aL rfl rfl (by omega)) ?_))))|(refine rg 12 (eX rfl (vV (bZ T rfl rfl rfl rfl rfl (by omega) (by omega)) (vV (cJ T rfl rfl (eO rfl qx) rfl) (aV ?_)))))|(refine rg 13 (fW T rfl (fW T rfl (vV (cJ T rfl rfl rfl rfl) (mW rfl (vV (ix T rfl (by omega) (aE _) qk) (vV (cJ T rfl rfl rfl rfl) (vV (eN rfl rfl hx) ?_))))))))|(refine rg 19 (aV ?_))|refine nZ ?_)
    clear qx qk hql hfl hfrl;refine bV (X := {p : List Int × List Int × Nat // zK0 s c av p.1 p.2.1 i ∧ p.2.1[i]? = some x ∧ p.2.2 ≤ 6 ∧ ∀ d : Nat,d < p.2.2 → ∀ y,kK s.fl x d = some y → y ∈ bO s.fl → y ∉ av → y ∈ p.2.1}) (fun p => [(1,.i c),(2,.rowE (aI av) 1),(3,.ptr 0 0),(8,.sl 1 0 s.fl.k.length 1),(10,.sl 2 0 p.1.2.1.length 1),(11,.i (i : Int)),(12,.i x),(14,.i (p.1.2.2 : Int))]) (fun p => [.cells (fS s),.arr (aI p.1.1) 1,.arr (aI p.1.2.1) 1]) (fun p => 6 - p.1.2.2) ⟨(fr,q,0),hI,hxq,cH _,fun d hd => absurd hd (dJ _)⟩ ⟨[0,1,2],rfl,(by repeat first|exact trivial|refine ⟨rfl,?_⟩),⟨.inr rfl,.inr (aC rfl rfl (aM _)),.inr (aC rfl rfl (aM _)),trivial⟩,by decide,gL⟩ ?_
    clear hI hxq hil;rintro ⟨⟨fr,q,d⟩,hI,hxq,hd6,hds⟩;dsimp only at hI hxq hd6 hds ⊢;have hql := hI.ql;have hfl := hI.fl;have hfrl : (aI fr).length = s.fl.k.length := by rw [aR,hfl]
    by_cases hd : d < 6
    case neg =>
      obtain rfl : d = 6 := by omega
      have hdn : B0 (iN s (bO s.fl) c) (· ∈ av) q (i + 1) := hI.dn.next hxq hxe fun y hy hya => by
        obtain ⟨h1,d,h2,h3⟩ := nT.1 hy;exact hds d h2 y h3 h1 hya
      have hil := (aA.1 hxq).1
      (repeat' (first|refine wS ?_|refine wE ?_|refine wU ?_|(refine rg 20 (mW rfl (vV (bG rfl rfl (by omega)) ?_)))|(refine iA 11 rfl rfl rfl (by omega) (by omega) ?_)|refine nZ ?_));all_goals exact ⟨⟨(fr,q,i + 1),⟨hI.fl,hI.bq,hdn,hil,hI.rg,hI.vis⟩⟩,by dsimp only;omega,[0,1,2],rfl,(by repeat first|exact trivial|refine ⟨rfl,?_⟩),⟨.inr rfl,.inr (aC rfl rfl (aM _)),.inr (aC rfl rfl (aM _)),trivial⟩,by decide,gL⟩
    have cn := U4 g x d;have more : ∀ q' : List Int,(∀ z,z ∈ q → z ∈ q') → (∀ y,kK s.fl x d = some y → y ∈ bO s.fl → y ∉ av → y ∈ q') → ∀ d' : Nat,d' < d + 1 → ∀ y,kK s.fl x d' = some y → y ∈ bO s.fl → y ∉ av → y ∈ q' := fun q' h1 h2 d' hd' y hy hw ha => by
      by_cases e : d' = d
      · subst e;exact h2 y hy hw ha
      · exact h1 _ (hds d' (by omega) y hy hw ha)
    cases hm : kK s.fl x d with
    | none =>
      rw [hm] at cn more;have hmo := more q (fun _ h => h) (fun y h => nomatch h)
      (repeat' (first|refine wS ?_|refine wB ?_|refine wK ?_|refine wT ?_|refine wU ?_|(refine rg 20 (mW rfl (vV (aL rfl rfl (by omega)) ?_)))|(refine rg 22 (eK T rfl (eX rfl (vV (kC (cn)) (mW rfl (xW rfl (xW rfl (iZ ?_))))))))|(refine rg 23 (mV ?_))|(refine iA 21 rfl rfl rfl (by omega) (by omega) ?_)|refine nZ ?_));all_goals exact ⟨⟨(fr,q,d + 1),hI,hxq,hd,hmo⟩,by dsimp only;omega,[0,1,2],rfl,(by repeat first|exact trivial|refine ⟨rfl,?_⟩),⟨.inr rfl,.inr (aC rfl rfl (aM _)),.inr (aC rfl rfl (aM _)),trivial⟩,by decide,gL⟩
    | some y =>
      have cw := H6 s g y;have ch := XE av y hav;rw [hm] at cn more;have hyr := (lB g hm).2.2.1;have hsz := H5 g;have nF := hI.vis y hyr.1 (by omega)
      have hfy : WG fr y = fr.getD y.toNat (-1) := by unfold WG;rw [if_pos hyr.1]
      rw [hfy] at nF;have qy : (aI fr)[0 + y.toNat]? = some [AV.i (fr.getD y.toNat (-1))] := by rw [Nat.zero_add];exact eY (-1) (by omega) (by omega)
      have hadd : y ∈ bO s.fl → y ∉ av → y ∉ q → zK0 s c av (fr.set y.toNat x) (q ++ [y]) i := fun hw ha hn => by
        have hsp : y ∈ (iN s (bO s.fl) c).sp x := nT.2 ⟨hw,d,hd,hm⟩;refine ⟨by simpa using hfl,hI.bq.add hxq hsp ha hxe hn (by rw [V3 hyr.1 (by omega),if_pos rfl]) (fun z hz => by rw [V3 hyr.1 (by omega),if_neg hz]),hI.dn.add hI.il y,by rw [aF];have := hI.il;omega,fun z hz => ?_,fun z h0 h1 => ?_⟩
        · rcases bI.1 hz with hz | hz
          · exact hI.rg z hz
          · simp at hz;subst hz;exact ⟨hyr.1,by omega⟩
        · rw [V3 hyr.1 (by omega),bI,bY]
          by_cases e : z = y
          · subst e;simp [hx0]
          · rw [if_neg e,hI.vis z h0 h1];simp [e]
      generalize fr.getD y.toNat (-1) = v at *;have hno : (y ∉ bO s.fl ∨ 0 ≤ v ∨ y ∈ av) ∨ (y ∈ bO s.fl ∧ v < 0 ∧ y ∉ av) := by
        by_cases h1 : y ∈ bO s.fl
        · by_cases h2 : 0 ≤ v
          · exact .inl (.inr (.inl h2))
          · by_cases h3 : y ∈ av
            · exact .inl (.inr (.inr h3))
            · exact .inr ⟨h1,by omega,h3⟩
        · exact .inl (.inl h1)
      rcases hno with hno | ⟨hw,hv,ha⟩
      · have hmo := more q (fun _ h => h) (fun z h hw ha => by
          cases h;rcases hno with h | h | h
          · exact absurd hw h
          · exact nF.1 h
          · exact absurd h ha)
        have fin : ∀ (e : Unit),True := fun _ => trivial
        by_cases h1 : y ∈ bO s.fl
        · rw [decide_eq_true h1] at cw;by_cases h2 : v < 0
          · have h3 : y ∈ av := by rcases hno with h | h | h;exact absurd h1 h;omega;exact h
            rw [decide_eq_true h3] at ch
            (repeat' (first|refine wS ?_|refine wB ?_|refine wK ?_|refine wT ?_|refine wU ?_|(refine rg 20 (mW rfl (vV (aL rfl rfl (by omega)) ?_)))|(refine rg 22 (fW T rfl (vV (cJ T rfl rfl rfl rfl) (eX rfl (vV (kC (cn)) (mW rfl (xW rfl (xW rfl (iZ ?_)))))))))|(refine rg 23 (mV ?_))|(refine rg 24 (vV (cJ T rfl rfl rfl rfl) (mW rfl (vV (kC (cw)) (mW rfl (yN rfl (yN rfl (yV (bZ (j := y) T rfl rfl rfl rfl rfl (by omega) (by omega)) (yV (cJ T rfl rfl (eO rfl qy) rfl) (yV (aL rfl rfl (by omega)) ?_)))))))));refine pW rfl (mW rfl (yN rfl (yN rfl (yV (kC (ch)) (yV (bB rfl) (pV ?_)))))))|(refine iA 21 rfl rfl rfl (by omega) (by omega) ?_)|refine nZ ?_));all_goals exact ⟨⟨(fr,q,d + 1),hI,hxq,hd,hmo⟩,by dsimp only;omega,[0,1,2],rfl,(by repeat first|exact trivial|refine ⟨rfl,?_⟩),⟨.inr rfl,.inr (aC rfl rfl (aM _)),.inr (aC rfl rfl (aM _)),trivial⟩,by decide,gL⟩
          · (repeat' (first|refine wS ?_|refine wB ?_|refine wK ?_|refine iY rfl ?_|refine iB rfl ?_|(refine rg 20 (mW rfl (vV (aL rfl rfl (by omega)) ?_)))|(refine rg 22 (fW T rfl (vV (cJ T rfl rfl rfl rfl) (eX rfl (vV (kC (cn)) (mW rfl (xW rfl (xW rfl (iZ ?_)))))))))|(refine rg 23 (mV ?_))|(refine rg 24 (vV (cJ T rfl rfl rfl rfl) (mW rfl (vV (kC (cw)) (mW rfl (yN rfl (yN rfl (yV (bZ (j := y) T rfl rfl rfl rfl rfl (by omega) (by omega)) (yV (cJ T rfl rfl (eO rfl qy) rfl) (yV (bG rfl rfl (by omega)) ?_)))))))));refine pW rfl (mV ?_);(iterate 4 refine gF ?_);refine pV ?_)|(refine iA 21 rfl rfl rfl (by omega) (by omega) ?_)|(refine nZ ?_)));all_goals exact ⟨⟨(fr,q,d + 1),hI,hxq,hd,hmo⟩,by dsimp only;omega,[0,1,2],rfl,(by repeat first|exact trivial|refine ⟨rfl,?_⟩),⟨.inr rfl,.inr (aC rfl rfl (aM _)),.inr (aC rfl rfl (aM _)),trivial⟩,by decide,gL⟩
        · rw [decide_eq_false h1] at cw
          (repeat' (first|refine wS ?_|refine wB ?_|refine wK ?_|refine wT ?_|refine wU ?_|(refine rg 20 (mW rfl (vV (aL rfl rfl (by omega)) ?_)))|(refine rg 22 (eK T rfl (eX rfl (vV (kC (cn)) (mW rfl (xW rfl (xW rfl (iZ ?_))))))))|(refine rg 23 (mV ?_))|(refine rg 24 (lW T rfl (mW rfl (vV (kC (cw)) (mV ?_))));(iterate 5 refine gF ?_);refine pW rfl (mV ?_);(iterate 4 refine gF ?_);refine pV ?_)|(refine iA 21 rfl rfl rfl (by omega) (by omega) ?_)|refine nZ ?_));all_goals exact ⟨⟨(fr,q,d + 1),hI,hxq,hd,hmo⟩,by dsimp only;omega,[0,1,2],rfl,(by repeat first|exact trivial|refine ⟨rfl,?_⟩),⟨.inr rfl,.inr (aC rfl rfl (aM _)),.inr (aC rfl rfl (aM _)),trivial⟩,by decide,gL⟩
      · rw [decide_eq_true hw] at cw;rw [decide_eq_false ha] at ch;have hI2 := hadd hw ha (fun h => by have := nF.2 h;omega)
        have hmo := more (q ++ [y]) (fun z h => iT _ h) (fun z h _ _ => by cases h;simp)
        have hxq2 : (q ++ [y])[i]? = some x := by rw [aG (aA.1 hxq).1];exact hxq
        have hst : (aI fr).set (0 + y.toNat) [AV.i x] = aI (fr.set y.toNat x) := by rw [Nat.zero_add];exact qL _ _ _
        (repeat' (first|refine wS ?_|refine wB ?_|refine wK ?_|refine wT ?_|(refine rg 20 (mW rfl (vV (aL rfl rfl (by omega)) ?_)))|(refine rg 22 (fW T rfl (vV (cJ T rfl rfl rfl rfl) (eX rfl (vV (kC (cn)) (mW rfl (xW rfl (xW rfl (iZ ?_)))))))))|(refine rg 23 (mV ?_))|(refine rg 24 (vV (cJ T rfl rfl rfl rfl) (mW rfl (vV (kC (cw)) (mW rfl (yN rfl (yN rfl (yV (bZ (j := y) T rfl rfl rfl rfl rfl (by omega) (by omega)) (yV (cJ T rfl rfl (eO rfl qy) rfl) (yV (aL rfl rfl (by omega)) ?_)))))))));refine pW rfl (mW rfl (yN rfl (yN rfl (yV (kC (ch)) (yV (bB rfl) (pV ?_)))))))|(refine rg 25 (eX rfl (mW rfl (vV (bZ (j := y) T rfl rfl rfl rfl rfl (by omega) (by omega)) (bJ T rfl rfl rfl rfl rfl rfl (by decide) (rA rfl qy rfl) ?_)))))|(refine rg 26 (eX rfl (bH (by exact aS T rfl rfl (by decide) (by decide) rfl rfl rfl) rfl ?_));refine eL T rfl rfl rfl rfl rfl rfl (by simp) (iU.whole rfl rfl) rfl (by simp;omega) (by simp;omega) rfl ?_;refine aV ?_)|(refine iA 21 rfl rfl rfl (by omega) (by omega) ?_)|refine nZ ?_));all_goals exact ⟨⟨(fr.set y.toNat x,q ++ [y],d + 1),hI2,hxq2,hd,hmo⟩,by dsimp only;omega,[0,1,4],rfl,⟨rfl,rfl,rfl,rfl,by dsimp only;rw [aF];rfl,rfl,rfl,rfl,trivial⟩,⟨.inr rfl,.inr (aC rfl hst (aM _)),.inr (aC rfl oL (aM _)),trivial⟩,by decide,gL⟩
end Go.Proofs.YtdmajnjoeidgeaaGreat
namespace Go.Proofs.YtdmajnjoeidgeaaGreat
open Go Go.Ab Go.Fl Go.Re
attribute [local irreducible] VC AW bR bQ AY VY T3
set_option maxHeartbeats 4000000
theorem ZH (l : List Int) (hl : l.length ≤ 1000000) : bQ Tryz.prog 87 [.rowE (aI l) 1] [] (.sl 0 0 l.length 1) [.arr (aI l) 1] := by
  have hll : (aI l).length = l.length := by simp
  refine dD T Tryz.func87 rfl rfl rfl rfl ?_
  repeat' (first|refine wS ?_|refine wK ?_|refine wT ?_|refine wU ?_|(refine rg 0 (aV ?_))|(refine rg 1 (mV ?_);refine RF T rfl rfl rfl rfl fun b hb=>?_;cases b)|refine nZ ?_)
  · (repeat' (first|refine wR ?_|(refine rg 3 (bH (by exact aS T rfl rfl (by decide) (by decide) rfl rfl rfl) rfl ?_);refine mW rfl (eL T rfl rfl rfl rfl rfl rfl (by decide) (.row (aE l)) (pQ l) (by simp;omega) (by simp;omega) rfl ?_);refine aV ?_)|(refine nZ ?_)));exact ⟨.inl rfl,[1],_,rfl,(by show AV.sl 1 0 (0 + (aI l).length) 1 = AV.sl 1 0 l.length 1;simp),rfl,⟨.inr (aC rfl rfl (aM _)),trivial⟩,by decide,gL⟩
  · have hl0 : l = [] := List.length_eq_zero_iff.1 (Classical.byContradiction fun h => by have := hb (by omega);cases this)
    subst hl0
    (repeat' (first|refine wR ?_|(refine rg 2 (vV (eM rfl) (zC8 2 1 rfl (by decide) ?_)))|refine nZ ?_));exact ⟨.inl rfl,[0],_,rfl,rfl,rfl,⟨.inr (aC rfl rfl (aM _)),trivial⟩,by decide,gL⟩
def K1 (q : Int → Bool) : List Int → Nat → Int
  | [],_ => -1
  | a :: l,k => if q a then k else K1 q l (k + 1)
theorem KR {q : Int → Bool} {l : List Int} {k : Nat} (h : k < l.length) : K1 q (l.drop k) k = if q l[k] then (k : Int) else K1 q (l.drop (k + 1)) (k + 1) := by
  rw [bK h];rfl
theorem AI (q : Int → Bool) : ∀ (l : List Int) (k : Nat), (K1 q l k = -1 ∧ ∀ x, x ∈ l → q x = false) ∨ ∃ j, ∃ h : j < l.length, K1 q l k = ((k + j : Nat) : Int) ∧ q l[j] = true ∧ ∀ x, x ∈ l.take j → q x = false
  | [],k => .inl ⟨rfl,fun x h => nomatch h⟩
  | a :: l,k => by
    unfold K1;cases e : q a
    · rw [if_neg (by simp)]
      rcases AI q l (k + 1) with ⟨h1,h2⟩ | ⟨j,hj,h1,h2,h3⟩
      · exact .inl ⟨h1,fun x hx => by rcases bL.1 hx with rfl | h;exact e;exact h2 x h⟩
      · refine .inr ⟨j + 1,by simpa using hj,by rw [h1];omega,h2,fun x hx => ?_⟩
        rw [uB] at hx;rcases bL.1 hx with rfl | h
        · exact e
        · exact h3 x h
    · rw [if_pos rfl];exact .inr ⟨0,by simp,by simp,e,fun x hx => by simp at hx⟩
theorem zG3 {F : FuncId} {q : Int → Bool} (l : List Int) (hl : l.length ≤ 1000000) (hF : ∀ a,bQ Tryz.prog F [.i a] [] (.b (q a)) []) :
    bQ Tryz.prog 121 [.rowE (aI l) 1,.clo (.func F) [] []] [] (.i (K1 q l 0)) [] := by
  have hlen : (aI l).length = l.length := by simp
  refine dD T Tryz.func121 rfl rfl rfl rfl ?_
  (repeat' (first|refine wS ?_|refine wB ?_|(refine rg 0 (aV ?_))|(refine rg 1 (mW rfl (qW T rfl (mV ?_))))|refine nZ ?_));refine bV (X := {k : Nat // k ≤ l.length ∧ K1 q l 0 = K1 q (l.drop k) k}) (fun k => [(0,.rowE (aI l) 1),(1,.clo (.func F) [] []),(7,.i (aI l).length),(8,.i k.1)]) (fun _ => []) (fun k => l.length - k.1) ⟨0,by simp,rfl⟩ (eI []) ?_
  rintro ⟨k,hk,hf⟩;dsimp only;by_cases hlt : k < l.length
  · have hd := KR (q := q) hlt;have hget := iF hlt;have hc := hF l[k]
    (repeat' (first|refine wS ?_|refine wB ?_|refine wK ?_|refine wR ?_|(refine wC rfl ?_ ?_<;>(intro hb;(try simp only [nm] at hb);try (exfalso;omega)))|(refine rg 2 (vV (bX rfl rfl) ?_))|(refine rg 3 (mW rfl (aV ?_)))|(refine rg 4 (eX rfl (mW rfl (vV (ix T rfl (by omega) (aE l) hget) (lW T rfl (vV (kC (hc)) ?_))))))|(refine rg 5 (mW rfl (aV ?_)))|(refine rg 6 (vV (bP rfl rfl (by omega) (by omega)) (mV ?_)))|refine nZ ?_));all_goals try (exfalso;omega)
    · refine gV (.inl rfl) rfl ?_;rw [hf,hd,if_pos (by simpa using hb)];rfl
    · refine ⟨⟨k + 1,by omega,?_⟩,by dsimp only;omega,eI []⟩
      rw [hf,hd,if_neg (by simpa using hb)]
  · (repeat' (first|refine wS ?_|refine wR ?_|refine wE ?_|(refine wC rfl (fun hb => ?_) (fun hb => ?_) <;> (((try simp only [nm] at hb);try (exfalso;omega))))|(refine rg 2 (vV (bX rfl rfl) ?_))|(refine rg 7 (aV ?_))|(refine nZ ?_)));all_goals try (exfalso;omega)
    refine gV (.inl rfl) rfl ?_;rw [hf,fK (by omega)];rfl
abbrev kM (q : Int → Bool) (l : List Int) : List Int := l.filter fun x => !q x
theorem DE {q : Int → Bool} {l : List Int} {k : Nat} (h : k < l.length) : kM q (l.take (k + 1)) = if q l[k] then kM q (l.take k) else kM q (l.take k) ++ [l[k]] := by
  unfold kM;rw [aJ h,qZ];cases e : q l[k] <;> simp [e]
theorem YK (q : Int → Bool) (l : List Int) (k : Nat) : (kM q (l.take k)).length ≤ k := bU (jB _ _) (by simp;omega)
theorem FS {G l : List Int} {m : Nat} (hg : G.length ≤ m) (hm : m < l.length) : (aI (G ++ l.drop G.length))[0 + (m : Int).toNat]? = some [AV.i l[m]] := by
  rw [Nat.zero_add,aX,aU,aK hg,fY,show G.length + (m - G.length) = m by omega,aB hm];rfl
theorem MD {G l : List Int} {x : Int} (hg : G.length < l.length) : (aI (G ++ l.drop G.length)).set (0 + (G.length : Int).toNat) [AV.i x] = aI ((G ++ [x]) ++ l.drop (G ++ [x]).length) := by
  rw [Nat.zero_add,aX,← xG,nU _ _ (aY _),jI,bK hg,List.set_cons_zero];simp
theorem U7 {G l : List Int} (hg : G.length ≤ l.length) : (aI (G ++ l.drop G.length)).length = l.length := by simp;omega
theorem GG {G l : List Int} : (aI (G ++ l.drop G.length)).take (0 + (G.length : Int).toNat) = aI G := by
  rw [Nat.zero_add,aX,← List.map_take,List.take_append_of_le_length (aY _),bC (aY _)]
theorem UV {F : FuncId} {q : Int → Bool} (l : List Int) (hl : l.length ≤ 1000000) (hF : ∀ a,bQ Tryz.prog F [.i a] [] (.b (q a)) []) :
    bQ Tryz.prog 86 [.sl 0 0 l.length 1,.clo (.func F) [] []] [.arr (aI l) 1] (.sl 0 0 (kM q l).length 1) [.arr (aI (kM q l)) 1] := by
  have hll : (aI l).length = l.length := by simp
  have hi := zG3 l hl hF;refine dD T Tryz.func86 rfl rfl rfl rfl ?_;rcases AI q l 0 with ⟨h1,h2⟩ | ⟨j,hj,h1,h2,h3⟩
  · rw [h1] at hi;have hk : kM q l = l := LP.2 fun x hx => by rw [h2 x hx];rfl
    rw [hk]
    (repeat' (first|refine wS ?_|refine wR ?_|refine wT ?_|(refine rg 0 (aV ?_))|(refine rg 1 (eX rfl (vV (by exact gB rfl rfl hi (.cons (lA rfl rfl) (.cons (.clo .nil .nil) .nil)) rfl rfl) ?_));refine aV ?_)|(refine rg 2 (mW rfl (vV (gD rfl rfl) ?_)))|(refine rg 3 (mW rfl (aV ?_)))|refine nZ ?_));all_goals first | (exfalso;omega) | exact ⟨.inl rfl,[0],_,rfl,rfl,rfl,⟨.inr (aC rfl rfl (aM _)),trivial⟩,by decide,O5⟩
  · rw [h1,Nat.zero_add] at hi;have hk0 : kM q (l.take (j + 1)) = l.take j := by
      rw [DE hj,if_pos h2];exact LP.2 fun x hx => by rw [h3 x hx];rfl
    have hkl : (kM q (l.take (j + 1))).length = j := by rw [hk0];simp;omega
    have hka : kM q (l.take (j + 1)) ++ l.drop (kM q (l.take (j + 1))).length = l := by rw [hkl,hk0,hC]
    have hkf : kM q l = kM q (l.take l.length) := by rw [dU]
    rw [hkf]
    (repeat' (first|refine wS ?_|refine wB ?_|refine wK ?_|refine wU ?_|(refine rg 0 (aV ?_))|(refine rg 1 (eX rfl (vV (by exact gB rfl rfl hi (.cons (lA rfl rfl) (.cons (.clo .nil .nil) .nil)) rfl rfl) ?_));refine aV ?_)|(refine rg 2 (mW rfl (vV (gD rfl rfl) ?_)))|(refine iA 4 rfl rfl rfl (by omega) (by omega) ?_)|refine nZ ?_));all_goals try (exfalso;omega)
    refine bV (X := {m : Nat // m ≤ l.length}) (fun m => [(0,.sl 0 0 l.length 1),(1,.clo (.func F) [] []),(5,.i (kM q (l.take m.1)).length),(6,.i m.1)]) (fun m => [.arr (aI (kM q (l.take m.1) ++ l.drop (kM q (l.take m.1)).length)) 1]) (fun m => l.length - m.1) ⟨j + 1,hj⟩ ⟨[0],rfl,⟨rfl,rfl,by dsimp only;rw [hkl];rfl,rfl,trivial⟩,⟨.inr (aC rfl (by dsimp only;rw [hka]) (aM _)),trivial⟩,by decide,O5⟩ ?_
    rintro ⟨m,hm⟩;dsimp only;have hle := YK q l m;by_cases hlt : m < l.length
    · have hs := DE (q := q) hlt;have hget := FS hle hlt;have hg2 := FS (G := kM q (l.take m)) (l := l) (aY _) (by omega)
      have hset := MD (G := kM q (l.take m)) (l := l) (x := l[m]) (by omega)
      have hc := hF l[m];have hal := U7 (G := kM q (l.take m)) (l := l) (by omega)
      generalize l[m] = x at *;generalize l[(kM q (l.take m)).length] = y at *;generalize hG : kM q (l.take m) = G at *;generalize hA : aI (G ++ l.drop G.length) = A at *;cases e : q x
      · rw [e] at hc hs;rw [if_neg (by simp)] at hs
        (repeat' (first|refine wS ?_|refine wB ?_|refine wK ?_|refine wT ?_|(refine wC rfl ?_ ?_<;>(intro hb;(try simp only [nm] at hb);try (exfalso;omega)))|(refine rg 5 (eX rfl (qW T rfl (vV (bX rfl rfl) ?_))))|(refine rg 7 (eX rfl (vV (bZ T rfl rfl rfl rfl rfl (by omega) (by omega)) (vV (cJ T rfl rfl (eO rfl hget) rfl) (aV ?_)))))|(refine rg 8 (eX rfl (vV (kC (hc)) (vV (bB rfl) ?_))))|(refine rg 9 (eX rfl (mW rfl (vV (bZ T rfl rfl rfl rfl rfl (by omega) (by omega)) (bJ T rfl rfl rfl rfl rfl rfl (by decide) (rA rfl hg2 rfl) ?_)))))|(refine iA 10 rfl rfl rfl (by omega) (by omega) ?_)|(refine iA 6 rfl rfl rfl (by omega) (by omega) ?_)|refine nZ ?_));all_goals try (exfalso;omega)
        all_goals exact ⟨⟨m + 1,hlt⟩,by dsimp only;omega,[0],rfl,⟨rfl,rfl,by rw [hs];simp only [aF];rfl,rfl,trivial⟩,⟨.inr (aC rfl (by rw [hs];exact hset) (aM _)),trivial⟩,by decide,O5⟩
      · rw [e] at hc hs;rw [if_pos rfl] at hs
        (repeat' (first|refine wS ?_|refine wB ?_|refine wK ?_|refine wU ?_|(refine wC rfl ?_ ?_<;>(intro hb;(try simp only [nm] at hb);try (exfalso;omega)))|(refine rg 5 (eX rfl (qW T rfl (vV (bX rfl rfl) ?_))))|(refine rg 7 (eX rfl (vV (bZ T rfl rfl rfl rfl rfl (by omega) (by omega)) (vV (cJ T rfl rfl (eO rfl hget) rfl) (aV ?_)))))|(refine rg 8 (eX rfl (vV (kC (hc)) (vV (bB rfl) ?_))))|(refine iA 6 rfl rfl rfl (by omega) (by omega) ?_)|refine nZ ?_));all_goals try (exfalso;omega)
        all_goals exact ⟨⟨m + 1,hlt⟩,by dsimp only;omega,[0],rfl,⟨rfl,rfl,by rw [hs];rfl,rfl,trivial⟩,⟨.inr (aC rfl (by rw [hs];exact hA.symm) (aM _)),trivial⟩,by decide,O5⟩
    · obtain rfl : m = l.length := by omega
      have hal := U7 (G := kM q (l.take l.length)) (l := l) (by omega)
      have htk := GG (G := kM q (l.take l.length)) (l := l);generalize kM q (l.take l.length) = G at *
      (repeat' (first|refine wS ?_|refine wR ?_|refine wE ?_|(refine wC rfl ?_ ?_<;>(intro hb;(try simp only [nm] at hb);try (exfalso;omega)))|(refine rg 5 (eX rfl (qW T rfl (vV (bX rfl rfl) ?_))))|(refine rg 11 (eX rfl (vV (by exact oN T rfl rfl rfl rfl rfl rfl (by omega) (by omega) (by omega)) ?_));refine GF T rfl rfl rfl rfl rfl (by rw [hal];omega) ?_)|(refine rg 12 (eX rfl (vV (by exact oN T rfl rfl rfl rfl rfl rfl (by omega) (by omega) (by omega)) ?_));refine aV ?_)|refine nZ ?_));all_goals try (exfalso;omega)
      all_goals exact ⟨.inl rfl,[0],_,rfl,(by show AV.sl 0 0 ((G.length : Int) - 0).toNat 1 = AV.sl 0 0 G.length 1;rw [show ((G.length : Int) - 0).toNat = G.length by omega]),rfl,⟨.inr (aC rfl htk (aM _)),trivial⟩,by decide,O5⟩
def jN (l : List Int) : Nat → List Int
  | 0 => []
  | m + 1 => if 0 < m ∧ l.getD m 0 = l.getD (m - 1) 0 then jN l m else jN l m ++ [l.getD m 0]
def K6 (l : List Int) : List Int := jN l l.length
theorem K5 {l : List Int} {m : Nat} (h : 0 < m) (e : l.getD m 0 = l.getD (m - 1) 0) : jN l (m + 1) = jN l m := by
  unfold jN;rw [if_pos ⟨h,e⟩];cases m <;> rfl
theorem IJ {l : List Int} {m : Nat} (e : l.getD m 0 ≠ l.getD (m - 1) 0) : jN l (m + 1) = jN l m ++ [l.getD m 0] := by
  unfold jN;rw [if_neg (fun q => e q.2)];cases m <;> rfl
theorem II (l : List Int) : jN l 1 = [l.getD 0 0] := by
  unfold jN;rw [if_neg (fun q => Nat.lt_irrefl _ q.1)];rfl
theorem jP {l : List Int} {m : Nat} (h : m < l.length) : l.getD m 0 = l[m] := by rw [aH,aB h];rfl
theorem NW {G l : List Int} {m : Nat} {i : Nat} (hg : G.length ≤ m) (hm : m < l.length) (hi : i = m) : (aI (G ++ l.drop G.length))[i]? = some [AV.i (l.getD m 0)] := by
  have := FS hg hm;rw [Nat.zero_add,aX] at this;rw [hi,this,jP hm]
theorem NY {l : List Int} {m i : Nat} (hm : m < l.length) (hi : i = m) : (aI l)[i]? = some [AV.i (l.getD m 0)] := by
  rw [hi,iF hm,jP hm]
theorem QH (l : List Int) (hl : l.length ≤ 1000000) : bQ Tryz.prog 90 [.sl 0 0 l.length 1] [.arr (aI l) 1] (.sl 0 0 (K6 l).length 1) [.arr (aI (K6 l)) 1] := by
  have hll : (aI l).length = l.length := by simp
  refine dD T Tryz.func90 rfl rfl rfl rfl ?_;by_cases h2 : l.length < 2
  · have hk : K6 l = l := by
      match l,h2 with
      | [],_ => rfl
      | [a],_ => exact II _
      | _ :: _ :: _,h => exact absurd h (by simp)
    rw [hk]
    (repeat' (first|refine wS ?_|refine wR ?_|(refine wC rfl ?_ ?_<;>(intro hb;(try simp only [nm] at hb);try (exfalso;omega)))|(refine rg 0 (aV ?_))|(refine rg 1 (mW rfl (qW T rfl (vV (bX rfl rfl) ?_))))|(refine rg 2 (mW rfl (aV ?_)))|refine nZ ?_));all_goals first | (exfalso;omega) | exact ⟨.inl rfl,[0],_,rfl,rfl,rfl,⟨.inr (aC rfl rfl (aM _)),trivial⟩,by decide,O5⟩
  · (repeat' (first|refine wS ?_|refine wB ?_|refine wK ?_|(refine wC rfl (fun hb => ?_) (fun hb => ?_) <;> (((try simp only [nm] at hb);try (exfalso;omega))))|(refine rg 0 (aV ?_))|(refine rg 1 (mW rfl (qW T rfl (vV (bX rfl rfl) ?_))))|(refine rg 3 (aV ?_))|(refine nZ ?_)));all_goals try (exfalso;omega)
    refine bV (X := {k : Nat // 1 ≤ k ∧ k ≤ l.length ∧ jN l k = l.take k}) (fun k => [(0,.sl 0 0 l.length 1),(3,.i k.1)]) (fun _ => [.arr (aI l) 1]) (fun k => l.length - k.1) ⟨1,by omega,by omega,by rw [II,jP (by omega),aJ (by omega)];rfl⟩ ⟨[0],rfl,by (repeat (first | exact trivial | refine ⟨rfl,?_⟩)),⟨.inr (aC rfl rfl (aM _)),trivial⟩,by decide,O5⟩ ?_
    rintro ⟨k,hk1,hk,hkc⟩;dsimp only;by_cases hlt : k < l.length
    · have e1 := NY (i := 0 + (k : Int).toNat) hlt (by omega)
      have e2 := NY (l := l) (m := k - 1) (i := 0 + ((k : Int) - 1).toNat) (by omega) (by omega)
      by_cases hd : l.getD k 0 = l.getD (k - 1) 0
      · have hc1 := K5 (l := l) hk1 hd;rw [hkc] at hc1;generalize l.getD k 0 = a at *;generalize l.getD (k - 1) 0 = b at *
        (repeat' (first|refine wS ?_|refine wB ?_|refine wK ?_|refine wT ?_|(refine wC rfl ?_ ?_<;>(intro hb;(try simp only [nm] at hb);try (exfalso;omega)))|(refine rg 4 (eX rfl (qW T rfl (vV (bX rfl rfl) ?_))))|(refine aN (id := 6) 61 zU4 (rM 16 10) zY0 bM rfl (by decide +kernel) (dN rfl (dN rfl (dV rfl (bZ T rfl rfl rfl rfl rfl (by omega) (by omega)) (dV rfl (cJ T rfl rfl (eO rfl e1) rfl) (dN rfl (dN rfl (dV rfl (fN rfl rfl (by omega) (by omega)) (dV rfl (bZ T rfl rfl rfl rfl rfl (by omega) (by omega)) (dV rfl (cJ T rfl rfl (eO rfl e2) rfl) ?_)))))))));refine dV rfl (gH rfl rfl (by omega)) (dE ?_))|(refine rg 7 (eX rfl (vV (by exact oN T rfl rfl rfl rfl rfl rfl (by omega) (by omega) (by omega)) ?_));refine aV ?_)|(refine rg 8 (aV ?_))|refine nZ ?_));all_goals try (exfalso;omega)
        have hl1 : (jN l (k + 1)).length = k := by rw [hc1];simp;omega
        refine bV (X := {j : Nat // 1 ≤ j ∧ k + j ≤ l.length ∧ (jN l (k + j)).length + 1 ≤ k + j}) (fun j => [(0,.sl 0 0 l.length 1),(3,.i (jN l (k + j.1)).length),(4,.sl 0 (0 + (k : Int).toNat) ((l.length : Int) - (k : Int)).toNat 1),(5,.i j.1)]) (fun j => [.arr (aI (jN l (k + j.1) ++ l.drop (jN l (k + j.1)).length)) 1]) (fun j => l.length - (k + j.1)) ⟨1,by omega,by omega,by omega⟩ ⟨[0],rfl,⟨rfl,by dsimp only;rw [hl1];rfl,rfl,rfl,trivial⟩,⟨.inr (aC rfl (by dsimp only;rw [hl1,hc1,hC]) (aM _)),trivial⟩,by decide,O5⟩ ?_
        clear e1 e2 hd hl1 hc1;rintro ⟨j,hj1,hj,hjc⟩;dsimp only;by_cases hjl : k + j < l.length
        · have e1 := NW (G := jN l (k + j)) (l := l) (m := k + j) (i := 0 + (k : Int).toNat + (j : Int).toNat) (by omega) hjl (by omega)
          have e2 := NW (G := jN l (k + j)) (l := l) (m := k + j - 1) (i := 0 + (k : Int).toNat + ((j : Int) - 1).toNat) (by omega) (by omega) (by omega)
          have e3 := FS (G := jN l (k + j)) (l := l) (aY _) (by omega)
          have hset := MD (G := jN l (k + j)) (l := l) (x := l.getD (k + j) 0) (by omega)
          have hal := U7 (G := jN l (k + j)) (l := l) (by omega)
          have hdup := K5 (l := l) (m := k + j) (by omega)
          have hnew := IJ (l := l) (m := k + j);have hnl : ∀ G : List Int,(G ++ [l.getD (k + j) 0]).length = G.length + 1 := fun G => by simp
          rw [show k + j + 1 = k + (j + 1) by omega] at hdup hnew
          generalize l.getD (k + j) 0 = a at *;generalize l.getD (k + j - 1) 0 = b at *;generalize l[(jN l (k + j)).length] = y at *;generalize jN l (k + j) = G at *;by_cases hd : a = b
          · have hdup := hdup hd;generalize hA : aI (G ++ l.drop G.length) = A at *
            (repeat' (first|refine wS ?_|refine wB ?_|refine wK ?_|refine wU ?_|(refine wC rfl ?_ ?_<;>(intro hb;(try simp only [nm] at hb);try (exfalso;omega)))|(refine rg 9 (eX rfl (qW T rfl (vV (bX rfl rfl) ?_))))|(refine aN (id := 11) 61 zU4 (rM 35 10) zY1 bM rfl (by decide +kernel) (dN rfl (dN rfl (dV rfl (bZ T rfl rfl rfl rfl rfl (by omega) (by omega)) (dV rfl (cJ T rfl rfl (eO rfl e1) rfl) (dN rfl (dN rfl (dV rfl (fN rfl rfl (by omega) (by omega)) (dV rfl (bZ T rfl rfl rfl rfl rfl (by omega) (by omega)) (dV rfl (cJ T rfl rfl (eO rfl e2) rfl) ?_)))))))));refine dV rfl (gE rfl rfl (by omega)) (dE ?_))|(refine iA 10 rfl rfl rfl (by omega) (by omega) ?_)|refine nZ ?_));all_goals try (exfalso;omega)
            all_goals exact ⟨⟨j + 1,by omega,by omega,by rw [hdup];omega⟩,by dsimp only;omega,[0],rfl,⟨rfl,by dsimp only;rw [hdup];rfl,rfl,rfl,trivial⟩,⟨.inr (aC rfl (by dsimp only;rw [hdup];exact hA.symm) (aM _)),trivial⟩,by decide,O5⟩
          · have hnew := hnew hd;have hgl := hnl G;generalize hA : aI (G ++ l.drop G.length) = A at *
            (repeat' (first|refine wS ?_|refine wB ?_|refine wK ?_|refine wT ?_|(refine wC rfl ?_ ?_<;>(intro hb;(try simp only [nm] at hb);try (exfalso;omega)))|(refine rg 9 (eX rfl (qW T rfl (vV (bX rfl rfl) ?_))))|(refine aN (id := 11) 61 zU4 (rM 35 10) zY1 bM rfl (by decide +kernel) (dN rfl (dN rfl (dV rfl (bZ T rfl rfl rfl rfl rfl (by omega) (by omega)) (dV rfl (cJ T rfl rfl (eO rfl e1) rfl) (dN rfl (dN rfl (dV rfl (fN rfl rfl (by omega) (by omega)) (dV rfl (bZ T rfl rfl rfl rfl rfl (by omega) (by omega)) (dV rfl (cJ T rfl rfl (eO rfl e2) rfl) ?_)))))))));refine dV rfl (lC rfl rfl (by omega)) (dE ?_))|(refine rg 12 (eX rfl (eX rfl (vV (bZ T rfl rfl rfl rfl rfl (by omega) (by omega)) (vV (cJ T rfl rfl (eO rfl e1) rfl) (vV (bZ T rfl rfl rfl rfl rfl (by omega) (by omega)) (bJ T rfl rfl rfl rfl rfl rfl (by decide) (rA rfl e3 rfl) ?_)))))))|(refine iA 13 rfl rfl rfl (by omega) (by omega) ?_)|(refine iA 10 rfl rfl rfl (by omega) (by omega) ?_)|refine nZ ?_));all_goals try (exfalso;omega)
            all_goals exact ⟨⟨j + 1,by omega,by omega,by rw [hnew];omega⟩,by dsimp only;omega,[0],rfl,⟨rfl,by dsimp only;rw [hnew,hgl];rfl,rfl,rfl,trivial⟩,⟨.inr (aC rfl (by dsimp only;rw [hnew];exact hset) (aM _)),trivial⟩,by decide,O5⟩
        · have hkj : k + j = l.length := by omega
          have hcm : K6 l = jN l (k + j) := by rw [hkj];rfl
          have hal := U7 (G := jN l (k + j)) (l := l) (by omega)
          have htk := GG (G := jN l (k + j)) (l := l);rw [hcm];generalize jN l (k + j) = G at *
          (repeat' (first|refine wS ?_|refine wR ?_|refine wE ?_|(refine wC rfl ?_ ?_<;>(intro hb;(try simp only [nm] at hb);try (exfalso;omega)))|(refine rg 9 (eX rfl (qW T rfl (vV (bX rfl rfl) ?_))))|(refine rg 14 (eX rfl (vV (by exact oN T rfl rfl rfl rfl rfl rfl (by omega) (by omega) (by omega)) ?_));refine GF T rfl rfl rfl rfl rfl (by rw [hal];omega) ?_)|(refine rg 15 (eX rfl (vV (by exact oN T rfl rfl rfl rfl rfl rfl (by omega) (by omega) (by omega)) ?_));refine aV ?_)|refine nZ ?_));all_goals try (exfalso;omega)
          all_goals exact ⟨.inl rfl,[0],_,rfl,(by show AV.sl 0 0 ((G.length : Int) - 0).toNat 1 = AV.sl 0 0 G.length 1;rw [show ((G.length : Int) - 0).toNat = G.length by omega]),rfl,⟨.inr (aC rfl htk (aM _)),trivial⟩,by decide,O5⟩
      · have hnew := IJ (l := l) hd;rw [hkc,jP hlt,← aJ hlt] at hnew;generalize l.getD k 0 = a at *;generalize l.getD (k - 1) 0 = b at *
        (repeat' (first|refine wS ?_|refine wB ?_|refine wK ?_|refine wU ?_|(refine wC rfl ?_ ?_<;>(intro hb;(try simp only [nm] at hb);try (exfalso;omega)))|(refine rg 4 (eX rfl (qW T rfl (vV (bX rfl rfl) ?_))))|(refine aN (id := 6) 61 zU4 (rM 16 10) zY0 bM rfl (by decide +kernel) (dN rfl (dN rfl (dV rfl (bZ T rfl rfl rfl rfl rfl (by omega) (by omega)) (dV rfl (cJ T rfl rfl (eO rfl e1) rfl) (dN rfl (dN rfl (dV rfl (fN rfl rfl (by omega) (by omega)) (dV rfl (bZ T rfl rfl rfl rfl rfl (by omega) (by omega)) (dV rfl (cJ T rfl rfl (eO rfl e2) rfl) ?_)))))))));refine dV rfl (eN rfl rfl (by omega)) (dE ?_))|(refine iA 5 rfl rfl rfl (by omega) (by omega) ?_)|refine nZ ?_));all_goals try (exfalso;omega)
        all_goals exact ⟨⟨k + 1,by omega,hlt,hnew⟩,by dsimp only;omega,[0],rfl,by (repeat (first | exact trivial | refine ⟨rfl,?_⟩)),⟨.inr (aC rfl rfl (aM _)),trivial⟩,by decide,O5⟩
    · obtain rfl : k = l.length := by omega
      have hcm : K6 l = l := by
        show jN l l.length = l;rw [hkc,dU]
      rw [hcm]
      (repeat' (first|refine wS ?_|refine wR ?_|refine wE ?_|(refine wC rfl ?_ ?_<;>(intro hb;(try simp only [nm] at hb);try (exfalso;omega)))|(refine rg 4 (eX rfl (qW T rfl (vV (bX rfl rfl) ?_))))|(refine rg 16 (mW rfl (aV ?_)))|refine nZ ?_));all_goals first | (exfalso;omega) | exact ⟨.inl rfl,[0],_,rfl,rfl,rfl,⟨.inr (aC rfl rfl (aM _)),trivial⟩,by decide,O5⟩
def rX (a : Int) : Bool := !decide (0 ≤ a ∧ a < 4096)
theorem zF5 (a : Int) : bQ Tryz.prog 88 [.i a] [] (.b (rX a)) [] := by
  have h := TQ a;refine dD T Tryz.func88 rfl rfl rfl rfl ?_
  (repeat' (first|refine wS ?_|refine wR ?_|(refine rg 0 (aV ?_))|(refine rg 1 (mW rfl (vV (kC (h)) (vV (bB rfl) (aV ?_)))))|refine nZ ?_));exact rQ
def wM (l : List Int) : List Int := K6 (jY (kM rX l))
theorem IK (l : List Int) : ∀ m, (jN l m).length ≤ m
  | 0 => aY _
  | m + 1 => by
    have := IK l m;unfold jN;split
    · omega
    · rw [aF];simp;omega
theorem ST (l : List Int) : (wM l).length ≤ l.length := by
  have h1 := IK (jY (kM rX l)) (jY (kM rX l)).length;have h2 : (kM rX l).length ≤ l.length := jB _ _;rw [qA] at h1;show (jN _ _).length ≤ _;rw [qA];omega
theorem zF7 (l : List Int) (hl : l.length ≤ 1000000) : bQ Tryz.prog 45 [.rowE (aI l) 1] [] (.rowE (aI (wM l)) 1) [] := by
  refine qR (by simp : (wM l).length = (aI (wM l)).length) (kP (aM _)) ?_
  have h1 := ZH l hl;have h2 := UV (F := 88) l hl zF5;have hk : (kM rX l).length ≤ l.length := jB _ _;have h3 := JQ (kM rX l) (by omega)
  have h4 := QH (jY (kM rX l)) (by rw [qA];omega)
  rw [qA] at h4;have hof : wM l = K6 (jY (kM rX l)) := rfl;rw [hof];have hrf := FB l;generalize K6 (jY (kM rX l)) = C at *;generalize jY (kM rX l) = B at *;generalize kM rX l = A at *;refine dD T Tryz.func45 rfl rfl rfl rfl ?_
  (repeat' (first|refine wS ?_|refine wR ?_|(refine rg 0 (aV ?_))|(refine rg 1 (mW rfl (bH (by exact lX rfl rfl h1 (.inr ⟨rfl,rfl,by simp⟩)) rfl ?_));refine xB [0] rfl rfl h2 rfl rfl (by decide) ⟨.inr (aC rfl (nE _ _) (aM _)),trivial⟩ (by simp) rfl ?_;refine aV ?_)|(refine rg 2 (mW rfl (xB [0] rfl rfl h3 rfl rfl (by decide) ⟨.inr (aC rfl (nE _ _) (aM _)),trivial⟩ (by simp) rfl ?_)))|(refine rg 3 (mW rfl (xB [0] rfl rfl h4 rfl rfl (by decide) ⟨.inr (aC rfl (nE _ _) (aM _)),trivial⟩ (by simp) rfl ?_));refine aV ?_)|refine nZ ?_));all_goals exact ⟨.inl rfl,[0],_,rfl,rfl,rfl,⟨.inr (aC rfl (nE _ _) (aM _)),trivial⟩,by decide,gL⟩
theorem AN (l : List Int) (x : Int) : ∀ m, m ≤ l.length → (x ∈ jN l m ↔ x ∈ l.take m)
  | 0,_ => by simp [jN]
  | m + 1,hm => by
    have ih := AN l x m (by omega)
    rw [aJ (by omega)]
    by_cases e : 0 < m ∧ l.getD m 0 = l.getD (m - 1) 0
    · rw [K5 e.1 e.2,ih,bI,bY];refine ⟨.inl,fun h => h.elim id fun h => ?_⟩
      have e2 := e.2;rw [jP (by omega),jP (by omega)] at e2
      rw [h,e2];exact List.mem_take_iff_getElem.2 ⟨m - 1,by omega,rfl⟩
    · have : jN l (m + 1) = jN l m ++ [l.getD m 0] := by
        unfold jN;rw [if_neg e];cases m <;> rfl
      rw [this,bI,bI,ih,jP (by omega)]
theorem IL {l : List Int} (hs : l.Pairwise (· ≤ ·)) : ∀ m, m ≤ l.length → vK (jN l m)
  | 0,_ => List.Pairwise.nil
  | m + 1,hm => by
    have ih := IL hs m (by omega)
    by_cases e : 0 < m ∧ l.getD m 0 = l.getD (m - 1) 0
    · rw [K5 e.1 e.2];exact ih
    · have : jN l (m + 1) = jN l m ++ [l.getD m 0] := by
        unfold jN;rw [if_neg e];cases m <;> rfl
      rw [this];refine JD.2 ⟨ih,List.pairwise_singleton _ _,fun x hx y hy => ?_⟩
      rw [bY] at hy;rw [AN l x m (by omega)] at hx
      obtain ⟨i,hi,rfl⟩ := List.mem_take_iff_getElem.1 hx;have him : i < m := by omega
      rw [hy,jP (by omega)]
      have h1 : l[m - 1] ≤ l[m] := iV.1 hs (m - 1) m _ _ (by omega)
      have h2 : l[i] ≤ l[m - 1] := by
        by_cases ei : i = m - 1
        · subst ei;exact qS _
        · exact iV.1 hs i (m - 1) _ _ (by omega)
      have h3 : l[m] ≠ l[m - 1] := fun q => e ⟨by omega,by rw [jP (by omega),jP (by omega)];exact q⟩
      omega
theorem OT (l : List Int) : (jY l).Pairwise (· ≤ ·) := by
  have h := List.pairwise_mergeSort (le := fun x y : Int => decide (x ≤ y)) (fun a b c h1 h2 => by simp at *;omega) (fun a b => by simp;omega) l
  exact h.imp fun h => by simpa using h
theorem F2 {l : List Int} {x : Int} : x ∈ wM l ↔ x ∈ l ∧ 0 ≤ x ∧ x < 4096 := by
  unfold wM K6;rw [AN _ _ _ (aY _),dU];unfold jY kM;rw [List.mem_mergeSort,fZ];unfold rX;simp
theorem zF6 (l : List Int) : zS8 (wM l) := ⟨IL (OT _) _ (aY _),fun _ hx => (F2.1 hx).2⟩
end Go.Proofs.YtdmajnjoeidgeaaGreat
namespace Go.Proofs.YtdmajnjoeidgeaaGreat
open Go Go.Ab Go.Fl Go.Re Go.Ln Go.MapKept
attribute [local irreducible] VC AW bR bQ fT nK
set_option maxHeartbeats 4000000
theorem B7 (l : List Int) : vK (wM l) := (zF6 l).1
theorem XW {l : List Int} (hn : l.Nodup) (hr : ∀ x,x ∈ l → 0 ≤ x ∧ x < 4096) : (wM l).length = l.length := by
  have h1 := kA (l := wM l) (m := l) ((B7 l).imp (fun h => by omega)) fun x hx => (F2.1 hx).1
  have h2 := kA (m := wM l) hn fun x hx => F2.2 ⟨hx,hr x hx⟩
  omega
theorem wP : EE Tryz.prog 4 := by unfold EE;kernel_rfl
theorem vS : Tryz.prog.underlying 84 = some (.map 3 39) := by kernel_rfl
theorem zT3 : ∀ w,(zeroValue 39).run Tryz.prog w = .ok (.slice none 0 0) w := zO (by kernel_rfl)
theorem tV (x : fR) : ∀ e,e ∈ [jH x] → e.length = 3 := by intro e he;simp at he;subst he;rfl
theorem zD5 (s : lN) (g : iL s.fl) (c : Int) (hc : 0 ≤ c ∧ c < s.fl.k.length) : fT Tryz.prog 83 [.agg (fS s),.i c,.nils] [] (fun r o => o = [] ∧ ∃ l,r = .rowE (aI l) 1 ∧ Q2 s c [] l) :=
  OZ (RP s g c hc [] (by simp)) fun S w ρ ys => yU (fun _ h => h) fun ys => yU (fun _ h => h) fun ys => yU (fun _ h => LK h) fun _ h => h
end Go.Proofs.YtdmajnjoeidgeaaGreat
namespace Go.Proofs.YtdmajnjoeidgeaaGreat
open Go Go.Ab Go.Fl
end Go.Proofs.YtdmajnjoeidgeaaGreat
namespace Go.Proofs.YtdmajnjoeidgeaaGreat
open Go Go.Ab Go.Fl Go.Re Go.Ln Go.MapKept
attribute [local irreducible] VC AW bR bQ fT nK
set_option maxHeartbeats 4000000
def DU (m : Int) (out : List Int) (i : Nat) (c : Int) : List Int := out.set c.toNat (max (out.getD c.toNat 0) (IntKind.i64.wrap (IntKind.i64.wrap (m + i) + 1)))
def rV (m : Int) (w : List Int) : Nat → List Int → List Int
  | 0,out => out
  | n + 1,out => DU m (rV m w n out) n (w.getD n 0)
def N6 (f : jD) (p : List Int × List Int) (r : BQ) : List Int × List Int :=
  if r.2.2.2.2.2 = true ∨ lT f r.1 = [] then (p.1,p.2 ++ [r.1]) else (rV (max r.2.2.2.1 r.2.2.2.2.1) (lT f r.1) ((lT f r.1).length - 1) p.1,p.2)
def lM (f : jD) (out : List Int) (c : Int) : List Int := if c ∈ bO f then out.set c.toNat (-1) else out
def nN (f : jD) (l : List BQ) : List Int × List Int := l.foldl (N6 f) (List.replicate f.k.length 0,[])
def pZ (f : jD) (l : List BQ) (dd : List Int) : List Int := ((nN f l).2 ++ dd).foldl (lM f) (nN f l).1
theorem C4 (m : Int) (w : List Int) : ∀ (n : Nat) (out : List Int), (rV m w n out).length = out.length
  | 0,_ => rfl
  | n + 1,out => by unfold rV DU;rw [D4,C4 m w n]
theorem SC (f : jD) (p : List Int × List Int) (r : BQ) : (N6 f p r).1.length = p.1.length := by
  unfold N6;split
  · rfl
  · exact C4 _ _ _ _
theorem WN (s : lN) (g : iL s.fl) (st : E4) (hrl : st.rb.length ≤ 1000000) (hdl : st.dd.length ≤ 1000000) : bQ Tryz.prog 11 [.agg (fS s),.agg (oW st)] [] (.rowE (aI (pZ s.fl st.rb st.dd)) 1) [] := by
  have hN := g.le;have hWa := sO s.fl;have hWl := wZ s.fl;have ho := JZ s g;have cw := G6 s (by omega)
  have hnd := MQ (f := s.fl) ((sO s.fl).imp (fun h => by omega) : (bO s.fl).Nodup)
  have hkl : (aI s.fl.k).length = s.fl.k.length := aR _;have hrbl : (nO st.rb).length = st.rb.length := by simp
  refine qR (by simp : (pZ s.fl st.rb st.dd).length = (aI (pZ s.fl st.rb st.dd)).length) (kP (aM _)) ?_
  refine dD T Tryz.func11 rfl rfl rfl rfl ?_
  (repeat' (first|refine wS ?_|refine wB ?_|(refine rg 0 (bH (bN rfl rfl) rfl (bH (bN rfl rfl) rfl (aV ?_))))|(refine rg 1 (fW T rfl (eK T rfl (qW T rfl (bH (by exact tX T rfl rfl rfl rfl (by omega) (by omega) (by dsimp only;omega) (by omega) (by decide)) rfl ?_))));refine aV ?_)|(refine aN (id := 2) 94 [[],[0],[],[0,1,2],rN 4] [21,22,23,24,6] [[],[],[21,22],[],[]] bM rfl (by decide +kernel) (dO T rfl (FM rfl rfl rfl (by exact lX rfl rfl ho (.inr ⟨rfl,rfl,by simp⟩)) rfl ?_));refine dO T rfl (dV rfl (kC (cw)) (dV rfl (eM rfl) (dE ?_)));refine aV ?_)|(refine rg 3 (aV ?_))|(refine rg 4 (eK T rfl (qW T rfl (mV ?_))))|refine nZ ?_));have hMl : ∀ e,e ∈ rF s.fl (bO s.fl) → (e.2.length : Int) ≤ s.fl.k.length + 1 := fun e he => by
    obtain ⟨h1,h2,h3⟩ := sU.1 he;obtain ⟨w1,w2,_⟩ := jG.1 h1;have := zZ g e.1.toNat (by omega)
    rw [h3,rE];omega
  refine rR 8 1 rfl (by decide) ?_
  have hM : ∀ c w,(c,w) ∈ rF s.fl (bO s.fl) ↔ c ∈ bO s.fl ∧ 0 ≤ lG s.fl c.toNat ∧ w = pO s.fl c.toNat := fun c w => by rw [sU]
  generalize rF s.fl (bO s.fl) = M at *;refine bV (X := {p : Nat × List Int × List Int // p.1 ≤ st.rb.length ∧ nN s.fl (st.rb.take p.1) = p.2 ∧ p.2.1.length = s.fl.k.length ∧ p.2.2.length ≤ p.1}) (fun p => [(2, .ptr 0 0), (3, .ptr 1 0), (5, .sl 2 0 s.fl.k.length 1), (6, .mp 3), (7, .rowE (aI (bO s.fl)) 1), (8, .sl 4 0 p.1.2.2.length 1), (26, .rowE (nO st.rb) 6), (27, .i st.rb.length), (28, .i (p.1.1 : Int))])
    (fun p => [.cells (fS s),.cells (oW st),.arr (aI p.1.2.1) 1,.mapO (MN M) (WF M),.arr (aI p.1.2.2) 1]) (fun p => st.rb.length - p.1.1) ⟨(0,List.replicate s.fl.k.length 0,[]),cH _,rfl,by simp,cH _⟩ ⟨[0,1,2,3,4],rfl,⟨rfl,rfl,congrArg (fun n : Nat => some (AV.sl 2 0 n 1)) hkl,rfl,rfl,rfl,rfl,congrArg (fun n : Nat => some (AV.i n)) hrbl,rfl,trivial⟩,⟨.inr rfl,.inr rfl,.inr (aC rfl (by dsimp only;rw [hkl,aX];exact (vI (f := fun n : Int => [AV.i n]) (a := 0) (n := s.fl.k.length)).symm) (aM _)),.inr (aD rfl rfl (dZ _ _ (nY _)) (nY _)),.inr rfl,trivial⟩,by decide,gL⟩ ?_
  rintro ⟨⟨k,out,lost⟩,hk,hrw,hol,hll⟩;dsimp only at hk hrw hol hll ⊢;by_cases hlt : k < st.rb.length
  · have qr : (nO st.rb)[(k : Int).toNat]? = some (H7 st.rb[k]) := by rw [aX];exact uM hlt
    have hnx : nN s.fl (st.rb.take (k + 1)) = N6 s.fl (out,lost) st.rb[k] := by
      unfold nN at *;rw [aJ hlt,lJ,hrw];rfl
    generalize st.rb[k] = r at *;obtain ⟨rc,rg1,rk,rr,rm,rd⟩ := r;by_cases hin : rc ∈ bO s.fl ∧ 0 ≤ lG s.fl rc.toNat
    · obtain ⟨i,hi⟩ := cU.1 ((hM rc (pO s.fl rc.toNat)).2 ⟨hin.1,hin.2,rfl⟩);have k1 : (MN M)[i]? = some (kI rc) := by simp [hi]
      have k2 : (WF M)[i]? = some (.rowE (aI (pO s.fl rc.toNat)) 1) := by simp [hi]
      have hof : lT s.fl rc = pO s.fl rc.toNat := if_pos hin;have hwl := rE s.fl rc.toNat;have hwN : ((pO s.fl rc.toNat).length : Int) ≤ s.fl.k.length + 1 := hMl _ (bD hi);have hil : (aI (pO s.fl rc.toNat)).length = (pO s.fl rc.toNat).length := aR _;cases rd with
      | true =>
        have hst : N6 s.fl (out,lost) (rc,rg1,rk,rr,rm,true) = (out,lost ++ [rc]) := if_pos (.inl rfl);rw [hst] at hnx;generalize pO s.fl rc.toNat = w at *
        (repeat' (first|refine wS ?_|refine wB ?_|refine wK ?_|refine wE ?_|refine wT ?_|(refine rg 5 (vV (aL rfl rfl (by omega)) ?_))|(refine rg 6 (vV (ix T rfl (by omega) (jE _) qr) (lW T rfl (bH (cX T rfl) rfl (bJ T rfl rfl rfl rfl rfl rfl (by decide) rfl ?_)))))|(refine rg 7 (mW rfl (eK T rfl (vV (by exact gR R3 jL rfl rfl (gC _) rfl (xT _) (eR _) hnd k1 k2) ?_)));refine aV ?_)|(refine rg 8 (eK T rfl (mV ?_));(iterate 3 refine gF ?_);refine pV ?_)|(refine rg 9 (mW rfl (eK T rfl (bH (by exact aS T rfl rfl (by decide) (by decide) rfl rfl rfl) rfl ?_)));refine eL T rfl rfl rfl rfl rfl rfl (by simp) (iU.whole rfl rfl) rfl (by simp;omega) (by simp;omega) rfl ?_;refine aV ?_)|(refine rg 15 (vV (bP rfl rfl (by omega) (by omega)) (mV ?_)))|refine nZ ?_));all_goals exact ⟨⟨(k + 1,out,lost ++ [rc]),hlt,hnx,hol,by dsimp only;rw [aF,dW];omega⟩,by dsimp only;omega,[0,1,2,3,7],rfl,⟨rfl,rfl,rfl,rfl,rfl,by dsimp only;rw [aF];rfl,rfl,rfl,rfl,trivial⟩,⟨.inr rfl,.inr rfl,.inr (aC rfl rfl (aM _)),.inr (aD rfl rfl rfl (nY _)),.inr (aC rfl oL (aM _)),trivial⟩,by decide,gL⟩
      | false =>
        have hne : ¬ (false = true ∨ pO s.fl rc.toNat = []) := fun h => h.elim (fun h => by cases h) (fun h => by rw [h] at hwl;simp at hwl)
        have hst : N6 s.fl (out,lost) (rc,rg1,rk,rr,rm,false) = (rV (max rr rm) (pO s.fl rc.toNat) ((pO s.fl rc.toNat).length - 1) out,lost) := by
          unfold N6;rw [hof];exact if_neg hne
        rw [hst] at hnx;have hwr : ∀ i (x : Int),(pO s.fl rc.toNat)[i]? = some x → 0 ≤ x ∧ x < s.fl.k.length := fun i x hx => by
          obtain ⟨h1,h2,_⟩ := jG.1 hin.1;obtain ⟨b,e1,e2,_⟩ := MO g (c := rc.toNat) (by omega) hin.2 (aA.1 hx).1
          rw [e1] at hx;cases hx;omega
        generalize pO s.fl rc.toNat = w at *;have htk : (aI w).take (w.length - 1) = aI (w.take (w.length - 1)) := List.map_take.symm;have hsl : ((aI w).length : Int) - 1 = ((w.length - 1 : Nat) : Int) := by omega
        (repeat' (first|refine wS ?_|refine wB ?_|refine wK ?_|refine wT ?_|refine wU ?_|(refine rg 5 (vV (aL rfl rfl (by omega)) ?_))|(refine rg 6 (vV (ix T rfl (by omega) (jE _) qr) (lW T rfl (bH (cX T rfl) rfl (bJ T rfl rfl rfl rfl rfl rfl (by decide) rfl ?_)))))|(refine rg 7 (mW rfl (eK T rfl (vV (by exact gR R3 jL rfl rfl (gC _) rfl (xT _) (eR _) hnd k1 k2) ?_)));refine aV ?_)|(refine rg 8 (eK T rfl (mW rfl (yN rfl (gT (qW T rfl (yV (eN rfl rfl (by omega)) (pV ?_))))))))|(refine rg 10 (eX rfl (qW T rfl (vV (fN rfl rfl (by omega) (by omega)) (vV (by exact HZ (k := w.length - 1) T rfl rfl rfl rfl (congrArg some hsl) (by omega) (aE _)) ?_))));refine qW T rfl (mV ?_))|refine nZ ?_));rw [htk]
        have hwt : ∀ i (x : Int),(w.take (w.length - 1))[i]? = some x → w.getD i 0 = x ∧ 0 ≤ x ∧ x < s.fl.k.length := fun i x hx => by
          have hi := (aA.1 hx).1;rw [dQ] at hi;rw [List.getElem?_take_of_lt (by omega)] at hx
          exact ⟨by simp [aH,hx],hwr i x hx⟩
        have hwtl : (w.take (w.length - 1)).length = w.length - 1 := by rw [dQ];omega
        generalize w.take (w.length - 1) = w' at *;have hw'l : (aI w').length = w.length - 1 := by rw [aR,hwtl]
        refine bV (X := {i : Nat // i ≤ w.length - 1}) (fun i => [(2, .ptr 0 0), (3, .ptr 1 0), (5, .sl 2 0 s.fl.k.length 1), (6, .mp 3), (7, .rowE (aI (bO s.fl)) 1), (8, .sl 4 0 lost.length 1), (10, .ptr 5 0), (26, .rowE (nO st.rb) 6), (27, .i st.rb.length), (28, .i (k : Int)), (52, .rowE (aI w') 1), (53, .i (w.length - 1 : Nat)), (54, .i (i.1 : Int))])
          (fun i => [.cells (fS s),.cells (oW st),.arr (aI (rV (max rr rm) w i.1 out)) 1,.mapO (MN M) (WF M),.arr (aI lost) 1,.cells (H7 (rc,rg1,rk,rr,rm,false))]) (fun i => w.length - 1 - i.1) ⟨0,cH _⟩ ⟨[0,1,2,3,4,5],rfl,⟨rfl,rfl,rfl,rfl,rfl,rfl,rfl,rfl,rfl,rfl,rfl,congrArg (fun n : Nat => some (AV.i n)) hw'l,rfl,trivial⟩,⟨.inr rfl,.inr rfl,.inr (aC rfl rfl (aM _)),.inr (aD rfl rfl rfl (nY _)),.inr (aC rfl rfl (aM _)),.inr rfl,trivial⟩,by decide,gL⟩ ?_
        rintro ⟨i2,hi2⟩;dsimp only;have hbl := C4 (max rr rm) w i2 out;by_cases hil : i2 < w.length - 1
        · obtain ⟨x,hx⟩ : ∃ x,w'[i2]? = some x := ⟨_,aB (by omega)⟩
          obtain ⟨hx0,hx1,hx2⟩ := hwt i2 x hx;have qw : (aI w')[(i2 : Int).toNat]? = some [AV.i x] := by rw [aX];simp [hx]
          have hbs : rV (max rr rm) w (i2 + 1) out = DU (max rr rm) (rV (max rr rm) w i2 out) i2 x := by rw [← hx0];rfl
          generalize rV (max rr rm) w i2 out = B at *;have qx : (aI B)[0 + x.toNat]? = some [AV.i (B.getD x.toNat 0)] := by rw [Nat.zero_add];exact eY 0 (by omega) (by omega)
          have hst2 : (aI B).set (0 + x.toNat) [AV.i (max (B.getD x.toNat 0) (IntKind.i64.wrap (IntKind.i64.wrap (max rr rm + i2) + 1)))] = aI (DU (max rr rm) B i2 x) := by
            rw [Nat.zero_add];exact qL _ _ _
          (repeat' (first|refine wS ?_|refine wB ?_|refine wK ?_|refine wT ?_|(refine rg 11 (vV (aL rfl rfl (by omega)) ?_))|(refine rg 12 (mW rfl (vV (ix T rfl (by omega) (aE _) qw) (vV (cJ T rfl rfl rfl rfl) (iZ ?_)))))|(refine aN (id := 13) 94 [[],[],[],[],[2,3],[2,3,4],[],[6],[],[8],rM 6 4,[],rM 6 6,rM 6 7,rM 2 12] (rM 59 15) [[],[59],[59,60],[59,60,61],[59,60],[59,60],rM 59 6,rM 59 6,rM 59 8,rM 59 8,rM 59 6,rM 59 11,rM 59 6,rM 59 6,[59,60]] bM rfl (by decide +kernel) (dN rfl (dN rfl (dN rfl (dN rfl (dV rfl (bZ T rfl rfl rfl rfl rfl (by omega) (by omega)) (dV rfl (cJ T rfl rfl (eO rfl qx) rfl) (dP T rfl (dO T rfl (dF T ?_)))))))));refine dO T rfl (dV rfl (sC rfl rfl) (dN rfl (dV rfl (AE rfl rfl) (dV rfl (AE rfl rfl) (dV rfl (sC rfl rfl) (dE ?_))))));refine vV (bZ T rfl rfl rfl rfl rfl (by omega) (by omega)) (bJ T rfl rfl rfl rfl rfl rfl (by decide) (rA rfl qx rfl) ?_))|(refine rg 14 (vV (bP rfl rfl (by omega) (by omega)) (mV ?_)))|refine nZ ?_));all_goals exact ⟨⟨i2 + 1,hil⟩,by dsimp only;omega,[0,1,2,3,4,5],rfl,(by repeat first|exact trivial|refine ⟨rfl,?_⟩),⟨.inr rfl,.inr rfl,.inr (aC rfl (by dsimp only;rw [hbs];exact hst2) (aM _)),.inr (aD rfl rfl rfl (nY _)),.inr (aC rfl rfl (aM _)),.inr rfl,trivial⟩,by decide,gL⟩
        · obtain rfl : i2 = w.length - 1 := by omega
          (repeat' (first|refine wS ?_|refine wE ?_|refine wU ?_|(refine rg 11 (vV (bG rfl rfl (by omega)) ?_))|(refine rg 15 (vV (bP rfl rfl (by omega) (by omega)) (mV ?_)))|refine nZ ?_));all_goals exact ⟨⟨(k + 1,rV (max rr rm) w (w.length - 1) out,lost),hlt,hnx,by dsimp only;omega,by dsimp only;omega⟩,by dsimp only;omega,[0,1,2,3,4],rfl,(by repeat first|exact trivial|refine ⟨rfl,?_⟩),⟨.inr rfl,.inr rfl,.inr (aC rfl rfl (aM _)),.inr (aD rfl rfl rfl (nY _)),.inr (aC rfl rfl (aM _)),trivial⟩,by decide,gL⟩
    · have hof : lT s.fl rc = [] := if_neg hin;have hno : kI rc ∉ MN M := fun hm => by
        obtain ⟨e,he,q⟩ := aQ.1 hm;simp [kI] at q;obtain ⟨h1,h2,_⟩ := (hM e.1 e.2).1 he;rw [q] at h1 h2;exact hin ⟨h1,h2⟩
      have hst : N6 s.fl (out,lost) (rc,rg1,rk,rr,rm,rd) = (out,lost ++ [rc]) := if_pos (.inr hof);rw [hst] at hnx;cases rd with
      | true =>
        (repeat' (first|refine wS ?_|refine wB ?_|refine wK ?_|refine wE ?_|refine wT ?_|(refine rg 5 (vV (aL rfl rfl (by omega)) ?_))|(refine rg 6 (vV (ix T rfl (by omega) (jE _) qr) (lW T rfl (bH (cX T rfl) rfl (bJ T rfl rfl rfl rfl rfl rfl (by decide) rfl ?_)))))|(refine rg 7 (mW rfl (eK T rfl (vV (by exact nI (zA := .nils) R3 jL zQ1 WI rfl rfl (gC _) rfl (xT _) (eR _) hno) ?_)));refine aV ?_)|(refine rg 8 (eK T rfl (mV ?_));(iterate 3 refine gF ?_);refine pV ?_)|(refine rg 9 (mW rfl (eK T rfl (bH (by exact aS T rfl rfl (by decide) (by decide) rfl rfl rfl) rfl ?_)));refine eL T rfl rfl rfl rfl rfl rfl (by simp) (iU.whole rfl rfl) rfl (by simp;omega) (by simp;omega) rfl ?_;refine aV ?_)|(refine rg 15 (vV (bP rfl rfl (by omega) (by omega)) (mV ?_)))|refine nZ ?_));all_goals exact ⟨⟨(k + 1,out,lost ++ [rc]),hlt,hnx,hol,by dsimp only;rw [aF,dW];omega⟩,by dsimp only;omega,[0,1,2,3,7],rfl,⟨rfl,rfl,rfl,rfl,rfl,by dsimp only;rw [aF];rfl,rfl,rfl,rfl,trivial⟩,⟨.inr rfl,.inr rfl,.inr (aC rfl rfl (aM _)),.inr (aD rfl rfl rfl (nY _)),.inr (aC rfl oL (aM _)),trivial⟩,by decide,gL⟩
      | false =>
        (repeat' (first|refine wS ?_|refine wB ?_|refine wK ?_|refine wE ?_|refine wT ?_|(refine rg 5 (vV (aL rfl rfl (by omega)) ?_))|(refine rg 6 (vV (ix T rfl (by omega) (jE _) qr) (lW T rfl (bH (cX T rfl) rfl (bJ T rfl rfl rfl rfl rfl rfl (by decide) rfl ?_)))))|(refine rg 7 (mW rfl (eK T rfl (vV (by exact nI (zA := .nils) R3 jL zQ1 WI rfl rfl (gC _) rfl (xT _) (eR _) hno) ?_)));refine aV ?_)|(refine rg 8 (eK T rfl (mW rfl (yN rfl (yV (DJ T rfl rfl) (yV (gH rfl rfl rfl) (pV ?_)))))))|(refine rg 9 (mW rfl (eK T rfl (bH (by exact aS T rfl rfl (by decide) (by decide) rfl rfl rfl) rfl ?_)));refine eL T rfl rfl rfl rfl rfl rfl (by simp) (iU.whole rfl rfl) rfl (by simp;omega) (by simp;omega) rfl ?_;refine aV ?_)|(refine rg 15 (vV (bP rfl rfl (by omega) (by omega)) (mV ?_)))|refine nZ ?_));all_goals exact ⟨⟨(k + 1,out,lost ++ [rc]),hlt,hnx,hol,by dsimp only;rw [aF,dW];omega⟩,by dsimp only;omega,[0,1,2,3,7],rfl,⟨rfl,rfl,rfl,rfl,rfl,by dsimp only;rw [aF];rfl,rfl,rfl,rfl,trivial⟩,⟨.inr rfl,.inr rfl,.inr (aC rfl rfl (aM _)),.inr (aD rfl rfl rfl (nY _)),.inr (aC rfl oL (aM _)),trivial⟩,by decide,gL⟩
  · obtain rfl : k = st.rb.length := by omega
    rw [dU] at hrw;have hwp : pZ s.fl st.rb st.dd = (lost ++ st.dd).foldl (lM s.fl) out := by unfold pZ;rw [hrw]
    rw [hwp];have hddl : (aI st.dd).length = st.dd.length := aR _
    (repeat' (first|refine wS ?_|refine wB ?_|refine wE ?_|refine wU ?_|(refine rg 5 (vV (bG rfl rfl (by omega)) ?_))|(refine rg 16 (mW rfl (eK T rfl (eL T rfl rfl rfl rfl rfl rfl (by simp) (iU.row (aE _)) (pQ _) (by simp;omega) (by simp;omega) rfl ?_)));refine qW T rfl (mV ?_))|refine nZ ?_));have hap : List.take lost.length (List.drop 0 (aI lost)) ++ aI st.dd = aI (lost ++ st.dd) := by
      rw [fJ,bC (by simp)];simp
    generalize hZ : lost ++ st.dd = Z at *;have hZl : Z.length = lost.length + st.dd.length := by rw [← hZ];simp
    refine bV (X := {p : Nat × List Int // p.1 ≤ Z.length ∧ p.2 = (Z.take p.1).foldl (lM s.fl) out ∧ p.2.length = s.fl.k.length}) (fun p => [(5,.sl 0 0 s.fl.k.length 1),(7,.rowE (aI (bO s.fl)) 1),(80,.sl 1 0 Z.length 1),(81,.i Z.length),(82,.i (p.1.1 : Int))]) (fun p => [.arr (aI p.1.2) 1,.arr (aI Z) 1]) (fun p => Z.length - p.1.1) ⟨(0,out),cH _,rfl,hol⟩ ⟨[2,5],rfl,⟨rfl,rfl,congrArg (fun n : Nat => some (AV.sl 5 0 n 1)) (show lost.length + (aI st.dd).length = Z.length by omega),congrArg (fun n : Nat => some (AV.i n)) (show lost.length + (aI st.dd).length = Z.length by omega),rfl,trivial⟩,⟨.inr (aC rfl rfl (aM _)),.inr (aC rfl hap (aM _)),trivial⟩,by decide,gL⟩ ?_
    rintro ⟨⟨k,out2⟩,hk2,ho2,hl2⟩;dsimp only at hk2 ho2 hl2 ⊢;have hZi : (aI Z).length = Z.length := aR _;have ho2l : (aI out2).length = s.fl.k.length := by rw [aR,hl2]
    by_cases hlt2 : k < Z.length
    · have qz : (aI Z)[0 + (k : Int).toNat]? = some [AV.i Z[k]] := by rw [Nat.zero_add,aX];exact iF hlt2
      have hnx : (Z.take (k + 1)).foldl (lM s.fl) out = lM s.fl out2 Z[k] := by rw [aJ hlt2,lJ,← ho2];rfl
      generalize Z[k] = c at *;have ch := X9 (bO s.fl) c hWa (by omega)
      by_cases hcw : c ∈ bO s.fl
      · rw [decide_eq_true hcw] at ch;obtain ⟨c1,c2,_⟩ := jG.1 hcw;have hms : lM s.fl out2 c = out2.set c.toNat (-1) := if_pos hcw;rw [hms] at hnx;have qx : (aI out2)[0 + c.toNat]? = some [AV.i (out2.getD c.toNat 0)] := by rw [Nat.zero_add];exact eY 0 (by omega) (by omega)
        have hst : (aI out2).set (0 + c.toNat) [AV.i (-1)] = aI (out2.set c.toNat (-1)) := by rw [Nat.zero_add];exact qL _ _ _
        (repeat' (first|refine wS ?_|refine wB ?_|refine wK ?_|refine wT ?_|(refine rg 17 (vV (aL rfl rfl (by omega)) ?_))|(refine rg 18 (vV (bZ T rfl rfl rfl rfl rfl (by omega) (by omega)) (vV (cJ T rfl rfl (eO rfl qz) rfl) (aV ?_))))|(refine rg 19 (eX rfl (vV (kC (ch)) ?_)))|(refine rg 20 (eX rfl (vV (bZ T rfl rfl rfl rfl rfl (by omega) (by omega)) (bJ T rfl rfl rfl rfl rfl rfl (by decide) (rA rfl qx rfl) ?_))))|(refine rg 21 (vV (bP rfl rfl (by omega) (by omega)) (mV ?_)))|refine nZ ?_));all_goals exact ⟨⟨(k + 1,out2.set c.toNat (-1)),hlt2,hnx.symm,by dsimp only;rw [D4];exact hl2⟩,by dsimp only;omega,[0,1],rfl,(by repeat first|exact trivial|refine ⟨rfl,?_⟩),⟨.inr (aC rfl hst (aM _)),.inr (aC rfl rfl (aM _)),trivial⟩,by decide,gL⟩
      · rw [decide_eq_false hcw] at ch;have hms : lM s.fl out2 c = out2 := if_neg hcw;rw [hms] at hnx
        (repeat' (first|refine wS ?_|refine wB ?_|refine wK ?_|refine wT ?_|refine wU ?_|(refine rg 17 (vV (aL rfl rfl (by omega)) ?_))|(refine rg 18 (vV (bZ T rfl rfl rfl rfl rfl (by omega) (by omega)) (vV (cJ T rfl rfl (eO rfl qz) rfl) (aV ?_))))|(refine rg 19 (eX rfl (vV (kC (ch)) ?_)))|(refine rg 21 (vV (bP rfl rfl (by omega) (by omega)) (mV ?_)))|refine nZ ?_));all_goals exact ⟨⟨(k + 1,out2),hlt2,hnx.symm,hl2⟩,by dsimp only;omega,[0,1],rfl,(by repeat first|exact trivial|refine ⟨rfl,?_⟩),⟨.inr (aC rfl rfl (aM _)),.inr (aC rfl rfl (aM _)),trivial⟩,by decide,gL⟩
    · obtain rfl : k = Z.length := by omega
      rw [dU] at ho2;rw [← ho2]
      (repeat' (first|refine wS ?_|refine wR ?_|refine wE ?_|refine wU ?_|(refine rg 17 (vV (bG rfl rfl (by omega)) ?_))|(refine rg 22 (mW rfl (aV ?_)))|refine nZ ?_));all_goals exact ⟨.inl rfl,[0],_,rfl,congrArg (fun n : Nat => AV.sl 0 0 n 1) hl2.symm,rfl,⟨.inr (aC rfl rfl (aM _)),trivial⟩,by decide,gL⟩
end Go.Proofs.YtdmajnjoeidgeaaGreat
namespace Go.Proofs.YtdmajnjoeidgeaaGreat
open Go Go.Ab Go.Fl Go.Re Go.Ln
theorem PD {f : jD} (c : Int) : ((lT f c).length : Int) - 1 ≤ nG f ∨ lT f c = [] := by
  unfold lT;split
  · rename_i h;have hm : (c,pO f c.toNat) ∈ rF f (bO f) := sU.2 ⟨h.1,h.2,rfl⟩;have : ∀ (L : List (Int × List Int)) (n : Int),(∀ e,e ∈ L → (e.2.length : Int) - 1 ≤ L.foldl CZ n) ∧ n ≤ L.foldl CZ n := by
      intro L
      induction L with
      | nil => exact fun n => ⟨(fun e h => by cases h),qS _⟩
      | cons x L ih =>
        intro n;obtain ⟨i1,i2⟩ := ih (CZ n x);rw [kQ];have h1 : n ≤ CZ n x := by unfold CZ;omega
        have h2 : (x.2.length : Int) - 1 ≤ CZ n x := by unfold CZ;omega
        refine ⟨fun e he => ?_,by omega⟩
        rcases bL.1 he with rfl | he
        · omega
        · exact i1 e he
    exact .inl ((this _ 0).1 _ hm)
  · exact .inr rfl
def zT9 (N : Nat) (b : Int) (out : List Int) : Prop := out.length = N ∧ ∀ j : Nat,0 ≤ out.getD j 0 ∧ out.getD j 0 ≤ b
theorem zT9.zero {N : Nat} {b : Int} (hb : 0 ≤ b) : zT9 N b (List.replicate N 0) := ⟨by simp,fun j => by
  rw [aH,kY];split <;> simp [hb]⟩
end Go.Proofs.YtdmajnjoeidgeaaGreat
namespace Go.Proofs.YtdmajnjoeidgeaaGreat
open Go Go.Ab Go.Fl Go.Re Go.Ln
attribute [local irreducible] VC AW bR bQ fT
set_option maxHeartbeats 4000000
theorem WL {f : jD} (g : iL f) : ∀ c d n,pK f c d = some n → f.k.getD n 0 ≠ 0 := fun c d n h => by
  have := (lB g ((uH g).1 ((K9 g).1 h))).2.2.2.2;have h2 := this.1;unfold mC at h2
  rwa [aX] at h2
theorem J4 {l : List Int} {i : Nat} (h : i < l.length) : (aI l)[0 + (i : Int).toNat]? = some [AV.i (l.getD i (-1))] := by
  rw [Nat.zero_add,aX,aU,aB h,aH,aB h];rfl
theorem DG {l : List Int} {i : Nat} {x : Int} : (aI l).set (0 + (i : Int).toNat) [AV.i x] = aI (l.set i x) := by
  rw [Nat.zero_add,aX];simp [xG]
theorem CY {q : List Nat} {c : Nat} : List.take q.length (List.drop 0 (zK q)) ++ [[AV.i (c : Int)]] = zK (q ++ [c]) := by
  rw [fJ,bC (by simp)];simp
def A0 (N j : Nat) : List Int := (List.range N).map fun i => if i < j then -1 else 0
theorem zG0 (N : Nat) : aI (A0 N 0) = List.replicate N [AV.v (Value.int .i64 0)] :=
  BJ (by simp [A0]) fun i h1 h2 => by simp [A0]
theorem TF (N : Nat) : A0 N N = List.replicate N (-1) :=
  BJ (by simp [A0]) fun i h1 h2 => by
    have : i < N := by simpa [A0] using h1
    simp [A0,this]
theorem TE {N i : Nat} (h : i < N) : (aI (A0 N i)).set (0 + (i : Int).toNat) [AV.i (-1)] = aI (A0 N (i + 1)) := by
  rw [Nat.zero_add,aX];refine BJ (by simp [A0]) fun j h1 h2 => ?_
  rw [List.getElem_set];simp only [ZX,A0,List.getElem_range];by_cases e : i = j
  · rw [if_pos e,if_pos (by omega)]
  · rw [if_neg e];by_cases h3 : j < i
    · rw [if_pos h3,if_pos (by omega)]
    · rw [if_neg h3,if_neg (by omega)]
theorem YD {N i : Nat} (h : i < N) : (aI (A0 N i))[0 + (i : Int).toNat]? = some [AV.i 0] := by
  rw [Nat.zero_add,aX];simp [A0,h]
theorem CL {f : jD} {c : Nat} (hc : c < f.k.length) : GM f (bO f) c = true ↔ f.k.getD c 0 ≠ 0 ∧ ¬ (c : Int) ∈ bO f := by
  unfold GM;simp
theorem WM {f : jD} {c : Nat} (h : (c : Int) ∈ bO f) : vQ f c = true := by
  obtain ⟨_,_,h3⟩ := jG.1 h;rw [aX] at h3;unfold ZY at h3;rw [D5,decide_eq_true_eq,decide_eq_true_eq] at h3;unfold vQ;rw [decide_eq_true_eq];omega
theorem ZE {f : jD} {out : List Int} {c d n : Nat} (hd : d < 6) (h0 : ∀ d',d' < d → oT f out c d' = none) (h : oT f out c d = some n) : oD f out c = n := by
  unfold oD;have : (List.range 6).findSome? (oT f out c) = some n := by
    rw [List.findSome?_eq_some_iff];refine ⟨List.range d,d,List.range' (d + 1) (6 - d - 1),?_,h,fun x hx => h0 x (fC.1 hx)⟩;rw [← tI,mS,mS,show 6 - d - 1 + 1 = 6 - d by omega]
    have := List.range'_append_1 (s := 0) (m := d) (n := 6 - d);rw [Nat.zero_add] at this;rw [this,show d + (6 - d) = 6 by omega]
  rw [this];rfl
theorem JV (s : lN) (g : iL s.fl) (c : Int) : bQ Tryz.prog 20 [.agg (fS s),.i c] [] (.rowE (aI (lT s.fl c)) 1) [] := by
  have hN := g.le;have hkl : (aI s.fl.k).length = s.fl.k.length := aR _;have cw := H6 s g c;by_cases hcw : c ∈ bO s.fl
  case neg =>
    rw [decide_eq_false hcw] at cw;have e : lT s.fl c = [] := if_neg fun h => hcw h.1
    rw [e];refine BB ?_;refine dD T Tryz.func20 rfl rfl rfl rfl ?_
    (repeat' (first|refine wS ?_|refine wR ?_|refine wT ?_|(refine rg 0 (bH (bN rfl rfl) rfl (aV ?_)))|(refine rg 1 (lW T rfl (mW rfl (vV (kC (cw)) (vV (bB rfl) ?_)))))|(refine rg 2 (aV ?_))|refine nZ ?_));all_goals exact rQ
  rw [decide_eq_true hcw] at cw;obtain ⟨hc0,hc1,_⟩ := jG.1 hcw;have hmv := A6 g;have hwl := WL g;have hbs := fun {c d n : Nat} => K9 g (c := c) (d := d) (n := n);have hbackI := XK g;have hwalk := fun x : Int => H6 s g x
  have hsz := H5 g;have hsrl : ∀ x,x ∈ pM s.fl → x < s.fl.k.length := H3 (aY _);have hokw : ∀ n : Nat,((n : Int) ∈ bO s.fl) → vQ s.fl n = true := fun n h => WM h
  have hsrw : ∀ n : Nat,n < s.fl.k.length → s.fl.k.getD n 0 ≠ 0 → ¬ (n : Int) ∈ bO s.fl → vQ s.fl n = true ∧ n ∈ pM s.fl := fun n hn hk hw => ⟨by unfold vQ;exact decide_eq_true hk,A2.2 ⟨hn,(CL hn).2 ⟨hk,hw⟩⟩⟩
  refine fT.toA (Φ := fun r o => o = [] ∧ r = .rowE (aI (lT s.fl c)) 1) ?_ (fun _ _ h => ⟨h.2,h.1⟩);refine E9 (Φ := fun r o => (r = .nils ∧ o = [] ∧ lT s.fl c = []) ∨ (r = .sl 0 0 (lT s.fl c).length 1 ∧ o = [.arr (aI (lT s.fl c)) 1])) ?_ ?_;rotate_left
  · rintro r o (⟨rfl,rfl,h⟩ | ⟨rfl,rfl⟩)
    · exact ⟨_,.nils 1,by rw [h];rfl⟩
    · exact ⟨_,lA rfl rfl,rfl⟩
  refine mM T Tryz.func20 rfl rfl rfl rfl ?_
  (repeat' (first|refine wS ?_|refine wB ?_|refine wK ?_|refine wU ?_|(refine rg 0 (bH (bN rfl rfl) rfl (aV ?_)))|(refine rg 1 (lW T rfl (mW rfl (vV (kC (cw)) (vV (bB rfl) ?_)))))|(refine rg 3 (fW T rfl (eK T rfl (qW T rfl (aV ?_)))))|(refine rg 4 (mW rfl (bH (by exact tX T rfl rfl rfl rfl (by omega) (by omega) (by dsimp only;omega) (by omega) (by decide)) rfl ?_));refine aV ?_)|(refine rg 5 (aV ?_))|refine nZ ?_));refine bV (X := {i : Nat // i ≤ s.fl.k.length}) (fun i => [(1,.i c),(2,.ptr 0 0),(5,.i s.fl.k.length),(6,.sl 1 0 s.fl.k.length 1),(7,.i (i.1 : Int))]) (fun i => [.cells (fS s),.arr (aI (A0 s.fl.k.length i.1)) 1]) (fun i => s.fl.k.length - i.1) ⟨0,cH _⟩ ?_ ?_
  · exact ⟨[0,1],rfl,⟨rfl,rfl,congrArg (fun n : Nat => some (AV.i n)) hkl,congrArg (fun n : Nat => some (AV.sl 1 0 n 1)) hkl,rfl,trivial⟩,⟨.inr rfl,.inr (aC rfl (by dsimp only;rw [hkl,aX];exact (zG0 _).symm) (aM _)),trivial⟩,by decide,gL⟩
  rintro ⟨i,hi⟩;dsimp only at hi ⊢;by_cases hlt : i < s.fl.k.length
  · have eb := YD hlt;have u1 := TE hlt;have hml : (aI (A0 s.fl.k.length i)).length = s.fl.k.length := by simp [A0]
    generalize aI (A0 s.fl.k.length i) = MI at *
    (repeat' (first|refine wS ?_|refine wB ?_|refine wK ?_|refine wT ?_|(refine rg 6 (eX rfl (vV (aL rfl rfl (by omega)) ?_)))|(refine rg 8 (eX rfl (vV (bZ T rfl rfl rfl rfl rfl (by omega) (by omega)) (bJ T rfl rfl rfl rfl rfl rfl (by decide) (rA rfl eb rfl) ?_))))|(refine iA 7 rfl rfl rfl (by omega) (by omega) ?_)|refine nZ ?_));all_goals exact ⟨⟨i + 1,hlt⟩,by dsimp only;omega,[0,1],rfl,(by repeat first|exact trivial|refine ⟨rfl,?_⟩),⟨.inr rfl,.inr (aC rfl u1 (aM _)),trivial⟩,by decide,gL⟩
  obtain rfl : i = s.fl.k.length := by omega
  rw [TF];clear hlt hi
  (repeat' (first|refine wS ?_|refine wB ?_|refine wE ?_|refine wU ?_|(refine rg 6 (eX rfl (vV (bG rfl rfl (by omega)) ?_)))|(refine rg 9 (aV ?_))|(refine rg 10 (aV ?_))|refine nZ ?_));refine rR 8 1 rfl (by decide) ?_
  have hsr := fun l hl => oI (N := s.fl.k.length) (mv := pK s.fl) (ok := vQ s.fl) l hl;refine bV (X := {j : Nat // j ≤ s.fl.k.length}) (fun j => [(1, .i c), (2, .ptr 0 0), (5, .i s.fl.k.length), (6, .sl 1 0 s.fl.k.length 1), (8, .sl 2 0 (kR (rW s.fl (bO s.fl) j.1) (iX s.fl.k.length (vQ s.fl))).q.length 1), (9, .i (j.1 : Int))])
    (fun j => [.cells (fS s),.arr (aI (kR (rW s.fl (bO s.fl) j.1) (iX s.fl.k.length (vQ s.fl))).out) 1,.arr (zK (kR (rW s.fl (bO s.fl) j.1) (iX s.fl.k.length (vQ s.fl))).q) 1]) (fun j => s.fl.k.length - j.1) ⟨0,cH _⟩ ⟨[0,1,2],rfl,(by repeat first|exact trivial|refine ⟨rfl,?_⟩),⟨.inr rfl,.inr (aC rfl rfl (aM _)),.inr (aC rfl rfl (jF _)),trivial⟩,by decide,gL⟩ ?_
  rintro ⟨j,hj⟩;dsimp only at hj ⊢;by_cases hlt : j < s.fl.k.length
  · obtain ⟨hS,hroom,hle⟩ := hsr (rW s.fl (bO s.fl) j) (H3 hj);have hsc := CK s.fl (bO s.fl) j;have hlu := hS.inv.lu;have hopn := hS.inv.opn j hlt;have hzero := hS.inv.zero j hlt;have hle := hle j hlt;clear hS;have cwj := hwalk (j : Int);have qk := eY (l := s.fl.k) (j := (j : Int)) (i := j) 0 hlt (by simp)
    have hsb := CL hlt;have hokj : vQ s.fl j = decide (s.fl.k.getD j 0 ≠ 0) := rfl;by_cases hw : (j : Int) ∈ bO s.fl
    · rw [decide_eq_true hw] at cwj;rw [if_neg (fun h => (hsb.1 h).2 hw)] at hsc;rw [← hsc]
      (repeat' (first|refine wS ?_|refine wB ?_|refine wK ?_|refine wT ?_|refine wU ?_|(refine rg 11 (eX rfl (vV (aL rfl rfl (by omega)) ?_)))|(refine rg 13 (lW T rfl (mW rfl (vV (kC (cwj)) (vV (bB rfl) (mV ?_)))));(iterate 7 refine gF ?_);refine pV ?_)|(refine iA 12 rfl rfl rfl (by omega) (by omega) ?_)|refine nZ ?_));all_goals exact ⟨⟨j + 1,hlt⟩,by dsimp only;omega,[0,1,2],rfl,(by repeat first|exact trivial|refine ⟨rfl,?_⟩),⟨.inr rfl,.inr (aC rfl rfl (aM _)),.inr (aC rfl rfl (jF _)),trivial⟩,by decide,gL⟩
    · rw [decide_eq_false hw] at cwj;by_cases hk : s.fl.k.getD j 0 = 0
      · rw [if_neg (fun h => (hsb.1 h).1 hk)] at hsc;rw [← hsc];generalize s.fl.k.getD j 0 = y at *
        (repeat' (first|refine wS ?_|refine wB ?_|refine wK ?_|refine wT ?_|refine wU ?_|(refine rg 11 (eX rfl (vV (aL rfl rfl (by omega)) ?_)))|(refine rg 13 (lW T rfl (mW rfl (vV (kC (cwj)) (vV (bB rfl) (mW rfl (yP T rfl (yP T rfl (yO T rfl (yM ?_)))))))));refine yV (ix T rfl (by omega) (aE _) qk) (yO T rfl (yV (gE rfl rfl hk) (pV ?_))))|(refine iA 12 rfl rfl rfl (by omega) (by omega) ?_)|refine nZ ?_));all_goals exact ⟨⟨j + 1,hlt⟩,by dsimp only;omega,[0,1,2],rfl,(by repeat first|exact trivial|refine ⟨rfl,?_⟩),⟨.inr rfl,.inr (aC rfl rfl (aM _)),.inr (aC rfl rfl (jF _)),trivial⟩,by decide,gL⟩
      · rw [if_pos (hsb.2 ⟨hk,hw⟩)] at hsc;have hst : kR (rW s.fl (bO s.fl) (j + 1)) (iX s.fl.k.length (vQ s.fl)) = pI j 0 (kR (rW s.fl (bO s.fl) j) (iX s.fl.k.length (vQ s.fl))) := by rw [hsc,DN]
        have hnj : ¬ j ∈ rW s.fl (bO s.fl) j := fun h => by have := (A2.1 h).1;omega
        generalize kR (rW s.fl (bO s.fl) j) (iX s.fl.k.length (vQ s.fl)) = S at *;obtain ⟨op,out,q⟩ := S;simp only at hlu hopn hst hroom hle hzero ⊢
        have hop : op.getD j false = true := hopn.2 ⟨by rw [hokj];exact decide_eq_true hk,by
          rcases G3 (out.getD j (-1)) 0 with h | h
          · exact h
          · exact absurd (hzero (by omega)) hnj⟩
        have hst : kR (rW s.fl (bO s.fl) (j + 1)) (iX s.fl.k.length (vQ s.fl)) = ⟨op.set j false,out.set j 0,q ++ [j]⟩ := by rw [hst];unfold pI;rw [if_pos hop]
        have hq : q.length ≤ 300 := by unfold kJ at hroom;simp only at hroom;omega
        have hol : (aI out).length = s.fl.k.length := by rw [aR,hlu]
        have e3 : (aI out)[0 + (j : Int).toNat]? = some [AV.i (out.getD j (-1))] := J4 (by omega)
        generalize s.fl.k.getD j 0 = y at *
        (repeat' (first|refine wS ?_|refine wB ?_|refine wK ?_|refine wT ?_|(refine rg 11 (eX rfl (vV (aL rfl rfl (by omega)) ?_)))|(refine rg 13 (lW T rfl (mW rfl (vV (kC (cwj)) (vV (bB rfl) (mW rfl (yP T rfl (yP T rfl (yO T rfl (yM ?_)))))))));refine yV (ix T rfl (by omega) (aE _) qk) (yO T rfl (yV (lC rfl rfl hk) (pV ?_))))|(refine rg 14 (eX rfl (vV (bZ T rfl rfl rfl rfl rfl (by omega) (by omega)) (bJ T rfl rfl rfl rfl rfl rfl (by decide) (rA rfl e3 rfl) ?_))))|(refine rg 15 (eX rfl (bH (by exact aS T rfl rfl (by decide) (by decide) rfl rfl rfl) rfl ?_));refine eL T rfl rfl rfl rfl rfl rfl (by simp) (iU.whole rfl rfl) rfl (by simp;omega) (by simp;omega) rfl ?_;refine aV ?_)|(refine iA 12 rfl rfl rfl (by omega) (by omega) ?_)|refine nZ ?_));refine ⟨⟨j + 1,hlt⟩,by dsimp only;omega,?_⟩
        dsimp only;rw [hst];exact ⟨[0,1,4],rfl,⟨rfl,rfl,rfl,rfl,by rw [aF];rfl,rfl,trivial⟩,⟨.inr rfl,.inr (aC rfl DG (aM _)),.inr (aC rfl CY (jF _)),trivial⟩,by decide,gL⟩
  obtain rfl : j = s.fl.k.length := by omega
  (repeat' (first|refine wS ?_|refine wB ?_|refine wE ?_|refine wU ?_|(refine rg 11 (eX rfl (vV (bG rfl rfl (by omega)) ?_)))|(refine rg 16 (aV ?_))|refine nZ ?_));obtain ⟨g1,g2,g3⟩ := hsr (pM s.fl) hsrl
  clear hsr hj hlt;refine bV (X := {x : St × List Nat × Nat // G1 s.fl.k.length (pK s.fl) (vQ s.fl) (· ∈ pM s.fl) x.1 ∧ kJ x.1 ≤ x.2.2 ∧ x.2.1.length + x.2.2 ≤ s.fl.k.length ∧ QP (pK s.fl) x.2.2 x.1 = tR s.fl.k.length (pK s.fl) (vQ s.fl) (pM s.fl) ∧ ∀ k, k < s.fl.k.length → x.1.out.getD k (-1) + x.2.2 ≤ s.fl.k.length})
    (fun x => [(1,.i c),(2,.ptr 0 0),(6,.sl 1 0 s.fl.k.length 1),(8,.sl 2 0 (x.1.2.1 ++ x.1.1.q).length 1),(10,.i x.1.2.1.length)]) (fun x => [.cells (fS s),.arr (aI x.1.1.out) 1,.arr (zK (x.1.2.1 ++ x.1.1.q)) 1]) (fun x => x.1.2.2) ⟨(kR (pM s.fl) (iX s.fl.k.length (vQ s.fl)),[],s.fl.k.length),g1,g2,by simp,rfl,fun k hk => by have := g3 k hk;dsimp only;omega⟩ ⟨[0,1,2],rfl,(by repeat first|exact trivial|refine ⟨rfl,?_⟩),⟨.inr rfl,.inr (aC rfl rfl (aM _)),.inr (aC rfl rfl (jF _)),trivial⟩,by decide,gL⟩ ?_
  clear g1 g2 g3;rintro ⟨⟨⟨op,out,q⟩,pre,fuel⟩,h1,h2,h3,h4,h5⟩;simp only at h1 h2 h3 h4 h5;dsimp only;have lu : out.length = s.fl.k.length := h1.inv.lu;cases q with
  | cons b r =>
    have hcr : (pre ++ b :: r).length = pre.length + r.length + 1 := by simp;omega
    have hrm : kJ ⟨op,out,b :: r⟩ = kJ ⟨op,out,r⟩ + 1 := by unfold kJ;simp;omega
    have hrl : r.length ≤ kJ ⟨op,out,r⟩ := by unfold kJ;simp only;omega
    obtain ⟨k,rfl⟩ : ∃ k,fuel = k + 1 := ⟨fuel - 1,by omega⟩
    have m0 := h1.pop rfl;have hc := m0.hc;have eq1 : (pre ++ [b]) ++ r = pre ++ b :: r := by simp
    (repeat' (first|refine wS ?_|refine wB ?_|refine wK ?_|refine wT ?_|(refine rg 17 (eX rfl (qW T rfl (vV (aL rfl rfl (by omega)) ?_))))|(refine rg 19 (aV ?_))|refine nZ ?_));refine bV (X := {x : St × Nat // OE s.fl.k.length (pK s.fl) (vQ s.fl) (· ∈ pM s.fl) b x.2 x.1 ∧ x.2 ≤ 6 ∧ (List.range' x.2 (6 - x.2)).foldl (uJ (pK s.fl) b) x.1 = wO (pK s.fl) b ⟨op, out, r⟩ ∧ kJ x.1 ≤ k ∧ (∀ y, y < s.fl.k.length → x.1.out.getD y (-1) ≤ s.fl.k.length - k) ∧ x.1.out.getD b (-1) + 1 ≤ s.fl.k.length - k})
      (fun x => [(1,.i c),(2,.ptr 0 0),(6,.sl 1 0 s.fl.k.length 1),(8,.sl 2 0 ((pre ++ [b]) ++ x.1.1.q).length 1),(10,.i pre.length),(11,.i x.1.2)]) (fun x => [.cells (fS s),.arr (aI x.1.1.out) 1,.arr (zK ((pre ++ [b]) ++ x.1.1.q)) 1]) (fun x => 6 - x.1.2) ⟨(⟨op,out,r⟩,0),m0,cH _,rfl,by dsimp only;omega,fun y hy => by have := h5 y hy;dsimp only;omega,by have := h5 b hc;dsimp only;omega⟩ ?_ ?_
    · simp only [eq1];exact ⟨[0,1,2],rfl,(by repeat first|exact trivial|refine ⟨rfl,?_⟩),⟨.inr rfl,.inr (aC rfl rfl (aM _)),.inr (aC rfl rfl (jF _)),trivial⟩,by decide,gL⟩
    rintro ⟨⟨⟨op',out',q'⟩,d⟩,m1,m2,m3,m4,m5,m6⟩;simp only at m1 m2 m3 m4 m5 m6;dsimp only;have lu' : (aI out').length = s.fl.k.length := by rw [aR];exact m1.inv.lu
    have m0' : 0 ≤ out'.getD b (-1) := m1.h0;have hql2 : pre.length + q'.length + 1 ≤ 300 := by
      have : q'.length ≤ kJ ⟨op',out',q'⟩ := by unfold kJ;simp only;omega
      omega
    have hqL : ((pre ++ [b]) ++ q').length = pre.length + q'.length + 1 := by simp;omega
    have hqN : (zK ((pre ++ [b]) ++ q')).length = pre.length + q'.length + 1 := by rw [dY,hqL]
    have hqn : ∀ n : Nat,((pre ++ [b]) ++ (q' ++ [n])).length = ((pre ++ [b]) ++ q').length + 1 := fun n => by simp;omega
    have e1 : (zK ((pre ++ [b]) ++ q'))[0 + (pre.length : Int).toNat]? = some [AV.i (b : Int)] := by simp
    by_cases hd : d < 6
    · have e2 : (aI out')[0 + (b : Int).toNat]? = some [AV.i (out'.getD b (-1))] := J4 (by rw [aR] at lu';omega)
      have n1 := m1.next hmv hd
      obtain ⟨n2,n3⟩ := m1.bound hmv m5 m6;have n4 : (List.range' (d + 1) (6 - (d + 1))).foldl (uJ (pK s.fl) b) (uJ (pK s.fl) b ⟨op',out',q'⟩ d) = wO (pK s.fl) b ⟨op,out,r⟩ := by
        rw [← m3,show 6 - d = (6 - (d + 1)) + 1 by omega,tI,kQ]
      have n5 : kJ (uJ (pK s.fl) b ⟨op',out',q'⟩ d) ≤ k := by rw [X3];exact m4
      have n6 : (uJ (pK s.fl) b ⟨op',out',q'⟩ d).out.getD b (-1) + 1 ≤ s.fl.k.length - k := by rw [n3];exact m6
      have nx : ∀ s',uJ (pK s.fl) b ⟨op',out',q'⟩ d = s' → OE s.fl.k.length (pK s.fl) (vQ s.fl) (· ∈ pM s.fl) b (d + 1) s' ∧ d + 1 ≤ 6 ∧ (List.range' (d + 1) (6 - (d + 1))).foldl (uJ (pK s.fl) b) s' = wO (pK s.fl) b ⟨op,out,r⟩ ∧ kJ s' ≤ k ∧ (∀ y,y < s.fl.k.length → s'.out.getD y (-1) ≤ s.fl.k.length - k) ∧ s'.out.getD b (-1) + 1 ≤ s.fl.k.length - k := by
        rintro s' rfl;exact ⟨n1,hd,n4,n5,n2,n6⟩
      unfold uJ at nx;have hbk0 := hbackI b d;clear n1 n2 n3 n4 n5 n6;cases hm : pK s.fl b d with
      | none =>
        rw [hm] at nx;have nx := nx _ rfl;have hbk : bQ Tryz.prog 50 [lU s.fl,.i (b : Int),.i (d : Int)] [] (.tup [.i 0,.b false]) [] := by
          have : qQ s.fl b d = none := by
            cases hx : qQ s.fl b d with
            | none => rfl
            | some n => have := hbs.2 (show qQ s.fl b d = some ((n.toNat : Nat) : Int) by rw [hx,hO (lB g ((uH g).1 hx)).1.1]);rw [show pK s.fl b d = none from hm] at this;cases this
          rw [this] at hbk0;exact hbk0
        (repeat' (first|refine wS ?_|refine wB ?_|refine wK ?_|refine wT ?_|refine wU ?_|(refine rg 20 (mW rfl (vV (aL rfl rfl (by omega)) ?_)))|(refine aN (id := 22) 149 zY2 [72,73,74,75,76,77,78,79,71,80,81,12] zY3 bM rfl (by decide +kernel) (dP T rfl (dO T rfl (dN rfl (dN rfl (dV rfl (bZ T rfl rfl rfl rfl rfl (by omega) (by omega)) (dV rfl (cJ T rfl rfl (eO rfl e1) rfl) (dN rfl (dV rfl (kC (hbk)) (dM ?_)))))))));refine dV rfl (by exact eB rfl rfl) ?_;refine dV rfl (by exact eB rfl rfl) ?_;refine dV rfl (eM rfl) (dE ?_);refine aV ?_)|(refine rg 23 (mV ?_))|(refine iA 21 rfl rfl rfl (by omega) (by omega) ?_)|refine nZ ?_));all_goals exact ⟨⟨(⟨op',out',q'⟩,d + 1),nx⟩,by dsimp only;omega,[0,1,2],rfl,(by repeat first|exact trivial|refine ⟨rfl,?_⟩),⟨.inr rfl,.inr (aC rfl rfl (aM _)),.inr (aC rfl rfl (jF _)),trivial⟩,by decide,gL⟩
      | some n =>
        have hn := hmv b d n hc hm;have ho := m1.inv.opn n hn;have hkn := hwl b d n hm;have hall := m1.all n hn;have cwn := hwalk (n : Int);have hbk : bQ Tryz.prog 50 [lU s.fl,.i (b : Int),.i (d : Int)] [] (.tup [.i (n : Int),.b true]) [] := by rw [hbs.1 hm] at hbk0;exact hbk0
        rw [hm] at nx;simp only at nx;unfold pI at nx;have e4 : (aI out')[0 + (n : Int).toNat]? = some [AV.i (out'.getD n (-1))] := J4 (by rw [aR] at lu';omega)
        by_cases hw : (n : Int) ∈ bO s.fl
        · rw [decide_eq_true hw] at cwn;rcases G3 (out'.getD n (-1)) 0 with hneg | hpos
          · have hop := ho.2 ⟨hokw n hw,hneg⟩;rw [if_pos hop] at nx;have nx := nx _ rfl
            (repeat' (first|refine wS ?_|refine wB ?_|refine wK ?_|refine wT ?_|(refine rg 20 (mW rfl (vV (aL rfl rfl (by omega)) ?_)))|(refine aN (id := 22) 149 zY2 [72,73,74,75,76,77,78,79,71,80,81,12] zY3 bM rfl (by decide +kernel) (dP T rfl (dO T rfl (dN rfl (dN rfl (dV rfl (bZ T rfl rfl rfl rfl rfl (by omega) (by omega)) (dV rfl (cJ T rfl rfl (eO rfl e1) rfl) (dN rfl (dV rfl (kC (hbk)) (dM ?_)))))))));refine dV rfl (by exact eB rfl rfl) ?_;refine dV rfl (by exact eB rfl rfl) ?_;refine dV rfl (eM rfl) (dE ?_);refine aV ?_)|(refine rg 23 (mV ?_))|(refine rg 24 (vV (cJ T rfl rfl rfl rfl) (mW rfl (vV (kC (cwn)) (mW rfl (yN rfl (yN rfl (yV (bZ T rfl rfl rfl rfl rfl (by omega) (by omega)) (yV (cJ T rfl rfl (eO rfl e4) rfl) (yV (aL rfl rfl (by omega)) ?_)))))))));refine pV ?_)|(refine rg 25 (eX rfl (eX rfl (mW rfl (vV (bZ T rfl rfl rfl rfl rfl (by omega) (by omega)) (vV (cJ T rfl rfl (eO rfl e1) rfl) (vV (bZ T rfl rfl rfl rfl rfl (by omega) (by omega)) (vV (cJ T rfl rfl (eO rfl e2) rfl) (vV (bP rfl rfl (by omega) (by omega)) (vV (bZ T rfl rfl rfl rfl rfl (by omega) (by omega)) ?_)))))))));refine bJ T rfl rfl rfl rfl rfl rfl (by decide) (rA rfl e4 rfl) ?_)|(refine rg 26 (eX rfl (bH (by exact aS T rfl rfl (by decide) (by decide) rfl rfl rfl) rfl ?_));refine eL T rfl rfl rfl rfl rfl rfl (by simp) (iU.whole rfl rfl) rfl (by simp;omega) (by simp;omega) rfl ?_;refine aV ?_)|(refine iA 21 rfl rfl rfl (by omega) (by omega) ?_)|refine nZ ?_));all_goals exact ⟨⟨(⟨op'.set n false,out'.set n (out'.getD b (-1) + 1),q' ++ [n]⟩,d + 1),nx⟩,by dsimp only;omega,[0,1,4],rfl,⟨rfl,rfl,rfl,by dsimp only;rw [hqn];rfl,rfl,rfl,trivial⟩,⟨.inr rfl,.inr (aC rfl DG (aM _)),.inr (aC rfl (CY.trans (by rw [fL (pre ++ [b])])) (jF _)),trivial⟩,by decide,gL⟩
          · have hop : ¬ op'.getD n false = true := fun h => absurd (ho.1 h).2 (Int.not_lt.2 hpos);rw [if_neg hop] at nx;have nx := nx _ rfl
            (repeat' (first|refine wS ?_|refine wB ?_|refine wK ?_|refine wT ?_|refine wU ?_|(refine rg 20 (mW rfl (vV (aL rfl rfl (by omega)) ?_)))|(refine aN (id := 22) 149 zY2 [72,73,74,75,76,77,78,79,71,80,81,12] zY3 bM rfl (by decide +kernel) (dP T rfl (dO T rfl (dN rfl (dN rfl (dV rfl (bZ T rfl rfl rfl rfl rfl (by omega) (by omega)) (dV rfl (cJ T rfl rfl (eO rfl e1) rfl) (dN rfl (dV rfl (kC (hbk)) (dM ?_)))))))));refine dV rfl (by exact eB rfl rfl) ?_;refine dV rfl (by exact eB rfl rfl) ?_;refine dV rfl (eM rfl) (dE ?_);refine aV ?_)|(refine rg 23 (mV ?_))|(refine rg 24 (vV (cJ T rfl rfl rfl rfl) (mW rfl (vV (kC (cwn)) (mW rfl (yN rfl (yN rfl (yV (bZ T rfl rfl rfl rfl rfl (by omega) (by omega)) (yV (cJ T rfl rfl (eO rfl e4) rfl) (yV (bG rfl rfl (by omega)) ?_)))))))));refine pV ?_)|(refine iA 21 rfl rfl rfl (by omega) (by omega) ?_)|refine nZ ?_));all_goals exact ⟨⟨(⟨op',out',q'⟩,d + 1),nx⟩,by dsimp only;omega,[0,1,2],rfl,(by repeat first|exact trivial|refine ⟨rfl,?_⟩),⟨.inr rfl,.inr (aC rfl rfl (aM _)),.inr (aC rfl rfl (jF _)),trivial⟩,by decide,gL⟩
        · rw [decide_eq_false hw] at cwn;obtain ⟨hok,hsrc⟩ := hsrw n hn hkn hw;have hop : ¬ op'.getD n false = true := fun h => by have := (ho.1 h).2;have := hall hok hsrc;omega
          rw [if_neg hop] at nx;have nx := nx _ rfl
          (repeat' (first|refine wS ?_|refine wB ?_|refine wK ?_|refine wT ?_|refine wU ?_|(refine rg 20 (mW rfl (vV (aL rfl rfl (by omega)) ?_)))|(refine aN (id := 22) 149 zY2 [72,73,74,75,76,77,78,79,71,80,81,12] zY3 bM rfl (by decide +kernel) (dP T rfl (dO T rfl (dN rfl (dN rfl (dV rfl (bZ T rfl rfl rfl rfl rfl (by omega) (by omega)) (dV rfl (cJ T rfl rfl (eO rfl e1) rfl) (dN rfl (dV rfl (kC (hbk)) (dM ?_)))))))));refine dV rfl (by exact eB rfl rfl) ?_;refine dV rfl (by exact eB rfl rfl) ?_;refine dV rfl (eM rfl) (dE ?_);refine aV ?_)|(refine rg 23 (mV ?_))|(refine rg 24 (vV (cJ T rfl rfl rfl rfl) (mW rfl (vV (kC (cwn)) (mV ?_))));(iterate 5 refine gF ?_);refine pV ?_)|(refine iA 21 rfl rfl rfl (by omega) (by omega) ?_)|refine nZ ?_));all_goals exact ⟨⟨(⟨op',out',q'⟩,d + 1),nx⟩,by dsimp only;omega,[0,1,2],rfl,(by repeat first|exact trivial|refine ⟨rfl,?_⟩),⟨.inr rfl,.inr (aC rfl rfl (aM _)),.inr (aC rfl rfl (jF _)),trivial⟩,by decide,gL⟩
    · obtain rfl : d = 6 := by omega
      have m3 : (⟨op',out',q'⟩ : St) = wO (pK s.fl) b ⟨op,out,r⟩ := m3;have h4 : QP (pK s.fl) k (wO (pK s.fl) b ⟨op,out,r⟩) = tR s.fl.k.length (pK s.fl) (vQ s.fl) (pM s.fl) := h4;have hpc : (pre ++ [b]).length = pre.length + 1 := by simp
      (repeat' (first|refine wS ?_|refine wE ?_|refine wU ?_|(refine rg 20 (mW rfl (vV (bG rfl rfl (by omega)) ?_)))|(refine iA 18 rfl rfl rfl (by omega) (by omega) ?_)|refine nZ ?_));all_goals exact ⟨⟨(⟨op',out',q'⟩,pre ++ [b],k),m1.end,m4,by dsimp only;omega,by dsimp only;rw [m3];exact h4,fun y hy => by have := m5 y hy;dsimp only;omega⟩,by dsimp only;omega,[0,1,2],rfl,⟨rfl,rfl,rfl,rfl,by dsimp only;rw [hpc];rfl,trivial⟩,⟨.inr rfl,.inr (aC rfl rfl (aM _)),.inr (aC rfl rfl (jF _)),trivial⟩,by decide,gL⟩
  | nil =>
    have e : lZ s.fl = out := by unfold lZ;rw [← h4];cases fuel <;> rfl
    have hpl : (pre ++ []).length = pre.length := by simp
    clear h1 h2 h3 h4 h5;subst e
    (repeat' (first|refine wS ?_|refine wE ?_|refine wU ?_|(refine rg 17 (eX rfl (qW T rfl (vV (bG rfl rfl (by omega)) ?_))))|refine nZ ?_));have hol : (aI (lZ s.fl)).length = s.fl.k.length := by rw [aR,lu]
    refine kT [(1,.i c),(2,.ptr 0 0),(6,.sl 1 0 s.fl.k.length 1)] [.cells (fS s),.arr (aI (lZ s.fl)) 1] ⟨[0,1],rfl,⟨rfl,rfl,rfl,trivial⟩,⟨.inr rfl,.inr (aC rfl rfl (aM _)),trivial⟩,by decide,gL⟩ ?_
    refine F9 6 rfl rfl hol.symm (kP (aM _)) ?_;have qO : ∀ n : Nat,n < s.fl.k.length → (aI (lZ s.fl))[(n : Int).toNat]? = some [AV.i (lG s.fl n)] := fun n hn => by have := J4 (l := lZ s.fl) (i := n) (by omega);rw [Nat.zero_add] at this;exact this
    obtain ⟨a,rfl⟩ := pX hc0;have hor : lT s.fl (a : Int) = if 0 ≤ lG s.fl a then pO s.fl a else [] := by
      unfold lT;rw [aX];by_cases h : 0 ≤ lG s.fl a
      · rw [if_pos ⟨hcw,h⟩,if_pos h]
      · rw [if_neg (fun q => h q.2),if_neg h]
    rw [hor];have qa := qO a (by omega)
    by_cases h0 : 0 ≤ lG s.fl a
    case neg =>
      rw [if_neg h0];generalize lG s.fl a = v at *
      (repeat' (first|refine wS ?_|refine wR ?_|refine wT ?_|(refine rg 27 (eX rfl (vV (ix T rfl (by omega) (aE _) qa) (lW T rfl (vV (aL rfl rfl (by omega)) ?_)))))|(refine rg 28 (aV ?_))|refine nZ ?_));all_goals exact ⟨_,[],.inl ⟨rfl,rfl,rfl⟩,.inl rfl,[],_,rfl,rfl,rfl,trivial,dK,gL⟩
    rw [if_pos h0];have hfar := (U9 g).1
    (repeat' (first|refine wS ?_|refine wB ?_|refine wK ?_|refine wU ?_|(refine rg 27 (eX rfl (vV (ix T rfl (by omega) (aE _) qa) (lW T rfl (vV (bG rfl rfl (by omega)) ?_)))))|(refine rg 29 (mW rfl (bH (by exact aS T rfl rfl (by decide) (by decide) rfl rfl rfl) rfl ?_));refine aV ?_)|refine nZ ?_));have hwl2 := rE s.fl a
    have hle := zZ g a (by omega)
    refine bV (X := {p : Nat × List Int // p.1 < s.fl.k.length ∧ 0 ≤ lG s.fl p.1 ∧ p.2 ++ C8 s.fl (lZ s.fl) (lG s.fl p.1).toNat p.1 = pO s.fl a}) (fun p => [(1,.i (p.1.1 : Int)),(2,.ptr 0 0),(6,.rowE (aI (lZ s.fl)) 1),(14,.sl 1 0 p.1.2.length 1)]) (fun p => [.cells (fS s),.arr (aI p.1.2) 1]) (fun p => (lG s.fl p.1.1).toNat) ⟨(a,[(a : Int)]),by omega,h0,rfl⟩ ⟨[0,2],rfl,(by repeat first|exact trivial|refine ⟨rfl,?_⟩),⟨.inr rfl,.inr rfl,trivial⟩,by decide,gL⟩ ?_
    rintro ⟨⟨b,w⟩,hb,hb0,hw⟩;dsimp only at hb hb0 hw ⊢;have qb := qO b hb;have hwn : w.length ≤ 400 := by
      have := congrArg List.length hw;rw [aF,hwl2] at this;omega
    have hleb : lG s.fl b ≤ s.fl.k.length := zZ g b hb;by_cases hz : lG s.fl b = 0
    · rw [hz] at hw qb;have hw : w = pO s.fl a := by rw [← hw];exact (List.append_nil _).symm
      rw [← hw]
      (repeat' (first|refine wS ?_|refine wR ?_|refine wE ?_|refine wU ?_|(refine rg 30 (eX rfl (vV (ix T rfl (by omega) (aE _) qb) (lW T rfl (vV (rL rfl rfl (by omega)) ?_)))))|(refine rg 39 (mW rfl (aV ?_)))|refine nZ ?_));all_goals exact ⟨_,_,.inr ⟨rfl,rfl⟩,.inl rfl,[1],_,rfl,rfl,rfl,⟨.inr (aC rfl rfl (aM _)),trivial⟩,by decide,gL⟩
    obtain ⟨m,hm⟩ : ∃ m : Nat,lG s.fl b = ((m + 1 : Nat) : Int) := ⟨(lG s.fl b).toNat - 1,by omega⟩
    obtain ⟨dn1,dn2,d0,dn3,dn4⟩ := P4 g hfar hb (by show 0 < lG s.fl b;omega)
    have hd0 : oT s.fl (lZ s.fl) b d0 = some (oD s.fl (lZ s.fl) b) := by
      unfold oT;rw [dn4];simp only;rw [if_pos];unfold E1;rw [decide_eq_true dn2,decide_eq_true (by show 0 ≤ lG s.fl _;have : lG s.fl (oD s.fl (lZ s.fl) b) = lG s.fl b - 1 := dn2;omega)];rfl
    have hwm : C8 s.fl (lZ s.fl) (lG s.fl b).toNat b = (oD s.fl (lZ s.fl) b : Int) :: C8 s.fl (lZ s.fl) m (oD s.fl (lZ s.fl) b) := by
      rw [hm,aX];rfl
    rw [hwm] at hw;have dn2 : lG s.fl (oD s.fl (lZ s.fl) b) = m := by have : lG s.fl (oD s.fl (lZ s.fl) b) = lG s.fl b - 1 := dn2;omega
    (repeat' (first|refine wS ?_|refine wB ?_|refine wK ?_|refine wT ?_|(refine rg 30 (eX rfl (vV (ix T rfl (by omega) (aE _) qb) (lW T rfl (vV (oC rfl rfl (by omega)) ?_)))))|(refine rg 31 (aV ?_))|refine nZ ?_));refine bV (X := {d : Nat // d ≤ 6 ∧ ∀ d',d' < d → oT s.fl (lZ s.fl) b d' = none}) (fun d => [(1,.i (b : Int)),(2,.ptr 0 0),(6,.rowE (aI (lZ s.fl)) 1),(14,.sl 1 0 w.length 1),(15,.i (d.1 : Int))]) (fun _ => [.cells (fS s),.arr (aI w) 1]) (fun d => 6 - d.1) ⟨0,cH _,fun d' h => absurd h (dJ _)⟩ ⟨[0,1],rfl,(by repeat first|exact trivial|refine ⟨rfl,?_⟩),⟨.inr rfl,.inr (aC rfl rfl (aM _)),trivial⟩,by decide,gL⟩ ?_
    rintro ⟨d,hd6,hds⟩;dsimp only at hd6 hds ⊢;by_cases hd : d < 6
    case neg => exact absurd hd0 (by rw [hds d0 (by omega)];exact fun h => nomatch h)
    have cn := U4 g (b : Int) d;have step : oT s.fl (lZ s.fl) b d = none → ∀ d',d' < d + 1 → oT s.fl (lZ s.fl) b d' = none := fun h d' hd' => by
      by_cases e : d' = d
      · subst e;exact h
      · exact hds d' (by omega)
    cases hx : kK s.fl b d with
    | none =>
      rw [hx] at cn;have hst := step (by unfold oT JH;rw [hx];rfl)
      (repeat' (first|refine wS ?_|refine wB ?_|refine wK ?_|refine wT ?_|refine wU ?_|(refine rg 32 (mW rfl (vV (aL rfl rfl (by omega)) ?_)))|(refine rg 34 (eK T rfl (eX rfl (vV (kC (cn)) (mW rfl (xW rfl (xW rfl (iZ ?_))))))))|(refine rg 35 (mV ?_))|(refine iA 33 rfl rfl rfl (by omega) (by omega) ?_)|refine nZ ?_));all_goals exact ⟨⟨d + 1,hd,hst⟩,by dsimp only;omega,[0,1],rfl,(by repeat first|exact trivial|refine ⟨rfl,?_⟩),⟨.inr rfl,.inr (aC rfl rfl (aM _)),trivial⟩,by decide,gL⟩
    | some y =>
      rw [hx] at cn;have hyr := (lB g hx).2.2.1;obtain ⟨n,rfl⟩ := pX hyr.1;have cn : bQ Tryz.prog 51 [lU s.fl,.i (b : Int),.i (d : Int)] [] (.tup [.i (n : Int),.b true]) [] := cn;have qn := qO n (by omega)
      have hmn : JH s.fl b d = some n := (I3 g).2 hx;have hdf : oT s.fl (lZ s.fl) b d = if E1 (lZ s.fl) b n = true then some n else none := by unfold oT;rw [hmn]
      by_cases hnr : lG s.fl n = lG s.fl b - 1
      · rw [if_pos (by unfold E1;rw [decide_eq_true hnr,decide_eq_true (by show 0 ≤ lG s.fl n;omega)];rfl)] at hdf
        have hdn := ZE hd hds hdf;rw [hdn] at hw dn2;have hap : w ++ [(n : Int)] ++ C8 s.fl (lZ s.fl) (lG s.fl n).toNat n = pO s.fl a := by rw [dn2,aX,← hw];simp
        have hdm : (lG s.fl n).toNat < (lG s.fl b).toNat := by omega
        clear hw hwm hd0 dn4 hdf step hds
        (repeat' (first|refine wS ?_|refine wB ?_|refine wK ?_|refine wE ?_|refine wT ?_|(refine rg 32 (mW rfl (vV (aL rfl rfl (by omega)) ?_)))|(refine rg 34 (eK T rfl (eX rfl (vV (kC (cn)) (mW rfl (xW rfl (xW rfl (iZ ?_))))))))|(refine rg 35 (mV ?_))|(refine aN (id := 36) 149 zY4 (rM 133 10) zY5 bM rfl (by decide +kernel) (dN rfl (dN rfl (dV rfl (ix T rfl (by omega) (aE _) qn) (dO T rfl (dN rfl (dN rfl (dV rfl (ix T rfl (by omega) (aE _) qb) (dO T rfl (dV rfl (fN rfl rfl (by omega) (by omega)) ?_)))))))));refine dV rfl (gH rfl rfl (by omega)) (dE ?_))|(refine rg 37 (mW rfl (aV ?_)))|(refine rg 38 (eX rfl (bH (by exact aS T rfl rfl (by decide) (by decide) rfl rfl rfl) rfl ?_));refine eL T rfl rfl rfl rfl rfl rfl (by simp) (iU.whole rfl rfl) rfl (by simp;omega) (by simp;omega) rfl ?_;refine aV ?_)|refine nZ ?_));all_goals exact ⟨⟨(n,w ++ [(n : Int)]),by dsimp only;omega,by dsimp only;omega,hap⟩,hdm,[0,3],rfl,⟨rfl,rfl,rfl,by dsimp only;rw [aF];rfl,trivial⟩,⟨.inr rfl,.inr (aC rfl oL (aM _)),trivial⟩,by decide,gL⟩
      · rw [if_neg (by unfold E1;rw [decide_eq_false hnr,Bool.and_false];exact vJ)] at hdf
        have hst := step hdf
        (repeat' (first|refine wS ?_|refine wB ?_|refine wK ?_|refine wT ?_|refine wU ?_|(refine rg 32 (mW rfl (vV (aL rfl rfl (by omega)) ?_)))|(refine rg 34 (eK T rfl (eX rfl (vV (kC (cn)) (mW rfl (xW rfl (xW rfl (iZ ?_))))))))|(refine rg 35 (mV ?_))|(refine aN (id := 36) 149 zY4 (rM 133 10) zY5 bM rfl (by decide +kernel) (dN rfl (dN rfl (dV rfl (ix T rfl (by omega) (aE _) qn) (dO T rfl (dN rfl (dN rfl (dV rfl (ix T rfl (by omega) (aE _) qb) (dO T rfl (dV rfl (fN rfl rfl (by omega) (by omega)) ?_)))))))));refine dV rfl (eN rfl rfl (by omega)) (dE ?_))|(refine iA 33 rfl rfl rfl (by omega) (by omega) ?_)|refine nZ ?_));all_goals exact ⟨⟨d + 1,hd,hst⟩,by dsimp only;omega,[0,1],rfl,(by repeat first|exact trivial|refine ⟨rfl,?_⟩),⟨.inr rfl,.inr (aC rfl rfl (aM _)),trivial⟩,by decide,gL⟩
end Go.Proofs.YtdmajnjoeidgeaaGreat
namespace Go.Proofs.YtdmajnjoeidgeaaGreat
open Go Go.Ab Go.Fl Go.Re Go.Ln Go.MapKept
attribute [local irreducible] VC AW bR bQ fT nK
set_option maxHeartbeats 4000000
section
variable {P : Program} {env : eG} {h : Hp} {d : Option Nat} {ty : TypeId} {pos : String} {af : Array Edge} {g : Option (Nat × Bool)}
theorem xD {t t2 : TypeId} {x y : Operand} {a b : Bool} (ht : EE P t) (hx : evu env x = some (.b a)) (hy : evu env y = some (.b b)) (e : a = b) : bR P ⟨d,.binOp .neq t x y t2,ty,pos,af,g⟩ env h 0 (fun _ => .b false) (fun _ => []) := by
  subst e;exact AD ht hx hy
theorem IB {t t2 : TypeId} {x y : Operand} {a b : Bool} (ht : EE P t) (hx : evu env x = some (.b a)) (hy : evu env y = some (.b b)) (e : a ≠ b) : bR P ⟨d,.binOp .neq t x y t2,ty,pos,af,g⟩ env h 0 (fun _ => .b true) (fun _ => []) := by
  have := ND (P := P) (env := env) (h := h) (d := d) (ty := ty) (pos := pos) (af := af) (g := g) (t2 := t2) ht hx hy;rw [show (!(a == b)) = true by simp [e]] at this
  exact this
end
def HO (f : jD) (a b : Int) : Prop := ∃ d : Nat,d < 6 ∧ kK f a d = some b
theorem MU (s : lN) (g : iL s.fl) (a b : Int) (v : Bool) (hv : v = true ↔ HO s.fl a b) : bQ Tryz.prog 122 [.agg (fS s),.i a,.i b] [] (.b v) [] := by
  refine dD T Tryz.func122 rfl rfl rfl rfl ?_
  (repeat' (first|refine wS ?_|refine wB ?_|(refine rg 0 (bH (bN rfl rfl) rfl (aV ?_)))|(refine rg 1 (aV ?_))|refine nZ ?_));refine bV (X := {d : Nat // d ≤ 6 ∧ ∀ d' : Nat,d' < d → kK s.fl a d' ≠ some b}) (fun d => [(1,.i a),(2,.i b),(3,.ptr 0 0),(7,.i (d.1 : Int))]) (fun _ => [.cells (fS s)]) (fun d => 6 - d.1) ⟨0,cH _,fun d' h => absurd h (dJ _)⟩ ⟨[0],rfl,(by repeat first|exact trivial|refine ⟨rfl,?_⟩),⟨.inr rfl,trivial⟩,by decide,gL⟩ ?_
  rintro ⟨d,hd6,hds⟩;dsimp only at hd6 hds ⊢;by_cases hd : d < 6
  case neg =>
    obtain rfl : d = 6 := by omega
    have e : v = false := by
      cases v with
      | false => rfl
      | true => obtain ⟨d',h1,h2⟩ := hv.1 rfl;exact absurd h2 (hds d' h1)
    subst e
    (repeat' (first|refine wS ?_|refine wR ?_|refine wE ?_|refine wU ?_|(refine rg 2 (mW rfl (vV (bG rfl rfl (by omega)) ?_)))|(refine rg 7 (aV ?_))|refine nZ ?_));all_goals exact rQ
  have cn := U4 g a d;have step : kK s.fl a d ≠ some b → ∀ d' : Nat,d' < d + 1 → kK s.fl a d' ≠ some b := fun h d' hd' => by
    by_cases e : d' = d
    · subst e;exact h
    · exact hds d' (by omega)
  cases hx : kK s.fl a d with
  | none =>
    rw [hx] at cn step;have hst := step (fun h => nomatch h)
    (repeat' (first|refine wS ?_|refine wB ?_|refine wK ?_|refine wT ?_|refine wU ?_|(refine rg 2 (mW rfl (vV (aL rfl rfl (by omega)) ?_)))|(refine rg 4 (eK T rfl (eX rfl (vV (kC (cn)) (mW rfl (xW rfl (xW rfl (iZ ?_))))))))|(refine rg 5 (HL ?_);(iterate 3 refine gF ?_);refine pV ?_)|(refine iA 3 rfl rfl rfl (by omega) (by omega) ?_)|refine nZ ?_));all_goals exact ⟨⟨d + 1,hd,hst⟩,by dsimp only;omega,[0],rfl,(by repeat first|exact trivial|refine ⟨rfl,?_⟩),⟨.inr rfl,trivial⟩,by decide,gL⟩
  | some y =>
    rw [hx] at cn step;have cn : bQ Tryz.prog 51 [lU s.fl,.i a,.i (d : Int)] [] (.tup [.i y,.b true]) [] := cn;by_cases hy : y = b
    · have e : v = true := hv.2 ⟨d,hd,by rw [hx,hy]⟩
      subst e
      (repeat' (first|refine wS ?_|refine wB ?_|refine wK ?_|refine wR ?_|refine wT ?_|(refine rg 2 (mW rfl (vV (aL rfl rfl (by omega)) ?_)))|(refine rg 4 (eK T rfl (eX rfl (vV (kC (cn)) (mW rfl (xW rfl (xW rfl (iZ ?_))))))))|(refine rg 5 (eX rfl (yN rfl (yN rfl (yV (gH rfl rfl hy) (pV ?_))))))|(refine rg 6 (aV ?_))|refine nZ ?_));all_goals exact rQ
    · have hst := step (fun h => hy (Option.some.inj h))
      (repeat' (first|refine wS ?_|refine wB ?_|refine wK ?_|refine wT ?_|refine wU ?_|(refine rg 2 (mW rfl (vV (aL rfl rfl (by omega)) ?_)))|(refine rg 4 (eK T rfl (eX rfl (vV (kC (cn)) (mW rfl (xW rfl (xW rfl (iZ ?_))))))))|(refine rg 5 (eX rfl (yN rfl (yN rfl (yV (eN rfl rfl hy) (pV ?_))))))|(refine iA 3 rfl rfl rfl (by omega) (by omega) ?_)|refine nZ ?_));all_goals exact ⟨⟨d + 1,hd,hst⟩,by dsimp only;omega,[0],rfl,(by repeat first|exact trivial|refine ⟨rfl,?_⟩),⟨.inr rfl,trivial⟩,by decide,gL⟩
structure ED (s : lN) (l : List Int) (i : Nat) : Prop where
  w : l.getD i 0 ∈ bO s.fl
  x : sW s.fl (l.getD i 0) = decide (i + 1 = l.length)
  n : 0 < i → HO s.fl (l.getD (i - 1) 0) (l.getD i 0)
  d : ∀ k,k < i → l.getD k 0 ≠ l.getD i 0
structure wH (s : lN) (c : Int) (l : List Int) : Prop where
  two : 2 ≤ l.length
  hd : l.getD 0 0 = c
  at' : ∀ i,i < l.length → ED s l i
theorem vF {v : Bool} {Q : Prop} (hv : v = true ↔ Q) (h : ¬ Q) : v = false := by
  cases v with
  | false => rfl
  | true => exact absurd (hv.1 rfl) h
theorem EZ (s : lN) (g : iL s.fl) (c : Int) (l : List Int) (hl : l.length ≤ 1000) (v : Bool) (hv : v = true ↔ wH s c l) : bQ Tryz.prog 91 [.agg (fS s),.i c,.rowE (aI l) 1] [] (.b v) [] := by
  have hN := g.le;have hil : (aI l).length = l.length := aR _;refine dD T Tryz.func91 rfl rfl rfl rfl ?_;by_cases h2 : 2 ≤ l.length
  case neg =>
    obtain rfl := vF hv (fun h => h2 h.two)
    (repeat' (first|refine wS ?_|refine wR ?_|refine wT ?_|(refine rg 0 (bH (bN rfl rfl) rfl (aV ?_)))|(refine rg 1 (mW rfl (qW T rfl (vV (aL rfl rfl (by omega)) ?_))))|(refine rg 2 (aV ?_))|refine nZ ?_));all_goals exact rQ
  have q0 := eY (l := l) (j := (0 : Int)) (i := 0) 0 (by omega) (by simp)
  by_cases h0 : l.getD 0 0 = c
  case neg =>
    obtain rfl := vF hv (fun h => h0 h.hd);generalize l.getD 0 0 = y at *
    (repeat' (first|refine wS ?_|refine wK ?_|refine wR ?_|refine wT ?_|refine wU ?_|(refine rg 0 (bH (bN rfl rfl) rfl (aV ?_)))|(refine rg 1 (mW rfl (qW T rfl (vV (bG rfl rfl (by omega)) ?_))))|(refine rg 3 (mW rfl (vV (ix T rfl (by omega) (aE _) q0) (lW T rfl (mW rfl (vV (lC rfl rfl h0) ?_))))))|(refine rg 4 (aV ?_))|refine nZ ?_));all_goals exact rQ
  rw [h0] at q0
  (repeat' (first|refine wS ?_|refine wB ?_|refine wK ?_|refine wU ?_|(refine rg 0 (bH (bN rfl rfl) rfl (aV ?_)))|(refine rg 1 (mW rfl (qW T rfl (vV (bG rfl rfl (by omega)) ?_))))|(refine rg 3 (mW rfl (vV (ix T rfl (by omega) (aE _) q0) (lW T rfl (mW rfl (vV (gE rfl rfl rfl) ?_))))))|(refine rg 5 (aV ?_))|refine nZ ?_));refine bV (X := {i : Nat // i ≤ l.length ∧ ∀ j,j < i → ED s l j}) (fun i => [(2,.rowE (aI l) 1),(3,.ptr 0 0),(7,.i (i.1 : Int))]) (fun _ => [.cells (fS s)]) (fun i => l.length - i.1) ⟨0,cH _,fun j h => absurd h (dJ _)⟩ ⟨[0],rfl,(by repeat first|exact trivial|refine ⟨rfl,?_⟩),⟨.inr rfl,trivial⟩,by decide,gL⟩ ?_
  rintro ⟨i,hi,hc⟩;dsimp only at hi hc ⊢;by_cases hlt : i < l.length
  case neg =>
    obtain rfl : i = l.length := by omega
    obtain rfl := hv.2 ⟨h2,h0,hc⟩
    (repeat' (first|refine wS ?_|refine wR ?_|refine wE ?_|refine wU ?_|(refine rg 6 (eX rfl (qW T rfl (vV (bG rfl rfl (by omega)) ?_))))|(refine rg 17 (aV ?_))|refine nZ ?_));all_goals exact rQ
  have qx := eY (l := l) (j := (i : Int)) (i := i) 0 hlt (by simp)
  have cw := H6 s g (l.getD i 0);by_cases hw : l.getD i 0 ∈ bO s.fl
  case neg =>
    obtain rfl := vF hv (fun h => hw (h.at' i hlt).w);rw [decide_eq_false hw] at cw;generalize l.getD i 0 = x at *
    (repeat' (first|refine wS ?_|refine wB ?_|refine wK ?_|refine wR ?_|refine wT ?_|(refine rg 6 (eX rfl (qW T rfl (vV (aL rfl rfl (by omega)) ?_))))|(refine aN (id := 8) 79 zY6 (rM 23 7) zY7 bM rfl (by decide +kernel) (dO T rfl (dN rfl (dN rfl (dV rfl (ix T rfl (by omega) (aE _) qx) (dO T rfl (dV rfl (kC (cw)) (dV rfl (bB rfl) (dE ?_)))))))))|(refine rg 9 (aV ?_))|refine nZ ?_));all_goals exact rQ
  rw [decide_eq_true hw] at cw;obtain ⟨hx0,hx1,_⟩ := jG.1 hw;have qk := eY (l := s.fl.k) (j := l.getD i 0) (i := (l.getD i 0).toNat) 0 (by omega) (by omega)
  have hkl : (aI s.fl.k).length = s.fl.k.length := aR _;have hxe : sW s.fl (l.getD i 0) = decide (s.fl.k.getD (l.getD i 0).toNat 0 = 5) := rfl;by_cases hx : sW s.fl (l.getD i 0) = decide (i + 1 = l.length)
  case neg =>
    obtain rfl := vF hv (fun h => hx (h.at' i hlt).x);have hne : decide (s.fl.k.getD (l.getD i 0).toNat 0 = 5) ≠ decide ((i : Int) = (l.length : Int) - 1) := by
      rw [← hxe,show decide ((i : Int) = (l.length : Int) - 1) = decide (i + 1 = l.length) by rw [decide_eq_decide];omega];exact hx
    rw [← hil] at hne;generalize s.fl.k.getD (l.getD i 0).toNat 0 = K at *;generalize l.getD i 0 = x at *
    (repeat' (first|refine wS ?_|refine wB ?_|refine wK ?_|refine wR ?_|refine wT ?_|refine wU ?_|(refine rg 6 (eX rfl (qW T rfl (vV (aL rfl rfl (by omega)) ?_))))|(refine aN (id := 8) 79 zY6 (rM 23 7) zY7 bM rfl (by decide +kernel) (dO T rfl (dN rfl (dN rfl (dV rfl (ix T rfl (by omega) (aE _) qx) (dO T rfl (dV rfl (kC (cw)) (dV rfl (bB rfl) (dE ?_)))))))))|(refine aN (id := 10) 79 zY8 (rM 30 35) zY9 bM rfl (by decide +kernel) (dP T rfl (dP T rfl (dO T rfl (dN rfl (dN rfl (dV rfl (ix T rfl (by omega) (aE _) qx) (dO T rfl (dV rfl (ix T rfl (by omega) (aE _) qk) (dL T ?_)))))))));refine dV rfl (gD rfl rfl) (dN rfl (dN rfl (dV rfl (eF T rfl rfl) (dV rfl (fN rfl rfl (by omega) (by omega)) (dV rfl (gD rfl rfl) (dV rfl (IB wP rfl rfl hne) (dN rfl (tG rfl (dG ?_)))))))));refine tG rfl (tH rfl (tH rfl (tH rfl (tH rfl (tH rfl (tH rfl (tH rfl (tH rfl (dH ?_)))))))));refine tH rfl (tH rfl (tH rfl (tH rfl (tG rfl (dV rfl (eP rfl rfl) (dE ?_)))))))|(refine rg 11 (aV ?_))|refine nZ ?_));all_goals exact rQ
  have heq : decide (s.fl.k.getD (l.getD i 0).toNat 0 = 5) = decide ((i : Int) = (l.length : Int) - 1) := by
    rw [← hxe,show decide ((i : Int) = (l.length : Int) - 1) = decide (i + 1 = l.length) by rw [decide_eq_decide];omega];exact hx
  rw [← hil] at heq;have qp := eY (l := l) (j := max ((i : Int) - 1) 0) (i := i - 1) 0 (by omega) (by omega)
  by_cases hn : 0 < i → HO s.fl (l.getD (i - 1) 0) (l.getD i 0)
  case neg =>
    obtain rfl := vF hv (fun h => hn (h.at' i hlt).n);have hi0 : 0 < i := Classical.byContradiction fun h => hn fun q => absurd q h
    have hnl : ¬ HO s.fl (l.getD (i - 1) 0) (l.getD i 0) := fun h => hn fun _ => h
    have cl := MU s g (l.getD (i - 1) 0) (l.getD i 0) false ⟨fun h => Bool.noConfusion h,fun h => absurd h hnl⟩
    clear hn hnl hv hc;generalize s.fl.k.getD (l.getD i 0).toNat 0 = K at *;generalize l.getD i 0 = x at *;generalize l.getD (i - 1) 0 = y at *
    (repeat' (first|refine wS ?_|refine wB ?_|refine wK ?_|refine wR ?_|refine wT ?_|refine wU ?_|(refine rg 6 (eX rfl (qW T rfl (vV (aL rfl rfl (by omega)) ?_))))|(refine aN (id := 8) 79 zY6 (rM 23 7) zY7 bM rfl (by decide +kernel) (dO T rfl (dN rfl (dN rfl (dV rfl (ix T rfl (by omega) (aE _) qx) (dO T rfl (dV rfl (kC (cw)) (dV rfl (bB rfl) (dE ?_)))))))))|(refine aN (id := 10) 79 zY8 (rM 30 35) zY9 bM rfl (by decide +kernel) (dP T rfl (dP T rfl (dO T rfl (dN rfl (dN rfl (dV rfl (ix T rfl (by omega) (aE _) qx) (dO T rfl (dV rfl (ix T rfl (by omega) (aE _) qk) (dL T ?_)))))))));refine dV rfl (gD rfl rfl) (dN rfl (dN rfl (dV rfl (eF T rfl rfl) (dV rfl (fN rfl rfl (by omega) (by omega)) (dV rfl (gD rfl rfl) (dV rfl (xD wP rfl rfl heq) (dN rfl (tN rfl (dT rfl (oC rfl rfl (by omega)) ?_)))))))));refine tN rfl (tO T rfl (tN rfl (tN rfl (dT rfl (fN rfl rfl (by omega) (by omega)) (dT rfl (sC rfl rfl) (dT rfl (ix T rfl (by omega) (aE _) qp) (tO T rfl (tN rfl (tM ?_)))))))));refine dT rfl (ix T rfl (by omega) (aE _) qx) (tO T rfl (dT rfl (kC (cl)) (dT rfl (bB rfl) (dT rfl (eP rfl rfl) (dV rfl (cY rfl rfl) (dE ?_)))))))|(refine rg 11 (aV ?_))|refine nZ ?_));all_goals exact rQ
  apply zH3
  · intro rest;by_cases hi0 : 0 < i
    · have cl := MU s g (l.getD (i - 1) 0) (l.getD i 0) true ⟨fun _ => hn hi0,fun _ => rfl⟩
      (repeat' (first|refine wS ?_|refine wB ?_|refine wK ?_|refine wT ?_|refine wU ?_|(refine rg 6 (eX rfl (qW T rfl (vV (aL rfl rfl (by omega)) ?_))))|(refine aN (id := 8) 79 zY6 (rM 23 7) zY7 bM rfl (by decide +kernel) (dO T rfl (dN rfl (dN rfl (dV rfl (ix T rfl (by omega) (aE _) qx) (dO T rfl (dV rfl (kC (cw)) (dV rfl (bB rfl) (dE ?_)))))))))|(refine aN (id := 10) 79 zY8 (rM 30 35) zY9 bM rfl (by decide +kernel) (dP T rfl (dP T rfl (dO T rfl (dN rfl (dN rfl (dV rfl (ix T rfl (by omega) (aE _) qx) (dO T rfl (dV rfl (ix T rfl (by omega) (aE _) qk) (dL T ?_)))))))));refine dV rfl (gD rfl rfl) (dN rfl (dN rfl (dV rfl (eF T rfl rfl) (dV rfl (fN rfl rfl (by omega) (by omega)) (dV rfl (gD rfl rfl) (dV rfl (xD wP rfl rfl heq) (dN rfl (tN rfl (dT rfl (oC rfl rfl (by omega)) ?_)))))))));refine tN rfl (tO T rfl (tN rfl (tN rfl (dT rfl (fN rfl rfl (by omega) (by omega)) (dT rfl (sC rfl rfl) (dT rfl (ix T rfl (by omega) (aE _) qp) (tO T rfl (tN rfl (tM ?_)))))))));refine dT rfl (ix T rfl (by omega) (aE _) qx) (tO T rfl (dT rfl (kC (cl)) (dT rfl (bB rfl) (dT rfl (eP rfl rfl) (dV rfl (cY rfl rfl) (dE ?_)))))))|(refine rg 12 (aV ?_))|refine nZ ?_));all_goals exact kT [(2,.rowE (aI l) 1),(3,.ptr 0 0),(7,.i (i : Int)),(8,.i 0)] [.cells (fS s)] ⟨[0],rfl,(by repeat first|exact trivial|refine ⟨rfl,?_⟩),⟨.inr rfl,trivial⟩,by decide,gL⟩ rest.get
    · (repeat' (first|refine wS ?_|refine wB ?_|refine wK ?_|refine iY rfl ?_|refine iB rfl ?_|(refine rg 6 (eX rfl (qW T rfl (vV (aL rfl rfl (by omega)) ?_))))|(refine aN (id := 8) 79 zY6 (rM 23 7) zY7 bM rfl (by decide +kernel) (dO T rfl (dN rfl (dN rfl (dV rfl (ix T rfl (by omega) (aE _) qx) (dO T rfl (dV rfl (kC (cw)) (dV rfl (bB rfl) (dE ?_)))))))))|(refine aN (id := 10) 79 zY8 (rM 30 35) zY9 bM rfl (by decide +kernel) (dP T rfl (dP T rfl (dO T rfl (dN rfl (dN rfl (dV rfl (ix T rfl (by omega) (aE _) qx) (dO T rfl (dV rfl (ix T rfl (by omega) (aE _) qk) (dL T ?_)))))))));refine dV rfl (gD rfl rfl) (dN rfl (dN rfl (dV rfl (eF T rfl rfl) (dV rfl (fN rfl rfl (by omega) (by omega)) (dV rfl (gD rfl rfl) (dV rfl (xD wP rfl rfl heq) (dN rfl (tN rfl (dT rfl (rL rfl rfl (by omega)) ?_)))))))));refine tN rfl (tG rfl (tG rfl (tG rfl (tG rfl (tG rfl (tG rfl (tG rfl (tG rfl (dG ?_)))))))));refine tG rfl (tG rfl (tG rfl (tG rfl (dT rfl (cY rfl rfl) (dV rfl (cY rfl rfl) (dE ?_)))))))|(refine rg 12 (aV ?_))|(refine nZ ?_)));all_goals exact kT [(2,.rowE (aI l) 1),(3,.ptr 0 0),(7,.i (i : Int)),(8,.i 0)] [.cells (fS s)] ⟨[0],rfl,(by repeat first|exact trivial|refine ⟨rfl,?_⟩),⟨.inr rfl,trivial⟩,by decide,gL⟩ rest.get
  refine bV (X := {k : Nat // k ≤ i ∧ ∀ j,j < k → l.getD j 0 ≠ l.getD i 0}) (fun k => [(2,.rowE (aI l) 1),(3,.ptr 0 0),(7,.i (i : Int)),(8,.i (k.1 : Int))]) (fun _ => [.cells (fS s)]) (fun k => i - k.1) ⟨0,cH _,fun j h => absurd h (dJ _)⟩ ⟨[0],rfl,(by repeat first|exact trivial|refine ⟨rfl,?_⟩),⟨.inr rfl,trivial⟩,by decide,gL⟩ ?_
  rintro ⟨k,hk,hkd⟩;dsimp only at hk hkd ⊢;by_cases hki : k < i
  case neg =>
    obtain rfl : k = i := by omega
    have hc2 : ∀ j,j < k + 1 → ED s l j := fun j hj => by
      by_cases e : j = k
      · subst e;exact ⟨hw,hx,hn,hkd⟩
      · exact hc j (by omega)
    (repeat' (first|refine wS ?_|refine wE ?_|refine wU ?_|(refine rg 13 (eX rfl (vV (bG rfl rfl (by omega)) ?_)))|(refine iA 7 rfl rfl rfl (by omega) (by omega) ?_)|refine nZ ?_));all_goals exact ⟨⟨k + 1,hlt,hc2⟩,by dsimp only;omega,[0],rfl,(by repeat first|exact trivial|refine ⟨rfl,?_⟩),⟨.inr rfl,trivial⟩,by decide,gL⟩
  have qy := eY (l := l) (j := (k : Int)) (i := k) 0 (by omega) (by simp)
  by_cases he : l.getD k 0 = l.getD i 0
  · obtain rfl := vF hv (fun h => (h.at' i hlt).d k hki he);clear hkd hc hn hx hw hv;generalize l.getD i 0 = x at *;generalize l.getD k 0 = y at *
    (repeat' (first|refine wS ?_|refine wB ?_|refine wK ?_|refine wR ?_|refine wT ?_|(refine rg 13 (eX rfl (vV (aL rfl rfl (by omega)) ?_)))|(refine aN (id := 15) 79 zV9 (rM 70 9) zZ0 bM rfl (by decide +kernel) (dN rfl (dN rfl (dV rfl (ix T rfl (by omega) (aE _) qy) (dO T rfl (dN rfl (dN rfl (dV rfl (ix T rfl (by omega) (aE _) qx) (dO T rfl (dV rfl (gH rfl rfl he) ?_)))))))));refine dE ?_)|(refine rg 16 (aV ?_))|refine nZ ?_));all_goals exact rQ
  · have hk2 : ∀ j,j < k + 1 → l.getD j 0 ≠ l.getD i 0 := fun j hj => by
      by_cases e : j = k
      · subst e;exact he
      · exact hkd j (by omega)
    (repeat' (first|refine wS ?_|refine wB ?_|refine wK ?_|refine wT ?_|refine wU ?_|(refine rg 13 (eX rfl (vV (aL rfl rfl (by omega)) ?_)))|(refine aN (id := 15) 79 zV9 (rM 70 9) zZ0 bM rfl (by decide +kernel) (dN rfl (dN rfl (dV rfl (ix T rfl (by omega) (aE _) qy) (dO T rfl (dN rfl (dN rfl (dV rfl (ix T rfl (by omega) (aE _) qx) (dO T rfl (dV rfl (eN rfl rfl he) ?_)))))))));refine dE ?_)|(refine iA 14 rfl rfl rfl (by omega) (by omega) ?_)|refine nZ ?_));all_goals exact ⟨⟨k + 1,hki,hk2⟩,by dsimp only;omega,[0],rfl,(by repeat first|exact trivial|refine ⟨rfl,?_⟩),⟨.inr rfl,trivial⟩,by decide,gL⟩
def OH (a b : List Int) : Prop := ∀ i k : Nat,1 ≤ i → i < a.length → 1 ≤ k → k < b.length → a.getD i 0 ≠ b.getD k 0
theorem UU (a b : List Int) (ha : a.length ≤ 1000) (hb : b.length ≤ 1000) (v : Bool) (hv : v = true ↔ OH a b) : bQ Tryz.prog 92 [.rowE (aI a) 1,.rowE (aI b) 1] [] (.b v) [] := by
  have hal : (aI a).length = a.length := aR _;have hbl : (aI b).length = b.length := aR _;refine dD T Tryz.func92 rfl rfl rfl rfl ?_
  (repeat' (first|refine wS ?_|refine wB ?_|(refine rg 0 (aV ?_))|(refine rg 1 (aV ?_))|refine nZ ?_));refine bV (X := {i : Nat // 1 ≤ i ∧ i ≤ a.length + 1 ∧ ∀ j k : Nat,1 ≤ j → j < i → 1 ≤ k → k < b.length → a.getD j 0 ≠ b.getD k 0}) (fun i => [(0,.rowE (aI a) 1),(1,.rowE (aI b) 1),(5,.i (i.1 : Int))]) (fun _ => []) (fun i => a.length + 1 - i.1) ⟨1,aY _,by omega,fun j k h1 h2 => by omega⟩ ⟨[],rfl,(by repeat first|exact trivial|refine ⟨rfl,?_⟩),trivial,dK,gL⟩ ?_
  rintro ⟨i,hi1,hi2,hd⟩;dsimp only at hi1 hi2 hd ⊢;by_cases hlt : i < a.length
  case neg =>
    obtain rfl := hv.2 (fun j k h1 h2 => hd j k h1 (by omega))
    (repeat' (first|refine wS ?_|refine wR ?_|refine wE ?_|refine wU ?_|(refine rg 2 (eX rfl (qW T rfl (vV (bG rfl rfl (by omega)) ?_))))|(refine rg 9 (aV ?_))|refine nZ ?_));all_goals exact rQ
  have qa := eY (l := a) (j := (i : Int)) (i := i) 0 hlt (by simp)
  (repeat' (first|refine wS ?_|refine wB ?_|refine wK ?_|refine wT ?_|(refine rg 2 (eX rfl (qW T rfl (vV (aL rfl rfl (by omega)) ?_))))|(refine rg 4 (aV ?_))|refine nZ ?_));refine bV (X := {k : Nat // 1 ≤ k ∧ k ≤ b.length + 1 ∧ ∀ j : Nat,1 ≤ j → j < k → j < b.length → a.getD i 0 ≠ b.getD j 0}) (fun k => [(0,.rowE (aI a) 1),(1,.rowE (aI b) 1),(5,.i (i : Int)),(6,.i (k.1 : Int))]) (fun _ => []) (fun k => b.length + 1 - k.1) ⟨1,aY _,by omega,fun j h1 h2 => by omega⟩ ⟨[],rfl,(by repeat first|exact trivial|refine ⟨rfl,?_⟩),trivial,dK,gL⟩ ?_
  rintro ⟨k,hk1,hk2,hkd⟩;dsimp only at hk1 hk2 hkd ⊢;by_cases hkl : k < b.length
  case neg =>
    have hd2 : ∀ j k : Nat,1 ≤ j → j < i + 1 → 1 ≤ k → k < b.length → a.getD j 0 ≠ b.getD k 0 := fun j k2 h1 h2 h3 h4 => by
      by_cases e : j = i
      · subst e;exact hkd k2 h3 (by omega) h4
      · exact hd j k2 h1 (by omega) h3 h4
    (repeat' (first|refine wS ?_|refine wE ?_|refine wU ?_|(refine rg 5 (eX rfl (qW T rfl (vV (bG rfl rfl (by omega)) ?_))))|(refine iA 3 rfl rfl rfl (by omega) (by omega) ?_)|refine nZ ?_));all_goals exact ⟨⟨i + 1,by omega,by omega,hd2⟩,by dsimp only;omega,[],rfl,(by repeat first|exact trivial|refine ⟨rfl,?_⟩),trivial,dK,gL⟩
  have qb := eY (l := b) (j := (k : Int)) (i := k) 0 hkl (by simp)
  by_cases he : a.getD i 0 = b.getD k 0
  · obtain rfl := vF hv (fun h => h i k hi1 hlt hk1 hkl he);clear hd hkd hv;generalize a.getD i 0 = x at *;generalize b.getD k 0 = y at *
    (repeat' (first|refine wS ?_|refine wB ?_|refine wK ?_|refine wR ?_|refine wT ?_|(refine rg 5 (eX rfl (qW T rfl (vV (aL rfl rfl (by omega)) ?_))))|(refine aN (id := 7) 28 zV9 (rM 19 9) zZ1 bM rfl (by decide +kernel) (dN rfl (dN rfl (dV rfl (ix T rfl (by omega) (aE _) qa) (dO T rfl (dN rfl (dN rfl (dV rfl (ix T rfl (by omega) (aE _) qb) (dO T rfl (dV rfl (gH rfl rfl he) ?_)))))))));refine dE ?_)|(refine rg 8 (aV ?_))|refine nZ ?_));all_goals exact rQ
  · have hkd2 : ∀ j : Nat,1 ≤ j → j < k + 1 → j < b.length → a.getD i 0 ≠ b.getD j 0 := fun j h1 h2 h3 => by
      by_cases e : j = k
      · subst e;exact he
      · exact hkd j h1 (by omega) h3
    (repeat' (first|refine wS ?_|refine wB ?_|refine wK ?_|refine wT ?_|refine wU ?_|(refine rg 5 (eX rfl (qW T rfl (vV (aL rfl rfl (by omega)) ?_))))|(refine aN (id := 7) 28 zV9 (rM 19 9) zZ1 bM rfl (by decide +kernel) (dN rfl (dN rfl (dV rfl (ix T rfl (by omega) (aE _) qa) (dO T rfl (dN rfl (dN rfl (dV rfl (ix T rfl (by omega) (aE _) qb) (dO T rfl (dV rfl (eN rfl rfl he) ?_)))))))));refine dE ?_)|(refine iA 6 rfl rfl rfl (by omega) (by omega) ?_)|refine nZ ?_));all_goals exact ⟨⟨k + 1,by omega,by omega,hkd2⟩,by dsimp only;omega,[],rfl,(by repeat first|exact trivial|refine ⟨rfl,?_⟩),trivial,dK,gL⟩
end Go.Proofs.YtdmajnjoeidgeaaGreat
