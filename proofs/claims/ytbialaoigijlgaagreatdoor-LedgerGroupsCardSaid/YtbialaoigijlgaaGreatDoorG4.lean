/-
  Texts of the logic and of the layer,in one module (part 4).
-/
import Derived.Test.YtbialaoigijlgaaGreatDoorG3
set_option linter.unusedVariables false
set_option linter.unusedSimpArgs false
set_option linter.unnecessarySimpa false
namespace Go.Proofs.YtbialaoigijlgaaGreatDoor
open Go Go.Ab
attribute [local irreducible] VC AW bV aO
set_option maxHeartbeats 4000000
theorem qC (n f t : Int) : aO Tryz.prog 64 [.i n,.i f,.i t] [] (.b (jS n f t)) [] := by
  refine bK T Tryz.func64 rfl rfl rfl rfl ?_
  (repeat' (first|refine wS ?_|refine wR ?_|(refine rg 0 (aV ?_))|(refine rg 1 (dQ rfl (vV (jD rfl rfl) (mV ?_)));refine cC rfl rfl ?_ ?_<;>(intro hb;rw [hb];(try simp only [nm] at hb);try (exfalso;omega));(all_goals first|(refine gT (mW rfl (gT (mW rfl (gT (vV (iP rfl rfl) ?_))))))|(iterate 3 refine gF ?_));(all_goals (refine pW rfl (aV ?_))))|refine nZ ?_));all_goals
    refine cY (.inl rfl) rfl (lS ?_);simp [jS];try omega
theorem tT (l : List Int) (v : Int) (hl : l.length ≤ 9223372036854775807) : aO Tryz.prog 38 [.rowE (ints l) 1,.i v] [] (.i (tU l v 0)) [] := by
  have hlen : (ints l).length = l.length := by simp
  refine bK T Tryz.func38 rfl rfl rfl rfl ?_
  (repeat' (first|refine wS ?_|refine wB ?_|(refine rg 0 (aV ?_))|(refine rg 1 (mW rfl (qW T rfl (mV ?_))))|refine nZ ?_));refine cK (X := {k : Nat // k ≤ l.length ∧ tU l v 0 = tU (l.drop k) v k}) (fun k => [(0,.rowE (ints l) 1),(1,.i v),(7,.i (ints l).length),(8,.i k.1)]) (fun _ => []) (fun k => l.length - k.1) ⟨0,by simp,rfl⟩ (dS []) ?_
  rintro ⟨k,hk,hf⟩;dsimp only;by_cases hlt : k < l.length
  · have hd := KY (v := v) hlt
    repeat' (first|refine wS ?_|refine wB ?_|refine wK ?_|refine wR ?_|(refine wC rfl ?_ ?_<;>(intro hb;(try simp only [nm] at hb);try (exfalso;omega)))|(refine rg 2 (vV (aJ rfl rfl) ?_))|(refine rg 3 (mW rfl (aV ?_)))|(refine rg 4 (dQ rfl (mW rfl (vV (ix T rfl (by omega) (bZ l) (kS (k := k) (by omega))) (lW T rfl (vV (eW rfl rfl) ?_))))))|(refine rg 5 (mW rfl (aV ?_)))|(refine rg 6 (vV (bS rfl rfl (by omega) (by omega)) (mV ?_)))|refine nZ ?_)
    · refine cY (.inl rfl) rfl ?_;rw [hf,hd,if_pos hb];rfl
    · refine ⟨⟨k + 1,by omega,?_⟩,by dsimp only;omega,dS []⟩
      rw [hf,hd,if_neg hb]
  · (repeat' (first|refine wS ?_|refine wR ?_|refine wE ?_|(refine wC rfl (fun hb => ?_) (fun hb => ?_) <;> (((try simp only [nm] at hb);try (exfalso;omega))))|(refine rg 2 (vV (aJ rfl rfl) ?_))|(refine rg 7 (aV ?_))|(refine nZ ?_)));refine cY (.inl rfl) rfl ?_
    rw [hf,cT (by omega)];rfl
theorem O5 (l : List Int) (v : Int) (hl : l.length ≤ 9223372036854775807) : aO Tryz.prog 77 [.rowE (ints l) 1,.i v] [] (.b (decide (v ∈ l))) [] := by
  refine bK T Tryz.func77 rfl rfl rfl rfl ?_
  (repeat' (first|refine wS ?_|refine wR ?_|(refine rg 0 (aV ?_))|(refine rg 1 (dQ rfl (vV (kC (tT l v hl)) (vV (jD rfl rfl) (aV ?_)))))|refine nZ ?_));refine cY (.inl rfl) rfl (lS ?_)
  rw [ZS];simp only [decide_eq_true_eq];exact DK l v 0 (by omega)
theorem XF {ks : List KD} {ls : List LT} {ps : List Int} {bs : List BX} (f : zE2 ks ls ps bs) {lot : Int} (h : lot < ls.length) : aO Tryz.prog 79 [.rowE (iC ks) 2,.rowE (kZ ls) 3,.i lot] [] (.i (rY ks ls lot)) [] := by
  by_cases h0 : lot < 0
  · refine bK T Tryz.func79 rfl rfl rfl rfl ?_
    (repeat' (first|refine wS ?_|refine wR ?_|(refine wC rfl ?_ ?_<;>(intro hb;(try simp only [nm] at hb);try (exfalso;omega)))|(refine rg 0 (aV ?_))|(refine rg 1 (mW rfl (vV (aJ rfl rfl) ?_)))|(refine rg 2 (aV ?_))|refine nZ ?_));refine cY (.inl rfl) rfl ?_
    unfold rY;rw [if_pos h0];rfl
  · have hl : lot.toNat < ls.length := by omega
    have h1 := f.l lot.toNat hl;have hk : ls[lot.toNat].1.toNat < ks.length := by omega
    have hkl : (iC ks).length = ks.length := by simp
    have hll : (kZ ls).length = ls.length := by simp
    have e : rY ks ls lot = ks[ls[lot.toNat].1.toNat].2 := by
      unfold rY;rw [if_neg h0];simp only [List.getD,aB hl,uW,aB hk]
    refine bK T Tryz.func79 rfl rfl rfl rfl ?_
    (repeat' (first|refine wS ?_|refine wK ?_|refine wR ?_|(refine wC rfl ?_ ?_<;>(intro hb;(try simp only [nm] at hb);try (exfalso;omega)))|(refine rg 0 (aV ?_))|(refine rg 1 (mW rfl (vV (aJ rfl rfl) ?_)))|(refine rg 3 (dQ rfl (mW rfl (vV (ix T rfl (by omega) (vQ ls) (zJ hl)) (hO T rfl (vV (ix T rfl (by omega) (sK ks) (xA hk)) (hO T rfl (aV ?_))))))))|refine nZ ?_));refine cY (.inl rfl) rfl ?_
    rw [e];rfl
theorem zN (l : List Int) : (ints l).flatten.all AV.one = true := by
  rw [bB];intro x hx;obtain ⟨e,he,hx⟩ := List.mem_flatten.1 hx;obtain ⟨p,_,rfl⟩ := bM.1 he;simp at hx;subst hx;rfl
theorem bO (l : List Int) : ∀ e,e ∈ ints l → AV.idfL e = true := by
  intro e he;obtain ⟨i,_,rfl⟩ := bM.1 he;rfl
section
variable {ks : List KD} {ls : List LT} {ps : List Int} {bs : List BX} {m st er sl k a b n id lot ct ta done : Int} {ids : List Int} {M : Int}
end
def wX (m st er sl : Int) : Bool := decide (0 ≤ min (min (min m st) er) sl) && decide (max (max (max m st) er) sl ≤ 1048576)
theorem NG (m st er sl : Int) : aO Tryz.prog 50 [oV m st er sl] [] (.b (wX m st er sl)) [] := by
  refine bK T Tryz.func50 rfl rfl rfl rfl ?_
  (repeat' (first|refine wS ?_|refine wR ?_|(refine rg 0 (bT (cQ rfl rfl) rfl (aV ?_)))|(refine rg 1 (hO T rfl (hO T rfl (hO T rfl (hO T rfl (vV (UU rfl rfl rfl rfl) (vV (jD rfl rfl) (mV ?_)))))));refine cC rfl rfl ?_ ?_<;>(intro hb;rw [hb];(try simp only [nm] at hb);try (exfalso;omega));(all_goals first|(refine gT (fW T rfl (gT (lW T rfl (gT (fW T rfl (gT (lW T rfl (gT (fV T ?_)))))))));refine gT (lW T rfl (gT (fW T rfl (gT (lW T rfl (gT (vV (UV rfl rfl rfl rfl) (gT (vV (iP rfl rfl) ?_))))))))))|(iterate 10 refine gF ?_));(all_goals (refine pW rfl (aV ?_))))|refine nZ ?_));all_goals
    refine cY (.inl rfl) rfl (lS ?_);rw [ZS];simp only [wX,aP,decide_eq_true_eq]
    first | omega | (simp;omega)
theorem WT (l : List Int) (v : Int) (hl : l.length ≤ 1000) : aO Tryz.prog 18 [.rowE (ints l) 1,.i v] [] (.b (decide (v ∈ l))) [] := by
  have hlen : (ints l).length = l.length := by simp
  refine bK T Tryz.func18 rfl rfl rfl rfl ?_
  (repeat' (first|refine wS ?_|refine wB ?_|(refine rg 0 (aV ?_))|(refine rg 1 (aV ?_))|refine nZ ?_));refine cK (X := {k : Nat // k ≤ l.length ∧ (v ∈ l ↔ v ∈ l.drop k)}) (fun k => [(0,.rowE (ints l) 1),(1,.i v),(5,.i k.1)]) (fun _ => []) (fun k => l.length - k.1) ⟨0,by simp⟩ (dS []) ?_
  rintro ⟨k,hk,hf⟩;dsimp only;by_cases hlt : k < l.length
  · repeat' (first|refine wS ?_|refine wB ?_|refine wK ?_|refine wR ?_|(refine wC rfl (fun hb => ?_) (fun hb => ?_) <;> (((try simp only [nm] at hb);try (exfalso;omega))))|(refine rg 2 (dQ rfl (qW T rfl (vV (aJ rfl rfl) ?_))))|(refine rg 4 (dQ rfl (vV (ix T rfl (by omega) (bZ l) (kS (k := k) (by omega))) (lW T rfl (mW rfl (vV (eW rfl rfl) ?_))))))|(refine rg 5 (aV ?_))|(refine iA 3 rfl rfl rfl (by omega) (by omega) ?_)|(refine nZ ?_))
    · refine cY (.inl rfl) rfl (lS ?_);have : v ∈ l := by rw [← hb];exact aI hlt
      simp [this]
    · refine ⟨⟨k + 1,by omega,?_⟩,by dsimp only;omega,dS []⟩
      rw [hf,aS hlt];simp only [bX];exact ⟨fun h => h.resolve_left (fun e => hb e.symm),.inr⟩
  · (repeat' (first|refine wS ?_|refine wR ?_|refine wE ?_|(refine wC rfl (fun hb => ?_) (fun hb => ?_) <;> (((try simp only [nm] at hb);try (exfalso;omega))))|(refine rg 2 (dQ rfl (qW T rfl (vV (aJ rfl rfl) ?_))))|(refine rg 6 (aV ?_))|(refine nZ ?_)));refine cY (.inl rfl) rfl (lS ?_)
    rw [cT (by omega)] at hf
    simp at hf;simp [hf]
structure uI (ks : List KD) (ls : List LT) (ps : List Int) (bs : List BX) : Prop where
  len : ps.length = bs.length
  p : ∀ i : Nat,i < ps.length → (i : Int) ∈ ps
  k : ∀ (i : Nat) (h : i < ks.length),0 ≤ ks[i].2 ∧ ks[i].2 ≤ 1048576
  l : ∀ (i : Nat) (h : i < ls.length),0 ≤ ls[i].1 ∧ ls[i].1 < ks.length
  b : ∀ (i : Nat) (h : i < bs.length),-1 ≤ bs[i].1 ∧ bs[i].1 < ls.length ∧ 0 ≤ bs[i].2.1 ∧ bs[i].2.1 ≤ 20000 ∧ (bs[i].1 = -1 → bs[i].2.1 = 0) ∧ 0 ≤ bs[i].2.2 ∧ bs[i].2.2 ≤ 1073741824
open Classical in
noncomputable def qF (ks : List KD) (ls : List LT) (ps : List Int) (bs : List BX) : Bool := decide (uI ks ls ps bs)
theorem rZ {ks : List KD} {ls : List LT} {ps : List Int} {bs : List BX} (h : ¬ uI ks ls ps bs) : qF ks ls ps bs = false := by unfold qF;simp [h]
theorem FL {ks : List KD} {ls : List LT} {ps : List Int} {bs : List BX} (h : uI ks ls ps bs) : qF ks ls ps bs = true := by unfold qF;simp [h]
theorem SU (ks : List KD) (ls : List LT) (ps : List Int) (bs : List BX) (h1 : ks.length ≤ 1000) (h2 : ls.length ≤ 1000) (h3 : ps.length ≤ 1000) (h4 : bs.length ≤ 1000) :
    aO Tryz.prog 51 [.rowE (iC ks) 2,.rowE (kZ ls) 3,.rowE (ints ps) 1,.rowE (fS bs) 3] [] (.b (qF ks ls ps bs)) [] := by
  have e1 : (iC ks).length = ks.length := by simp
  have e2 : (kZ ls).length = ls.length := by simp
  have e3 : (ints ps).length = ps.length := by simp
  have e4 : (fS bs).length = bs.length := by simp
  refine bK T Tryz.func51 rfl rfl rfl rfl ?_
  repeat' (first|refine wS ?_|refine wB ?_|refine wK ?_|refine wR ?_|(refine wC rfl ?_ ?_<;>(intro hb;(try simp only [nm] at hb);try (exfalso;omega)))|(refine rg 0 (aV ?_))|(refine rg 1 (mW rfl (qW T rfl (mW rfl (qW T rfl (vV (fF rfl rfl) ?_))))))|(refine rg 2 (aV ?_))|(refine rg 3 (aV ?_))|refine nZ ?_)
  · (refine cY (.inl rfl) rfl (lS (rZ fun h => ?_).symm);have := h.len;omega)
  have hlen : ps.length = bs.length := by omega
  refine cK (X := {k : Nat // k ≤ ps.length ∧ ∀ i : Nat,i < k → (i : Int) ∈ ps}) (fun k => [(0,.rowE (iC ks) 2),(1,.rowE (kZ ls) 3),(2,.rowE (ints ps) 1),(3,.rowE (fS bs) 3),(9,.i k.1)]) (fun _ => []) (fun k => ps.length - k.1) ⟨0,by omega,fun i hi => by omega⟩ (dS []) ?_
  rintro ⟨k,hk,hp⟩;dsimp only;by_cases hlt : k < ps.length
  · repeat' (first|refine wS ?_|refine wB ?_|refine wK ?_|refine wR ?_|(refine wC rfl (fun hb => ?_) (fun hb => ?_) <;> (((try simp only [nm] at hb);try (exfalso;omega))))|(refine rg 4 (dQ rfl (qW T rfl (vV (aJ rfl rfl) ?_))))|(refine rg 6 (dQ rfl (vV (by exact eQ rfl rfl (WT ps _ h3) rfl rfl rfl) ?_));refine vV (eL rfl) ?_)|(refine rg 7 (aV ?_))|(refine iA 5 rfl rfl rfl (by omega) (by omega) ?_)|(refine nZ ?_))
    · (refine cY (.inl rfl) rfl (lS (rZ fun h => ?_).symm);exact hb (h.p k hlt))
    · refine ⟨⟨k + 1,by omega,fun i hi => ?_⟩,by dsimp only;omega,dS []⟩
      by_cases e : i = k
      · subst e;exact hb
      · exact hp i (by omega)
  have hpA : ∀ i : Nat,i < ps.length → (i : Int) ∈ ps := fun i hi => hp i (by omega)
  clear hp
  (repeat' (first|refine wS ?_|refine wB ?_|refine wE ?_|(refine wC rfl ?_ ?_<;>(intro hb;(try simp only [nm] at hb);try (exfalso;omega)))|(refine rg 4 (dQ rfl (qW T rfl (vV (aJ rfl rfl) ?_))))|(refine rg 8 (aV ?_))|refine nZ ?_));refine cK (X := {k : Nat // k ≤ ks.length ∧ ∀ (i : Nat) (h : i < ks.length),i < k → 0 ≤ ks[i].2 ∧ ks[i].2 ≤ 1048576}) (fun k => [(0,.rowE (iC ks) 2),(1,.rowE (kZ ls) 3),(2,.rowE (ints ps) 1),(3,.rowE (fS bs) 3),(10,.i k.1)]) (fun _ => []) (fun k => ks.length - k.1) ⟨0,by omega,fun i _ hi => by omega⟩ (dS []) ?_
  rintro ⟨k1,hk1,hq⟩;dsimp only;by_cases hlt1 : k1 < ks.length
  · (repeat' (first|refine wS ?_|refine wB ?_|refine wK ?_|refine wR ?_|refine qP rfl ?_|(refine wC rfl (fun hb => ?_) (fun hb => ?_) <;> (((try simp only [nm] at hb);try (exfalso;omega))))|(refine rg 9 (dQ rfl (qW T rfl (vV (aJ rfl rfl) ?_))))|(refine rg 11 (dQ rfl (vV (ix T rfl (by omega) (sK ks) (xA (k := k1) hlt1)) (hO T rfl (vV (aJ rfl rfl) (mV ?_)))));refine cC rfl rfl (fun hb => ?_) (fun hb => ?_) <;> ((rw [hb];(try simp only [nm] at hb);try ((exfalso;omega);done)));(all_goals first|(refine gT (mW rfl (gT (mW rfl (gT (vV (ix T rfl (by omega) (sK ks) (xA (k := k1) hlt1)) (gT (fW T rfl (gT (lV T ?_)))))))));refine gT (vV (fU rfl rfl) ?_))|(iterate 6 refine gF ?_));(all_goals (refine pV ?_)))|(refine rg 12 (aV ?_))|(refine iA 10 rfl rfl rfl (by omega) (by omega) ?_)|(refine nZ ?_)));all_goals first
      | (refine cY (.inl rfl) rfl (lS (rZ fun h => ?_).symm);have := h.k k1 hlt1;omega)
      | (refine ⟨⟨k1 + 1, by omega, fun i hi hik => ?_⟩, by dsimp only; omega, dS []⟩
         by_cases e : i = k1
         · subst e;omega
         · exact hq i hi (by omega))
  have hkA : ∀ (i : Nat) (h : i < ks.length),0 ≤ ks[i].2 ∧ ks[i].2 ≤ 1048576 := fun i hi => hq i hi (by omega)
  clear hq
  (repeat' (first|refine wS ?_|refine wB ?_|refine wE ?_|(refine wC rfl ?_ ?_<;>(intro hb;(try simp only [nm] at hb);try (exfalso;omega)))|(refine rg 9 (dQ rfl (qW T rfl (vV (aJ rfl rfl) ?_))))|(refine rg 13 (aV ?_))|refine nZ ?_));refine cK (X := {k : Nat // k ≤ ls.length ∧ ∀ (i : Nat) (h : i < ls.length),i < k → 0 ≤ ls[i].1 ∧ ls[i].1 < ks.length}) (fun k => [(0,.rowE (iC ks) 2),(1,.rowE (kZ ls) 3),(2,.rowE (ints ps) 1),(3,.rowE (fS bs) 3),(11,.i k.1)]) (fun _ => []) (fun k => ls.length - k.1) ⟨0,by omega,fun i _ hi => by omega⟩ (dS []) ?_
  rintro ⟨k2,hk2,hq⟩;dsimp only;by_cases hlt2 : k2 < ls.length
  · (repeat' (first|refine wS ?_|refine wB ?_|refine wK ?_|refine wR ?_|refine qP rfl ?_|(refine wC rfl (fun hb => ?_) (fun hb => ?_) <;> (((try simp only [nm] at hb);try (exfalso;omega))))|(refine rg 14 (dQ rfl (qW T rfl (vV (aJ rfl rfl) ?_))))|(refine rg 16 (dQ rfl (vV (ix T rfl (by omega) (vQ ls) (zJ (k := k2) hlt2)) (hO T rfl (vV (aJ rfl rfl) (mV ?_)))));refine cC rfl rfl (fun hb => ?_) (fun hb => ?_) <;> ((rw [hb];(try simp only [nm] at hb);try ((exfalso;omega);done)));(all_goals first|(refine gT (mW rfl (gT (mW rfl (gT (vV (ix T rfl (by omega) (vQ ls) (zJ (k := k2) hlt2)) (gT (fW T rfl (gT (lV T ?_)))))))));refine gT (mW rfl (gT (qW T rfl (gT (vV (jD rfl rfl) ?_))))))|(iterate 8 refine gF ?_));(all_goals (refine pV ?_)))|(refine rg 17 (aV ?_))|(refine iA 15 rfl rfl rfl (by omega) (by omega) ?_)|(refine nZ ?_)));all_goals first
      | (refine cY (.inl rfl) rfl (lS (rZ fun h => ?_).symm);have := h.l k2 hlt2;omega)
      | (refine ⟨⟨k2 + 1, by omega, fun i hi hik => ?_⟩, by dsimp only; omega, dS []⟩
         by_cases e : i = k2
         · subst e;omega
         · exact hq i hi (by omega))
  have hlA : ∀ (i : Nat) (h : i < ls.length),0 ≤ ls[i].1 ∧ ls[i].1 < ks.length := fun i hi => hq i hi (by omega)
  clear hq
  (repeat' (first|refine wS ?_|refine wB ?_|refine wE ?_|(refine wC rfl ?_ ?_<;>(intro hb;(try simp only [nm] at hb);try (exfalso;omega)))|(refine rg 14 (dQ rfl (qW T rfl (vV (aJ rfl rfl) ?_))))|(refine rg 18 (aV ?_))|refine nZ ?_));refine cK (X := {k : Nat // k ≤ bs.length ∧ ∀ (i : Nat) (h : i < bs.length),i < k → -1 ≤ bs[i].1 ∧ bs[i].1 < ls.length ∧ 0 ≤ bs[i].2.1 ∧ bs[i].2.1 ≤ 20000 ∧ (bs[i].1 = -1 → bs[i].2.1 = 0) ∧ 0 ≤ bs[i].2.2 ∧ bs[i].2.2 ≤ 1073741824}) (fun k => [(0,.rowE (iC ks) 2),(1,.rowE (kZ ls) 3),(2,.rowE (ints ps) 1),(3,.rowE (fS bs) 3),(12,.i k.1)]) (fun _ => []) (fun k => bs.length - k.1) ⟨0,by omega,fun i _ hi => by omega⟩ (dS []) ?_
  rintro ⟨k3,hk3,hq⟩;dsimp only;by_cases hlt3 : k3 < bs.length
  · (repeat' (first|refine wS ?_|refine wB ?_|refine wK ?_|refine wR ?_|refine qP rfl ?_|(refine wC rfl (fun hb => ?_) (fun hb => ?_) <;> (((try simp only [nm] at hb);try (exfalso;omega))))|(refine rg 19 (dQ rfl (qW T rfl (vV (aJ rfl rfl) ?_))))|(refine rg 21 (dQ rfl (vV (ix T rfl (by omega) (oS bs) (W3 (k := k3) hlt3)) (lW T rfl (bT (bH T rfl) rfl (aQ T rfl rfl rfl rfl rfl rfl (by decide) rfl ?_))))))|(refine rg 22 (hO T rfl (vV (aJ rfl rfl) (mV ?_)));refine cC rfl rfl (fun hb => ?_) (fun hb => ?_) <;> ((rw [hb];(try simp only [nm] at hb);try ((exfalso;omega);done)));(all_goals first|(refine gT (fW T rfl (gT (lW T rfl (gT (mW rfl (gT (qW T rfl (gT (vV (jD rfl rfl) ?_))))))))))|(iterate 5 refine gF ?_));(all_goals (refine pW rfl (mV ?_)));(all_goals first|(refine gK ?_)|(refine cC rfl rfl (fun hb => ?_) (fun hb => ?_) <;> ((rw [hb];(try simp only [nm] at hb);try ((exfalso;omega);done)))));(all_goals first|(refine gT (fW T rfl (gT (lW T rfl (gT (vV (aJ rfl rfl) ?_))))))|(iterate 3 refine gF ?_));(all_goals (refine pW rfl (mV ?_)));(all_goals first|(refine gK ?_)|(refine cC rfl rfl (fun hb => ?_) (fun hb => ?_) <;> ((rw [hb];(try simp only [nm] at hb);try ((exfalso;omega);done)))));(all_goals first|(refine gT (fW T rfl (gT (lW T rfl (gT (vV (fU rfl rfl) ?_))))))|(iterate 3 refine gF ?_));(all_goals (refine pW rfl (mV ?_)));(all_goals first|(refine gK ?_)|(refine cC rfl rfl (fun hb => ?_) (fun hb => ?_) <;> ((rw [hb];(try simp only [nm] at hb);try ((exfalso;omega);done)))));(all_goals first|(refine gT (fW T rfl (gT (lW T rfl (gT (vV (eW rfl rfl) (gT (mV ?_))))))))|(iterate 4 refine gF ?_));(all_goals first|(refine gK ?_)|(refine cC rfl rfl (fun hb => ?_) (fun hb => ?_) <;> ((rw [hb];(try simp only [nm] at hb);try ((exfalso;omega);done)))));(all_goals first|(refine gT (fW T rfl (gT (lW T rfl (gT (vV (fF rfl rfl) ?_))))))|((iterate 3 first|refine gF ?_|refine gU ?_)));(all_goals first|(refine gT (pV ?_))|(refine gF ?_));(all_goals (refine pW rfl (mV ?_)));(all_goals first|(refine gK ?_)|(refine cC rfl rfl (fun hb => ?_) (fun hb => ?_) <;> ((rw [hb];(try simp only [nm] at hb);try ((exfalso;omega);done)))));(all_goals first|(refine gT (fW T rfl (gT (lW T rfl (gT (vV (aJ rfl rfl) ?_))))))|(iterate 3 refine gF ?_));(all_goals (refine pW rfl (mV ?_)));(all_goals first|(refine gK ?_)|(refine cC rfl rfl (fun hb => ?_) (fun hb => ?_) <;> ((rw [hb];(try simp only [nm] at hb);try ((exfalso;omega);done)))));(all_goals first|(refine gT (fW T rfl (gT (lW T rfl (gT (vV (fU rfl rfl) ?_))))))|(iterate 3 refine gF ?_));(all_goals (refine pV ?_)))|(refine rg 23 (aV ?_))|(refine iA 20 rfl rfl rfl (by omega) (by omega) ?_)|(refine nZ ?_)));all_goals first
      | (refine cY (.inl rfl) rfl (lS (rZ fun h => ?_).symm);have := h.b k3 hlt3;omega)
      | (refine ⟨⟨k3 + 1, by omega, fun i hi hik => ?_⟩, by dsimp only; omega, dS []⟩
         by_cases e : i = k3
         · subst e;omega
         · exact hq i hi (by omega))
  (repeat' (first|refine wS ?_|refine wR ?_|refine wE ?_|(refine wC rfl ?_ ?_<;>(intro hb;(try simp only [nm] at hb);try (exfalso;omega)))|(refine rg 19 (dQ rfl (qW T rfl (vV (aJ rfl rfl) ?_))))|(refine rg 24 (aV ?_))|refine nZ ?_));refine cY (.inl rfl) rfl (lS (FL ?_).symm)
  exact ⟨hlen,hpA,hkA,hlA,fun i hi => hq i hi (by omega)⟩
abbrev tH (ks : List KD) (ls : List LT) (ps : List Int) (bs : List BX) : AV := .agg [.rowE (iC ks) 2,.rowE (kZ ls) 3,.rowE (ints ps) 1,.rowE (fS bs) 3]
def zL6 (ks : List KD) (ls : List LT) (ps : List Int) (bs : List BX) : Prop := 1 ≤ ps.length ∧ ps.length ≤ 8 ∧ bs.length ≤ 8 ∧ ks.length ≤ 10 ∧ ls.length ≤ 10
theorem YN {ks : List KD} {ls : List LT} {ps : List Int} {bs : List BX} (h : zL6 ks ls ps bs) (ht : qF ks ls ps bs = true) : zE2 ks ls ps bs := by
  have ht : uI ks ls ps bs := by
    unfold qF at ht;simpa using ht
  obtain ⟨h1,h2,h3,h4,h5⟩ := h;exact ⟨h1,h2,ht.len,h4,h5,ht.k,ht.l,fun i hi => M2 ps.length ps rfl ht.p _ (aI hi),ht.b⟩
theorem JU {m st er sl : Int} (h : wX m st er sl = true) : qR m st er sl := by
  simp only [wX,aP,decide_eq_true_eq] at h;unfold qR;omega
theorem uY {n f t : Int} (h : f ≤ n ∧ n ≤ t) : aO Tryz.prog 64 [.i n,.i f,.i t] [] (.b true) [] := by
  have := qC n f t
  rwa [show jS n f t = true by simp [jS,h]] at this
theorem BA {l : List Int} {n : Int} {i : Nat} (h : i < l.length) (hn : ¬ I0 l n i) : BB l n = false := by
  unfold BB;simp only [decide_eq_false_iff_not];exact fun hh => hn (hh i h)
theorem P4 {l : List Int} {n : Int} (h : ∀ i,i < l.length → I0 l n i) : BB l n = true := by
  unfold BB;simp only [decide_eq_true_eq];exact h
theorem IP {l : List Int} {k : Nat} (h : k < l.length) : l.getD k 0 = l[k] := by simp [List.getD,h]
theorem W6 (l : List Int) (n : Int) (hl : l.length ≤ 9223372036854775807) (hn : 0 ≤ n ∧ n ≤ 1000) : aO Tryz.prog 61 [.rowE (ints l) 1,.i n] [] (.b (BB l n)) [] := by
  have hlen : (ints l).length = l.length := by simp
  refine bK T Tryz.func61 rfl rfl rfl rfl ?_
  (repeat' (first|refine wS ?_|refine wB ?_|(refine rg 0 (aV ?_))|(refine rg 1 (mW rfl (qW T rfl (mV ?_))))|refine nZ ?_));refine cK (X := {k : Nat // k ≤ l.length ∧ ∀ i,i < k → I0 l n i}) (fun k => [(0,.rowE (ints l) 1),(1,.i n),(7,.rowE (ints l) 1),(8,.i (ints l).length),(9,.i k.1)]) (fun _ => []) (fun k => l.length - k.1) ⟨0,by omega,fun i hi => by omega⟩ (dS []) ?_
  rintro ⟨k,hk,hq⟩;dsimp only;by_cases hlt : k < l.length
  · have hg := IP hlt;cases hw : jS l[k] 0 (n - 1)
    · have c := hw ▸ qC l[k] 0 (n - 1);have hno : ¬ I0 l n k := fun h => by
        unfold I0 at h;rw [hg] at h;rw [show jS l[k] 0 (n - 1) = true by simp [jS];omega] at hw
        cases hw
      (repeat' (first|refine wS ?_|refine wB ?_|refine wK ?_|refine wR ?_|refine wT ?_|(refine wC rfl ?_ ?_<;>(intro hb;(try simp only [nm] at hb);try (exfalso;omega)))|(refine rg 2 (vV (aJ rfl rfl) ?_))|(refine rg 3 (mW rfl (vV (ix T rfl (by omega) (bZ l) (kS (k := k) hlt)) (lW T rfl (qA ?_)))))|(refine rg 4 (dQ rfl (vV (cO rfl rfl (by omega) (by omega)) (vV (kC (c)) (vV (eL rfl) (mV ?_)))));(iterate 3 refine gF ?_);(iterate 7 refine gU ?_);refine gF (pV ?_))|(refine rg 5 (aV ?_))|refine nZ ?_));exact cY (.inl rfl) rfl (lS (BA hlt hno).symm)
    · have c := hw ▸ qC l[k] 0 (n - 1);simp only [jS,aP,decide_eq_true_eq] at hw;by_cases hk0 : 0 < k
      · have hlt' : k - 1 < l.length := by omega
        have hg' := IP hlt';have hc' : (ints l)[((k : Int) - 1).toNat]? = some [AV.i l[k - 1]] := by rw [show ((k : Int) - 1).toNat = k - 1 by omega];exact kS hlt'
        (repeat' (first|refine wS ?_|refine wB ?_|refine wK ?_|refine wR ?_|(refine wC rfl ?_ ?_<;>(intro hb;(try simp only [nm] at hb);try (exfalso;omega)))|(refine rg 2 (vV (aJ rfl rfl) ?_))|(refine rg 3 (mW rfl (vV (ix T rfl (by omega) (bZ l) (kS (k := k) hlt)) (lW T rfl (qA ?_)))))|(refine rg 4 (dQ rfl (vV (cO rfl rfl (by omega) (by omega)) (vV (kC (c)) (vV (eL rfl) (mW rfl (yN rfl (yV (fU rfl rfl) (yM ?_))))))));refine cC rfl rfl ?_ ?_<;>(intro hb;rw [hb];(try simp only [nm] at hb);try (exfalso;omega));(all_goals (refine yN rfl (yN rfl (yN rfl (yV (cO rfl rfl (by omega) (by omega)) (yV (ix T rfl (by omega) (bZ l) hc') (yO T rfl (yV (iP rfl rfl) (gT (pW rfl (pV ?_))))))))))))|(refine rg 5 (aV ?_))|(refine rg 6 (vV (bS rfl rfl (by omega) (by omega)) (mV ?_)))|refine nZ ?_));all_goals first
          | (exfalso;omega)
          | (refine cY (.inl rfl) rfl (lS (BA hlt (fun h => ?_)).symm);unfold I0 at h;rw [hg,hg'] at h;omega)
          | (refine ⟨⟨k + 1, by omega, fun i hi => ?_⟩, by dsimp only; omega, dS []⟩
             by_cases e : i = k
             · subst e;unfold I0;rw [hg,hg'];omega
             · exact hq i (by omega))
      · obtain rfl : k = 0 := by omega
        (repeat' (first|refine wS ?_|refine wB ?_|refine wK ?_|refine wU ?_|(refine wC rfl ?_ ?_<;>(intro hb;(try simp only [nm] at hb);try (exfalso;omega)))|(refine rg 2 (vV (aJ rfl rfl) ?_))|(refine rg 3 (mW rfl (vV (ix T rfl (by omega) (bZ l) (kS (k := 0) hlt)) (lW T rfl (qA ?_)))))|(refine rg 4 (dQ rfl (vV (cO rfl rfl (by omega) (by omega)) (vV (kC (c)) (vV (eL rfl) (mW rfl (yN rfl (yV (fU rfl rfl) (yM ?_))))))));(iterate 7 refine gF ?_);refine gT (pW rfl (pV ?_)))|(refine rg 6 (vV (bS rfl rfl (by omega) (by omega)) (mV ?_)))|refine nZ ?_));all_goals first
          | (exfalso;omega)
          | (refine ⟨⟨1, by omega, fun i hi => ?_⟩, by dsimp only; omega, dS []⟩
             obtain rfl : i = 0 := by omega
             unfold I0;rw [hg];omega)
  · (repeat' (first|refine wS ?_|refine wR ?_|refine wE ?_|(refine wC rfl (fun hb => ?_) (fun hb => ?_) <;> (((try simp only [nm] at hb);try (exfalso;omega))))|(refine rg 2 (vV (aJ rfl rfl) ?_))|(refine rg 7 (aV ?_))|(refine nZ ?_)));exact cY (.inl rfl) rfl (lS (P4 fun i hi => hq i (by omega)).symm)
section
variable {P : Program} {env : dK} {h : Hp} {d : Option Nat} {ty : TypeId} {pos : String} {af : Array Edge} {g : Option (Nat × Bool)}
end
section
variable {ks : List KD} {ls : List LT} {ps : List Int} {bs : List BX} {m st er sl k a b n id lot ct ta done : Int} {ids : List Int} {M : Int}
end
end Go.Proofs.YtbialaoigijlgaaGreatDoor
namespace Go.Ab
open Go
section
variable {P : Program}
end
end Go.Ab
namespace Go.Proofs.YtbialaoigijlgaaGreatDoor
open Go Go.Ab
attribute [local irreducible] VC AW bV aO
set_option maxHeartbeats 4000000
theorem lE {θ : Nat → Nat} {f : Fn} {caps : List AV} (hi : AV.idfL caps = true) : (AV.clo f [] caps).map θ = .clo f [] caps := by
  show AV.clo f (AV.mapL θ []) (AV.mapL θ caps) = _;rw [nB θ caps hi];rfl
theorem PI {w : List KD} {F : FuncId} {caps : List AV} (hl : w.length ≤ 1000) (hi : AV.idfL caps = true) (hF : ∀ x,x ∈ w → aO Tryz.prog F (.agg [AV.v (.string x.1),AV.i x.2] :: caps) [] (.b false) []) :
    aO Tryz.prog 103 [.rowE (iC w) 2,.clo (.func F) [] caps] [] (.i (-1)) [] := by
  have hlen : (iC w).length = w.length := by simp
  refine bK T Tryz.func103 rfl rfl rfl rfl ?_
  (repeat' (first|refine wS ?_|refine wB ?_|(refine rg 0 (aV ?_))|(refine rg 1 (mW rfl (qW T rfl (mV ?_))))|refine nZ ?_));refine cK (X := {k : Nat // k ≤ w.length}) (fun k => [(0,.rowE (iC w) 2),(1,.clo (.func F) [] caps),(7,.i (iC w).length),(8,.i k.1)]) (fun _ => []) (fun k => w.length - k.1) ⟨0,by simp⟩ ⟨[],rfl,⟨rfl,by rw [lE hi];rfl,rfl,rfl,trivial⟩,trivial,cX,fun _ h => absurd h (dI _)⟩ ?_
  rintro ⟨k,hk⟩;dsimp only;by_cases hlt : k < w.length
  · have hc := hF w[k] (aI hlt);have hg := xA (l := w) hlt;generalize w[k] = y at *
    (repeat' (first|refine wS ?_|refine wB ?_|refine wK ?_|refine wU ?_|(refine wC rfl ?_ ?_<;>(intro hb;(try simp only [nm] at hb);try (exfalso;omega)))|(refine rg 2 (vV (aJ rfl rfl) ?_))|(refine rg 3 (mW rfl (aV ?_)))|(refine rg 4 (dQ rfl (mW rfl (vV (ix T rfl (by omega) (sK w) hg) (lW T rfl (vV (by exact eQ rfl rfl hc rfl (by simp [AV.idfL,AV.idf,hi]) rfl) ?_))))))|(refine rg 6 (vV (bS rfl rfl (by omega) (by omega)) (mV ?_)))|refine nZ ?_));all_goals first | (exfalso;omega) | exact ⟨⟨k + 1,hlt⟩,by dsimp only;omega,⟨[],rfl,⟨rfl,by rw [lE hi];rfl,rfl,rfl,trivial⟩,trivial,cX,fun _ h => absurd h (dI _)⟩⟩
  · (repeat' (first|refine wS ?_|refine wR ?_|refine wE ?_|(refine wC rfl (fun hb => ?_) (fun hb => ?_) <;> (((try simp only [nm] at hb);try (exfalso;omega))))|(refine rg 2 (vV (aJ rfl rfl) ?_))|(refine rg 7 (aV ?_))|(refine nZ ?_)));all_goals first | (exfalso;omega) | exact rQ
theorem YE {w : List KD} {F : FuncId} {caps : List AV} (hl : w.length ≤ 1000) (hi : AV.idfL caps = true) (hF : ∀ x,x ∈ w → aO Tryz.prog F (.agg [AV.v (.string x.1),AV.i x.2] :: caps) [] (.b false) []) :
    aO Tryz.prog 62 [.rowE (iC w) 2,.clo (.func F) [] caps] [] (.b false) [] := by
  have hc := PI hl hi hF;refine bK T Tryz.func62 rfl rfl rfl rfl ?_
  (repeat' (first|refine wS ?_|refine wR ?_|(refine rg 0 (aV ?_))|(refine rg 1 (dQ rfl (vV (by exact eQ rfl rfl hc rfl (by simp [AV.idfL,AV.idf,hi]) rfl) ?_));refine vV (jD rfl rfl) (aV ?_))|refine nZ ?_));all_goals first | (exfalso;omega) | exact rQ
theorem PH {w : List LT} {F : FuncId} {caps : List AV} (hl : w.length ≤ 1000) (hi : AV.idfL caps = true) (hF : ∀ x,x ∈ w → aO Tryz.prog F (.agg [AV.i x.1,AV.i x.2.1,AV.b x.2.2] :: caps) [] (.b false) []) :
    aO Tryz.prog 104 [.rowE (kZ w) 3,.clo (.func F) [] caps] [] (.i (-1)) [] := by
  have hlen : (kZ w).length = w.length := by simp
  refine bK T Tryz.func104 rfl rfl rfl rfl ?_
  (repeat' (first|refine wS ?_|refine wB ?_|(refine rg 0 (aV ?_))|(refine rg 1 (mW rfl (qW T rfl (mV ?_))))|refine nZ ?_));refine cK (X := {k : Nat // k ≤ w.length}) (fun k => [(0,.rowE (kZ w) 3),(1,.clo (.func F) [] caps),(7,.i (kZ w).length),(8,.i k.1)]) (fun _ => []) (fun k => w.length - k.1) ⟨0,by simp⟩ ⟨[],rfl,⟨rfl,by rw [lE hi];rfl,rfl,rfl,trivial⟩,trivial,cX,fun _ h => absurd h (dI _)⟩ ?_
  rintro ⟨k,hk⟩;dsimp only;by_cases hlt : k < w.length
  · have hc := hF w[k] (aI hlt);have hg := zJ (l := w) hlt;generalize w[k] = y at *
    (repeat' (first|refine wS ?_|refine wB ?_|refine wK ?_|refine wU ?_|(refine wC rfl ?_ ?_<;>(intro hb;(try simp only [nm] at hb);try (exfalso;omega)))|(refine rg 2 (vV (aJ rfl rfl) ?_))|(refine rg 3 (mW rfl (aV ?_)))|(refine rg 4 (dQ rfl (mW rfl (vV (ix T rfl (by omega) (vQ w) hg) (lW T rfl (vV (by exact eQ rfl rfl hc rfl (by simp [AV.idfL,AV.idf,hi]) rfl) ?_))))))|(refine rg 6 (vV (bS rfl rfl (by omega) (by omega)) (mV ?_)))|refine nZ ?_));all_goals first | (exfalso;omega) | exact ⟨⟨k + 1,hlt⟩,by dsimp only;omega,⟨[],rfl,⟨rfl,by rw [lE hi];rfl,rfl,rfl,trivial⟩,trivial,cX,fun _ h => absurd h (dI _)⟩⟩
  · (repeat' (first|refine wS ?_|refine wR ?_|refine wE ?_|(refine wC rfl (fun hb => ?_) (fun hb => ?_) <;> (((try simp only [nm] at hb);try (exfalso;omega))))|(refine rg 2 (vV (aJ rfl rfl) ?_))|(refine rg 7 (aV ?_))|(refine nZ ?_)));all_goals first | (exfalso;omega) | exact rQ
theorem YD {w : List LT} {F : FuncId} {caps : List AV} (hl : w.length ≤ 1000) (hi : AV.idfL caps = true) (hF : ∀ x,x ∈ w → aO Tryz.prog F (.agg [AV.i x.1,AV.i x.2.1,AV.b x.2.2] :: caps) [] (.b false) []) :
    aO Tryz.prog 65 [.rowE (kZ w) 3,.clo (.func F) [] caps] [] (.b false) [] := by
  have hc := PH hl hi hF;refine bK T Tryz.func65 rfl rfl rfl rfl ?_
  (repeat' (first|refine wS ?_|refine wR ?_|(refine rg 0 (aV ?_))|(refine rg 1 (dQ rfl (vV (by exact eQ rfl rfl hc rfl (by simp [AV.idfL,AV.idf,hi]) rfl) ?_));refine vV (jD rfl rfl) (aV ?_))|refine nZ ?_));all_goals first | (exfalso;omega) | exact rQ
theorem PJ {w : List BX} {F : FuncId} {caps : List AV} (hl : w.length ≤ 1000) (hi : AV.idfL caps = true) (hF : ∀ x,x ∈ w → aO Tryz.prog F (.agg [AV.i x.1,AV.i x.2.1,AV.i x.2.2] :: caps) [] (.b false) []) :
    aO Tryz.prog 105 [.rowE (fS w) 3,.clo (.func F) [] caps] [] (.i (-1)) [] := by
  have hlen : (fS w).length = w.length := by simp
  refine bK T Tryz.func105 rfl rfl rfl rfl ?_
  (repeat' (first|refine wS ?_|refine wB ?_|(refine rg 0 (aV ?_))|(refine rg 1 (mW rfl (qW T rfl (mV ?_))))|refine nZ ?_));refine cK (X := {k : Nat // k ≤ w.length}) (fun k => [(0,.rowE (fS w) 3),(1,.clo (.func F) [] caps),(7,.i (fS w).length),(8,.i k.1)]) (fun _ => []) (fun k => w.length - k.1) ⟨0,by simp⟩ ⟨[],rfl,⟨rfl,by rw [lE hi];rfl,rfl,rfl,trivial⟩,trivial,cX,fun _ h => absurd h (dI _)⟩ ?_
  rintro ⟨k,hk⟩;dsimp only;by_cases hlt : k < w.length
  · have hc := hF w[k] (aI hlt);have hg := W3 (l := w) hlt;generalize w[k] = y at *
    (repeat' (first|refine wS ?_|refine wB ?_|refine wK ?_|refine wU ?_|(refine wC rfl ?_ ?_<;>(intro hb;(try simp only [nm] at hb);try (exfalso;omega)))|(refine rg 2 (vV (aJ rfl rfl) ?_))|(refine rg 3 (mW rfl (aV ?_)))|(refine rg 4 (dQ rfl (mW rfl (vV (ix T rfl (by omega) (oS w) hg) (lW T rfl (vV (by exact eQ rfl rfl hc rfl (by simp [AV.idfL,AV.idf,hi]) rfl) ?_))))))|(refine rg 6 (vV (bS rfl rfl (by omega) (by omega)) (mV ?_)))|refine nZ ?_));all_goals first | (exfalso;omega) | exact ⟨⟨k + 1,hlt⟩,by dsimp only;omega,⟨[],rfl,⟨rfl,by rw [lE hi];rfl,rfl,rfl,trivial⟩,trivial,cX,fun _ h => absurd h (dI _)⟩⟩
  · (repeat' (first|refine wS ?_|refine wR ?_|refine wE ?_|(refine wC rfl (fun hb => ?_) (fun hb => ?_) <;> (((try simp only [nm] at hb);try (exfalso;omega))))|(refine rg 2 (vV (aJ rfl rfl) ?_))|(refine rg 7 (aV ?_))|(refine nZ ?_)));all_goals first | (exfalso;omega) | exact rQ
theorem YG {w : List BX} {F : FuncId} {caps : List AV} (hl : w.length ≤ 1000) (hi : AV.idfL caps = true) (hF : ∀ x,x ∈ w → aO Tryz.prog F (.agg [AV.i x.1,AV.i x.2.1,AV.i x.2.2] :: caps) [] (.b false) []) :
    aO Tryz.prog 67 [.rowE (fS w) 3,.clo (.func F) [] caps] [] (.b false) [] := by
  have hc := PJ hl hi hF;refine bK T Tryz.func67 rfl rfl rfl rfl ?_
  (repeat' (first|refine wS ?_|refine wR ?_|(refine rg 0 (aV ?_))|(refine rg 1 (dQ rfl (vV (by exact eQ rfl rfl hc rfl (by simp [AV.idfL,AV.idf,hi]) rfl) ?_));refine vV (jD rfl rfl) (aV ?_))|refine nZ ?_));all_goals first | (exfalso;omega) | exact rQ
theorem MQ (x : KD) (h : 0 ≤ x.2 ∧ x.2 ≤ 1048576) : aO Tryz.prog 63 [.agg [AV.v (.string x.1),AV.i x.2]] [] (.b false) [] := by
  have hw := uY (n := x.2) (f := 0) (t := 1048576) h;refine bK T Tryz.func63 rfl rfl rfl rfl ?_
  (repeat' (first|refine wS ?_|refine wR ?_|(refine rg 0 (bT (cQ rfl rfl) rfl (aV ?_)))|(refine rg 1 (hO T rfl (vV (kC (hw)) (vV (eL rfl) (aV ?_)))))|refine nZ ?_));all_goals first | (exfalso;omega) | exact rQ
theorem MP (ks : List KD) (x : LT) (h : 0 ≤ x.1 ∧ x.1 < ks.length) (hk : ks.length ≤ 1000) : aO Tryz.prog 66 [.agg [AV.i x.1,AV.i x.2.1,AV.b x.2.2],.pr [.rowE (iC ks) 2] 0] [] (.b false) [] := by
  have e1 : (iC ks).length = ks.length := by simp
  have hw := uY (n := x.1) (f := 0) (t := ((iC ks).length : Int) - 1) (by omega)
  refine bK T Tryz.func66 rfl rfl rfl rfl ?_
  (repeat' (first|refine wS ?_|refine wR ?_|(refine rg 0 (bT (cQ rfl rfl) rfl (aV ?_)))|(refine rg 1 (hO T rfl (lW T rfl (qW T rfl (vV (cO rfl rfl (by omega) (by omega)) (vV (kC (hw)) (vV (eL rfl) (aV ?_))))))))|refine nZ ?_));all_goals first | (exfalso;omega) | exact rQ
theorem MR (ls : List LT) (x : BX) (h : -1 ≤ x.1 ∧ x.1 < ls.length ∧ 0 ≤ x.2.1 ∧ x.2.1 ≤ 20000 ∧ (x.1 = -1 → x.2.1 = 0) ∧ 0 ≤ x.2.2 ∧ x.2.2 ≤ 1073741824) (hk : ls.length ≤ 1000) : aO Tryz.prog 68 [.agg [AV.i x.1,AV.i x.2.1,AV.i x.2.2],.pr [.rowE (kZ ls) 3] 0] [] (.b false) [] := by
  have e1 : (kZ ls).length = ls.length := by simp
  obtain ⟨lot,ct,ta⟩ := x;dsimp only at h ⊢;have h1 := uY (n := lot) (f := -1) (t := ((kZ ls).length : Int) - 1) (by omega)
  have h2 := uY (n := ct) (f := 0) (t := 20000) (by omega)
  have h3 := uY (n := ta) (f := 0) (t := 1073741824) (by omega)
  refine bK T Tryz.func68 rfl rfl rfl rfl ?_
  (repeat' (first|refine wS ?_|refine wR ?_|(refine rg 0 (bT (cQ rfl rfl) rfl (aV ?_)))|(refine rg 1 (hO T rfl (lW T rfl (qW T rfl (vV (cO rfl rfl (by omega) (by omega)) (vV (kC (h1)) (vV (eL rfl) (mW rfl (yP T rfl (yL T ?_)))))))));refine yV (kC (h2)) (yV (eL rfl) (pW rfl (mW rfl (yP T rfl (yO T rfl (yV (aJ rfl rfl) (yM ?_)))))));refine cC rfl rfl ?_ ?_<;>(intro hb;rw [hb];(try simp only [nm] at hb);try (exfalso;omega));(all_goals first|(refine gT (fW T rfl (gT (lW T rfl (gT (vV (fU rfl rfl) ?_))))))|(iterate 3 refine gF ?_));(all_goals (refine gT (pW rfl (pW rfl (mV ?_)))));(all_goals first|(refine gK ?_)|(refine cC rfl rfl ?_ ?_<;>(intro hb;rw [hb];(try simp only [nm] at hb);try (exfalso;omega))));(all_goals (refine yP T rfl (yO T rfl (yV (kC (h3)) (yV (eL rfl) (pW rfl (aV ?_))))))))|refine nZ ?_));all_goals first | (exfalso;omega) | exact rQ
theorem CV : ∀ (l m : List Int), l.Nodup → (∀ x, x ∈ l → x ∈ m) → m.length ≤ l.length → l.Perm m
  | [],m,_,_,hl => by
    have : m = [] := fH.1 (by simpa using hl)
    subst this;exact List.Perm.refl _
  | x :: l,m,hn,hs,hl => by
    have hx := hs x (by simp)
    have h2 := List.perm_cons_erase hx
    have h3 := CV l (m.erase x) (fD.1 hn).2 (fun y hy => by
      have hyx : y ≠ x := fun e => (fD.1 hn).1 (e ▸ hy);exact (kI hyx).2 (hs y (aY _ hy))) (by
        rw [jZ hx];simp only [List.length_cons] at hl
        omega)
    exact (List.Perm.cons x h3).trans h2.symm
theorem X8 {n : Nat} {ps : List Int} (hl : ps.length = n) (h : ∀ i : Nat,i < n → (i : Int) ∈ ps) : iD ps = Go.Ab.nats (List.range n) := by
  have hnd : (Go.Ab.nats (List.range n)).Nodup := List.Pairwise.map _ (fun a b hab e => hab (by omega)) WG
  have hsub : ∀ x,x ∈ Go.Ab.nats (List.range n) → x ∈ ps := fun x hx => by
    obtain ⟨i,hi,rfl⟩ := bM.1 hx;exact h i (fN.1 hi)
  have hp : (Go.Ab.nats (List.range n)).Perm ps := CV (Go.Ab.nats (List.range n)) ps hnd hsub (by simp [hl])
  exact Go.Pm.sorted_eq hp.symm (Go.Pm.range_le n)
theorem JY (n : Nat) : BB (Go.Ab.nats (List.range n)) n = true := by
  refine P4 fun i hi => ?_
  have hi' : i < n := by simpa using hi
  have e : ∀ k,k < n → (Go.Ab.nats (List.range n)).getD k 0 = (k : Int) := fun k hk => by
    rw [aC];simp [hk]
  unfold I0;rw [e i hi'];refine ⟨by omega,by omega,fun h0 => ?_⟩
  rw [e (i - 1) (by omega)];omega
theorem X9 {ks : List KD} {ls : List LT} {ps : List Int} {bs : List BX} (t : uI ks ls ps bs) (h1 : ks.length ≤ 1000) (h2 : ls.length ≤ 1000) (h3 : ps.length ≤ 1000) :
    aO Tryz.prog 25 [.rowE (iC ks) 2,.rowE (kZ ls) 3,.rowE (ints ps) 1,.rowE (fS bs) 3] [] (.b true) [] := by
  have e3 : (ints ps).length = ps.length := by simp
  have e4 : (fS bs).length = bs.length := by simp
  have hlen := t.len;have v1 := yW ps;have v2 := K8 ps (by omega)
  rw [X8 (n := ps.length) rfl t.p] at v2;have v3 := W6 (Go.Ab.nats (List.range ps.length)) ps.length (by simp;omega) (by omega)
  rw [JY] at v3;rw [show (ps.length : Int) = ((fS bs).length : Int) by omega] at v3
  have c1 := YE (w := ks) (F := 63) (caps := []) h1 rfl (fun x hx => by
    obtain ⟨i,hi,rfl⟩ := pI.1 hx
    exact MQ _ (t.k i hi))
  have c2 := YD (w := ls) (F := 66) (caps := [.pr [.rowE (iC ks) 2] 0]) h2 rfl (fun x hx => by
    obtain ⟨i,hi,rfl⟩ := pI.1 hx
    exact MP ks _ (t.l i hi) h1)
  have c3 := YG (w := bs) (F := 68) (caps := [.pr [.rowE (kZ ls) 3] 0]) (by omega) rfl (fun x hx => by
    obtain ⟨i,hi,rfl⟩ := pI.1 hx
    exact MR ls _ (t.b i hi) h2)
  generalize Go.Ab.nats (List.range ps.length) = sr at *;refine bK T Tryz.func25 rfl rfl rfl rfl ?_
  (repeat' (first|refine wS ?_|refine wK ?_|refine wU ?_|(refine rg 0 (bT (cQ rfl rfl) rfl (bT (cQ rfl rfl) rfl (aV ?_))))|(refine rg 1 (mW rfl (vV (kC (v1)) (vV (by exact eQ rfl rfl v2 rfl rfl rfl) ?_)));refine aV ?_)|(refine rg 2 (mW rfl (qW T rfl (mW rfl (qW T rfl (vV (oW rfl rfl (by omega)) (mW rfl (yN rfl (yN rfl (gT ?_)))))))));refine qW T rfl (yV (kC (v3)) (yV (eL rfl) (pV ?_))))|refine nZ ?_));all_goals try (exfalso;omega)
  (repeat' (first|refine wS ?_|refine wR ?_|(refine rg 4 (lW T rfl (vV (by exact eQ rfl rfl c1 rfl rfl rfl) ?_));refine aV ?_)|(refine rg 5 (dQ rfl (yO T rfl (yV (by exact iX rfl rfl) ?_)));refine yV (by exact eN rfl rfl c2 (.cons (.row _ _ _) (.cons (.clo .nil (.cons (.ptr rfl (.cons (.row _ _ _) .nil)) .nil)) .nil)) rfl rfl) ?_;refine pW rfl (aV ?_))|(refine rg 6 (mW rfl (vV (eL rfl) (mW rfl (yN rfl (yV (by exact iX rfl rfl) ?_)))));refine yV (by exact eN rfl rfl c3 (.cons (.row _ _ _) (.cons (.clo .nil (.cons (.ptr rfl (.cons (.row _ _ _) .nil)) .nil)) .nil)) rfl rfl) ?_;refine yV (eL rfl) (pW rfl (aV ?_)))|refine nZ ?_));all_goals first | (exfalso;omega) | exact rQ
end Go.Proofs.YtbialaoigijlgaaGreatDoor
namespace Go.Ab
open Go
section
variable {P : Program} {env : dK} {h : Hp} {d : Option Nat} {ty : TypeId} {pos : String} {af : Array Edge} {g : Option (Nat × Bool)}
end
end Go.Ab
namespace Go.Proofs.YtbialaoigijlgaaGreatDoor
open Go Go.Ab
attribute [local irreducible] VC AW bV aO
set_option maxHeartbeats 4000000
end Go.Proofs.YtbialaoigijlgaaGreatDoor
namespace Go.Proofs.YtbialaoigijlgaaGreatDoor
open Go Go.Ab
attribute [local irreducible] VC AW bV aO
abbrev jW (f t : Int) : AV := .agg [.i f,.i t]
def vZ (f t : Int) : Bool := decide (max f 0 < min t 20001)
def AP (f t : Int) : Int := if vZ f t then max f 0 else 0
def cutT (f t : Int) : Int := if vZ f t then min t 20001 else 0
theorem EB (f t : Int) : (vZ f t = true ∧ AP f t = max f 0 ∧ cutT f t = min t 20001 ∧ max f 0 < min t 20001) ∨ (vZ f t = false ∧ AP f t = 0 ∧ cutT f t = 0 ∧ min t 20001 ≤ max f 0) := by
  by_cases h : max f 0 < min t 20001
  · left;simp [vZ,AP,cutT,h]
  · right;simp only [vZ,AP,cutT,h];simp;omega
theorem ND {a b c d : Int} {e e' : Bool} (h1 : a = c) (h2 : b = d) (h3 : e = e') : AV.tup [jW a b,.b e] = AV.tup [jW c d,.b e'] := by rw [h1,h2,h3]
theorem Y3 (f t : Int) : aO Tryz.prog 112 [jW f t] [] (.tup [jW (AP f t) (cutT f t),.b (vZ f t)]) [] := by
  refine bK T Tryz.func112 rfl rfl rfl rfl ?_
  (repeat' (first|(first|(refine eK ?_)|(refine nP ?_)|(refine rJ ?_)|(refine oF ?_))|(first|(refine vV (by first|exact fG rfl|exact bY T rfl rfl rfl|exact aT T rfl rfl rfl rfl|exact jD rfl rfl|exact tV rfl rfl|exact AG rfl rfl|exact fB T rfl rfl rfl rfl) ?_)|(refine aQ T rfl rfl rfl rfl rfl rfl (by decide) rfl ?_)|(refine gB ?_)|(refine bT (by first|exact bH T rfl|exact cQ rfl rfl) rfl ?_))|((refine pU rfl (fun hb=>?_) (fun hb=>?_)<;>(try simp only [nm] at hb)))));all_goals
    refine cY (.inl rfl) rfl ?_;rcases EB f t with ⟨h1,h2,h3,h4⟩ | ⟨h1,h2,h3,h4⟩
    all_goals (first | (exfalso;omega) | (rw [h1,h2,h3];refine ND ?_ ?_ ?_ <;> first | rfl | omega))
def DM (f t n : Int) : Bool := decide (f ≤ n) && decide (n < t)
theorem HW (f t n : Int) : aO Tryz.prog 57 [jW f t,.i n] [] (.b (DM f t n)) [] := by
  refine bK T Tryz.func57 rfl rfl rfl rfl ?_
  (repeat' (first|(first|(refine eK ?_)|(refine nP ?_)|(refine oF ?_))|(first|(refine vV (by first|exact bU rfl|exact fG rfl|exact bY T rfl rfl rfl|exact aT T rfl rfl rfl rfl|exact jO rfl rfl|exact jF rfl rfl|exact aJ rfl rfl|exact iP rfl rfl) ?_)|(refine gB ?_)|(refine S7 rfl rfl ?_ rfl)|(refine S8 rfl rfl ?_ rfl)|(refine qD rfl rfl (fun hb=>?_) (fun hb=>?_) rfl<;>(rw [hb];(try simp only [nm] at hb)))|(refine bT (cQ rfl rfl) rfl ?_))));all_goals
    refine cY (.inl rfl) rfl (lS ?_);simp [DM];try omega
theorem UM (a b c d : Int) : aO Tryz.prog 80 [jW a b,jW c d] [] (.tup [jW (AP (max a c) (min b d)) (cutT (max a c) (min b d)),.b (vZ (max a c) (min b d))]) [] := by
  refine bK T Tryz.func80 rfl rfl rfl rfl ?_
  (repeat' (first|(first|(refine eK ?_)|(refine nP ?_)|(refine oF ?_))|(first|(refine vV (by first|exact fG rfl|exact bY T rfl rfl rfl|exact aT T rfl rfl rfl rfl|exact iQ rfl rfl|exact tV rfl rfl|exact AG rfl rfl|exact fB T rfl rfl rfl rfl|exact eQ rfl rfl (Y3 _ _) rfl rfl rfl) ?_)|(refine aQ T rfl rfl rfl rfl rfl rfl (by decide) rfl ?_)|(refine gB ?_)|(refine bT (by first|exact bH T rfl|exact cQ rfl rfl) rfl ?_))));refine rQ
theorem YB (a b c d : Int) : aO Tryz.prog 52 [jW a b,jW c d] [] (jW (min a c) (max b d)) [] := by
  refine bK T Tryz.func52 rfl rfl rfl rfl ?_
  (repeat' (first|(first|(refine eK ?_)|(refine nP ?_)|(refine oF ?_))|(first|(refine vV (by first|exact bY T rfl rfl rfl|exact aT T rfl rfl rfl rfl|exact tV rfl rfl|exact AG rfl rfl|exact fB T rfl rfl rfl rfl) ?_)|(refine aQ T rfl rfl rfl rfl rfl rfl (by decide) rfl ?_)|(refine gB ?_)|(refine bT (by first|exact bH T rfl|exact cQ rfl rfl) rfl ?_))));refine rQ
theorem TJ : aO Tryz.prog 111 [] [] (jW 0 20001) [] := by
  refine bK T Tryz.func111 rfl rfl rfl rfl ?_
  (repeat' (first|(first|(refine eK ?_)|(refine nP ?_)|(refine oF ?_))|(first|(refine vV (by exact fB T rfl rfl rfl rfl) ?_)|(refine aQ T rfl rfl rfl rfl rfl rfl (by decide) rfl ?_)|(refine gB ?_)|(refine bT (bH T rfl) rfl ?_))));refine rQ
def sS (l : List Int) : Bool := l.all fun n => decide (0 ≤ n) && decide (n ≤ 1099511627776)
theorem GK (l : List Int) (k : Nat) (h : k < l.length) : sS (l.drop k) = (decide (0 ≤ l[k]) && decide (l[k] ≤ 1099511627776) && sS (l.drop (k + 1))) := by
  rw [aS h];rfl
theorem zD (l : List Int) (hm : l.length ≤ 1000) : aO Tryz.prog 110 [.rowE (ints l) 1] [] (.b (sS l)) [] := by
  refine bK T Tryz.func110 rfl rfl rfl rfl ?_
  (repeat' (first|(first|(refine eK ?_)|(refine nP ?_)|(refine sU ?_))|(first|(refine vV (by first|exact bU rfl|exact fG rfl|exact fY T rfl rfl) ?_)|(refine gB ?_))));refine cK (X := {k : Nat // k ≤ (ints l).length ∧ sS l = sS (l.drop k)}) (fun k => [(5,.rowE (ints l) 1),(6,.i (ints l).length),(7,.i k.1)]) (fun _ => []) (fun k => (ints l).length - k.1) ⟨0,by simp,rfl⟩ (dS []) ?_
  rintro ⟨k,hk,hf⟩;dsimp only;have hlen : (ints l).length = l.length := by simp
  repeat' (first|(first|(refine eK ?_)|(refine nP ?_)|(refine sU ?_)|(refine rJ ?_)|(refine oF ?_)|(refine JA ?_))|(first|(refine vV (by first|exact fG rfl|exact aJ rfl rfl) ?_)|(refine gB ?_))|((refine pU rfl (fun hb=>?_) (fun hb=>?_)<;>(try simp only [nm] at hb))))
  · have hlt : k < l.length := by omega
    have hs := GK l k hlt;refine uT (zV T rfl rfl rfl rfl rfl (by omega) (bZ l) (kS hlt)) rfl ?_
    (repeat' (first|(first|(refine eK ?_)|(refine nP ?_)|(refine rJ ?_)|(refine oF ?_))|(first|(refine vV (by first|exact bU rfl|exact fG rfl|exact aT T rfl rfl rfl rfl|exact jO rfl rfl|exact jF rfl rfl|exact bS rfl rfl (by omega) (by omega)|exact aJ rfl rfl|exact fU rfl rfl) ?_)|(refine gB ?_)|(refine S7 rfl rfl ?_ rfl)|(refine S8 rfl rfl ?_ rfl)|(refine qD rfl rfl (fun hb=>?_) (fun hb=>?_) rfl<;>(rw [hb];(try simp only [nm] at hb))))|(first|(refine wT ?_)|(refine pU rfl (fun hb=>?_) (fun hb=>?_)<;>(try simp only [nm] at hb)))));all_goals first
      | (refine cY (.inl rfl) rfl (lS ?_);rw [hf,hs];simp;omega)
      | (refine ⟨⟨k + 1,by omega,?_⟩,by simp;omega,dS []⟩;rw [hf,hs];simp;omega)
  · refine cY (.inl rfl) rfl (lS ?_);rw [hf,cT (by omega)];rfl
theorem PZ {a b : Int} (h : 0 ≤ a ∧ a ≤ 1099511627776 ∧ 0 ≤ b ∧ b ≤ 1099511627776) : sS [a,b] = true := by simp [sS];omega
theorem QB {a b : Int} (h : ¬ (0 ≤ a ∧ a ≤ 1099511627776 ∧ 0 ≤ b ∧ b ≤ 1099511627776)) : sS [a,b] = false := by
  rw [← eI];simp [sS];omega
theorem PY {a b c d : Int} (h : 0 ≤ a ∧ a ≤ 1099511627776 ∧ 0 ≤ b ∧ b ≤ 1099511627776 ∧ 0 ≤ c ∧ c ≤ 1099511627776 ∧ 0 ≤ d ∧ d ≤ 1099511627776) : sS [a,b,c,d] = true := by simp [sS];omega
theorem QA {a b c d : Int} (h : ¬ (0 ≤ a ∧ a ≤ 1099511627776 ∧ 0 ≤ b ∧ b ≤ 1099511627776 ∧ 0 ≤ c ∧ c ≤ 1099511627776 ∧ 0 ≤ d ∧ d ≤ 1099511627776)) : sS [a,b,c,d] = false := by
  rw [← eI];simp [sS];omega
theorem VB {a b : Int} (h : 0 ≤ a ∧ a ≤ 1099511627776 ∧ 0 ≤ b ∧ b ≤ 1099511627776) : aO Tryz.prog 110 [.rowE (ints [a,b]) 1] [] (.b true) [] := PZ h ▸ zD [a,b] (by simp)
theorem VE {a b : Int} (h : ¬ (0 ≤ a ∧ a ≤ 1099511627776 ∧ 0 ≤ b ∧ b ≤ 1099511627776)) : aO Tryz.prog 110 [.rowE (ints [a,b]) 1] [] (.b false) [] := QB h ▸ zD [a,b] (by simp)
theorem AI {a b c d : Int} (h : 0 ≤ a ∧ a ≤ 1099511627776 ∧ 0 ≤ b ∧ b ≤ 1099511627776 ∧ 0 ≤ c ∧ c ≤ 1099511627776 ∧ 0 ≤ d ∧ d ≤ 1099511627776) : aO Tryz.prog 110 [.rowE (ints [a,b,c,d]) 1] [] (.b true) [] := PY h ▸ zD [a,b,c,d] (by simp)
theorem VD {a b c d : Int} (h : ¬ (0 ≤ a ∧ a ≤ 1099511627776 ∧ 0 ≤ b ∧ b ≤ 1099511627776 ∧ 0 ≤ c ∧ c ≤ 1099511627776 ∧ 0 ≤ d ∧ d ≤ 1099511627776)) : aO Tryz.prog 110 [.rowE (ints [a,b,c,d]) 1] [] (.b false) [] := QA h ▸ zD [a,b,c,d] (by simp)
theorem KB (f t n s : Int) (hf : 0 ≤ f ∧ f ≤ 20001 ∧ 0 ≤ t ∧ t ≤ 20001) (h : 0 ≤ n ∧ n ≤ 1099511627776 ∧ 0 ≤ s ∧ s ≤ 1099511627776) : aO Tryz.prog 81 [jW f t,.i n,.i s] [] (.tup [jW (AP (f - n - s) (t - max (n - s) 0)) (cutT (f - n - s) (t - max (n - s) 0)),.b (vZ (f - n - s) (t - max (n - s) 0))]) [] := by
  refine bK T Tryz.func81 rfl rfl rfl rfl ?_
  (repeat' (first|(first|(refine eK ?_)|(refine nP ?_)|(refine rJ ?_)|(refine oF ?_))|(first|(refine vV (by first|exact bU rfl|exact fG rfl|exact bY T rfl rfl rfl|exact aT T rfl rfl rfl rfl|exact cO rfl rfl (by omega) (by omega)|exact eL rfl|exact iQ rfl rfl|exact tV rfl rfl|exact fB T rfl rfl rfl rfl|exact eQ rfl rfl (Y3 _ _) rfl rfl rfl|exact eN rfl rfl (VB h) (by ((repeat (first|exact .nil|exact .v _|refine .cons ?_ ?_|refine .sl rfl (by simp) ?_));done)) rfl rfl) ?_)|(refine aQ T rfl rfl rfl rfl rfl rfl (by decide) rfl ?_)|(refine gB ?_)|(refine bT (by first|exact bH T rfl|exact cQ rfl rfl|exact bC T rfl rfl (by decide) (by decide) rfl rfl rfl) rfl ?_))|((refine wU ?_))));exact rQ
theorem FV (f t n s : Int) (h : ¬ (0 ≤ n ∧ n ≤ 1099511627776 ∧ 0 ≤ s ∧ s ≤ 1099511627776)) : aO Tryz.prog 81 [jW f t,.i n,.i s] [] (.tup [jW 0 0,.b false]) [] := by
  refine bK T Tryz.func81 rfl rfl rfl rfl ?_
  (repeat' (first|(first|(refine eK ?_)|(refine nP ?_)|(refine oF ?_))|(first|(refine vV (by first|exact bU rfl|exact fG rfl|exact eL rfl|exact fB T rfl rfl rfl rfl|exact eN rfl rfl (VE h) (by ((repeat (first|exact .nil|exact .v _|refine .cons ?_ ?_|refine .sl rfl (by simp) ?_));done)) rfl rfl) ?_)|(refine aQ T rfl rfl rfl rfl rfl rfl (by decide) rfl ?_)|(refine gB ?_)|(refine bT (by first|exact bH T rfl|exact cQ rfl rfl|exact bC T rfl rfl (by decide) (by decide) rfl rfl rfl) rfl ?_))|((refine wT ?_))));exact rQ
def AJ (a b c d : Int) : Prop := 0 ≤ a ∧ a ≤ 1099511627776 ∧ 0 ≤ b ∧ b ≤ 1099511627776 ∧ 0 ≤ c ∧ c ≤ 1099511627776 ∧ 0 ≤ d ∧ d ≤ 1099511627776
theorem FH (t u w e : Int) (h : ¬ AJ t u w e) : aO Tryz.prog 78 [.i t,.i u,.i w,.i e] [] (.tup [jW 0 0,.b false]) [] := by
  refine bK T Tryz.func78 rfl rfl rfl rfl ?_
  (repeat' (first|(first|(refine eK ?_)|(refine nP ?_)|(refine oF ?_))|(first|(refine vV (by first|exact bU rfl|exact fG rfl|exact eL rfl|exact fB T rfl rfl rfl rfl|exact eN rfl rfl (VD h) (by ((repeat (first|exact .nil|exact .v _|refine .cons ?_ ?_|refine .sl rfl (by simp) ?_));done)) rfl rfl) ?_)|(refine aQ T rfl rfl rfl rfl rfl rfl (by decide) rfl ?_)|(refine gB ?_)|(refine bT (by first|exact bH T rfl|exact bC T rfl rfl (by decide) (by decide) rfl rfl rfl) rfl ?_))|((refine wT ?_))));exact rQ
theorem BU (t u w e : Int) (h : AJ t u w e) (h1 : w + e - t < 0 ∨ u = 0 ∧ 0 < w - e - t) : aO Tryz.prog 78 [.i t,.i u,.i w,.i e] [] (.tup [jW 0 0,.b false]) [] := by
  have h' := h;unfold AJ at h';refine bK T Tryz.func78 rfl rfl rfl rfl ?_
  (repeat' (first|(first|(refine eK ?_)|(refine nP ?_)|(refine sU ?_)|(refine rJ ?_)|(refine oF ?_))|(first|(refine vV (by first|exact bU rfl|exact fG rfl|exact jO rfl rfl|exact jF rfl rfl|exact bS rfl rfl (by omega) (by omega)|exact cO rfl rfl (by omega) (by omega)|exact aJ rfl rfl|exact fU rfl rfl|exact eW rfl rfl|exact eL rfl|exact fB T rfl rfl rfl rfl|exact eN rfl rfl (AI h) (by ((repeat (first|exact .nil|exact .v _|refine .cons ?_ ?_|refine .sl rfl (by simp) ?_));done)) rfl rfl) ?_)|(refine aQ T rfl rfl rfl rfl rfl rfl (by decide) rfl ?_)|(refine gB ?_)|(refine S7 rfl rfl ?_ rfl)|(refine S8 rfl rfl ?_ rfl)|(refine HK rfl rfl ?_ rfl)|(refine qD rfl rfl (fun hb=>?_) (fun hb=>?_) rfl<;>(rw [hb];(try simp only [nm] at hb)))|(refine bT (by first|exact bH T rfl|exact bC T rfl rfl (by decide) (by decide) rfl rfl rfl) rfl ?_))|(first|(refine wT ?_)|(refine wU ?_)|(refine pU rfl (fun hb=>?_) (fun hb=>?_)<;>(try simp only [nm] at hb)))));all_goals first | (exfalso;omega) | exact rQ | skip
theorem BV (t u w e : Int) (h : AJ t u w e) (h1 : 0 ≤ w + e - t) (h2 : u = 0) (h3 : w - e - t ≤ 0) : aO Tryz.prog 78 [.i t,.i u,.i w,.i e] [] (.tup [jW 0 20001,.b true]) [] := by
  have h' := h;unfold AJ at h';refine bK T Tryz.func78 rfl rfl rfl rfl ?_
  (repeat' (first|(first|(refine eK ?_)|(refine nP ?_)|(refine sU ?_)|(refine rJ ?_)|(refine oF ?_))|(first|(refine vV (by first|exact bU rfl|exact fG rfl|exact jO rfl rfl|exact jF rfl rfl|exact bS rfl rfl (by omega) (by omega)|exact cO rfl rfl (by omega) (by omega)|exact aJ rfl rfl|exact fU rfl rfl|exact eW rfl rfl|exact eL rfl|exact fB T rfl rfl rfl rfl|exact eN rfl rfl (AI h) (by ((repeat (first|exact .nil|exact .v _|refine .cons ?_ ?_|refine .sl rfl (by simp) ?_));done)) rfl rfl|exact kC (TJ)) ?_)|(refine aQ T rfl rfl rfl rfl rfl rfl (by decide) rfl ?_)|(refine gB ?_)|(refine S7 rfl rfl ?_ rfl)|(refine S8 rfl rfl ?_ rfl)|(refine HK rfl rfl ?_ rfl)|(refine qD rfl rfl (fun hb=>?_) (fun hb=>?_) rfl<;>(rw [hb];(try simp only [nm] at hb)))|(refine bT (by first|exact bH T rfl|exact bC T rfl rfl (by decide) (by decide) rfl rfl rfl) rfl ?_))|(first|(refine wT ?_)|(refine wU ?_)|(refine pU rfl (fun hb=>?_) (fun hb=>?_)<;>(try simp only [nm] at hb)))));all_goals first | exact rQ | (exfalso;omega)
def zE4 (t u w e : Int) : Int := (max (w - e - t) 0 + u - 1) / u
def zE3 (t u w e : Int) : Int := (w + e - t) / u + 1
set_option maxHeartbeats 1000000 in
theorem FI (t u w e : Int) (h : AJ t u w e) (h1 : 0 ≤ w + e - t) (h2 : 0 < u) : aO Tryz.prog 78 [.i t,.i u,.i w,.i e] [] (.tup [jW (AP (zE4 t u w e) (zE3 t u w e)) (cutT (zE4 t u w e) (zE3 t u w e)),.b (vZ (zE4 t u w e) (zE3 t u w e))]) [] := by
  have h' := h;unfold AJ at h';have q1 := Int.ediv_nonneg h1 (Int.le_of_lt h2);have q2 := Int.ediv_le_self u h1;refine bK T Tryz.func78 rfl rfl rfl rfl ?_
  (repeat' (first|(first|(refine eK ?_)|(refine nP ?_)|(refine sU ?_)|(refine rJ ?_)|(refine oF ?_))|(first|(refine vV (by first|exact bU rfl|exact fG rfl|exact jO rfl rfl|exact jF rfl rfl|exact bS rfl rfl (by omega) (by omega)|exact cO rfl rfl (by omega) (by omega)|exact aJ rfl rfl|exact fU rfl rfl|exact eW rfl rfl|exact eL rfl|exact fB T rfl rfl rfl rfl|exact eN rfl rfl (AI h) (by ((repeat (first|exact .nil|exact .v _|refine .cons ?_ ?_|refine .sl rfl (by simp) ?_));done)) rfl rfl) ?_)|(refine aQ T rfl rfl rfl rfl rfl rfl (by decide) rfl ?_)|(refine gB ?_)|(refine S7 rfl rfl ?_ rfl)|(refine S8 rfl rfl ?_ rfl)|(refine HK rfl rfl ?_ rfl)|(refine qD rfl rfl (fun hb=>?_) (fun hb=>?_) rfl<;>(rw [hb];(try simp only [nm] at hb)))|(refine bT (by first|exact bH T rfl|exact bC T rfl rfl (by decide) (by decide) rfl rfl rfl) rfl ?_))|(first|(refine dV rfl (by first|exact bU rfl|exact bS rfl rfl (by omega) (by omega)|exact cO rfl rfl (by omega) (by omega)|exact UQ rfl rfl (by omega) (by omega) (by omega)|exact iQ rfl rfl|exact tV rfl rfl|exact fB T rfl rfl rfl rfl|exact eQ rfl rfl (Y3 _ _) rfl rfl rfl) ?_)|(refine AO rfl rfl (by (dsimp only [List.nil_append,List.cons_append,kO,List.append_nil];done)) ?_))|(refine EM (id := 8) [[],[0],[],[0,1,2],rN 4,[],rN 6,[],[],[7,8],[7,8,9],rN 11,rN 12,rN 13,rN 13] (rM 46 15) [[],[],[46,47],[],[],rM 46 5,[],rM 46 7,rM 46 8,rM 46 7,rM 46 7,[],[],[],[59]] cN (by decide +kernel) ?_)|(first|(refine wT ?_)|(refine wU ?_)|(refine pU rfl (fun hb=>?_) (fun hb=>?_)<;>(try simp only [nm] at hb)))));all_goals first | (exfalso;omega) | exact rQ
end Go.Proofs.YtbialaoigijlgaaGreatDoor
namespace Go.Ld
open Go.Ab Go.Proofs.YtbialaoigijlgaaGreatDoor
abbrev SP := Int × Int
abbrev W := List Int × Int × List SP
abbrev G := List Int × List W
abbrev eO (l : List SP) : List (List AV) := l.map fun p => [AV.i p.1,AV.i p.2]
abbrev wA (w : W) : List AV := [.rowE (Go.Proofs.YtbialaoigijlgaaGreatDoor.ints w.1) 1,.i w.2.1,.rowE (eO w.2.2) 2]
abbrev eY (l : List W) : List (List AV) := l.map wA
abbrev gA (g : G) : List AV := [.rowE (Go.Proofs.YtbialaoigijlgaaGreatDoor.ints g.1) 1,.rowE (eY g.2) 3]
abbrev iB (l : List G) : List (List AV) := l.map gA
def cI (a b : Int) : Int := if a < b then -1 else if b < a then 1 else 0
def B5 (a b : Int) : Int := if a = 0 then b else a
def cL : List Int → List Int → Int
  | [],[] => 0
  | [],_ :: _ => -1
  | _ :: _,[] => 1
  | x :: a,y :: b => B5 (cI x y) (cL a b)
def cS (x y : SP) : Int := B5 (cI x.1 y.1) (cI x.2 y.2)
def cB : List SP → List SP → Int
  | [],[] => 0
  | [],_ :: _ => -1
  | _ :: _,[] => 1
  | x :: a,y :: b => B5 (cS x y) (cB a b)
def mK (a b : W) : Int := B5 (cL a.1 b.1) (cB a.2.2 b.2.2)
def eH (a b : W) : Int := B5 (mK a b) (cI a.2.1 b.2.1)
structure X3 {α : Type} (c : α → α → Int) : Prop where
  eq : ∀ a b,c a b = 0 ↔ a = b
  neg : ∀ a b,c a b = - c b a
  tr : ∀ a b d,c a b < 0 → c b d < 0 → c a d < 0
theorem X3.rfl' {α : Type} {c : α → α → Int} (h : X3 c) (a : α) : c a a = 0 := (h.eq a a).2 rfl
theorem X3.le_tr {α : Type} {c : α → α → Int} (h : X3 c) {a b d : α} (h1 : c a b ≤ 0) (h2 : c b d ≤ 0) : c a d ≤ 0 := by
  by_cases e : c a b = 0
  · rw [(h.eq _ _).1 e];exact h2
  · by_cases e' : c b d = 0
    · rw [← (h.eq _ _).1 e'];exact h1
    · have := h.tr a b d (by omega) (by omega);omega
theorem oE : X3 cI where
  eq a b := by unfold cI;split <;> (try split) <;> omega
  neg a b := by unfold cI;split <;> split <;> (try split) <;> omega
  tr a b d := by unfold cI; repeat' split
                 all_goals omega
theorem Y9 {a b : Int} : B5 a b = 0 ↔ a = 0 ∧ b = 0 := by unfold B5;split <;> omega
theorem Y8 {a b : Int} : B5 (-a) (-b) = - B5 a b := by unfold B5;split <;> split <;> omega
theorem FZ {a b : Int} : B5 a b < 0 ↔ a < 0 ∨ a = 0 ∧ b < 0 := by unfold B5;split <;> omega
theorem X3.lex {α β γ : Type} {c : α → α → Int} {d : β → β → Int} (hc : X3 c) (hd : X3 d) (f : γ → α) (g : γ → β) (inj : ∀ x y, f x = f y → g x = g y → x = y) : X3 fun x y => B5 (c (f x) (f y)) (d (g x) (g y)) where
  eq a b := by
    rw [Y9,hc.eq,hd.eq];exact ⟨fun h => inj _ _ h.1 h.2,fun h => by rw [h];exact ⟨rfl,rfl⟩⟩
  neg a b := by rw [hc.neg,hd.neg,Y8]
  tr a b e h1 h2 := by
    simp only [FZ] at *;rcases h1 with h1 | ⟨h1,h1'⟩
    · rcases h2 with h2 | ⟨h2,h2'⟩
      · exact .inl (hc.tr _ _ _ h1 h2)
      · rw [(hc.eq _ _).1 h2] at h1;exact .inl h1
    · rw [(hc.eq _ _).1 h1];rcases h2 with h2 | ⟨h2,h2'⟩
      · exact .inl h2
      · exact .inr ⟨h2,hd.tr _ _ _ h1' h2'⟩
theorem QT : X3 cL where
  eq := fun a => by
    induction a with
    | nil => intro b;cases b <;> simp [cL]
    | cons x a ih => intro b; cases b with
      | nil => simp [cL]
      | cons y b => simp only [cL,Y9,oE.eq,ih,List.cons.injEq]
  neg := fun a => by
    induction a with
    | nil => intro b;cases b <;> simp [cL]
    | cons x a ih => intro b; cases b with
      | nil => simp [cL]
      | cons y b => simp only [cL];rw [oE.neg,ih,Y8]
  tr := fun a => by
    induction a with
    | nil => intro b d;cases b <;> cases d <;> simp [cL]
    | cons x a ih =>
      intro b d h1 h2;cases b with
      | nil => simp [cL] at h1
      | cons y b => cases d with
        | nil => simp [cL] at h2
        | cons z d =>
          simp only [cL,FZ] at *;rcases h1 with h1 | ⟨h1,h1'⟩
          · rcases h2 with h2 | ⟨h2,h2'⟩
            · exact .inl (oE.tr _ _ _ h1 h2)
            · rw [(oE.eq _ _).1 h2] at h1;exact .inl h1
          · rw [(oE.eq _ _).1 h1];rcases h2 with h2 | ⟨h2,h2'⟩
            · exact .inl h2
            · exact .inr ⟨h2,ih _ _ h1' h2'⟩
theorem O8 : X3 cS := X3.lex oE oE (·.1) (·.2) fun x y h1 h2 => Prod.ext h1 h2
theorem QU : X3 cB where
  eq := fun a => by
    induction a with
    | nil => intro b;cases b <;> simp [cB]
    | cons x a ih => intro b; cases b with
      | nil => simp [cB]
      | cons y b => simp only [cB,Y9,O8.eq,ih,List.cons.injEq]
  neg := fun a => by
    induction a with
    | nil => intro b;cases b <;> simp [cB]
    | cons x a ih => intro b; cases b with
      | nil => simp [cB]
      | cons y b => simp only [cB];rw [O8.neg,ih,Y8]
  tr := fun a => by
    induction a with
    | nil => intro b d;cases b <;> cases d <;> simp [cB]
    | cons x a ih =>
      intro b d h1 h2;cases b with
      | nil => simp [cB] at h1
      | cons y b => cases d with
        | nil => simp [cB] at h2
        | cons z d =>
          simp only [cB,FZ] at *;rcases h1 with h1 | ⟨h1,h1'⟩
          · rcases h2 with h2 | ⟨h2,h2'⟩
            · exact .inl (O8.tr _ _ _ h1 h2)
            · rw [(O8.eq _ _).1 h2] at h1;exact .inl h1
          · rw [(O8.eq _ _).1 h1];rcases h2 with h2 | ⟨h2,h2'⟩
            · exact .inl h2
            · exact .inr ⟨h2,ih _ _ h1' h2'⟩
theorem CZ : X3 (fun x y : List Int × List SP => B5 (cL x.1 y.1) (cB x.2 y.2)) := X3.lex QT QU (·.1) (·.2) fun x y h1 h2 => Prod.ext h1 h2
theorem iJ : X3 eH := X3.lex CZ oE (fun w : W => (w.1,w.2.2)) (fun w => w.2.1) fun x y h1 h2 => by
  obtain ⟨a,b,c⟩ := x;obtain ⟨a',b',c'⟩ := y;simp at h1 h2;obtain ⟨h1,h3⟩ := h1;rw [h1,h2,h3]
theorem nJ {a b : W} : mK a b = 0 ↔ a.1 = b.1 ∧ a.2.2 = b.2.2 := by unfold mK;rw [Y9,QT.eq,QU.eq]
def R4 {α : Type} (c : α → α → Int) (w : α) : List α → List α
  | [] => [w]
  | x :: l => if c w x ≤ 0 then w :: x :: l else x :: R4 c w l
def dW {α : Type} (c : α → α → Int) : List α → List α
  | [] => []
  | x :: l => R4 c x (dW c l)
theorem xC {α : Type} (c : α → α → Int) (w : α) : ∀ l, (R4 c w l).Perm (w :: l)
  | [] => .refl _
  | x :: l => by
    unfold R4;split
    · exact .refl _
    · exact ((xC c w l).cons x).trans (.swap _ _ _)
theorem dU {α : Type} (c : α → α → Int) : ∀ l, (dW c l).Perm l
  | [] => .refl _
  | x :: l => (xC c x _).trans ((dU c l).cons x)
theorem IM {α : Type} {c : α → α → Int} (h : X3 c) (w : α) : ∀ {l : List α}, l.Pairwise (fun a b => c a b ≤ 0) → (R4 c w l).Pairwise (fun a b => c a b ≤ 0)
  | [],_ => kM _ _
  | x :: l,hl => by
    rw [eS] at hl;unfold R4;split
    · rename_i hw;rw [eS,eS];refine ⟨fun y hy => ?_,hl⟩
      rcases bX.1 hy with rfl | hy
      · exact hw
      · exact h.le_tr hw (hl.1 y hy)
    · rename_i hw;rw [eS];refine ⟨fun y hy => ?_,IM h w hl.2⟩
      rcases bX.1 ((xC c w l).mem_iff.1 hy) with rfl | hy
      · have := h.neg x y;omega
      · exact hl.1 y hy
theorem kD {α : Type} {c : α → α → Int} (h : X3 c) : ∀ l, (dW c l).Pairwise (fun a b => c a b ≤ 0)
  | [] => .nil
  | x :: l => IM h x (kD h l)
theorem xZ {α : Type} {c : α → α → Int} (h : X3 c) {l m : List α} (hp : m.Perm l) (hm : m.Pairwise (fun a b => c a b ≤ 0)) : m = dW c l :=
  List.Perm.eq_of_pairwise (le := fun a b => c a b ≤ 0) (fun a b _ _ h1 h2 => (h.eq a b).1 (by have := h.neg a b;omega)) hm (kD h l) (hp.trans (dU c l).symm)
def jG {α : Type} (e : α → α → Bool) (p : α) : List α → List α
  | [] => []
  | y :: l => if e y p then jG e y l else y :: jG e y l
def wD {α : Type} (e : α → α → Bool) : List α → List α
  | [] => []
  | x :: l => x :: jG e x l
def xS (a b : W) : Bool := decide (mK a b = 0)
def iE (l : List W) : List W := wD xS (dW eH l)
structure Cx where
  m : Int
  st : Int
  er : Int
  sl : Int
  ks : List KD
  ls : List LT
  bs : List BX
structure Ev where
  k : Int
  a : Int
  b : Int
  n : Int
  ids : List Int
def gP (w : W) (i : Nat) : Int := w.1.getD i 0
def gC (w : W) (i : Nat) : SP := w.2.2.getD i (0,0)
def sC (w : W) (i : Nat) (r : SP) : W := (w.1,w.2.1,w.2.2.set i r)
def R5 (f t : Int) : SP × Bool := ((AP f t,cutT f t),vZ f t)
def IS (a b c d : Int) : Bool := decide (0 ≤ a ∧ a ≤ 1099511627776 ∧ 0 ≤ b ∧ b ≤ 1099511627776 ∧ 0 ≤ c ∧ c ≤ 1099511627776 ∧ 0 ≤ d ∧ d ≤ 1099511627776)
def ZT (t u w e : Int) : SP × Bool := if IS t u w e = true then (if w + e - t < 0 ∨ u = 0 ∧ 0 < w - e - t then ((0,0),false) else if u = 0 then ((0,20001),true) else R5 (zE4 t u w e) (zE3 t u w e)) else ((0,0),false)
def K1 (t u w e : Int) (r : SP) : SP × Bool := let q := ZT t u w e;if q.2 then R5 (max r.1 q.1.1) (min r.2 q.1.2) else q
def zE (r : SP) (n s : Int) : SP × Bool := if 0 ≤ n ∧ n ≤ 1099511627776 ∧ 0 ≤ s ∧ s ≤ 1099511627776 then R5 (r.1 - n - s) (r.2 - max (n - s) 0) else ((0,0),false)
def jP (c : Cx) (w : W) (i : Nat) (s : Ev) : W × Bool :=
  if s.k = 0 then (if gP w i ∈ s.ids then (w,decide ((s.ids.length : Int) - 1 ≤ c.st)) else ((w.1,w.2.1 + 1,w.2.2),decide ((s.ids.length : Int) ≤ c.st)))
  else if s.k = 1 then
    let b := c.bs.getD (gP w i).toNat (0,0,0)
    let q := K1 b.2.2 (rY c.ks c.ls b.1) s.n c.er (gC w i)
    (sC w i q.1,q.2)
  else if s.k = 2 then let q := zE (gC w i) s.n c.sl;(sC w i q.1,q.2)
  else if s.k = 3 then (sC w i (s.n,s.n + 1),DM (gC w i).1 (gC w i).2 s.n)
  else if s.k = 5 then (w,decide (gP w i = s.n))
  else (w,true)
def D7 (w : W) (i k : Nat) : W := ((w.1.set i (gP w k)).set k (gP w i),w.2.1,(w.2.2.set i (gC w k)).set k (gC w i))
def nE (l : List G) (b : Int) : Int := match l.findIdx? fun g => decide (b ∈ g.1) with
  | some i => i
  | none => -1
def M4 (a b : G) (x y : W) (l : List Int) : W := (l.map (fun k => if k ∈ a.1 then gP x (a.1.idxOf k) else gP y (b.1.idxOf k)),x.2.1 + y.2.1,l.map (fun k => if k ∈ a.1 then gC x (a.1.idxOf k) else gC y (b.1.idxOf k)))
def nL (a b : G) (l : List Int) : List W := a.2.flatMap fun x => b.2.map fun y => M4 a b x y l
def mX (l : List G) (i : Nat) : G := l.getD i ([],[])
def pE (x y : G) : G := let bodies := dW cI (x.1 ++ y.1);(bodies,nL x y bodies)
def join (l : List G) (a b : Int) : Option (List G) :=
  let i := nE l a;let k := nE l b
  if i = k then some l else
  let x := mX l i.toNat;let y := mX l k.toNat
  if 6 < x.1.length + y.1.length ∨ 1000 < x.2.length * y.2.length then none else
  some ((l.set (min i k).toNat (pE x y)).eraseIdx (max i k).toNat)
def jN (g : G) : Int := match g.2 with
  | [] => 0
  | w :: l => l.foldl (fun m x => if x.2.1 < m then x.2.1 else m) w.2.1
def tI (g : G) (i : Nat) : Bool := match g.2 with
  | [] => false
  | f :: l => (f :: l).all fun w => decide (gP w i = gP f i ∧ gC w i = gC f i)
def gL (g : G) : Option Nat := if g.1.length < 2 ∨ g.2 = [] then none else (List.range g.1.length).find? (tI g)
def iH (g : G) : W := g.2.headD ([],0,[])
def mR (g : G) (k : Nat) : G := ([g.1.getD k 0],[([gP (iH g) k],0,[gC (iH g) k])])
def jM (g : G) (k : Nat) : G := (g.1.eraseIdx k,iE (g.2.map fun w => (w.1.eraseIdx k,w.2.1,w.2.2.eraseIdx k)))
def mJ : Nat → G → List G
  | 0,g => [g]
  | n + 1, g => match gL g with
    | none => [g]
    | some k => mR g k :: mJ n (jM g k)
def cG (a b : G) : Int := cI (a.1.headD 0) (b.1.headD 0)
def xQ (l : List G) : List G := dW cG (l.flatMap fun g => mJ g.1.length g)
def tE (l : List G) : Int := (l.map jN).sum
def paid (c : Cx) (all : List G) : List G := all.map fun g => (g.1,g.2.filter fun w => decide (w.2.1 + (tE all - jN g) ≤ c.m))
def K5 (c : Cx) (all : List G) : List G := xQ (paid c all)
def pC (c : Cx) (s : Ev) (g : G) : List W :=
  let i := g.1.idxOf s.a
  g.2.flatMap fun w => (if (jP c w i s).2 then [(jP c w i s).1] else []) ++ (if s.k = 4 then [D7 w i (g.1.idxOf s.b)] else [])
def WD (l : List Int) (n : Int) : Bool := (List.range l.length).all fun i => decide (0 ≤ l.getD i 0 ∧ l.getD i 0 ≤ n - 1 ∧ (0 < i → l.getD (i - 1) 0 < l.getD i 0))
def lZ (n : Int) (s : Ev) : Bool := decide (0 ≤ s.a ∧ s.a ≤ n - 1) && decide (s.k = 0 ∨ s.ids.length = 0) && decide (s.k = 4 ∨ s.b = 0) &&
  (if s.k = 0 then decide (s.n = 0) && WD s.ids n else if s.k = 1 ∨ s.k = 2 ∨ s.k = 3 then decide (0 ≤ s.n ∧ s.n ≤ 1099511627776) else if s.k = 4 then decide (s.n = 0 ∧ s.a + 1 ≤ s.b ∧ s.b ≤ n - 1) else if s.k = 5 then decide (0 ≤ s.n ∧ s.n ≤ n - 1) else false)
def H8 (c : Cx) (l all : List G) (s : Ev) : Int × List G :=
  let at_ := (nE all s.a).toNat
  let g := mX all at_
  let ws := iE (pC c s g)
  if ws = [] then (26,l) else if 1000 < ws.length then (6,l) else
  let out := K5 c (all.set at_ (g.1,ws))
  if out.any (fun g => g.2.isEmpty) then (26,l) else (0,out)
def yA (c : Cx) (l : List G) (s : Ev) : Int × List G :=
  if lZ c.bs.length s then
    (if s.k = 4 then (match join l s.a s.b with
      | none => (6,l)
      | some all => H8 c l all s)
    else H8 c l l s)
  else (1,l)
def sJ (c : Cx) : List G := (List.range c.bs.length).map fun (i : Nat) => ([(i : Int)],[([(i : Int)],0,[((c.bs.getD i (0,0,0)).2.1,(c.bs.getD i (0,0,0)).2.1 + 1)])])
theorem TW {a b d : W} (h1 : mK a b < 0) (h2 : mK b d < 0) : mK a d < 0 := CZ.tr (a.1,a.2.2) (b.1,b.2.2) (d.1,d.2.2) h1 h2
theorem FX {a b d : W} (h : mK b a = 0) : mK a d = mK b d := by
  obtain ⟨h1,h2⟩ := nJ.1 h;unfold mK;rw [h1,h2]
theorem IW {a b : W} (h : eH a b ≤ 0) : mK a b < 0 ∨ mK a b = 0 ∧ a.2.1 ≤ b.2.1 := by
  unfold eH B5 at h;split at h
  · rename_i e;refine .inr ⟨e,?_⟩;unfold cI at h;split at h <;> (try split at h) <;> omega
  · omega
theorem uC {α : Type} (e : α → α → Bool) : ∀ (p : α) (l : List α), (jG e p l).Sublist l
  | _,[] => .slnil
  | p,y :: l => by
    unfold jG;split
    · exact (uC e y l).cons _
    · exact (uC e y l).cons_cons _
theorem V8 {α : Type} (e : α → α → Bool) : ∀ (l : List α), (wD e l).Sublist l
  | [] => .slnil
  | x :: l => (uC e x l).cons_cons _
theorem vO {l : List W} {w : W} (h : w ∈ iE l) : w ∈ l := (dU eH l).mem_iff.1 ((V8 _ _).mem h)
theorem vP (l : List W) : (iE l).length ≤ l.length := by
  have := (V8 xS (dW eH l)).length_le;rw [(dU eH l).length_eq] at this;exact this
theorem rU : ∀ (l : List W) (q p : W), (p :: l).Pairwise (fun a b => eH a b ≤ 0) → mK q p = 0 → q.2.1 ≤ p.2.1 → ∀ w, w ∈ p :: l → ∃ v, v ∈ q :: jG xS p l ∧ mK v w = 0 ∧ v.2.1 ≤ w.2.1
  | [],q,p,hs,h1,h2,w,hw => by
    rcases bX.1 hw with rfl | hw
    · exact ⟨q,bA,h1,h2⟩
    · cases hw
  | y :: l,q,p,hs,h1,h2,w,hw => by
    have hs' := eS.1 hs;rcases bX.1 hw with rfl | hw
    · exact ⟨q,bA,h1,h2⟩
    · unfold jG;by_cases e : xS y p = true
      · rw [if_pos e];have e' : mK y p = 0 := by unfold xS at e;simpa using e
        have hpy : mK p y = 0 := by obtain ⟨a,b⟩ := nJ.1 e';exact nJ.2 ⟨a.symm,b.symm⟩
        rcases IW (hs'.1 y bA) with hl | ⟨_,hl⟩
        · omega
        · refine rU l q y hs'.2 ?_ (by omega) w hw
          obtain ⟨a,b⟩ := nJ.1 h1;obtain ⟨a',b'⟩ := nJ.1 hpy;exact nJ.2 ⟨a.trans a',b.trans b'⟩
      · rw [if_neg e];obtain ⟨v,hv,h3,h4⟩ := rU l y y hs'.2 (nJ.2 ⟨rfl,rfl⟩) (kJ _) w hw;exact ⟨v,aY _ hv,h3,h4⟩
theorem Y7 {l : List W} {w : W} (h : w ∈ l) : ∃ v,v ∈ iE l ∧ v.1 = w.1 ∧ v.2.2 = w.2.2 ∧ v.2.1 ≤ w.2.1 := by
  have hs := kD iJ l;have hw := (dU eH l).mem_iff.2 h;unfold iE;generalize dW eH l = m at *;cases m with
  | nil => cases hw
  | cons x m =>
    obtain ⟨v,hv,h1,h2⟩ := rU m x x hs (nJ.2 ⟨rfl,rfl⟩) (kJ _) w hw;exact ⟨v,hv,(nJ.1 h1).1,(nJ.1 h1).2,h2⟩
theorem G7 : ∀ (l : List W) (p : W), (p :: l).Pairwise (fun a b => eH a b ≤ 0) → (∀ z, z ∈ jG xS p l → mK p z < 0) ∧ (jG xS p l).Pairwise (fun a b => mK a b < 0)
  | [],p,_ => ⟨fun z hz => (by cases hz),.nil⟩
  | y :: l,p,hs => by
    have hs' := eS.1 hs;obtain ⟨h1,h2⟩ := G7 l y hs'.2;unfold jG;by_cases e : xS y p = true
    · rw [if_pos e];have e' : mK y p = 0 := by unfold xS at e;simpa using e
      exact ⟨fun z hz => by rw [FX e'];exact h1 z hz,h2⟩
    · rw [if_neg e];have e' : mK p y < 0 := by
        rcases IW (hs'.1 y bA) with hl | ⟨hl,_⟩
        · exact hl
        · exfalso;apply e;unfold xS;obtain ⟨a,b⟩ := nJ.1 hl;simp [nJ.2 ⟨a.symm,b.symm⟩]
      refine ⟨fun z hz => ?_,eS.2 ⟨h1,h2⟩⟩
      rcases bX.1 hz with rfl | hz
      · exact e'
      · exact TW e' (h1 z hz)
theorem M5 (l : List W) : (iE l).Pairwise (fun a b => mK a b < 0) := by
  have hs := kD iJ l;unfold iE;generalize dW eH l = m at *;cases m with
  | nil => exact .nil
  | cons x m => exact eS.2 (G7 m x hs)
theorem F3 {l : List W} : iE l = [] ↔ l = [] := by
  constructor
  · intro h;cases l with
    | nil => rfl
    | cons x l => obtain ⟨v,hv,_⟩ := Y7 (l := x :: l) (w := x) bA;rw [h] at hv;cases hv
  · rintro rfl;rfl
abbrev As := Int → Int × SP
def zE1 (bs : List Int) (w : W) (f : As) : Prop := w.1 = bs.map (fun b => (f b).1) ∧ w.2.2 = bs.map (fun b => (f b).2)
def zF3 (g : G) (f : As) (m : Int) : Prop := ∃ w,w ∈ g.2 ∧ zE1 g.1 w f ∧ w.2.1 ≤ m
def Sem : List G → As → Int → Prop
  | [],_,M => 0 ≤ M
  | g :: gs,f,M => ∃ m,zF3 g f m ∧ Sem gs f (M - m)
theorem zF3.mono {g : G} {f : As} {m m' : Int} (h : zF3 g f m) (hm : m ≤ m') : zF3 g f m' := by
  obtain ⟨w,h1,h2,h3⟩ := h;exact ⟨w,h1,h2,by omega⟩
theorem Sem.mono : ∀ {gs : List G} {f : As} {M M' : Int}, Sem gs f M → M ≤ M' → Sem gs f M'
  | [],f,M,M',h,hm => by unfold Sem at *;omega
  | g :: gs,f,M,M',⟨m,h1,h2⟩,hm => ⟨m,h1,h2.mono (by omega)⟩
def RU (r : SP) : Prop := 0 ≤ r.1 ∧ r.1 < r.2 ∧ r.2 ≤ 20001
structure BF (n k : Nat) (w : W) : Prop where
  pl : w.1.length = k
  cl : w.2.2.length = k
  pr : ∀ x,x ∈ w.1 → 0 ≤ x ∧ x < n
  nd : w.1.Nodup
  m0 : 0 ≤ w.2.1
  m1 : w.2.1 ≤ 4000000
  sp : ∀ r,r ∈ w.2.2 → RU r
structure H4 (n : Nat) (g : G) : Prop where
  ne : g.1 ≠ []
  up : g.1.Pairwise (· < ·)
  rg : ∀ b,b ∈ g.1 → 0 ≤ b ∧ b < n
  ln : g.1.length ≤ 6
  ws : ∀ w,w ∈ g.2 → BF n g.1.length w
  same : ∀ w v,w ∈ g.2 → v ∈ g.2 → w.1.Perm v.1
theorem H4.nd {n : Nat} {g : G} (h : H4 n g) : g.1.Nodup := h.up.imp (fun h => by omega)
theorem V5 : ∀ (l : List W) (a : Int), l.foldl (fun m x => if x.2.1 < m then x.2.1 else m) a ≤ a ∧ (∀ x, x ∈ l → l.foldl (fun m x => if x.2.1 < m then x.2.1 else m) a ≤ x.2.1) ∧ (l.foldl (fun m x => if x.2.1 < m then x.2.1 else m) a = a ∨ ∃ x, x ∈ l ∧ l.foldl (fun m x => if x.2.1 < m then x.2.1 else m) a = x.2.1)
  | [],a => ⟨kJ _,fun x hx => (by cases hx),.inl rfl⟩
  | y :: l,a => by
    rw [W8];obtain ⟨h1,h2,h3⟩ := V5 l (if y.2.1 < a then y.2.1 else a)
    generalize l.foldl (fun m x => if x.2.1 < m then x.2.1 else m) (if y.2.1 < a then y.2.1 else a) = q at *
    refine ⟨by split at h1 <;> omega,fun x hx => ?_,?_⟩
    · rcases bX.1 hx with rfl | hx
      · split at h1 <;> omega
      · exact h2 x hx
    · rcases h3 with h3 | ⟨x,hx,h3⟩
      · split at h3
        · exact .inr ⟨y,bA,h3⟩
        · exact .inl h3
      · exact .inr ⟨x,aY _ hx,h3⟩
theorem KO {g : G} (h : g.2 ≠ []) : ∃ w,w ∈ g.2 ∧ w.2.1 = jN g := by
  unfold jN;cases hg : g.2 with
  | nil => exact absurd hg h
  | cons x l =>
    obtain ⟨h1,h2,h3⟩ := V5 l x.2.1;rcases h3 with h3 | ⟨y,hy,h3⟩
    · exact ⟨x,bA,h3.symm⟩
    · exact ⟨y,aY _ hy,h3.symm⟩
def ZV (k : Nat) (w : W) : W := (w.1.eraseIdx k,w.2.1,w.2.2.eraseIdx k)
theorem FP {g : G} {i : Nat} (hne : g.2 ≠ []) : tI g i = true ↔ ∀ w,w ∈ g.2 → gP w i = gP (iH g) i ∧ gC w i = gC (iH g) i := by
  unfold tI iH;cases hg : g.2 with
  | nil => exact absurd hg hne
  | cons f l => simp
theorem jJ {g : G} {k : Nat} (h : gL g = some k) : 2 ≤ g.1.length ∧ g.2 ≠ [] ∧ k < g.1.length ∧ ∀ w,w ∈ g.2 → gP w k = gP (iH g) k ∧ gC w k = gC (iH g) k := by
  unfold gL at h;split at h
  · cases h
  · rename_i hc;have hne : g.2 ≠ [] := fun e => hc (.inr e)
    have h1 := List.find?_some h;have h2 := List.mem_of_find?_eq_some h;rw [fN] at h2;exact ⟨by omega,hne,h2,(FP hne).1 h1⟩
theorem iR {g : G} (h : g.2 ≠ []) : iH g ∈ g.2 := by
  unfold iH;cases hg : g.2 with
  | nil => exact absurd hg h
  | cons f l => simp
theorem rP {α : Type} {l : List α} {k : Nat} {x : α} (h : x ∈ l.eraseIdx k) : x ∈ l := (BO l k).mem h
theorem BF.erase {n k : Nat} {w : W} (h : BF n k w) {i : Nat} (hi : i < k) : BF n (k - 1) (ZV i w) where
  pl := by show (w.1.eraseIdx i).length = _;rw [fL,h.pl,if_pos hi]
  cl := by show (w.2.2.eraseIdx i).length = _;rw [fL,h.cl,if_pos hi]
  pr x hx := h.pr x (rP hx)
  nd := h.nd.sublist (BO _ _)
  m0 := h.m0
  m1 := h.m1
  sp r hr := h.sp r (rP hr)
theorem iS {α : Type} : ∀ (l : List α) (i : Nat) (x : α), i < l.length → (l.getD i x :: l.eraseIdx i).Perm l
  | [],i,x,h => by simp at h
  | y :: l,0,x,h => by simp
  | y :: l,i + 1,x,h => by
    simp only [List.getD_cons_succ,List.eraseIdx_cons_succ];exact (List.Perm.swap _ _ _).trans ((iS l i x (by simpa using h)).cons y)
theorem BF.at {n k : Nat} {w : W} (h : BF n k w) {i : Nat} (hi : i < k) : 0 ≤ gP w i ∧ gP w i < n ∧ RU (gC w i) := by
  unfold gP gC;have h1 : i < w.1.length := by rw [h.pl];exact hi
  have h2 : i < w.2.2.length := by rw [h.cl];exact hi
  simp only [List.getD,aB h1,aB h2,uW];exact ⟨(h.pr _ (aI h1)).1,(h.pr _ (aI h1)).2,h.sp _ (aI h2)⟩
theorem H4.one {n : Nat} {g : G} (h : H4 n g) {k : Nat} (hc : gL g = some k) : H4 n (mR g k) := by
  obtain ⟨h1,hne,hk,hs⟩ := jJ hc;have hf := h.ws _ (iR hne);have ha := hf.at hk;refine ⟨by simp [mR],by simp [mR],?_,by simp [mR],?_,?_⟩
  · intro b hb;simp only [mR,dR] at hb;subst hb;simp only [List.getD,aB hk,uW];exact h.rg _ (aI hk)
  · intro w hw;simp only [mR,dR] at hw;subst hw;exact ⟨rfl,rfl,by intro x hx;simp at hx;subst hx;exact ⟨ha.1,ha.2.1⟩,by simp,by simp,by simp,by intro r hr;simp at hr;subst hr;exact ha.2.2⟩
  · intro w v hw hv;simp only [mR,dR] at hw hv;subst hw;subst hv;exact .refl _
theorem H4.rest {n : Nat} {g : G} (h : H4 n g) {k : Nat} (hc : gL g = some k) : H4 n (jM g k) := by
  obtain ⟨h1,hne,hk,hs⟩ := jJ hc;have hl : (g.1.eraseIdx k).length = g.1.length - 1 := by rw [fL,if_pos hk]
  have hm : ∀ w,w ∈ (jM g k).2 → ∃ v,v ∈ g.2 ∧ w = ZV k v := by
    intro w hw;obtain ⟨v,hv,rfl⟩ := bM.1 (vO hw);exact ⟨v,hv,rfl⟩
  refine ⟨?_,h.up.sublist (BO _ _),fun b hb => h.rg b (rP hb),?_,?_,?_⟩
  · intro e;have : (g.1.eraseIdx k).length = 0 := by rw [show g.1.eraseIdx k = [] from e];rfl
    omega
  · show (g.1.eraseIdx k).length ≤ 6;have := h.ln;omega
  · intro w hw;obtain ⟨v,hv,rfl⟩ := hm w hw;show BF n (g.1.eraseIdx k).length _;rw [hl];exact (h.ws v hv).erase hk
  · intro w v hw hv;obtain ⟨w,hw',rfl⟩ := hm w hw;obtain ⟨v,hv',rfl⟩ := hm v hv;clear hw hv;have hw := hw';have hv := hv';have h3 := h.same w v hw hv;have e1 := iS w.1 k 0 (by rw [(h.ws w hw).pl];exact hk)
    have e2 := iS v.1 k 0 (by rw [(h.ws v hv).pl];exact hk)
    have e3 : w.1.getD k 0 = v.1.getD k 0 := ((hs w hw).1).trans ((hs v hv).1).symm;rw [e3] at e1;exact (List.perm_cons _).1 (e1.trans (h3.trans e2.symm))
theorem Y6 {n : Nat} : ∀ (m : Nat) {g : G}, H4 n g → ∀ x, x ∈ mJ m g → H4 n x
  | 0,g,h,x,hx => by simp [mJ] at hx;subst hx;exact h
  | m + 1,g,h,x,hx => by
    unfold mJ at hx;split at hx
    · simp at hx;subst hx;exact h
    · rename_i k hc;rcases bX.1 hx with rfl | hx
      · exact h.one hc
      · exact Y6 m (h.rest hc) x hx
theorem T7 {n : Nat} : ∀ (m : Nat) {g : G}, H4 n g → g.1.length ≤ m → ∀ x, x ∈ mJ m g → gL x = none
  | 0,g,h,hl,x,hx => by exact absurd (fH.1 (Nat.le_zero.1 hl)) h.ne
  | m + 1,g,h,hl,x,hx => by
    unfold mJ at hx;split at hx
    · rename_i hc;simp at hx;subst hx;exact hc
    · rename_i k hc;obtain ⟨h1,hne,hk,hs⟩ := jJ hc;rcases bX.1 hx with rfl | hx
      · simp [gL,mR]
      · refine T7 m (h.rest hc) ?_ x hx;show (g.1.eraseIdx k).length ≤ m;rw [fL,if_pos hk];omega
theorem vM {n : Nat} : ∀ (m : Nat) {g : G}, H4 n g → ((mJ m g).flatMap (·.1)).Perm g.1
  | 0,g,h => by simp [mJ]
  | m + 1,g,h => by
    unfold mJ;split
    · simp
    · rename_i k hc;obtain ⟨h1,hne,hk,hs⟩ := jJ hc;rw [cD];exact (List.Perm.append_left _ (vM m (h.rest hc))).trans (iS g.1 k 0 hk)
theorem TT {m : Nat} : ∀ {g : G},g.2 ≠ [] → ∀ x,x ∈ mJ m g → x.2 ≠ [] := by
  induction m with
  | zero => intro g h x hx;simp [mJ] at hx;subst hx;exact h
  | succ m ih =>
    intro g h x hx;unfold mJ at hx;split at hx
    · simp at hx;subst hx;exact h
    · rename_i k hc;rcases bX.1 hx with rfl | hx
      · simp [mR]
      · refine ih ?_ x hx;show iE _ ≠ [];rw [Ne,F3,kW];exact h
theorem OB {g : G} (h : g.2 = []) : ∀ m, mJ m g = [g]
  | 0 => rfl
  | m + 1 => by unfold mJ;rw [show gL g = none by unfold gL;rw [if_pos (.inr h)]]
theorem CX {m : Nat} : ∀ {g : G} {K : Nat},1 ≤ K → g.2.length ≤ K → ∀ x,x ∈ mJ m g → x.2.length ≤ K := by
  induction m with
  | zero => intro g K _ h x hx;simp [mJ] at hx;subst hx;exact h
  | succ m ih =>
    intro g K h1 h x hx;unfold mJ at hx;split at hx
    · simp at hx;subst hx;exact h
    · rename_i k hc;rcases bX.1 hx with rfl | hx
      · simpa [mR] using h1
      · refine ih h1 ?_ x hx;exact bW (vP _) (by rw [bF];exact h)
def upd (f : As) (a : Int) (x : Int × SP) : As := fun b => if b = a then x else f b
def zE5 (f : As) (a b : Int) : As := fun x => if x = a then f b else if x = b then f a else f x
theorem Z7 {bs : List Int} {a : Int} (ha : a ∈ bs) : ∃ h : bs.idxOf a < bs.length,bs[bs.idxOf a] = a := by
  have h := lB ha;exact ⟨h,List.getElem_idxOf h⟩
end Go.Ld
namespace Go.Proofs.YtbialaoigijlgaaGreatDoor
open Go Go.Ab
section
variable {P : Program} {env : dK} {h : Hp} {d : Option Nat} {ty : TypeId} {pos : String} {af : Array Edge} {g : Option (Nat × Bool)}
theorem IR {t t2 : TypeId} {x y : Operand} {a b : Int} (hx : evu env x = some (.i a)) (hy : evu env y = some (.i b)) (e : b < a) : bV P ⟨d,.binOp .gtr t x y t2,ty,pos,af,g⟩ env h 0 (fun _ => .b true) (fun _ => []) := by
  have := fU (P := P) (d := d) (ty := ty) (pos := pos) (af := af) (g := g) (h := h) (t := t) (t2 := t2) hx hy;simpa [show decide (a > b) = true from decide_eq_true (by omega)] using this
theorem rF {t t2 : TypeId} {x y : Operand} {a b : Int} (hx : evu env x = some (.i a)) (hy : evu env y = some (.i b)) (e : a ≤ b) : bV P ⟨d,.binOp .gtr t x y t2,ty,pos,af,g⟩ env h 0 (fun _ => .b false) (fun _ => []) := by
  have := fU (P := P) (d := d) (ty := ty) (pos := pos) (af := af) (g := g) (h := h) (t := t) (t2 := t2) hx hy;simpa [show decide (a > b) = false from decide_eq_false (by omega)] using this
theorem tW {t t2 : TypeId} {x y : Operand} {a b : Int} (hx : evu env x = some (.i a)) (hy : evu env y = some (.i b)) (e : a < b) : bV P ⟨d,.binOp .lss t x y t2,ty,pos,af,g⟩ env h 0 (fun _ => .b true) (fun _ => []) := by
  have := aJ (P := P) (d := d) (ty := ty) (pos := pos) (af := af) (g := g) (h := h) (t := t) (t2 := t2) hx hy;simpa [show decide (a < b) = true from decide_eq_true (by omega)] using this
theorem rE {t t2 : TypeId} {x y : Operand} {a b : Int} (hx : evu env x = some (.i a)) (hy : evu env y = some (.i b)) (e : b ≤ a) : bV P ⟨d,.binOp .lss t x y t2,ty,pos,af,g⟩ env h 0 (fun _ => .b false) (fun _ => []) := by
  have := aJ (P := P) (d := d) (ty := ty) (pos := pos) (af := af) (g := g) (h := h) (t := t) (t2 := t2) hx hy;simpa [show decide (a < b) = false from decide_eq_false (by omega)] using this
end
end Go.Proofs.YtbialaoigijlgaaGreatDoor
namespace Go.Proofs.YtbialaoigijlgaaGreatDoor
open Go Go.Ab Go.Ld
attribute [local irreducible] VC AW bV aO
set_option maxHeartbeats 4000000
theorem U3 (x : Int) : aO Tryz.prog 117 [.i x] [] (.b false) [] := by
  refine bK T Tryz.func117 rfl rfl rfl rfl ?_
  (repeat' (first|refine wS ?_|refine wR ?_|(refine rg 0 (aV ?_))|(refine rg 1 (dQ rfl (vV (fF rfl rfl) (aV ?_))))|refine nZ ?_));all_goals first | (exfalso;omega) | exact cY (.inl rfl) rfl (lS (by simp))
theorem V9 (x y : Int) : aO Tryz.prog 87 [.i x,.i y] [] (.i (cI x y)) [] := by
  by_cases h1 : x < y
  · rw [show cI x y = -1 by unfold cI;rw [if_pos h1]]
    refine bK T Tryz.func87 rfl rfl rfl rfl ?_
    (repeat' (first|refine wS ?_|refine wK ?_|refine wR ?_|refine wU ?_|(refine wC rfl ?_ ?_<;>(intro hb;(try simp only [nm] at hb);try (exfalso;omega)))|(refine rg 0 (aV ?_))|(refine rg 1 (mW rfl (vV (kC (U3 x)) (aV ?_))))|(refine rg 2 (mW rfl (vV (kC (U3 y)) (aV ?_))))|(refine rg 3 (mV ?_))|(refine rg 7 (mV ?_))|(refine rg 9 (dQ rfl (vV (aJ rfl rfl) ?_)))|(refine rg 10 (aV ?_))|refine nZ ?_));all_goals first | (exfalso;omega) | exact rQ
  · by_cases h2 : y < x
    · rw [show cI x y = 1 by unfold cI;rw [if_neg h1,if_pos h2]]
      refine bK T Tryz.func87 rfl rfl rfl rfl ?_
      (repeat' (first|refine wS ?_|refine wK ?_|refine wR ?_|refine wU ?_|(refine wC rfl ?_ ?_<;>(intro hb;(try simp only [nm] at hb);try (exfalso;omega)))|(refine rg 0 (aV ?_))|(refine rg 1 (mW rfl (vV (kC (U3 x)) (aV ?_))))|(refine rg 2 (mW rfl (vV (kC (U3 y)) (aV ?_))))|(refine rg 3 (mV ?_))|(refine rg 7 (mV ?_))|(refine rg 9 (dQ rfl (vV (aJ rfl rfl) ?_)))|(refine rg 11 (dQ rfl (vV (fU rfl rfl) ?_)))|(refine rg 12 (aV ?_))|refine nZ ?_));all_goals first | (exfalso;omega) | exact rQ
    · rw [show cI x y = 0 by unfold cI;rw [if_neg h1,if_neg h2]]
      refine bK T Tryz.func87 rfl rfl rfl rfl ?_
      (repeat' (first|refine wS ?_|refine wK ?_|refine wR ?_|refine wU ?_|(refine wC rfl ?_ ?_<;>(intro hb;(try simp only [nm] at hb);try (exfalso;omega)))|(refine rg 0 (aV ?_))|(refine rg 1 (mW rfl (vV (kC (U3 x)) (aV ?_))))|(refine rg 2 (mW rfl (vV (kC (U3 y)) (aV ?_))))|(refine rg 3 (mV ?_))|(refine rg 7 (mV ?_))|(refine rg 9 (dQ rfl (vV (aJ rfl rfl) ?_)))|(refine rg 11 (dQ rfl (vV (fU rfl rfl) ?_)))|(refine rg 13 (aV ?_))|refine nZ ?_));all_goals first | (exfalso;omega) | exact rQ
theorem zB2 (x y : Int) : aO Tryz.prog 85 [.rowE (ints [x,y]) 1] [] (.i (B5 x y)) [] := by
  have hlen : (ints [x,y]).length = 2 := rfl;refine bK T Tryz.func85 rfl rfl rfl rfl ?_
  (repeat' (first|refine wS ?_|refine wB ?_|(refine rg 0 (aV ?_))|(refine rg 1 (aV ?_))|(refine rg 2 (mW rfl (qW T rfl (mV ?_))))|refine nZ ?_));refine cK (X := {k : Nat // k ≤ 2 ∧ (1 ≤ k → x = 0) ∧ (2 ≤ k → y = 0)}) (fun k => [(0,.rowE (ints [x,y]) 1),(3,.i 0),(6,.rowE (ints [x,y]) 1),(7,.i (ints [x,y]).length),(8,.i k.1)]) (fun _ => []) (fun k => 2 - k.1) ⟨0,by omega,by omega,by omega⟩ (dS []) ?_
  rintro ⟨k,hk,h1,h2⟩;dsimp only;by_cases hlt : k < 2
  · have hg : ∃ z,(ints [x,y])[k]? = some [AV.i z] ∧ (k = 0 → z = x) ∧ (k = 1 → z = y) := by
      rcases (by omega : k = 0 ∨ k = 1) with rfl | rfl
      · exact ⟨x,rfl,fun _ => rfl,by omega⟩
      · exact ⟨y,rfl,by omega,fun _ => rfl⟩
    obtain ⟨z,hg,hz1,hz2⟩ := hg;by_cases h0 : z = 0
    · (repeat' (first|refine wS ?_|refine wB ?_|refine wK ?_|(refine wC rfl (fun hb => ?_) (fun hb => ?_) <;> (((try simp only [nm] at hb);try (exfalso;omega))))|(refine rg 3 (vV (aJ rfl rfl) ?_))|(refine rg 4 (vV (ix T rfl (by omega) (bZ [x,y]) hg) (lW T rfl (aV ?_))))|(refine rg 5 (dQ rfl (vV (fF rfl rfl) ?_)))|(refine rg 7 (vV (bS rfl rfl (by omega) (by omega)) (mV ?_)))|(refine nZ ?_)));all_goals first | (exfalso;omega) | exact ⟨⟨k + 1,by omega,by omega,by omega⟩,by dsimp only;omega,dS []⟩
    · (repeat' (first|refine wS ?_|refine wB ?_|refine wK ?_|refine wR ?_|(refine wC rfl (fun hb => ?_) (fun hb => ?_) <;> (((try simp only [nm] at hb);try (exfalso;omega))))|(refine rg 3 (vV (aJ rfl rfl) ?_))|(refine rg 4 (vV (ix T rfl (by omega) (bZ [x,y]) hg) (lW T rfl (aV ?_))))|(refine rg 5 (dQ rfl (vV (fF rfl rfl) ?_)))|(refine rg 6 (mW rfl (aV ?_)))|(refine nZ ?_)));all_goals first | (exfalso;omega) | exact cY (.inl rfl) rfl (by rw [show B5 x y = z by unfold B5;split <;> omega];rfl)
  · (repeat' (first|refine wS ?_|refine wR ?_|refine wE ?_|(refine wC rfl (fun hb => ?_) (fun hb => ?_) <;> (((try simp only [nm] at hb);try (exfalso;omega))))|(refine rg 3 (vV (aJ rfl rfl) ?_))|(refine rg 8 (mW rfl (aV ?_)))|(refine nZ ?_)));all_goals first | (exfalso;omega) | exact cY (.inl rfl) rfl (by rw [show B5 x y = 0 by unfold B5;split <;> omega];rfl)
theorem zD2 {a b : List Int} {k : Nat} (h1 : k < a.length) (h2 : k < b.length) : cL (a.drop k) (b.drop k) = B5 (cI a[k] b[k]) (cL (a.drop (k + 1)) (b.drop (k + 1))) := by
  rw [aS h1,aS h2];rfl
theorem VW {a b : List Int} {k : Nat} (h1 : k < a.length) (h2 : k = b.length) : cL (a.drop k) (b.drop k) = 1 := by
  rw [aS h1,cT (l := b) (by omega)];rfl
theorem VV {a b : List Int} {k : Nat} (h1 : k = a.length) (h2 : k < b.length) : cL (a.drop k) (b.drop k) = -1 := by
  rw [cT (l := a) (by omega),aS h2];rfl
theorem VU {a b : List Int} {k : Nat} (h1 : k = a.length) (h2 : k = b.length) : cL (a.drop k) (b.drop k) = 0 := by
  rw [cT (l := a) (by omega),cT (l := b) (by omega)];rfl
theorem OJ (b : Int) : B5 0 b = b := rfl
theorem FY {a b : Int} (h : ¬ a = 0) : B5 a b = a := by unfold B5;rw [if_neg h]
theorem LP (a b : List Int) (ha : a.length ≤ 9223372036854775807) (hb : b.length ≤ 9223372036854775807) : aO Tryz.prog 114 [.rowE (ints a) 1,.rowE (ints b) 1] [] (.i (cL a b)) [] := by
  have hla : (ints a).length = a.length := by simp
  have hlb : (ints b).length = b.length := by simp
  refine bK T Tryz.func114 rfl rfl rfl rfl ?_
  (repeat' (first|refine wS ?_|refine wB ?_|(refine rg 0 (aV ?_))|(refine rg 1 (mW rfl (qW T rfl (mV ?_))))|refine nZ ?_));refine cK (X := {k : Nat // k ≤ a.length ∧ k ≤ b.length ∧ cL a b = cL (a.drop k) (b.drop k)}) (fun k => [(0,.rowE (ints a) 1),(1,.rowE (ints b) 1),(9,.rowE (ints a) 1),(10,.i (ints a).length),(11,.i k.1)]) (fun _ => []) (fun k => a.length - k.1) ⟨0,by omega,by omega,rfl⟩ (dS []) ?_
  rintro ⟨k,hk,hkb,he⟩;dsimp only;by_cases h1 : k < a.length
  · have g1 := kS h1;by_cases h2 : k < b.length
    · have g2 := kS h2;have e1 := zD2 h1 h2;have hc := V9 a[k] b[k];generalize a[k] = x at *;generalize b[k] = y at *;by_cases h0 : cI x y = 0
      · rw [h0] at hc e1;rw [OJ] at e1
        (repeat' (first|refine wS ?_|refine wB ?_|refine wK ?_|refine wU ?_|(refine wC rfl ?_ ?_<;>(intro hb;(try simp only [nm] at hb);try (exfalso;omega)))|(refine rg 2 (vV (aJ rfl rfl) ?_))|(refine rg 3 (mW rfl (vV (ix T rfl (by omega) (bZ a) g1) (lW T rfl (qA ?_)))))|(refine rg 4 (dQ rfl (qW T rfl (vV (jD rfl rfl) ?_))))|(refine rg 6 (dQ rfl (vV (ix T rfl (by omega) (bZ b) g2) (lW T rfl (aV ?_)))))|(refine rg 7 (dQ rfl (vV (kC (hc)) (aV ?_))))|(refine rg 8 (mW rfl (vV (fF rfl rfl) ?_)))|(refine rg 10 (vV (bS rfl rfl (by omega) (by omega)) (mV ?_)))|refine nZ ?_));all_goals first | (exfalso;omega) | exact ⟨⟨k + 1,by omega,by omega,he.trans e1⟩,by dsimp only;omega,dS []⟩
      · rw [FY h0] at e1;generalize cI x y = q at *
        (repeat' (first|refine wS ?_|refine wB ?_|refine wK ?_|refine wR ?_|(refine wC rfl ?_ ?_<;>(intro hb;(try simp only [nm] at hb);try (exfalso;omega)))|(refine rg 2 (vV (aJ rfl rfl) ?_))|(refine rg 3 (mW rfl (vV (ix T rfl (by omega) (bZ a) g1) (lW T rfl (qA ?_)))))|(refine rg 4 (dQ rfl (qW T rfl (vV (jD rfl rfl) ?_))))|(refine rg 6 (dQ rfl (vV (ix T rfl (by omega) (bZ b) g2) (lW T rfl (aV ?_)))))|(refine rg 7 (dQ rfl (vV (kC (hc)) (aV ?_))))|(refine rg 8 (mW rfl (vV (fF rfl rfl) ?_)))|(refine rg 9 (mW rfl (aV ?_)))|refine nZ ?_));all_goals first | (exfalso;omega) | exact cY (.inl rfl) rfl (by rw [he,e1];rfl)
    · have e1 := VW h1 (show k = b.length by omega)
      (repeat' (first|refine wS ?_|refine wB ?_|refine wK ?_|refine wR ?_|(refine wC rfl ?_ ?_<;>(intro hb;(try simp only [nm] at hb);try (exfalso;omega)))|(refine rg 2 (vV (aJ rfl rfl) ?_))|(refine rg 3 (mW rfl (vV (ix T rfl (by omega) (bZ a) g1) (lW T rfl (qA ?_)))))|(refine rg 4 (dQ rfl (qW T rfl (vV (jD rfl rfl) ?_))))|(refine rg 5 (aV ?_))|refine nZ ?_));all_goals first | (exfalso;omega) | exact cY (.inl rfl) rfl (by rw [he,e1];rfl)
  · by_cases h2 : k < b.length
    · have e1 := VV (show k = a.length by omega) h2
      (repeat' (first|refine wS ?_|refine wR ?_|refine wE ?_|(refine wC rfl ?_ ?_<;>(intro hb;(try simp only [nm] at hb);try (exfalso;omega)))|(refine rg 2 (vV (aJ rfl rfl) ?_))|(refine rg 11 (mW rfl (qW T rfl (mW rfl (qW T rfl (vV (aJ rfl rfl) ?_))))))|(refine rg 12 (aV ?_))|refine nZ ?_));all_goals first | (exfalso;omega) | exact cY (.inl rfl) rfl (by rw [he,e1];rfl)
    · have e1 := VU (show k = a.length by omega) (show k = b.length by omega)
      (repeat' (first|refine wS ?_|refine wK ?_|refine wR ?_|refine wE ?_|(refine wC rfl ?_ ?_<;>(intro hb;(try simp only [nm] at hb);try (exfalso;omega)))|(refine rg 2 (vV (aJ rfl rfl) ?_))|(refine rg 11 (mW rfl (qW T rfl (mW rfl (qW T rfl (vV (aJ rfl rfl) ?_))))))|(refine rg 13 (aV ?_))|refine nZ ?_));all_goals first | (exfalso;omega) | exact cY (.inl rfl) rfl (by rw [he,e1];rfl)
theorem gX (l : List SP) : ∀ e,e ∈ eO l → e.length = 2 := by intro e he;obtain ⟨n,_,rfl⟩ := bM.1 he;rfl
theorem T2 {l : List SP} {k : Nat} (h : k < l.length) : (eO l)[k]? = some [AV.i l[k].1,AV.i l[k].2] := by simp [h]
theorem OI (x y : SP) : aO Tryz.prog 116 [jW x.1 x.2,jW y.1 y.2] [] (.i (cS x y)) [] := by
  have h1 := V9 x.1 y.1;have h2 := V9 x.2 y.2;have h3 := zB2 (cI x.1 y.1) (cI x.2 y.2);refine bK T Tryz.func116 rfl rfl rfl rfl ?_
  (repeat' (first|refine wS ?_|refine wR ?_|(refine rg 0 (bT (cQ rfl rfl) rfl (bT (cQ rfl rfl) rfl (aV ?_))))|(refine cJ (id := 1) 17 [[],[0],[],[2],rN 4,[],[5],[],[7],rN 9,rN 10,rN 11] (rM 5 12) [[],[],[5,6],[5,6],[],rM 5 5,rM 5 5,rM 5 7,rM 5 7,[],[],[]] cN rfl (by decide +kernel) (dP T rfl (dO T rfl (dP T rfl (dO T rfl (dV rfl (kC (h1)) (dP T rfl (dO T rfl (dP T rfl (dL T ?_)))))))));refine dV rfl (kC (h2)) (yH rfl rfl rfl (by exact bC T rfl rfl (by decide) (by decide) rfl rfl rfl) rfl ?_);refine dV rfl (by exact eN rfl rfl (h3) (by ((repeat (first|exact .nil|exact .v _|refine .cons ?_ ?_|refine .sl rfl (by simp) ?_));done)) rfl rfl) ?_;(all_goals (refine dE ?_;refine aV ?_)))|refine nZ ?_));all_goals first | (exfalso;omega) | exact rQ
theorem zD3 {a b : List SP} {k : Nat} (h1 : k < a.length) (h2 : k < b.length) : cB (a.drop k) (b.drop k) = B5 (cS a[k] b[k]) (cB (a.drop (k + 1)) (b.drop (k + 1))) := by
  rw [aS h1,aS h2];rfl
theorem WA {a b : List SP} {k : Nat} (h1 : k < a.length) (h2 : k = b.length) : cB (a.drop k) (b.drop k) = 1 := by
  rw [aS h1,cT (l := b) (by omega)];rfl
theorem VZ {a b : List SP} {k : Nat} (h1 : k = a.length) (h2 : k < b.length) : cB (a.drop k) (b.drop k) = -1 := by
  rw [cT (l := a) (by omega),aS h2];rfl
theorem VX {a b : List SP} {k : Nat} (h1 : k = a.length) (h2 : k = b.length) : cB (a.drop k) (b.drop k) = 0 := by
  rw [cT (l := a) (by omega),cT (l := b) (by omega)];rfl
abbrev zB5 : AV := .clo (.func 116) [] []
theorem GN (a b : List SP) (ha : a.length ≤ 9223372036854775807) (hb : b.length ≤ 9223372036854775807) : aO Tryz.prog 115 [.rowE (eO a) 2,.rowE (eO b) 2,zB5] [] (.i (cB a b)) [] := by
  have hla : (eO a).length = a.length := by simp
  have hlb : (eO b).length = b.length := by simp
  refine bK T Tryz.func115 rfl rfl rfl rfl ?_
  (repeat' (first|refine wS ?_|refine wB ?_|(refine rg 0 (aV ?_))|(refine rg 1 (mW rfl (qW T rfl (mV ?_))))|refine nZ ?_));refine cK (X := {k : Nat // k ≤ a.length ∧ k ≤ b.length ∧ cB a b = cB (a.drop k) (b.drop k)}) (fun k => [(0,.rowE (eO a) 2),(1,.rowE (eO b) 2),(2,zB5),(11,.rowE (eO a) 2),(12,.i (eO a).length),(13,.i k.1)]) (fun _ => []) (fun k => a.length - k.1) ⟨0,by omega,by omega,rfl⟩ (dS []) ?_
  rintro ⟨k,hk,hkb,he⟩;dsimp only;by_cases h1 : k < a.length
  · have g1 := T2 h1;by_cases h2 : k < b.length
    · have g2 := T2 h2;have e1 := zD3 h1 h2;have hc := OI a[k] b[k];generalize a[k] = x at *;generalize b[k] = y at *;by_cases h0 : cS x y = 0
      · rw [h0] at hc e1;rw [OJ] at e1
        (repeat' (first|refine wS ?_|refine wB ?_|refine wK ?_|refine wU ?_|(refine wC rfl ?_ ?_<;>(intro hb;(try simp only [nm] at hb);try (exfalso;omega)))|(refine rg 2 (vV (aJ rfl rfl) ?_))|(refine rg 3 (mW rfl (vV (ix T rfl (by omega) (gX a) g1) (lW T rfl (bT (bH T rfl) rfl (aW rfl (aQ T rfl rfl rfl rfl rfl rfl (by decide) rfl ?_)))))))|(refine rg 4 (dQ rfl (qW T rfl (vV (jD rfl rfl) ?_))))|(refine rg 6 (dQ rfl (vV (ix T rfl (by omega) (gX b) g2) (lW T rfl (bT (bH T rfl) rfl (aQ T rfl rfl rfl rfl rfl rfl (by decide) rfl ?_))))))|(refine rg 7 (mW rfl (lW T rfl (lW T rfl (vV (kC (hc)) (aV ?_))))))|(refine rg 8 (mW rfl (vV (fF rfl rfl) ?_)))|(refine rg 10 (vV (bS rfl rfl (by omega) (by omega)) (mV ?_)))|refine nZ ?_));all_goals first | (exfalso;omega) | exact ⟨⟨k + 1,by omega,by omega,he.trans e1⟩,by dsimp only;omega,dS []⟩
      · rw [FY h0] at e1;generalize cS x y = q at *
        (repeat' (first|refine wS ?_|refine wB ?_|refine wK ?_|refine wR ?_|(refine wC rfl ?_ ?_<;>(intro hb;(try simp only [nm] at hb);try (exfalso;omega)))|(refine rg 2 (vV (aJ rfl rfl) ?_))|(refine rg 3 (mW rfl (vV (ix T rfl (by omega) (gX a) g1) (lW T rfl (bT (bH T rfl) rfl (aW rfl (aQ T rfl rfl rfl rfl rfl rfl (by decide) rfl ?_)))))))|(refine rg 4 (dQ rfl (qW T rfl (vV (jD rfl rfl) ?_))))|(refine rg 6 (dQ rfl (vV (ix T rfl (by omega) (gX b) g2) (lW T rfl (bT (bH T rfl) rfl (aQ T rfl rfl rfl rfl rfl rfl (by decide) rfl ?_))))))|(refine rg 7 (mW rfl (lW T rfl (lW T rfl (vV (kC (hc)) (aV ?_))))))|(refine rg 8 (mW rfl (vV (fF rfl rfl) ?_)))|(refine rg 9 (mW rfl (aV ?_)))|refine nZ ?_));all_goals first | (exfalso;omega) | exact cY (.inl rfl) rfl (by rw [he,e1];rfl)
    · have e1 := WA h1 (show k = b.length by omega)
      (repeat' (first|refine wS ?_|refine wB ?_|refine wK ?_|refine wR ?_|(refine wC rfl ?_ ?_<;>(intro hb;(try simp only [nm] at hb);try (exfalso;omega)))|(refine rg 2 (vV (aJ rfl rfl) ?_))|(refine rg 3 (mW rfl (vV (ix T rfl (by omega) (gX a) g1) (lW T rfl (bT (bH T rfl) rfl (aW rfl (aQ T rfl rfl rfl rfl rfl rfl (by decide) rfl ?_)))))))|(refine rg 4 (dQ rfl (qW T rfl (vV (jD rfl rfl) ?_))))|(refine rg 5 (aV ?_))|refine nZ ?_));all_goals first | (exfalso;omega) | exact cY (.inl rfl) rfl (by rw [he,e1];rfl)
  · by_cases h2 : k < b.length
    · have e1 := VZ (show k = a.length by omega) h2
      (repeat' (first|refine wS ?_|refine wR ?_|refine wE ?_|(refine wC rfl ?_ ?_<;>(intro hb;(try simp only [nm] at hb);try (exfalso;omega)))|(refine rg 2 (vV (aJ rfl rfl) ?_))|(refine rg 11 (mW rfl (qW T rfl (mW rfl (qW T rfl (vV (aJ rfl rfl) ?_))))))|(refine rg 12 (aV ?_))|refine nZ ?_));all_goals first | (exfalso;omega) | exact cY (.inl rfl) rfl (by rw [he,e1];rfl)
    · have e1 := VX (show k = a.length by omega) (show k = b.length by omega)
      (repeat' (first|refine wS ?_|refine wK ?_|refine wR ?_|refine wE ?_|(refine wC rfl ?_ ?_<;>(intro hb;(try simp only [nm] at hb);try (exfalso;omega)))|(refine rg 2 (vV (aJ rfl rfl) ?_))|(refine rg 11 (mW rfl (qW T rfl (mW rfl (qW T rfl (vV (aJ rfl rfl) ?_))))))|(refine rg 13 (aV ?_))|refine nZ ?_));all_goals first | (exfalso;omega) | exact cY (.inl rfl) rfl (by rw [he,e1];rfl)
abbrev S6 (w : W) : AV := .agg (wA w)
def A7 (w : W) : Prop := w.1.length ≤ 1000000 ∧ w.2.2.length ≤ 1000000
theorem IB (a b : W) (ha : A7 a) (hb : A7 b) : aO Tryz.prog 86 [S6 a,S6 b] [] (.i (mK a b)) [] := by
  obtain ⟨p,m,c⟩ := a;obtain ⟨p',m',c'⟩ := b;unfold A7 at ha hb;dsimp only at ha hb;have h1 := LP p p' (by omega) (by omega)
  have h2 := GN c c' (by omega) (by omega)
  have e : mK (p,m,c) (p',m',c') = B5 (cL p p') (cB c c') := rfl;rw [e];generalize cL p p' = x at *;generalize cB c c' = y at *;by_cases h0 : x = 0
  · subst h0;rw [OJ];refine bK T Tryz.func86 rfl rfl rfl rfl ?_
    (repeat' (first|refine wS ?_|refine wK ?_|refine wR ?_|refine wU ?_|(refine rg 0 (bT (cQ rfl rfl) rfl (bT (cQ rfl rfl) rfl (aV ?_))))|(refine rg 1 (hO T rfl (hO T rfl (vV (kC (h1)) (aV ?_)))))|(refine rg 2 (mW rfl (vV (fF rfl rfl) ?_)))|(refine rg 4 (hO T rfl (hO T rfl (vV (kC (h2)) (aV ?_)))))|refine nZ ?_));all_goals first | (exfalso;omega) | exact rQ
  · rw [FY h0];refine bK T Tryz.func86 rfl rfl rfl rfl ?_
    (repeat' (first|refine wS ?_|refine wR ?_|(refine wC rfl ?_ ?_<;>(intro hb;(try simp only [nm] at hb);try (exfalso;omega)))|(refine rg 0 (bT (cQ rfl rfl) rfl (bT (cQ rfl rfl) rfl (aV ?_))))|(refine rg 1 (hO T rfl (hO T rfl (vV (kC (h1)) (aV ?_)))))|(refine rg 2 (mW rfl (vV (fF rfl rfl) ?_)))|(refine rg 3 (mW rfl (aV ?_)))|refine nZ ?_));all_goals first | (exfalso;omega) | exact rQ
theorem tK (a b : W) (ha : A7 a) (hb : A7 b) : aO Tryz.prog 84 [S6 a,S6 b] [] (.i (eH a b)) [] := by
  have h1 := IB a b ha hb;have h2 := V9 a.2.1 b.2.1;have h3 := zB2 (mK a b) (cI a.2.1 b.2.1);refine bK T Tryz.func84 rfl rfl rfl rfl ?_
  (repeat' (first|refine wS ?_|refine wR ?_|(refine rg 0 (bT (cQ rfl rfl) rfl (bT (cQ rfl rfl) rfl (aV ?_))))|(refine cJ (id := 1) 15 [[],[],[0,1],[],[3],[],[5],rN 7,rN 8,rN 9] (rM 5 10) [[],[5],[],[5,6,7],[5,6,7],rM 5 5,rM 5 5,[],[],[]] cN rfl (by decide +kernel) (dO T rfl (dO T rfl (dV rfl (kC (h1)) (dP T rfl (dO T rfl (dP T rfl (dO T rfl (dV rfl (kC (h2)) (yH rfl rfl rfl (by exact bC T rfl rfl (by decide) (by decide) rfl rfl rfl) rfl ?_)))))))));refine dV rfl (by exact eN rfl rfl (h3) (by ((repeat (first|exact .nil|exact .v _|refine .cons ?_ ?_|refine .sl rfl (by simp) ?_));done)) rfl rfl) ?_;(all_goals (refine dE ?_;refine aV ?_)))|refine nZ ?_));all_goals first | (exfalso;omega) | exact rQ
theorem M6 (a b : W) (ha : A7 a) (hb : A7 b) : aO Tryz.prog 89 [S6 a,S6 b] [] (.b (xS a b)) [] := by
  have h1 := IB a b ha hb;refine bK T Tryz.func89 rfl rfl rfl rfl ?_
  (repeat' (first|refine wS ?_|refine wR ?_|(refine rg 0 (bT (cQ rfl rfl) rfl (bT (cQ rfl rfl) rfl (aV ?_))))|(refine rg 1 (lW T rfl (lW T rfl (vV (kC (h1)) (vV (eW rfl rfl) (aV ?_))))))|refine nZ ?_));all_goals first | (exfalso;omega) | exact rQ
end Go.Proofs.YtbialaoigijlgaaGreatDoor
namespace Go.Ld
open Go.Ab Go.Proofs.YtbialaoigijlgaaGreatDoor
theorem jB (l : List W) : ∀ e,e ∈ eY l → e.length = 3 := by intro e he;obtain ⟨n,_,rfl⟩ := bM.1 he;rfl
theorem eD (l : List W) : (eY l).length = l.length := bF _
theorem nS {L : List W} {j : Int} {i : Nat} {x : W} (h : L[i]? = some x) (e : j = i) : (eY L)[0 + j.toNat]? = some (wA x) := by
  subst e;simp [h]
theorem tB {L : List W} {j : Int} {i : Nat} {x : W} (e : j = i) : (eY L).set (0 + j.toNat) (wA x) = eY (L.set i x) := by
  subst e;simp [eY,R8]
theorem mD {α : Type} (A B : List α) (x : α) {n : Nat} (h : n = A.length) : (A ++ x :: B)[n]? = some x := by subst h;simp
theorem mI {α : Type} (A B : List α) (x y : α) {n : Nat} (h : n = A.length) : (A ++ x :: B).set n y = A ++ y :: B := by subst h;simp
abbrev Up (l : List W) : Prop := l.Pairwise (fun a b => eH a b ≤ 0)
theorem J0 {l : List W} (h : Up l) : dW eH l = l := (xZ iJ (.refl _) h).symm
theorem zA {l m : List W} (hp : m.Perm l) (h : Up m) : dW eH l = m := (xZ iJ hp h).symm
theorem xI {a b : W} (h : eH a b < 0) : eH a b ≤ 0 := by omega
theorem FJ {S1 S2 : List W} {x : W} (h : Up (S1 ++ S2)) (h1 : ∀ y,y ∈ S1 → eH y x ≤ 0) (h2 : ∀ y,y ∈ S2 → eH x y ≤ 0) : Up (S1 ++ x :: S2) := by
  obtain ⟨a,b,c⟩ := eU.1 h;refine eU.2 ⟨a,eS.2 ⟨h2,b⟩,fun p hp q hq => ?_⟩
  rcases bX.1 hq with rfl | hq
  · exact h1 p hp
  · exact c p hp q hq
theorem XE {A B : List W} (h1 : Up A) (h2 : Up B) (h3 : ∀ a b,a ∈ A → b ∈ B → eH a b ≤ 0) : Up (A ++ B) := eU.2 ⟨h1,h2,fun a ha b hb => h3 a b ha hb⟩
theorem HN {A : List W} {y : W} (h : Up (A ++ [y])) : ∀ z,z ∈ A ++ [y] → eH z y ≤ 0 := by
  intro z hz;obtain ⟨a,b,c⟩ := eU.1 h;rcases bQ.1 hz with hz | hz
  · exact c z hz y (by simp)
  · rw [dR.1 hz,iJ.rfl'];exact kJ _
theorem SR {B : List W} {y : W} (h : Up (y :: B)) : ∀ z,z ∈ y :: B → eH y z ≤ 0 := by
  intro z hz;rcases bX.1 hz with rfl | hz
  · rw [iJ.rfl'];exact kJ _
  · exact (eS.1 h).1 z hz
theorem zE9 {a b : W} (h : ¬ eH a b < 0) : eH b a ≤ 0 := by have := iJ.neg a b;omega
def MF (l : List W) (a b : Nat) : List W := l.take a ++ (dW eH ((l.drop a).take (b - a)) ++ l.drop b)
theorem gY {l : List W} : (dW eH l).length = l.length := (dU eH l).length_eq
theorem NB {l : List W} {a : Nat} (h : a ≤ l.length) : MF l a a = l := by unfold MF;simp [dW]
theorem TC {l : List W} {a : Nat} (h : a < l.length) : MF l a (a + 1) = l := by
  unfold MF;rw [show a + 1 - a = 1 by omega,aS h]
  simp only [mY,lL,dW,R4];rw [List.singleton_append,← aS h,bG]
structure XA (l : List W) (a i : Nat) (x : W) (q : List W × List W) : Prop where
  eq : q.1 ++ q.2 = dW eH ((l.drop a).take (i - a))
  gt : ∀ y,y ∈ q.2 → eH x y < 0
def sO (l : List W) (a i : Nat) (x : W) (q : List W × List W) : List W := (l.take a ++ q.1) ++ x :: (q.2 ++ l.drop (i + 1))
theorem KV {l : List W} {a i : Nat} {x : W} (h1 : a < i) (h2 : i < l.length) (hx : l[i]? = some x) : XA l a i x (dW eH ((l.drop a).take (i - a)),[]) ∧ MF l a i = sO l a i x (dW eH ((l.drop a).take (i - a)),[]) := by
  refine ⟨⟨by simp,fun y hy => by cases hy⟩,?_⟩
  unfold MF sO;have : l.drop i = x :: l.drop (i + 1) := by
    rw [aB h2] at hx;rw [aS h2];cases hx;rfl
  simp [this]
theorem IL {l : List W} {a i : Nat} {x : W} {q : List W × List W} (h : XA l a i x q) (h1 : a < i) (h2 : i < l.length) : q.1.length + q.2.length = i - a := by
  have := congrArg List.length h.eq;simp only [aD,gY,aU,dD] at this;omega
theorem PG {l : List W} {a i : Nat} {x : W} {q : List W × List W} (h : XA l a i x q) (h1 : a < i) (h2 : i < l.length) : (sO l a i x q).length = l.length := by
  have := IL h h1 h2;unfold sO;simp only [aD,List.length_cons,aU,dD];omega
theorem PD {l : List W} {a i : Nat} {x : W} {q : List W × List W} (h : XA l a i x q) (h1 : a < i) (h2 : i < l.length) (hx : l[i]? = some x) (hs : ∀ y,y ∈ q.1 → eH y x ≤ 0) : sO l a i x q = MF l a (i + 1) := by
  unfold sO MF;have e : (l.drop a).take (i + 1 - a) = (l.drop a).take (i - a) ++ [x] := by
    rw [show i + 1 - a = (i - a) + 1 by omega,SE]
    rw [eC,show a + (i - a) = i by omega,hx];rfl
  rw [e];have hp : (q.1 ++ x :: q.2).Perm ((l.drop a).take (i - a) ++ [x]) := by
    refine List.perm_middle.trans ?_;rw [h.eq];exact ((dU eH _).cons x).trans (B2 _ _).symm
  have hu : Up (q.1 ++ x :: q.2) := FJ (by rw [h.eq];exact kD iJ _) hs (fun y hy => xI (h.gt y hy))
  rw [zA hp hu];simp
theorem UN {l : List W} {a i : Nat} {x y : W} {S : List W} {q : List W × List W} (h : XA l a i x q) (e : q.1 = S ++ [y]) (hc : ¬ eH x y < 0) : ∀ z,z ∈ q.1 → eH z x ≤ 0 := by
  have hu : Up (q.1 ++ q.2) := by rw [h.eq];exact kD iJ _
  have hu1 : Up q.1 := (eU.1 hu).1;rw [e] at hu1;intro z hz;rw [e] at hz;exact iJ.le_tr (HN hu1 z hz) (zE9 hc)
theorem PE {l : List W} {a i : Nat} {x y : W} {S : List W} {q : List W × List W} (h : XA l a i x q) (e : q.1 = S ++ [y]) (hc : eH x y < 0) : XA l a i x (S,y :: q.2) := by
  refine ⟨?_,fun z hz => ?_⟩
  · rw [← h.eq,e];simp
  · rcases bX.1 hz with rfl | hz
    · exact hc
    · exact h.gt z hz
end Go.Ld
namespace Go.Proofs.YtbialaoigijlgaaGreatDoor
open Go Go.Ab Go.Ld
attribute [local irreducible] VC AW bV aO
set_option maxHeartbeats 4000000
theorem XB (l : List W) : (eY l).flatten.all AV.one = true := by
  induction l with
  | nil => rfl
  | cons x l ih => simp only [List.map_cons,dZ,List.all_append,ih];rfl
theorem bE (l : List W) : ∀ e,e ∈ eY l → AV.idfL e = true := by
  intro e he;obtain ⟨x,_,rfl⟩ := bM.1 he;rfl
theorem kN : ∀ i : Nat,i < 1 → ([0] : List Nat)[i]? = some i := by decide
abbrev pF : AV := .clo (.func 84) [] []
theorem DH (l : List W) (a b : Nat) (hab : a ≤ b) (hb : b ≤ l.length) (hl : l.length ≤ 100000) (hw : ∀ w,w ∈ l → A7 w) :
    aO Tryz.prog 139 [.sl 0 0 l.length 3,.i a,.i b,pF] [.arr (eY l) 3] (.tup []) [.arr (eY (MF l a b)) 3] := by
  rcases gO a b with hlt | hge
  · refine bK T Tryz.func139 rfl rfl rfl rfl ?_
    (repeat' (first|refine wS ?_|refine wB ?_|(refine iA 0 rfl rfl rfl (by omega) (by omega) ?_)|refine nZ ?_));refine cK (X := {i : Nat // a + 1 ≤ i ∧ i ≤ b}) (fun i => [(0,.sl 0 0 l.length 3),(1,.i a),(2,.i b),(3,pF),(8,.i i.1)]) (fun i => [.arr (eY (MF l a i.1)) 3]) (fun i => b - i.1) ⟨a + 1,by omega,by omega⟩ ⟨[0],rfl,by (repeat (first | exact trivial | refine ⟨rfl,?_⟩)),⟨.inr (aG rfl (by dsimp only;rw [TC (by omega)]) (bE _)),trivial⟩,by decide,kN⟩ ?_
    rintro ⟨i,h1,h2⟩;dsimp only;by_cases hi : i < b
    · (repeat' (first|refine wS ?_|refine wB ?_|refine wK ?_|(refine wC rfl (fun hb => ?_) (fun hb => ?_) <;> (((try simp only [nm] at hb);try (exfalso;omega))))|(refine rg 1 (dQ rfl (vV (aJ rfl rfl) ?_)))|(refine rg 3 (mW rfl (aV ?_)))|(refine nZ ?_)));all_goals try (exfalso;omega)
      have hil : i < l.length := by omega
      obtain ⟨x,hx⟩ : ∃ x,l[i]? = some x := ⟨_,aB hil⟩;obtain ⟨s1,s2⟩ := KV (a := a) (by omega) hil hx
      refine cK (X := {q : List W × List W // XA l a i x q}) (fun q => [(0,.sl 0 0 l.length 3),(1,.i a),(2,.i b),(3,pF),(8,.i i),(9,.i ((a + q.1.1.length : Nat) : Int))]) (fun q => [.arr (eY (sO l a i x q.1)) 3]) (fun q => q.1.1.length) ⟨_,s1⟩ ⟨[0],rfl,⟨rfl,rfl,rfl,rfl,rfl,by dsimp only;rw [gY,aU,dD,show a + min (i - a) (l.length - a) = i by omega];rfl,trivial⟩,⟨.inr (aG rfl (by dsimp only;rw [s2]) (bE _)),trivial⟩,by decide,kN⟩ ?_
      rintro ⟨⟨S1,S2⟩,hq⟩;dsimp only;have hln := IL hq (by omega) hil
      dsimp only at hln;have hwx : A7 x := hw x (aM hx);have hal : (l.take a).length = a := by rw [aU];omega
      rcases List.eq_nil_or_concat S1 with rfl | ⟨S,y,rfl⟩
      · have ee := PD hq (by omega) hil hx (fun y hy => by cases hy)
        have hJ : ((a + ([] : List W).length : Nat) : Int) = a := by simp
        generalize ((a + ([] : List W).length : Nat) : Int) = J at *;generalize sO l a i x ([],S2) = L at *
        (repeat' (first|refine wS ?_|refine wE ?_|refine wU ?_|(refine cJ (id := 4) 53 zL9 (rM 18 17) zM0 cN rfl (by decide +kernel) (dN rfl (dN rfl (dV rfl (rF rfl rfl (by omega)) (dN rfl (tG rfl (tG rfl (tG rfl (tG rfl (dG ?_)))))))));refine tG rfl (tG rfl (tG rfl (tG rfl (tG rfl (tG rfl (tG rfl (dV rfl (jF rfl rfl) (dE ?_)))))))))|(refine iA 2 rfl rfl rfl (by omega) (by omega) ?_)|refine nZ ?_));all_goals first | (exfalso;omega) | exact ⟨⟨i + 1,by omega,by omega⟩,by dsimp only;omega,⟨[0],rfl,by (repeat (first | exact trivial | refine ⟨rfl,?_⟩)),⟨.inr (aG rfl (by dsimp only;rw [ee]) (bE _)),trivial⟩,by decide,kN⟩⟩
      · rw [List.concat_eq_append] at *;have hy : y ∈ l := by
          have h3 : y ∈ dW eH ((l.drop a).take (i - a)) := by rw [← hq.eq];simp
          exact eV (eG ((dU _ _).mem_iff.1 h3))
        have hc := tK x y hwx (hw y hy);have hL : sO l a i x (S ++ [y],S2) = (l.take a ++ S) ++ y :: x :: (S2 ++ l.drop (i + 1)) := by unfold sO;simp
        have hJ : ((a + (S ++ [y]).length : Nat) : Int) = ((a + S.length + 1 : Nat) : Int) := by simp;omega
        have hAl : a + S.length = (l.take a ++ S).length := by rw [aD,hal]
        have hlen := PG hq (by omega) hil
        by_cases h0 : eH x y < 0
        · have ee := PE hq rfl h0;have q1 := nS (L := sO l a i x (S ++ [y],S2)) (j := ((a + (S ++ [y]).length : Nat) : Int)) (i := a + S.length + 1) (x := x) (by rw [hL,show (l.take a ++ S) ++ y :: x :: (S2 ++ l.drop (i + 1)) = ((l.take a ++ S) ++ [y]) ++ x :: (S2 ++ l.drop (i + 1)) by simp];exact mD _ _ _ (by simp;omega)) hJ
          have q2 := nS (L := sO l a i x (S ++ [y],S2)) (j := ((a + (S ++ [y]).length : Nat) : Int) - 1) (i := a + S.length) (x := y) (by rw [hL];exact mD _ _ _ hAl) (by omega)
          have t1 := tB (L := sO l a i x (S ++ [y],S2)) (j := ((a + (S ++ [y]).length : Nat) : Int)) (i := a + S.length + 1) (x := y) hJ;have e1 : (sO l a i x (S ++ [y],S2)).set (a + S.length + 1) y = (l.take a ++ S) ++ y :: y :: (S2 ++ l.drop (i + 1)) := by
            rw [hL,show (l.take a ++ S) ++ y :: x :: (S2 ++ l.drop (i + 1)) = ((l.take a ++ S) ++ [y]) ++ x :: (S2 ++ l.drop (i + 1)) by simp,mI _ _ _ _ (by simp;omega)];simp
          rw [e1] at t1;have q3 := nS (L := (l.take a ++ S) ++ y :: y :: (S2 ++ l.drop (i + 1))) (j := ((a + (S ++ [y]).length : Nat) : Int) - 1) (i := a + S.length) (x := y) (mD _ _ _ hAl) (by omega)
          have t2 := tB (L := (l.take a ++ S) ++ y :: y :: (S2 ++ l.drop (i + 1))) (j := ((a + (S ++ [y]).length : Nat) : Int) - 1) (i := a + S.length) (x := x) (by omega)
          rw [mI _ _ _ _ hAl,show (l.take a ++ S) ++ x :: y :: (S2 ++ l.drop (i + 1)) = sO l a i x (S,y :: S2) by unfold sO;simp,← t1] at t2
          rw [← t1] at q3;have hJ2 : ((a + (S ++ [y]).length : Nat) : Int) - 1 = ((a + S.length : Nat) : Int) := by omega
          have hJ3 : ((a + (S ++ [y]).length : Nat) : Int) < l.length := by omega
          have hJ4 : (a : Int) < ((a + (S ++ [y]).length : Nat) : Int) := by omega
          clear hJ hL;generalize ((a + (S ++ [y]).length : Nat) : Int) = J at *;generalize eH x y = z at *;generalize sO l a i x (S ++ [y],S2) = L at *
          (repeat' (first|refine wS ?_|refine wB ?_|refine wK ?_|(refine wC rfl ?_ ?_<;>(intro hb;(try simp only [nm] at hb);try (exfalso;omega)))|(refine cJ (id := 4) 53 zL9 (rM 18 17) zM0 cN rfl (by decide +kernel) (dN rfl (dN rfl (dV rfl (fU rfl rfl) (dM ?_))));refine qN rfl rfl rfl rfl ?_ ?_<;>(intro hb;rw [hb];(try simp only [nm] at hb);try (exfalso;omega))<;>(refine tM ?_);(all_goals (refine tN rfl (tN rfl (dT rfl (by exact aL T rfl rfl rfl rfl rfl (by omega) (by omega)) ?_));refine dT rfl (by exact aT T rfl rfl (bJ rfl q1) rfl) ?_;refine tN rfl (tN rfl (dT rfl (cO rfl rfl (by omega) (by omega)) (dT rfl (by exact aL T rfl rfl rfl rfl rfl (by omega) (by omega)) ?_)));refine dT rfl (by exact aT T rfl rfl (bJ rfl q2) rfl) ?_;refine dT rfl (kC (hc)) (dT rfl (aJ rfl rfl) (dV rfl (jO rfl rfl) (dE ?_))))))|(refine mN (id := 6) 53 zM1 (rM 37 15) zM2 [(15,0)] cN rfl (by decide +kernel) (cM rfl rfl rfl rfl (by exact bU rfl) ?_);refine cM rfl rfl rfl rfl (by exact bU rfl) ?_;refine cM rfl rfl rfl rfl (by exact bU rfl) ?_;refine cM rfl rfl rfl rfl (by exact bU rfl) ?_;refine cM rfl rfl rfl rfl (by exact cO rfl rfl (by omega) (by omega)) ?_;refine cM rfl rfl rfl rfl (by exact bU rfl) ?_;refine cM rfl rfl rfl rfl (by exact bU rfl) ?_;refine cM rfl rfl rfl rfl (by exact cO rfl rfl (by omega) (by omega)) ?_;refine cM rfl rfl rfl rfl (by exact aL T rfl rfl rfl rfl rfl (by omega) (by omega)) ?_;refine cM rfl rfl rfl rfl (by exact aT T rfl rfl (bJ rfl q2) rfl) ?_;refine cM rfl rfl rfl rfl (by exact bU rfl) ?_;refine cM rfl rfl rfl rfl (by exact bU rfl) ?_;refine cM rfl rfl rfl rfl (by exact aL T rfl rfl rfl rfl rfl (by omega) (by omega)) ?_;refine cM rfl rfl rfl rfl (by exact aT T rfl rfl (bJ rfl q1) rfl) ?_;refine cM rfl rfl rfl rfl (by exact aL T rfl rfl rfl rfl rfl (by omega) (by omega)) ?_;refine uA rfl rfl rfl rfl (aN rfl) T rfl rfl rfl rfl rfl rfl (by decide) (tD rfl q1 rfl) ?_;refine pT rfl rfl rfl (by exact rfl) ?_;refine vV (by exact aL T rfl rfl rfl rfl rfl (by omega) (by omega)) ?_;refine aQ T rfl rfl rfl rfl rfl rfl (by decide) (lP rfl q3 rfl) ?_)|(refine rg 5 (mW rfl (vV (cO rfl rfl (by omega) (by omega)) (aV ?_))))|refine nZ ?_));all_goals first | (exfalso;omega) | exact ⟨⟨_,ee⟩,by dsimp only;simp,⟨[0],rfl,⟨rfl,rfl,rfl,rfl,rfl,by dsimp only;rw [← hJ2];try rfl,trivial⟩,⟨.inr (aG rfl (by dsimp only;rw [← t2];try rfl) (bE _)),trivial⟩,by decide,kN⟩⟩
        · have ee := PD hq (by omega) hil hx (UN hq rfl h0)
          have q1 := nS (L := sO l a i x (S ++ [y],S2)) (j := ((a + (S ++ [y]).length : Nat) : Int)) (i := a + S.length + 1) (x := x) (by rw [hL,show (l.take a ++ S) ++ y :: x :: (S2 ++ l.drop (i + 1)) = ((l.take a ++ S) ++ [y]) ++ x :: (S2 ++ l.drop (i + 1)) by simp];exact mD _ _ _ (by simp;omega)) hJ
          have q2 := nS (L := sO l a i x (S ++ [y],S2)) (j := ((a + (S ++ [y]).length : Nat) : Int) - 1) (i := a + S.length) (x := y) (by rw [hL];exact mD _ _ _ hAl) (by omega)
          have hJ3 : ((a + (S ++ [y]).length : Nat) : Int) < l.length := by omega
          have hJ4 : (a : Int) < ((a + (S ++ [y]).length : Nat) : Int) := by omega
          clear hJ hL;generalize ((a + (S ++ [y]).length : Nat) : Int) = J at *;generalize eH x y = z at *;generalize sO l a i x (S ++ [y],S2) = L at *
          (repeat' (first|refine wS ?_|refine wE ?_|(refine wC rfl ?_ ?_<;>(intro hb;(try simp only [nm] at hb);try (exfalso;omega)))|(refine cJ (id := 4) 53 zL9 (rM 18 17) zM0 cN rfl (by decide +kernel) (dN rfl (dN rfl (dV rfl (fU rfl rfl) (dM ?_))));refine qN rfl rfl rfl rfl ?_ ?_<;>(intro hb;rw [hb];(try simp only [nm] at hb);try (exfalso;omega))<;>(refine tM ?_);(all_goals (refine tN rfl (tN rfl (dT rfl (by exact aL T rfl rfl rfl rfl rfl (by omega) (by omega)) ?_));refine dT rfl (by exact aT T rfl rfl (bJ rfl q1) rfl) ?_;refine tN rfl (tN rfl (dT rfl (cO rfl rfl (by omega) (by omega)) (dT rfl (by exact aL T rfl rfl rfl rfl rfl (by omega) (by omega)) ?_)));refine dT rfl (by exact aT T rfl rfl (bJ rfl q2) rfl) ?_;refine dT rfl (kC (hc)) (dT rfl (aJ rfl rfl) (dV rfl (jO rfl rfl) (dE ?_))))))|(refine iA 2 rfl rfl rfl (by omega) (by omega) ?_)|refine nZ ?_));all_goals first | (exfalso;omega) | exact ⟨⟨i + 1,by omega,by omega⟩,by dsimp only;omega,⟨[0],rfl,by (repeat (first | exact trivial | refine ⟨rfl,?_⟩)),⟨.inr (aG rfl (by dsimp only;rw [ee]) (bE _)),trivial⟩,by decide,kN⟩⟩
    · obtain rfl : i = b := by omega
      (repeat' (first|refine wS ?_|refine wE ?_|(refine wC rfl ?_ ?_<;>(intro hb;(try simp only [nm] at hb);try (exfalso;omega)))|(refine rg 1 (dQ rfl (vV (aJ rfl rfl) ?_)))|refine nZ ?_));all_goals first | (exfalso;omega) | exact ⟨.inl rfl,[0],_,rfl,rfl,rfl,⟨.inr (aG rfl rfl (bE _)),trivial⟩,by decide,kN⟩ | exact ⟨.inr rfl,[0],_,rfl,rfl,rfl,⟨.inr (aG rfl rfl (bE _)),trivial⟩,by decide,kN⟩
  · obtain rfl : a = b := by omega
    rw [NB hb];refine bK T Tryz.func139 rfl rfl rfl rfl ?_
    (repeat' (first|refine wS ?_|refine wB ?_|(refine iA 0 rfl rfl rfl (by omega) (by omega) ?_)|refine nZ ?_));refine cK (X := Unit) (fun _ => [(0,.sl 0 0 l.length 3),(1,.i a),(2,.i a),(3,pF),(8,.i ((a : Int) + 1))]) (fun _ => [.arr (eY l) 3]) (fun _ => 0) () ⟨[0],rfl,by (repeat (first | exact trivial | refine ⟨rfl,?_⟩)),⟨.inr (aG rfl rfl (bE _)),trivial⟩,by decide,kN⟩ ?_
    intro _;dsimp only
    (repeat' (first|refine wS ?_|refine wE ?_|(refine wC rfl ?_ ?_<;>(intro hb;(try simp only [nm] at hb);try (exfalso;omega)))|(refine rg 1 (dQ rfl (vV (aJ rfl rfl) ?_)))|refine nZ ?_));all_goals first | (exfalso;omega) | exact ⟨.inl rfl,[0],_,rfl,rfl,rfl,⟨.inr (aG rfl rfl (bE _)),trivial⟩,by decide,kN⟩ | exact ⟨.inr rfl,[0],_,rfl,rfl,rfl,⟨.inr (aG rfl rfl (bE _)),trivial⟩,by decide,kN⟩
end Go.Proofs.YtbialaoigijlgaaGreatDoor
namespace Go.Ld
open Go.Ab Go.Proofs.YtbialaoigijlgaaGreatDoor
def CF (P X Q Y R : List W) (k : Nat) : List W := P ++ ((Y.take k ++ X.drop k) ++ (Q ++ ((X.take k ++ Y.drop k) ++ R)))
theorem zA5 (P X Q Y R : List W) : CF P X Q Y R 0 = P ++ (X ++ (Q ++ (Y ++ R))) := by simp [CF]
theorem zA4 {P X Q Y R : List W} {n : Nat} (h1 : X.length = n) (h2 : Y.length = n) : CF P X Q Y R n = P ++ (Y ++ (Q ++ (X ++ R))) := by
  unfold CF;rw [cF (by omega),cF (by omega),cT (by omega),cT (by omega)];simp
theorem zG1 {X1 X2 : List W} {x : W} {k : Nat} (h : X1.length = k) : (X1 ++ x :: X2).take k = X1 ∧ (X1 ++ x :: X2).drop k = x :: X2 ∧ (X1 ++ x :: X2).take (k + 1) = X1 ++ [x] ∧ (X1 ++ x :: X2).drop (k + 1) = X2 := by
  subst h;refine ⟨sV,sY,?_,?_⟩
  · rw [show X1 ++ x :: X2 = (X1 ++ [x]) ++ X2 by simp,show X1.length + 1 = (X1 ++ [x]).length by simp,sV]
  · rw [show X1 ++ x :: X2 = (X1 ++ [x]) ++ X2 by simp,show X1.length + 1 = (X1 ++ [x]).length by simp,sY]
theorem FM {X : List W} {k : Nat} (h : k < X.length) : ∃ X1 x X2,X = X1 ++ x :: X2 ∧ X1.length = k := ⟨X.take k,X[k],X.drop (k + 1),by simp,by simp;omega⟩
theorem MV {P X Q Y R : List W} {n k : Nat} (h1 : X.length = n) (h2 : Y.length = n) (hk : k < n) : ∃ x y,x ∈ X ∧ y ∈ Y ∧ (CF P X Q Y R k)[P.length + k]? = some x ∧ (CF P X Q Y R k)[P.length + n + Q.length + k]? = some y ∧
    ((CF P X Q Y R k).set (P.length + k) y)[P.length + n + Q.length + k]? = some y ∧ ((CF P X Q Y R k).set (P.length + k) y).set (P.length + n + Q.length + k) x = CF P X Q Y R (k + 1) := by
  obtain ⟨X1,x,X2,rfl,hx⟩ := FM (show k < X.length by omega)
  obtain ⟨Y1,y,Y2,rfl,hy⟩ := FM (show k < Y.length by omega)
  obtain ⟨a1,a2,a3,a4⟩ := zG1 (x := x) (X2 := X2) hx;obtain ⟨b1,b2,b3,b4⟩ := zG1 (x := y) (X2 := Y2) hy;simp only [aD,List.length_cons] at h1 h2;have e : CF P (X1 ++ x :: X2) Q (Y1 ++ y :: Y2) R k = (P ++ Y1) ++ x :: (X2 ++ (Q ++ (X1 ++ y :: (Y2 ++ R)))) := by
    unfold CF;rw [a1,a2,b1,b2];simp
  have e1 : (CF P (X1 ++ x :: X2) Q (Y1 ++ y :: Y2) R k).set (P.length + k) y = ((P ++ Y1) ++ y :: (X2 ++ (Q ++ X1))) ++ y :: (Y2 ++ R) := by
    rw [e,mI _ _ _ _ (by simp;omega)];simp
  have l1 : P.length + n + Q.length + k = ((P ++ Y1) ++ y :: (X2 ++ (Q ++ X1))).length := by
    simp only [aD,List.length_cons];omega
  refine ⟨x,y,by simp,by simp,?_,?_,?_,?_⟩
  · rw [e];exact mD _ _ _ (by simp;omega)
  · rw [e,show (P ++ Y1) ++ x :: (X2 ++ (Q ++ (X1 ++ y :: (Y2 ++ R)))) = ((P ++ Y1) ++ x :: (X2 ++ (Q ++ X1))) ++ y :: (Y2 ++ R) by simp]
    exact mD _ _ _ (by simp only [aD,List.length_cons];omega)
  · rw [e1];exact mD _ _ _ l1
  · rw [e1,mI _ _ _ _ l1];unfold CF;rw [a3,a4,b3,b4];simp
end Go.Ld
namespace Go.Proofs.YtbialaoigijlgaaGreatDoor
open Go Go.Ab Go.Ld
attribute [local irreducible] VC AW bV aO
set_option maxHeartbeats 4000000
theorem X6 (P X Q Y R : List W) {n a b N : Nat} (h1 : X.length = n) (h2 : Y.length = n) (ha : a = P.length) (hb : b = P.length + n + Q.length) (hN : N = P.length + (n + (Q.length + (n + R.length)))) (hl : N ≤ 100000) :
    aO Tryz.prog 167 [.sl 0 0 N 3,.i a,.i b,.i n,pF] [.arr (eY (P ++ (X ++ (Q ++ (Y ++ R))))) 3] (.tup []) [.arr (eY (P ++ (Y ++ (Q ++ (X ++ R))))) 3] := by
  refine bK T Tryz.func167 rfl rfl rfl rfl ?_
  (repeat' (first|refine wS ?_|refine wB ?_|(refine rg 0 (aV ?_))|refine nZ ?_));refine cK (X := {k : Nat // k ≤ n}) (fun k => [(0,.sl 0 0 N 3),(1,.i a),(2,.i b),(3,.i n),(4,pF),(10,.i k.1)]) (fun k => [.arr (eY (CF P X Q Y R k.1)) 3]) (fun k => n - k.1) ⟨0,by omega⟩ ⟨[0],rfl,by (repeat (first | exact trivial | refine ⟨rfl,?_⟩)),⟨.inr (aG rfl (by dsimp only;rw [zA5]) (bE _)),trivial⟩,by decide,kN⟩ ?_
  rintro ⟨k,hk⟩;dsimp only;by_cases hlt : k < n
  · obtain ⟨x,y,_,_,p1,p2,p3,p4⟩ := MV (P := P) (Q := Q) (R := R) h1 h2 hlt;have q1 := nS (j := (a : Int) + (k : Int)) p1 (by omega)
    have q2 := nS (j := (b : Int) + (k : Int)) p2 (by omega)
    have t1 := tB (L := CF P X Q Y R k) (j := (a : Int) + (k : Int)) (i := P.length + k) (x := y) (by omega)
    have q3 := nS (j := (b : Int) + (k : Int)) p3 (by omega)
    have t2 := tB (L := (CF P X Q Y R k).set (P.length + k) y) (j := (b : Int) + (k : Int)) (i := P.length + n + Q.length + k) (x := x) (by omega)
    rw [← t1] at q3 t2;rw [p4] at t2;clear p1 p2 p3 p4 t1;generalize CF P X Q Y R k = L at *
    (repeat' (first|refine wS ?_|refine wB ?_|refine wK ?_|(refine wC rfl ?_ ?_<;>(intro hb;(try simp only [nm] at hb);try (exfalso;omega)))|(refine rg 1 (dQ rfl (vV (aJ rfl rfl) ?_)))|(refine mN (id := 3) 38 [[],[],[],[1,2],[],[],[],[5,6],[],[],[],[9,10],rM 8 4,rM 8 5,[],[],[],[15,16],rM 14 4,rM 14 5,[0,1,2,3,8,9,10,11,12,13,14,15,16,17,18,19],[0,1,2,3,8,9,10,11,12,13,14,15,16,17,18,19,20]] (rM 16 21) [[],[16],[16,17],[16],rM 16 4,rM 16 5,rM 16 6,rM 16 5,rM 16 8,rM 16 9,rM 16 10,rM 16 9,rM 16 8,rM 16 8,rM 16 14,rM 16 15,rM 16 16,rM 16 15,rM 16 14,rM 16 14,rM 20 4,rM 20 4] [(21,0)] cN rfl (by decide +kernel) (cM rfl rfl rfl rfl (by exact bU rfl) ?_);refine cM rfl rfl rfl rfl (by exact bU rfl) ?_;refine cM rfl rfl rfl rfl (by exact bU rfl) ?_;refine cM rfl rfl rfl rfl (by exact bS rfl rfl (by omega) (by omega)) ?_;refine cM rfl rfl rfl rfl (by exact bU rfl) ?_;refine cM rfl rfl rfl rfl (by exact bU rfl) ?_;refine cM rfl rfl rfl rfl (by exact bU rfl) ?_;refine cM rfl rfl rfl rfl (by exact bS rfl rfl (by omega) (by omega)) ?_;refine cM rfl rfl rfl rfl (by exact bU rfl) ?_;refine cM rfl rfl rfl rfl (by exact bU rfl) ?_;refine cM rfl rfl rfl rfl (by exact bU rfl) ?_;refine cM rfl rfl rfl rfl (by exact bS rfl rfl (by omega) (by omega)) ?_;refine cM rfl rfl rfl rfl (by exact aL T rfl rfl rfl rfl rfl (by omega) (by omega)) ?_;refine cM rfl rfl rfl rfl (by exact aT T rfl rfl (bJ rfl q2) rfl) ?_;refine cM rfl rfl rfl rfl (by exact bU rfl) ?_;refine cM rfl rfl rfl rfl (by exact bU rfl) ?_;refine cM rfl rfl rfl rfl (by exact bU rfl) ?_;refine cM rfl rfl rfl rfl (by exact bS rfl rfl (by omega) (by omega)) ?_;refine cM rfl rfl rfl rfl (by exact aL T rfl rfl rfl rfl rfl (by omega) (by omega)) ?_;refine cM rfl rfl rfl rfl (by exact aT T rfl rfl (bJ rfl q1) rfl) ?_;refine cM rfl rfl rfl rfl (by exact aL T rfl rfl rfl rfl rfl (by omega) (by omega)) ?_;refine uA rfl rfl rfl rfl (aN rfl) T rfl rfl rfl rfl rfl rfl (by decide) (tD rfl q1 rfl) ?_;refine pT rfl rfl rfl (by exact rfl) ?_;refine vV (by exact aL T rfl rfl rfl rfl rfl (by omega) (by omega)) ?_;refine aQ T rfl rfl rfl rfl rfl rfl (by decide) (lP rfl q3 rfl) ?_)|(refine iA 2 rfl rfl rfl (by omega) (by omega) ?_)|refine nZ ?_));all_goals first | (exfalso;omega) | exact ⟨⟨k + 1,by omega⟩,by dsimp only;omega,⟨[0],rfl,by (repeat (first | exact trivial | refine ⟨rfl,?_⟩)),⟨.inr (aG rfl (by dsimp only;rw [← t2];try rfl) (bE _)),trivial⟩,by decide,kN⟩⟩
  · obtain rfl : k = n := by omega
    have e := zA4 (P := P) (Q := Q) (R := R) h1 h2
    (repeat' (first|refine wS ?_|refine wE ?_|(refine wC rfl ?_ ?_<;>(intro hb;(try simp only [nm] at hb);try (exfalso;omega)))|(refine rg 1 (dQ rfl (vV (aJ rfl rfl) ?_)))|refine nZ ?_));all_goals first | (exfalso;omega) | exact ⟨.inl rfl,[0],_,rfl,rfl,rfl,⟨.inr (aG rfl (by rw [e]) (bE _)),trivial⟩,by decide,kN⟩ | exact ⟨.inr rfl,[0],_,rfl,rfl,rfl,⟨.inr (aG rfl (by rw [e]) (bE _)),trivial⟩,by decide,kN⟩
theorem NJ (P X Y R : List W) {a m b N : Nat} (ha : a = P.length) (hm : m = P.length + X.length) (hb : b = P.length + X.length + Y.length) (hN : N = b + R.length) (hl : N ≤ 100000) (hX : 0 < X.length) (hY : 0 < Y.length) :
    aO Tryz.prog 158 [.sl 0 0 N 3,.i a,.i m,.i b,pF] [.arr (eY (P ++ (X ++ (Y ++ R)))) 3] (.tup []) [.arr (eY (P ++ (Y ++ (X ++ R)))) 3] := by
  refine bK T Tryz.func158 rfl rfl rfl rfl ?_
  (repeat' (first|refine wS ?_|refine wB ?_|(refine rg 0 (dQ rfl (vV (cO rfl rfl (by omega) (by omega)) (aV ?_))))|(refine rg 1 (dQ rfl (vV (cO rfl rfl (by omega) (by omega)) (aV ?_))))|refine nZ ?_));refine cK (X := {q : List W × List W × List W × List W // q.1 ++ (q.2.2.1 ++ (q.2.1 ++ q.2.2.2)) = P ++ (Y ++ (X ++ R)) ∧ q.1.length + q.2.1.length = m ∧ m + q.2.2.1.length + q.2.2.2.length = N ∧ 0 < q.2.1.length ∧ 0 < q.2.2.1.length})
    (fun q => [(0,.sl 0 0 N 3),(1,.i a),(2,.i m),(3,.i b),(4,pF),(10,.i q.1.2.1.length),(11,.i q.1.2.2.1.length)]) (fun q => [.arr (eY (q.1.1 ++ (q.1.2.1 ++ (q.1.2.2.1 ++ q.1.2.2.2)))) 3]) (fun q => q.1.2.1.length + q.1.2.2.1.length) ⟨(P,X,Y,R),by dsimp only;exact ⟨rfl,by omega,by omega,hX,hY⟩⟩
    ⟨[0],rfl,⟨rfl,rfl,rfl,rfl,rfl,by dsimp only;rw [show (X.length : Int) = (m : Int) - (a : Int) by omega];rfl,by dsimp only;rw [show (Y.length : Int) = (b : Int) - (m : Int) by omega];rfl,trivial⟩,⟨.inr (aG rfl rfl (bE _)),trivial⟩,by decide,kN⟩ ?_
  rintro ⟨⟨P1,X1,Y1,R1⟩,h1,h2,h3,h4,h5⟩;dsimp only at h1 h2 h3 h4 h5 ⊢;have hsb : ((P1.length : Nat) : Int) = (m : Int) - (X1.length : Int) := by omega
  by_cases hij : X1.length = Y1.length
  · have hc := X6 P1 X1 [] Y1 R1 (n := X1.length) (a := P1.length) (b := m) (N := N) rfl hij.symm rfl (by simp;omega) (by simp;omega) hl
    rw [List.nil_append,List.nil_append,hsb,h1] at hc
    (repeat' (first|refine wS ?_|refine wE ?_|refine wU ?_|(refine rg 2 (dQ rfl (vV (oW rfl rfl (by omega)) ?_)))|(refine rg 8 (dQ rfl (mW rfl (vV (cO rfl rfl (by omega) (by omega)) (dQ rfl (mW rfl (eJ [0] rfl rfl (hc) rfl rfl (by decide) ⟨.inr (aG rfl rfl (bE _)),trivial⟩ (by simp) rfl ?_)))))))|refine nZ ?_));all_goals first | (exfalso;omega) | exact ⟨.inl rfl,[0],_,rfl,rfl,rfl,⟨.inr (aG rfl (cE _ (bE _)) (bE _)),trivial⟩,by decide,kN⟩ | exact ⟨.inr rfl,[0],_,rfl,rfl,rfl,⟨.inr (aG rfl (cE _ (bE _)) (bE _)),trivial⟩,by decide,kN⟩
  · by_cases hgt : Y1.length < X1.length
    · -- a part of the left side goes to the end
      obtain ⟨A,B,rfl,hA⟩ : ∃ A B,X1 = A ++ B ∧ A.length = Y1.length := ⟨X1.take Y1.length,X1.drop Y1.length,by simp,by simp;omega⟩
      rw [aD] at *;have hc := X6 P1 A B Y1 R1 (n := Y1.length) (a := P1.length) (b := m) (N := N) hA rfl rfl (by omega) (by omega) hl
      rw [hsb] at hc;rw [bD]
      (repeat' (first|refine wS ?_|refine wB ?_|refine wK ?_|refine wT ?_|(refine rg 2 (dQ rfl (vV (rD rfl rfl (by omega)) ?_)))|(refine rg 3 (dQ rfl (vV (IR rfl rfl (by omega)) ?_)))|(refine rg 4 (dQ rfl (mW rfl (vV (cO rfl rfl (by omega) (by omega)) (dQ rfl (mW rfl (eJ [0] rfl rfl (hc) rfl rfl (by decide) ⟨.inr (aG rfl rfl (bE _)),trivial⟩ (by simp) rfl ?_)))))))|(refine rg 5 (dQ rfl (vV (cO rfl rfl (by omega) (by omega)) (aV ?_))))|refine nZ ?_));all_goals first | (exfalso;omega) | skip
      refine ⟨⟨(P1 ++ Y1,B,A,R1),by dsimp only;refine ⟨by rw [← h1];simp,?_,?_,?_,?_⟩ <;> (try simp only [aD]) <;> omega⟩,by dsimp only;omega,⟨[0],rfl,⟨rfl,rfl,rfl,rfl,rfl,by dsimp only;rw [show (B.length : Int) = ((A.length + B.length : Nat) : Int) - (Y1.length : Int) by omega];rfl,by dsimp only;rw [hA];rfl,trivial⟩,⟨.inr (aG rfl (by rw [cE _ (bE _)];simp) (bE _)),trivial⟩,by decide,kN⟩⟩
    · -- a part of the right side goes to the front
      obtain ⟨A,B,rfl,hA⟩ : ∃ A B,Y1 = A ++ B ∧ B.length = X1.length := ⟨Y1.take (Y1.length - X1.length),Y1.drop (Y1.length - X1.length),by simp,by simp;omega⟩
      rw [aD] at *;have hc := X6 P1 X1 A B R1 (n := X1.length) (a := P1.length) (b := m + A.length) (N := N) rfl hA rfl (by omega) (by omega) hl
      rw [hsb,show ((m + A.length : Nat) : Int) = (m : Int) + ((A.length + B.length : Nat) : Int) - (X1.length : Int) by omega] at hc
      rw [bD]
      (repeat' (first|refine wS ?_|refine wB ?_|refine wK ?_|refine wT ?_|refine wU ?_|(refine rg 2 (dQ rfl (vV (rD rfl rfl (by omega)) ?_)))|(refine rg 3 (dQ rfl (vV (rF rfl rfl (by omega)) ?_)))|(refine rg 6 (dQ rfl (mW rfl (vV (cO rfl rfl (by omega) (by omega)) (dQ rfl (vV (bS rfl rfl (by omega) (by omega)) (mW rfl (vV (cO rfl rfl (by omega) (by omega)) (dQ rfl (eJ [0] rfl rfl (hc) rfl rfl (by decide) ⟨.inr (aG rfl rfl (bE _)),trivial⟩ (by simp) rfl ?_))))))))))|(refine rg 7 (dQ rfl (vV (cO rfl rfl (by omega) (by omega)) (aV ?_))))|refine nZ ?_));all_goals first | (exfalso;omega) | skip
      refine ⟨⟨(P1,B,A,X1 ++ R1),by dsimp only;refine ⟨by rw [← h1];simp,?_,?_,?_,?_⟩ <;> (try simp only [aD]) <;> omega⟩,by dsimp only;omega,⟨[0],rfl,⟨rfl,rfl,rfl,rfl,rfl,by dsimp only;rw [hA];rfl,by dsimp only;rw [show (A.length : Int) = ((A.length + B.length : Nat) : Int) - (X1.length : Int) by omega];rfl,trivial⟩,⟨.inr (aG rfl (by rw [cE _ (bE _)]) (bE _)),trivial⟩,by decide,kN⟩⟩
end Go.Proofs.YtbialaoigijlgaaGreatDoor
namespace Go.Ld
open Go.Ab Go.Proofs.YtbialaoigijlgaaGreatDoor
theorem JL {V : List W} {i : Nat} {z : W} (h0 : 0 < i) (h : V[i - 1]? = some z) : V.take i = V.take (i - 1) ++ [z] := by
  conv => lhs;rw [show i = (i - 1) + 1 by omega]
  rw [SE,h];rfl
theorem VL {V : List W} {i : Nat} {z : W} (h : V[i]? = some z) : V.drop i = z :: V.drop (i + 1) := by
  obtain ⟨hi,e⟩ := aA.1 h;rw [aS hi,e]
theorem HM {V : List W} {i : Nat} (hu : Up V) {x y z : W} (h0 : 0 < i) (h : V[i - 1]? = some z) (hy : y ∈ V.take i) (hz : eH z x ≤ 0) : eH y x ≤ 0 := by
  have h1 : Up (V.take i) := hu.sublist (List.take_sublist _ _);rw [JL h0 h] at h1 hy;exact iJ.le_tr (HN h1 y hy) hz
theorem HO {V : List W} {i : Nat} (hu : Up V) {x y z : W} (h : V[i]? = some z) (hy : y ∈ V.drop i) (hz : eH x z ≤ 0) : eH x y ≤ 0 := by
  have h1 : Up (V.drop i) := hu.sublist (List.drop_sublist _ _);rw [VL h] at h1 hy;exact iJ.le_tr hz (SR h1 y hy)
theorem pP {V : List W} {i : Nat} {y : W} (h : y ∈ V.take i) (hi : i ≤ V.length) : 0 < i ∧ ∃ z,V[i - 1]? = some z := by
  have : 0 < i := by
    rcases A9 i with rfl | h0
    · simp at h
    · exact h0
  exact ⟨this,_,aB (by omega)⟩
theorem rB {V : List W} {i : Nat} {y : W} (h : y ∈ V.drop i) : ∃ z,V[i]? = some z := by
  have : i < V.length := by
    rcases gO i V.length with h0 | h0
    · exact h0
    · rw [cT h0] at h;cases h
  exact ⟨_,aB this⟩
theorem XW {u : W} {V : List W} {i : Nat} (hi : i ≤ V.length) (hu : Up V) (h1 : ∀ z,0 < i → V[i - 1]? = some z → eH z u < 0) (h2 : ∀ z,V[i]? = some z → ¬ eH z u < 0) : dW eH ([u] ++ V) = V.take i ++ u :: V.drop i := by
  refine zA ?_ (FJ (by rw [bG];exact hu) (fun y hy => ?_) (fun y hy => ?_))
  · refine List.perm_middle.trans ?_;rw [bG];exact .refl _
  · obtain ⟨h0,z,hz⟩ := pP hy hi;exact HM hu h0 hz hy (xI (h1 z h0 hz))
  · obtain ⟨z,hz⟩ := rB hy;exact HO hu hz hy (zE9 (h2 z hz))
theorem XV {v : W} {U : List W} {i : Nat} (hi : i ≤ U.length) (hu : Up U) (h1 : ∀ z,0 < i → U[i - 1]? = some z → ¬ eH v z < 0) (h2 : ∀ z,U[i]? = some z → eH v z < 0) : dW eH (U ++ [v]) = U.take i ++ v :: U.drop i := by
  refine zA ?_ (FJ (by rw [bG];exact hu) (fun y hy => ?_) (fun y hy => ?_))
  · refine List.perm_middle.trans ?_;rw [bG];exact (B2 _ _).symm
  · obtain ⟨h0,z,hz⟩ := pP hy hi;exact HM hu h0 hz hy (zE9 (h1 z h0 hz))
  · obtain ⟨z,hz⟩ := rB hy;exact HO hu hz hy (xI (h2 z hz))
theorem zD1 {U V : List W} {i e : Nat} (hU : Up U) (hV : Up V) (hi : i ≤ U.length) (he : e ≤ V.length) (h1 : ∀ x y,0 < i → U[i - 1]? = some x → V[e]? = some y → ¬ eH y x < 0) (h2 : ∀ x y,0 < e → U[i]? = some x → V[e - 1]? = some y → eH y x < 0) :
    dW eH (U ++ V) = dW eH (U.take i ++ V.take e) ++ dW eH (U.drop i ++ V.drop e) := by
  have hU1 : Up (U.take i ++ U.drop i) := by rw [bG];exact hU
  have hV1 : Up (V.take e ++ V.drop e) := by rw [bG];exact hV
  have cU := (eU.1 hU1).2.2;have cV := (eU.1 hV1).2.2;refine zA ?_ (XE (kD iJ _) (kD iJ _) fun x y hx hy => ?_)
  · refine ((dU _ _).append (dU _ _)).trans ?_;have e1 : (U.take i ++ V.take e ++ (U.drop i ++ V.drop e)).Perm (U.take i ++ U.drop i ++ (V.take e ++ V.drop e)) := by
      rw [bD,bD];refine List.Perm.append_left _ ?_;rw [← bD,← bD];exact List.perm_append_comm.append_right _
    rw [bG,bG] at e1;exact e1
  · have hx := (dU _ _).mem_iff.1 hx;have hy := (dU _ _).mem_iff.1 hy;rcases bQ.1 hx with hx | hx <;> rcases bQ.1 hy with hy | hy
    · exact cU x hx y hy
    · obtain ⟨h0,z,hz⟩ := pP hx hi;obtain ⟨q,hq⟩ := rB hy;exact HO hV hq hy (HM hU h0 hz hx (zE9 (h1 z q h0 hz hq)))
    · obtain ⟨h0,z,hz⟩ := pP hx he;obtain ⟨q,hq⟩ := rB hy;exact HO hU hq hy (HM hV h0 hz hx (xI (h2 q z h0 hq hz)))
    · exact cV x hx y hy
def B4 (P V : List W) (u : W) (R : List W) (k : Nat) : List W := (P ++ V.take k) ++ u :: (V.drop k ++ R)
theorem CA {P V : List W} {u : W} {R : List W} {k : Nat} (h : k < V.length) : ∃ y,(B4 P V u R k)[P.length + k]? = some u ∧ (B4 P V u R k)[P.length + k + 1]? = some y ∧
    ((B4 P V u R k).set (P.length + k) y)[P.length + k + 1]? = some y ∧ ((B4 P V u R k).set (P.length + k) y).set (P.length + k + 1) u = B4 P V u R (k + 1) ∧
    (B4 P V u R (k + 1))[P.length + k + 1]? = some u ∧ (B4 P V u R (k + 1))[P.length + k]? = some y ∧ ((B4 P V u R (k + 1)).set (P.length + k + 1) y)[P.length + k]? = some y ∧ ((B4 P V u R (k + 1)).set (P.length + k + 1) y).set (P.length + k) u = B4 P V u R k := by
  obtain ⟨V1,y,V2,rfl,hk⟩ := FM h;obtain ⟨a1,a2,a3,a4⟩ := zG1 (x := y) (X2 := V2) hk;have e : B4 P (V1 ++ y :: V2) u R k = (P ++ V1) ++ u :: y :: (V2 ++ R) := by unfold B4;rw [a1,a2];simp
  have e' : B4 P (V1 ++ y :: V2) u R (k + 1) = (P ++ V1) ++ y :: u :: (V2 ++ R) := by unfold B4;rw [a3,a4];simp
  have l0 : P.length + k = (P ++ V1).length := by simp;omega
  have s1 : ∀ (p q : W),((P ++ V1) ++ p :: q :: (V2 ++ R))[P.length + k + 1]? = some q := fun p q => by
    rw [show (P ++ V1) ++ p :: q :: (V2 ++ R) = ((P ++ V1) ++ [p]) ++ q :: (V2 ++ R) by simp];exact mD _ _ _ (by simp;omega)
  have s2 : ∀ (p q z : W),((P ++ V1) ++ p :: q :: (V2 ++ R)).set (P.length + k + 1) z = (P ++ V1) ++ p :: z :: (V2 ++ R) := fun p q z => by
    rw [show (P ++ V1) ++ p :: q :: (V2 ++ R) = ((P ++ V1) ++ [p]) ++ q :: (V2 ++ R) by simp,mI _ _ _ _ (by simp;omega)];simp
  rw [e,e'];refine ⟨y,mD _ _ _ l0,s1 _ _,?_,?_,s1 _ _,mD _ _ _ l0,?_,?_⟩
  · rw [mI _ _ _ _ l0];exact s1 _ _
  · rw [mI _ _ _ _ l0,s2]
  · rw [s2];exact mD _ _ _ l0
  · rw [s2,mI _ _ _ _ l0]
end Go.Ld
