/-
  Texts of the logic and of the layer,in one module (part 4).
-/
import Derived.Test.YtmmkhmilpeodnaaGreatK3
set_option linter.unusedVariables false
set_option linter.unusedSimpArgs false
set_option linter.unnecessarySimpa false
namespace Go.Proofs.YtmmkhmilpeodnaaGreat
open Go Go.Ab
attribute [local irreducible] VC AW cF aR
set_option maxHeartbeats 4000000
theorem bJ (l : List Int) : ∀ e,e ∈ ints l → AV.idfL e = true := by
  intro e he;obtain ⟨i,_,rfl⟩ := bI.1 he;rfl
theorem oP (l : List BX) : ∀ e,e ∈ eB l → AV.idfL e = true := by
  intro e he;obtain ⟨i,_,rfl⟩ := bI.1 he;rfl
theorem zQ (l : List Int) (h0 : 0 < l.length) (hl : l.length ≤ 1000) : aR Tryz.prog 68 [.rowE (ints l) 1] [] (.sl 0 0 l.length 1) [.arr (ints l) 1] := by
  refine bQ T Tryz.func68 rfl rfl rfl rfl ?_
  repeat' (first|refine wS ?_|refine wK ?_|refine wR ?_|refine wU ?_|(refine rg 0 (aV ?_))|(refine rg 1 (mW rfl (vV (D3 T rfl rfl rfl (by simpa using h0)) ?_)))|(refine rg 3 (bS (by exact bB T rfl rfl (by decide) (by decide) rfl rfl rfl) rfl ?_);refine mW rfl (gE T rfl rfl rfl rfl rfl rfl (by simp) (kV.row (cH l)) (wM l) (by simp;omega) (by simp;omega) rfl ?_);refine aV ?_)|refine nZ ?_)
  simp only [List.take_nil,List.drop_nil,List.nil_append,Nat.zero_add,bC,JI,jU,kU];exact ⟨.inl rfl,[1],_,rfl,rfl,rfl,⟨.inr (aE rfl rfl (bJ l)),trivial⟩,by decide,F2⟩
theorem xA (l : List BX) (h0 : 0 < l.length) (hl : l.length ≤ 1000) : aR Tryz.prog 39 [.rowE (eB l) 3] [] (.sl 0 0 l.length 3) [.arr (eB l) 3] := by
  refine bQ T Tryz.func39 rfl rfl rfl rfl ?_
  repeat' (first|refine wS ?_|refine wK ?_|refine wR ?_|refine wU ?_|(refine rg 0 (aV ?_))|(refine rg 1 (mW rfl (vV (D3 T rfl rfl rfl (by simpa using h0)) ?_)))|(refine rg 3 (bS (by exact bB T rfl rfl (by decide) (by decide) rfl rfl rfl) rfl ?_);refine mW rfl (gE T rfl rfl rfl rfl rfl rfl (by simp) (kV.row (jN l)) (OL l) (by simp;omega) (by simp;omega) rfl ?_);refine aV ?_)|refine nZ ?_)
  simp only [List.take_nil,List.drop_nil,List.nil_append,Nat.zero_add,bC,JI,jU,kU];exact ⟨.inl rfl,[1],_,rfl,rfl,rfl,⟨.inr (aE rfl rfl (oP l)),trivial⟩,by decide,F2⟩
section
variable {ks : List KD} {ls : List LT} {ps : List Int} {bs : List BX} {m st er sl k a b n id lot ct ta done : Int} {ids : List Int} {M : Int}
theorem GP (f : VG ks ls ps bs) (ha : 0 ≤ a) (hid : ps[a.toNat]? = some id) (hbx : bs[id.toNat]? = some (lot, ct, ta)) (hi0 : 0 ≤ id) {ok cn : Bool} (hno : ok = false ∨ ok = true ∧ cn = false)
    (hag : aR Tryz.prog 29 [gW m st er sl,.rowE (gJ ks) 2,.rowE (jX ls) 3,.rowE (ints ps) 1,.rowE (eB bs) 3,nK k a b n ids] [] (.tup [.i M,.b ok]) [])
    (hcan : aR Tryz.prog 73 [gW m st er sl,.agg [.i lot,.i ct,.i ta],nK k a b n ids,.i done] [] (.b cn) []) :
    aR Tryz.prog 30 [gW m st er sl,.rowE (gJ ks) 2,.rowE (jX ls) 3,.rowE (ints ps) 1,.rowE (eB bs) 3,nK k a b n ids,.i done] [] (.tup [.nils,.nils,.b false]) [] := by
  have hc1 : (ints ps)[a.toNat]? = some [AV.i id] := by simp [hid]
  have hc2 : (eB bs)[id.toNat]? = some [AV.i lot,AV.i ct,AV.i ta] := by simp [hbx]
  rcases hno with rfl | ⟨rfl,rfl⟩
  all_goals
    refine bQ T Tryz.func30 rfl rfl rfl rfl ?_
    (repeat' (first|refine wS ?_|refine wR ?_|refine wT ?_|(refine rg 0 (bS (cE rfl rfl) rfl (bS (cE rfl rfl) rfl (ZT rfl (aV ?_)))))|(refine rg 1 (mW rfl (iL T rfl (vV (ix T rfl (by omega) (cH ps) hc1) (lW T rfl (aV ?_))))))|(refine rg 2 (lW T rfl (dX rfl (dX rfl (lW T rfl (vV (kC (hag)) (mW rfl (xW rfl (xW rfl (pT ?_))))))))))|(refine bL (id := 3) 95 zQ4 (rM 37 13) zQ5 cC rfl (by decide +kernel) (dN rfl (dV rfl (dH rfl) (dM ?_)));(all_goals first|(refine tL T ?_)|(refine dG ?_));(all_goals first|(refine tM ?_)|(refine dG ?_));(all_goals first|(refine tM ?_)|(refine dG ?_));(all_goals first|(refine dT rfl (ix T rfl (by omega) (jN bs) hc2) ?_)|(refine dG ?_));(all_goals first|(refine tL T ?_)|(refine dG ?_));(all_goals first|(refine tL T ?_)|(refine dG ?_));(all_goals first|(refine tM ?_)|(refine dG ?_));(all_goals first|(refine dT rfl (kC (hcan)) ?_)|(refine dG ?_));(all_goals first|(refine dT rfl (dH rfl) ?_)|(refine dG ?_));(all_goals (refine dV rfl (by first|exact jF rfl rfl|exact fX rfl rfl) ?_;refine dE ?_)))|(refine rg 4 (ZT rfl (aV ?_)))|refine nZ ?_));exact rQ
theorem IY (f : VG ks ls ps bs) (ha : 0 ≤ a) (hid : ps[a.toNat]? = some id) (hbx : bs[id.toNat]? = some (lot, ct, ta)) (hi0 : 0 ≤ id) (hk2 : k ≠ 2) (hk4 : ¬ (k = 4 ∧ done = 1))
    (hag : aR Tryz.prog 29 [gW m st er sl,.rowE (gJ ks) 2,.rowE (jX ls) 3,.rowE (ints ps) 1,.rowE (eB bs) 3,nK k a b n ids] [] (.tup [.i M,.b true]) [])
    (hcan : aR Tryz.prog 73 [gW m st er sl,.agg [.i lot,.i ct,.i ta],nK k a b n ids,.i done] [] (.b true) []) :
    aR Tryz.prog 30 [gW m st er sl,.rowE (gJ ks) 2,.rowE (jX ls) 3,.rowE (ints ps) 1,.rowE (eB bs) 3,nK k a b n ids,.i done] [] (.tup [.sl 0 0 ps.length 1,.sl 1 0 bs.length 3,.b true]) [.arr (ints ps) 1,.arr (eB bs) 3] := by
  have hc1 : (ints ps)[a.toNat]? = some [AV.i id] := by simp [hid]
  have hc2 : (eB bs)[id.toNat]? = some [AV.i lot,AV.i ct,AV.i ta] := by simp [hbx]
  have hn1 := f.n1;have hn8 := f.n8;have hle := f.len;have cl1 := zQ ps (by omega) (by omega)
  have cl2 := xA bs (by omega) (by omega)
  refine bQ T Tryz.func30 rfl rfl rfl rfl ?_
  (repeat' (first|refine wS ?_|refine wB ?_|refine wK ?_|refine wR ?_|refine wU ?_|(refine wC rfl ?_ ?_<;>(intro hb;(try simp only [nm] at hb);try (exfalso;omega)))|(refine rg 0 (bS (cE rfl rfl) rfl (bS (cE rfl rfl) rfl (ZT rfl (aV ?_)))))|(refine rg 1 (mW rfl (iL T rfl (vV (ix T rfl (by omega) (cH ps) hc1) (lW T rfl (aV ?_))))))|(refine rg 2 (lW T rfl (dX rfl (dX rfl (lW T rfl (vV (kC (hag)) (mW rfl (xW rfl (xW rfl (pT ?_))))))))))|(refine bL (id := 3) 95 zQ4 (rM 37 13) zQ5 cC rfl (by decide +kernel) (dN rfl (dV rfl (dH rfl) (dN rfl (tO T rfl (tN rfl (tN rfl (dT rfl (ix T rfl (by omega) (jN bs) hc2) (tO T rfl (tL T ?_)))))))));refine tN rfl (dT rfl (kC (hcan)) (dT rfl (dH rfl) (dV rfl (fX rfl rfl) (dE ?_)))))|(refine rg 5 (mW rfl (bS (by exact fK rfl rfl cl1 (.inr ⟨rfl,rfl,by simp⟩)) rfl ?_));refine mW rfl (bS (by exact fK rfl rfl cl2 (.inr ⟨rfl,rfl,by simp⟩)) rfl ?_);refine pT ?_)|(refine rg 6 (iL T rfl (vV (dJ rfl rfl) (aV ?_))))|(refine rg 8 (iL T rfl (vV (dJ rfl rfl) (mV ?_)));refine cN rfl rfl ?_ ?_<;>(intro hb;rw [hb];(try simp only [nm] at hb);try (exfalso;omega));(all_goals first|(refine gT (mW rfl (gT (vV (dJ rfl rfl) ?_))))|(iterate 2 refine gF ?_));(all_goals (refine pW rfl (aV ?_))))|(refine rg 10 (dX rfl (ZT rfl (aV ?_))))|refine nZ ?_));all_goals exact ⟨.inl rfl,[2,3],_,rfl,rfl,rfl,⟨.inr (aE rfl (bU _ (bJ ps)) (bJ ps)),.inr (aE rfl (bU _ (oP bs)) (oP bs)),trivial⟩,by decide,F2⟩
theorem IZ (f : VG ks ls ps bs) (ha : 0 ≤ a) (hid : ps[a.toNat]? = some id) (hbx : bs[id.toNat]? = some (lot, ct, ta)) (hi0 : 0 ≤ id) (hk2 : k = 2) (hd : 0 ≤ done ∧ done ≤ ct)
    (hag : aR Tryz.prog 29 [gW m st er sl,.rowE (gJ ks) 2,.rowE (jX ls) 3,.rowE (ints ps) 1,.rowE (eB bs) 3,nK k a b n ids] [] (.tup [.i M,.b true]) [])
    (hcan : aR Tryz.prog 73 [gW m st er sl,.agg [.i lot,.i ct,.i ta],nK k a b n ids,.i done] [] (.b true) []) :
    aR Tryz.prog 30 [gW m st er sl,.rowE (gJ ks) 2,.rowE (jX ls) 3,.rowE (ints ps) 1,.rowE (eB bs) 3,nK k a b n ids,.i done] [] (.tup [.sl 0 0 ps.length 1,.sl 1 0 bs.length 3,.b true]) [.arr (ints ps) 1,.arr (eB (bs.set id.toNat (lot,ct - done,ta))) 3] := by
  have hc1 : (ints ps)[a.toNat]? = some [AV.i id] := by simp [hid]
  have hc2 : (eB bs)[id.toNat]? = some [AV.i lot,AV.i ct,AV.i ta] := by simp [hbx]
  obtain ⟨hy1,hy2⟩ := aB.1 hbx;have hb0 := f.b _ hy1;rw [hy2] at hb0;simp only at hb0;have hbl : (eB bs).length = bs.length := by simp
  have hB : ∀ θ,((eB bs).map (AV.mapL θ))[0 + id.toNat]? = some [AV.i lot,AV.i ct,AV.i ta] := fun θ => by rw [bU θ (oP bs),Nat.zero_add];exact hc2
  have hS : ∀ θ,((eB bs).map (AV.mapL θ)).set (0 + id.toNat) [AV.i lot,AV.i (ct - done),AV.i ta] = eB (bs.set id.toNat (lot,ct - done,ta)) := fun θ => by rw [bU θ (oP bs),Nat.zero_add];simp [qG]
  have hn1 := f.n1;have hn8 := f.n8;have hle := f.len;have cl1 := zQ ps (by omega) (by omega)
  have cl2 := xA bs (by omega) (by omega)
  refine bQ T Tryz.func30 rfl rfl rfl rfl ?_
  (repeat' (first|refine wS ?_|refine wB ?_|refine wK ?_|refine wR ?_|refine wU ?_|(refine wC rfl ?_ ?_<;>(intro hb;(try simp only [nm] at hb);try (exfalso;omega)))|(refine rg 0 (bS (cE rfl rfl) rfl (bS (cE rfl rfl) rfl (ZT rfl (aV ?_)))))|(refine rg 1 (mW rfl (fW T rfl (vV (aQ T rfl rfl rfl rfl) (vV (ix T rfl (by omega) (cH ps) hc1) (vV (aQ T rfl rfl rfl rfl) (aV ?_)))))))|(refine rg 2 (vV (aQ T rfl rfl rfl rfl) (dX rfl (dX rfl (vV (aQ T rfl rfl rfl rfl) (vV (kC (hag)) (mW rfl (xW rfl (xW rfl (pT ?_))))))))))|(refine bL (id := 3) 95 zQ4 (rM 37 13) zQ5 cC rfl (by decide +kernel) (dN rfl (dV rfl (dH rfl) (dN rfl (tO T rfl (tN rfl (tN rfl (dT rfl (ix T rfl (by omega) (jN bs) hc2) (tO T rfl (tL T ?_)))))))));refine tN rfl (dT rfl (kC (hcan)) (dT rfl (dH rfl) (dV rfl (fX rfl rfl) (dE ?_)))))|(refine rg 5 (mW rfl (bS (by exact fK rfl rfl cl1 (.inr ⟨rfl,rfl,by simp⟩)) rfl ?_));refine mW rfl (bS (by exact fK rfl rfl cl2 (.inr ⟨rfl,rfl,by simp⟩)) rfl ?_);refine pT ?_)|(refine rg 6 (fW T rfl (vV (aQ T rfl rfl rfl rfl) (vV (dJ rfl rfl) (aV ?_)))))|(refine rg 7 (dX rfl (vV (by exact aK T rfl rfl rfl rfl rfl (by omega) (by omega)) ?_));refine fW T rfl (vV (by exact aQ T rfl rfl (bG rfl (hB _)) rfl) ?_);refine mW rfl (vV (cM rfl rfl (by omega) (by omega)) (vV (by exact aK T rfl rfl rfl rfl rfl (by omega) (by omega)) ?_));refine fW T rfl (aT T rfl rfl rfl rfl rfl rfl (by decide) (lC rfl (hB _) rfl) ?_))|(refine rg 10 (dX rfl (ZT rfl (aV ?_))))|refine nZ ?_));all_goals first | (exfalso;omega) | exact ⟨.inl rfl,[2,3],_,rfl,rfl,rfl,⟨.inr (aE rfl (bU _ (bJ ps)) (bJ ps)),.inr (aE rfl (hS _) (oP _)),trivial⟩,by decide,F2⟩
end
def xL (m st er sl : Int) : Bool := decide (0 ≤ min (min (min m st) er) sl) && decide (max (max (max m st) er) sl ≤ 1048576)
theorem PW (m st er sl : Int) : aR Tryz.prog 41 [gW m st er sl] [] (.b (xL m st er sl)) [] := by
  refine bQ T Tryz.func41 rfl rfl rfl rfl ?_
  (repeat' (first|refine wS ?_|refine wR ?_|(refine rg 0 (bS (cE rfl rfl) rfl (aV ?_)))|(refine rg 1 (iL T rfl (iL T rfl (iL T rfl (iL T rfl (vV (XR rfl rfl rfl rfl) (vV (jP rfl rfl) (mV ?_)))))));refine cN rfl rfl ?_ ?_<;>(intro hb;rw [hb];(try simp only [nm] at hb);try (exfalso;omega));(all_goals first|(refine gT (fW T rfl (gT (lW T rfl (gT (fW T rfl (gT (lW T rfl (gT (fV T ?_)))))))));refine gT (lW T rfl (gT (fW T rfl (gT (lW T rfl (gT (vV (XS rfl rfl rfl rfl) (gT (vV (kJ rfl rfl) ?_))))))))))|(iterate 10 refine gF ?_));(all_goals (refine pW rfl (aV ?_))))|refine nZ ?_));all_goals
    refine cY (.inl rfl) rfl (mI ?_);rw [zF6];simp only [xL,aL,decide_eq_true_eq]
    first | omega | (simp;omega)
theorem zI5 (l : List Int) (v : Int) (hl : l.length ≤ 1000) : aR Tryz.prog 26 [.rowE (ints l) 1,.i v] [] (.b (decide (v ∈ l))) [] := by
  have hlen : (ints l).length = l.length := by simp
  refine bQ T Tryz.func26 rfl rfl rfl rfl ?_
  (repeat' (first|refine wS ?_|refine wB ?_|(refine rg 0 (aV ?_))|(refine rg 1 (aV ?_))|refine nZ ?_));refine dA (X := {k : Nat // k ≤ l.length ∧ (v ∈ l ↔ v ∈ l.drop k)}) (fun k => [(0,.rowE (ints l) 1),(1,.i v),(5,.i k.1)]) (fun _ => []) (fun k => l.length - k.1) ⟨0,by simp⟩ (eW []) ?_
  rintro ⟨k,hk,hf⟩;dsimp only;by_cases hlt : k < l.length
  · repeat' (first|refine wS ?_|refine wB ?_|refine wK ?_|refine wR ?_|(refine wC rfl (fun hb => ?_) (fun hb => ?_) <;> (((try simp only [nm] at hb);try (exfalso;omega))))|(refine rg 2 (dX rfl (qW T rfl (vV (aO rfl rfl) ?_))))|(refine rg 4 (dX rfl (vV (ix T rfl (by omega) (cH l) (mC (k := k) (by omega))) (lW T rfl (mW rfl (vV (dJ rfl rfl) ?_))))))|(refine rg 5 (aV ?_))|(refine iA 3 rfl rfl rfl (by omega) (by omega) ?_)|(refine nZ ?_))
    · refine cY (.inl rfl) rfl (mI ?_);have : v ∈ l := by rw [← hb];exact aI hlt
      simp [this]
    · refine ⟨⟨k + 1,by omega,?_⟩,by dsimp only;omega,eW []⟩
      rw [hf,aU hlt];simp only [bN];exact ⟨fun h => h.resolve_left (fun e => hb e.symm),.inr⟩
  · (repeat' (first|refine wS ?_|refine wR ?_|refine wE ?_|(refine wC rfl (fun hb => ?_) (fun hb => ?_) <;> (((try simp only [nm] at hb);try (exfalso;omega))))|(refine rg 2 (dX rfl (qW T rfl (vV (aO rfl rfl) ?_))))|(refine rg 6 (aV ?_))|(refine nZ ?_)));refine cY (.inl rfl) rfl (mI ?_)
    rw [cX (by omega)] at hf
    simp at hf;simp [hf]
structure sH (ks : List KD) (ls : List LT) (ps : List Int) (bs : List BX) : Prop where
  len : ps.length = bs.length
  p : ∀ i : Nat,i < ps.length → (i : Int) ∈ ps
  k : ∀ (i : Nat) (h : i < ks.length),0 ≤ ks[i].2 ∧ ks[i].2 ≤ 1048576
  l : ∀ (i : Nat) (h : i < ls.length),0 ≤ ls[i].1 ∧ ls[i].1 < ks.length
  b : ∀ (i : Nat) (h : i < bs.length),-1 ≤ bs[i].1 ∧ bs[i].1 < ls.length ∧ 0 ≤ bs[i].2.1 ∧ bs[i].2.1 ≤ 20000 ∧ (bs[i].1 = -1 → bs[i].2.1 = 0) ∧ 0 ≤ bs[i].2.2 ∧ bs[i].2.2 ≤ 1073741824
open Classical in
noncomputable def qX (ks : List KD) (ls : List LT) (ps : List Int) (bs : List BX) : Bool := decide (sH ks ls ps bs)
theorem tC {ks : List KD} {ls : List LT} {ps : List Int} {bs : List BX} (h : ¬ sH ks ls ps bs) : qX ks ls ps bs = false := by unfold qX;simp [h]
theorem HL {ks : List KD} {ls : List LT} {ps : List Int} {bs : List BX} (h : sH ks ls ps bs) : qX ks ls ps bs = true := by unfold qX;simp [h]
theorem VR (ks : List KD) (ls : List LT) (ps : List Int) (bs : List BX) (h1 : ks.length ≤ 1000) (h2 : ls.length ≤ 1000) (h3 : ps.length ≤ 1000) (h4 : bs.length ≤ 1000) :
    aR Tryz.prog 42 [.rowE (gJ ks) 2,.rowE (jX ls) 3,.rowE (ints ps) 1,.rowE (eB bs) 3] [] (.b (qX ks ls ps bs)) [] := by
  have e1 : (gJ ks).length = ks.length := by simp
  have e2 : (jX ls).length = ls.length := by simp
  have e3 : (ints ps).length = ps.length := by simp
  have e4 : (eB bs).length = bs.length := by simp
  refine bQ T Tryz.func42 rfl rfl rfl rfl ?_
  repeat' (first|refine wS ?_|refine wB ?_|refine wK ?_|refine wR ?_|(refine wC rfl ?_ ?_<;>(intro hb;(try simp only [nm] at hb);try (exfalso;omega)))|(refine rg 0 (aV ?_))|(refine rg 1 (mW rfl (qW T rfl (mW rfl (qW T rfl (vV (fI rfl rfl) ?_))))))|(refine rg 2 (aV ?_))|(refine rg 3 (aV ?_))|refine nZ ?_)
  · (refine cY (.inl rfl) rfl (mI (tC fun h => ?_).symm);have := h.len;omega)
  have hlen : ps.length = bs.length := by omega
  refine dA (X := {k : Nat // k ≤ ps.length ∧ ∀ i : Nat,i < k → (i : Int) ∈ ps}) (fun k => [(0,.rowE (gJ ks) 2),(1,.rowE (jX ls) 3),(2,.rowE (ints ps) 1),(3,.rowE (eB bs) 3),(9,.i k.1)]) (fun _ => []) (fun k => ps.length - k.1) ⟨0,by omega,fun i hi => by omega⟩ (eW []) ?_
  rintro ⟨k,hk,hp⟩;dsimp only;by_cases hlt : k < ps.length
  · repeat' (first|refine wS ?_|refine wB ?_|refine wK ?_|refine wR ?_|(refine wC rfl (fun hb => ?_) (fun hb => ?_) <;> (((try simp only [nm] at hb);try (exfalso;omega))))|(refine rg 4 (dX rfl (qW T rfl (vV (aO rfl rfl) ?_))))|(refine rg 6 (dX rfl (vV (by exact eO rfl rfl (zI5 ps _ h3) rfl rfl rfl) ?_));refine vV (dH rfl) ?_)|(refine rg 7 (aV ?_))|(refine iA 5 rfl rfl rfl (by omega) (by omega) ?_)|(refine nZ ?_))
    · (refine cY (.inl rfl) rfl (mI (tC fun h => ?_).symm);exact hb (h.p k hlt))
    · refine ⟨⟨k + 1,by omega,fun i hi => ?_⟩,by dsimp only;omega,eW []⟩
      by_cases e : i = k
      · subst e;exact hb
      · exact hp i (by omega)
  have hpA : ∀ i : Nat,i < ps.length → (i : Int) ∈ ps := fun i hi => hp i (by omega)
  clear hp
  (repeat' (first|refine wS ?_|refine wB ?_|refine wE ?_|(refine wC rfl ?_ ?_<;>(intro hb;(try simp only [nm] at hb);try (exfalso;omega)))|(refine rg 4 (dX rfl (qW T rfl (vV (aO rfl rfl) ?_))))|(refine rg 8 (aV ?_))|refine nZ ?_));refine dA (X := {k : Nat // k ≤ ks.length ∧ ∀ (i : Nat) (h : i < ks.length),i < k → 0 ≤ ks[i].2 ∧ ks[i].2 ≤ 1048576}) (fun k => [(0,.rowE (gJ ks) 2),(1,.rowE (jX ls) 3),(2,.rowE (ints ps) 1),(3,.rowE (eB bs) 3),(10,.i k.1)]) (fun _ => []) (fun k => ks.length - k.1) ⟨0,by omega,fun i _ hi => by omega⟩ (eW []) ?_
  rintro ⟨k1,hk1,hq⟩;dsimp only;by_cases hlt1 : k1 < ks.length
  · (repeat' (first|refine wS ?_|refine wB ?_|refine wK ?_|refine wR ?_|refine pB rfl ?_|(refine wC rfl (fun hb => ?_) (fun hb => ?_) <;> (((try simp only [nm] at hb);try (exfalso;omega))))|(refine rg 9 (dX rfl (qW T rfl (vV (aO rfl rfl) ?_))))|(refine rg 11 (dX rfl (vV (ix T rfl (by omega) (tQ ks) (xP (k := k1) hlt1)) (iL T rfl (vV (aO rfl rfl) (mV ?_)))));refine cN rfl rfl (fun hb => ?_) (fun hb => ?_) <;> ((rw [hb];(try simp only [nm] at hb);try ((exfalso;omega);done)));(all_goals first|(refine gT (mW rfl (gT (mW rfl (gT (vV (ix T rfl (by omega) (tQ ks) (xP (k := k1) hlt1)) (gT (fW T rfl (gT (lV T ?_)))))))));refine gT (vV (fT rfl rfl) ?_))|(iterate 6 refine gF ?_));(all_goals (refine pV ?_)))|(refine rg 12 (aV ?_))|(refine iA 10 rfl rfl rfl (by omega) (by omega) ?_)|(refine nZ ?_)));all_goals first
      | (refine cY (.inl rfl) rfl (mI (tC fun h => ?_).symm);have := h.k k1 hlt1;omega)
      | (refine ⟨⟨k1 + 1, by omega, fun i hi hik => ?_⟩, by dsimp only; omega, eW []⟩
         by_cases e : i = k1
         · subst e;omega
         · exact hq i hi (by omega))
  have hkA : ∀ (i : Nat) (h : i < ks.length),0 ≤ ks[i].2 ∧ ks[i].2 ≤ 1048576 := fun i hi => hq i hi (by omega)
  clear hq
  (repeat' (first|refine wS ?_|refine wB ?_|refine wE ?_|(refine wC rfl ?_ ?_<;>(intro hb;(try simp only [nm] at hb);try (exfalso;omega)))|(refine rg 9 (dX rfl (qW T rfl (vV (aO rfl rfl) ?_))))|(refine rg 13 (aV ?_))|refine nZ ?_));refine dA (X := {k : Nat // k ≤ ls.length ∧ ∀ (i : Nat) (h : i < ls.length),i < k → 0 ≤ ls[i].1 ∧ ls[i].1 < ks.length}) (fun k => [(0,.rowE (gJ ks) 2),(1,.rowE (jX ls) 3),(2,.rowE (ints ps) 1),(3,.rowE (eB bs) 3),(11,.i k.1)]) (fun _ => []) (fun k => ls.length - k.1) ⟨0,by omega,fun i _ hi => by omega⟩ (eW []) ?_
  rintro ⟨k2,hk2,hq⟩;dsimp only;by_cases hlt2 : k2 < ls.length
  · (repeat' (first|refine wS ?_|refine wB ?_|refine wK ?_|refine wR ?_|refine pB rfl ?_|(refine wC rfl (fun hb => ?_) (fun hb => ?_) <;> (((try simp only [nm] at hb);try (exfalso;omega))))|(refine rg 14 (dX rfl (qW T rfl (vV (aO rfl rfl) ?_))))|(refine rg 16 (dX rfl (vV (ix T rfl (by omega) (wJ ls) (C3 (k := k2) hlt2)) (iL T rfl (vV (aO rfl rfl) (mV ?_)))));refine cN rfl rfl (fun hb => ?_) (fun hb => ?_) <;> ((rw [hb];(try simp only [nm] at hb);try ((exfalso;omega);done)));(all_goals first|(refine gT (mW rfl (gT (mW rfl (gT (vV (ix T rfl (by omega) (wJ ls) (C3 (k := k2) hlt2)) (gT (fW T rfl (gT (lV T ?_)))))))));refine gT (mW rfl (gT (qW T rfl (gT (vV (jP rfl rfl) ?_))))))|(iterate 8 refine gF ?_));(all_goals (refine pV ?_)))|(refine rg 17 (aV ?_))|(refine iA 15 rfl rfl rfl (by omega) (by omega) ?_)|(refine nZ ?_)));all_goals first
      | (refine cY (.inl rfl) rfl (mI (tC fun h => ?_).symm);have := h.l k2 hlt2;omega)
      | (refine ⟨⟨k2 + 1, by omega, fun i hi hik => ?_⟩, by dsimp only; omega, eW []⟩
         by_cases e : i = k2
         · subst e;omega
         · exact hq i hi (by omega))
  have hlA : ∀ (i : Nat) (h : i < ls.length),0 ≤ ls[i].1 ∧ ls[i].1 < ks.length := fun i hi => hq i hi (by omega)
  clear hq
  (repeat' (first|refine wS ?_|refine wB ?_|refine wE ?_|(refine wC rfl ?_ ?_<;>(intro hb;(try simp only [nm] at hb);try (exfalso;omega)))|(refine rg 14 (dX rfl (qW T rfl (vV (aO rfl rfl) ?_))))|(refine rg 18 (aV ?_))|refine nZ ?_));refine dA (X := {k : Nat // k ≤ bs.length ∧ ∀ (i : Nat) (h : i < bs.length),i < k → -1 ≤ bs[i].1 ∧ bs[i].1 < ls.length ∧ 0 ≤ bs[i].2.1 ∧ bs[i].2.1 ≤ 20000 ∧ (bs[i].1 = -1 → bs[i].2.1 = 0) ∧ 0 ≤ bs[i].2.2 ∧ bs[i].2.2 ≤ 1073741824}) (fun k => [(0,.rowE (gJ ks) 2),(1,.rowE (jX ls) 3),(2,.rowE (ints ps) 1),(3,.rowE (eB bs) 3),(12,.i k.1)]) (fun _ => []) (fun k => bs.length - k.1) ⟨0,by omega,fun i _ hi => by omega⟩ (eW []) ?_
  rintro ⟨k3,hk3,hq⟩;dsimp only;by_cases hlt3 : k3 < bs.length
  · (repeat' (first|refine wS ?_|refine wB ?_|refine wK ?_|refine wR ?_|refine pB rfl ?_|(refine wC rfl (fun hb => ?_) (fun hb => ?_) <;> (((try simp only [nm] at hb);try (exfalso;omega))))|(refine rg 19 (dX rfl (qW T rfl (vV (aO rfl rfl) ?_))))|(refine rg 21 (dX rfl (vV (ix T rfl (by omega) (jN bs) (H9 (k := k3) hlt3)) (lW T rfl (bS (bO T rfl) rfl (aT T rfl rfl rfl rfl rfl rfl (by decide) rfl ?_))))))|(refine rg 22 (iL T rfl (vV (aO rfl rfl) (mV ?_)));refine cN rfl rfl (fun hb => ?_) (fun hb => ?_) <;> ((rw [hb];(try simp only [nm] at hb);try ((exfalso;omega);done)));(all_goals first|(refine gT (fW T rfl (gT (lW T rfl (gT (mW rfl (gT (qW T rfl (gT (vV (jP rfl rfl) ?_))))))))))|(iterate 5 refine gF ?_));(all_goals (refine pW rfl (mV ?_)));(all_goals first|(refine gK ?_)|(refine cN rfl rfl (fun hb => ?_) (fun hb => ?_) <;> ((rw [hb];(try simp only [nm] at hb);try ((exfalso;omega);done)))));(all_goals first|(refine gT (fW T rfl (gT (lW T rfl (gT (vV (aO rfl rfl) ?_))))))|(iterate 3 refine gF ?_));(all_goals (refine pW rfl (mV ?_)));(all_goals first|(refine gK ?_)|(refine cN rfl rfl (fun hb => ?_) (fun hb => ?_) <;> ((rw [hb];(try simp only [nm] at hb);try ((exfalso;omega);done)))));(all_goals first|(refine gT (fW T rfl (gT (lW T rfl (gT (vV (fT rfl rfl) ?_))))))|(iterate 3 refine gF ?_));(all_goals (refine pW rfl (mV ?_)));(all_goals first|(refine gK ?_)|(refine cN rfl rfl (fun hb => ?_) (fun hb => ?_) <;> ((rw [hb];(try simp only [nm] at hb);try ((exfalso;omega);done)))));(all_goals first|(refine gT (fW T rfl (gT (lW T rfl (gT (vV (dJ rfl rfl) (gT (mV ?_))))))))|(iterate 4 refine gF ?_));(all_goals first|(refine gK ?_)|(refine cN rfl rfl (fun hb => ?_) (fun hb => ?_) <;> ((rw [hb];(try simp only [nm] at hb);try ((exfalso;omega);done)))));(all_goals first|(refine gT (fW T rfl (gT (lW T rfl (gT (vV (fI rfl rfl) ?_))))))|((iterate 3 first|refine gF ?_|refine gU ?_)));(all_goals first|(refine gT (pV ?_))|(refine gF ?_));(all_goals (refine pW rfl (mV ?_)));(all_goals first|(refine gK ?_)|(refine cN rfl rfl (fun hb => ?_) (fun hb => ?_) <;> ((rw [hb];(try simp only [nm] at hb);try ((exfalso;omega);done)))));(all_goals first|(refine gT (fW T rfl (gT (lW T rfl (gT (vV (aO rfl rfl) ?_))))))|(iterate 3 refine gF ?_));(all_goals (refine pW rfl (mV ?_)));(all_goals first|(refine gK ?_)|(refine cN rfl rfl (fun hb => ?_) (fun hb => ?_) <;> ((rw [hb];(try simp only [nm] at hb);try ((exfalso;omega);done)))));(all_goals first|(refine gT (fW T rfl (gT (lW T rfl (gT (vV (fT rfl rfl) ?_))))))|(iterate 3 refine gF ?_));(all_goals (refine pV ?_)))|(refine rg 23 (aV ?_))|(refine iA 20 rfl rfl rfl (by omega) (by omega) ?_)|(refine nZ ?_)));all_goals first
      | (refine cY (.inl rfl) rfl (mI (tC fun h => ?_).symm);have := h.b k3 hlt3;omega)
      | (refine ⟨⟨k3 + 1, by omega, fun i hi hik => ?_⟩, by dsimp only; omega, eW []⟩
         by_cases e : i = k3
         · subst e;omega
         · exact hq i hi (by omega))
  (repeat' (first|refine wS ?_|refine wR ?_|refine wE ?_|(refine wC rfl ?_ ?_<;>(intro hb;(try simp only [nm] at hb);try (exfalso;omega)))|(refine rg 19 (dX rfl (qW T rfl (vV (aO rfl rfl) ?_))))|(refine rg 24 (aV ?_))|refine nZ ?_));refine cY (.inl rfl) rfl (mI (HL ?_).symm)
  exact ⟨hlen,hpA,hkA,hlA,fun i hi => hq i hi (by omega)⟩
abbrev uF (ks : List KD) (ls : List LT) (ps : List Int) (bs : List BX) : AV := .agg [.rowE (gJ ks) 2,.rowE (jX ls) 3,.rowE (ints ps) 1,.rowE (eB bs) 3]
def zP1 (ks : List KD) (ls : List LT) (ps : List Int) (bs : List BX) : Prop := 1 ≤ ps.length ∧ ps.length ≤ 8 ∧ bs.length ≤ 8 ∧ ks.length ≤ 10 ∧ ls.length ≤ 10
theorem zD1 {ks : List KD} {ls : List LT} {ps : List Int} {bs : List BX} (h : zP1 ks ls ps bs) (ht : qX ks ls ps bs = true) : VG ks ls ps bs := by
  have ht : sH ks ls ps bs := by
    unfold qX at ht;simpa using ht
  obtain ⟨h1,h2,h3,h4,h5⟩ := h;exact ⟨h1,h2,ht.len,h4,h5,ht.k,ht.l,fun i hi => P9 ps.length ps rfl ht.p _ (aI hi),ht.b⟩
theorem ML {m st er sl : Int} (h : xL m st er sl = true) : kR m st er sl := by
  simp only [xL,aL,decide_eq_true_eq] at h;unfold kR;omega
theorem vS {n f t : Int} (h : f ≤ n ∧ n ≤ t) : aR Tryz.prog 69 [.i n,.i f,.i t] [] (.b true) [] := by
  have := nP n f t
  rwa [show iI n f t = true by simp [iI,h]] at this
theorem CT {l : List Int} {n : Int} {i : Nat} (h : i < l.length) (hn : ¬ L3 l n i) : CU l n = false := by
  unfold CU;simp only [decide_eq_false_iff_not];exact fun hh => hn (hh i h)
theorem T7 {l : List Int} {n : Int} (h : ∀ i,i < l.length → L3 l n i) : CU l n = true := by
  unfold CU;simp only [decide_eq_true_eq];exact h
theorem LB {l : List Int} {k : Nat} (h : k < l.length) : l.getD k 0 = l[k] := by simp [List.getD,h]
theorem AI (l : List Int) (n : Int) (hl : l.length ≤ 9223372036854775807) (hn : 0 ≤ n ∧ n ≤ 1000) : aR Tryz.prog 70 [.rowE (ints l) 1,.i n] [] (.b (CU l n)) [] := by
  have hlen : (ints l).length = l.length := by simp
  refine bQ T Tryz.func70 rfl rfl rfl rfl ?_
  (repeat' (first|refine wS ?_|refine wB ?_|(refine rg 0 (aV ?_))|(refine rg 1 (mW rfl (qW T rfl (mV ?_))))|refine nZ ?_));refine dA (X := {k : Nat // k ≤ l.length ∧ ∀ i,i < k → L3 l n i}) (fun k => [(0,.rowE (ints l) 1),(1,.i n),(7,.rowE (ints l) 1),(8,.i (ints l).length),(9,.i k.1)]) (fun _ => []) (fun k => l.length - k.1) ⟨0,by omega,fun i hi => by omega⟩ (eW []) ?_
  rintro ⟨k,hk,hq⟩;dsimp only;by_cases hlt : k < l.length
  · have hg := LB hlt;cases hw : iI l[k] 0 (n - 1)
    · have c := hw ▸ nP l[k] 0 (n - 1);have hno : ¬ L3 l n k := fun h => by
        unfold L3 at h;rw [hg] at h;rw [show iI l[k] 0 (n - 1) = true by simp [iI];omega] at hw
        cases hw
      (repeat' (first|refine wS ?_|refine wB ?_|refine wK ?_|refine wR ?_|refine wT ?_|(refine wC rfl ?_ ?_<;>(intro hb;(try simp only [nm] at hb);try (exfalso;omega)))|(refine rg 2 (vV (aO rfl rfl) ?_))|(refine rg 3 (mW rfl (vV (ix T rfl (by omega) (cH l) (mC (k := k) hlt)) (lW T rfl (pT ?_)))))|(refine rg 4 (dX rfl (vV (cM rfl rfl (by omega) (by omega)) (vV (kC (c)) (vV (dH rfl) (mV ?_)))));(iterate 3 refine gF ?_);(iterate 7 refine gU ?_);refine gF (pV ?_))|(refine rg 5 (aV ?_))|refine nZ ?_));exact cY (.inl rfl) rfl (mI (CT hlt hno).symm)
    · have c := hw ▸ nP l[k] 0 (n - 1);simp only [iI,aL,decide_eq_true_eq] at hw;by_cases hk0 : 0 < k
      · have hlt' : k - 1 < l.length := by omega
        have hg' := LB hlt';have hc' : (ints l)[((k : Int) - 1).toNat]? = some [AV.i l[k - 1]] := by rw [show ((k : Int) - 1).toNat = k - 1 by omega];exact mC hlt'
        (repeat' (first|refine wS ?_|refine wB ?_|refine wK ?_|refine wR ?_|(refine wC rfl ?_ ?_<;>(intro hb;(try simp only [nm] at hb);try (exfalso;omega)))|(refine rg 2 (vV (aO rfl rfl) ?_))|(refine rg 3 (mW rfl (vV (ix T rfl (by omega) (cH l) (mC (k := k) hlt)) (lW T rfl (pT ?_)))))|(refine rg 4 (dX rfl (vV (cM rfl rfl (by omega) (by omega)) (vV (kC (c)) (vV (dH rfl) (mW rfl (yN rfl (yV (fT rfl rfl) (yM ?_))))))));refine cN rfl rfl ?_ ?_<;>(intro hb;rw [hb];(try simp only [nm] at hb);try (exfalso;omega));(all_goals (refine yN rfl (yN rfl (yN rfl (yV (cM rfl rfl (by omega) (by omega)) (yV (ix T rfl (by omega) (cH l) hc') (yO T rfl (yV (kJ rfl rfl) (gT (pW rfl (pV ?_))))))))))))|(refine rg 5 (aV ?_))|(refine rg 6 (vV (bT rfl rfl (by omega) (by omega)) (mV ?_)))|refine nZ ?_));all_goals first
          | (exfalso;omega)
          | (refine cY (.inl rfl) rfl (mI (CT hlt (fun h => ?_)).symm);unfold L3 at h;rw [hg,hg'] at h;omega)
          | (refine ⟨⟨k + 1, by omega, fun i hi => ?_⟩, by dsimp only; omega, eW []⟩
             by_cases e : i = k
             · subst e;unfold L3;rw [hg,hg'];omega
             · exact hq i (by omega))
      · obtain rfl : k = 0 := by omega
        (repeat' (first|refine wS ?_|refine wB ?_|refine wK ?_|refine wU ?_|(refine wC rfl ?_ ?_<;>(intro hb;(try simp only [nm] at hb);try (exfalso;omega)))|(refine rg 2 (vV (aO rfl rfl) ?_))|(refine rg 3 (mW rfl (vV (ix T rfl (by omega) (cH l) (mC (k := 0) hlt)) (lW T rfl (pT ?_)))))|(refine rg 4 (dX rfl (vV (cM rfl rfl (by omega) (by omega)) (vV (kC (c)) (vV (dH rfl) (mW rfl (yN rfl (yV (fT rfl rfl) (yM ?_))))))));(iterate 7 refine gF ?_);refine gT (pW rfl (pV ?_)))|(refine rg 6 (vV (bT rfl rfl (by omega) (by omega)) (mV ?_)))|refine nZ ?_));all_goals first
          | (exfalso;omega)
          | (refine ⟨⟨1, by omega, fun i hi => ?_⟩, by dsimp only; omega, eW []⟩
             obtain rfl : i = 0 := by omega
             unfold L3;rw [hg];omega)
  · (repeat' (first|refine wS ?_|refine wR ?_|refine wE ?_|(refine wC rfl (fun hb => ?_) (fun hb => ?_) <;> (((try simp only [nm] at hb);try (exfalso;omega))))|(refine rg 2 (vV (aO rfl rfl) ?_))|(refine rg 7 (aV ?_))|(refine nZ ?_)));exact cY (.inl rfl) rfl (mI (T7 fun i hi => hq i (by omega)).symm)
section
variable {P : Program} {env : dU} {h : Hp} {d : Option Nat} {ty : TypeId} {pos : String} {af : Array Edge} {g : Option (Nat × Bool)}
end
section
variable {ks : List KD} {ls : List LT} {ps : List Int} {bs : List BX} {m st er sl k a b n id lot ct ta done : Int} {ids : List Int} {M : Int}
theorem IX (f : VG ks ls ps bs) (ha : 0 ≤ a) (hid : ps[a.toNat]? = some id) (hbx : bs[id.toNat]? = some (lot, ct, ta)) (hi0 : 0 ≤ id) (hk4 : k = 4) (hd : done = 1) {idb : Int} (hbb : 0 ≤ b) (hab : a ≠ b) (hidb : ps[b.toNat]? = some idb)
    (hag : aR Tryz.prog 29 [gW m st er sl,.rowE (gJ ks) 2,.rowE (jX ls) 3,.rowE (ints ps) 1,.rowE (eB bs) 3,nK k a b n ids] [] (.tup [.i M,.b true]) [])
    (hcan : aR Tryz.prog 73 [gW m st er sl,.agg [.i lot,.i ct,.i ta],nK k a b n ids,.i done] [] (.b true) []) :
    aR Tryz.prog 30 [gW m st er sl,.rowE (gJ ks) 2,.rowE (jX ls) 3,.rowE (ints ps) 1,.rowE (eB bs) 3,nK k a b n ids,.i done] [] (.tup [.sl 0 0 ps.length 1,.sl 1 0 bs.length 3,.b true]) [.arr (ints ((ps.set a.toNat idb).set b.toNat id)) 1,.arr (eB bs) 3] := by
  have hc1 : (ints ps)[a.toNat]? = some [AV.i id] := by simp [hid]
  have hc2 : (eB bs)[id.toNat]? = some [AV.i lot,AV.i ct,AV.i ta] := by simp [hbx]
  obtain ⟨hx1,_⟩ := aB.1 hid;obtain ⟨hz1,_⟩ := aB.1 hidb;have hpl : (ints ps).length = ps.length := by simp
  have hA : ∀ θ,((ints ps).map (AV.mapL θ))[0 + a.toNat]? = some [AV.i id] := fun θ => by rw [bU θ (bJ ps),Nat.zero_add];exact hc1
  have hB : ∀ θ,((ints ps).map (AV.mapL θ))[0 + b.toNat]? = some [AV.i idb] := fun θ => by rw [bU θ (bJ ps),Nat.zero_add];simp [hidb]
  have hB2 : ∀ θ x,(((ints ps).map (AV.mapL θ)).set (0 + a.toNat) x)[0 + b.toNat]? = some [AV.i idb] := fun θ x => by rw [iH (by omega)];exact hB θ
  have hS : ∀ θ,(((ints ps).map (AV.mapL θ)).set (0 + a.toNat) [AV.i idb]).set (0 + b.toNat) [AV.i id] = ints ((ps.set a.toNat idb).set b.toNat id) := fun θ => by rw [bU θ (bJ ps),Nat.zero_add,Nat.zero_add];simp [qG]
  have hn1 := f.n1;have hn8 := f.n8;have hle := f.len;have cl1 := zQ ps (by omega) (by omega)
  have cl2 := xA bs (by omega) (by omega)
  refine bQ T Tryz.func30 rfl rfl rfl rfl ?_
  (repeat' (first|refine wS ?_|refine wB ?_|refine wK ?_|refine wR ?_|refine wU ?_|(refine wC rfl ?_ ?_<;>(intro hb;(try simp only [nm] at hb);try (exfalso;omega)))|(refine rg 0 (bS (cE rfl rfl) rfl (bS (cE rfl rfl) rfl (ZT rfl (aV ?_)))))|(refine rg 1 (mW rfl (fW T rfl (vV (aQ T rfl rfl rfl rfl) (vV (ix T rfl (by omega) (cH ps) hc1) (vV (aQ T rfl rfl rfl rfl) (aV ?_)))))))|(refine rg 2 (vV (aQ T rfl rfl rfl rfl) (dX rfl (dX rfl (vV (aQ T rfl rfl rfl rfl) (vV (kC (hag)) (mW rfl (xW rfl (xW rfl (pT ?_))))))))))|(refine bL (id := 3) 95 zQ4 (rM 37 13) zQ5 cC rfl (by decide +kernel) (dN rfl (dV rfl (dH rfl) (dN rfl (tO T rfl (tN rfl (tN rfl (dT rfl (ix T rfl (by omega) (jN bs) hc2) (tO T rfl (tL T ?_)))))))));refine tN rfl (dT rfl (kC (hcan)) (dT rfl (dH rfl) (dV rfl (fX rfl rfl) (dE ?_)))))|(refine rg 5 (mW rfl (bS (by exact fK rfl rfl cl1 (.inr ⟨rfl,rfl,by simp⟩)) rfl ?_));refine mW rfl (bS (by exact fK rfl rfl cl2 (.inr ⟨rfl,rfl,by simp⟩)) rfl ?_);refine pT ?_)|(refine rg 6 (fW T rfl (vV (aQ T rfl rfl rfl rfl) (vV (dJ rfl rfl) (aV ?_)))))|(refine rg 8 (fW T rfl (vV (aQ T rfl rfl rfl rfl) (vV (dJ rfl rfl) (mV ?_))));refine cN rfl rfl ?_ ?_<;>(intro hb;rw [hb];(try simp only [nm] at hb);try (exfalso;omega));(all_goals (refine yN rfl (yV (dJ rfl rfl) (pW rfl (aV ?_))))))|(refine mD (id := 9) 95 [[],[],[1],[],[],[4],[],[],[7],[6,7,8],rM 6 4,[],[],[12],[11,12,13],rM 11 4,[0,1,2,6,7,8,9,10,11,12,13,14,15],[0,1,2,6,7,8,9,10,11,12,13,14,15,16]] (rM 75 17) [[],[75],[75],[75,76,77],rM 75 4,rM 75 4,rM 75 6,rM 75 7,rM 75 7,rM 75 6,rM 75 6,rM 75 11,rM 75 12,rM 75 12,rM 75 11,rM 75 11,[78,79,80],[78,79,80]] [(17,2)] cC rfl (by decide +kernel) (bZ rfl rfl rfl rfl (by exact bX rfl) ?_);refine bZ rfl rfl rfl rfl (by exact bY T rfl rfl rfl) ?_;refine bZ rfl rfl rfl rfl (by exact aQ T rfl rfl rfl rfl) ?_;refine bZ rfl rfl rfl rfl (by exact bX rfl) ?_;refine bZ rfl rfl rfl rfl (by exact bY T rfl rfl rfl) ?_;refine bZ rfl rfl rfl rfl (by exact aQ T rfl rfl rfl rfl) ?_;refine bZ rfl rfl rfl rfl (by exact bX rfl) ?_;refine bZ rfl rfl rfl rfl (by exact bY T rfl rfl rfl) ?_;refine bZ rfl rfl rfl rfl (by exact aQ T rfl rfl rfl rfl) ?_;refine bZ rfl rfl rfl rfl (by exact aK T rfl rfl rfl rfl rfl (by omega) (by omega)) ?_;refine bZ rfl rfl rfl rfl (by exact aQ T rfl rfl (bG rfl (hB _)) rfl) ?_;refine bZ rfl rfl rfl rfl (by exact bX rfl) ?_;refine bZ rfl rfl rfl rfl (by exact bY T rfl rfl rfl) ?_;refine bZ rfl rfl rfl rfl (by exact aQ T rfl rfl rfl rfl) ?_;refine bZ rfl rfl rfl rfl (by exact aK T rfl rfl rfl rfl rfl (by omega) (by omega)) ?_;refine bZ rfl rfl rfl rfl (by exact aQ T rfl rfl (bG rfl (hA _)) rfl) ?_;refine bZ rfl rfl rfl rfl (by exact aK T rfl rfl rfl rfl rfl (by omega) (by omega)) ?_;refine sU rfl rfl rfl rfl (aP rfl) T rfl rfl rfl rfl rfl rfl (by decide) (rV rfl (hA _) rfl) ?_;refine pS rfl rfl rfl (by exact rfl) ?_;refine vV (by exact aK T rfl rfl rfl rfl rfl (by omega) (by omega)) ?_;refine aT T rfl rfl rfl rfl rfl rfl (by decide) (lC rfl (hB2 _ _) rfl) ?_)|(refine rg 10 (dX rfl (ZT rfl (aV ?_))))|refine nZ ?_));all_goals first | (exfalso;omega) | exact ⟨.inl rfl,[2,3],_,rfl,rfl,rfl,⟨.inr (aE rfl (hS _) (bJ _)),.inr (aE rfl (bU _ (oP bs)) (oP bs)),trivial⟩,by decide,F2⟩
end
end Go.Proofs.YtmmkhmilpeodnaaGreat
namespace Go.Ab
open Go
section
variable {P : Program}
theorem zX {f : FuncId} {args : List AV} {e1 e2 : List (List AV)} {l1 l2 s1 s2 : Nat} {u : AV} (hn1 : l1 = e1.length) (hn2 : l2 = e2.length) (hi1 : AV.idfL e1.flatten = true) (hi2 : AV.idfL e2.flatten = true) (hu : u.idf = true)
    (h : aR P f args [] (.tup [.sl 0 0 l1 s1,.sl 1 0 l2 s2,u]) [.arr e1 s1,.arr e2 s2]) : aR P f args [] (.tup [.rowE e1 s1,.rowE e2 s2,u]) [] := by
  refine ⟨h.1,fun ρ S w vs hs ha => (h.2 ρ S w vs hs ha).mono ?_⟩;rintro e w' ⟨y,ρ',S',rfl,h2,h3⟩;rw [hn1,hn2] at h3;have f1 := h2.freeze (k := 0) rfl;have f2 := f1.freeze (k := 1) rfl;refine ⟨y,_,_,rfl,f2.none rfl,?_⟩;simp only [R] at h3 ⊢;obtain ⟨ys,rfl,h7⟩ := h3;refine ⟨ys,rfl,?_⟩;simp only [RL] at h7 ⊢;obtain ⟨z1,q1,h5,g1,z2,q2,rfl,g2,z3,q3,rfl,g3,rfl⟩ := h7;refine ⟨z1,_,h5,?_,z2,_,rfl,?_,z3,_,rfl,?_,rfl⟩
  · exact GR (fun _ h => .inl h) (K7 ρ' _ _ _ rfl (uO hi1 (h2.blk 0 _ rfl) g1))
  · exact K7 ρ' _ _ _ rfl (uO hi2 (f1.blk 1 _ rfl) (GR (fun _ h => .inl h) g2))
  · exact GR (fun _ h => .inl (.inl h)) (K7 ρ' _ _ _ hu g3)
end
end Go.Ab
namespace Go.Proofs.YtmmkhmilpeodnaaGreat
open Go Go.Ab
attribute [local irreducible] VC AW cF aR
set_option maxHeartbeats 4000000
theorem lM {θ : Nat → Nat} {f : Fn} {caps : List AV} (hi : AV.idfL caps = true) : (AV.clo f [] caps).map θ = .clo f [] caps := by
  show AV.clo f (AV.mapL θ []) (AV.mapL θ caps) = _;rw [nT θ caps hi];rfl
theorem SG {w : List KD} {F : FuncId} {caps : List AV} (hl : w.length ≤ 1000) (hi : AV.idfL caps = true) (hF : ∀ x,x ∈ w → aR Tryz.prog F (.agg [AV.v (.string x.1),AV.i x.2] :: caps) [] (.b false) []) :
    aR Tryz.prog 123 [.rowE (gJ w) 2,.clo (.func F) [] caps] [] (.i (-1)) [] := by
  have hlen : (gJ w).length = w.length := by simp
  refine bQ T Tryz.func123 rfl rfl rfl rfl ?_
  (repeat' (first|refine wS ?_|refine wB ?_|(refine rg 0 (aV ?_))|(refine rg 1 (mW rfl (qW T rfl (mV ?_))))|refine nZ ?_));refine dA (X := {k : Nat // k ≤ w.length}) (fun k => [(0,.rowE (gJ w) 2),(1,.clo (.func F) [] caps),(7,.i (gJ w).length),(8,.i k.1)]) (fun _ => []) (fun k => w.length - k.1) ⟨0,by simp⟩ ⟨[],rfl,⟨rfl,by rw [lM hi];rfl,rfl,rfl,trivial⟩,trivial,dD,fun _ h => absurd h (eA _)⟩ ?_
  rintro ⟨k,hk⟩;dsimp only;by_cases hlt : k < w.length
  · have hc := hF w[k] (aI hlt);have hg := xP (l := w) hlt;generalize w[k] = y at *
    (repeat' (first|refine wS ?_|refine wB ?_|refine wK ?_|refine wU ?_|(refine wC rfl ?_ ?_<;>(intro hb;(try simp only [nm] at hb);try (exfalso;omega)))|(refine rg 2 (vV (aO rfl rfl) ?_))|(refine rg 3 (mW rfl (aV ?_)))|(refine rg 4 (dX rfl (mW rfl (vV (ix T rfl (by omega) (tQ w) hg) (lW T rfl (vV (by exact eO rfl rfl hc rfl (by simp [AV.idfL,AV.idf,hi]) rfl) ?_))))))|(refine rg 6 (vV (bT rfl rfl (by omega) (by omega)) (mV ?_)))|refine nZ ?_));all_goals first | (exfalso;omega) | exact ⟨⟨k + 1,hlt⟩,by dsimp only;omega,⟨[],rfl,⟨rfl,by rw [lM hi];rfl,rfl,rfl,trivial⟩,trivial,dD,fun _ h => absurd h (eA _)⟩⟩
  · (repeat' (first|refine wS ?_|refine wR ?_|refine wE ?_|(refine wC rfl (fun hb => ?_) (fun hb => ?_) <;> (((try simp only [nm] at hb);try (exfalso;omega))))|(refine rg 2 (vV (aO rfl rfl) ?_))|(refine rg 7 (aV ?_))|(refine nZ ?_)));all_goals first | (exfalso;omega) | exact rQ
theorem zC3 {w : List KD} {F : FuncId} {caps : List AV} (hl : w.length ≤ 1000) (hi : AV.idfL caps = true) (hF : ∀ x,x ∈ w → aR Tryz.prog F (.agg [AV.v (.string x.1),AV.i x.2] :: caps) [] (.b false) []) :
    aR Tryz.prog 80 [.rowE (gJ w) 2,.clo (.func F) [] caps] [] (.b false) [] := by
  have hc := SG hl hi hF;refine bQ T Tryz.func80 rfl rfl rfl rfl ?_
  (repeat' (first|refine wS ?_|refine wR ?_|(refine rg 0 (aV ?_))|(refine rg 1 (dX rfl (vV (by exact eO rfl rfl hc rfl (by simp [AV.idfL,AV.idf,hi]) rfl) ?_));refine vV (jP rfl rfl) (aV ?_))|refine nZ ?_));all_goals first | (exfalso;omega) | exact rQ
theorem SF {w : List LT} {F : FuncId} {caps : List AV} (hl : w.length ≤ 1000) (hi : AV.idfL caps = true) (hF : ∀ x,x ∈ w → aR Tryz.prog F (.agg [AV.i x.1,AV.i x.2.1,AV.b x.2.2] :: caps) [] (.b false) []) :
    aR Tryz.prog 124 [.rowE (jX w) 3,.clo (.func F) [] caps] [] (.i (-1)) [] := by
  have hlen : (jX w).length = w.length := by simp
  refine bQ T Tryz.func124 rfl rfl rfl rfl ?_
  (repeat' (first|refine wS ?_|refine wB ?_|(refine rg 0 (aV ?_))|(refine rg 1 (mW rfl (qW T rfl (mV ?_))))|refine nZ ?_));refine dA (X := {k : Nat // k ≤ w.length}) (fun k => [(0,.rowE (jX w) 3),(1,.clo (.func F) [] caps),(7,.i (jX w).length),(8,.i k.1)]) (fun _ => []) (fun k => w.length - k.1) ⟨0,by simp⟩ ⟨[],rfl,⟨rfl,by rw [lM hi];rfl,rfl,rfl,trivial⟩,trivial,dD,fun _ h => absurd h (eA _)⟩ ?_
  rintro ⟨k,hk⟩;dsimp only;by_cases hlt : k < w.length
  · have hc := hF w[k] (aI hlt);have hg := C3 (l := w) hlt;generalize w[k] = y at *
    (repeat' (first|refine wS ?_|refine wB ?_|refine wK ?_|refine wU ?_|(refine wC rfl ?_ ?_<;>(intro hb;(try simp only [nm] at hb);try (exfalso;omega)))|(refine rg 2 (vV (aO rfl rfl) ?_))|(refine rg 3 (mW rfl (aV ?_)))|(refine rg 4 (dX rfl (mW rfl (vV (ix T rfl (by omega) (wJ w) hg) (lW T rfl (vV (by exact eO rfl rfl hc rfl (by simp [AV.idfL,AV.idf,hi]) rfl) ?_))))))|(refine rg 6 (vV (bT rfl rfl (by omega) (by omega)) (mV ?_)))|refine nZ ?_));all_goals first | (exfalso;omega) | exact ⟨⟨k + 1,hlt⟩,by dsimp only;omega,⟨[],rfl,⟨rfl,by rw [lM hi];rfl,rfl,rfl,trivial⟩,trivial,dD,fun _ h => absurd h (eA _)⟩⟩
  · (repeat' (first|refine wS ?_|refine wR ?_|refine wE ?_|(refine wC rfl (fun hb => ?_) (fun hb => ?_) <;> (((try simp only [nm] at hb);try (exfalso;omega))))|(refine rg 2 (vV (aO rfl rfl) ?_))|(refine rg 7 (aV ?_))|(refine nZ ?_)));all_goals first | (exfalso;omega) | exact rQ
theorem zC2 {w : List LT} {F : FuncId} {caps : List AV} (hl : w.length ≤ 1000) (hi : AV.idfL caps = true) (hF : ∀ x,x ∈ w → aR Tryz.prog F (.agg [AV.i x.1,AV.i x.2.1,AV.b x.2.2] :: caps) [] (.b false) []) :
    aR Tryz.prog 82 [.rowE (jX w) 3,.clo (.func F) [] caps] [] (.b false) [] := by
  have hc := SF hl hi hF;refine bQ T Tryz.func82 rfl rfl rfl rfl ?_
  (repeat' (first|refine wS ?_|refine wR ?_|(refine rg 0 (aV ?_))|(refine rg 1 (dX rfl (vV (by exact eO rfl rfl hc rfl (by simp [AV.idfL,AV.idf,hi]) rfl) ?_));refine vV (jP rfl rfl) (aV ?_))|refine nZ ?_));all_goals first | (exfalso;omega) | exact rQ
theorem SH {w : List BX} {F : FuncId} {caps : List AV} (hl : w.length ≤ 1000) (hi : AV.idfL caps = true) (hF : ∀ x,x ∈ w → aR Tryz.prog F (.agg [AV.i x.1,AV.i x.2.1,AV.i x.2.2] :: caps) [] (.b false) []) :
    aR Tryz.prog 125 [.rowE (eB w) 3,.clo (.func F) [] caps] [] (.i (-1)) [] := by
  have hlen : (eB w).length = w.length := by simp
  refine bQ T Tryz.func125 rfl rfl rfl rfl ?_
  (repeat' (first|refine wS ?_|refine wB ?_|(refine rg 0 (aV ?_))|(refine rg 1 (mW rfl (qW T rfl (mV ?_))))|refine nZ ?_));refine dA (X := {k : Nat // k ≤ w.length}) (fun k => [(0,.rowE (eB w) 3),(1,.clo (.func F) [] caps),(7,.i (eB w).length),(8,.i k.1)]) (fun _ => []) (fun k => w.length - k.1) ⟨0,by simp⟩ ⟨[],rfl,⟨rfl,by rw [lM hi];rfl,rfl,rfl,trivial⟩,trivial,dD,fun _ h => absurd h (eA _)⟩ ?_
  rintro ⟨k,hk⟩;dsimp only;by_cases hlt : k < w.length
  · have hc := hF w[k] (aI hlt);have hg := H9 (l := w) hlt;generalize w[k] = y at *
    (repeat' (first|refine wS ?_|refine wB ?_|refine wK ?_|refine wU ?_|(refine wC rfl ?_ ?_<;>(intro hb;(try simp only [nm] at hb);try (exfalso;omega)))|(refine rg 2 (vV (aO rfl rfl) ?_))|(refine rg 3 (mW rfl (aV ?_)))|(refine rg 4 (dX rfl (mW rfl (vV (ix T rfl (by omega) (jN w) hg) (lW T rfl (vV (by exact eO rfl rfl hc rfl (by simp [AV.idfL,AV.idf,hi]) rfl) ?_))))))|(refine rg 6 (vV (bT rfl rfl (by omega) (by omega)) (mV ?_)))|refine nZ ?_));all_goals first | (exfalso;omega) | exact ⟨⟨k + 1,hlt⟩,by dsimp only;omega,⟨[],rfl,⟨rfl,by rw [lM hi];rfl,rfl,rfl,trivial⟩,trivial,dD,fun _ h => absurd h (eA _)⟩⟩
  · (repeat' (first|refine wS ?_|refine wR ?_|refine wE ?_|(refine wC rfl (fun hb => ?_) (fun hb => ?_) <;> (((try simp only [nm] at hb);try (exfalso;omega))))|(refine rg 2 (vV (aO rfl rfl) ?_))|(refine rg 7 (aV ?_))|(refine nZ ?_)));all_goals first | (exfalso;omega) | exact rQ
theorem zC5 {w : List BX} {F : FuncId} {caps : List AV} (hl : w.length ≤ 1000) (hi : AV.idfL caps = true) (hF : ∀ x,x ∈ w → aR Tryz.prog F (.agg [AV.i x.1,AV.i x.2.1,AV.i x.2.2] :: caps) [] (.b false) []) :
    aR Tryz.prog 84 [.rowE (eB w) 3,.clo (.func F) [] caps] [] (.b false) [] := by
  have hc := SH hl hi hF;refine bQ T Tryz.func84 rfl rfl rfl rfl ?_
  (repeat' (first|refine wS ?_|refine wR ?_|(refine rg 0 (aV ?_))|(refine rg 1 (dX rfl (vV (by exact eO rfl rfl hc rfl (by simp [AV.idfL,AV.idf,hi]) rfl) ?_));refine vV (jP rfl rfl) (aV ?_))|refine nZ ?_));all_goals first | (exfalso;omega) | exact rQ
theorem PF (x : KD) (h : 0 ≤ x.2 ∧ x.2 ≤ 1048576) : aR Tryz.prog 81 [.agg [AV.v (.string x.1),AV.i x.2]] [] (.b false) [] := by
  have hw := vS (n := x.2) (f := 0) (t := 1048576) h;refine bQ T Tryz.func81 rfl rfl rfl rfl ?_
  (repeat' (first|refine wS ?_|refine wR ?_|(refine rg 0 (bS (cE rfl rfl) rfl (aV ?_)))|(refine rg 1 (iL T rfl (vV (kC (hw)) (vV (dH rfl) (aV ?_)))))|refine nZ ?_));all_goals first | (exfalso;omega) | exact rQ
theorem PE (ks : List KD) (x : LT) (h : 0 ≤ x.1 ∧ x.1 < ks.length) (hk : ks.length ≤ 1000) : aR Tryz.prog 83 [.agg [AV.i x.1,AV.i x.2.1,AV.b x.2.2],.pr [.rowE (gJ ks) 2] 0] [] (.b false) [] := by
  have e1 : (gJ ks).length = ks.length := by simp
  have hw := vS (n := x.1) (f := 0) (t := ((gJ ks).length : Int) - 1) (by omega)
  refine bQ T Tryz.func83 rfl rfl rfl rfl ?_
  (repeat' (first|refine wS ?_|refine wR ?_|(refine rg 0 (bS (cE rfl rfl) rfl (aV ?_)))|(refine rg 1 (iL T rfl (lW T rfl (qW T rfl (vV (cM rfl rfl (by omega) (by omega)) (vV (kC (hw)) (vV (dH rfl) (aV ?_))))))))|refine nZ ?_));all_goals first | (exfalso;omega) | exact rQ
theorem PG (ls : List LT) (x : BX) (h : -1 ≤ x.1 ∧ x.1 < ls.length ∧ 0 ≤ x.2.1 ∧ x.2.1 ≤ 20000 ∧ (x.1 = -1 → x.2.1 = 0) ∧ 0 ≤ x.2.2 ∧ x.2.2 ≤ 1073741824) (hk : ls.length ≤ 1000) : aR Tryz.prog 85 [.agg [AV.i x.1,AV.i x.2.1,AV.i x.2.2],.pr [.rowE (jX ls) 3] 0] [] (.b false) [] := by
  have e1 : (jX ls).length = ls.length := by simp
  obtain ⟨lot,ct,ta⟩ := x;dsimp only at h ⊢;have h1 := vS (n := lot) (f := -1) (t := ((jX ls).length : Int) - 1) (by omega)
  have h2 := vS (n := ct) (f := 0) (t := 20000) (by omega)
  have h3 := vS (n := ta) (f := 0) (t := 1073741824) (by omega)
  refine bQ T Tryz.func85 rfl rfl rfl rfl ?_
  (repeat' (first|refine wS ?_|refine wR ?_|(refine rg 0 (bS (cE rfl rfl) rfl (aV ?_)))|(refine rg 1 (iL T rfl (lW T rfl (qW T rfl (vV (cM rfl rfl (by omega) (by omega)) (vV (kC (h1)) (vV (dH rfl) (mW rfl (yP T rfl (yL T ?_)))))))));refine yV (kC (h2)) (yV (dH rfl) (pW rfl (mW rfl (yP T rfl (yO T rfl (yV (aO rfl rfl) (yM ?_)))))));refine cN rfl rfl ?_ ?_<;>(intro hb;rw [hb];(try simp only [nm] at hb);try (exfalso;omega));(all_goals first|(refine gT (fW T rfl (gT (lW T rfl (gT (vV (fT rfl rfl) ?_))))))|(iterate 3 refine gF ?_));(all_goals (refine gT (pW rfl (pW rfl (mV ?_)))));(all_goals first|(refine gK ?_)|(refine cN rfl rfl ?_ ?_<;>(intro hb;rw [hb];(try simp only [nm] at hb);try (exfalso;omega))));(all_goals (refine yP T rfl (yO T rfl (yV (kC (h3)) (yV (dH rfl) (pW rfl (aV ?_))))))))|refine nZ ?_));all_goals first | (exfalso;omega) | exact rQ
theorem P8 : ∀ (l m : List Int), l.Nodup → (∀ x, x ∈ l → x ∈ m) → m.length ≤ l.length → l.Perm m
  | [],m,_,_,hl => by
    have : m = [] := fJ.1 (by simpa using hl)
    subst this;exact List.Perm.refl _
  | x :: l,m,hn,hs,hl => by
    have hx := hs x (by simp)
    have h2 := List.perm_cons_erase hx
    have h3 := P8 l (m.erase x) (fB.1 hn).2 (fun y hy => by
      have hyx : y ≠ x := fun e => (fB.1 hn).1 (e ▸ hy);exact (kT hyx).2 (hs y (aN _ hy))) (by
        rw [kL hx];simp only [List.length_cons] at hl
        omega)
    exact (List.Perm.cons x h3).trans h2.symm
theorem AS {n : Nat} {ps : List Int} (hl : ps.length = n) (h : ∀ i : Nat,i < n → (i : Int) ∈ ps) : iM ps = Go.Ab.nats (List.range n) := by
  have hnd : (Go.Ab.nats (List.range n)).Nodup := List.Pairwise.map _ (fun a b hab e => hab (by omega)) ZC
  have hsub : ∀ x,x ∈ Go.Ab.nats (List.range n) → x ∈ ps := fun x hx => by
    obtain ⟨i,hi,rfl⟩ := bI.1 hx;exact h i (eN.1 hi)
  have hp : (Go.Ab.nats (List.range n)).Perm ps := P8 (Go.Ab.nats (List.range n)) ps hnd hsub (by simp [hl])
  exact Go.Pm.sorted_eq hp.symm (Go.Pm.range_le n)
theorem MT (n : Nat) : CU (Go.Ab.nats (List.range n)) n = true := by
  refine T7 fun i hi => ?_
  have hi' : i < n := by simpa using hi
  have e : ∀ k,k < n → (Go.Ab.nats (List.range n)).getD k 0 = (k : Int) := fun k hk => by
    rw [aC];simp [hk]
  unfold L3;rw [e i hi'];refine ⟨by omega,by omega,fun h0 => ?_⟩
  rw [e (i - 1) (by omega)];omega
theorem AT {ks : List KD} {ls : List LT} {ps : List Int} {bs : List BX} (t : sH ks ls ps bs) (h1 : ks.length ≤ 1000) (h2 : ls.length ≤ 1000) (h3 : ps.length ≤ 1000) :
    aR Tryz.prog 36 [.rowE (gJ ks) 2,.rowE (jX ls) 3,.rowE (ints ps) 1,.rowE (eB bs) 3] [] (.b true) [] := by
  have e3 : (ints ps).length = ps.length := by simp
  have e4 : (eB bs).length = bs.length := by simp
  have hlen := t.len;have v1 := A9 ps;have v2 := O3 ps (by omega)
  rw [AS (n := ps.length) rfl t.p] at v2;have v3 := AI (Go.Ab.nats (List.range ps.length)) ps.length (by simp;omega) (by omega)
  rw [MT] at v3;rw [show (ps.length : Int) = ((eB bs).length : Int) by omega] at v3
  have c1 := zC3 (w := ks) (F := 81) (caps := []) h1 rfl (fun x hx => by
    obtain ⟨i,hi,rfl⟩ := qD.1 hx
    exact PF _ (t.k i hi))
  have c2 := zC2 (w := ls) (F := 83) (caps := [.pr [.rowE (gJ ks) 2] 0]) h2 rfl (fun x hx => by
    obtain ⟨i,hi,rfl⟩ := qD.1 hx
    exact PE ks _ (t.l i hi) h1)
  have c3 := zC5 (w := bs) (F := 85) (caps := [.pr [.rowE (jX ls) 3] 0]) (by omega) rfl (fun x hx => by
    obtain ⟨i,hi,rfl⟩ := qD.1 hx
    exact PG ls _ (t.b i hi) h2)
  generalize Go.Ab.nats (List.range ps.length) = sr at *;refine bQ T Tryz.func36 rfl rfl rfl rfl ?_
  (repeat' (first|refine wS ?_|refine wK ?_|refine wU ?_|(refine rg 0 (bS (cE rfl rfl) rfl (bS (cE rfl rfl) rfl (aV ?_))))|(refine rg 1 (mW rfl (vV (kC (v1)) (vV (by exact eO rfl rfl v2 rfl rfl rfl) ?_)));refine aV ?_)|(refine rg 2 (mW rfl (qW T rfl (mW rfl (qW T rfl (vV (pR rfl rfl (by omega)) (mW rfl (yN rfl (yN rfl (gT ?_)))))))));refine qW T rfl (yV (kC (v3)) (yV (dH rfl) (pV ?_))))|refine nZ ?_));all_goals try (exfalso;omega)
  (repeat' (first|refine wS ?_|refine wR ?_|(refine rg 4 (lW T rfl (vV (by exact eO rfl rfl c1 rfl rfl rfl) ?_));refine aV ?_)|(refine rg 5 (dX rfl (yO T rfl (yV (by exact jG rfl rfl) ?_)));refine yV (by exact eT rfl rfl c2 (.cons (.row _ _ _) (.cons (.clo .nil (.cons (.ptr rfl (.cons (.row _ _ _) .nil)) .nil)) .nil)) rfl rfl) ?_;refine pW rfl (aV ?_))|(refine rg 6 (mW rfl (vV (dH rfl) (mW rfl (yN rfl (yV (by exact jG rfl rfl) ?_)))));refine yV (by exact eT rfl rfl c3 (.cons (.row _ _ _) (.cons (.clo .nil (.cons (.ptr rfl (.cons (.row _ _ _) .nil)) .nil)) .nil)) rfl rfl) ?_;refine yV (dH rfl) (pW rfl (aV ?_)))|refine nZ ?_));all_goals first | (exfalso;omega) | exact rQ
end Go.Proofs.YtmmkhmilpeodnaaGreat
namespace Go.Ab
open Go
section
variable {P : Program} {env : dU} {h : Hp} {d : Option Nat} {ty : TypeId} {pos : String} {af : Array Edge} {g : Option (Nat × Bool)}
end
end Go.Ab
namespace Go.Proofs.YtmmkhmilpeodnaaGreat
open Go Go.Ab
attribute [local irreducible] VC AW cF aR
set_option maxHeartbeats 4000000
theorem zL (l : List Int) : AV.idfL (ints l).flatten = true := by
  induction l with
  | nil => rfl
  | cons x l ih => exact ih
theorem zS (l : List BX) : AV.idfL (eB l).flatten = true := by
  induction l with
  | nil => rfl
  | cons x l ih => exact ih
end Go.Proofs.YtmmkhmilpeodnaaGreat
namespace Go.Proofs.YtmmkhmilpeodnaaGreat
open Go Go.Ab
attribute [local irreducible] VC AW cF aR
abbrev kI (f t : Int) : AV := .agg [.i f,.i t]
def wX (f t : Int) : Bool := decide (max f 0 < min t 20001)
def CH (f t : Int) : Int := if wX f t then max f 0 else 0
def cutT (f t : Int) : Int := if wX f t then min t 20001 else 0
theorem S9 (f t : Int) : (wX f t = true ∧ CH f t = max f 0 ∧ cutT f t = min t 20001 ∧ max f 0 < min t 20001) ∨ (wX f t = false ∧ CH f t = 0 ∧ cutT f t = 0 ∧ min t 20001 ≤ max f 0) := by
  by_cases h : max f 0 < min t 20001
  · left;simp [wX,CH,cutT,h]
  · right;simp only [wX,CH,cutT,h];simp;omega
theorem PU {a b c d : Int} {e e' : Bool} (h1 : a = c) (h2 : b = d) (h3 : e = e') : AV.tup [kI a b,.b e] = AV.tup [kI c d,.b e'] := by rw [h1,h2,h3]
theorem BA (f t : Int) : aR Tryz.prog 131 [kI f t] [] (.tup [kI (CH f t) (cutT f t),.b (wX f t)]) [] := by
  refine bQ T Tryz.func131 rfl rfl rfl rfl ?_
  (repeat' (first|(first|(refine eK ?_)|(refine oG ?_)|(refine sG ?_)|(refine pA ?_))|(first|(refine vV (by first|exact dB rfl|exact bY T rfl rfl rfl|exact aQ T rfl rfl rfl rfl|exact jP rfl rfl|exact wQ rfl rfl|exact BV rfl rfl|exact eQ T rfl rfl rfl rfl) ?_)|(refine aT T rfl rfl rfl rfl rfl rfl (by decide) rfl ?_)|(refine gV ?_)|(refine bS (by first|exact bO T rfl|exact cE rfl rfl) rfl ?_))|((refine qN rfl (fun hb=>?_) (fun hb=>?_)<;>(try simp only [nm] at hb)))));all_goals
    refine cY (.inl rfl) rfl ?_;rcases S9 f t with ⟨h1,h2,h3,h4⟩ | ⟨h1,h2,h3,h4⟩
    all_goals (first | (exfalso;omega) | (rw [h1,h2,h3];refine PU ?_ ?_ ?_ <;> first | rfl | omega))
def sQ (f t n : Int) : Bool := decide (f ≤ n) && decide (n < t)
theorem KF (f t n : Int) : aR Tryz.prog 65 [kI f t,.i n] [] (.b (sQ f t n)) [] := by
  refine bQ T Tryz.func65 rfl rfl rfl rfl ?_
  (repeat' (first|(first|(refine eK ?_)|(refine oG ?_)|(refine pA ?_))|(first|(refine vV (by first|exact bX rfl|exact dB rfl|exact bY T rfl rfl rfl|exact aQ T rfl rfl rfl rfl|exact jF rfl rfl|exact fX rfl rfl|exact aO rfl rfl|exact kJ rfl rfl) ?_)|(refine gV ?_)|(refine W3 rfl rfl ?_ rfl)|(refine W4 rfl rfl ?_ rfl)|(refine qT rfl rfl (fun hb=>?_) (fun hb=>?_) rfl<;>(rw [hb];(try simp only [nm] at hb)))|(refine bS (cE rfl rfl) rfl ?_))));all_goals
    refine cY (.inl rfl) rfl (mI ?_);simp [sQ];try omega
theorem XL (a b c d : Int) : aR Tryz.prog 93 [kI a b,kI c d] [] (.tup [kI (CH (max a c) (min b d)) (cutT (max a c) (min b d)),.b (wX (max a c) (min b d))]) [] := by
  refine bQ T Tryz.func93 rfl rfl rfl rfl ?_
  (repeat' (first|(first|(refine eK ?_)|(refine oG ?_)|(refine pA ?_))|(first|(refine vV (by first|exact dB rfl|exact bY T rfl rfl rfl|exact aQ T rfl rfl rfl rfl|exact dY rfl rfl|exact wQ rfl rfl|exact BV rfl rfl|exact eQ T rfl rfl rfl rfl|exact eO rfl rfl (BA _ _) rfl rfl rfl) ?_)|(refine aT T rfl rfl rfl rfl rfl rfl (by decide) rfl ?_)|(refine gV ?_)|(refine bS (by first|exact bO T rfl|exact cE rfl rfl) rfl ?_))));refine rQ
theorem zC0 (a b c d : Int) : aR Tryz.prog 59 [kI a b,kI c d] [] (kI (min a c) (max b d)) [] := by
  refine bQ T Tryz.func59 rfl rfl rfl rfl ?_
  (repeat' (first|(first|(refine eK ?_)|(refine oG ?_)|(refine pA ?_))|(first|(refine vV (by first|exact bY T rfl rfl rfl|exact aQ T rfl rfl rfl rfl|exact wQ rfl rfl|exact BV rfl rfl|exact eQ T rfl rfl rfl rfl) ?_)|(refine aT T rfl rfl rfl rfl rfl rfl (by decide) rfl ?_)|(refine gV ?_)|(refine bS (by first|exact bO T rfl|exact cE rfl rfl) rfl ?_))));refine rQ
theorem WH : aR Tryz.prog 130 [] [] (kI 0 20001) [] := by
  refine bQ T Tryz.func130 rfl rfl rfl rfl ?_
  (repeat' (first|(first|(refine eK ?_)|(refine oG ?_)|(refine pA ?_))|(first|(refine vV (by exact eQ T rfl rfl rfl rfl) ?_)|(refine aT T rfl rfl rfl rfl rfl rfl (by decide) rfl ?_)|(refine gV ?_)|(refine bS (bO T rfl) rfl ?_))));refine rQ
def tT (l : List Int) : Bool := l.all fun n => decide (0 ≤ n) && decide (n ≤ 1099511627776)
theorem IG (l : List Int) (k : Nat) (h : k < l.length) : tT (l.drop k) = (decide (0 ≤ l[k]) && decide (l[k] ≤ 1099511627776) && tT (l.drop (k + 1))) := by
  rw [aU h];rfl
theorem B9 (l : List Int) (hm : l.length ≤ 1000) : aR Tryz.prog 129 [.rowE (ints l) 1] [] (.b (tT l)) [] := by
  refine bQ T Tryz.func129 rfl rfl rfl rfl ?_
  (repeat' (first|(first|(refine eK ?_)|(refine oG ?_)|(refine tY ?_))|(first|(refine vV (by first|exact bX rfl|exact dB rfl|exact eP T rfl rfl) ?_)|(refine gV ?_))));refine dA (X := {k : Nat // k ≤ (ints l).length ∧ tT l = tT (l.drop k)}) (fun k => [(5,.rowE (ints l) 1),(6,.i (ints l).length),(7,.i k.1)]) (fun _ => []) (fun k => (ints l).length - k.1) ⟨0,by simp,rfl⟩ (eW []) ?_
  rintro ⟨k,hk,hf⟩;dsimp only;have hlen : (ints l).length = l.length := by simp
  repeat' (first|(first|(refine eK ?_)|(refine oG ?_)|(refine tY ?_)|(refine sG ?_)|(refine pA ?_)|(refine LN ?_))|(first|(refine vV (by first|exact dB rfl|exact aO rfl rfl) ?_)|(refine gV ?_))|((refine qN rfl (fun hb=>?_) (fun hb=>?_)<;>(try simp only [nm] at hb))))
  · have hlt : k < l.length := by omega
    have hs := IG l k hlt;refine vO (D2 T rfl rfl rfl rfl rfl (by omega) (cH l) (mC hlt)) rfl ?_
    (repeat' (first|(first|(refine eK ?_)|(refine oG ?_)|(refine sG ?_)|(refine pA ?_))|(first|(refine vV (by first|exact bX rfl|exact dB rfl|exact aQ T rfl rfl rfl rfl|exact jF rfl rfl|exact fX rfl rfl|exact bT rfl rfl (by omega) (by omega)|exact aO rfl rfl|exact fT rfl rfl) ?_)|(refine gV ?_)|(refine W3 rfl rfl ?_ rfl)|(refine W4 rfl rfl ?_ rfl)|(refine qT rfl rfl (fun hb=>?_) (fun hb=>?_) rfl<;>(rw [hb];(try simp only [nm] at hb))))|(first|(refine wT ?_)|(refine qN rfl (fun hb=>?_) (fun hb=>?_)<;>(try simp only [nm] at hb)))));all_goals first
      | (refine cY (.inl rfl) rfl (mI ?_);rw [hf,hs];simp;omega)
      | (refine ⟨⟨k + 1,by omega,?_⟩,by simp;omega,eW []⟩;rw [hf,hs];simp;omega)
  · refine cY (.inl rfl) rfl (mI ?_);rw [hf,cX (by omega)];rfl
theorem ST {a b : Int} (h : 0 ≤ a ∧ a ≤ 1099511627776 ∧ 0 ≤ b ∧ b ≤ 1099511627776) : tT [a,b] = true := by simp [tT];omega
theorem SV {a b : Int} (h : ¬ (0 ≤ a ∧ a ≤ 1099511627776 ∧ 0 ≤ b ∧ b ≤ 1099511627776)) : tT [a,b] = false := by
  rw [← eJ];simp [tT];omega
theorem SS {a b c d : Int} (h : 0 ≤ a ∧ a ≤ 1099511627776 ∧ 0 ≤ b ∧ b ≤ 1099511627776 ∧ 0 ≤ c ∧ c ≤ 1099511627776 ∧ 0 ≤ d ∧ d ≤ 1099511627776) : tT [a,b,c,d] = true := by simp [tT];omega
theorem SU {a b c d : Int} (h : ¬ (0 ≤ a ∧ a ≤ 1099511627776 ∧ 0 ≤ b ∧ b ≤ 1099511627776 ∧ 0 ≤ c ∧ c ≤ 1099511627776 ∧ 0 ≤ d ∧ d ≤ 1099511627776)) : tT [a,b,c,d] = false := by
  rw [← eJ];simp [tT];omega
theorem XY {a b : Int} (h : 0 ≤ a ∧ a ≤ 1099511627776 ∧ 0 ≤ b ∧ b ≤ 1099511627776) : aR Tryz.prog 129 [.rowE (ints [a,b]) 1] [] (.b true) [] := ST h ▸ B9 [a,b] (by simp)
theorem YA {a b : Int} (h : ¬ (0 ≤ a ∧ a ≤ 1099511627776 ∧ 0 ≤ b ∧ b ≤ 1099511627776)) : aR Tryz.prog 129 [.rowE (ints [a,b]) 1] [] (.b false) [] := SV h ▸ B9 [a,b] (by simp)
theorem BY {a b c d : Int} (h : 0 ≤ a ∧ a ≤ 1099511627776 ∧ 0 ≤ b ∧ b ≤ 1099511627776 ∧ 0 ≤ c ∧ c ≤ 1099511627776 ∧ 0 ≤ d ∧ d ≤ 1099511627776) : aR Tryz.prog 129 [.rowE (ints [a,b,c,d]) 1] [] (.b true) [] := SS h ▸ B9 [a,b,c,d] (by simp)
theorem XZ {a b c d : Int} (h : ¬ (0 ≤ a ∧ a ≤ 1099511627776 ∧ 0 ≤ b ∧ b ≤ 1099511627776 ∧ 0 ≤ c ∧ c ≤ 1099511627776 ∧ 0 ≤ d ∧ d ≤ 1099511627776)) : aR Tryz.prog 129 [.rowE (ints [a,b,c,d]) 1] [] (.b false) [] := SU h ▸ B9 [a,b,c,d] (by simp)
theorem MW (f t n s : Int) (hf : 0 ≤ f ∧ f ≤ 20001 ∧ 0 ≤ t ∧ t ≤ 20001) (h : 0 ≤ n ∧ n ≤ 1099511627776 ∧ 0 ≤ s ∧ s ≤ 1099511627776) : aR Tryz.prog 94 [kI f t,.i n,.i s] [] (.tup [kI (CH (f - n - s) (t - max (n - s) 0)) (cutT (f - n - s) (t - max (n - s) 0)),.b (wX (f - n - s) (t - max (n - s) 0))]) [] := by
  refine bQ T Tryz.func94 rfl rfl rfl rfl ?_
  (repeat' (first|(first|(refine eK ?_)|(refine oG ?_)|(refine sG ?_)|(refine pA ?_))|(first|(refine vV (by first|exact bX rfl|exact dB rfl|exact bY T rfl rfl rfl|exact aQ T rfl rfl rfl rfl|exact cM rfl rfl (by omega) (by omega)|exact dH rfl|exact dY rfl rfl|exact wQ rfl rfl|exact eQ T rfl rfl rfl rfl|exact eO rfl rfl (BA _ _) rfl rfl rfl|exact eT rfl rfl (XY h) (by ((repeat (first|exact .nil|exact .v _|refine .cons ?_ ?_|refine .sl rfl (by simp) ?_));done)) rfl rfl) ?_)|(refine aT T rfl rfl rfl rfl rfl rfl (by decide) rfl ?_)|(refine gV ?_)|(refine bS (by first|exact bO T rfl|exact cE rfl rfl|exact bB T rfl rfl (by decide) (by decide) rfl rfl rfl) rfl ?_))|((refine wU ?_))));exact rQ
theorem HV (f t n s : Int) (h : ¬ (0 ≤ n ∧ n ≤ 1099511627776 ∧ 0 ≤ s ∧ s ≤ 1099511627776)) : aR Tryz.prog 94 [kI f t,.i n,.i s] [] (.tup [kI 0 0,.b false]) [] := by
  refine bQ T Tryz.func94 rfl rfl rfl rfl ?_
  (repeat' (first|(first|(refine eK ?_)|(refine oG ?_)|(refine pA ?_))|(first|(refine vV (by first|exact bX rfl|exact dB rfl|exact dH rfl|exact eQ T rfl rfl rfl rfl|exact eT rfl rfl (YA h) (by ((repeat (first|exact .nil|exact .v _|refine .cons ?_ ?_|refine .sl rfl (by simp) ?_));done)) rfl rfl) ?_)|(refine aT T rfl rfl rfl rfl rfl rfl (by decide) rfl ?_)|(refine gV ?_)|(refine bS (by first|exact bO T rfl|exact cE rfl rfl|exact bB T rfl rfl (by decide) (by decide) rfl rfl rfl) rfl ?_))|((refine wT ?_))));exact rQ
def BZ (a b c d : Int) : Prop := 0 ≤ a ∧ a ≤ 1099511627776 ∧ 0 ≤ b ∧ b ≤ 1099511627776 ∧ 0 ≤ c ∧ c ≤ 1099511627776 ∧ 0 ≤ d ∧ d ≤ 1099511627776
theorem HG (t u w e : Int) (h : ¬ BZ t u w e) : aR Tryz.prog 92 [.i t,.i u,.i w,.i e] [] (.tup [kI 0 0,.b false]) [] := by
  refine bQ T Tryz.func92 rfl rfl rfl rfl ?_
  (repeat' (first|(first|(refine eK ?_)|(refine oG ?_)|(refine pA ?_))|(first|(refine vV (by first|exact bX rfl|exact dB rfl|exact dH rfl|exact eQ T rfl rfl rfl rfl|exact eT rfl rfl (XZ h) (by ((repeat (first|exact .nil|exact .v _|refine .cons ?_ ?_|refine .sl rfl (by simp) ?_));done)) rfl rfl) ?_)|(refine aT T rfl rfl rfl rfl rfl rfl (by decide) rfl ?_)|(refine gV ?_)|(refine bS (by first|exact bO T rfl|exact bB T rfl rfl (by decide) (by decide) rfl rfl rfl) rfl ?_))|((refine wT ?_))));exact rQ
theorem DK (t u w e : Int) (h : BZ t u w e) (h1 : w + e - t < 0 ∨ u = 0 ∧ 0 < w - e - t) : aR Tryz.prog 92 [.i t,.i u,.i w,.i e] [] (.tup [kI 0 0,.b false]) [] := by
  have h' := h;unfold BZ at h';refine bQ T Tryz.func92 rfl rfl rfl rfl ?_
  (repeat' (first|(first|(refine eK ?_)|(refine oG ?_)|(refine tY ?_)|(refine sG ?_)|(refine pA ?_))|(first|(refine vV (by first|exact bX rfl|exact dB rfl|exact jF rfl rfl|exact fX rfl rfl|exact bT rfl rfl (by omega) (by omega)|exact cM rfl rfl (by omega) (by omega)|exact aO rfl rfl|exact fT rfl rfl|exact dJ rfl rfl|exact dH rfl|exact eQ T rfl rfl rfl rfl|exact eT rfl rfl (BY h) (by ((repeat (first|exact .nil|exact .v _|refine .cons ?_ ?_|refine .sl rfl (by simp) ?_));done)) rfl rfl) ?_)|(refine aT T rfl rfl rfl rfl rfl rfl (by decide) rfl ?_)|(refine gV ?_)|(refine W3 rfl rfl ?_ rfl)|(refine W4 rfl rfl ?_ rfl)|(refine JL rfl rfl ?_ rfl)|(refine qT rfl rfl (fun hb=>?_) (fun hb=>?_) rfl<;>(rw [hb];(try simp only [nm] at hb)))|(refine bS (by first|exact bO T rfl|exact bB T rfl rfl (by decide) (by decide) rfl rfl rfl) rfl ?_))|(first|(refine wT ?_)|(refine wU ?_)|(refine qN rfl (fun hb=>?_) (fun hb=>?_)<;>(try simp only [nm] at hb)))));all_goals first | (exfalso;omega) | exact rQ | skip
theorem DL (t u w e : Int) (h : BZ t u w e) (h1 : 0 ≤ w + e - t) (h2 : u = 0) (h3 : w - e - t ≤ 0) : aR Tryz.prog 92 [.i t,.i u,.i w,.i e] [] (.tup [kI 0 20001,.b true]) [] := by
  have h' := h;unfold BZ at h';refine bQ T Tryz.func92 rfl rfl rfl rfl ?_
  (repeat' (first|(first|(refine eK ?_)|(refine oG ?_)|(refine tY ?_)|(refine sG ?_)|(refine pA ?_))|(first|(refine vV (by first|exact bX rfl|exact dB rfl|exact jF rfl rfl|exact fX rfl rfl|exact bT rfl rfl (by omega) (by omega)|exact cM rfl rfl (by omega) (by omega)|exact aO rfl rfl|exact fT rfl rfl|exact dJ rfl rfl|exact dH rfl|exact eQ T rfl rfl rfl rfl|exact eT rfl rfl (BY h) (by ((repeat (first|exact .nil|exact .v _|refine .cons ?_ ?_|refine .sl rfl (by simp) ?_));done)) rfl rfl|exact kC (WH)) ?_)|(refine aT T rfl rfl rfl rfl rfl rfl (by decide) rfl ?_)|(refine gV ?_)|(refine W3 rfl rfl ?_ rfl)|(refine W4 rfl rfl ?_ rfl)|(refine JL rfl rfl ?_ rfl)|(refine qT rfl rfl (fun hb=>?_) (fun hb=>?_) rfl<;>(rw [hb];(try simp only [nm] at hb)))|(refine bS (by first|exact bO T rfl|exact bB T rfl rfl (by decide) (by decide) rfl rfl rfl) rfl ?_))|(first|(refine wT ?_)|(refine wU ?_)|(refine qN rfl (fun hb=>?_) (fun hb=>?_)<;>(try simp only [nm] at hb)))));all_goals first | exact rQ | (exfalso;omega)
def zG0 (t u w e : Int) : Int := (max (w - e - t) 0 + u - 1) / u
def zF9 (t u w e : Int) : Int := (w + e - t) / u + 1
set_option maxHeartbeats 1000000 in
theorem HH (t u w e : Int) (h : BZ t u w e) (h1 : 0 ≤ w + e - t) (h2 : 0 < u) : aR Tryz.prog 92 [.i t,.i u,.i w,.i e] [] (.tup [kI (CH (zG0 t u w e) (zF9 t u w e)) (cutT (zG0 t u w e) (zF9 t u w e)),.b (wX (zG0 t u w e) (zF9 t u w e))]) [] := by
  have h' := h;unfold BZ at h';have q1 := Int.ediv_nonneg h1 (Int.le_of_lt h2);have q2 := Int.ediv_le_self u h1;refine bQ T Tryz.func92 rfl rfl rfl rfl ?_
  (repeat' (first|(first|(refine eK ?_)|(refine oG ?_)|(refine tY ?_)|(refine sG ?_)|(refine pA ?_))|(first|(refine vV (by first|exact bX rfl|exact dB rfl|exact jF rfl rfl|exact fX rfl rfl|exact bT rfl rfl (by omega) (by omega)|exact cM rfl rfl (by omega) (by omega)|exact aO rfl rfl|exact fT rfl rfl|exact dJ rfl rfl|exact dH rfl|exact eQ T rfl rfl rfl rfl|exact eT rfl rfl (BY h) (by ((repeat (first|exact .nil|exact .v _|refine .cons ?_ ?_|refine .sl rfl (by simp) ?_));done)) rfl rfl) ?_)|(refine aT T rfl rfl rfl rfl rfl rfl (by decide) rfl ?_)|(refine gV ?_)|(refine W3 rfl rfl ?_ rfl)|(refine W4 rfl rfl ?_ rfl)|(refine JL rfl rfl ?_ rfl)|(refine qT rfl rfl (fun hb=>?_) (fun hb=>?_) rfl<;>(rw [hb];(try simp only [nm] at hb)))|(refine bS (by first|exact bO T rfl|exact bB T rfl rfl (by decide) (by decide) rfl rfl rfl) rfl ?_))|(first|(refine dV rfl (by first|exact bX rfl|exact bT rfl rfl (by omega) (by omega)|exact cM rfl rfl (by omega) (by omega)|exact XP rfl rfl (by omega) (by omega) (by omega)|exact dY rfl rfl|exact wQ rfl rfl|exact eQ T rfl rfl rfl rfl|exact eO rfl rfl (BA _ _) rfl rfl rfl) ?_)|(refine CG rfl rfl (by (dsimp only [List.nil_append,List.cons_append,lN,List.append_nil];done)) ?_))|(refine GI (id := 8) [[],[0],[],[0,1,2],rN 4,[],rN 6,[],[],[7,8],[7,8,9],rN 11,rN 12,rN 13,rN 13] (rM 46 15) [[],[],[46,47],[],[],rM 46 5,[],rM 46 7,rM 46 8,rM 46 7,rM 46 7,[],[],[],[59]] cC (by decide +kernel) ?_)|(first|(refine wT ?_)|(refine wU ?_)|(refine qN rfl (fun hb=>?_) (fun hb=>?_)<;>(try simp only [nm] at hb)))));all_goals first | (exfalso;omega) | exact rQ
end Go.Proofs.YtmmkhmilpeodnaaGreat
namespace Go.Ld
open Go.Ab Go.Proofs.YtmmkhmilpeodnaaGreat
abbrev SP := Int × Int
abbrev W := List Int × Int × List SP
abbrev G := List Int × List W
abbrev eZ (l : List SP) : List (List AV) := l.map fun p => [AV.i p.1,AV.i p.2]
abbrev wA (w : W) : List AV := [.rowE (Go.Proofs.YtmmkhmilpeodnaaGreat.ints w.1) 1,.i w.2.1,.rowE (eZ w.2.2) 2]
abbrev fP (l : List W) : List (List AV) := l.map wA
abbrev gA (g : G) : List AV := [.rowE (Go.Proofs.YtmmkhmilpeodnaaGreat.ints g.1) 1,.rowE (fP g.2) 3]
abbrev iY (l : List G) : List (List AV) := l.map gA
def cI (a b : Int) : Int := if a < b then -1 else if b < a then 1 else 0
def J1 (a b : Int) : Int := if a = 0 then b else a
def cL : List Int → List Int → Int
  | [],[] => 0
  | [],_ :: _ => -1
  | _ :: _,[] => 1
  | x :: a,y :: b => J1 (cI x y) (cL a b)
def cS (x y : SP) : Int := J1 (cI x.1 y.1) (cI x.2 y.2)
def cB : List SP → List SP → Int
  | [],[] => 0
  | [],_ :: _ => -1
  | _ :: _,[] => 1
  | x :: a,y :: b => J1 (cS x y) (cB a b)
def nS (a b : W) : Int := J1 (cL a.1 b.1) (cB a.2.2 b.2.2)
def eI (a b : W) : Int := J1 (nS a b) (cI a.2.1 b.2.1)
structure AN {α : Type} (c : α → α → Int) : Prop where
  eq : ∀ a b,c a b = 0 ↔ a = b
  neg : ∀ a b,c a b = - c b a
  tr : ∀ a b d,c a b < 0 → c b d < 0 → c a d < 0
theorem AN.rfl' {α : Type} {c : α → α → Int} (h : AN c) (a : α) : c a a = 0 := (h.eq a a).2 rfl
theorem AN.le_tr {α : Type} {c : α → α → Int} (h : AN c) {a b d : α} (h1 : c a b ≤ 0) (h2 : c b d ≤ 0) : c a d ≤ 0 := by
  by_cases e : c a b = 0
  · rw [(h.eq _ _).1 e];exact h2
  · by_cases e' : c b d = 0
    · rw [← (h.eq _ _).1 e'];exact h1
    · have := h.tr a b d (by omega) (by omega);omega
theorem oZ : AN cI where
  eq a b := by unfold cI;split <;> (try split) <;> omega
  neg a b := by unfold cI;split <;> split <;> (try split) <;> omega
  tr a b d := by unfold cI; repeat' split
                 all_goals omega
theorem BF {a b : Int} : J1 a b = 0 ↔ a = 0 ∧ b = 0 := by unfold J1;split <;> omega
theorem BE {a b : Int} : J1 (-a) (-b) = - J1 a b := by unfold J1;split <;> split <;> omega
theorem HZ {a b : Int} : J1 a b < 0 ↔ a < 0 ∨ a = 0 ∧ b < 0 := by unfold J1;split <;> omega
theorem AN.lex {α β γ : Type} {c : α → α → Int} {d : β → β → Int} (hc : AN c) (hd : AN d) (f : γ → α) (g : γ → β) (inj : ∀ x y, f x = f y → g x = g y → x = y) : AN fun x y => J1 (c (f x) (f y)) (d (g x) (g y)) where
  eq a b := by
    rw [BF,hc.eq,hd.eq];exact ⟨fun h => inj _ _ h.1 h.2,fun h => by rw [h];exact ⟨rfl,rfl⟩⟩
  neg a b := by rw [hc.neg,hd.neg,BE]
  tr a b e h1 h2 := by
    simp only [HZ] at *;rcases h1 with h1 | ⟨h1,h1'⟩
    · rcases h2 with h2 | ⟨h2,h2'⟩
      · exact .inl (hc.tr _ _ _ h1 h2)
      · rw [(hc.eq _ _).1 h2] at h1;exact .inl h1
    · rw [(hc.eq _ _).1 h1];rcases h2 with h2 | ⟨h2,h2'⟩
      · exact .inl h2
      · exact .inr ⟨h2,hd.tr _ _ _ h1' h2'⟩
theorem TM : AN cL where
  eq := fun a => by
    induction a with
    | nil => intro b;cases b <;> simp [cL]
    | cons x a ih => intro b; cases b with
      | nil => simp [cL]
      | cons y b => simp only [cL,BF,oZ.eq,ih,List.cons.injEq]
  neg := fun a => by
    induction a with
    | nil => intro b;cases b <;> simp [cL]
    | cons x a ih => intro b; cases b with
      | nil => simp [cL]
      | cons y b => simp only [cL];rw [oZ.neg,ih,BE]
  tr := fun a => by
    induction a with
    | nil => intro b d;cases b <;> cases d <;> simp [cL]
    | cons x a ih =>
      intro b d h1 h2;cases b with
      | nil => simp [cL] at h1
      | cons y b => cases d with
        | nil => simp [cL] at h2
        | cons z d =>
          simp only [cL,HZ] at *;rcases h1 with h1 | ⟨h1,h1'⟩
          · rcases h2 with h2 | ⟨h2,h2'⟩
            · exact .inl (oZ.tr _ _ _ h1 h2)
            · rw [(oZ.eq _ _).1 h2] at h1;exact .inl h1
          · rw [(oZ.eq _ _).1 h1];rcases h2 with h2 | ⟨h2,h2'⟩
            · exact .inl h2
            · exact .inr ⟨h2,ih _ _ h1' h2'⟩
theorem T2 : AN cS := AN.lex oZ oZ (·.1) (·.2) fun x y h1 h2 => Prod.ext h1 h2
theorem TN : AN cB where
  eq := fun a => by
    induction a with
    | nil => intro b;cases b <;> simp [cB]
    | cons x a ih => intro b; cases b with
      | nil => simp [cB]
      | cons y b => simp only [cB,BF,T2.eq,ih,List.cons.injEq]
  neg := fun a => by
    induction a with
    | nil => intro b;cases b <;> simp [cB]
    | cons x a ih => intro b; cases b with
      | nil => simp [cB]
      | cons y b => simp only [cB];rw [T2.neg,ih,BE]
  tr := fun a => by
    induction a with
    | nil => intro b d;cases b <;> cases d <;> simp [cB]
    | cons x a ih =>
      intro b d h1 h2;cases b with
      | nil => simp [cB] at h1
      | cons y b => cases d with
        | nil => simp [cB] at h2
        | cons z d =>
          simp only [cB,HZ] at *;rcases h1 with h1 | ⟨h1,h1'⟩
          · rcases h2 with h2 | ⟨h2,h2'⟩
            · exact .inl (T2.tr _ _ _ h1 h2)
            · rw [(T2.eq _ _).1 h2] at h1;exact .inl h1
          · rw [(T2.eq _ _).1 h1];rcases h2 with h2 | ⟨h2,h2'⟩
            · exact .inl h2
            · exact .inr ⟨h2,ih _ _ h1' h2'⟩
theorem ET : AN (fun x y : List Int × List SP => J1 (cL x.1 y.1) (cB x.2 y.2)) := AN.lex TM TN (·.1) (·.2) fun x y h1 h2 => Prod.ext h1 h2
theorem iR : AN eI := AN.lex ET oZ (fun w : W => (w.1,w.2.2)) (fun w => w.2.1) fun x y h1 h2 => by
  obtain ⟨a,b,c⟩ := x;obtain ⟨a',b',c'⟩ := y;simp at h1 h2;obtain ⟨h1,h3⟩ := h1;rw [h1,h2,h3]
theorem oB {a b : W} : nS a b = 0 ↔ a.1 = b.1 ∧ a.2.2 = b.2.2 := by unfold nS;rw [BF,TM.eq,TN.eq]
def V0 {α : Type} (c : α → α → Int) (w : α) : List α → List α
  | [] => [w]
  | x :: l => if c w x ≤ 0 then w :: x :: l else x :: V0 c w l
def dW {α : Type} (c : α → α → Int) : List α → List α
  | [] => []
  | x :: l => V0 c x (dW c l)
theorem xT {α : Type} (c : α → α → Int) (w : α) : ∀ l, (V0 c w l).Perm (w :: l)
  | [] => .refl _
  | x :: l => by
    unfold V0;split
    · exact .refl _
    · exact ((xT c w l).cons x).trans (.swap _ _ _)
theorem dS {α : Type} (c : α → α → Int) : ∀ l, (dW c l).Perm l
  | [] => .refl _
  | x :: l => (xT c x _).trans ((dS c l).cons x)
theorem KX {α : Type} {c : α → α → Int} (h : AN c) (w : α) : ∀ {l : List α}, l.Pairwise (fun a b => c a b ≤ 0) → (V0 c w l).Pairwise (fun a b => c a b ≤ 0)
  | [],_ => kY _ _
  | x :: l,hl => by
    rw [eR] at hl;unfold V0;split
    · rename_i hw;rw [eR,eR];refine ⟨fun y hy => ?_,hl⟩
      rcases bN.1 hy with rfl | hy
      · exact hw
      · exact h.le_tr hw (hl.1 y hy)
    · rename_i hw;rw [eR];refine ⟨fun y hy => ?_,KX h w hl.2⟩
      rcases bN.1 ((xT c w l).mem_iff.1 hy) with rfl | hy
      · have := h.neg x y;omega
      · exact hl.1 y hy
theorem kN {α : Type} {c : α → α → Int} (h : AN c) : ∀ l, (dW c l).Pairwise (fun a b => c a b ≤ 0)
  | [] => .nil
  | x :: l => KX h x (kN h l)
theorem zJ {α : Type} {c : α → α → Int} (h : AN c) {l m : List α} (hp : m.Perm l) (hm : m.Pairwise (fun a b => c a b ≤ 0)) : m = dW c l :=
  List.Perm.eq_of_pairwise (le := fun a b => c a b ≤ 0) (fun a b _ _ h1 h2 => (h.eq a b).1 (by have := h.neg a b;omega)) hm (kN h l) (hp.trans (dS c l).symm)
def jS {α : Type} (e : α → α → Bool) (p : α) : List α → List α
  | [] => []
  | y :: l => if e y p then jS e y l else y :: jS e y l
def wY {α : Type} (e : α → α → Bool) : List α → List α
  | [] => []
  | x :: l => x :: jS e x l
def yY (a b : W) : Bool := decide (nS a b = 0)
def gD (l : List W) : List W := wY yY (dW eI l)
structure Cx where
  m : Int
  st : Int
  er : Int
  sl : Int
  ks : List KD
  ls : List LT
  bs : List BX
structure Ev where
  k : Int
  a : Int
  b : Int
  n : Int
  ids : List Int
def gP (w : W) (i : Nat) : Int := w.1.getD i 0
def gC (w : W) (i : Nat) : SP := w.2.2.getD i (0,0)
def sC (w : W) (i : Nat) (r : SP) : W := (w.1,w.2.1,w.2.2.set i r)
def D9 (f t : Int) : SP × Bool := ((CH f t,cutT f t),wX f t)
def Z9 (a b c d : Int) : Bool := decide (0 ≤ a ∧ a ≤ 1099511627776 ∧ 0 ≤ b ∧ b ≤ 1099511627776 ∧ 0 ≤ c ∧ c ≤ 1099511627776 ∧ 0 ≤ d ∧ d ≤ 1099511627776)
def OY (t u w e : Int) : SP × Bool := if Z9 t u w e = true then (if w + e - t < 0 ∨ u = 0 ∧ 0 < w - e - t then ((0,0),false) else if u = 0 then ((0,20001),true) else D9 (zG0 t u w e) (zF9 t u w e)) else ((0,0),false)
def sJ (t u w e : Int) (r : SP) : SP × Bool := let q := OY t u w e;if q.2 then D9 (max r.1 q.1.1) (min r.2 q.1.2) else q
def wG (r : SP) (n s : Int) : SP × Bool := if 0 ≤ n ∧ n ≤ 1099511627776 ∧ 0 ≤ s ∧ s ≤ 1099511627776 then D9 (r.1 - n - s) (r.2 - max (n - s) 0) else ((0,0),false)
def jJ (c : Cx) (w : W) (i : Nat) (s : Ev) : W × Bool :=
  if s.k = 0 then (if gP w i ∈ s.ids then (w,decide ((s.ids.length : Int) - 1 ≤ c.st)) else ((w.1,w.2.1 + 1,w.2.2),decide ((s.ids.length : Int) ≤ c.st)))
  else if s.k = 1 then
    let b := c.bs.getD (gP w i).toNat (0,0,0)
    let q := sJ b.2.2 (mQ c.ks c.ls b.1) s.n c.er (gC w i)
    (sC w i q.1,q.2)
  else if s.k = 2 then let q := wG (gC w i) s.n c.sl;(sC w i q.1,q.2)
  else if s.k = 3 then (sC w i (s.n,s.n + 1),sQ (gC w i).1 (gC w i).2 s.n)
  else if s.k = 5 then (w,decide (gP w i = s.n))
  else (w,true)
def nX (w : W) (i k : Nat) : W := ((w.1.set i (gP w k)).set k (gP w i),w.2.1,(w.2.2.set i (gC w k)).set k (gC w i))
def oY (l : List G) (b : Int) : Int := match l.findIdx? fun g => decide (b ∈ g.1) with
  | some i => i
  | none => -1
def yU (a b : G) (x y : W) (l : List Int) : W := (l.map (fun k => if k ∈ a.1 then gP x (a.1.idxOf k) else gP y (b.1.idxOf k)),x.2.1 + y.2.1,l.map (fun k => if k ∈ a.1 then gC x (a.1.idxOf k) else gC y (b.1.idxOf k)))
def oD (a b : G) (l : List Int) : List W := a.2.flatMap fun x => b.2.map fun y => yU a b x y l
def mO (l : List G) (i : Nat) : G := l.getD i ([],[])
def mB (x y : G) : G := let bodies := dW cI (x.1 ++ y.1);(bodies,oD x y bodies)
def join (l : List G) (a b : Int) : Option (List G) :=
  let i := oY l a;let k := oY l b
  if i = k then some l else
  let x := mO l i.toNat;let y := mO l k.toNat
  if 6 < x.1.length + y.1.length ∨ 1000 < x.2.length * y.2.length then none else
  some ((l.set (min i k).toNat (mB x y)).eraseIdx (max i k).toNat)
def iJ (g : G) : Int := match g.2 with
  | [] => 0
  | w :: l => l.foldl (fun m x => if x.2.1 < m then x.2.1 else m) w.2.1
def vU (g : G) (i : Nat) : Bool := match g.2 with
  | [] => false
  | f :: l => (f :: l).all fun w => decide (gP w i = gP f i ∧ gC w i = gC f i)
def gX (g : G) : Option Nat := if g.1.length < 2 ∨ g.2 = [] then none else (List.range g.1.length).find? (vU g)
def gY (g : G) : W := g.2.headD ([],0,[])
def mM (g : G) (k : Nat) : G := ([g.1.getD k 0],[([gP (gY g) k],0,[gC (gY g) k])])
def jL (g : G) (k : Nat) : G := (g.1.eraseIdx k,gD (g.2.map fun w => (w.1.eraseIdx k,w.2.1,w.2.2.eraseIdx k)))
def mL : Nat → G → List G
  | 0,g => [g]
  | n + 1, g => match gX g with
    | none => [g]
    | some k => mM g k :: mL n (jL g k)
def cG (a b : G) : Int := cI (a.1.headD 0) (b.1.headD 0)
def vD (l : List G) : List G := dW cG (l.flatMap fun g => mL g.1.length g)
def mR (l : List G) : Int := (l.map iJ).sum
def paid (c : Cx) (all : List G) : List G := all.map fun g => (g.1,g.2.filter fun w => decide (w.2.1 + (mR all - iJ g) ≤ c.m))
def B3 (c : Cx) (all : List G) : List G := vD (paid c all)
def lZ (c : Cx) (s : Ev) (g : G) : List W :=
  let i := g.1.idxOf s.a
  g.2.flatMap fun w => (if (jJ c w i s).2 then [(jJ c w i s).1] else []) ++ (if s.k = 4 then [nX w i (g.1.idxOf s.b)] else [])
def YY (l : List Int) (n : Int) : Bool := (List.range l.length).all fun i => decide (0 ≤ l.getD i 0 ∧ l.getD i 0 ≤ n - 1 ∧ (0 < i → l.getD (i - 1) 0 < l.getD i 0))
def jE (n : Int) (s : Ev) : Bool := decide (0 ≤ s.a ∧ s.a ≤ n - 1) && decide (s.k = 0 ∨ s.ids.length = 0) && decide (s.k = 4 ∨ s.b = 0) &&
  (if s.k = 0 then decide (s.n = 0) && YY s.ids n else if s.k = 1 ∨ s.k = 2 ∨ s.k = 3 then decide (0 ≤ s.n ∧ s.n ≤ 1099511627776) else if s.k = 4 then decide (s.n = 0 ∧ s.a + 1 ≤ s.b ∧ s.b ≤ n - 1) else if s.k = 5 then decide (0 ≤ s.n ∧ s.n ≤ n - 1) else false)
def vT (c : Cx) (l all : List G) (s : Ev) : Int × List G :=
  let at_ := (oY all s.a).toNat
  let g := mO all at_
  let ws := gD (lZ c s g)
  if ws = [] then (26,l) else if 1000 < ws.length then (6,l) else
  let out := B3 c (all.set at_ (g.1,ws))
  if out.any (fun g => g.2.isEmpty) then (26,l) else (0,out)
def nL (c : Cx) (l : List G) (s : Ev) : Int × List G :=
  if jE c.bs.length s then
    (if s.k = 4 then (match join l s.a s.b with
      | none => (6,l)
      | some all => vT c l all s)
    else vT c l l s)
  else (1,l)
def rB (c : Cx) : List G := (List.range c.bs.length).map fun (i : Nat) => ([(i : Int)],[([(i : Int)],0,[((c.bs.getD i (0,0,0)).2.1,(c.bs.getD i (0,0,0)).2.1 + 1)])])
theorem WT {a b d : W} (h1 : nS a b < 0) (h2 : nS b d < 0) : nS a d < 0 := ET.tr (a.1,a.2.2) (b.1,b.2.2) (d.1,d.2.2) h1 h2
theorem HX {a b d : W} (h : nS b a = 0) : nS a d = nS b d := by
  obtain ⟨h1,h2⟩ := oB.1 h;unfold nS;rw [h1,h2]
theorem LJ {a b : W} (h : eI a b ≤ 0) : nS a b < 0 ∨ nS a b = 0 ∧ a.2.1 ≤ b.2.1 := by
  unfold eI J1 at h;split at h
  · rename_i e;refine .inr ⟨e,?_⟩;unfold cI at h;split at h <;> (try split at h) <;> omega
  · omega
theorem uT {α : Type} (e : α → α → Bool) : ∀ (p : α) (l : List α), (jS e p l).Sublist l
  | _,[] => .slnil
  | p,y :: l => by
    unfold jS;split
    · exact (uT e y l).cons _
    · exact (uT e y l).cons_cons _
theorem AD {α : Type} (e : α → α → Bool) : ∀ (l : List α), (wY e l).Sublist l
  | [] => .slnil
  | x :: l => (uT e x l).cons_cons _
theorem rY {l : List W} {w : W} (h : w ∈ gD l) : w ∈ l := (dS eI l).mem_iff.1 ((AD _ _).mem h)
theorem wI (l : List W) : (gD l).length ≤ l.length := by
  have := (AD yY (dW eI l)).length_le;rw [(dS eI l).length_eq] at this;exact this
theorem sV : ∀ (l : List W) (q p : W), (p :: l).Pairwise (fun a b => eI a b ≤ 0) → nS q p = 0 → q.2.1 ≤ p.2.1 → ∀ w, w ∈ p :: l → ∃ v, v ∈ q :: jS yY p l ∧ nS v w = 0 ∧ v.2.1 ≤ w.2.1
  | [],q,p,hs,h1,h2,w,hw => by
    rcases bN.1 hw with rfl | hw
    · exact ⟨q,aS,h1,h2⟩
    · cases hw
  | y :: l,q,p,hs,h1,h2,w,hw => by
    have hs' := eR.1 hs;rcases bN.1 hw with rfl | hw
    · exact ⟨q,aS,h1,h2⟩
    · unfold jS;by_cases e : yY y p = true
      · rw [if_pos e];have e' : nS y p = 0 := by unfold yY at e;simpa using e
        have hpy : nS p y = 0 := by obtain ⟨a,b⟩ := oB.1 e';exact oB.2 ⟨a.symm,b.symm⟩
        rcases LJ (hs'.1 y aS) with hl | ⟨_,hl⟩
        · omega
        · refine sV l q y hs'.2 ?_ (by omega) w hw
          obtain ⟨a,b⟩ := oB.1 h1;obtain ⟨a',b'⟩ := oB.1 hpy;exact oB.2 ⟨a.trans a',b.trans b'⟩
      · rw [if_neg e];obtain ⟨v,hv,h3,h4⟩ := sV l y y hs'.2 (oB.2 ⟨rfl,rfl⟩) (fG _) w hw;exact ⟨v,aN _ hv,h3,h4⟩
theorem C1 {l : List W} {w : W} (h : w ∈ l) : ∃ v,v ∈ gD l ∧ v.1 = w.1 ∧ v.2.2 = w.2.2 ∧ v.2.1 ≤ w.2.1 := by
  have hs := kN iR l;have hw := (dS eI l).mem_iff.2 h;unfold gD;generalize dW eI l = m at *;cases m with
  | nil => cases hw
  | cons x m =>
    obtain ⟨v,hv,h1,h2⟩ := sV m x x hs (oB.2 ⟨rfl,rfl⟩) (fG _) w hw;exact ⟨v,hv,(oB.1 h1).1,(oB.1 h1).2,h2⟩
theorem K3 : ∀ (l : List W) (p : W), (p :: l).Pairwise (fun a b => eI a b ≤ 0) → (∀ z, z ∈ jS yY p l → nS p z < 0) ∧ (jS yY p l).Pairwise (fun a b => nS a b < 0)
  | [],p,_ => ⟨fun z hz => (by cases hz),.nil⟩
  | y :: l,p,hs => by
    have hs' := eR.1 hs;obtain ⟨h1,h2⟩ := K3 l y hs'.2;unfold jS;by_cases e : yY y p = true
    · rw [if_pos e];have e' : nS y p = 0 := by unfold yY at e;simpa using e
      exact ⟨fun z hz => by rw [HX e'];exact h1 z hz,h2⟩
    · rw [if_neg e];have e' : nS p y < 0 := by
        rcases LJ (hs'.1 y aS) with hl | ⟨hl,_⟩
        · exact hl
        · exfalso;apply e;unfold yY;obtain ⟨a,b⟩ := oB.1 hl;simp [oB.2 ⟨a.symm,b.symm⟩]
      refine ⟨fun z hz => ?_,eR.2 ⟨h1,h2⟩⟩
      rcases bN.1 hz with rfl | hz
      · exact e'
      · exact WT e' (h1 z hz)
theorem Q2 (l : List W) : (gD l).Pairwise (fun a b => nS a b < 0) := by
  have hs := kN iR l;unfold gD;generalize dW eI l = m at *;cases m with
  | nil => exact .nil
  | cons x m => exact eR.2 (K3 m x hs)
theorem J0 {l : List W} : gD l = [] ↔ l = [] := by
  constructor
  · intro h;cases l with
    | nil => rfl
    | cons x l => obtain ⟨v,hv,_⟩ := C1 (l := x :: l) (w := x) aS;rw [h] at hv;cases hv
  · rintro rfl;rfl
abbrev As := Int → Int × SP
def nJ (bs : List Int) (w : W) (f : As) : Prop := w.1 = bs.map (fun b => (f b).1) ∧ w.2.2 = bs.map (fun b => (f b).2)
def zZ (g : G) (f : As) (m : Int) : Prop := ∃ w,w ∈ g.2 ∧ nJ g.1 w f ∧ w.2.1 ≤ m
def Sem : List G → As → Int → Prop
  | [],_,M => 0 ≤ M
  | g :: gs,f,M => ∃ m,zZ g f m ∧ Sem gs f (M - m)
theorem zZ.mono {g : G} {f : As} {m m' : Int} (h : zZ g f m) (hm : m ≤ m') : zZ g f m' := by
  obtain ⟨w,h1,h2,h3⟩ := h;exact ⟨w,h1,h2,by omega⟩
theorem Sem.mono : ∀ {gs : List G} {f : As} {M M' : Int}, Sem gs f M → M ≤ M' → Sem gs f M'
  | [],f,M,M',h,hm => by unfold Sem at *;omega
  | g :: gs,f,M,M',⟨m,h1,h2⟩,hm => ⟨m,h1,h2.mono (by omega)⟩
theorem JZ {g : G} {f : As} {M : Int} : Sem [g] f M ↔ zZ g f M := by
  constructor
  · rintro ⟨m,h1,h2⟩;unfold Sem at h2;exact h1.mono (by omega)
  · intro h;exact ⟨M,h,by unfold Sem;omega⟩
theorem AX : ∀ (a b : List G) (f : As) (M : Int), Sem (a ++ b) f M ↔ ∃ m, Sem a f m ∧ Sem b f (M - m)
  | [],b,f,M => by
    constructor
    · intro h;exact ⟨0,by unfold Sem;omega,by rw [Int.sub_zero];exact h⟩
    · rintro ⟨m,h1,h2⟩;unfold Sem at h1;exact h2.mono (by omega)
  | g :: a,b,f,M => by
    simp only [List.cons_append,Sem];constructor
    · rintro ⟨m,h1,h2⟩;obtain ⟨m',h3,h4⟩ := (AX a b f _).1 h2;exact ⟨m + m',⟨m,h1,h3.mono (by omega)⟩,h4.mono (by omega)⟩
    · rintro ⟨m,⟨m',h1,h2⟩,h3⟩;exact ⟨m',h1,(AX a b f _).2 ⟨m - m',h2,h3.mono (by omega)⟩⟩
theorem nQ {a b : List G} (h : a.Perm b) : ∀ {f : As} {M : Int},Sem a f M ↔ Sem b f M := by
  induction h with
  | nil => intro f M;exact Iff.rfl
  | cons x _ ih => intro f M;simp only [Sem,ih]
  | swap x y l =>
    intro f M;simp only [Sem];constructor
    · rintro ⟨m,h1,m',h2,h3⟩;exact ⟨m',h2,m,h1,h3.mono (by omega)⟩
    · rintro ⟨m,h1,m',h2,h3⟩;exact ⟨m',h2,m,h1,h3.mono (by omega)⟩
  | trans _ _ ih1 ih2 => intro f M;rw [ih1,ih2]
theorem ED {F : G → List G} {f : As} : ∀ {gs : List G}, (∀ g, g ∈ gs → ∀ M, Sem (F g) f M ↔ zZ g f M) → ∀ {M : Int}, Sem (gs.flatMap F) f M ↔ Sem gs f M
  | [],_,M => Iff.rfl
  | g :: gs,h,M => by
    rw [bE,AX];simp only [Sem,ED (fun g hg => h g (aN _ hg)),h g aS]
theorem J2 {bs : List Int} {l : List W} {f : As} {m : Int} : zZ (bs,gD l) f m ↔ zZ (bs,l) f m := by
  constructor
  · rintro ⟨w,h1,h2,h3⟩;exact ⟨w,rY h1,h2,h3⟩
  · rintro ⟨w,h1,h2,h3⟩;obtain ⟨v,hv,a,b,d⟩ := C1 h1;exact ⟨v,hv,⟨a.trans h2.1,b.trans h2.2⟩,A0 d h3⟩
def HE (r : SP) : Prop := 0 ≤ r.1 ∧ r.1 < r.2 ∧ r.2 ≤ 20001
structure V3 (n k : Nat) (w : W) : Prop where
  pl : w.1.length = k
  cl : w.2.2.length = k
  pr : ∀ x,x ∈ w.1 → 0 ≤ x ∧ x < n
  nd : w.1.Nodup
  m0 : 0 ≤ w.2.1
  m1 : w.2.1 ≤ 4000000
  sp : ∀ r,r ∈ w.2.2 → HE r
structure vR (n : Nat) (g : G) : Prop where
  ne : g.1 ≠ []
  up : g.1.Pairwise (· < ·)
  rg : ∀ b,b ∈ g.1 → 0 ≤ b ∧ b < n
  ln : g.1.length ≤ 6
  ws : ∀ w,w ∈ g.2 → V3 n g.1.length w
  same : ∀ w v,w ∈ g.2 → v ∈ g.2 → w.1.Perm v.1
theorem vR.nd {n : Nat} {g : G} (h : vR n g) : g.1.Nodup := h.up.imp (fun h => by omega)
theorem H7 : ∀ (l : List W) (a : Int), l.foldl (fun m x => if x.2.1 < m then x.2.1 else m) a ≤ a ∧ (∀ x, x ∈ l → l.foldl (fun m x => if x.2.1 < m then x.2.1 else m) a ≤ x.2.1) ∧ (l.foldl (fun m x => if x.2.1 < m then x.2.1 else m) a = a ∨ ∃ x, x ∈ l ∧ l.foldl (fun m x => if x.2.1 < m then x.2.1 else m) a = x.2.1)
  | [],a => ⟨fG _,fun x hx => (by cases hx),.inl rfl⟩
  | y :: l,a => by
    rw [yK];obtain ⟨h1,h2,h3⟩ := H7 l (if y.2.1 < a then y.2.1 else a)
    generalize l.foldl (fun m x => if x.2.1 < m then x.2.1 else m) (if y.2.1 < a then y.2.1 else a) = q at *
    refine ⟨by split at h1 <;> omega,fun x hx => ?_,?_⟩
    · rcases bN.1 hx with rfl | hx
      · split at h1 <;> omega
      · exact h2 x hx
    · rcases h3 with h3 | ⟨x,hx,h3⟩
      · split at h3
        · exact .inr ⟨y,aS,h3⟩
        · exact .inl h3
      · exact .inr ⟨x,aN _ hx,h3⟩
theorem R0 {g : G} {w : W} (h : w ∈ g.2) : iJ g ≤ w.2.1 := by
  unfold iJ;cases hg : g.2 with
  | nil => rw [hg] at h;cases h
  | cons x l =>
    rw [hg] at h;obtain ⟨h1,h2,h3⟩ := H7 l x.2.1;rcases bN.1 h with rfl | h
    · exact h1
    · exact h2 _ h
theorem Z0 {g : G} (h : g.2 ≠ []) : ∃ w,w ∈ g.2 ∧ w.2.1 = iJ g := by
  unfold iJ;cases hg : g.2 with
  | nil => exact absurd hg h
  | cons x l =>
    obtain ⟨h1,h2,h3⟩ := H7 l x.2.1;rcases h3 with h3 | ⟨y,hy,h3⟩
    · exact ⟨x,aS,h3.symm⟩
    · exact ⟨y,aN _ hy,h3.symm⟩
theorem NC {g : G} {f : As} {m : Int} (h : zZ g f m) : iJ g ≤ m := by
  obtain ⟨w,h1,_,h3⟩ := h;exact A0 (R0 h1) h3
theorem X4 : ∀ {gs : List G} {f : As} {M : Int}, Sem gs f M → mR gs ≤ M
  | [],f,M,h => by unfold Sem at h;simpa [mR] using h
  | g :: gs,f,M,⟨m,h1,h2⟩ => by
    have := NC h1;have := X4 h2;simp only [mR,List.map_cons,zN0] at *;omega
def zH3 (c : Cx) (S : Int) (all : List G) : List G := all.map fun g => (g.1,g.2.filter fun w => decide (w.2.1 + (S - iJ g) ≤ c.m))
theorem F9 {c : Cx} {S : Int} : ∀ {gs : List G} {f : As} {M : Int}, M + (S - mR gs) ≤ c.m → (Sem (zH3 c S gs) f M ↔ Sem gs f M)
  | [],f,M,h => Iff.rfl
  | g :: gs,f,M,h => by
    have e : mR (g :: gs) = iJ g + mR gs := by simp [mR]
    constructor
    · rintro ⟨m,⟨w,h1,h2,h3⟩,h4⟩;have h1' := (pD.1 h1).1;have := R0 h1';exact ⟨m,⟨w,h1',h2,h3⟩,(F9 (by omega)).1 h4⟩
    · rintro ⟨m,⟨w,h1,h2,h3⟩,h4⟩;have := R0 h1;have := X4 h4;refine ⟨m,⟨w,?_,h2,h3⟩,(F9 (by omega)).2 h4⟩
      rw [pD];refine ⟨h1,?_⟩;simp only [decide_eq_true_eq];omega
theorem PX {c : Cx} {gs : List G} {f : As} {M : Int} (h : M ≤ c.m) : Sem (paid c gs) f M ↔ Sem gs f M := F9 (S := mR gs) (by omega)
theorem BR {bs : List Int} {w : W} {f : As} (h : nJ bs w f) {i : Nat} (hi : i < bs.length) : gP w i = (f bs[i]).1 := by
  unfold gP;rw [h.1];simp [List.getD,hi]
theorem BT {bs : List Int} {w : W} {f : As} (h : nJ bs w f) {i : Nat} (hi : i < bs.length) : gC w i = (f bs[i]).2 := by
  unfold gC;rw [h.2];simp [List.getD,hi]
theorem tK {α β : Type} (f : α → β) : ∀ (l : List α) (k : Nat), (l.map f).eraseIdx k = (l.eraseIdx k).map f
  | [],_ => rfl
  | x :: l,0 => rfl
  | x :: l,k + 1 => by simp [tK f l k]
def YJ (k : Nat) (w : W) : W := (w.1.eraseIdx k,w.2.1,w.2.2.eraseIdx k)
theorem uQ {α : Type} : ∀ {k : Nat} {a b : List α} (x : α), a.length = b.length → a.getD k x = b.getD k x → a.eraseIdx k = b.eraseIdx k → a = b
  | _,[],[],_,_,_,_ => rfl
  | _,[],_ :: _,_,h,_,_ => by simp at h
  | _,_ :: _,[],_,h,_,_ => by simp at h
  | 0,y :: a,z :: b,x,h,h1,h2 => by
    simp at h1 h2;rw [h1,h2]
  | k + 1,y :: a,z :: b,x,h,h1,h2 => by
    simp at h h1 h2;rw [h2.1,uQ x h (by simpa using h1) h2.2]
theorem S4 {bs : List Int} {w : W} {f : As} {k : Nat} (hk : k < bs.length) (h1 : w.1.length = bs.length) (h2 : w.2.2.length = bs.length) :
    nJ bs w f ↔ nJ (bs.eraseIdx k) (YJ k w) f ∧ gP w k = (f (bs.getD k 0)).1 ∧ gC w k = (f (bs.getD k 0)).2 := by
  have hb : bs.getD k 0 = bs[k] := by simp [List.getD,hk]
  constructor
  · intro h;refine ⟨⟨?_,?_⟩,?_,?_⟩
    · show w.1.eraseIdx k = _;rw [h.1,tK]
    · show w.2.2.eraseIdx k = _;rw [h.2,tK]
    · rw [hb];exact BR h hk
    · rw [hb];exact BT h hk
  · rintro ⟨h,h3,h4⟩;rw [hb] at h3 h4;constructor
    · refine uQ (k := k) 0 (by simp [h1]) ?_ (by rw [tK];exact h.1)
      rw [show w.1.getD k 0 = gP w k from rfl,h3];simp [List.getD,hk]
    · refine uQ (k := k) (0,0) (by simp [h2]) ?_ (by rw [tK];exact h.2)
      rw [show w.2.2.getD k (0,0) = gC w k from rfl,h4];simp [List.getD,hk]
theorem HP {g : G} {i : Nat} (hne : g.2 ≠ []) : vU g i = true ↔ ∀ w,w ∈ g.2 → gP w i = gP (gY g) i ∧ gC w i = gC (gY g) i := by
  unfold vU gY;cases hg : g.2 with
  | nil => exact absurd hg hne
  | cons f l => simp
theorem jB {g : G} {k : Nat} (h : gX g = some k) : 2 ≤ g.1.length ∧ g.2 ≠ [] ∧ k < g.1.length ∧ ∀ w,w ∈ g.2 → gP w k = gP (gY g) k ∧ gC w k = gC (gY g) k := by
  unfold gX at h;split at h
  · cases h
  · rename_i hc;have hne : g.2 ≠ [] := fun e => hc (.inr e)
    have h1 := List.find?_some h;have h2 := List.mem_of_find?_eq_some h;rw [eN] at h2;exact ⟨by omega,hne,h2,(HP hne).1 h1⟩
theorem iP {g : G} (h : g.2 ≠ []) : gY g ∈ g.2 := by
  unfold gY;cases hg : g.2 with
  | nil => exact absurd hg h
  | cons f l => simp
theorem EV {g : G} {k : Nat} {f : As} {m : Int} : zZ (mM g k) f m ↔ gP (gY g) k = (f (g.1.getD k 0)).1 ∧ gC (gY g) k = (f (g.1.getD k 0)).2 ∧ 0 ≤ m := by
  unfold zZ mM;constructor
  · rintro ⟨w,h1,h2,h3⟩;simp at h1;subst h1;obtain ⟨h4,h5⟩ := h2;simp at h4 h5;exact ⟨h4,h5,h3⟩
  · rintro ⟨h1,h2,h3⟩;exact ⟨_,cD.2 rfl,⟨by simp [h1],by simp [h2]⟩,h3⟩
theorem NB {n : Nat} {g : G} (ok : vR n g) {k : Nat} (hc : gX g = some k) {f : As} {M : Int} : (∃ m,zZ (mM g k) f m ∧ zZ (jL g k) f (M - m)) ↔ zZ g f M := by
  obtain ⟨h1,hne,hk,hs⟩ := jB hc;have hr : ∀ M,zZ (jL g k) f M ↔ ∃ w,w ∈ g.2 ∧ nJ (g.1.eraseIdx k) (YJ k w) f ∧ w.2.1 ≤ M := by
    intro M;unfold jL;rw [J2];unfold zZ;constructor
    · rintro ⟨v,hv,a,b⟩;obtain ⟨w,hw,rfl⟩ := bI.1 hv;exact ⟨w,hw,a,b⟩
    · rintro ⟨w,hw,a,b⟩;exact ⟨YJ k w,bI.2 ⟨w,hw,rfl⟩,a,b⟩
  constructor
  · rintro ⟨m,h2,h3⟩;obtain ⟨a,b,c⟩ := EV.1 h2;obtain ⟨w,hw,d,e⟩ := (hr _).1 h3;have := ok.ws w hw;exact ⟨w,hw,(S4 hk this.pl this.cl).2 ⟨d,by rw [(hs w hw).1];exact a,by rw [(hs w hw).2];exact b⟩,by omega⟩
  · rintro ⟨w,hw,d,e⟩;have := ok.ws w hw;obtain ⟨a,b,c⟩ := (S4 hk this.pl this.cl).1 d;refine ⟨0,EV.2 ⟨by rw [← (hs w hw).1];exact b,by rw [← (hs w hw).2];exact c,fG _⟩,(hr _).2 ⟨w,hw,a,by omega⟩⟩
theorem sO {α : Type} {l : List α} {k : Nat} {x : α} (h : x ∈ l.eraseIdx k) : x ∈ l := (DF l k).mem h
theorem V3.erase {n k : Nat} {w : W} (h : V3 n k w) {i : Nat} (hi : i < k) : V3 n (k - 1) (YJ i w) where
  pl := by show (w.1.eraseIdx i).length = _;rw [fR,h.pl,if_pos hi]
  cl := by show (w.2.2.eraseIdx i).length = _;rw [fR,h.cl,if_pos hi]
  pr x hx := h.pr x (sO hx)
  nd := h.nd.sublist (DF _ _)
  m0 := h.m0
  m1 := h.m1
  sp r hr := h.sp r (sO hr)
theorem iZ {α : Type} : ∀ (l : List α) (i : Nat) (x : α), i < l.length → (l.getD i x :: l.eraseIdx i).Perm l
  | [],i,x,h => by simp at h
  | y :: l,0,x,h => by simp
  | y :: l,i + 1,x,h => by
    simp only [List.getD_cons_succ,List.eraseIdx_cons_succ];exact (List.Perm.swap _ _ _).trans ((iZ l i x (by simpa using h)).cons y)
theorem V3.at {n k : Nat} {w : W} (h : V3 n k w) {i : Nat} (hi : i < k) : 0 ≤ gP w i ∧ gP w i < n ∧ HE (gC w i) := by
  unfold gP gC;have h1 : i < w.1.length := by rw [h.pl];exact hi
  have h2 : i < w.2.2.length := by rw [h.cl];exact hi
  simp only [List.getD,aA h1,aA h2,lP];exact ⟨(h.pr _ (aI h1)).1,(h.pr _ (aI h1)).2,h.sp _ (aI h2)⟩
theorem vR.one {n : Nat} {g : G} (h : vR n g) {k : Nat} (hc : gX g = some k) : vR n (mM g k) := by
  obtain ⟨h1,hne,hk,hs⟩ := jB hc;have hf := h.ws _ (iP hne);have ha := hf.at hk;refine ⟨by simp [mM],by simp [mM],?_,by simp [mM],?_,?_⟩
  · intro b hb;simp only [mM,cD] at hb;subst hb;simp only [List.getD,aA hk,lP];exact h.rg _ (aI hk)
  · intro w hw;simp only [mM,cD] at hw;subst hw;exact ⟨rfl,rfl,by intro x hx;simp at hx;subst hx;exact ⟨ha.1,ha.2.1⟩,by simp,by simp,by simp,by intro r hr;simp at hr;subst hr;exact ha.2.2⟩
  · intro w v hw hv;simp only [mM,cD] at hw hv;subst hw;subst hv;exact .refl _
theorem vR.rest {n : Nat} {g : G} (h : vR n g) {k : Nat} (hc : gX g = some k) : vR n (jL g k) := by
  obtain ⟨h1,hne,hk,hs⟩ := jB hc;have hl : (g.1.eraseIdx k).length = g.1.length - 1 := by rw [fR,if_pos hk]
  have hm : ∀ w,w ∈ (jL g k).2 → ∃ v,v ∈ g.2 ∧ w = YJ k v := by
    intro w hw;obtain ⟨v,hv,rfl⟩ := bI.1 (rY hw);exact ⟨v,hv,rfl⟩
  refine ⟨?_,h.up.sublist (DF _ _),fun b hb => h.rg b (sO hb),?_,?_,?_⟩
  · intro e;have : (g.1.eraseIdx k).length = 0 := by rw [show g.1.eraseIdx k = [] from e];rfl
    omega
  · show (g.1.eraseIdx k).length ≤ 6;have := h.ln;omega
  · intro w hw;obtain ⟨v,hv,rfl⟩ := hm w hw;show V3 n (g.1.eraseIdx k).length _;rw [hl];exact (h.ws v hv).erase hk
  · intro w v hw hv;obtain ⟨w,hw',rfl⟩ := hm w hw;obtain ⟨v,hv',rfl⟩ := hm v hv;clear hw hv;have hw := hw';have hv := hv';have h3 := h.same w v hw hv;have e1 := iZ w.1 k 0 (by rw [(h.ws w hw).pl];exact hk)
    have e2 := iZ v.1 k 0 (by rw [(h.ws v hv).pl];exact hk)
    have e3 : w.1.getD k 0 = v.1.getD k 0 := ((hs w hw).1).trans ((hs v hv).1).symm;rw [e3] at e1;exact (List.perm_cons _).1 (e1.trans (h3.trans e2.symm))
theorem BD {n : Nat} : ∀ (m : Nat) {g : G}, vR n g → ∀ x, x ∈ mL m g → vR n x
  | 0,g,h,x,hx => by simp [mL] at hx;subst hx;exact h
  | m + 1,g,h,x,hx => by
    unfold mL at hx;split at hx
    · simp at hx;subst hx;exact h
    · rename_i k hc;rcases bN.1 hx with rfl | hx
      · exact h.one hc
      · exact BD m (h.rest hc) x hx
theorem EC {n : Nat} {f : As} : ∀ (m : Nat) {g : G}, vR n g → ∀ {M : Int}, Sem (mL m g) f M ↔ zZ g f M
  | 0,g,h,M => JZ
  | m + 1,g,h,M => by
    unfold mL;split
    · exact JZ
    · rename_i k hc;simp only [Sem,EC m (h.rest hc)];exact NB h hc
theorem MN {n : Nat} {f : As} {l : List G} (h : ∀ g,g ∈ l → vR n g) {M : Int} : Sem (vD l) f M ↔ Sem l f M := by
  unfold vD;rw [nQ (dS _ _)];exact ED fun g hg M => EC _ (h g hg)
theorem X7 {n : Nat} : ∀ (m : Nat) {g : G}, vR n g → g.1.length ≤ m → ∀ x, x ∈ mL m g → gX x = none
  | 0,g,h,hl,x,hx => by exact absurd (fJ.1 (Nat.le_zero.1 hl)) h.ne
  | m + 1,g,h,hl,x,hx => by
    unfold mL at hx;split at hx
    · rename_i hc;simp at hx;subst hx;exact hc
    · rename_i k hc;obtain ⟨h1,hne,hk,hs⟩ := jB hc;rcases bN.1 hx with rfl | hx
      · simp [gX,mM]
      · refine X7 m (h.rest hc) ?_ x hx;show (g.1.eraseIdx k).length ≤ m;rw [fR,if_pos hk];omega
theorem wH {n : Nat} : ∀ (m : Nat) {g : G}, vR n g → ((mL m g).flatMap (·.1)).Perm g.1
  | 0,g,h => by simp [mL]
  | m + 1,g,h => by
    unfold mL;split
    · simp
    · rename_i k hc;obtain ⟨h1,hne,hk,hs⟩ := jB hc;rw [bE];exact (List.Perm.append_left _ (wH m (h.rest hc))).trans (iZ g.1 k 0 hk)
theorem WQ {m : Nat} : ∀ {g : G},g.2 ≠ [] → ∀ x,x ∈ mL m g → x.2 ≠ [] := by
  induction m with
  | zero => intro g h x hx;simp [mL] at hx;subst hx;exact h
  | succ m ih =>
    intro g h x hx;unfold mL at hx;split at hx
    · simp at hx;subst hx;exact h
    · rename_i k hc;rcases bN.1 hx with rfl | hx
      · simp [mM]
      · refine ih ?_ x hx;show gD _ ≠ [];rw [Ne,J0,lG];exact h
theorem QU {g : G} (h : g.2 = []) : ∀ m, mL m g = [g]
  | 0 => rfl
  | m + 1 => by unfold mL;rw [show gX g = none by unfold gX;rw [if_pos (.inr h)]]
theorem ER {m : Nat} : ∀ {g : G} {K : Nat},1 ≤ K → g.2.length ≤ K → ∀ x,x ∈ mL m g → x.2.length ≤ K := by
  induction m with
  | zero => intro g K _ h x hx;simp [mL] at hx;subst hx;exact h
  | succ m ih =>
    intro g K h1 h x hx;unfold mL at hx;split at hx
    · simp at hx;subst hx;exact h
    · rename_i k hc;rcases bN.1 hx with rfl | hx
      · simpa [mM] using h1
      · refine ih h1 ?_ x hx;exact cJ (wI _) (by rw [bC];exact h)
def upd (f : As) (a : Int) (x : Int × SP) : As := fun b => if b = a then x else f b
def MG (f : As) (a b : Int) : As := fun x => if x = a then f b else if x = b then f a else f x
def E2 (c : Cx) (s : Ev) (x : Int × SP) : (Int × SP) × Int × Bool :=
  if s.k = 0 then (if x.1 ∈ s.ids then (x,0,decide ((s.ids.length : Int) - 1 ≤ c.st)) else (x,1,decide ((s.ids.length : Int) ≤ c.st)))
  else if s.k = 1 then
    let b := c.bs.getD x.1.toNat (0,0,0)
    let q := sJ b.2.2 (mQ c.ks c.ls b.1) s.n c.er x.2
    ((x.1,q.1),0,q.2)
  else if s.k = 2 then let q := wG x.2 s.n c.sl;((x.1,q.1),0,q.2)
  else if s.k = 3 then ((x.1,(s.n,s.n + 1)),0,sQ x.2.1 x.2.2 s.n)
  else if s.k = 5 then (x,0,decide (x.1 = s.n))
  else (x,0,true)
theorem EA {α : Type} {l : List α} {i : Nat} (x : α) (h : i < l.length) : l.set i (l.getD i x) = l := by
  simp [List.getD,h]
theorem yD {c : Cx} {w : W} {i : Nat} {s : Ev} (h : i < w.2.2.length) :
    jJ c w i s = ((w.1,w.2.1 + (E2 c s (gP w i,gC w i)).2.1,w.2.2.set i (E2 c s (gP w i,gC w i)).1.2),(E2 c s (gP w i,gC w i)).2.2) := by
  have e : w.2.2.set i (gC w i) = w.2.2 := EA _ h;unfold jJ E2;split
  · split <;> simp [e]
  · split
    · simp [sC]
    · split
      · simp [sC]
      · split
        · simp [sC]
        · split <;> simp [e]
theorem CQ {c : Cx} {s : Ev} {x : Int × SP} : (E2 c s x).1.1 = x.1 := by
  unfold E2
  repeat' split
  all_goals rfl
def V4 (c : Cx) (s : Ev) (f f' : As) (d : Int) : Prop :=
  ((E2 c s (f s.a)).2.2 = true ∧ f' = upd f s.a (E2 c s (f s.a)).1 ∧ d = (E2 c s (f s.a)).2.1) ∨ (s.k = 4 ∧ f' = MG f s.a s.b ∧ d = 0)
theorem rH {bs : List Int} {w : W} {f : As} (h1 : w.1.length = bs.length) (h2 : w.2.2.length = bs.length) :
    nJ bs w f ↔ ∀ j (hj : j < bs.length),gP w j = (f bs[j]).1 ∧ gC w j = (f bs[j]).2 := by
  constructor
  · intro h j hj;exact ⟨BR h hj,BT h hj⟩
  · intro h;constructor
    · refine lS (by simp [h1]) fun j hj hj' => ?_
      have := (h j (by omega)).1
      unfold gP at this;simp only [List.getD,aA hj,lP] at this;simp [this]
    · refine lS (by simp [h2]) fun j hj hj' => ?_
      have := (h j (by omega)).2
      unfold gC at this;simp only [List.getD,aA hj,lP] at this;simp [this]
theorem wN {bs : List Int} {a : Int} (ha : a ∈ bs) : ∃ h : bs.idxOf a < bs.length,bs[bs.idxOf a] = a := by
  have h := iE ha;exact ⟨h,List.getElem_idxOf h⟩
theorem Q8 {bs : List Int} (hn : bs.Nodup) {i j : Nat} (hi : i < bs.length) (hj : j < bs.length) (h : bs[i] = bs[j]) : i = j := (ZE hn).1 h
theorem fH {α : Type} {l : List α} {i j : Nat} {x d : α} (hj : i < l.length) : (l.set i x).getD j d = if j = i then x else l.getD j d := by
  by_cases e : j = i
  · subst e;simp [List.getD,hj]
  · rw [if_neg e];simp [List.getD,iH (Ne.symm e)]
theorem RJ {c : Cx} {n : Nat} {g : G} (ok : vR n g) {s : Ev} (ha : s.a ∈ g.1) (hb : s.k = 4 → s.b ∈ g.1 ∧ s.a ≠ s.b) {f' : As} {M : Int} :
    zZ (g.1,gD (lZ c s g)) f' M ↔ ∃ f d,V4 c s f f' d ∧ zZ g f (M - d) := by
  rw [J2];obtain ⟨hi,hia⟩ := wN ha;have hnd := ok.nd;constructor
  · rintro ⟨v,hv,hf,hm⟩;unfold lZ at hv;obtain ⟨w,hw,hv⟩ := gM.1 hv;have wo := ok.ws w hw;have h1 := wo.pl;have h2 := wo.cl;rcases bF.1 hv with hv | hv
    · split at hv
      · rename_i hok;simp only [cD] at hv;subst hv;rw [yD (by omega)] at hok hf hm
        simp only at hok hf hm;generalize hi' : g.1.idxOf s.a = i at *;have hf' := (rH (w := (w.1,w.2.1 + (E2 c s (gP w i,gC w i)).2.1,w.2.2.set i (E2 c s (gP w i,gC w i)).1.2)) h1 (by simp [h2])).1 hf
        have ea : upd f' s.a (gP w i,gC w i) s.a = (gP w i,gC w i) := by unfold upd;rw [if_pos rfl]
        refine ⟨upd f' s.a (gP w i,gC w i),_,.inl ⟨by rw [ea];exact hok,?_,rfl⟩,w,hw,(rH h1 h2).2 fun j hj => ?_,by rw [ea];show w.2.1 ≤ _;omega⟩
        · rw [ea];funext b;unfold upd;by_cases e : b = s.a
          · rw [if_pos e,e];obtain ⟨q1,q2⟩ := hf' i hi;rw [hia] at q1 q2;refine Prod.ext ?_ ?_
            · rw [CQ,← q1];rfl
            · rw [← q2];unfold gC;rw [fH (by omega),if_pos rfl]
          · rw [if_neg e,if_neg e]
        · obtain ⟨q1,q2⟩ := hf' j hj;unfold upd;by_cases e : g.1[j] = s.a
          · rw [if_pos e];have : j = i := Q8 hnd hj hi (e.trans hia.symm);subst this;exact ⟨rfl,rfl⟩
          · rw [if_neg e];refine ⟨by rw [← q1];rfl,?_⟩
            rw [← q2];unfold gC;rw [fH (by omega),if_neg]
            rintro rfl;exact e hia
      · cases hv
    · split at hv
      · rename_i hk;simp only [cD] at hv;subst hv;obtain ⟨hbm,hab⟩ := hb hk;obtain ⟨hj,hjb⟩ := wN hbm;generalize hi' : g.1.idxOf s.a = i at *;generalize hj' : g.1.idxOf s.b = k at *;have hik : i ≠ k := by rintro rfl;exact hab (hia.symm.trans hjb)
        have hf' := (rH (w := nX w i k) (by simp [nX,h1]) (by simp [nX,h2])).1 hf
        refine ⟨MG f' s.a s.b,0,.inr ⟨hk,?_,rfl⟩,w,hw,(rH h1 h2).2 fun j hj0 => ?_,by have : (nX w i k).2.1 = w.2.1 := rfl;omega⟩
        · funext x;unfold MG;by_cases e : x = s.a
          · subst e;rw [if_pos rfl,if_neg (Ne.symm hab),if_pos rfl]
          · by_cases e' : x = s.b
            · subst e';rw [if_neg e,if_pos rfl,if_pos rfl]
            · rw [if_neg e,if_neg e',if_neg e,if_neg e']
        · unfold MG;by_cases e : g.1[j] = s.a
          · rw [if_pos e];have : j = i := Q8 hnd hj0 hi (e.trans hia.symm);subst this;obtain ⟨q1,q2⟩ := hf' k hj;rw [hjb] at q1 q2;rw [← q1,← q2];constructor
            · unfold gP nX;simp only;rw [fH (by simp;omega),if_pos rfl];rfl
            · unfold gC nX;simp only;rw [fH (by simp;omega),if_pos rfl];rfl
          · rw [if_neg e];by_cases e' : g.1[j] = s.b
            · rw [if_pos e'];have : j = k := Q8 hnd hj0 hj (e'.trans hjb.symm);subst this;obtain ⟨q1,q2⟩ := hf' i hi;rw [hia] at q1 q2;rw [← q1,← q2];constructor
              · unfold gP nX;simp only;rw [fH (by simp;omega),if_neg hik,fH (by omega),if_pos rfl];rfl
              · unfold gC nX;simp only;rw [fH (by simp;omega),if_neg hik,fH (by omega),if_pos rfl];rfl
            · rw [if_neg e'];have n1 : j ≠ i := by rintro rfl;exact e hia
              have n2 : j ≠ k := by rintro rfl;exact e' hjb
              obtain ⟨q1,q2⟩ := hf' j hj0;rw [← q1,← q2];constructor
              · unfold gP nX;simp only;rw [fH (by simp;omega),if_neg n2,fH (by omega),if_neg n1]
              · unfold gC nX;simp only;rw [fH (by simp;omega),if_neg n2,fH (by omega),if_neg n1]
      · cases hv
  · rintro ⟨f,d,hst,w,hw,hf,hm⟩;have wo := ok.ws w hw;have h1 := wo.pl;have h2 := wo.cl;have hf' := (rH h1 h2).1 hf;have hxa : (gP w (g.1.idxOf s.a),gC w (g.1.idxOf s.a)) = f s.a := by
      obtain ⟨q1,q2⟩ := hf' _ hi;rw [hia] at q1 q2;exact Prod.ext q1 q2
    rcases hst with ⟨hok,rfl,rfl⟩ | ⟨hk,rfl,rfl⟩
    · refine ⟨(jJ c w (g.1.idxOf s.a) s).1,gM.2 ⟨w,hw,bF.2 (.inl ?_)⟩,?_,?_⟩
      · rw [if_pos (by rw [yD (by omega),hxa];exact hok)];exact cD.2 rfl
      · rw [yD (by omega),hxa]
        refine (rH (bs := g.1) (w := (w.1,w.2.1 + (E2 c s (f s.a)).2.1,w.2.2.set (g.1.idxOf s.a) (E2 c s (f s.a)).1.2)) h1 (by simp [h2])).2 fun j hj => ?_
        obtain ⟨q1,q2⟩ := hf' j hj;unfold upd;by_cases e : g.1[j] = s.a
        · rw [if_pos e];have : j = g.1.idxOf s.a := Q8 hnd hj hi (e.trans hia.symm);refine ⟨?_,?_⟩
          · rw [CQ];show gP w j = _;rw [q1,e]
          · unfold gC;simp only;rw [fH (by omega),if_pos this]
        · rw [if_neg e];refine ⟨q1,?_⟩;unfold gC;simp only;rw [fH (by omega),if_neg (by rintro rfl;exact e hia)]
          exact q2
      · rw [yD (by omega),hxa];show w.2.1 + _ ≤ _;omega
    · obtain ⟨hbm,hab⟩ := hb hk;obtain ⟨hj,hjb⟩ := wN hbm;have hxb : gP w (g.1.idxOf s.b) = (f s.b).1 ∧ gC w (g.1.idxOf s.b) = (f s.b).2 := by
        obtain ⟨q1,q2⟩ := hf' _ hj;rw [hjb] at q1 q2;exact ⟨q1,q2⟩
      have hxa' : gP w (g.1.idxOf s.a) = (f s.a).1 ∧ gC w (g.1.idxOf s.a) = (f s.a).2 := by rw [← hxa];exact ⟨rfl,rfl⟩
      refine ⟨nX w (g.1.idxOf s.a) (g.1.idxOf s.b),gM.2 ⟨w,hw,bF.2 (.inr (by rw [if_pos hk];exact cD.2 rfl))⟩,?_,by show w.2.1 ≤ M;omega⟩
      generalize hi' : g.1.idxOf s.a = i at *;generalize hj' : g.1.idxOf s.b = k at *;have hik : i ≠ k := by rintro rfl;exact hab (hia.symm.trans hjb)
      refine (rH (by simp [nX,h1]) (by simp [nX,h2])).2 fun j hj0 => ?_
      unfold MG;by_cases e : g.1[j] = s.a
      · rw [if_pos e];have : j = i := Q8 hnd hj0 hi (e.trans hia.symm);subst this;rw [← hxb.1,← hxb.2];constructor
        · unfold gP nX;simp only;rw [fH (by simp;omega),if_neg hik,fH (by omega),if_pos rfl];rfl
        · unfold gC nX;simp only;rw [fH (by simp;omega),if_neg hik,fH (by omega),if_pos rfl];rfl
      · rw [if_neg e];by_cases e' : g.1[j] = s.b
        · rw [if_pos e'];have : j = k := Q8 hnd hj0 hj (e'.trans hjb.symm);subst this;rw [← hxa'.1,← hxa'.2];constructor
          · unfold gP nX;simp only;rw [fH (by simp;omega),if_pos rfl];rfl
          · unfold gC nX;simp only;rw [fH (by simp;omega),if_pos rfl];rfl
        · rw [if_neg e'];have n1 : j ≠ i := by rintro rfl;exact e hia
          have n2 : j ≠ k := by rintro rfl;exact e' hjb
          obtain ⟨q1,q2⟩ := hf' j hj0;rw [← q1,← q2];constructor
          · unfold gP nX;simp only;rw [fH (by simp;omega),if_neg n2,fH (by omega),if_neg n1]
          · unfold gC nX;simp only;rw [fH (by simp;omega),if_neg n2,fH (by omega),if_neg n1]
theorem G8 {g : G} {f f' : As} {M : Int} (h : ∀ b,b ∈ g.1 → f b = f' b) : zZ g f M ↔ zZ g f' M := by
  unfold zZ nJ;rw [jW (g := fun b => (f' b).1) (fun b hb => by rw [h b hb]),jW (g := fun b => (f' b).2) (fun b hb => by rw [h b hb])]
theorem qQ {f f' : As} : ∀ {gs : List G} {M : Int}, (∀ g, g ∈ gs → ∀ b, b ∈ g.1 → f b = f' b) → (Sem gs f M ↔ Sem gs f' M)
  | [],M,_ => Iff.rfl
  | g :: gs,M,h => by
    simp only [Sem,G8 (h g aS),qQ (fun x hx => h x (aN _ hx))]
end Go.Ld
namespace Go.Proofs.YtmmkhmilpeodnaaGreat
open Go Go.Ab
section
variable {P : Program} {env : dU} {h : Hp} {d : Option Nat} {ty : TypeId} {pos : String} {af : Array Edge} {g : Option (Nat × Bool)}
theorem LD {t t2 : TypeId} {x y : Operand} {a b : Int} (hx : evu env x = some (.i a)) (hy : evu env y = some (.i b)) (e : b < a) : cF P ⟨d,.binOp .gtr t x y t2,ty,pos,af,g⟩ env h 0 (fun _ => .b true) (fun _ => []) := by
  have := fT (P := P) (d := d) (ty := ty) (pos := pos) (af := af) (g := g) (h := h) (t := t) (t2 := t2) hx hy;simpa [show decide (a > b) = true from decide_eq_true (by omega)] using this
theorem xY {t t2 : TypeId} {x y : Operand} {a b : Int} (hx : evu env x = some (.i a)) (hy : evu env y = some (.i b)) (e : a ≤ b) : cF P ⟨d,.binOp .gtr t x y t2,ty,pos,af,g⟩ env h 0 (fun _ => .b false) (fun _ => []) := by
  have := fT (P := P) (d := d) (ty := ty) (pos := pos) (af := af) (g := g) (h := h) (t := t) (t2 := t2) hx hy;simpa [show decide (a > b) = false from decide_eq_false (by omega)] using this
theorem xX {t t2 : TypeId} {x y : Operand} {a b : Int} (hx : evu env x = some (.i a)) (hy : evu env y = some (.i b)) (e : a < b) : cF P ⟨d,.binOp .lss t x y t2,ty,pos,af,g⟩ env h 0 (fun _ => .b true) (fun _ => []) := by
  have := aO (P := P) (d := d) (ty := ty) (pos := pos) (af := af) (g := g) (h := h) (t := t) (t2 := t2) hx hy;simpa [show decide (a < b) = true from decide_eq_true (by omega)] using this
theorem M9 {t t2 : TypeId} {x y : Operand} {a b : Int} (hx : evu env x = some (.i a)) (hy : evu env y = some (.i b)) (e : b ≤ a) : cF P ⟨d,.binOp .lss t x y t2,ty,pos,af,g⟩ env h 0 (fun _ => .b false) (fun _ => []) := by
  have := aO (P := P) (d := d) (ty := ty) (pos := pos) (af := af) (g := g) (h := h) (t := t) (t2 := t2) hx hy;simpa [show decide (a < b) = false from decide_eq_false (by omega)] using this
end
end Go.Proofs.YtmmkhmilpeodnaaGreat
namespace Go.Proofs.YtmmkhmilpeodnaaGreat
open Go Go.Ab Go.Ld
attribute [local irreducible] VC AW cF aR
set_option maxHeartbeats 4000000
theorem Y7 (x : Int) : aR Tryz.prog 136 [.i x] [] (.b false) [] := by
  refine bQ T Tryz.func136 rfl rfl rfl rfl ?_
  (repeat' (first|refine wS ?_|refine wR ?_|(refine rg 0 (aV ?_))|(refine rg 1 (dX rfl (vV (fI rfl rfl) (aV ?_))))|refine nZ ?_));all_goals first | (exfalso;omega) | exact cY (.inl rfl) rfl (mI (by simp))
theorem AE (x y : Int) : aR Tryz.prog 100 [.i x,.i y] [] (.i (cI x y)) [] := by
  by_cases h1 : x < y
  · rw [show cI x y = -1 by unfold cI;rw [if_pos h1]]
    refine bQ T Tryz.func100 rfl rfl rfl rfl ?_
    (repeat' (first|refine wS ?_|refine wK ?_|refine wR ?_|refine wU ?_|(refine wC rfl ?_ ?_<;>(intro hb;(try simp only [nm] at hb);try (exfalso;omega)))|(refine rg 0 (aV ?_))|(refine rg 1 (mW rfl (vV (kC (Y7 x)) (aV ?_))))|(refine rg 2 (mW rfl (vV (kC (Y7 y)) (aV ?_))))|(refine rg 3 (mV ?_))|(refine rg 7 (mV ?_))|(refine rg 9 (dX rfl (vV (aO rfl rfl) ?_)))|(refine rg 10 (aV ?_))|refine nZ ?_));all_goals first | (exfalso;omega) | exact rQ
  · by_cases h2 : y < x
    · rw [show cI x y = 1 by unfold cI;rw [if_neg h1,if_pos h2]]
      refine bQ T Tryz.func100 rfl rfl rfl rfl ?_
      (repeat' (first|refine wS ?_|refine wK ?_|refine wR ?_|refine wU ?_|(refine wC rfl ?_ ?_<;>(intro hb;(try simp only [nm] at hb);try (exfalso;omega)))|(refine rg 0 (aV ?_))|(refine rg 1 (mW rfl (vV (kC (Y7 x)) (aV ?_))))|(refine rg 2 (mW rfl (vV (kC (Y7 y)) (aV ?_))))|(refine rg 3 (mV ?_))|(refine rg 7 (mV ?_))|(refine rg 9 (dX rfl (vV (aO rfl rfl) ?_)))|(refine rg 11 (dX rfl (vV (fT rfl rfl) ?_)))|(refine rg 12 (aV ?_))|refine nZ ?_));all_goals first | (exfalso;omega) | exact rQ
    · rw [show cI x y = 0 by unfold cI;rw [if_neg h1,if_neg h2]]
      refine bQ T Tryz.func100 rfl rfl rfl rfl ?_
      (repeat' (first|refine wS ?_|refine wK ?_|refine wR ?_|refine wU ?_|(refine wC rfl ?_ ?_<;>(intro hb;(try simp only [nm] at hb);try (exfalso;omega)))|(refine rg 0 (aV ?_))|(refine rg 1 (mW rfl (vV (kC (Y7 x)) (aV ?_))))|(refine rg 2 (mW rfl (vV (kC (Y7 y)) (aV ?_))))|(refine rg 3 (mV ?_))|(refine rg 7 (mV ?_))|(refine rg 9 (dX rfl (vV (aO rfl rfl) ?_)))|(refine rg 11 (dX rfl (vV (fT rfl rfl) ?_)))|(refine rg 13 (aV ?_))|refine nZ ?_));all_goals first | (exfalso;omega) | exact rQ
theorem zH4 (x y : Int) : aR Tryz.prog 98 [.rowE (ints [x,y]) 1] [] (.i (J1 x y)) [] := by
  have hlen : (ints [x,y]).length = 2 := rfl;refine bQ T Tryz.func98 rfl rfl rfl rfl ?_
  (repeat' (first|refine wS ?_|refine wB ?_|(refine rg 0 (aV ?_))|(refine rg 1 (aV ?_))|(refine rg 2 (mW rfl (qW T rfl (mV ?_))))|refine nZ ?_));refine dA (X := {k : Nat // k ≤ 2 ∧ (1 ≤ k → x = 0) ∧ (2 ≤ k → y = 0)}) (fun k => [(0,.rowE (ints [x,y]) 1),(3,.i 0),(6,.rowE (ints [x,y]) 1),(7,.i (ints [x,y]).length),(8,.i k.1)]) (fun _ => []) (fun k => 2 - k.1) ⟨0,by omega,by omega,by omega⟩ (eW []) ?_
  rintro ⟨k,hk,h1,h2⟩;dsimp only;by_cases hlt : k < 2
  · have hg : ∃ z,(ints [x,y])[k]? = some [AV.i z] ∧ (k = 0 → z = x) ∧ (k = 1 → z = y) := by
      rcases (by omega : k = 0 ∨ k = 1) with rfl | rfl
      · exact ⟨x,rfl,fun _ => rfl,by omega⟩
      · exact ⟨y,rfl,by omega,fun _ => rfl⟩
    obtain ⟨z,hg,hz1,hz2⟩ := hg;by_cases h0 : z = 0
    · (repeat' (first|refine wS ?_|refine wB ?_|refine wK ?_|(refine wC rfl (fun hb => ?_) (fun hb => ?_) <;> (((try simp only [nm] at hb);try (exfalso;omega))))|(refine rg 3 (vV (aO rfl rfl) ?_))|(refine rg 4 (vV (ix T rfl (by omega) (cH [x,y]) hg) (lW T rfl (aV ?_))))|(refine rg 5 (dX rfl (vV (fI rfl rfl) ?_)))|(refine rg 7 (vV (bT rfl rfl (by omega) (by omega)) (mV ?_)))|(refine nZ ?_)));all_goals first | (exfalso;omega) | exact ⟨⟨k + 1,by omega,by omega,by omega⟩,by dsimp only;omega,eW []⟩
    · (repeat' (first|refine wS ?_|refine wB ?_|refine wK ?_|refine wR ?_|(refine wC rfl (fun hb => ?_) (fun hb => ?_) <;> (((try simp only [nm] at hb);try (exfalso;omega))))|(refine rg 3 (vV (aO rfl rfl) ?_))|(refine rg 4 (vV (ix T rfl (by omega) (cH [x,y]) hg) (lW T rfl (aV ?_))))|(refine rg 5 (dX rfl (vV (fI rfl rfl) ?_)))|(refine rg 6 (mW rfl (aV ?_)))|(refine nZ ?_)));all_goals first | (exfalso;omega) | exact cY (.inl rfl) rfl (by rw [show J1 x y = z by unfold J1;split <;> omega];rfl)
  · (repeat' (first|refine wS ?_|refine wR ?_|refine wE ?_|(refine wC rfl (fun hb => ?_) (fun hb => ?_) <;> (((try simp only [nm] at hb);try (exfalso;omega))))|(refine rg 3 (vV (aO rfl rfl) ?_))|(refine rg 8 (mW rfl (aV ?_)))|(refine nZ ?_)));all_goals first | (exfalso;omega) | exact cY (.inl rfl) rfl (by rw [show J1 x y = 0 by unfold J1;split <;> omega];rfl)
theorem zJ3 {a b : List Int} {k : Nat} (h1 : k < a.length) (h2 : k < b.length) : cL (a.drop k) (b.drop k) = J1 (cI a[k] b[k]) (cL (a.drop (k + 1)) (b.drop (k + 1))) := by
  rw [aU h1,aU h2];rfl
theorem YT {a b : List Int} {k : Nat} (h1 : k < a.length) (h2 : k = b.length) : cL (a.drop k) (b.drop k) = 1 := by
  rw [aU h1,cX (l := b) (by omega)];rfl
theorem YS {a b : List Int} {k : Nat} (h1 : k = a.length) (h2 : k < b.length) : cL (a.drop k) (b.drop k) = -1 := by
  rw [cX (l := a) (by omega),aU h2];rfl
theorem YR {a b : List Int} {k : Nat} (h1 : k = a.length) (h2 : k = b.length) : cL (a.drop k) (b.drop k) = 0 := by
  rw [cX (l := a) (by omega),cX (l := b) (by omega)];rfl
theorem RE (b : Int) : J1 0 b = b := rfl
theorem HY {a b : Int} (h : ¬ a = 0) : J1 a b = a := by unfold J1;rw [if_neg h]
theorem OF (a b : List Int) (ha : a.length ≤ 9223372036854775807) (hb : b.length ≤ 9223372036854775807) : aR Tryz.prog 133 [.rowE (ints a) 1,.rowE (ints b) 1] [] (.i (cL a b)) [] := by
  have hla : (ints a).length = a.length := by simp
  have hlb : (ints b).length = b.length := by simp
  refine bQ T Tryz.func133 rfl rfl rfl rfl ?_
  (repeat' (first|refine wS ?_|refine wB ?_|(refine rg 0 (aV ?_))|(refine rg 1 (mW rfl (qW T rfl (mV ?_))))|refine nZ ?_));refine dA (X := {k : Nat // k ≤ a.length ∧ k ≤ b.length ∧ cL a b = cL (a.drop k) (b.drop k)}) (fun k => [(0,.rowE (ints a) 1),(1,.rowE (ints b) 1),(9,.rowE (ints a) 1),(10,.i (ints a).length),(11,.i k.1)]) (fun _ => []) (fun k => a.length - k.1) ⟨0,by omega,by omega,rfl⟩ (eW []) ?_
  rintro ⟨k,hk,hkb,he⟩;dsimp only;by_cases h1 : k < a.length
  · have g1 := mC h1;by_cases h2 : k < b.length
    · have g2 := mC h2;have e1 := zJ3 h1 h2;have hc := AE a[k] b[k];generalize a[k] = x at *;generalize b[k] = y at *;by_cases h0 : cI x y = 0
      · rw [h0] at hc e1;rw [RE] at e1
        (repeat' (first|refine wS ?_|refine wB ?_|refine wK ?_|refine wU ?_|(refine wC rfl ?_ ?_<;>(intro hb;(try simp only [nm] at hb);try (exfalso;omega)))|(refine rg 2 (vV (aO rfl rfl) ?_))|(refine rg 3 (mW rfl (vV (ix T rfl (by omega) (cH a) g1) (lW T rfl (pT ?_)))))|(refine rg 4 (dX rfl (qW T rfl (vV (jP rfl rfl) ?_))))|(refine rg 6 (dX rfl (vV (ix T rfl (by omega) (cH b) g2) (lW T rfl (aV ?_)))))|(refine rg 7 (dX rfl (vV (kC (hc)) (aV ?_))))|(refine rg 8 (mW rfl (vV (fI rfl rfl) ?_)))|(refine rg 10 (vV (bT rfl rfl (by omega) (by omega)) (mV ?_)))|refine nZ ?_));all_goals first | (exfalso;omega) | exact ⟨⟨k + 1,by omega,by omega,he.trans e1⟩,by dsimp only;omega,eW []⟩
      · rw [HY h0] at e1;generalize cI x y = q at *
        (repeat' (first|refine wS ?_|refine wB ?_|refine wK ?_|refine wR ?_|(refine wC rfl ?_ ?_<;>(intro hb;(try simp only [nm] at hb);try (exfalso;omega)))|(refine rg 2 (vV (aO rfl rfl) ?_))|(refine rg 3 (mW rfl (vV (ix T rfl (by omega) (cH a) g1) (lW T rfl (pT ?_)))))|(refine rg 4 (dX rfl (qW T rfl (vV (jP rfl rfl) ?_))))|(refine rg 6 (dX rfl (vV (ix T rfl (by omega) (cH b) g2) (lW T rfl (aV ?_)))))|(refine rg 7 (dX rfl (vV (kC (hc)) (aV ?_))))|(refine rg 8 (mW rfl (vV (fI rfl rfl) ?_)))|(refine rg 9 (mW rfl (aV ?_)))|refine nZ ?_));all_goals first | (exfalso;omega) | exact cY (.inl rfl) rfl (by rw [he,e1];rfl)
    · have e1 := YT h1 (show k = b.length by omega)
      (repeat' (first|refine wS ?_|refine wB ?_|refine wK ?_|refine wR ?_|(refine wC rfl ?_ ?_<;>(intro hb;(try simp only [nm] at hb);try (exfalso;omega)))|(refine rg 2 (vV (aO rfl rfl) ?_))|(refine rg 3 (mW rfl (vV (ix T rfl (by omega) (cH a) g1) (lW T rfl (pT ?_)))))|(refine rg 4 (dX rfl (qW T rfl (vV (jP rfl rfl) ?_))))|(refine rg 5 (aV ?_))|refine nZ ?_));all_goals first | (exfalso;omega) | exact cY (.inl rfl) rfl (by rw [he,e1];rfl)
  · by_cases h2 : k < b.length
    · have e1 := YS (show k = a.length by omega) h2
      (repeat' (first|refine wS ?_|refine wR ?_|refine wE ?_|(refine wC rfl ?_ ?_<;>(intro hb;(try simp only [nm] at hb);try (exfalso;omega)))|(refine rg 2 (vV (aO rfl rfl) ?_))|(refine rg 11 (mW rfl (qW T rfl (mW rfl (qW T rfl (vV (aO rfl rfl) ?_))))))|(refine rg 12 (aV ?_))|refine nZ ?_));all_goals first | (exfalso;omega) | exact cY (.inl rfl) rfl (by rw [he,e1];rfl)
    · have e1 := YR (show k = a.length by omega) (show k = b.length by omega)
      (repeat' (first|refine wS ?_|refine wK ?_|refine wR ?_|refine wE ?_|(refine wC rfl ?_ ?_<;>(intro hb;(try simp only [nm] at hb);try (exfalso;omega)))|(refine rg 2 (vV (aO rfl rfl) ?_))|(refine rg 11 (mW rfl (qW T rfl (mW rfl (qW T rfl (vV (aO rfl rfl) ?_))))))|(refine rg 13 (aV ?_))|refine nZ ?_));all_goals first | (exfalso;omega) | exact cY (.inl rfl) rfl (by rw [he,e1];rfl)
theorem iS (l : List SP) : ∀ e,e ∈ eZ l → e.length = 2 := by intro e he;obtain ⟨n,_,rfl⟩ := bI.1 he;rfl
theorem W9 {l : List SP} {k : Nat} (h : k < l.length) : (eZ l)[k]? = some [AV.i l[k].1,AV.i l[k].2] := by simp [h]
theorem RD (x y : SP) : aR Tryz.prog 135 [kI x.1 x.2,kI y.1 y.2] [] (.i (cS x y)) [] := by
  have h1 := AE x.1 y.1;have h2 := AE x.2 y.2;have h3 := zH4 (cI x.1 y.1) (cI x.2 y.2);refine bQ T Tryz.func135 rfl rfl rfl rfl ?_
  (repeat' (first|refine wS ?_|refine wR ?_|(refine rg 0 (bS (cE rfl rfl) rfl (bS (cE rfl rfl) rfl (aV ?_))))|(refine bL (id := 1) 17 [[],[0],[],[2],rN 4,[],[5],[],[7],rN 9,rN 10,rN 11] (rM 5 12) [[],[],[5,6],[5,6],[],rM 5 5,rM 5 5,rM 5 7,rM 5 7,[],[],[]] cC rfl (by decide +kernel) (dP T rfl (dO T rfl (dP T rfl (dO T rfl (dV rfl (kC (h1)) (dP T rfl (dO T rfl (dP T rfl (dL T ?_)))))))));refine dV rfl (kC (h2)) (zO rfl rfl rfl (by exact bB T rfl rfl (by decide) (by decide) rfl rfl rfl) rfl ?_);refine dV rfl (by exact eT rfl rfl (h3) (by ((repeat (first|exact .nil|exact .v _|refine .cons ?_ ?_|refine .sl rfl (by simp) ?_));done)) rfl rfl) ?_;(all_goals (refine dE ?_;refine aV ?_)))|refine nZ ?_));all_goals first | (exfalso;omega) | exact rQ
theorem zJ4 {a b : List SP} {k : Nat} (h1 : k < a.length) (h2 : k < b.length) : cB (a.drop k) (b.drop k) = J1 (cS a[k] b[k]) (cB (a.drop (k + 1)) (b.drop (k + 1))) := by
  rw [aU h1,aU h2];rfl
theorem YW {a b : List SP} {k : Nat} (h1 : k < a.length) (h2 : k = b.length) : cB (a.drop k) (b.drop k) = 1 := by
  rw [aU h1,cX (l := b) (by omega)];rfl
theorem YV {a b : List SP} {k : Nat} (h1 : k = a.length) (h2 : k < b.length) : cB (a.drop k) (b.drop k) = -1 := by
  rw [cX (l := a) (by omega),aU h2];rfl
theorem YU {a b : List SP} {k : Nat} (h1 : k = a.length) (h2 : k = b.length) : cB (a.drop k) (b.drop k) = 0 := by
  rw [cX (l := a) (by omega),cX (l := b) (by omega)];rfl
abbrev zH7 : AV := .clo (.func 135) [] []
theorem IJ (a b : List SP) (ha : a.length ≤ 9223372036854775807) (hb : b.length ≤ 9223372036854775807) : aR Tryz.prog 134 [.rowE (eZ a) 2,.rowE (eZ b) 2,zH7] [] (.i (cB a b)) [] := by
  have hla : (eZ a).length = a.length := by simp
  have hlb : (eZ b).length = b.length := by simp
  refine bQ T Tryz.func134 rfl rfl rfl rfl ?_
  (repeat' (first|refine wS ?_|refine wB ?_|(refine rg 0 (aV ?_))|(refine rg 1 (mW rfl (qW T rfl (mV ?_))))|refine nZ ?_));refine dA (X := {k : Nat // k ≤ a.length ∧ k ≤ b.length ∧ cB a b = cB (a.drop k) (b.drop k)}) (fun k => [(0,.rowE (eZ a) 2),(1,.rowE (eZ b) 2),(2,zH7),(11,.rowE (eZ a) 2),(12,.i (eZ a).length),(13,.i k.1)]) (fun _ => []) (fun k => a.length - k.1) ⟨0,by omega,by omega,rfl⟩ (eW []) ?_
  rintro ⟨k,hk,hkb,he⟩;dsimp only;by_cases h1 : k < a.length
  · have g1 := W9 h1;by_cases h2 : k < b.length
    · have g2 := W9 h2;have e1 := zJ4 h1 h2;have hc := RD a[k] b[k];generalize a[k] = x at *;generalize b[k] = y at *;by_cases h0 : cS x y = 0
      · rw [h0] at hc e1;rw [RE] at e1
        (repeat' (first|refine wS ?_|refine wB ?_|refine wK ?_|refine wU ?_|(refine wC rfl ?_ ?_<;>(intro hb;(try simp only [nm] at hb);try (exfalso;omega)))|(refine rg 2 (vV (aO rfl rfl) ?_))|(refine rg 3 (mW rfl (vV (ix T rfl (by omega) (iS a) g1) (lW T rfl (bS (bO T rfl) rfl (aW rfl (aT T rfl rfl rfl rfl rfl rfl (by decide) rfl ?_)))))))|(refine rg 4 (dX rfl (qW T rfl (vV (jP rfl rfl) ?_))))|(refine rg 6 (dX rfl (vV (ix T rfl (by omega) (iS b) g2) (lW T rfl (bS (bO T rfl) rfl (aT T rfl rfl rfl rfl rfl rfl (by decide) rfl ?_))))))|(refine rg 7 (mW rfl (lW T rfl (lW T rfl (vV (kC (hc)) (aV ?_))))))|(refine rg 8 (mW rfl (vV (fI rfl rfl) ?_)))|(refine rg 10 (vV (bT rfl rfl (by omega) (by omega)) (mV ?_)))|refine nZ ?_));all_goals first | (exfalso;omega) | exact ⟨⟨k + 1,by omega,by omega,he.trans e1⟩,by dsimp only;omega,eW []⟩
      · rw [HY h0] at e1;generalize cS x y = q at *
        (repeat' (first|refine wS ?_|refine wB ?_|refine wK ?_|refine wR ?_|(refine wC rfl ?_ ?_<;>(intro hb;(try simp only [nm] at hb);try (exfalso;omega)))|(refine rg 2 (vV (aO rfl rfl) ?_))|(refine rg 3 (mW rfl (vV (ix T rfl (by omega) (iS a) g1) (lW T rfl (bS (bO T rfl) rfl (aW rfl (aT T rfl rfl rfl rfl rfl rfl (by decide) rfl ?_)))))))|(refine rg 4 (dX rfl (qW T rfl (vV (jP rfl rfl) ?_))))|(refine rg 6 (dX rfl (vV (ix T rfl (by omega) (iS b) g2) (lW T rfl (bS (bO T rfl) rfl (aT T rfl rfl rfl rfl rfl rfl (by decide) rfl ?_))))))|(refine rg 7 (mW rfl (lW T rfl (lW T rfl (vV (kC (hc)) (aV ?_))))))|(refine rg 8 (mW rfl (vV (fI rfl rfl) ?_)))|(refine rg 9 (mW rfl (aV ?_)))|refine nZ ?_));all_goals first | (exfalso;omega) | exact cY (.inl rfl) rfl (by rw [he,e1];rfl)
    · have e1 := YW h1 (show k = b.length by omega)
      (repeat' (first|refine wS ?_|refine wB ?_|refine wK ?_|refine wR ?_|(refine wC rfl ?_ ?_<;>(intro hb;(try simp only [nm] at hb);try (exfalso;omega)))|(refine rg 2 (vV (aO rfl rfl) ?_))|(refine rg 3 (mW rfl (vV (ix T rfl (by omega) (iS a) g1) (lW T rfl (bS (bO T rfl) rfl (aW rfl (aT T rfl rfl rfl rfl rfl rfl (by decide) rfl ?_)))))))|(refine rg 4 (dX rfl (qW T rfl (vV (jP rfl rfl) ?_))))|(refine rg 5 (aV ?_))|refine nZ ?_));all_goals first | (exfalso;omega) | exact cY (.inl rfl) rfl (by rw [he,e1];rfl)
  · by_cases h2 : k < b.length
    · have e1 := YV (show k = a.length by omega) h2
      (repeat' (first|refine wS ?_|refine wR ?_|refine wE ?_|(refine wC rfl ?_ ?_<;>(intro hb;(try simp only [nm] at hb);try (exfalso;omega)))|(refine rg 2 (vV (aO rfl rfl) ?_))|(refine rg 11 (mW rfl (qW T rfl (mW rfl (qW T rfl (vV (aO rfl rfl) ?_))))))|(refine rg 12 (aV ?_))|refine nZ ?_));all_goals first | (exfalso;omega) | exact cY (.inl rfl) rfl (by rw [he,e1];rfl)
    · have e1 := YU (show k = a.length by omega) (show k = b.length by omega)
      (repeat' (first|refine wS ?_|refine wK ?_|refine wR ?_|refine wE ?_|(refine wC rfl ?_ ?_<;>(intro hb;(try simp only [nm] at hb);try (exfalso;omega)))|(refine rg 2 (vV (aO rfl rfl) ?_))|(refine rg 11 (mW rfl (qW T rfl (mW rfl (qW T rfl (vV (aO rfl rfl) ?_))))))|(refine rg 13 (aV ?_))|refine nZ ?_));all_goals first | (exfalso;omega) | exact cY (.inl rfl) rfl (by rw [he,e1];rfl)
abbrev HC (w : W) : AV := .agg (wA w)
def F3 (w : W) : Prop := w.1.length ≤ 1000000 ∧ w.2.2.length ≤ 1000000
theorem KL (a b : W) (ha : F3 a) (hb : F3 b) : aR Tryz.prog 99 [HC a,HC b] [] (.i (nS a b)) [] := by
  obtain ⟨p,m,c⟩ := a;obtain ⟨p',m',c'⟩ := b;unfold F3 at ha hb;dsimp only at ha hb;have h1 := OF p p' (by omega) (by omega)
  have h2 := IJ c c' (by omega) (by omega)
  have e : nS (p,m,c) (p',m',c') = J1 (cL p p') (cB c c') := rfl;rw [e];generalize cL p p' = x at *;generalize cB c c' = y at *;by_cases h0 : x = 0
  · subst h0;rw [RE];refine bQ T Tryz.func99 rfl rfl rfl rfl ?_
    (repeat' (first|refine wS ?_|refine wK ?_|refine wR ?_|refine wU ?_|(refine rg 0 (bS (cE rfl rfl) rfl (bS (cE rfl rfl) rfl (aV ?_))))|(refine rg 1 (iL T rfl (iL T rfl (vV (kC (h1)) (aV ?_)))))|(refine rg 2 (mW rfl (vV (fI rfl rfl) ?_)))|(refine rg 4 (iL T rfl (iL T rfl (vV (kC (h2)) (aV ?_)))))|refine nZ ?_));all_goals first | (exfalso;omega) | exact rQ
  · rw [HY h0];refine bQ T Tryz.func99 rfl rfl rfl rfl ?_
    (repeat' (first|refine wS ?_|refine wR ?_|(refine wC rfl ?_ ?_<;>(intro hb;(try simp only [nm] at hb);try (exfalso;omega)))|(refine rg 0 (bS (cE rfl rfl) rfl (bS (cE rfl rfl) rfl (aV ?_))))|(refine rg 1 (iL T rfl (iL T rfl (vV (kC (h1)) (aV ?_)))))|(refine rg 2 (mW rfl (vV (fI rfl rfl) ?_)))|(refine rg 3 (mW rfl (aV ?_)))|refine nZ ?_));all_goals first | (exfalso;omega) | exact rQ
theorem uH (a b : W) (ha : F3 a) (hb : F3 b) : aR Tryz.prog 97 [HC a,HC b] [] (.i (eI a b)) [] := by
  have h1 := KL a b ha hb;have h2 := AE a.2.1 b.2.1;have h3 := zH4 (nS a b) (cI a.2.1 b.2.1);refine bQ T Tryz.func97 rfl rfl rfl rfl ?_
  (repeat' (first|refine wS ?_|refine wR ?_|(refine rg 0 (bS (cE rfl rfl) rfl (bS (cE rfl rfl) rfl (aV ?_))))|(refine bL (id := 1) 15 [[],[],[0,1],[],[3],[],[5],rN 7,rN 8,rN 9] (rM 5 10) [[],[5],[],[5,6,7],[5,6,7],rM 5 5,rM 5 5,[],[],[]] cC rfl (by decide +kernel) (dO T rfl (dO T rfl (dV rfl (kC (h1)) (dP T rfl (dO T rfl (dP T rfl (dO T rfl (dV rfl (kC (h2)) (zO rfl rfl rfl (by exact bB T rfl rfl (by decide) (by decide) rfl rfl rfl) rfl ?_)))))))));refine dV rfl (by exact eT rfl rfl (h3) (by ((repeat (first|exact .nil|exact .v _|refine .cons ?_ ?_|refine .sl rfl (by simp) ?_));done)) rfl rfl) ?_;(all_goals (refine dE ?_;refine aV ?_)))|refine nZ ?_));all_goals first | (exfalso;omega) | exact rQ
theorem Q3 (a b : W) (ha : F3 a) (hb : F3 b) : aR Tryz.prog 102 [HC a,HC b] [] (.b (yY a b)) [] := by
  have h1 := KL a b ha hb;refine bQ T Tryz.func102 rfl rfl rfl rfl ?_
  (repeat' (first|refine wS ?_|refine wR ?_|(refine rg 0 (bS (cE rfl rfl) rfl (bS (cE rfl rfl) rfl (aV ?_))))|(refine rg 1 (lW T rfl (lW T rfl (vV (kC (h1)) (vV (dJ rfl rfl) (aV ?_))))))|refine nZ ?_));all_goals first | (exfalso;omega) | exact rQ
end Go.Proofs.YtmmkhmilpeodnaaGreat
namespace Go.Ld
open Go.Ab Go.Proofs.YtmmkhmilpeodnaaGreat
theorem kW (l : List W) : ∀ e,e ∈ fP l → e.length = 3 := by intro e he;obtain ⟨n,_,rfl⟩ := bI.1 he;rfl
theorem eS (l : List W) : (fP l).length = l.length := bC _
theorem oJ {L : List W} {j : Int} {i : Nat} {x : W} (h : L[i]? = some x) (e : j = i) : (fP L)[0 + j.toNat]? = some (wA x) := by
  subst e;simp [h]
theorem uD {L : List W} {j : Int} {i : Nat} {x : W} (e : j = i) : (fP L).set (0 + j.toNat) (wA x) = fP (L.set i x) := by
  subst e;simp [fP,qG]
theorem mY {α : Type} (A B : List α) (x : α) {n : Nat} (h : n = A.length) : (A ++ x :: B)[n]? = some x := by subst h;simp
theorem nD {α : Type} (A B : List α) (x y : α) {n : Nat} (h : n = A.length) : (A ++ x :: B).set n y = A ++ y :: B := by subst h;simp
abbrev Up (l : List W) : Prop := l.Pairwise (fun a b => eI a b ≤ 0)
theorem M1 {l : List W} (h : Up l) : dW eI l = l := (zJ iR (.refl _) h).symm
theorem B6 {l m : List W} (hp : m.Perm l) (h : Up m) : dW eI l = m := (zJ iR hp h).symm
theorem yC {a b : W} (h : eI a b < 0) : eI a b ≤ 0 := by omega
theorem HI {S1 S2 : List W} {x : W} (h : Up (S1 ++ S2)) (h1 : ∀ y,y ∈ S1 → eI y x ≤ 0) (h2 : ∀ y,y ∈ S2 → eI x y ≤ 0) : Up (S1 ++ x :: S2) := by
  obtain ⟨a,b,c⟩ := eU.1 h;refine eU.2 ⟨a,eR.2 ⟨h2,b⟩,fun p hp q hq => ?_⟩
  rcases bN.1 hq with rfl | hq
  · exact h1 p hp
  · exact c p hp q hq
theorem zA0 {A B : List W} (h1 : Up A) (h2 : Up B) (h3 : ∀ a b,a ∈ A → b ∈ B → eI a b ≤ 0) : Up (A ++ B) := eU.2 ⟨h1,h2,fun a ha b hb => h3 a b ha hb⟩
theorem JO {A : List W} {y : W} (h : Up (A ++ [y])) : ∀ z,z ∈ A ++ [y] → eI z y ≤ 0 := by
  intro z hz;obtain ⟨a,b,c⟩ := eU.1 h;rcases bF.1 hz with hz | hz
  · exact c z hz y (by simp)
  · rw [cD.1 hz,iR.rfl'];exact fG _
theorem VN {B : List W} {y : W} (h : Up (y :: B)) : ∀ z,z ∈ y :: B → eI y z ≤ 0 := by
  intro z hz;rcases bN.1 hz with rfl | hz
  · rw [iR.rfl'];exact fG _
  · exact (eR.1 h).1 z hz
theorem zK2 {a b : W} (h : ¬ eI a b < 0) : eI b a ≤ 0 := by have := iR.neg a b;omega
def OT (l : List W) (a b : Nat) : List W := l.take a ++ (dW eI ((l.drop a).take (b - a)) ++ l.drop b)
theorem iF {l : List W} : (dW eI l).length = l.length := (dS eI l).length_eq
theorem PS {l : List W} {a : Nat} (h : a ≤ l.length) : OT l a a = l := by unfold OT;simp [dW]
theorem WA {l : List W} {a : Nat} (h : a < l.length) : OT l a (a + 1) = l := by
  unfold OT;rw [show a + 1 - a = 1 by omega,aU h]
  simp only [nN,jU,dW,V0];rw [List.singleton_append,← aU h,bM]
structure ZV (l : List W) (a i : Nat) (x : W) (q : List W × List W) : Prop where
  eq : q.1 ++ q.2 = dW eI ((l.drop a).take (i - a))
  gt : ∀ y,y ∈ q.2 → eI x y < 0
def tS (l : List W) (a i : Nat) (x : W) (q : List W × List W) : List W := (l.take a ++ q.1) ++ x :: (q.2 ++ l.drop (i + 1))
theorem NO {l : List W} {a i : Nat} {x : W} (h1 : a < i) (h2 : i < l.length) (hx : l[i]? = some x) : ZV l a i x (dW eI ((l.drop a).take (i - a)),[]) ∧ OT l a i = tS l a i x (dW eI ((l.drop a).take (i - a)),[]) := by
  refine ⟨⟨by simp,fun y hy => by cases hy⟩,?_⟩
  unfold OT tS;have : l.drop i = x :: l.drop (i + 1) := by
    rw [aA h2] at hx;rw [aU h2];cases hx;rfl
  simp [this]
theorem KW {l : List W} {a i : Nat} {x : W} {q : List W × List W} (h : ZV l a i x q) (h1 : a < i) (h2 : i < l.length) : q.1.length + q.2.length = i - a := by
  have := congrArg List.length h.eq;simp only [aF,iF,bD,dR] at this;omega
theorem SE {l : List W} {a i : Nat} {x : W} {q : List W × List W} (h : ZV l a i x q) (h1 : a < i) (h2 : i < l.length) : (tS l a i x q).length = l.length := by
  have := KW h h1 h2;unfold tS;simp only [aF,List.length_cons,bD,dR];omega
theorem SB {l : List W} {a i : Nat} {x : W} {q : List W × List W} (h : ZV l a i x q) (h1 : a < i) (h2 : i < l.length) (hx : l[i]? = some x) (hs : ∀ y,y ∈ q.1 → eI y x ≤ 0) : tS l a i x q = OT l a (i + 1) := by
  unfold tS OT;have e : (l.drop a).take (i + 1 - a) = (l.drop a).take (i - a) ++ [x] := by
    rw [show i + 1 - a = (i - a) + 1 by omega,UX]
    rw [eF,show a + (i - a) = i by omega,hx];rfl
  rw [e];have hp : (q.1 ++ x :: q.2).Perm ((l.drop a).take (i - a) ++ [x]) := by
    refine List.perm_middle.trans ?_;rw [h.eq];exact ((dS eI _).cons x).trans (E8 _ _).symm
  have hu : Up (q.1 ++ x :: q.2) := HI (by rw [h.eq];exact kN iR _) hs (fun y hy => yC (h.gt y hy))
  rw [B6 hp hu];simp
theorem XM {l : List W} {a i : Nat} {x y : W} {S : List W} {q : List W × List W} (h : ZV l a i x q) (e : q.1 = S ++ [y]) (hc : ¬ eI x y < 0) : ∀ z,z ∈ q.1 → eI z x ≤ 0 := by
  have hu : Up (q.1 ++ q.2) := by rw [h.eq];exact kN iR _
  have hu1 : Up q.1 := (eU.1 hu).1;rw [e] at hu1;intro z hz;rw [e] at hz;exact iR.le_tr (JO hu1 z hz) (zK2 hc)
theorem SC {l : List W} {a i : Nat} {x y : W} {S : List W} {q : List W × List W} (h : ZV l a i x q) (e : q.1 = S ++ [y]) (hc : eI x y < 0) : ZV l a i x (S,y :: q.2) := by
  refine ⟨?_,fun z hz => ?_⟩
  · rw [← h.eq,e];simp
  · rcases bN.1 hz with rfl | hz
    · exact hc
    · exact h.gt z hz
end Go.Ld
