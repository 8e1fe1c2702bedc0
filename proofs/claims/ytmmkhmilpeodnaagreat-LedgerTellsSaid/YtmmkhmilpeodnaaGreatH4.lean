/-
  Texts of the logic and of the layer,in one module (part 4).
-/
import Derived.Test.YtmmkhmilpeodnaaGreatH3
set_option linter.unusedVariables false
set_option linter.unusedSimpArgs false
set_option linter.unnecessarySimpa false
namespace Go.Proofs.YtmmkhmilpeodnaaGreat
open Go Go.Ab
attribute [local irreducible] VC AW bX aT
set_option maxHeartbeats 4000000
def J7 (m st er sl:Int):Bool:=decide (0≤min (min (min m st) er) sl)&&decide (max (max (max m st) er) sl≤1048576)
theorem JG (m st er sl:Int):aT Tryz.prog 41 [C9 m st er sl] [] (.b (J7 m st er sl)) []:=by
  refine bK T Tryz.func41 rfl rfl rfl rfl ?_
  (repeat' (first|refine wS ?_|refine wR ?_|(refine rg 0 (bN (cC rfl rfl) rfl (aV ?_)))|(refine rg 1 (gB T rfl (gB T rfl (gB T rfl (gB T rfl (vV (zN2 rfl rfl rfl rfl) (vV (gH rfl rfl) (mV ?_)))))));refine bC rfl rfl ?_ ?_<;>(intro hb;rw [hb];(try simp only [nm] at hb);try (exfalso;omega));(all_goals first|(refine gT (fW T rfl (gT (lW T rfl (gT (fW T rfl (gT (lW T rfl (gT (fV T ?_)))))))));refine gT (lW T rfl (gT (fW T rfl (gT (lW T rfl (gT (vV (zN3 rfl rfl rfl rfl) (gT (vV (lA rfl rfl) ?_))))))))))|(iterate 10 refine gF ?_));(all_goals (refine pW rfl (aV ?_))))|refine nZ ?_));all_goals
    refine cH (.inl rfl) rfl (mB ?_);rw [jP];simp only [J7,aN,decide_eq_true_eq]
    first | omega | (simp;omega)
theorem zS5 (l:List Int) (v:Int) (hl:l.length≤1000):aT Tryz.prog 26 [.rowE (ints l) 1,.i v] [] (.b (decide (v∈l))) []:=by
  have hlen:(ints l).length=l.length:=by simp
  refine bK T Tryz.func26 rfl rfl rfl rfl ?_
  (repeat' (first|refine wS ?_|refine wB ?_|(refine rg 0 (aV ?_))|(refine rg 1 (aV ?_))|refine nZ ?_));refine cO (X:={k:Nat // k≤l.length∧(v∈l↔v∈l.drop k)}) (fun k=>[(0,.rowE (ints l) 1),(1,.i v),(5,.i k.1)]) (fun _=>[]) (fun k=>l.length-k.1) ⟨0,by simp⟩ (fA []) ?_
  rintro ⟨k,hk,hf⟩;dsimp only;by_cases hlt:k<l.length
  · repeat' (first|refine wS ?_|refine wB ?_|refine wK ?_|refine wR ?_|(refine wC rfl (fun hb=>?_) (fun hb=>?_) <;> (((try simp only [nm] at hb);try (exfalso;omega))))|(refine rg 2 (dK rfl (qW T rfl (vV (aI rfl rfl) ?_))))|(refine rg 4 (dK rfl (vV (ix T rfl (by omega) (ints_len l) (mN (k:=k) (by omega))) (lW T rfl (mW rfl (vV (eQ rfl rfl) ?_))))))|(refine rg 5 (aV ?_))|(refine iA 3 rfl rfl rfl (by omega) (by omega) ?_)|(refine nZ ?_))
    · refine cH (.inl rfl) rfl (mB ?_);have:v∈l:=by rw [← hb];exact aH hlt
      simp [this]
    · refine ⟨⟨k+1,by omega,?_⟩,by dsimp only;omega,fA []⟩
      rw [hf,bB hlt];simp only [bO];exact ⟨fun h=>h.resolve_left (fun e=>hb e.symm),.inr⟩
  · (repeat' (first|refine wS ?_|refine wR ?_|refine wE ?_|(refine wC rfl (fun hb=>?_) (fun hb=>?_) <;> (((try simp only [nm] at hb);try (exfalso;omega))))|(refine rg 2 (dK rfl (qW T rfl (vV (aI rfl rfl) ?_))))|(refine rg 6 (aV ?_))|(refine nZ ?_)));refine cH (.inl rfl) rfl (mB ?_)
    rw [dJ (by omega)] at hf
    simp at hf;simp [hf]
structure yK (ks:List KD) (ls:List LT) (ps:List Int) (bs:List BX):Prop where
  len:ps.length=bs.length
  p:∀ i:Nat,i<ps.length→(i:Int)∈ps
  k:∀ (i:Nat) (h:i<ks.length),0≤ks[i].2∧ks[i].2≤1048576
  l:∀ (i:Nat) (h:i<ls.length),0≤ls[i].1∧ls[i].1<ks.length
  b:∀ (i:Nat) (h:i<bs.length),-1≤bs[i].1∧bs[i].1<ls.length∧0≤bs[i].2.1∧bs[i].2.1≤20000∧(bs[i].1 = -1→bs[i].2.1=0)∧0≤bs[i].2.2∧bs[i].2.2≤1073741824
open Classical in
noncomputable def O6 (ks:List KD) (ls:List LT) (ps:List Int) (bs:List BX):Bool:=decide (yK ks ls ps bs)
theorem tA {ks:List KD}{ls:List LT}{ps:List Int}{bs:List BX}(h:¬ yK ks ls ps bs):O6 ks ls ps bs=false:=by unfold O6;simp [h]
theorem AD {ks:List KD}{ls:List LT}{ps:List Int}{bs:List BX}(h:yK ks ls ps bs):O6 ks ls ps bs=true:=by unfold O6;simp [h]
theorem PV (ks:List KD) (ls:List LT) (ps:List Int) (bs:List BX) (h1:ks.length≤1000) (h2:ls.length≤1000) (h3:ps.length≤1000) (h4:bs.length≤1000) :
    aT Tryz.prog 42 [.rowE (fQ ks) 2,.rowE (iS ls) 3,.rowE (ints ps) 1,.rowE (eB bs) 3] [] (.b (O6 ks ls ps bs)) []:=by
  have e1:(fQ ks).length=ks.length:=by simp
  have e2:(iS ls).length=ls.length:=by simp
  have e3:(ints ps).length=ps.length:=by simp
  have e4:(eB bs).length=bs.length:=by simp
  refine bK T Tryz.func42 rfl rfl rfl rfl ?_
  repeat' (first|refine wS ?_|refine wB ?_|refine wK ?_|refine wR ?_|(refine wC rfl ?_ ?_<;>(intro hb;(try simp only [nm] at hb);try (exfalso;omega)))|(refine rg 0 (aV ?_))|(refine rg 1 (mW rfl (qW T rfl (mW rfl (qW T rfl (vV (eX rfl rfl) ?_))))))|(refine rg 2 (aV ?_))|(refine rg 3 (aV ?_))|refine nZ ?_)
  · (refine cH (.inl rfl) rfl (mB (tA fun h=>?_).symm);have:=h.len;omega)
  have hlen:ps.length=bs.length:=by omega
  refine cO (X:={k:Nat // k≤ps.length∧∀ i:Nat,i<k→(i:Int)∈ps}) (fun k=>[(0,.rowE (fQ ks) 2),(1,.rowE (iS ls) 3),(2,.rowE (ints ps) 1),(3,.rowE (eB bs) 3),(9,.i k.1)]) (fun _=>[]) (fun k=>ps.length-k.1) ⟨0,by omega,fun i hi=>by omega⟩ (fA []) ?_
  rintro ⟨k,hk,hp⟩;dsimp only;by_cases hlt:k<ps.length
  · repeat' (first|refine wS ?_|refine wB ?_|refine wK ?_|refine wR ?_|(refine wC rfl (fun hb=>?_) (fun hb=>?_) <;> (((try simp only [nm] at hb);try (exfalso;omega))))|(refine rg 4 (dK rfl (qW T rfl (vV (aI rfl rfl) ?_))))|(refine rg 6 (dK rfl (vV (by exact eA rfl rfl (zS5 ps _ h3) rfl rfl rfl) ?_));refine vV (cY rfl) ?_)|(refine rg 7 (aV ?_))|(refine iA 5 rfl rfl rfl (by omega) (by omega) ?_)|(refine nZ ?_))
    · (refine cH (.inl rfl) rfl (mB (tA fun h=>?_).symm);exact hb (h.p k hlt))
    · refine ⟨⟨k+1,by omega,fun i hi=>?_⟩,by dsimp only;omega,fA []⟩
      by_cases e:i=k
      · subst e;exact hb
      · exact hp i (by omega)
  have hpA:∀ i:Nat,i<ps.length→(i:Int)∈ps:=fun i hi=>hp i (by omega)
  clear hp
  (repeat' (first|refine wS ?_|refine wB ?_|refine wE ?_|(refine wC rfl ?_ ?_<;>(intro hb;(try simp only [nm] at hb);try (exfalso;omega)))|(refine rg 4 (dK rfl (qW T rfl (vV (aI rfl rfl) ?_))))|(refine rg 8 (aV ?_))|refine nZ ?_));refine cO (X:={k:Nat // k≤ks.length∧∀ (i:Nat) (h:i<ks.length),i<k→0≤ks[i].2∧ks[i].2≤1048576}) (fun k=>[(0,.rowE (fQ ks) 2),(1,.rowE (iS ls) 3),(2,.rowE (ints ps) 1),(3,.rowE (eB bs) 3),(10,.i k.1)]) (fun _=>[]) (fun k=>ks.length-k.1) ⟨0,by omega,fun i _ hi=>by omega⟩ (fA []) ?_
  rintro ⟨k1,hk1,hq⟩;dsimp only;by_cases hlt1:k1<ks.length
  · (repeat' (first|refine wS ?_|refine wB ?_|refine wK ?_|refine wR ?_|refine rX rfl ?_|(refine wC rfl (fun hb=>?_) (fun hb=>?_) <;> (((try simp only [nm] at hb);try (exfalso;omega))))|(refine rg 9 (dK rfl (qW T rfl (vV (aI rfl rfl) ?_))))|(refine rg 11 (dK rfl (vV (ix T rfl (by omega) (nK ks) (tE (k:=k1) hlt1)) (gB T rfl (vV (aI rfl rfl) (mV ?_)))));refine bC rfl rfl (fun hb=>?_) (fun hb=>?_) <;> ((rw [hb];(try simp only [nm] at hb);try ((exfalso;omega);done)));(all_goals first|(refine gT (mW rfl (gT (mW rfl (gT (vV (ix T rfl (by omega) (nK ks) (tE (k:=k1) hlt1)) (gT (fW T rfl (gT (lV T ?_)))))))));refine gT (vV (eE rfl rfl) ?_))|(iterate 6 refine gF ?_));(all_goals (refine pV ?_)))|(refine rg 12 (aV ?_))|(refine iA 10 rfl rfl rfl (by omega) (by omega) ?_)|(refine nZ ?_)));all_goals first
      | (refine cH (.inl rfl) rfl (mB (tA fun h=>?_).symm);have:=h.k k1 hlt1;omega)
      | (refine ⟨⟨k1+1,by omega,fun i hi hik=>?_⟩,by dsimp only; omega,fA []⟩
         by_cases e:i=k1
         · subst e;omega
         · exact hq i hi (by omega))
  have hkA:∀ (i:Nat) (h:i<ks.length),0≤ks[i].2∧ks[i].2≤1048576:=fun i hi=>hq i hi (by omega)
  clear hq
  (repeat' (first|refine wS ?_|refine wB ?_|refine wE ?_|(refine wC rfl ?_ ?_<;>(intro hb;(try simp only [nm] at hb);try (exfalso;omega)))|(refine rg 9 (dK rfl (qW T rfl (vV (aI rfl rfl) ?_))))|(refine rg 13 (aV ?_))|refine nZ ?_));refine cO (X:={k:Nat // k≤ls.length∧∀ (i:Nat) (h:i<ls.length),i<k→0≤ls[i].1∧ls[i].1<ks.length}) (fun k=>[(0,.rowE (fQ ks) 2),(1,.rowE (iS ls) 3),(2,.rowE (ints ps) 1),(3,.rowE (eB bs) 3),(11,.i k.1)]) (fun _=>[]) (fun k=>ls.length-k.1) ⟨0,by omega,fun i _ hi=>by omega⟩ (fA []) ?_
  rintro ⟨k2,hk2,hq⟩;dsimp only;by_cases hlt2:k2<ls.length
  · (repeat' (first|refine wS ?_|refine wB ?_|refine wK ?_|refine wR ?_|refine rX rfl ?_|(refine wC rfl (fun hb=>?_) (fun hb=>?_) <;> (((try simp only [nm] at hb);try (exfalso;omega))))|(refine rg 14 (dK rfl (qW T rfl (vV (aI rfl rfl) ?_))))|(refine rg 16 (dK rfl (vV (ix T rfl (by omega) (oU ls) (vZ (k:=k2) hlt2)) (gB T rfl (vV (aI rfl rfl) (mV ?_)))));refine bC rfl rfl (fun hb=>?_) (fun hb=>?_) <;> ((rw [hb];(try simp only [nm] at hb);try ((exfalso;omega);done)));(all_goals first|(refine gT (mW rfl (gT (mW rfl (gT (vV (ix T rfl (by omega) (oU ls) (vZ (k:=k2) hlt2)) (gT (fW T rfl (gT (lV T ?_)))))))));refine gT (mW rfl (gT (qW T rfl (gT (vV (gH rfl rfl) ?_))))))|(iterate 8 refine gF ?_));(all_goals (refine pV ?_)))|(refine rg 17 (aV ?_))|(refine iA 15 rfl rfl rfl (by omega) (by omega) ?_)|(refine nZ ?_)));all_goals first
      | (refine cH (.inl rfl) rfl (mB (tA fun h=>?_).symm);have:=h.l k2 hlt2;omega)
      | (refine ⟨⟨k2+1,by omega,fun i hi hik=>?_⟩,by dsimp only; omega,fA []⟩
         by_cases e:i=k2
         · subst e;omega
         · exact hq i hi (by omega))
  have hlA:∀ (i:Nat) (h:i<ls.length),0≤ls[i].1∧ls[i].1<ks.length:=fun i hi=>hq i hi (by omega)
  clear hq
  (repeat' (first|refine wS ?_|refine wB ?_|refine wE ?_|(refine wC rfl ?_ ?_<;>(intro hb;(try simp only [nm] at hb);try (exfalso;omega)))|(refine rg 14 (dK rfl (qW T rfl (vV (aI rfl rfl) ?_))))|(refine rg 18 (aV ?_))|refine nZ ?_));refine cO (X:={k:Nat // k≤bs.length∧∀ (i:Nat) (h:i<bs.length),i<k→-1≤bs[i].1∧bs[i].1<ls.length∧0≤bs[i].2.1∧bs[i].2.1≤20000∧(bs[i].1 = -1→bs[i].2.1=0)∧0≤bs[i].2.2∧bs[i].2.2≤1073741824}) (fun k=>[(0,.rowE (fQ ks) 2),(1,.rowE (iS ls) 3),(2,.rowE (ints ps) 1),(3,.rowE (eB bs) 3),(12,.i k.1)]) (fun _=>[]) (fun k=>bs.length-k.1) ⟨0,by omega,fun i _ hi=>by omega⟩ (fA []) ?_
  rintro ⟨k3,hk3,hq⟩;dsimp only;by_cases hlt3:k3<bs.length
  · (repeat' (first|refine wS ?_|refine wB ?_|refine wK ?_|refine wR ?_|refine rX rfl ?_|(refine wC rfl (fun hb=>?_) (fun hb=>?_) <;> (((try simp only [nm] at hb);try (exfalso;omega))))|(refine rg 19 (dK rfl (qW T rfl (vV (aI rfl rfl) ?_))))|(refine rg 21 (dK rfl (vV (ix T rfl (by omega) (jM bs) (wJ (k:=k3) hlt3)) (lW T rfl (bN (bI T rfl) rfl (aL T rfl rfl rfl rfl rfl rfl (by decide) rfl ?_))))))|(refine rg 22 (gB T rfl (vV (aI rfl rfl) (mV ?_)));refine bC rfl rfl (fun hb=>?_) (fun hb=>?_) <;> ((rw [hb];(try simp only [nm] at hb);try ((exfalso;omega);done)));(all_goals first|(refine gT (fW T rfl (gT (lW T rfl (gT (mW rfl (gT (qW T rfl (gT (vV (gH rfl rfl) ?_))))))))))|(iterate 5 refine gF ?_));(all_goals (refine pW rfl (mV ?_)));(all_goals first|(refine gK ?_)|(refine bC rfl rfl (fun hb=>?_) (fun hb=>?_) <;> ((rw [hb];(try simp only [nm] at hb);try ((exfalso;omega);done)))));(all_goals first|(refine gT (fW T rfl (gT (lW T rfl (gT (vV (aI rfl rfl) ?_))))))|(iterate 3 refine gF ?_));(all_goals (refine pW rfl (mV ?_)));(all_goals first|(refine gK ?_)|(refine bC rfl rfl (fun hb=>?_) (fun hb=>?_) <;> ((rw [hb];(try simp only [nm] at hb);try ((exfalso;omega);done)))));(all_goals first|(refine gT (fW T rfl (gT (lW T rfl (gT (vV (eE rfl rfl) ?_))))))|(iterate 3 refine gF ?_));(all_goals (refine pW rfl (mV ?_)));(all_goals first|(refine gK ?_)|(refine bC rfl rfl (fun hb=>?_) (fun hb=>?_) <;> ((rw [hb];(try simp only [nm] at hb);try ((exfalso;omega);done)))));(all_goals first|(refine gT (fW T rfl (gT (lW T rfl (gT (vV (eQ rfl rfl) (gT (mV ?_))))))))|(iterate 4 refine gF ?_));(all_goals first|(refine gK ?_)|(refine bC rfl rfl (fun hb=>?_) (fun hb=>?_) <;> ((rw [hb];(try simp only [nm] at hb);try ((exfalso;omega);done)))));(all_goals first|(refine gT (fW T rfl (gT (lW T rfl (gT (vV (eX rfl rfl) ?_))))))|((iterate 3 first|refine gF ?_|refine gU ?_)));(all_goals first|(refine gT (pV ?_))|(refine gF ?_));(all_goals (refine pW rfl (mV ?_)));(all_goals first|(refine gK ?_)|(refine bC rfl rfl (fun hb=>?_) (fun hb=>?_) <;> ((rw [hb];(try simp only [nm] at hb);try ((exfalso;omega);done)))));(all_goals first|(refine gT (fW T rfl (gT (lW T rfl (gT (vV (aI rfl rfl) ?_))))))|(iterate 3 refine gF ?_));(all_goals (refine pW rfl (mV ?_)));(all_goals first|(refine gK ?_)|(refine bC rfl rfl (fun hb=>?_) (fun hb=>?_) <;> ((rw [hb];(try simp only [nm] at hb);try ((exfalso;omega);done)))));(all_goals first|(refine gT (fW T rfl (gT (lW T rfl (gT (vV (eE rfl rfl) ?_))))))|(iterate 3 refine gF ?_));(all_goals (refine pV ?_)))|(refine rg 23 (aV ?_))|(refine iA 20 rfl rfl rfl (by omega) (by omega) ?_)|(refine nZ ?_)));all_goals first
      | (refine cH (.inl rfl) rfl (mB (tA fun h=>?_).symm);have:=h.b k3 hlt3;omega)
      | (refine ⟨⟨k3+1,by omega,fun i hi hik=>?_⟩,by dsimp only; omega,fA []⟩
         by_cases e:i=k3
         · subst e;omega
         · exact hq i hi (by omega))
  (repeat' (first|refine wS ?_|refine wR ?_|refine wE ?_|(refine wC rfl ?_ ?_<;>(intro hb;(try simp only [nm] at hb);try (exfalso;omega)))|(refine rg 19 (dK rfl (qW T rfl (vV (aI rfl rfl) ?_))))|(refine rg 24 (aV ?_))|refine nZ ?_));refine cH (.inl rfl) rfl (mB (AD ?_).symm)
  exact ⟨hlen,hpA,hkA,hlA,fun i hi=>hq i hi (by omega)⟩
abbrev AE (ks:List KD) (ls:List LT) (ps:List Int) (bs:List BX):AV:=.agg [.rowE (fQ ks) 2,.rowE (iS ls) 3,.rowE (ints ps) 1,.rowE (eB bs) 3]
def yM5 (ks:List KD) (ls:List LT) (ps:List Int) (bs:List BX):Prop:=1≤ps.length∧ps.length≤8∧bs.length≤8∧ks.length≤10∧ls.length≤10
theorem jH {n f t:Int}(h:f≤n∧n≤t):aT Tryz.prog 69 [.i n,.i f,.i t] [] (.b true) []:=by
  have:=lH n f t
  rwa [show fF n f t=true by simp [fF,h]] at this
theorem Z3 {l:List Int}{n:Int}{i:Nat}(h:i<l.length) (hn:¬ zX l n i):CE l n=false:=by
  unfold CE;simp only [decide_eq_false_iff_not];exact fun hh=>hn (hh i h)
theorem M7 {l:List Int}{n:Int}(h:∀ i,i<l.length→zX l n i):CE l n=true:=by
  unfold CE;simp only [decide_eq_true_eq];exact h
theorem RK {l:List Int}{k:Nat}(h:k<l.length):l.getD k 0=l[k]:=by simp [List.getD,h]
theorem S4 (l:List Int) (n:Int) (hl:l.length≤9223372036854775807) (hn:0≤n∧n≤1000):aT Tryz.prog 70 [.rowE (ints l) 1,.i n] [] (.b (CE l n)) []:=by
  have hlen:(ints l).length=l.length:=by simp
  refine bK T Tryz.func70 rfl rfl rfl rfl ?_
  (repeat' (first|refine wS ?_|refine wB ?_|(refine rg 0 (aV ?_))|(refine rg 1 (mW rfl (qW T rfl (mV ?_))))|refine nZ ?_));refine cO (X:={k:Nat // k≤l.length∧∀ i,i<k→zX l n i}) (fun k=>[(0,.rowE (ints l) 1),(1,.i n),(7,.rowE (ints l) 1),(8,.i (ints l).length),(9,.i k.1)]) (fun _=>[]) (fun k=>l.length-k.1) ⟨0,by omega,fun i hi=>by omega⟩ (fA []) ?_
  rintro ⟨k,hk,hq⟩;dsimp only;by_cases hlt:k<l.length
  · have hg:=RK hlt;cases hw:fF l[k] 0 (n-1)
    · have c:=hw▸lH l[k] 0 (n-1);have hno:¬ zX l n k:=fun h=>by
        unfold zX at h;rw [hg] at h;rw [show fF l[k] 0 (n-1)=true by simp [fF];omega] at hw
        cases hw
      (repeat' (first|refine wS ?_|refine wB ?_|refine wK ?_|refine wR ?_|refine wT ?_|(refine wC rfl ?_ ?_<;>(intro hb;(try simp only [nm] at hb);try (exfalso;omega)))|(refine rg 2 (vV (aI rfl rfl) ?_))|(refine rg 3 (mW rfl (vV (ix T rfl (by omega) (ints_len l) (mN (k:=k) hlt)) (lW T rfl (oM ?_)))))|(refine rg 4 (dK rfl (vV (cX rfl rfl (by omega) (by omega)) (vV (kC (c)) (vV (cY rfl) (mV ?_)))));(iterate 3 refine gF ?_);(iterate 7 refine gU ?_);refine gF (pV ?_))|(refine rg 5 (aV ?_))|refine nZ ?_));exact cH (.inl rfl) rfl (mB (Z3 hlt hno).symm)
    · have c:=hw▸lH l[k] 0 (n-1);simp only [fF,aN,decide_eq_true_eq] at hw;by_cases hk0:0<k
      · have hlt':k-1<l.length:=by omega
        have hg':=RK hlt';have hc':(ints l)[((k:Int)-1).toNat]? = some [AV.i l[k-1]]:=by rw [show ((k:Int)-1).toNat=k-1 by omega];exact mN hlt'
        (repeat' (first|refine wS ?_|refine wB ?_|refine wK ?_|refine wR ?_|(refine wC rfl ?_ ?_<;>(intro hb;(try simp only [nm] at hb);try (exfalso;omega)))|(refine rg 2 (vV (aI rfl rfl) ?_))|(refine rg 3 (mW rfl (vV (ix T rfl (by omega) (ints_len l) (mN (k:=k) hlt)) (lW T rfl (oM ?_)))))|(refine rg 4 (dK rfl (vV (cX rfl rfl (by omega) (by omega)) (vV (kC (c)) (vV (cY rfl) (mW rfl (yN rfl (yV (eE rfl rfl) (yM ?_))))))));refine bC rfl rfl ?_ ?_<;>(intro hb;rw [hb];(try simp only [nm] at hb);try (exfalso;omega));(all_goals (refine yN rfl (yN rfl (yN rfl (yV (cX rfl rfl (by omega) (by omega)) (yV (ix T rfl (by omega) (ints_len l) hc') (yO T rfl (yV (lA rfl rfl) (gT (pW rfl (pV ?_))))))))))))|(refine rg 5 (aV ?_))|(refine rg 6 (vV (bY rfl rfl (by omega) (by omega)) (mV ?_)))|refine nZ ?_));all_goals first
          | (exfalso;omega)
          | (refine cH (.inl rfl) rfl (mB (Z3 hlt (fun h=>?_)).symm);unfold zX at h;rw [hg,hg'] at h;omega)
          | (refine ⟨⟨k+1,by omega,fun i hi=>?_⟩,by dsimp only; omega,fA []⟩
             by_cases e:i=k
             · subst e;unfold zX;rw [hg,hg'];omega
             · exact hq i (by omega))
      · obtain rfl:k=0:=by omega
        (repeat' (first|refine wS ?_|refine wB ?_|refine wK ?_|refine wU ?_|(refine wC rfl ?_ ?_<;>(intro hb;(try simp only [nm] at hb);try (exfalso;omega)))|(refine rg 2 (vV (aI rfl rfl) ?_))|(refine rg 3 (mW rfl (vV (ix T rfl (by omega) (ints_len l) (mN (k:=0) hlt)) (lW T rfl (oM ?_)))))|(refine rg 4 (dK rfl (vV (cX rfl rfl (by omega) (by omega)) (vV (kC (c)) (vV (cY rfl) (mW rfl (yN rfl (yV (eE rfl rfl) (yM ?_))))))));(iterate 7 refine gF ?_);refine gT (pW rfl (pV ?_)))|(refine rg 6 (vV (bY rfl rfl (by omega) (by omega)) (mV ?_)))|refine nZ ?_));all_goals first
          | (exfalso;omega)
          | (refine ⟨⟨1,by omega,fun i hi=>?_⟩,by dsimp only; omega,fA []⟩
             obtain rfl:i=0:=by omega
             unfold zX;rw [hg];omega)
  · (repeat' (first|refine wS ?_|refine wR ?_|refine wE ?_|(refine wC rfl (fun hb=>?_) (fun hb=>?_) <;> (((try simp only [nm] at hb);try (exfalso;omega))))|(refine rg 2 (vV (aI rfl rfl) ?_))|(refine rg 7 (aV ?_))|(refine nZ ?_)));exact cH (.inl rfl) rfl (mB (M7 fun i hi=>hq i (by omega)).symm)
section
variable {P:Program}{env:eH}{h:Hp}{d:Option Nat}{ty:TypeId}{pos:String}{af:Array Edge}{g:Option (Nat × Bool)}
end
section
variable {ks:List KD}{ls:List LT}{ps:List Int}{bs:List BX}{m st er sl k a b n id lot ct ta done:Int}{ids:List Int}{M:Int}
end
end Go.Proofs.YtmmkhmilpeodnaaGreat
namespace Go.Ab
open Go
section
variable {P:Program}
end
end Go.Ab
namespace Go.Proofs.YtmmkhmilpeodnaaGreat
open Go Go.Ab
attribute [local irreducible] VC AW bX aT
set_option maxHeartbeats 4000000
theorem kF {θ:Nat→Nat}{f:Fn}{caps:List AV}(hi:AV.idfL caps=true):(AV.clo f [] caps).map θ = .clo f [] caps:=by
  show AV.clo f (AV.mapL θ []) (AV.mapL θ caps)=_;rw [oT θ caps hi];rfl
theorem ZS {w:List KD}{F:FuncId}{caps:List AV}(hl:w.length≤1000) (hi:AV.idfL caps=true) (hF:∀ x,x∈w→aT Tryz.prog F (.agg [AV.v (.string x.1),AV.i x.2]::caps) [] (.b false) []) :
    aT Tryz.prog 123 [.rowE (fQ w) 2,.clo (.func F) [] caps] [] (.i (-1)) []:=by
  have hlen:(fQ w).length=w.length:=by simp
  refine bK T Tryz.func123 rfl rfl rfl rfl ?_
  (repeat' (first|refine wS ?_|refine wB ?_|(refine rg 0 (aV ?_))|(refine rg 1 (mW rfl (qW T rfl (mV ?_))))|refine nZ ?_));refine cO (X:={k:Nat // k≤w.length}) (fun k=>[(0,.rowE (fQ w) 2),(1,.clo (.func F) [] caps),(7,.i (fQ w).length),(8,.i k.1)]) (fun _=>[]) (fun k=>w.length-k.1) ⟨0,by simp⟩ ⟨[],rfl,⟨rfl,by rw [kF hi];rfl,rfl,rfl,trivial⟩,trivial,cM,fun _ h=>absurd h (dA _)⟩ ?_
  rintro ⟨k,hk⟩;dsimp only;by_cases hlt:k<w.length
  · have hc:=hF w[k] (aH hlt);have hg:=tE (l:=w) hlt;generalize w[k]=y at *
    (repeat' (first|refine wS ?_|refine wB ?_|refine wK ?_|refine wU ?_|(refine wC rfl ?_ ?_<;>(intro hb;(try simp only [nm] at hb);try (exfalso;omega)))|(refine rg 2 (vV (aI rfl rfl) ?_))|(refine rg 3 (mW rfl (aV ?_)))|(refine rg 4 (dK rfl (mW rfl (vV (ix T rfl (by omega) (nK w) hg) (lW T rfl (vV (by exact eA rfl rfl hc rfl (by simp [AV.idfL,AV.idf,hi]) rfl) ?_))))))|(refine rg 6 (vV (bY rfl rfl (by omega) (by omega)) (mV ?_)))|refine nZ ?_));all_goals first | (exfalso;omega) | exact ⟨⟨k+1,hlt⟩,by dsimp only;omega,⟨[],rfl,⟨rfl,by rw [kF hi];rfl,rfl,rfl,trivial⟩,trivial,cM,fun _ h=>absurd h (dA _)⟩⟩
  · (repeat' (first|refine wS ?_|refine wR ?_|refine wE ?_|(refine wC rfl (fun hb=>?_) (fun hb=>?_) <;> (((try simp only [nm] at hb);try (exfalso;omega))))|(refine rg 2 (vV (aI rfl rfl) ?_))|(refine rg 7 (aV ?_))|(refine nZ ?_)));all_goals first | (exfalso;omega) | exact rQ
theorem zX5 {w:List KD}{F:FuncId}{caps:List AV}(hl:w.length≤1000) (hi:AV.idfL caps=true) (hF:∀ x,x∈w→aT Tryz.prog F (.agg [AV.v (.string x.1),AV.i x.2]::caps) [] (.b false) []) :
    aT Tryz.prog 80 [.rowE (fQ w) 2,.clo (.func F) [] caps] [] (.b false) []:=by
  have hc:=ZS hl hi hF;refine bK T Tryz.func80 rfl rfl rfl rfl ?_
  (repeat' (first|refine wS ?_|refine wR ?_|(refine rg 0 (aV ?_))|(refine rg 1 (dK rfl (vV (by exact eA rfl rfl hc rfl (by simp [AV.idfL,AV.idf,hi]) rfl) ?_));refine vV (gH rfl rfl) (aV ?_))|refine nZ ?_));all_goals first | (exfalso;omega) | exact rQ
theorem ZR {w:List LT}{F:FuncId}{caps:List AV}(hl:w.length≤1000) (hi:AV.idfL caps=true) (hF:∀ x,x∈w→aT Tryz.prog F (.agg [AV.i x.1,AV.i x.2.1,AV.b x.2.2]::caps) [] (.b false) []) :
    aT Tryz.prog 124 [.rowE (iS w) 3,.clo (.func F) [] caps] [] (.i (-1)) []:=by
  have hlen:(iS w).length=w.length:=by simp
  refine bK T Tryz.func124 rfl rfl rfl rfl ?_
  (repeat' (first|refine wS ?_|refine wB ?_|(refine rg 0 (aV ?_))|(refine rg 1 (mW rfl (qW T rfl (mV ?_))))|refine nZ ?_));refine cO (X:={k:Nat // k≤w.length}) (fun k=>[(0,.rowE (iS w) 3),(1,.clo (.func F) [] caps),(7,.i (iS w).length),(8,.i k.1)]) (fun _=>[]) (fun k=>w.length-k.1) ⟨0,by simp⟩ ⟨[],rfl,⟨rfl,by rw [kF hi];rfl,rfl,rfl,trivial⟩,trivial,cM,fun _ h=>absurd h (dA _)⟩ ?_
  rintro ⟨k,hk⟩;dsimp only;by_cases hlt:k<w.length
  · have hc:=hF w[k] (aH hlt);have hg:=vZ (l:=w) hlt;generalize w[k]=y at *
    (repeat' (first|refine wS ?_|refine wB ?_|refine wK ?_|refine wU ?_|(refine wC rfl ?_ ?_<;>(intro hb;(try simp only [nm] at hb);try (exfalso;omega)))|(refine rg 2 (vV (aI rfl rfl) ?_))|(refine rg 3 (mW rfl (aV ?_)))|(refine rg 4 (dK rfl (mW rfl (vV (ix T rfl (by omega) (oU w) hg) (lW T rfl (vV (by exact eA rfl rfl hc rfl (by simp [AV.idfL,AV.idf,hi]) rfl) ?_))))))|(refine rg 6 (vV (bY rfl rfl (by omega) (by omega)) (mV ?_)))|refine nZ ?_));all_goals first | (exfalso;omega) | exact ⟨⟨k+1,hlt⟩,by dsimp only;omega,⟨[],rfl,⟨rfl,by rw [kF hi];rfl,rfl,rfl,trivial⟩,trivial,cM,fun _ h=>absurd h (dA _)⟩⟩
  · (repeat' (first|refine wS ?_|refine wR ?_|refine wE ?_|(refine wC rfl (fun hb=>?_) (fun hb=>?_) <;> (((try simp only [nm] at hb);try (exfalso;omega))))|(refine rg 2 (vV (aI rfl rfl) ?_))|(refine rg 7 (aV ?_))|(refine nZ ?_)));all_goals first | (exfalso;omega) | exact rQ
theorem zX4 {w:List LT}{F:FuncId}{caps:List AV}(hl:w.length≤1000) (hi:AV.idfL caps=true) (hF:∀ x,x∈w→aT Tryz.prog F (.agg [AV.i x.1,AV.i x.2.1,AV.b x.2.2]::caps) [] (.b false) []) :
    aT Tryz.prog 82 [.rowE (iS w) 3,.clo (.func F) [] caps] [] (.b false) []:=by
  have hc:=ZR hl hi hF;refine bK T Tryz.func82 rfl rfl rfl rfl ?_
  (repeat' (first|refine wS ?_|refine wR ?_|(refine rg 0 (aV ?_))|(refine rg 1 (dK rfl (vV (by exact eA rfl rfl hc rfl (by simp [AV.idfL,AV.idf,hi]) rfl) ?_));refine vV (gH rfl rfl) (aV ?_))|refine nZ ?_));all_goals first | (exfalso;omega) | exact rQ
theorem ZT {w:List BX}{F:FuncId}{caps:List AV}(hl:w.length≤1000) (hi:AV.idfL caps=true) (hF:∀ x,x∈w→aT Tryz.prog F (.agg [AV.i x.1,AV.i x.2.1,AV.i x.2.2]::caps) [] (.b false) []) :
    aT Tryz.prog 125 [.rowE (eB w) 3,.clo (.func F) [] caps] [] (.i (-1)) []:=by
  have hlen:(eB w).length=w.length:=by simp
  refine bK T Tryz.func125 rfl rfl rfl rfl ?_
  (repeat' (first|refine wS ?_|refine wB ?_|(refine rg 0 (aV ?_))|(refine rg 1 (mW rfl (qW T rfl (mV ?_))))|refine nZ ?_));refine cO (X:={k:Nat // k≤w.length}) (fun k=>[(0,.rowE (eB w) 3),(1,.clo (.func F) [] caps),(7,.i (eB w).length),(8,.i k.1)]) (fun _=>[]) (fun k=>w.length-k.1) ⟨0,by simp⟩ ⟨[],rfl,⟨rfl,by rw [kF hi];rfl,rfl,rfl,trivial⟩,trivial,cM,fun _ h=>absurd h (dA _)⟩ ?_
  rintro ⟨k,hk⟩;dsimp only;by_cases hlt:k<w.length
  · have hc:=hF w[k] (aH hlt);have hg:=wJ (l:=w) hlt;generalize w[k]=y at *
    (repeat' (first|refine wS ?_|refine wB ?_|refine wK ?_|refine wU ?_|(refine wC rfl ?_ ?_<;>(intro hb;(try simp only [nm] at hb);try (exfalso;omega)))|(refine rg 2 (vV (aI rfl rfl) ?_))|(refine rg 3 (mW rfl (aV ?_)))|(refine rg 4 (dK rfl (mW rfl (vV (ix T rfl (by omega) (jM w) hg) (lW T rfl (vV (by exact eA rfl rfl hc rfl (by simp [AV.idfL,AV.idf,hi]) rfl) ?_))))))|(refine rg 6 (vV (bY rfl rfl (by omega) (by omega)) (mV ?_)))|refine nZ ?_));all_goals first | (exfalso;omega) | exact ⟨⟨k+1,hlt⟩,by dsimp only;omega,⟨[],rfl,⟨rfl,by rw [kF hi];rfl,rfl,rfl,trivial⟩,trivial,cM,fun _ h=>absurd h (dA _)⟩⟩
  · (repeat' (first|refine wS ?_|refine wR ?_|refine wE ?_|(refine wC rfl (fun hb=>?_) (fun hb=>?_) <;> (((try simp only [nm] at hb);try (exfalso;omega))))|(refine rg 2 (vV (aI rfl rfl) ?_))|(refine rg 7 (aV ?_))|(refine nZ ?_)));all_goals first | (exfalso;omega) | exact rQ
theorem zX7 {w:List BX}{F:FuncId}{caps:List AV}(hl:w.length≤1000) (hi:AV.idfL caps=true) (hF:∀ x,x∈w→aT Tryz.prog F (.agg [AV.i x.1,AV.i x.2.1,AV.i x.2.2]::caps) [] (.b false) []) :
    aT Tryz.prog 84 [.rowE (eB w) 3,.clo (.func F) [] caps] [] (.b false) []:=by
  have hc:=ZT hl hi hF;refine bK T Tryz.func84 rfl rfl rfl rfl ?_
  (repeat' (first|refine wS ?_|refine wR ?_|(refine rg 0 (aV ?_))|(refine rg 1 (dK rfl (vV (by exact eA rfl rfl hc rfl (by simp [AV.idfL,AV.idf,hi]) rfl) ?_));refine vV (gH rfl rfl) (aV ?_))|refine nZ ?_));all_goals first | (exfalso;omega) | exact rQ
theorem WB (x:KD) (h:0≤x.2∧x.2≤1048576):aT Tryz.prog 81 [.agg [AV.v (.string x.1),AV.i x.2]] [] (.b false) []:=by
  have hw:=jH (n:=x.2) (f:=0) (t:=1048576) h;refine bK T Tryz.func81 rfl rfl rfl rfl ?_
  (repeat' (first|refine wS ?_|refine wR ?_|(refine rg 0 (bN (cC rfl rfl) rfl (aV ?_)))|(refine rg 1 (gB T rfl (vV (kC (hw)) (vV (cY rfl) (aV ?_)))))|refine nZ ?_));all_goals first | (exfalso;omega) | exact rQ
theorem WA (ks:List KD) (x:LT) (h:0≤x.1∧x.1<ks.length) (hk:ks.length≤1000):aT Tryz.prog 83 [.agg [AV.i x.1,AV.i x.2.1,AV.b x.2.2],.pr [.rowE (fQ ks) 2] 0] [] (.b false) []:=by
  have e1:(fQ ks).length=ks.length:=by simp
  have hw:=jH (n:=x.1) (f:=0) (t:=((fQ ks).length:Int)-1) (by omega)
  refine bK T Tryz.func83 rfl rfl rfl rfl ?_
  (repeat' (first|refine wS ?_|refine wR ?_|(refine rg 0 (bN (cC rfl rfl) rfl (aV ?_)))|(refine rg 1 (gB T rfl (lW T rfl (qW T rfl (vV (cX rfl rfl (by omega) (by omega)) (vV (kC (hw)) (vV (cY rfl) (aV ?_))))))))|refine nZ ?_));all_goals first | (exfalso;omega) | exact rQ
theorem WC (ls:List LT) (x:BX) (h:-1≤x.1∧x.1<ls.length∧0≤x.2.1∧x.2.1≤20000∧(x.1 = -1→x.2.1=0)∧0≤x.2.2∧x.2.2≤1073741824) (hk:ls.length≤1000):aT Tryz.prog 85 [.agg [AV.i x.1,AV.i x.2.1,AV.i x.2.2],.pr [.rowE (iS ls) 3] 0] [] (.b false) []:=by
  have e1:(iS ls).length=ls.length:=by simp
  obtain ⟨lot,ct,ta⟩:=x;dsimp only at h ⊢;have h1:=jH (n:=lot) (f:=-1) (t:=((iS ls).length:Int)-1) (by omega)
  have h2:=jH (n:=ct) (f:=0) (t:=20000) (by omega)
  have h3:=jH (n:=ta) (f:=0) (t:=1073741824) (by omega)
  refine bK T Tryz.func85 rfl rfl rfl rfl ?_
  (repeat' (first|refine wS ?_|refine wR ?_|(refine rg 0 (bN (cC rfl rfl) rfl (aV ?_)))|(refine rg 1 (gB T rfl (lW T rfl (qW T rfl (vV (cX rfl rfl (by omega) (by omega)) (vV (kC (h1)) (vV (cY rfl) (mW rfl (yP T rfl (yL T ?_)))))))));refine yV (kC (h2)) (yV (cY rfl) (pW rfl (mW rfl (yP T rfl (yO T rfl (yV (aI rfl rfl) (yM ?_)))))));refine bC rfl rfl ?_ ?_<;>(intro hb;rw [hb];(try simp only [nm] at hb);try (exfalso;omega));(all_goals first|(refine gT (fW T rfl (gT (lW T rfl (gT (vV (eE rfl rfl) ?_))))))|(iterate 3 refine gF ?_));(all_goals (refine gT (pW rfl (pW rfl (mV ?_)))));(all_goals first|(refine gK ?_)|(refine bC rfl rfl ?_ ?_<;>(intro hb;rw [hb];(try simp only [nm] at hb);try (exfalso;omega))));(all_goals (refine yP T rfl (yO T rfl (yV (kC (h3)) (yV (cY rfl) (pW rfl (aV ?_))))))))|refine nZ ?_));all_goals first | (exfalso;omega) | exact rQ
theorem AT:∀ (l m:List Int),l.Nodup→(∀ x,x∈l→x∈m)→m.length≤l.length→l.Perm m
  | [],m,_,_,hl=>by
    have:m=[]:=fE.1 (by simpa using hl)
    subst this;exact List.Perm.refl _
  | x::l,m,hn,hs,hl=>by
    have hx:=hs x (by simp)
    have h2:=List.perm_cons_erase hx
    have h3:=AT l (m.erase x) (fL.1 hn).2 (fun y hy=>by
      have hyx:y≠x:=fun e=>(fL.1 hn).1 (e▸hy);exact (rY hyx).2 (hs y (aM _ hy))) (by
        rw [oK hx];simp only [List.length_cons] at hl
        omega)
    exact (List.Perm.cons x h3).trans h2.symm
theorem J4 {n:Nat}{ps:List Int}(hl:ps.length=n) (h:∀ i:Nat,i<n→(i:Int)∈ps):jD ps=Go.Ab.nats (List.range n):=by
  have hnd:(Go.Ab.nats (List.range n)).Nodup:=List.Pairwise.map _ (fun a b hab e=>hab (by omega)) CQ
  have hsub:∀ x,x∈Go.Ab.nats (List.range n)→x∈ps:=fun x hx=>by
    obtain ⟨i,hi,rfl⟩:=bE.1 hx;exact h i (dD.1 hi)
  have hp:(Go.Ab.nats (List.range n)).Perm ps:=AT (Go.Ab.nats (List.range n)) ps hnd hsub (by simp [hl])
  exact Go.Pm.sorted_eq hp.symm (Go.Pm.range_le n)
theorem DS (n:Nat):CE (Go.Ab.nats (List.range n)) n=true:=by
  refine M7 fun i hi=>?_
  have hi':i<n:=by simpa using hi
  have e:∀ k,k<n→(Go.Ab.nats (List.range n)).getD k 0=(k:Int):=fun k hk=>by
    rw [aC];simp [hk]
  unfold zX;rw [e i hi'];refine ⟨by omega,by omega,fun h0=>?_⟩
  rw [e (i-1) (by omega)];omega
theorem FS {ks:List KD}{ls:List LT}{ps:List Int}{bs:List BX}(t:yK ks ls ps bs) (h1:ks.length≤1000) (h2:ls.length≤1000) (h3:ps.length≤1000) :
    aT Tryz.prog 36 [.rowE (fQ ks) 2,.rowE (iS ls) 3,.rowE (ints ps) 1,.rowE (eB bs) 3] [] (.b true) []:=by
  have e3:(ints ps).length=ps.length:=by simp
  have e4:(eB bs).length=bs.length:=by simp
  have hlen:=t.len;have v1:=zL ps;have v2:=J5 ps (by omega)
  rw [J4 (n:=ps.length) rfl t.p] at v2;have v3:=S4 (Go.Ab.nats (List.range ps.length)) ps.length (by simp;omega) (by omega)
  rw [DS] at v3;rw [show (ps.length:Int)=((eB bs).length:Int) by omega] at v3
  have c1:=zX5 (w:=ks) (F:=81) (caps:=[]) h1 rfl (fun x hx=>by
    obtain ⟨i,hi,rfl⟩:=kM.1 hx
    exact WB _ (t.k i hi))
  have c2:=zX4 (w:=ls) (F:=83) (caps:=[.pr [.rowE (fQ ks) 2] 0]) h2 rfl (fun x hx=>by
    obtain ⟨i,hi,rfl⟩:=kM.1 hx
    exact WA ks _ (t.l i hi) h1)
  have c3:=zX7 (w:=bs) (F:=85) (caps:=[.pr [.rowE (iS ls) 3] 0]) (by omega) rfl (fun x hx=>by
    obtain ⟨i,hi,rfl⟩:=kM.1 hx
    exact WC ls _ (t.b i hi) h2)
  generalize Go.Ab.nats (List.range ps.length)=sr at *;refine bK T Tryz.func36 rfl rfl rfl rfl ?_
  (repeat' (first|refine wS ?_|refine wK ?_|refine wU ?_|(refine rg 0 (bN (cC rfl rfl) rfl (bN (cC rfl rfl) rfl (aV ?_))))|(refine rg 1 (mW rfl (vV (kC (v1)) (vV (by exact eA rfl rfl v2 rfl rfl rfl) ?_)));refine aV ?_)|(refine rg 2 (mW rfl (qW T rfl (mW rfl (qW T rfl (vV (kZ rfl rfl (by omega)) (mW rfl (yN rfl (yN rfl (gT ?_)))))))));refine qW T rfl (yV (kC (v3)) (yV (cY rfl) (pV ?_))))|refine nZ ?_));all_goals try (exfalso;omega)
  (repeat' (first|refine wS ?_|refine wR ?_|(refine rg 4 (lW T rfl (vV (by exact eA rfl rfl c1 rfl rfl rfl) ?_));refine aV ?_)|(refine rg 5 (dK rfl (yO T rfl (yV (by exact jK rfl rfl) ?_)));refine yV (by exact eJ rfl rfl c2 (.cons (.row _ _ _) (.cons (.clo .nil (.cons (.ptr rfl (.cons (.row _ _ _) .nil)) .nil)) .nil)) rfl rfl) ?_;refine pW rfl (aV ?_))|(refine rg 6 (mW rfl (vV (cY rfl) (mW rfl (yN rfl (yV (by exact jK rfl rfl) ?_)))));refine yV (by exact eJ rfl rfl c3 (.cons (.row _ _ _) (.cons (.clo .nil (.cons (.ptr rfl (.cons (.row _ _ _) .nil)) .nil)) .nil)) rfl rfl) ?_;refine yV (cY rfl) (pW rfl (aV ?_)))|refine nZ ?_));all_goals first | (exfalso;omega) | exact rQ
end Go.Proofs.YtmmkhmilpeodnaaGreat
namespace Go.Ab
open Go
section
variable {P:Program}{env:eH}{h:Hp}{d:Option Nat}{ty:TypeId}{pos:String}{af:Array Edge}{g:Option (Nat × Bool)}
theorem E4 {t t2:TypeId}{x y:Operand}{a b:Int}(hx:evu env x=some (.i a)) (hy:evu env y=some (.i b)) (e:a≤b):bX P ⟨d,.binOp .leq t x y t2,ty,pos,af,g⟩ env h 0 (fun _=>.b true) (fun _=>[]):=by
  have:=lA (P:=P) (d:=d) (ty:=ty) (pos:=pos) (af:=af) (g:=g) (h:=h) (t:=t) (t2:=t2) hx hy;simpa [e] using this
theorem L4 {t t2:TypeId}{x y:Operand}{a b:Int}(hx:evu env x=some (.i a)) (hy:evu env y=some (.i b)) (e:¬ a≤b):bX P ⟨d,.binOp .leq t x y t2,ty,pos,af,g⟩ env h 0 (fun _=>.b false) (fun _=>[]):=by
  have:=lA (P:=P) (d:=d) (ty:=ty) (pos:=pos) (af:=af) (g:=g) (h:=h) (t:=t) (t2:=t2) hx hy;simpa [e] using this
end
end Go.Ab
namespace Go.Proofs.YtmmkhmilpeodnaaGreat
open Go Go.Ab
attribute [local irreducible] VC AW bX aT
set_option maxHeartbeats 4000000
end Go.Proofs.YtmmkhmilpeodnaaGreat
namespace Go.Proofs.YtmmkhmilpeodnaaGreat
open Go Go.Ab
attribute [local irreducible] VC AW bX aT
abbrev jC (f t:Int):AV:=.agg [.i f,.i t]
def wI (f t:Int):Bool:=decide (max f 0<min t 20001)
def BR (f t:Int):Int:=if wI f t then max f 0 else 0
def cutT (f t:Int):Int:=if wI f t then min t 20001 else 0
theorem A8 (f t:Int):(wI f t=true∧BR f t=max f 0∧cutT f t=min t 20001∧max f 0<min t 20001)∨(wI f t=false∧BR f t=0∧cutT f t=0∧min t 20001≤max f 0):=by
  by_cases h:max f 0<min t 20001
  · left;simp [wI,BR,cutT,h]
  · right;simp only [wI,BR,cutT,h];simp;omega
theorem JB {a b c d:Int}{e e':Bool}(h1:a=c) (h2:b=d) (h3:e=e'):AV.tup [jC a b,.b e]=AV.tup [jC c d,.b e']:=by rw [h1,h2,h3]
theorem FX (f t:Int):aT Tryz.prog 131 [jC f t] [] (.tup [jC (BR f t) (cutT f t),.b (wI f t)]) []:=by
  refine bK T Tryz.func131 rfl rfl rfl rfl ?_
  (repeat' (first|(first|(refine dX ?_)|(refine kU ?_)|(refine oF ?_)|(refine lB ?_))|(first|(refine vV (by first|exact eL rfl|exact cD T rfl rfl rfl|exact aE T rfl rfl rfl rfl|exact gH rfl rfl|exact sG rfl rfl|exact A7 rfl rfl|exact dY T rfl rfl rfl rfl) ?_)|(refine aL T rfl rfl rfl rfl rfl rfl (by decide) rfl ?_)|(refine gG ?_)|(refine bN (by first|exact bI T rfl|exact cC rfl rfl) rfl ?_))|((refine rH rfl (fun hb=>?_) (fun hb=>?_)<;>(try simp only [nm] at hb)))));all_goals
    refine cH (.inl rfl) rfl ?_;rcases A8 f t with ⟨h1,h2,h3,h4⟩ | ⟨h1,h2,h3,h4⟩
    all_goals (first | (exfalso;omega) | (rw [h1,h2,h3];refine JB ?_ ?_ ?_ <;> first | rfl | omega))
def pT (f t n:Int):Bool:=decide (f≤n)&&decide (n<t)
theorem QK (f t n:Int):aT Tryz.prog 65 [jC f t,.i n] [] (.b (pT f t n)) []:=by
  refine bK T Tryz.func65 rfl rfl rfl rfl ?_
  (repeat' (first|(first|(refine dX ?_)|(refine kU ?_)|(refine lB ?_))|(first|(refine vV (by first|exact bU rfl|exact eL rfl|exact cD T rfl rfl rfl|exact aE T rfl rfl rfl rfl|exact iE rfl rfl|exact gQ rfl rfl|exact aI rfl rfl|exact lA rfl rfl) ?_)|(refine gG ?_)|(refine vM rfl rfl ?_ rfl)|(refine F5 rfl rfl ?_ rfl)|(refine nD rfl rfl (fun hb=>?_) (fun hb=>?_) rfl<;>(rw [hb];(try simp only [nm] at hb)))|(refine bN (cC rfl rfl) rfl ?_))));all_goals
    refine cH (.inl rfl) rfl (mB ?_);simp [pT];try omega
theorem JW (f t n:Int):aT Tryz.prog 67 [jC f t,.i n] [] (.b (pT f t n)) []:=by
  refine bK T Tryz.func67 rfl rfl rfl rfl ?_
  (repeat' (first|(first|(refine dX ?_)|(refine kU ?_)|(refine lB ?_))|(first|(refine vV (by first|exact bU rfl|exact eL rfl|exact cD T rfl rfl rfl|exact aE T rfl rfl rfl rfl|exact iE rfl rfl|exact gQ rfl rfl|exact aI rfl rfl|exact lA rfl rfl) ?_)|(refine gG ?_)|(refine vM rfl rfl ?_ rfl)|(refine F5 rfl rfl ?_ rfl)|(refine nD rfl rfl (fun hb=>?_) (fun hb=>?_) rfl<;>(rw [hb];(try simp only [nm] at hb)))|(refine bN (cC rfl rfl) rfl ?_))));all_goals
    refine cH (.inl rfl) rfl (mB ?_);simp [pT];try omega
theorem zM2 (a b c d:Int):aT Tryz.prog 93 [jC a b,jC c d] [] (.tup [jC (BR (max a c) (min b d)) (cutT (max a c) (min b d)),.b (wI (max a c) (min b d))]) []:=by
  refine bK T Tryz.func93 rfl rfl rfl rfl ?_
  (repeat' (first|(first|(refine dX ?_)|(refine kU ?_)|(refine lB ?_))|(first|(refine vV (by first|exact eL rfl|exact cD T rfl rfl rfl|exact aE T rfl rfl rfl rfl|exact fU rfl rfl|exact sG rfl rfl|exact A7 rfl rfl|exact dY T rfl rfl rfl rfl|exact eA rfl rfl (FX _ _) rfl rfl rfl) ?_)|(refine aL T rfl rfl rfl rfl rfl rfl (by decide) rfl ?_)|(refine gG ?_)|(refine bN (by first|exact bI T rfl|exact cC rfl rfl) rfl ?_))));refine rQ
theorem zX2 (a b c d:Int):aT Tryz.prog 59 [jC a b,jC c d] [] (jC (min a c) (max b d)) []:=by
  refine bK T Tryz.func59 rfl rfl rfl rfl ?_
  (repeat' (first|(first|(refine dX ?_)|(refine kU ?_)|(refine lB ?_))|(first|(refine vV (by first|exact cD T rfl rfl rfl|exact aE T rfl rfl rfl rfl|exact sG rfl rfl|exact A7 rfl rfl|exact dY T rfl rfl rfl rfl) ?_)|(refine aL T rfl rfl rfl rfl rfl rfl (by decide) rfl ?_)|(refine gG ?_)|(refine bN (by first|exact bI T rfl|exact cC rfl rfl) rfl ?_))));refine rQ
theorem zJ3:aT Tryz.prog 130 [] [] (jC 0 20001) []:=by
  refine bK T Tryz.func130 rfl rfl rfl rfl ?_
  (repeat' (first|(first|(refine dX ?_)|(refine kU ?_)|(refine lB ?_))|(first|(refine vV (by exact dY T rfl rfl rfl rfl) ?_)|(refine aL T rfl rfl rfl rfl rfl rfl (by decide) rfl ?_)|(refine gG ?_)|(refine bN (bI T rfl) rfl ?_))));refine rQ
def wH (l:List Int):Bool:=l.all fun n=>decide (0≤n)&&decide (n≤1099511627776)
theorem OM (l:List Int) (k:Nat) (h:k<l.length):wH (l.drop k)=(decide (0≤l[k])&&decide (l[k]≤1099511627776)&&wH (l.drop (k+1))):=by
  rw [bB h];rfl
theorem K1 (l:List Int) (hm:l.length≤1000):aT Tryz.prog 129 [.rowE (ints l) 1] [] (.b (wH l)) []:=by
  refine bK T Tryz.func129 rfl rfl rfl rfl ?_
  (repeat' (first|(first|(refine dX ?_)|(refine kU ?_)|(refine wN ?_))|(first|(refine vV (by first|exact bU rfl|exact eL rfl|exact iC T rfl rfl) ?_)|(refine gG ?_))));refine cO (X:={k:Nat // k≤(ints l).length∧wH l=wH (l.drop k)}) (fun k=>[(5,.rowE (ints l) 1),(6,.i (ints l).length),(7,.i k.1)]) (fun _=>[]) (fun k=>(ints l).length-k.1) ⟨0,by simp,rfl⟩ (fA []) ?_
  rintro ⟨k,hk,hf⟩;dsimp only;have hlen:(ints l).length=l.length:=by simp
  repeat' (first|(first|(refine dX ?_)|(refine kU ?_)|(refine wN ?_)|(refine oF ?_)|(refine lB ?_)|(refine RY ?_))|(first|(refine vV (by first|exact eL rfl|exact aI rfl rfl) ?_)|(refine gG ?_))|((refine rH rfl (fun hb=>?_) (fun hb=>?_)<;>(try simp only [nm] at hb))))
  · have hlt:k<l.length:=by omega
    have hs:=OM l k hlt;refine zG (L5 T rfl rfl rfl rfl rfl (by omega) (ints_len l) (mN hlt)) rfl ?_
    (repeat' (first|(first|(refine dX ?_)|(refine kU ?_)|(refine oF ?_)|(refine lB ?_))|(first|(refine vV (by first|exact bU rfl|exact eL rfl|exact aE T rfl rfl rfl rfl|exact iE rfl rfl|exact gQ rfl rfl|exact bY rfl rfl (by omega) (by omega)|exact aI rfl rfl|exact eE rfl rfl) ?_)|(refine gG ?_)|(refine vM rfl rfl ?_ rfl)|(refine F5 rfl rfl ?_ rfl)|(refine nD rfl rfl (fun hb=>?_) (fun hb=>?_) rfl<;>(rw [hb];(try simp only [nm] at hb))))|(first|(refine wT ?_)|(refine rH rfl (fun hb=>?_) (fun hb=>?_)<;>(try simp only [nm] at hb)))));all_goals first
      | (refine cH (.inl rfl) rfl (mB ?_);rw [hf,hs];simp;omega)
      | (refine ⟨⟨k+1,by omega,?_⟩,by simp;omega,fA []⟩;rw [hf,hs];simp;omega)
  · refine cH (.inl rfl) rfl (mB ?_);rw [hf,dJ (by omega)];rfl
theorem zA6 {a b:Int}(h:0≤a∧a≤1099511627776∧0≤b∧b≤1099511627776):wH [a,b]=true:=by simp [wH];omega
theorem zA8 {a b:Int}(h:¬ (0≤a∧a≤1099511627776∧0≤b∧b≤1099511627776)):wH [a,b]=false:=by
  rw [← dR];simp [wH];omega
theorem zA5 {a b c d:Int}(h:0≤a∧a≤1099511627776∧0≤b∧b≤1099511627776∧0≤c∧c≤1099511627776∧0≤d∧d≤1099511627776):wH [a,b,c,d]=true:=by simp [wH];omega
theorem zA7 {a b c d:Int}(h:¬ (0≤a∧a≤1099511627776∧0≤b∧b≤1099511627776∧0≤c∧c≤1099511627776∧0≤d∧d≤1099511627776)):wH [a,b,c,d]=false:=by
  rw [← dR];simp [wH];omega
theorem zO2 {a b:Int}(h:0≤a∧a≤1099511627776∧0≤b∧b≤1099511627776):aT Tryz.prog 129 [.rowE (ints [a,b]) 1] [] (.b true) []:=zA6 h▸K1 [a,b] (by simp)
theorem zO4 {a b:Int}(h:¬ (0≤a∧a≤1099511627776∧0≤b∧b≤1099511627776)):aT Tryz.prog 129 [.rowE (ints [a,b]) 1] [] (.b false) []:=zA8 h▸K1 [a,b] (by simp)
theorem GY {a b c d:Int}(h:0≤a∧a≤1099511627776∧0≤b∧b≤1099511627776∧0≤c∧c≤1099511627776∧0≤d∧d≤1099511627776):aT Tryz.prog 129 [.rowE (ints [a,b,c,d]) 1] [] (.b true) []:=zA5 h▸K1 [a,b,c,d] (by simp)
theorem zO3 {a b c d:Int}(h:¬ (0≤a∧a≤1099511627776∧0≤b∧b≤1099511627776∧0≤c∧c≤1099511627776∧0≤d∧d≤1099511627776)):aT Tryz.prog 129 [.rowE (ints [a,b,c,d]) 1] [] (.b false) []:=zA7 h▸K1 [a,b,c,d] (by simp)
theorem TM (f t n s:Int) (hf:0≤f∧f≤20001∧0≤t∧t≤20001) (h:0≤n∧n≤1099511627776∧0≤s∧s≤1099511627776):aT Tryz.prog 94 [jC f t,.i n,.i s] [] (.tup [jC (BR (f-n-s) (t-max (n-s) 0)) (cutT (f-n-s) (t-max (n-s) 0)),.b (wI (f-n-s) (t-max (n-s) 0))]) []:=by
  refine bK T Tryz.func94 rfl rfl rfl rfl ?_
  (repeat' (first|(first|(refine dX ?_)|(refine kU ?_)|(refine oF ?_)|(refine lB ?_))|(first|(refine vV (by first|exact bU rfl|exact eL rfl|exact cD T rfl rfl rfl|exact aE T rfl rfl rfl rfl|exact cX rfl rfl (by omega) (by omega)|exact cY rfl|exact fU rfl rfl|exact sG rfl rfl|exact dY T rfl rfl rfl rfl|exact eA rfl rfl (FX _ _) rfl rfl rfl|exact eJ rfl rfl (zO2 h) (by ((repeat (first|exact .nil|exact .v _|refine .cons ?_ ?_|refine .sl rfl (by simp) ?_));done)) rfl rfl) ?_)|(refine aL T rfl rfl rfl rfl rfl rfl (by decide) rfl ?_)|(refine gG ?_)|(refine bN (by first|exact bI T rfl|exact cC rfl rfl|exact bD T rfl rfl (by decide) (by decide) rfl rfl rfl) rfl ?_))|((refine wU ?_))));exact rQ
theorem NT (f t n s:Int) (h:¬ (0≤n∧n≤1099511627776∧0≤s∧s≤1099511627776)):aT Tryz.prog 94 [jC f t,.i n,.i s] [] (.tup [jC 0 0,.b false]) []:=by
  refine bK T Tryz.func94 rfl rfl rfl rfl ?_
  (repeat' (first|(first|(refine dX ?_)|(refine kU ?_)|(refine lB ?_))|(first|(refine vV (by first|exact bU rfl|exact eL rfl|exact cY rfl|exact dY T rfl rfl rfl rfl|exact eJ rfl rfl (zO4 h) (by ((repeat (first|exact .nil|exact .v _|refine .cons ?_ ?_|refine .sl rfl (by simp) ?_));done)) rfl rfl) ?_)|(refine aL T rfl rfl rfl rfl rfl rfl (by decide) rfl ?_)|(refine gG ?_)|(refine bN (by first|exact bI T rfl|exact cC rfl rfl|exact bD T rfl rfl (by decide) (by decide) rfl rfl rfl) rfl ?_))|((refine wT ?_))));exact rQ
def xR (a b c d:Int):Prop:=0≤a∧a≤1099511627776∧0≤b∧b≤1099511627776∧0≤c∧c≤1099511627776∧0≤d∧d≤1099511627776
theorem ND (t u w e:Int) (h:¬ xR t u w e):aT Tryz.prog 92 [.i t,.i u,.i w,.i e] [] (.tup [jC 0 0,.b false]) []:=by
  refine bK T Tryz.func92 rfl rfl rfl rfl ?_
  (repeat' (first|(first|(refine dX ?_)|(refine kU ?_)|(refine lB ?_))|(first|(refine vV (by first|exact bU rfl|exact eL rfl|exact cY rfl|exact dY T rfl rfl rfl rfl|exact eJ rfl rfl (zO3 h) (by ((repeat (first|exact .nil|exact .v _|refine .cons ?_ ?_|refine .sl rfl (by simp) ?_));done)) rfl rfl) ?_)|(refine aL T rfl rfl rfl rfl rfl rfl (by decide) rfl ?_)|(refine gG ?_)|(refine bN (by first|exact bI T rfl|exact bD T rfl rfl (by decide) (by decide) rfl rfl rfl) rfl ?_))|((refine wT ?_))));exact rQ
theorem IK (t u w e:Int) (h:xR t u w e) (h1:w+e-t<0∨u=0∧0<w-e-t):aT Tryz.prog 92 [.i t,.i u,.i w,.i e] [] (.tup [jC 0 0,.b false]) []:=by
  have h':=h;unfold xR at h';refine bK T Tryz.func92 rfl rfl rfl rfl ?_
  (repeat' (first|(first|(refine dX ?_)|(refine kU ?_)|(refine wN ?_)|(refine oF ?_)|(refine lB ?_))|(first|(refine vV (by first|exact bU rfl|exact eL rfl|exact iE rfl rfl|exact gQ rfl rfl|exact bY rfl rfl (by omega) (by omega)|exact cX rfl rfl (by omega) (by omega)|exact aI rfl rfl|exact eE rfl rfl|exact eQ rfl rfl|exact cY rfl|exact dY T rfl rfl rfl rfl|exact eJ rfl rfl (GY h) (by ((repeat (first|exact .nil|exact .v _|refine .cons ?_ ?_|refine .sl rfl (by simp) ?_));done)) rfl rfl) ?_)|(refine aL T rfl rfl rfl rfl rfl rfl (by decide) rfl ?_)|(refine gG ?_)|(refine vM rfl rfl ?_ rfl)|(refine F5 rfl rfl ?_ rfl)|(refine PN rfl rfl ?_ rfl)|(refine nD rfl rfl (fun hb=>?_) (fun hb=>?_) rfl<;>(rw [hb];(try simp only [nm] at hb)))|(refine bN (by first|exact bI T rfl|exact bD T rfl rfl (by decide) (by decide) rfl rfl rfl) rfl ?_))|(first|(refine wT ?_)|(refine wU ?_)|(refine rH rfl (fun hb=>?_) (fun hb=>?_)<;>(try simp only [nm] at hb)))));all_goals first | (exfalso;omega) | exact rQ | skip
theorem IL (t u w e:Int) (h:xR t u w e) (h1:0≤w+e-t) (h2:u=0) (h3:w-e-t≤0):aT Tryz.prog 92 [.i t,.i u,.i w,.i e] [] (.tup [jC 0 20001,.b true]) []:=by
  have h':=h;unfold xR at h';refine bK T Tryz.func92 rfl rfl rfl rfl ?_
  (repeat' (first|(first|(refine dX ?_)|(refine kU ?_)|(refine wN ?_)|(refine oF ?_)|(refine lB ?_))|(first|(refine vV (by first|exact bU rfl|exact eL rfl|exact iE rfl rfl|exact gQ rfl rfl|exact bY rfl rfl (by omega) (by omega)|exact cX rfl rfl (by omega) (by omega)|exact aI rfl rfl|exact eE rfl rfl|exact eQ rfl rfl|exact cY rfl|exact dY T rfl rfl rfl rfl|exact eJ rfl rfl (GY h) (by ((repeat (first|exact .nil|exact .v _|refine .cons ?_ ?_|refine .sl rfl (by simp) ?_));done)) rfl rfl|exact kC (zJ3)) ?_)|(refine aL T rfl rfl rfl rfl rfl rfl (by decide) rfl ?_)|(refine gG ?_)|(refine vM rfl rfl ?_ rfl)|(refine F5 rfl rfl ?_ rfl)|(refine PN rfl rfl ?_ rfl)|(refine nD rfl rfl (fun hb=>?_) (fun hb=>?_) rfl<;>(rw [hb];(try simp only [nm] at hb)))|(refine bN (by first|exact bI T rfl|exact bD T rfl rfl (by decide) (by decide) rfl rfl rfl) rfl ?_))|(first|(refine wT ?_)|(refine wU ?_)|(refine rH rfl (fun hb=>?_) (fun hb=>?_)<;>(try simp only [nm] at hb)))));all_goals first | exact rQ | (exfalso;omega)
def zH1 (t u w e:Int):Int:=(max (w-e-t) 0+u-1) / u
def zT9 (t u w e:Int):Int:=(w+e-t) / u+1
set_option maxHeartbeats 1000000 in
theorem NE (t u w e:Int) (h:xR t u w e) (h1:0≤w+e-t) (h2:0<u):aT Tryz.prog 92 [.i t,.i u,.i w,.i e] [] (.tup [jC (BR (zH1 t u w e) (zT9 t u w e)) (cutT (zH1 t u w e) (zT9 t u w e)),.b (wI (zH1 t u w e) (zT9 t u w e))]) []:=by
  have h':=h;unfold xR at h';have q1:=yA8 h1 (yL0 h2);have q2:=zR7 u h1;refine bK T Tryz.func92 rfl rfl rfl rfl ?_
  (repeat' (first|(first|(refine dX ?_)|(refine kU ?_)|(refine wN ?_)|(refine oF ?_)|(refine lB ?_))|(first|(refine vV (by first|exact bU rfl|exact eL rfl|exact iE rfl rfl|exact gQ rfl rfl|exact bY rfl rfl (by omega) (by omega)|exact cX rfl rfl (by omega) (by omega)|exact aI rfl rfl|exact eE rfl rfl|exact eQ rfl rfl|exact cY rfl|exact dY T rfl rfl rfl rfl|exact eJ rfl rfl (GY h) (by ((repeat (first|exact .nil|exact .v _|refine .cons ?_ ?_|refine .sl rfl (by simp) ?_));done)) rfl rfl) ?_)|(refine aL T rfl rfl rfl rfl rfl rfl (by decide) rfl ?_)|(refine gG ?_)|(refine vM rfl rfl ?_ rfl)|(refine F5 rfl rfl ?_ rfl)|(refine PN rfl rfl ?_ rfl)|(refine nD rfl rfl (fun hb=>?_) (fun hb=>?_) rfl<;>(rw [hb];(try simp only [nm] at hb)))|(refine bN (by first|exact bI T rfl|exact bD T rfl rfl (by decide) (by decide) rfl rfl rfl) rfl ?_))|(first|(refine dV rfl (by first|exact bU rfl|exact bY rfl rfl (by omega) (by omega)|exact cX rfl rfl (by omega) (by omega)|exact RM rfl rfl (by omega) (by omega) (by omega)|exact fU rfl rfl|exact sG rfl rfl|exact dY T rfl rfl rfl rfl|exact eA rfl rfl (FX _ _) rfl rfl rfl) ?_)|(refine HG rfl rfl (by (dsimp only [List.nil_append,List.cons_append,nA,List.append_nil];done)) ?_))|(refine MK (id:=8) [[],[0],[],[0,1,2],rN 4,[],rN 6,[],[],[7,8],[7,8,9],rN 11,rN 12,rN 13,rN 13] (rM 46 15) [[],[],[46,47],[],[],rM 46 5,[],rM 46 7,rM 46 8,rM 46 7,rM 46 7,[],[],[],[59]] cF (by decide +kernel) ?_)|(first|(refine wT ?_)|(refine wU ?_)|(refine rH rfl (fun hb=>?_) (fun hb=>?_)<;>(try simp only [nm] at hb)))));all_goals first | (exfalso;omega) | exact rQ
end Go.Proofs.YtmmkhmilpeodnaaGreat
namespace Go.Ld
open Go.Ab Go.Proofs.YtmmkhmilpeodnaaGreat
abbrev SP:=Int × Int
abbrev W:=List Int × Int × List SP
abbrev G:=List Int × List W
abbrev cT (l:List SP):List (List AV):=l.map fun p=>[AV.i p.1,AV.i p.2]
abbrev wA (w:W):List AV:=[.rowE (Go.Proofs.YtmmkhmilpeodnaaGreat.ints w.1) 1,.i w.2.1,.rowE (cT w.2.2) 2]
abbrev fH (l:List W):List (List AV):=l.map wA
abbrev gA (g:G):List AV:=[.rowE (Go.Proofs.YtmmkhmilpeodnaaGreat.ints g.1) 1,.rowE (fH g.2) 3]
abbrev kD (l:List G):List (List AV):=l.map gA
def cI (a b:Int):Int:=if a<b then -1 else if b<a then 1 else 0
def T7 (a b:Int):Int:=if a=0 then b else a
def cL:List Int→List Int→Int
  | [],[]=>0
  | [],_::_=>-1
  | _::_,[]=>1
  | x::a,y::b=>T7 (cI x y) (cL a b)
def cS (x y:SP):Int:=T7 (cI x.1 y.1) (cI x.2 y.2)
def cB:List SP→List SP→Int
  | [],[]=>0
  | [],_::_=>-1
  | _::_,[]=>1
  | x::a,y::b=>T7 (cS x y) (cB a b)
def oS (a b:W):Int:=T7 (cL a.1 b.1) (cB a.2.2 b.2.2)
def eY (a b:W):Int:=T7 (oS a b) (cI a.2.1 b.2.1)
structure FM {α:Type} (c:α→α→Int):Prop where
  eq:∀ a b,c a b=0↔a=b
  neg:∀ a b,c a b = - c b a
  tr:∀ a b d,c a b<0→c b d<0→c a d<0
theorem FM.rfl' {α:Type}{c:α→α→Int}(h:FM c) (a:α):c a a=0:=(h.eq a a).2 rfl
theorem FM.le_tr {α:Type}{c:α→α→Int}(h:FM c){a b d:α}(h1:c a b≤0) (h2:c b d≤0):c a d≤0:=by
  by_cases e:c a b=0
  · rw [(h.eq _ _).1 e];exact h2
  · by_cases e':c b d=0
    · rw [← (h.eq _ _).1 e'];exact h1
    · have:=h.tr a b d (by omega) (by omega);omega
theorem qH:FM cI where
  eq a b:=by unfold cI;split <;> (try split) <;> omega
  neg a b:=by unfold cI;split <;> split <;> (try split) <;> omega
  tr a b d := by unfold cI; repeat' split
                 all_goals omega
theorem GG {a b:Int}:T7 a b=0↔a=0∧b=0:=by unfold T7;split <;> omega
theorem GF {a b:Int}:T7 (-a) (-b) = - T7 a b:=by unfold T7;split <;> split <;> omega
theorem OA {a b:Int}:T7 a b<0↔a<0∨a=0∧b<0:=by unfold T7;split <;> omega
theorem FM.lex {α β γ:Type}{c:α→α→Int}{d:β→β→Int}(hc:FM c) (hd:FM d) (f:γ→α) (g:γ→β) (inj:∀ x y,f x=f y→g x=g y→x=y):FM fun x y=>T7 (c (f x) (f y)) (d (g x) (g y)) where
  eq a b:=by
    rw [GG,hc.eq,hd.eq];exact ⟨fun h=>inj _ _ h.1 h.2,fun h=>by rw [h];exact ⟨rfl,rfl⟩⟩
  neg a b:=by rw [hc.neg,hd.neg,GF]
  tr a b e h1 h2:=by
    simp only [OA] at *;rcases h1 with h1 | ⟨h1,h1'⟩
    · rcases h2 with h2 | ⟨h2,h2'⟩
      · exact .inl (hc.tr _ _ _ h1 h2)
      · rw [(hc.eq _ _).1 h2] at h1;exact .inl h1
    · rw [(hc.eq _ _).1 h1];rcases h2 with h2 | ⟨h2,h2'⟩
      · exact .inl h2
      · exact .inr ⟨h2,hd.tr _ _ _ h1' h2'⟩
theorem zC2:FM cL where
  eq:=fun a=>by
    induction a with
    | nil=>intro b;cases b <;> simp [cL]
    | cons x a ih=>intro b; cases b with
      | nil=>simp [cL]
      | cons y b=>simp only [cL,GG,qH.eq,ih,List.cons.injEq]
  neg:=fun a=>by
    induction a with
    | nil=>intro b;cases b <;> simp [cL]
    | cons x a ih=>intro b; cases b with
      | nil=>simp [cL]
      | cons y b=>simp only [cL];rw [qH.neg,ih,GF]
  tr:=fun a=>by
    induction a with
    | nil=>intro b d;cases b <;> cases d <;> simp [cL]
    | cons x a ih=>
      intro b d h1 h2;cases b with
      | nil=>simp [cL] at h1
      | cons y b=>cases d with
        | nil=>simp [cL] at h2
        | cons z d=>
          simp only [cL,OA] at *;rcases h1 with h1 | ⟨h1,h1'⟩
          · rcases h2 with h2 | ⟨h2,h2'⟩
            · exact .inl (qH.tr _ _ _ h1 h2)
            · rw [(qH.eq _ _).1 h2] at h1;exact .inl h1
          · rw [(qH.eq _ _).1 h1];rcases h2 with h2 | ⟨h2,h2'⟩
            · exact .inl h2
            · exact .inr ⟨h2,ih _ _ h1' h2'⟩
theorem BW:FM cS:=FM.lex qH qH (·.1) (·.2) fun x y h1 h2=>Prod.ext h1 h2
theorem zC3:FM cB where
  eq:=fun a=>by
    induction a with
    | nil=>intro b;cases b <;> simp [cB]
    | cons x a ih=>intro b; cases b with
      | nil=>simp [cB]
      | cons y b=>simp only [cB,GG,BW.eq,ih,List.cons.injEq]
  neg:=fun a=>by
    induction a with
    | nil=>intro b;cases b <;> simp [cB]
    | cons x a ih=>intro b; cases b with
      | nil=>simp [cB]
      | cons y b=>simp only [cB];rw [BW.neg,ih,GF]
  tr:=fun a=>by
    induction a with
    | nil=>intro b d;cases b <;> cases d <;> simp [cB]
    | cons x a ih=>
      intro b d h1 h2;cases b with
      | nil=>simp [cB] at h1
      | cons y b=>cases d with
        | nil=>simp [cB] at h2
        | cons z d=>
          simp only [cB,OA] at *;rcases h1 with h1 | ⟨h1,h1'⟩
          · rcases h2 with h2 | ⟨h2,h2'⟩
            · exact .inl (BW.tr _ _ _ h1 h2)
            · rw [(BW.eq _ _).1 h2] at h1;exact .inl h1
          · rw [(BW.eq _ _).1 h1];rcases h2 with h2 | ⟨h2,h2'⟩
            · exact .inl h2
            · exact .inr ⟨h2,ih _ _ h1' h2'⟩
theorem KL:FM (fun x y:List Int × List SP=>T7 (cL x.1 y.1) (cB x.2 y.2)):=FM.lex zC2 zC3 (·.1) (·.2) fun x y h1 h2=>Prod.ext h1 h2
theorem jT:FM eY:=FM.lex KL qH (fun w:W=>(w.1,w.2.2)) (fun w=>w.2.1) fun x y h1 h2=>by
  obtain ⟨a,b,c⟩:=x;obtain ⟨a',b',c'⟩:=y;simp at h1 h2;obtain ⟨h1,h3⟩:=h1;rw [h1,h2,h3]
theorem pC {a b:W}:oS a b=0↔a.1=b.1∧a.2.2=b.2.2:=by unfold oS;rw [GG,zC2.eq,zC3.eq]
def CW {α:Type}(c:α→α→Int) (w:α):List α→List α
  | []=>[w]
  | x::l=>if c w x≤0 then w::x::l else x::CW c w l
def eK {α:Type}(c:α→α→Int):List α→List α
  | []=>[]
  | x::l=>CW c x (eK c l)
theorem D9 {α:Type}(c:α→α→Int) (w:α):∀ l,(CW c w l).Perm (w::l)
  | []=>.refl _
  | x::l=>by
    unfold CW;split
    · exact .refl _
    · exact ((D9 c w l).cons x).trans (.swap _ _ _)
theorem dS {α:Type}(c:α→α→Int):∀ l,(eK c l).Perm l
  | []=>.refl _
  | x::l=>(D9 c x _).trans ((dS c l).cons x)
theorem RH {α:Type}{c:α→α→Int}(h:FM c) (w:α):∀ {l:List α},l.Pairwise (fun a b=>c a b≤0)→(CW c w l).Pairwise (fun a b=>c a b≤0)
  | [],_=>jF _ _
  | x::l,hl=>by
    rw [fG] at hl;unfold CW;split
    · rename_i hw;rw [fG,fG];refine ⟨fun y hy=>?_,hl⟩
      rcases bO.1 hy with rfl | hy
      · exact hw
      · exact h.le_tr hw (hl.1 y hy)
    · rename_i hw;rw [fG];refine ⟨fun y hy=>?_,RH h w hl.2⟩
      rcases bO.1 ((D9 c w l).mem_iff.1 hy) with rfl | hy
      · have:=h.neg x y;omega
      · exact hl.1 y hy
theorem lX {α:Type}{c:α→α→Int}(h:FM c):∀ l,(eK c l).Pairwise (fun a b=>c a b≤0)
  | []=>.nil
  | x::l=>RH h x (lX h l)
theorem H7 {α:Type}{c:α→α→Int}(h:FM c){l m:List α}(hp:m.Perm l) (hm:m.Pairwise (fun a b=>c a b≤0)):m=eK c l:=
  List.Perm.eq_of_pairwise (le:=fun a b=>c a b≤0) (fun a b _ _ h1 h2=>(h.eq a b).1 (by have:=h.neg a b;omega)) hm (lX h l) (hp.trans (dS c l).symm)
def kX {α:Type}(e:α→α→Bool) (p:α):List α→List α
  | []=>[]
  | y::l=>if e y p then kX e y l else y::kX e y l
def A9 {α:Type}(e:α→α→Bool):List α→List α
  | []=>[]
  | x::l=>x::kX e x l
def G6 (a b:W):Bool:=decide (oS a b=0)
def gN (l:List W):List W:=A9 G6 (eK eY l)
structure Cx where
  m:Int
  st:Int
  er:Int
  sl:Int
  ks:List KD
  ls:List LT
  bs:List BX
structure Ev where
  k:Int
  a:Int
  b:Int
  n:Int
  ids:List Int
def gP (w:W) (i:Nat):Int:=w.1.getD i 0
def gC (w:W) (i:Nat):SP:=w.2.2.getD i (0,0)
def sC (w:W) (i:Nat) (r:SP):W:=(w.1,w.2.1,w.2.2.set i r)
def yC (f t:Int):SP × Bool:=((BR f t,cutT f t),wI f t)
def G5 (a b c d:Int):Bool:=decide (0≤a∧a≤1099511627776∧0≤b∧b≤1099511627776∧0≤c∧c≤1099511627776∧0≤d∧d≤1099511627776)
def DE (t u w e:Int):SP × Bool:=if G5 t u w e=true then (if w+e-t<0∨u=0∧0<w-e-t then ((0,0),false) else if u=0 then ((0,20001),true) else yC (zH1 t u w e) (zT9 t u w e)) else ((0,0),false)
def qX (t u w e:Int) (r:SP):SP × Bool:=let q:=DE t u w e;if q.2 then yC (max r.1 q.1.1) (min r.2 q.1.2) else q
def yX (r:SP) (n s:Int):SP × Bool:=if 0≤n∧n≤1099511627776∧0≤s∧s≤1099511627776 then yC (r.1-n-s) (r.2-max (n-s) 0) else ((0,0),false)
def iO (c:Cx) (w:W) (i:Nat) (s:Ev):W × Bool:=
  if s.k=0 then (if gP w i∈s.ids then (w,decide ((s.ids.length:Int)-1≤c.st)) else ((w.1,w.2.1+1,w.2.2),decide ((s.ids.length:Int)≤c.st)))
  else if s.k=1 then
    let b:=c.bs.getD (gP w i).toNat (0,0,0)
    let q:=qX b.2.2 (nE c.ks c.ls b.1) s.n c.er (gC w i)
    (sC w i q.1,q.2)
  else if s.k=2 then let q:=yX (gC w i) s.n c.sl;(sC w i q.1,q.2)
  else if s.k=3 then (sC w i (s.n,s.n+1),pT (gC w i).1 (gC w i).2 s.n)
  else if s.k=5 then (w,decide (gP w i=s.n))
  else (w,true)
def mT (w:W) (i k:Nat):W:=((w.1.set i (gP w k)).set k (gP w i),w.2.1,(w.2.2.set i (gC w k)).set k (gC w i))
def oY (l:List G) (b:Int):Int:=match l.findIdx? fun g=>decide (b∈g.1) with
  | some i=>i
  | none=>-1
def F9 (a b:G) (x y:W) (l:List Int):W:=(l.map (fun k=>if k∈a.1 then gP x (a.1.idxOf k) else gP y (b.1.idxOf k)),x.2.1+y.2.1,l.map (fun k=>if k∈a.1 then gC x (a.1.idxOf k) else gC y (b.1.idxOf k)))
def pH (a b:G) (l:List Int):List W:=a.2.flatMap fun x=>b.2.map fun y=>F9 a b x y l
def lF (l:List G) (i:Nat):G:=l.getD i ([],[])
def mU (x y:G):G:=let bodies:=eK cI (x.1++y.1);(bodies,pH x y bodies)
def join (l:List G) (a b:Int):Option (List G):=
  let i:=oY l a;let k:=oY l b
  if i=k then some l else
  let x:=lF l i.toNat;let y:=lF l k.toNat
  if 6<x.1.length+y.1.length∨1000<x.2.length*y.2.length then none else
  some ((l.set (min i k).toNat (mU x y)).eraseIdx (max i k).toNat)
def gM (g:G):Int:=match g.2 with
  | []=>0
  | w::l=>l.foldl (fun m x=>if x.2.1<m then x.2.1 else m) w.2.1
def zN (g:G) (i:Nat):Bool:=match g.2 with
  | []=>false
  | f::l=>(f::l).all fun w=>decide (gP w i=gP f i∧gC w i=gC f i)
def iN (g:G):Option Nat:=if g.1.length<2∨g.2=[] then none else (List.range g.1.length).find? (zN g)
def gS (g:G):W:=g.2.headD ([],0,[])
def nL (g:G) (k:Nat):G:=([g.1.getD k 0],[([gP (gS g) k],0,[gC (gS g) k])])
def jY (g:G) (k:Nat):G:=(g.1.eraseIdx k,gN (g.2.map fun w=>(w.1.eraseIdx k,w.2.1,w.2.2.eraseIdx k)))
def lY:Nat→G→List G
  | 0,g=>[g]
  | n+1,g=>match iN g with
    | none=>[g]
    | some k=>nL g k::lY n (jY g k)
def cG (a b:G):Int:=cI (a.1.headD 0) (b.1.headD 0)
def qP (l:List G):List G:=eK cG (l.flatMap fun g=>lY g.1.length g)
def kA (l:List G):Int:=(l.map gM).sum
def paid (c:Cx) (all:List G):List G:=all.map fun g=>(g.1,g.2.filter fun w=>decide (w.2.1+(kA all-gM g)≤c.m))
def uW (c:Cx) (all:List G):List G:=qP (paid c all)
def lZ (c:Cx) (s:Ev) (g:G):List W:=
  let i:=g.1.idxOf s.a
  g.2.flatMap fun w=>(if (iO c w i s).2 then [(iO c w i s).1] else [])++(if s.k=4 then [mT w i (g.1.idxOf s.b)] else [])
def VD (l:List Int) (n:Int):Bool:=(List.range l.length).all fun i=>decide (0≤l.getD i 0∧l.getD i 0≤n-1∧(0<i→l.getD (i-1) 0<l.getD i 0))
def gO (n:Int) (s:Ev):Bool:=decide (0≤s.a∧s.a≤n-1)&&decide (s.k=0∨s.ids.length=0)&&decide (s.k=4∨s.b=0) &&
  (if s.k=0 then decide (s.n=0)&&VD s.ids n else if s.k=1∨s.k=2∨s.k=3 then decide (0≤s.n∧s.n≤1099511627776) else if s.k=4 then decide (s.n=0∧s.a+1≤s.b∧s.b≤n-1) else if s.k=5 then decide (0≤s.n∧s.n≤n-1) else false)
def rK (c:Cx) (l all:List G) (s:Ev):Int × List G:=
  let at_:=(oY all s.a).toNat
  let g:=lF all at_
  let ws:=gN (lZ c s g)
  if ws=[] then (26,l) else if 1000<ws.length then (6,l) else
  let out:=uW c (all.set at_ (g.1,ws))
  if out.any (fun g=>g.2.isEmpty) then (26,l) else (0,out)
def lQ (c:Cx) (l:List G) (s:Ev):Int × List G:=
  if gO c.bs.length s then
    (if s.k=4 then (match join l s.a s.b with
      | none=>(6,l)
      | some all=>rK c l all s)
    else rK c l l s)
  else (1,l)
def qL (c:Cx):List G:=(List.range c.bs.length).map fun (i:Nat)=>([(i:Int)],[([(i:Int)],0,[((c.bs.getD i (0,0,0)).2.1,(c.bs.getD i (0,0,0)).2.1+1)])])
theorem zK4 {a b d:W}(h1:oS a b<0) (h2:oS b d<0):oS a d<0:=KL.tr (a.1,a.2.2) (b.1,b.2.2) (d.1,d.2.2) h1 h2
theorem NY {a b d:W}(h:oS b a=0):oS a d=oS b d:=by
  obtain ⟨h1,h2⟩:=pC.1 h;unfold oS;rw [h1,h2]
theorem RS {a b:W}(h:eY a b≤0):oS a b<0∨oS a b=0∧a.2.1≤b.2.1:=by
  unfold eY T7 at h;split at h
  · rename_i e;refine .inr ⟨e,?_⟩;unfold cI at h;split at h <;> (try split at h) <;> omega
  · omega
theorem yD {α:Type}(e:α→α→Bool):∀ (p:α) (l:List α),(kX e p l).Sublist l
  | _,[]=>.slnil
  | p,y::l=>by
    unfold kX;split
    · exact (yD e y l).cons _
    · exact (yD e y l).cons_cons _
theorem FA {α:Type}(e:α→α→Bool):∀ (l:List α),(A9 e l).Sublist l
  | []=>.slnil
  | x::l=>(yD e x l).cons_cons _
theorem pP {l:List W}{w:W}(h:w∈gN l):w∈l:=(dS eY l).mem_iff.1 ((FA _ _).mem h)
theorem rO (l:List W):(gN l).length≤l.length:=by
  have:=(FA G6 (eK eY l)).length_le;rw [(dS eY l).length_eq] at this;exact this
theorem vE:∀ (l:List W) (q p:W),(p::l).Pairwise (fun a b=>eY a b≤0)→oS q p=0→q.2.1≤p.2.1→∀ w,w∈p::l→∃ v,v∈q::kX G6 p l∧oS v w=0∧v.2.1≤w.2.1
  | [],q,p,hs,h1,h2,w,hw=>by
    rcases bO.1 hw with rfl | hw
    · exact ⟨q,aR,h1,h2⟩
    · cases hw
  | y::l,q,p,hs,h1,h2,w,hw=>by
    have hs':=fG.1 hs;rcases bO.1 hw with rfl | hw
    · exact ⟨q,aR,h1,h2⟩
    · unfold kX;by_cases e:G6 y p=true
      · rw [if_pos e];have e':oS y p=0:=by unfold G6 at e;simpa using e
        have hpy:oS p y=0:=by obtain ⟨a,b⟩:=pC.1 e';exact pC.2 ⟨a.symm,b.symm⟩
        rcases RS (hs'.1 y aR) with hl | ⟨_,hl⟩
        · omega
        · refine vE l q y hs'.2 ?_ (by omega) w hw
          obtain ⟨a,b⟩:=pC.1 h1;obtain ⟨a',b'⟩:=pC.1 hpy;exact pC.2 ⟨a.trans a',b.trans b'⟩
      · rw [if_neg e];obtain ⟨v,hv,h3,h4⟩:=vE l y y hs'.2 (pC.2 ⟨rfl,rfl⟩) (dC _) w hw;exact ⟨v,aM _ hv,h3,h4⟩
theorem xE {l:List W}{w:W}(h:w∈l):∃ v,v∈gN l∧v.1=w.1∧v.2.2=w.2.2∧v.2.1≤w.2.1:=by
  have hs:=lX jT l;have hw:=(dS eY l).mem_iff.2 h;unfold gN;generalize eK eY l=m at *;cases m with
  | nil=>cases hw
  | cons x m=>
    obtain ⟨v,hv,h1,h2⟩:=vE m x x hs (pC.2 ⟨rfl,rfl⟩) (dC _) w hw;exact ⟨v,hv,(pC.1 h1).1,(pC.1 h1).2,h2⟩
theorem U7:∀ (l:List W) (p:W),(p::l).Pairwise (fun a b=>eY a b≤0)→(∀ z,z∈kX G6 p l→oS p z<0)∧(kX G6 p l).Pairwise (fun a b=>oS a b<0)
  | [],p,_=>⟨fun z hz=>(by cases hz),.nil⟩
  | y::l,p,hs=>by
    have hs':=fG.1 hs;obtain ⟨h1,h2⟩:=U7 l y hs'.2;unfold kX;by_cases e:G6 y p=true
    · rw [if_pos e];have e':oS y p=0:=by unfold G6 at e;simpa using e
      exact ⟨fun z hz=>by rw [NY e'];exact h1 z hz,h2⟩
    · rw [if_neg e];have e':oS p y<0:=by
        rcases RS (hs'.1 y aR) with hl | ⟨hl,_⟩
        · exact hl
        · exfalso;apply e;unfold G6;obtain ⟨a,b⟩:=pC.1 hl;simp [pC.2 ⟨a.symm,b.symm⟩]
      refine ⟨fun z hz=>?_,fG.2 ⟨h1,h2⟩⟩
      rcases bO.1 hz with rfl | hz
      · exact e'
      · exact zK4 e' (h1 z hz)
theorem AZ (l:List W):(gN l).Pairwise (fun a b=>oS a b<0):=by
  have hs:=lX jT l;unfold gN;generalize eK eY l=m at *;cases m with
  | nil=>exact .nil
  | cons x m=>exact fG.2 (U7 m x hs)
theorem T6 {l:List W}:gN l=[]↔l=[]:=by
  constructor
  · intro h;cases l with
    | nil=>rfl
    | cons x l=>obtain ⟨v,hv,_⟩:=xE (l:=x::l) (w:=x) aR;rw [h] at hv;cases hv
  · rintro rfl;rfl
abbrev As:=Int→Int × SP
def lP (bs:List Int) (w:W) (f:As):Prop:=w.1=bs.map (fun b=>(f b).1)∧w.2.2=bs.map (fun b=>(f b).2)
def sE (g:G) (f:As) (m:Int):Prop:=∃ w,w∈g.2∧lP g.1 w f∧w.2.1≤m
def Sem:List G→As→Int→Prop
  | [],_,M=>0≤M
  | g::gs,f,M=>∃ m,sE g f m∧Sem gs f (M-m)
theorem sE.mono {g:G}{f:As}{m m':Int}(h:sE g f m) (hm:m≤m'):sE g f m':=by
  obtain ⟨w,h1,h2,h3⟩:=h;exact ⟨w,h1,h2,by omega⟩
theorem Sem.mono:∀ {gs:List G}{f:As}{M M':Int},Sem gs f M→M≤M'→Sem gs f M'
  | [],f,M,M',h,hm=>by unfold Sem at *;omega
  | g::gs,f,M,M',⟨m,h1,h2⟩,hm=>⟨m,h1,h2.mono (by omega)⟩
theorem QB {g:G}{f:As}{M:Int}:Sem [g] f M↔sE g f M:=by
  constructor
  · rintro ⟨m,h1,h2⟩;unfold Sem at h2;exact h1.mono (by omega)
  · intro h;exact ⟨M,h,by unfold Sem;omega⟩
theorem FU:∀ (a b:List G) (f:As) (M:Int),Sem (a++b) f M↔∃ m,Sem a f m∧Sem b f (M-m)
  | [],b,f,M=>by
    constructor
    · intro h;exact ⟨0,by unfold Sem;omega,by rw [Int.sub_zero];exact h⟩
    · rintro ⟨m,h1,h2⟩;unfold Sem at h1;exact h2.mono (by omega)
  | g::a,b,f,M=>by
    simp only [List.cons_append,Sem];constructor
    · rintro ⟨m,h1,h2⟩;obtain ⟨m',h3,h4⟩:=(FU a b f _).1 h2;exact ⟨m+m',⟨m,h1,h3.mono (by omega)⟩,h4.mono (by omega)⟩
    · rintro ⟨m,⟨m',h1,h2⟩,h3⟩;exact ⟨m',h1,(FU a b f _).2 ⟨m-m',h2,h3.mono (by omega)⟩⟩
theorem oQ {a b:List G}(h:a.Perm b):∀ {f:As}{M:Int},Sem a f M↔Sem b f M:=by
  induction h with
  | nil=>intro f M;exact Iff.rfl
  | cons x _ ih=>intro f M;simp only [Sem,ih]
  | swap x y l=>
    intro f M;simp only [Sem];constructor
    · rintro ⟨m,h1,m',h2,h3⟩;exact ⟨m',h2,m,h1,h3.mono (by omega)⟩
    · rintro ⟨m,h1,m',h2,h3⟩;exact ⟨m',h2,m,h1,h3.mono (by omega)⟩
  | trans _ _ ih1 ih2=>intro f M;rw [ih1,ih2]
theorem JJ {F:G→List G}{f:As}:∀ {gs:List G},(∀ g,g∈gs→∀ M,Sem (F g) f M↔sE g f M)→∀ {M:Int},Sem (gs.flatMap F) f M↔Sem gs f M
  | [],_,M=>Iff.rfl
  | g::gs,h,M=>by
    rw [bJ,FU];simp only [Sem,JJ (fun g hg=>h g (aM _ hg)),h g aR]
theorem zV {bs:List Int}{l:List W}{f:As}{m:Int}:sE (bs,gN l) f m↔sE (bs,l) f m:=by
  constructor
  · rintro ⟨w,h1,h2,h3⟩;exact ⟨w,pP h1,h2,h3⟩
  · rintro ⟨w,h1,h2,h3⟩;obtain ⟨v,hv,a,b,d⟩:=xE h1;exact ⟨v,hv,⟨a.trans h2.1,b.trans h2.2⟩,I7 d h3⟩
def IF (r:SP):Prop:=0≤r.1∧r.1<r.2∧r.2≤20001
structure CJ (n k:Nat) (w:W):Prop where
  pl:w.1.length=k
  cl:w.2.2.length=k
  pr:∀ x,x∈w.1→0≤x∧x<n
  nd:w.1.Nodup
  m0:0≤w.2.1
  m1:w.2.1≤4000000
  sp:∀ r,r∈w.2.2→IF r
structure wY (n:Nat) (g:G):Prop where
  ne:g.1≠[]
  up:g.1.Pairwise (· < ·)
  rg:∀ b,b∈g.1→0≤b∧b<n
  ln:g.1.length≤6
  ws:∀ w,w∈g.2→CJ n g.1.length w
  same:∀ w v,w∈g.2→v∈g.2→w.1.Perm v.1
theorem wY.nd {n:Nat}{g:G}(h:wY n g):g.1.Nodup:=h.up.imp (fun h=>by omega)
theorem R4:∀ (l:List W) (a:Int),l.foldl (fun m x=>if x.2.1<m then x.2.1 else m) a≤a∧(∀ x,x∈l→l.foldl (fun m x=>if x.2.1<m then x.2.1 else m) a≤x.2.1)∧(l.foldl (fun m x=>if x.2.1<m then x.2.1 else m) a=a∨∃ x,x∈l∧l.foldl (fun m x=>if x.2.1<m then x.2.1 else m) a=x.2.1)
  | [],a=>⟨dC _,fun x hx=>(by cases hx),.inl rfl⟩
  | y::l,a=>by
    rw [qK];obtain ⟨h1,h2,h3⟩:=R4 l (if y.2.1<a then y.2.1 else a)
    generalize l.foldl (fun m x=>if x.2.1<m then x.2.1 else m) (if y.2.1<a then y.2.1 else a)=q at *
    refine ⟨by split at h1 <;> omega,fun x hx=>?_,?_⟩
    · rcases bO.1 hx with rfl | hx
      · split at h1 <;> omega
      · exact h2 x hx
    · rcases h3 with h3 | ⟨x,hx,h3⟩
      · split at h3
        · exact .inr ⟨y,aR,h3⟩
        · exact .inl h3
      · exact .inr ⟨x,aM _ hx,h3⟩
theorem tT {g:G}{w:W}(h:w∈g.2):gM g≤w.2.1:=by
  unfold gM;cases hg:g.2 with
  | nil=>rw [hg] at h;cases h
  | cons x l=>
    rw [hg] at h;obtain ⟨h1,h2,h3⟩:=R4 l x.2.1;rcases bO.1 h with rfl | h
    · exact h1
    · exact h2 _ h
theorem tD {g:G}(h:g.2≠[]):∃ w,w∈g.2∧w.2.1=gM g:=by
  unfold gM;cases hg:g.2 with
  | nil=>exact absurd hg h
  | cons x l=>
    obtain ⟨h1,h2,h3⟩:=R4 l x.2.1;rcases h3 with h3 | ⟨y,hy,h3⟩
    · exact ⟨x,aR,h3.symm⟩
    · exact ⟨y,aM _ hy,h3.symm⟩
theorem TT {g:G}{f:As}{m:Int}(h:sE g f m):gM g≤m:=by
  obtain ⟨w,h1,_,h3⟩:=h;exact I7 (tT h1) h3
theorem DL:∀ {gs:List G}{f:As}{M:Int},Sem gs f M→kA gs≤M
  | [],f,M,h=>by unfold Sem at h;simpa [kA] using h
  | g::gs,f,M,⟨m,h1,h2⟩=>by
    have:=TT h1;have:=DL h2;simp only [kA,List.map_cons,yJ0] at *;omega
def yD0 (c:Cx) (S:Int) (all:List G):List G:=all.map fun g=>(g.1,g.2.filter fun w=>decide (w.2.1+(S-gM g)≤c.m))
theorem P3 {c:Cx}{S:Int}:∀ {gs:List G}{f:As}{M:Int},M+(S-kA gs)≤c.m→(Sem (yD0 c S gs) f M↔Sem gs f M)
  | [],f,M,h=>Iff.rfl
  | g::gs,f,M,h=>by
    have e:kA (g::gs)=gM g+kA gs:=by simp [kA]
    constructor
    · rintro ⟨m,⟨w,h1,h2,h3⟩,h4⟩;have h1':=(iQ.1 h1).1;have:=tT h1';exact ⟨m,⟨w,h1',h2,h3⟩,(P3 (by omega)).1 h4⟩
    · rintro ⟨m,⟨w,h1,h2,h3⟩,h4⟩;have:=tT h1;have:=DL h4;refine ⟨m,⟨w,?_,h2,h3⟩,(P3 (by omega)).2 h4⟩
      rw [iQ];refine ⟨h1,?_⟩;simp only [decide_eq_true_eq];omega
theorem WT {c:Cx}{gs:List G}{f:As}{M:Int}(h:M≤c.m):Sem (paid c gs) f M↔Sem gs f M:=P3 (S:=kA gs) (by omega)
theorem GS {bs:List Int}{w:W}{f:As}(h:lP bs w f){i:Nat}(hi:i<bs.length):gP w i=(f bs[i]).1:=by
  unfold gP;rw [h.1];simp [List.getD,hi]
theorem GU {bs:List Int}{w:W}{f:As}(h:lP bs w f){i:Nat}(hi:i<bs.length):gC w i=(f bs[i]).2:=by
  unfold gC;rw [h.2];simp [List.getD,hi]
theorem vY {α β:Type}(f:α→β):∀ (l:List α) (k:Nat),(l.map f).eraseIdx k=(l.eraseIdx k).map f
  | [],_=>rfl
  | x::l,0=>rfl
  | x::l,k+1=>by simp [vY f l k]
def zP3 (k:Nat) (w:W):W:=(w.1.eraseIdx k,w.2.1,w.2.2.eraseIdx k)
theorem xX {α:Type}:∀ {k:Nat}{a b:List α}(x:α),a.length=b.length→a.getD k x=b.getD k x→a.eraseIdx k=b.eraseIdx k→a=b
  | _,[],[],_,_,_,_=>rfl
  | _,[],_::_,_,h,_,_=>by simp at h
  | _,_::_,[],_,h,_,_=>by simp at h
  | 0,y::a,z::b,x,h,h1,h2=>by
    simp at h1 h2;rw [h1,h2]
  | k+1,y::a,z::b,x,h,h1,h2=>by
    simp at h h1 h2;rw [h2.1,xX x h (by simpa using h1) h2.2]
theorem BN {bs:List Int}{w:W}{f:As}{k:Nat}(hk:k<bs.length) (h1:w.1.length=bs.length) (h2:w.2.2.length=bs.length) :
    lP bs w f↔lP (bs.eraseIdx k) (zP3 k w) f∧gP w k=(f (bs.getD k 0)).1∧gC w k=(f (bs.getD k 0)).2:=by
  have hb:bs.getD k 0=bs[k]:=by simp [List.getD,hk]
  constructor
  · intro h;refine ⟨⟨?_,?_⟩,?_,?_⟩
    · show w.1.eraseIdx k=_;rw [h.1,vY]
    · show w.2.2.eraseIdx k=_;rw [h.2,vY]
    · rw [hb];exact GS h hk
    · rw [hb];exact GU h hk
  · rintro ⟨h,h3,h4⟩;rw [hb] at h3 h4;constructor
    · refine xX (k:=k) 0 (by simp [h1]) ?_ (by rw [vY];exact h.1)
      rw [show w.1.getD k 0=gP w k from rfl,h3];simp [List.getD,hk]
    · refine xX (k:=k) (0,0) (by simp [h2]) ?_ (by rw [vY];exact h.2)
      rw [show w.2.2.getD k (0,0)=gC w k from rfl,h4];simp [List.getD,hk]
theorem NM {g:G}{i:Nat}(hne:g.2≠[]):zN g i=true↔∀ w,w∈g.2→gP w i=gP (gS g) i∧gC w i=gC (gS g) i:=by
  unfold zN gS;cases hg:g.2 with
  | nil=>exact absurd hg hne
  | cons f l=>simp
theorem kG {g:G}{k:Nat}(h:iN g=some k):2≤g.1.length∧g.2≠[]∧k<g.1.length∧∀ w,w∈g.2→gP w k=gP (gS g) k∧gC w k=gC (gS g) k:=by
  unfold iN at h;split at h
  · cases h
  · rename_i hc;have hne:g.2≠[]:=fun e=>hc (.inr e)
    have h1:=List.find?_some h;have h2:=List.mem_of_find?_eq_some h;rw [dD] at h2;exact ⟨by omega,hne,h2,(NM hne).1 h1⟩
theorem gR {g:G}(h:g.2≠[]):gS g∈g.2:=by
  unfold gS;cases hg:g.2 with
  | nil=>exact absurd hg h
  | cons f l=>simp
theorem KN {g:G}{k:Nat}{f:As}{m:Int}:sE (nL g k) f m↔gP (gS g) k=(f (g.1.getD k 0)).1∧gC (gS g) k=(f (g.1.getD k 0)).2∧0≤m:=by
  unfold sE nL;constructor
  · rintro ⟨w,h1,h2,h3⟩;simp at h1;subst h1;obtain ⟨h4,h5⟩:=h2;simp at h4 h5;exact ⟨h4,h5,h3⟩
  · rintro ⟨h1,h2,h3⟩;exact ⟨_,aQ.2 rfl,⟨by simp [h1],by simp [h2]⟩,h3⟩
theorem TS {n:Nat}{g:G}(ok:wY n g){k:Nat}(hc:iN g=some k){f:As}{M:Int}:(∃ m,sE (nL g k) f m∧sE (jY g k) f (M-m))↔sE g f M:=by
  obtain ⟨h1,hne,hk,hs⟩:=kG hc;have hr:∀ M,sE (jY g k) f M↔∃ w,w∈g.2∧lP (g.1.eraseIdx k) (zP3 k w) f∧w.2.1≤M:=by
    intro M;unfold jY;rw [zV];unfold sE;constructor
    · rintro ⟨v,hv,a,b⟩;obtain ⟨w,hw,rfl⟩:=bE.1 hv;exact ⟨w,hw,a,b⟩
    · rintro ⟨w,hw,a,b⟩;exact ⟨zP3 k w,bE.2 ⟨w,hw,rfl⟩,a,b⟩
  constructor
  · rintro ⟨m,h2,h3⟩;obtain ⟨a,b,c⟩:=KN.1 h2;obtain ⟨w,hw,d,e⟩:=(hr _).1 h3;have:=ok.ws w hw;exact ⟨w,hw,(BN hk this.pl this.cl).2 ⟨d,by rw [(hs w hw).1];exact a,by rw [(hs w hw).2];exact b⟩,by omega⟩
  · rintro ⟨w,hw,d,e⟩;have:=ok.ws w hw;obtain ⟨a,b,c⟩:=(BN hk this.pl this.cl).1 d;refine ⟨0,KN.2 ⟨by rw [← (hs w hw).1];exact b,by rw [← (hs w hw).2];exact c,dC _⟩,(hr _).2 ⟨w,hw,a,by omega⟩⟩
theorem uZ {α:Type}{l:List α}{k:Nat}{x:α}(h:x∈l.eraseIdx k):x∈l:=(IB l k).mem h
theorem CJ.erase {n k:Nat}{w:W}(h:CJ n k w){i:Nat}(hi:i<k):CJ n (k-1) (zP3 i w) where
  pl:=by show (w.1.eraseIdx i).length=_;rw [gJ,h.pl,if_pos hi]
  cl:=by show (w.2.2.eraseIdx i).length=_;rw [gJ,h.cl,if_pos hi]
  pr x hx:=h.pr x (uZ hx)
  nd:=h.nd.sublist (IB _ _)
  m0:=h.m0
  m1:=h.m1
  sp r hr:=h.sp r (uZ hr)
theorem kE {α:Type}:∀ (l:List α) (i:Nat) (x:α),i<l.length→(l.getD i x::l.eraseIdx i).Perm l
  | [],i,x,h=>by simp at h
  | y::l,0,x,h=>by simp
  | y::l,i+1,x,h=>by
    simp only [List.getD_cons_succ,List.eraseIdx_cons_succ];exact (List.Perm.swap _ _ _).trans ((kE l i x (by simpa using h)).cons y)
theorem CJ.at {n k:Nat}{w:W}(h:CJ n k w){i:Nat}(hi:i<k):0≤gP w i∧gP w i<n∧IF (gC w i):=by
  unfold gP gC;have h1:i<w.1.length:=by rw [h.pl];exact hi
  have h2:i<w.2.2.length:=by rw [h.cl];exact hi
  simp only [List.getD,aA h1,aA h2,lM];exact ⟨(h.pr _ (aH h1)).1,(h.pr _ (aH h1)).2,h.sp _ (aH h2)⟩
theorem wY.one {n:Nat}{g:G}(h:wY n g){k:Nat}(hc:iN g=some k):wY n (nL g k):=by
  obtain ⟨h1,hne,hk,hs⟩:=kG hc;have hf:=h.ws _ (gR hne);have ha:=hf.at hk;refine ⟨by simp [nL],by simp [nL],?_,by simp [nL],?_,?_⟩
  · intro b hb;simp only [nL,aQ] at hb;subst hb;simp only [List.getD,aA hk,lM];exact h.rg _ (aH hk)
  · intro w hw;simp only [nL,aQ] at hw;subst hw;exact ⟨rfl,rfl,by intro x hx;simp at hx;subst hx;exact ⟨ha.1,ha.2.1⟩,by simp,by simp,by simp,by intro r hr;simp at hr;subst hr;exact ha.2.2⟩
  · intro w v hw hv;simp only [nL,aQ] at hw hv;subst hw;subst hv;exact .refl _
theorem wY.rest {n:Nat}{g:G}(h:wY n g){k:Nat}(hc:iN g=some k):wY n (jY g k):=by
  obtain ⟨h1,hne,hk,hs⟩:=kG hc;have hl:(g.1.eraseIdx k).length=g.1.length-1:=by rw [gJ,if_pos hk]
  have hm:∀ w,w∈(jY g k).2→∃ v,v∈g.2∧w=zP3 k v:=by
    intro w hw;obtain ⟨v,hv,rfl⟩:=bE.1 (pP hw);exact ⟨v,hv,rfl⟩
  refine ⟨?_,h.up.sublist (IB _ _),fun b hb=>h.rg b (uZ hb),?_,?_,?_⟩
  · intro e;have:(g.1.eraseIdx k).length=0:=by rw [show g.1.eraseIdx k=[] from e];rfl
    omega
  · show (g.1.eraseIdx k).length≤6;have:=h.ln;omega
  · intro w hw;obtain ⟨v,hv,rfl⟩:=hm w hw;show CJ n (g.1.eraseIdx k).length _;rw [hl];exact (h.ws v hv).erase hk
  · intro w v hw hv;obtain ⟨w,hw',rfl⟩:=hm w hw;obtain ⟨v,hv',rfl⟩:=hm v hv;clear hw hv;have hw:=hw';have hv:=hv';have h3:=h.same w v hw hv;have e1:=kE w.1 k 0 (by rw [(h.ws w hw).pl];exact hk)
    have e2:=kE v.1 k 0 (by rw [(h.ws v hv).pl];exact hk)
    have e3:w.1.getD k 0=v.1.getD k 0:=((hs w hw).1).trans ((hs v hv).1).symm;rw [e3] at e1;exact (List.perm_cons _).1 (e1.trans (h3.trans e2.symm))
theorem GD {n:Nat}:∀ (m:Nat){g:G},wY n g→∀ x,x∈lY m g→wY n x
  | 0,g,h,x,hx=>by simp [lY] at hx;subst hx;exact h
  | m+1,g,h,x,hx=>by
    unfold lY at hx;split at hx
    · simp at hx;subst hx;exact h
    · rename_i k hc;rcases bO.1 hx with rfl | hx
      · exact h.one hc
      · exact GD m (h.rest hc) x hx
theorem JI {n:Nat}{f:As}:∀ (m:Nat){g:G},wY n g→∀ {M:Int},Sem (lY m g) f M↔sE g f M
  | 0,g,h,M=>QB
  | m+1,g,h,M=>by
    unfold lY;split
    · exact QB
    · rename_i k hc;simp only [Sem,JI m (h.rest hc)];exact TS h hc
theorem TB {n:Nat}{f:As}{l:List G}(h:∀ g,g∈l→wY n g){M:Int}:Sem (qP l) f M↔Sem l f M:=by
  unfold qP;rw [oQ (dS _ _)];exact JJ fun g hg M=>JI _ (h g hg)
theorem DY {n:Nat}:∀ (m:Nat){g:G},wY n g→g.1.length≤m→∀ x,x∈lY m g→iN x=none
  | 0,g,h,hl,x,hx=>by exact absurd (fE.1 (Nat.le_zero.1 hl)) h.ne
  | m+1,g,h,hl,x,hx=>by
    unfold lY at hx;split at hx
    · rename_i hc;simp at hx;subst hx;exact hc
    · rename_i k hc;obtain ⟨h1,hne,hk,hs⟩:=kG hc;rcases bO.1 hx with rfl | hx
      · simp [iN,nL]
      · refine DY m (h.rest hc) ?_ x hx;show (g.1.eraseIdx k).length≤m;rw [gJ,if_pos hk];omega
theorem zU {n:Nat}:∀ (m:Nat){g:G},wY n g→((lY m g).flatMap (·.1)).Perm g.1
  | 0,g,h=>by simp [lY]
  | m+1,g,h=>by
    unfold lY;split
    · simp
    · rename_i k hc;obtain ⟨h1,hne,hk,hs⟩:=kG hc;rw [bJ];exact (List.Perm.append_left _ (zU m (h.rest hc))).trans (kE g.1 k 0 hk)
theorem zK1 {m:Nat}:∀ {g:G},g.2≠[]→∀ x,x∈lY m g→x.2≠[]:=by
  induction m with
  | zero=>intro g h x hx;simp [lY] at hx;subst hx;exact h
  | succ m ih=>
    intro g h x hx;unfold lY at hx;split at hx
    · simp at hx;subst hx;exact h
    · rename_i k hc;rcases bO.1 hx with rfl | hx
      · simp [nL]
      · refine ih ?_ x hx;show gN _≠[];rw [Ne,T6,mQ];exact h
theorem KH {g:G}(h:g.2=[]):∀ m,lY m g=[g]
  | 0=>rfl
  | m+1=>by unfold lY;rw [show iN g=none by unfold iN;rw [if_pos (.inr h)]]
theorem KI {m:Nat}:∀ {g:G}{K:Nat},1≤K→g.2.length≤K→∀ x,x∈lY m g→x.2.length≤K:=by
  induction m with
  | zero=>intro g K _ h x hx;simp [lY] at hx;subst hx;exact h
  | succ m ih=>
    intro g K h1 h x hx;unfold lY at hx;split at hx
    · simp at hx;subst hx;exact h
    · rename_i k hc;rcases bO.1 hx with rfl | hx
      · simpa [nL] using h1
      · refine ih h1 ?_ x hx;exact bP (rO _) (by rw [aF];exact h)
def upd (f:As) (a:Int) (x:Int × SP):As:=fun b=>if b=a then x else f b
def IW (f:As) (a b:Int):As:=fun x=>if x=a then f b else if x=b then f a else f x
def sA (c:Cx) (s:Ev) (x:Int × SP):(Int × SP) × Int × Bool:=
  if s.k=0 then (if x.1∈s.ids then (x,0,decide ((s.ids.length:Int)-1≤c.st)) else (x,1,decide ((s.ids.length:Int)≤c.st)))
  else if s.k=1 then
    let b:=c.bs.getD x.1.toNat (0,0,0)
    let q:=qX b.2.2 (nE c.ks c.ls b.1) s.n c.er x.2
    ((x.1,q.1),0,q.2)
  else if s.k=2 then let q:=yX x.2 s.n c.sl;((x.1,q.1),0,q.2)
  else if s.k=3 then ((x.1,(s.n,s.n+1)),0,pT x.2.1 x.2.2 s.n)
  else if s.k=5 then (x,0,decide (x.1=s.n))
  else (x,0,true)
theorem JF {α:Type}{l:List α}{i:Nat}(x:α) (h:i<l.length):l.set i (l.getD i x)=l:=by
  simp [List.getD,h]
theorem wM {c:Cx}{w:W}{i:Nat}{s:Ev}(h:i<w.2.2.length) :
    iO c w i s=((w.1,w.2.1+(sA c s (gP w i,gC w i)).2.1,w.2.2.set i (sA c s (gP w i,gC w i)).1.2),(sA c s (gP w i,gC w i)).2.2):=by
  have e:w.2.2.set i (gC w i)=w.2.2:=JF _ h;unfold iO sA;split
  · split <;> simp [e]
  · split
    · simp [sC]
    · split
      · simp [sC]
      · split
        · simp [sC]
        · split <;> simp [e]
theorem HP {c:Cx}{s:Ev}{x:Int × SP}:(sA c s x).1.1=x.1:=by
  unfold sA
  repeat' split
  all_goals rfl
def N2 (c:Cx) (s:Ev) (f f':As) (d:Int):Prop:=
  ((sA c s (f s.a)).2.2=true∧f'=upd f s.a (sA c s (f s.a)).1∧d=(sA c s (f s.a)).2.1)∨(s.k=4∧f'=IW f s.a s.b∧d=0)
theorem tX {bs:List Int}{w:W}{f:As}(h1:w.1.length=bs.length) (h2:w.2.2.length=bs.length) :
    lP bs w f↔∀ j (hj:j<bs.length),gP w j=(f bs[j]).1∧gC w j=(f bs[j]).2:=by
  constructor
  · intro h j hj;exact ⟨GS h hj,GU h hj⟩
  · intro h;constructor
    · refine gY (by simp [h1]) fun j hj hj'=>?_
      have:=(h j (by omega)).1
      unfold gP at this;simp only [List.getD,aA hj,lM] at this;simp [this]
    · refine gY (by simp [h2]) fun j hj hj'=>?_
      have:=(h j (by omega)).2
      unfold gC at this;simp only [List.getD,aA hj,lM] at this;simp [this]
theorem xL {bs:List Int}{a:Int}(ha:a∈bs):∃ h:bs.idxOf a<bs.length,bs[bs.idxOf a]=a:=by
  have h:=iD ha;exact ⟨h,List.getElem_idxOf h⟩
theorem BE {bs:List Int}(hn:bs.Nodup){i j:Nat}(hi:i<bs.length) (hj:j<bs.length) (h:bs[i]=bs[j]):i=j:=(zR5 hn).1 h
theorem fR {α:Type}{l:List α}{i j:Nat}{x d:α}(hj:i<l.length):(l.set i x).getD j d=if j=i then x else l.getD j d:=by
  by_cases e:j=i
  · subst e;simp [List.getD,hj]
  · rw [if_neg e];simp [List.getD,kN (Ne.symm e)]
theorem KO {c:Cx}{n:Nat}{g:G}(ok:wY n g){s:Ev}(ha:s.a∈g.1) (hb:s.k=4→s.b∈g.1∧s.a≠s.b){f':As}{M:Int} :
    sE (g.1,gN (lZ c s g)) f' M↔∃ f d,N2 c s f f' d∧sE g f (M-d):=by
  rw [zV];obtain ⟨hi,hia⟩:=xL ha;have hnd:=ok.nd;constructor
  · rintro ⟨v,hv,hf,hm⟩;unfold lZ at hv;obtain ⟨w,hw,hv⟩:=fI.1 hv;have wo:=ok.ws w hw;have h1:=wo.pl;have h2:=wo.cl;rcases bG.1 hv with hv | hv
    · split at hv
      · rename_i hok;simp only [aQ] at hv;subst hv;rw [wM (by omega)] at hok hf hm
        simp only at hok hf hm;generalize hi':g.1.idxOf s.a=i at *;have hf':=(tX (w:=(w.1,w.2.1+(sA c s (gP w i,gC w i)).2.1,w.2.2.set i (sA c s (gP w i,gC w i)).1.2)) h1 (by simp [h2])).1 hf
        have ea:upd f' s.a (gP w i,gC w i) s.a=(gP w i,gC w i):=by unfold upd;rw [if_pos rfl]
        refine ⟨upd f' s.a (gP w i,gC w i),_,.inl ⟨by rw [ea];exact hok,?_,rfl⟩,w,hw,(tX h1 h2).2 fun j hj=>?_,by rw [ea];show w.2.1≤_;omega⟩
        · rw [ea];funext b;unfold upd;by_cases e:b=s.a
          · rw [if_pos e,e];obtain ⟨q1,q2⟩:=hf' i hi;rw [hia] at q1 q2;refine Prod.ext ?_ ?_
            · rw [HP,← q1];rfl
            · rw [← q2];unfold gC;rw [fR (by omega),if_pos rfl]
          · rw [if_neg e,if_neg e]
        · obtain ⟨q1,q2⟩:=hf' j hj;unfold upd;by_cases e:g.1[j]=s.a
          · rw [if_pos e];have:j=i:=BE hnd hj hi (e.trans hia.symm);subst this;exact ⟨rfl,rfl⟩
          · rw [if_neg e];refine ⟨by rw [← q1];rfl,?_⟩
            rw [← q2];unfold gC;rw [fR (by omega),if_neg]
            rintro rfl;exact e hia
      · cases hv
    · split at hv
      · rename_i hk;simp only [aQ] at hv;subst hv;obtain ⟨hbm,hab⟩:=hb hk;obtain ⟨hj,hjb⟩:=xL hbm;generalize hi':g.1.idxOf s.a=i at *;generalize hj':g.1.idxOf s.b=k at *;have hik:i≠k:=by rintro rfl;exact hab (hia.symm.trans hjb)
        have hf':=(tX (w:=mT w i k) (by simp [mT,h1]) (by simp [mT,h2])).1 hf
        refine ⟨IW f' s.a s.b,0,.inr ⟨hk,?_,rfl⟩,w,hw,(tX h1 h2).2 fun j hj0=>?_,by have:(mT w i k).2.1=w.2.1:=rfl;omega⟩
        · funext x;unfold IW;by_cases e:x=s.a
          · subst e;rw [if_pos rfl,if_neg (Ne.symm hab),if_pos rfl]
          · by_cases e':x=s.b
            · subst e';rw [if_neg e,if_pos rfl,if_pos rfl]
            · rw [if_neg e,if_neg e',if_neg e,if_neg e']
        · unfold IW;by_cases e:g.1[j]=s.a
          · rw [if_pos e];have:j=i:=BE hnd hj0 hi (e.trans hia.symm);subst this;obtain ⟨q1,q2⟩:=hf' k hj;rw [hjb] at q1 q2;rw [← q1,← q2];constructor
            · unfold gP mT;simp only;rw [fR (by simp;omega),if_pos rfl];rfl
            · unfold gC mT;simp only;rw [fR (by simp;omega),if_pos rfl];rfl
          · rw [if_neg e];by_cases e':g.1[j]=s.b
            · rw [if_pos e'];have:j=k:=BE hnd hj0 hj (e'.trans hjb.symm);subst this;obtain ⟨q1,q2⟩:=hf' i hi;rw [hia] at q1 q2;rw [← q1,← q2];constructor
              · unfold gP mT;simp only;rw [fR (by simp;omega),if_neg hik,fR (by omega),if_pos rfl];rfl
              · unfold gC mT;simp only;rw [fR (by simp;omega),if_neg hik,fR (by omega),if_pos rfl];rfl
            · rw [if_neg e'];have n1:j≠i:=by rintro rfl;exact e hia
              have n2:j≠k:=by rintro rfl;exact e' hjb
              obtain ⟨q1,q2⟩:=hf' j hj0;rw [← q1,← q2];constructor
              · unfold gP mT;simp only;rw [fR (by simp;omega),if_neg n2,fR (by omega),if_neg n1]
              · unfold gC mT;simp only;rw [fR (by simp;omega),if_neg n2,fR (by omega),if_neg n1]
      · cases hv
  · rintro ⟨f,d,hst,w,hw,hf,hm⟩;have wo:=ok.ws w hw;have h1:=wo.pl;have h2:=wo.cl;have hf':=(tX h1 h2).1 hf;have hxa:(gP w (g.1.idxOf s.a),gC w (g.1.idxOf s.a))=f s.a:=by
      obtain ⟨q1,q2⟩:=hf' _ hi;rw [hia] at q1 q2;exact Prod.ext q1 q2
    rcases hst with ⟨hok,rfl,rfl⟩ | ⟨hk,rfl,rfl⟩
    · refine ⟨(iO c w (g.1.idxOf s.a) s).1,fI.2 ⟨w,hw,bG.2 (.inl ?_)⟩,?_,?_⟩
      · rw [if_pos (by rw [wM (by omega),hxa];exact hok)];exact aQ.2 rfl
      · rw [wM (by omega),hxa]
        refine (tX (bs:=g.1) (w:=(w.1,w.2.1+(sA c s (f s.a)).2.1,w.2.2.set (g.1.idxOf s.a) (sA c s (f s.a)).1.2)) h1 (by simp [h2])).2 fun j hj=>?_
        obtain ⟨q1,q2⟩:=hf' j hj;unfold upd;by_cases e:g.1[j]=s.a
        · rw [if_pos e];have:j=g.1.idxOf s.a:=BE hnd hj hi (e.trans hia.symm);refine ⟨?_,?_⟩
          · rw [HP];show gP w j=_;rw [q1,e]
          · unfold gC;simp only;rw [fR (by omega),if_pos this]
        · rw [if_neg e];refine ⟨q1,?_⟩;unfold gC;simp only;rw [fR (by omega),if_neg (by rintro rfl;exact e hia)]
          exact q2
      · rw [wM (by omega),hxa];show w.2.1+_≤_;omega
    · obtain ⟨hbm,hab⟩:=hb hk;obtain ⟨hj,hjb⟩:=xL hbm;have hxb:gP w (g.1.idxOf s.b)=(f s.b).1∧gC w (g.1.idxOf s.b)=(f s.b).2:=by
        obtain ⟨q1,q2⟩:=hf' _ hj;rw [hjb] at q1 q2;exact ⟨q1,q2⟩
      have hxa':gP w (g.1.idxOf s.a)=(f s.a).1∧gC w (g.1.idxOf s.a)=(f s.a).2:=by rw [← hxa];exact ⟨rfl,rfl⟩
      refine ⟨mT w (g.1.idxOf s.a) (g.1.idxOf s.b),fI.2 ⟨w,hw,bG.2 (.inr (by rw [if_pos hk];exact aQ.2 rfl))⟩,?_,by show w.2.1≤M;omega⟩
      generalize hi':g.1.idxOf s.a=i at *;generalize hj':g.1.idxOf s.b=k at *;have hik:i≠k:=by rintro rfl;exact hab (hia.symm.trans hjb)
      refine (tX (by simp [mT,h1]) (by simp [mT,h2])).2 fun j hj0=>?_
      unfold IW;by_cases e:g.1[j]=s.a
      · rw [if_pos e];have:j=i:=BE hnd hj0 hi (e.trans hia.symm);subst this;rw [← hxb.1,← hxb.2];constructor
        · unfold gP mT;simp only;rw [fR (by simp;omega),if_neg hik,fR (by omega),if_pos rfl];rfl
        · unfold gC mT;simp only;rw [fR (by simp;omega),if_neg hik,fR (by omega),if_pos rfl];rfl
      · rw [if_neg e];by_cases e':g.1[j]=s.b
        · rw [if_pos e'];have:j=k:=BE hnd hj0 hj (e'.trans hjb.symm);subst this;rw [← hxa'.1,← hxa'.2];constructor
          · unfold gP mT;simp only;rw [fR (by simp;omega),if_pos rfl];rfl
          · unfold gC mT;simp only;rw [fR (by simp;omega),if_pos rfl];rfl
        · rw [if_neg e'];have n1:j≠i:=by rintro rfl;exact e hia
          have n2:j≠k:=by rintro rfl;exact e' hjb
          obtain ⟨q1,q2⟩:=hf' j hj0;rw [← q1,← q2];constructor
          · unfold gP mT;simp only;rw [fR (by simp;omega),if_neg n2,fR (by omega),if_neg n1]
          · unfold gC mT;simp only;rw [fR (by simp;omega),if_neg n2,fR (by omega),if_neg n1]
theorem Q2 {g:G}{f f':As}{M:Int}(h:∀ b,b∈g.1→f b=f' b):sE g f M↔sE g f' M:=by
  unfold sE lP;rw [iG (g:=fun b=>(f' b).1) (fun b hb=>by rw [h b hb]),iG (g:=fun b=>(f' b).2) (fun b hb=>by rw [h b hb])]
theorem tC {f f':As}:∀ {gs:List G}{M:Int},(∀ g,g∈gs→∀ b,b∈g.1→f b=f' b)→(Sem gs f M↔Sem gs f' M)
  | [],M,_=>Iff.rfl
  | g::gs,M,h=>by
    simp only [Sem,Q2 (h g aR),tC (fun x hx=>h x (aM _ hx))]
end Go.Ld
namespace Go.Proofs.YtmmkhmilpeodnaaGreat
open Go Go.Ab
section
variable {P:Program}{env:eH}{h:Hp}{d:Option Nat}{ty:TypeId}{pos:String}{af:Array Edge}{g:Option (Nat × Bool)}
theorem zN4 {t t2:TypeId}{x y:Operand}{a b:Int}(hx:evu env x=some (.i a)) (hy:evu env y=some (.i b)) (e:b<a):bX P ⟨d,.binOp .gtr t x y t2,ty,pos,af,g⟩ env h 0 (fun _=>.b true) (fun _=>[]):=by
  have:=eE (P:=P) (d:=d) (ty:=ty) (pos:=pos) (af:=af) (g:=g) (h:=h) (t:=t) (t2:=t2) hx hy;simpa [show decide (a > b)=true from decide_eq_true (by omega)] using this
theorem GW {t t2:TypeId}{x y:Operand}{a b:Int}(hx:evu env x=some (.i a)) (hy:evu env y=some (.i b)) (e:a≤b):bX P ⟨d,.binOp .gtr t x y t2,ty,pos,af,g⟩ env h 0 (fun _=>.b false) (fun _=>[]):=by
  have:=eE (P:=P) (d:=d) (ty:=ty) (pos:=pos) (af:=af) (g:=g) (h:=h) (t:=t) (t2:=t2) hx hy;simpa [show decide (a > b)=false from decide_eq_false (by omega)] using this
theorem E3 {t t2:TypeId}{x y:Operand}{a b:Int}(hx:evu env x=some (.i a)) (hy:evu env y=some (.i b)) (e:a<b):bX P ⟨d,.binOp .lss t x y t2,ty,pos,af,g⟩ env h 0 (fun _=>.b true) (fun _=>[]):=by
  have:=aI (P:=P) (d:=d) (ty:=ty) (pos:=pos) (af:=af) (g:=g) (h:=h) (t:=t) (t2:=t2) hx hy;simpa [show decide (a<b)=true from decide_eq_true (by omega)] using this
theorem Y6 {t t2:TypeId}{x y:Operand}{a b:Int}(hx:evu env x=some (.i a)) (hy:evu env y=some (.i b)) (e:b≤a):bX P ⟨d,.binOp .lss t x y t2,ty,pos,af,g⟩ env h 0 (fun _=>.b false) (fun _=>[]):=by
  have:=aI (P:=P) (d:=d) (ty:=ty) (pos:=pos) (af:=af) (g:=g) (h:=h) (t:=t) (t2:=t2) hx hy;simpa [show decide (a<b)=false from decide_eq_false (by omega)] using this
theorem zN5 {t t2:TypeId}{x y:Operand}{a b:Int}(hx:evu env x=some (.i a)) (hy:evu env y=some (.i b)) (e:b≤a):bX P ⟨d,.binOp .geq t x y t2,ty,pos,af,g⟩ env h 0 (fun _=>.b true) (fun _=>[]):=by
  have:=gH (P:=P) (d:=d) (ty:=ty) (pos:=pos) (af:=af) (g:=g) (h:=h) (t:=t) (t2:=t2) hx hy;simpa [show decide (a ≥ b)=true from decide_eq_true (by omega)] using this
theorem zN6 {t t2:TypeId}{x y:Operand}{a b:Int}(hx:evu env x=some (.i a)) (hy:evu env y=some (.i b)) (e:a<b):bX P ⟨d,.binOp .geq t x y t2,ty,pos,af,g⟩ env h 0 (fun _=>.b false) (fun _=>[]):=by
  have:=gH (P:=P) (d:=d) (ty:=ty) (pos:=pos) (af:=af) (g:=g) (h:=h) (t:=t) (t2:=t2) hx hy;simpa [show decide (a ≥ b)=false from decide_eq_false (by omega)] using this
end
end Go.Proofs.YtmmkhmilpeodnaaGreat
namespace Go.Proofs.YtmmkhmilpeodnaaGreat
open Go Go.Ab Go.Ld
attribute [local irreducible] VC AW bX aT
set_option maxHeartbeats 4000000
theorem EI (x:Int):aT Tryz.prog 136 [.i x] [] (.b false) []:=by
  refine bK T Tryz.func136 rfl rfl rfl rfl ?_
  (repeat' (first|refine wS ?_|refine wR ?_|(refine rg 0 (aV ?_))|(refine rg 1 (dK rfl (vV (eX rfl rfl) (aV ?_))))|refine nZ ?_));all_goals first | (exfalso;omega) | exact cH (.inl rfl) rfl (mB (by simp))
theorem FC (x y:Int):aT Tryz.prog 100 [.i x,.i y] [] (.i (cI x y)) []:=by
  by_cases h1:x<y
  · rw [show cI x y = -1 by unfold cI;rw [if_pos h1]]
    refine bK T Tryz.func100 rfl rfl rfl rfl ?_
    (repeat' (first|refine wS ?_|refine wK ?_|refine wR ?_|refine wU ?_|(refine wC rfl ?_ ?_<;>(intro hb;(try simp only [nm] at hb);try (exfalso;omega)))|(refine rg 0 (aV ?_))|(refine rg 1 (mW rfl (vV (kC (EI x)) (aV ?_))))|(refine rg 2 (mW rfl (vV (kC (EI y)) (aV ?_))))|(refine rg 3 (mV ?_))|(refine rg 7 (mV ?_))|(refine rg 9 (dK rfl (vV (aI rfl rfl) ?_)))|(refine rg 10 (aV ?_))|refine nZ ?_));all_goals first | (exfalso;omega) | exact rQ
  · by_cases h2:y<x
    · rw [show cI x y=1 by unfold cI;rw [if_neg h1,if_pos h2]]
      refine bK T Tryz.func100 rfl rfl rfl rfl ?_
      (repeat' (first|refine wS ?_|refine wK ?_|refine wR ?_|refine wU ?_|(refine wC rfl ?_ ?_<;>(intro hb;(try simp only [nm] at hb);try (exfalso;omega)))|(refine rg 0 (aV ?_))|(refine rg 1 (mW rfl (vV (kC (EI x)) (aV ?_))))|(refine rg 2 (mW rfl (vV (kC (EI y)) (aV ?_))))|(refine rg 3 (mV ?_))|(refine rg 7 (mV ?_))|(refine rg 9 (dK rfl (vV (aI rfl rfl) ?_)))|(refine rg 11 (dK rfl (vV (eE rfl rfl) ?_)))|(refine rg 12 (aV ?_))|refine nZ ?_));all_goals first | (exfalso;omega) | exact rQ
    · rw [show cI x y=0 by unfold cI;rw [if_neg h1,if_neg h2]]
      refine bK T Tryz.func100 rfl rfl rfl rfl ?_
      (repeat' (first|refine wS ?_|refine wK ?_|refine wR ?_|refine wU ?_|(refine wC rfl ?_ ?_<;>(intro hb;(try simp only [nm] at hb);try (exfalso;omega)))|(refine rg 0 (aV ?_))|(refine rg 1 (mW rfl (vV (kC (EI x)) (aV ?_))))|(refine rg 2 (mW rfl (vV (kC (EI y)) (aV ?_))))|(refine rg 3 (mV ?_))|(refine rg 7 (mV ?_))|(refine rg 9 (dK rfl (vV (aI rfl rfl) ?_)))|(refine rg 11 (dK rfl (vV (eE rfl rfl) ?_)))|(refine rg 13 (aV ?_))|refine nZ ?_));all_goals first | (exfalso;omega) | exact rQ
theorem yD1 (x y:Int):aT Tryz.prog 98 [.rowE (ints [x,y]) 1] [] (.i (T7 x y)) []:=by
  have hlen:(ints [x,y]).length=2:=rfl;refine bK T Tryz.func98 rfl rfl rfl rfl ?_
  (repeat' (first|refine wS ?_|refine wB ?_|(refine rg 0 (aV ?_))|(refine rg 1 (aV ?_))|(refine rg 2 (mW rfl (qW T rfl (mV ?_))))|refine nZ ?_));refine cO (X:={k:Nat // k≤2∧(1≤k→x=0)∧(2≤k→y=0)}) (fun k=>[(0,.rowE (ints [x,y]) 1),(3,.i 0),(6,.rowE (ints [x,y]) 1),(7,.i (ints [x,y]).length),(8,.i k.1)]) (fun _=>[]) (fun k=>2-k.1) ⟨0,by omega,by omega,by omega⟩ (fA []) ?_
  rintro ⟨k,hk,h1,h2⟩;dsimp only;by_cases hlt:k<2
  · have hg:∃ z,(ints [x,y])[k]? = some [AV.i z]∧(k=0→z=x)∧(k=1→z=y):=by
      rcases (by omega:k=0∨k=1) with rfl | rfl
      · exact ⟨x,rfl,fun _=>rfl,by omega⟩
      · exact ⟨y,rfl,by omega,fun _=>rfl⟩
    obtain ⟨z,hg,hz1,hz2⟩:=hg;by_cases h0:z=0
    · (repeat' (first|refine wS ?_|refine wB ?_|refine wK ?_|(refine wC rfl (fun hb=>?_) (fun hb=>?_) <;> (((try simp only [nm] at hb);try (exfalso;omega))))|(refine rg 3 (vV (aI rfl rfl) ?_))|(refine rg 4 (vV (ix T rfl (by omega) (ints_len [x,y]) hg) (lW T rfl (aV ?_))))|(refine rg 5 (dK rfl (vV (eX rfl rfl) ?_)))|(refine rg 7 (vV (bY rfl rfl (by omega) (by omega)) (mV ?_)))|(refine nZ ?_)));all_goals first | (exfalso;omega) | exact ⟨⟨k+1,by omega,by omega,by omega⟩,by dsimp only;omega,fA []⟩
    · (repeat' (first|refine wS ?_|refine wB ?_|refine wK ?_|refine wR ?_|(refine wC rfl (fun hb=>?_) (fun hb=>?_) <;> (((try simp only [nm] at hb);try (exfalso;omega))))|(refine rg 3 (vV (aI rfl rfl) ?_))|(refine rg 4 (vV (ix T rfl (by omega) (ints_len [x,y]) hg) (lW T rfl (aV ?_))))|(refine rg 5 (dK rfl (vV (eX rfl rfl) ?_)))|(refine rg 6 (mW rfl (aV ?_)))|(refine nZ ?_)));all_goals first | (exfalso;omega) | exact cH (.inl rfl) rfl (by rw [show T7 x y=z by unfold T7;split <;> omega];rfl)
  · (repeat' (first|refine wS ?_|refine wR ?_|refine wE ?_|(refine wC rfl (fun hb=>?_) (fun hb=>?_) <;> (((try simp only [nm] at hb);try (exfalso;omega))))|(refine rg 3 (vV (aI rfl rfl) ?_))|(refine rg 8 (mW rfl (aV ?_)))|(refine nZ ?_)));all_goals first | (exfalso;omega) | exact cH (.inl rfl) rfl (by rw [show T7 x y=0 by unfold T7;split <;> omega];rfl)
theorem yE9 {a b:List Int}{k:Nat}(h1:k<a.length) (h2:k<b.length):cL (a.drop k) (b.drop k)=T7 (cI a[k] b[k]) (cL (a.drop (k+1)) (b.drop (k+1))):=by
  rw [bB h1,bB h2];rfl
theorem zQ3 {a b:List Int}{k:Nat}(h1:k<a.length) (h2:k=b.length):cL (a.drop k) (b.drop k)=1:=by
  rw [bB h1,dJ (l:=b) (by omega)];rfl
theorem zQ2 {a b:List Int}{k:Nat}(h1:k=a.length) (h2:k<b.length):cL (a.drop k) (b.drop k) = -1:=by
  rw [dJ (l:=a) (by omega),bB h2];rfl
theorem zQ1 {a b:List Int}{k:Nat}(h1:k=a.length) (h2:k=b.length):cL (a.drop k) (b.drop k)=0:=by
  rw [dJ (l:=a) (by omega),dJ (l:=b) (by omega)];rfl
theorem YP (b:Int):T7 0 b=b:=rfl
theorem NZ {a b:Int}(h:¬ a=0):T7 a b=a:=by unfold T7;rw [if_neg h]
theorem UV (a b:List Int) (ha:a.length≤9223372036854775807) (hb:b.length≤9223372036854775807):aT Tryz.prog 133 [.rowE (ints a) 1,.rowE (ints b) 1] [] (.i (cL a b)) []:=by
  have hla:(ints a).length=a.length:=by simp
  have hlb:(ints b).length=b.length:=by simp
  refine bK T Tryz.func133 rfl rfl rfl rfl ?_
  (repeat' (first|refine wS ?_|refine wB ?_|(refine rg 0 (aV ?_))|(refine rg 1 (mW rfl (qW T rfl (mV ?_))))|refine nZ ?_));refine cO (X:={k:Nat // k≤a.length∧k≤b.length∧cL a b=cL (a.drop k) (b.drop k)}) (fun k=>[(0,.rowE (ints a) 1),(1,.rowE (ints b) 1),(9,.rowE (ints a) 1),(10,.i (ints a).length),(11,.i k.1)]) (fun _=>[]) (fun k=>a.length-k.1) ⟨0,by omega,by omega,rfl⟩ (fA []) ?_
  rintro ⟨k,hk,hkb,he⟩;dsimp only;by_cases h1:k<a.length
  · have g1:=mN h1;by_cases h2:k<b.length
    · have g2:=mN h2;have e1:=yE9 h1 h2;have hc:=FC a[k] b[k];generalize a[k]=x at *;generalize b[k]=y at *;by_cases h0:cI x y=0
      · rw [h0] at hc e1;rw [YP] at e1
        (repeat' (first|refine wS ?_|refine wB ?_|refine wK ?_|refine wU ?_|(refine wC rfl ?_ ?_<;>(intro hb;(try simp only [nm] at hb);try (exfalso;omega)))|(refine rg 2 (vV (aI rfl rfl) ?_))|(refine rg 3 (mW rfl (vV (ix T rfl (by omega) (ints_len a) g1) (lW T rfl (oM ?_)))))|(refine rg 4 (dK rfl (qW T rfl (vV (gH rfl rfl) ?_))))|(refine rg 6 (dK rfl (vV (ix T rfl (by omega) (ints_len b) g2) (lW T rfl (aV ?_)))))|(refine rg 7 (dK rfl (vV (kC (hc)) (aV ?_))))|(refine rg 8 (mW rfl (vV (eX rfl rfl) ?_)))|(refine rg 10 (vV (bY rfl rfl (by omega) (by omega)) (mV ?_)))|refine nZ ?_));all_goals first | (exfalso;omega) | exact ⟨⟨k+1,by omega,by omega,he.trans e1⟩,by dsimp only;omega,fA []⟩
      · rw [NZ h0] at e1;generalize cI x y=q at *
        (repeat' (first|refine wS ?_|refine wB ?_|refine wK ?_|refine wR ?_|(refine wC rfl ?_ ?_<;>(intro hb;(try simp only [nm] at hb);try (exfalso;omega)))|(refine rg 2 (vV (aI rfl rfl) ?_))|(refine rg 3 (mW rfl (vV (ix T rfl (by omega) (ints_len a) g1) (lW T rfl (oM ?_)))))|(refine rg 4 (dK rfl (qW T rfl (vV (gH rfl rfl) ?_))))|(refine rg 6 (dK rfl (vV (ix T rfl (by omega) (ints_len b) g2) (lW T rfl (aV ?_)))))|(refine rg 7 (dK rfl (vV (kC (hc)) (aV ?_))))|(refine rg 8 (mW rfl (vV (eX rfl rfl) ?_)))|(refine rg 9 (mW rfl (aV ?_)))|refine nZ ?_));all_goals first | (exfalso;omega) | exact cH (.inl rfl) rfl (by rw [he,e1];rfl)
    · have e1:=zQ3 h1 (show k=b.length by omega)
      (repeat' (first|refine wS ?_|refine wB ?_|refine wK ?_|refine wR ?_|(refine wC rfl ?_ ?_<;>(intro hb;(try simp only [nm] at hb);try (exfalso;omega)))|(refine rg 2 (vV (aI rfl rfl) ?_))|(refine rg 3 (mW rfl (vV (ix T rfl (by omega) (ints_len a) g1) (lW T rfl (oM ?_)))))|(refine rg 4 (dK rfl (qW T rfl (vV (gH rfl rfl) ?_))))|(refine rg 5 (aV ?_))|refine nZ ?_));all_goals first | (exfalso;omega) | exact cH (.inl rfl) rfl (by rw [he,e1];rfl)
  · by_cases h2:k<b.length
    · have e1:=zQ2 (show k=a.length by omega) h2
      (repeat' (first|refine wS ?_|refine wR ?_|refine wE ?_|(refine wC rfl ?_ ?_<;>(intro hb;(try simp only [nm] at hb);try (exfalso;omega)))|(refine rg 2 (vV (aI rfl rfl) ?_))|(refine rg 11 (mW rfl (qW T rfl (mW rfl (qW T rfl (vV (aI rfl rfl) ?_))))))|(refine rg 12 (aV ?_))|refine nZ ?_));all_goals first | (exfalso;omega) | exact cH (.inl rfl) rfl (by rw [he,e1];rfl)
    · have e1:=zQ1 (show k=a.length by omega) (show k=b.length by omega)
      (repeat' (first|refine wS ?_|refine wK ?_|refine wR ?_|refine wE ?_|(refine wC rfl ?_ ?_<;>(intro hb;(try simp only [nm] at hb);try (exfalso;omega)))|(refine rg 2 (vV (aI rfl rfl) ?_))|(refine rg 11 (mW rfl (qW T rfl (mW rfl (qW T rfl (vV (aI rfl rfl) ?_))))))|(refine rg 13 (aV ?_))|refine nZ ?_));all_goals first | (exfalso;omega) | exact cH (.inl rfl) rfl (by rw [he,e1];rfl)
theorem jV (l:List SP):∀ e,e∈cT l→e.length=2:=by intro e he;obtain ⟨n,_,rfl⟩:=bE.1 he;rfl
theorem DJ {l:List SP}{k:Nat}(h:k<l.length):(cT l)[k]? = some [AV.i l[k].1,AV.i l[k].2]:=by simp [h]
theorem YO (x y:SP):aT Tryz.prog 135 [jC x.1 x.2,jC y.1 y.2] [] (.i (cS x y)) []:=by
  have h1:=FC x.1 y.1;have h2:=FC x.2 y.2;have h3:=yD1 (cI x.1 y.1) (cI x.2 y.2);refine bK T Tryz.func135 rfl rfl rfl rfl ?_
  (repeat' (first|refine wS ?_|refine wR ?_|(refine rg 0 (bN (cC rfl rfl) rfl (bN (cC rfl rfl) rfl (aV ?_))))|(refine bQ (id:=1) 17 [[],[0],[],[2],rN 4,[],[5],[],[7],rN 9,rN 10,rN 11] (rM 5 12) [[],[],[5,6],[5,6],[],rM 5 5,rM 5 5,rM 5 7,rM 5 7,[],[],[]] cF rfl (by decide +kernel) (dP T rfl (dO T rfl (dP T rfl (dO T rfl (dV rfl (kC (h1)) (dP T rfl (dO T rfl (dP T rfl (dL T ?_)))))))));refine dV rfl (kC (h2)) (pX rfl rfl rfl (by exact bD T rfl rfl (by decide) (by decide) rfl rfl rfl) rfl ?_);refine dV rfl (by exact eJ rfl rfl (h3) (by ((repeat (first|exact .nil|exact .v _|refine .cons ?_ ?_|refine .sl rfl (by simp) ?_));done)) rfl rfl) ?_;(all_goals (refine dE ?_;refine aV ?_)))|refine nZ ?_));all_goals first | (exfalso;omega) | exact rQ
theorem yF0 {a b:List SP}{k:Nat}(h1:k<a.length) (h2:k<b.length):cB (a.drop k) (b.drop k)=T7 (cS a[k] b[k]) (cB (a.drop (k+1)) (b.drop (k+1))):=by
  rw [bB h1,bB h2];rfl
theorem zQ6 {a b:List SP}{k:Nat}(h1:k<a.length) (h2:k=b.length):cB (a.drop k) (b.drop k)=1:=by
  rw [bB h1,dJ (l:=b) (by omega)];rfl
theorem zQ5 {a b:List SP}{k:Nat}(h1:k=a.length) (h2:k<b.length):cB (a.drop k) (b.drop k) = -1:=by
  rw [dJ (l:=a) (by omega),bB h2];rfl
theorem zQ4 {a b:List SP}{k:Nat}(h1:k=a.length) (h2:k=b.length):cB (a.drop k) (b.drop k)=0:=by
  rw [dJ (l:=a) (by omega),dJ (l:=b) (by omega)];rfl
abbrev yD4:AV:=.clo (.func 135) [] []
theorem OP (a b:List SP) (ha:a.length≤9223372036854775807) (hb:b.length≤9223372036854775807):aT Tryz.prog 134 [.rowE (cT a) 2,.rowE (cT b) 2,yD4] [] (.i (cB a b)) []:=by
  have hla:(cT a).length=a.length:=by simp
  have hlb:(cT b).length=b.length:=by simp
  refine bK T Tryz.func134 rfl rfl rfl rfl ?_
  (repeat' (first|refine wS ?_|refine wB ?_|(refine rg 0 (aV ?_))|(refine rg 1 (mW rfl (qW T rfl (mV ?_))))|refine nZ ?_));refine cO (X:={k:Nat // k≤a.length∧k≤b.length∧cB a b=cB (a.drop k) (b.drop k)}) (fun k=>[(0,.rowE (cT a) 2),(1,.rowE (cT b) 2),(2,yD4),(11,.rowE (cT a) 2),(12,.i (cT a).length),(13,.i k.1)]) (fun _=>[]) (fun k=>a.length-k.1) ⟨0,by omega,by omega,rfl⟩ (fA []) ?_
  rintro ⟨k,hk,hkb,he⟩;dsimp only;by_cases h1:k<a.length
  · have g1:=DJ h1;by_cases h2:k<b.length
    · have g2:=DJ h2;have e1:=yF0 h1 h2;have hc:=YO a[k] b[k];generalize a[k]=x at *;generalize b[k]=y at *;by_cases h0:cS x y=0
      · rw [h0] at hc e1;rw [YP] at e1
        (repeat' (first|refine wS ?_|refine wB ?_|refine wK ?_|refine wU ?_|(refine wC rfl ?_ ?_<;>(intro hb;(try simp only [nm] at hb);try (exfalso;omega)))|(refine rg 2 (vV (aI rfl rfl) ?_))|(refine rg 3 (mW rfl (vV (ix T rfl (by omega) (jV a) g1) (lW T rfl (bN (bI T rfl) rfl (aW rfl (aL T rfl rfl rfl rfl rfl rfl (by decide) rfl ?_)))))))|(refine rg 4 (dK rfl (qW T rfl (vV (gH rfl rfl) ?_))))|(refine rg 6 (dK rfl (vV (ix T rfl (by omega) (jV b) g2) (lW T rfl (bN (bI T rfl) rfl (aL T rfl rfl rfl rfl rfl rfl (by decide) rfl ?_))))))|(refine rg 7 (mW rfl (lW T rfl (lW T rfl (vV (kC (hc)) (aV ?_))))))|(refine rg 8 (mW rfl (vV (eX rfl rfl) ?_)))|(refine rg 10 (vV (bY rfl rfl (by omega) (by omega)) (mV ?_)))|refine nZ ?_));all_goals first | (exfalso;omega) | exact ⟨⟨k+1,by omega,by omega,he.trans e1⟩,by dsimp only;omega,fA []⟩
      · rw [NZ h0] at e1;generalize cS x y=q at *
        (repeat' (first|refine wS ?_|refine wB ?_|refine wK ?_|refine wR ?_|(refine wC rfl ?_ ?_<;>(intro hb;(try simp only [nm] at hb);try (exfalso;omega)))|(refine rg 2 (vV (aI rfl rfl) ?_))|(refine rg 3 (mW rfl (vV (ix T rfl (by omega) (jV a) g1) (lW T rfl (bN (bI T rfl) rfl (aW rfl (aL T rfl rfl rfl rfl rfl rfl (by decide) rfl ?_)))))))|(refine rg 4 (dK rfl (qW T rfl (vV (gH rfl rfl) ?_))))|(refine rg 6 (dK rfl (vV (ix T rfl (by omega) (jV b) g2) (lW T rfl (bN (bI T rfl) rfl (aL T rfl rfl rfl rfl rfl rfl (by decide) rfl ?_))))))|(refine rg 7 (mW rfl (lW T rfl (lW T rfl (vV (kC (hc)) (aV ?_))))))|(refine rg 8 (mW rfl (vV (eX rfl rfl) ?_)))|(refine rg 9 (mW rfl (aV ?_)))|refine nZ ?_));all_goals first | (exfalso;omega) | exact cH (.inl rfl) rfl (by rw [he,e1];rfl)
    · have e1:=zQ6 h1 (show k=b.length by omega)
      (repeat' (first|refine wS ?_|refine wB ?_|refine wK ?_|refine wR ?_|(refine wC rfl ?_ ?_<;>(intro hb;(try simp only [nm] at hb);try (exfalso;omega)))|(refine rg 2 (vV (aI rfl rfl) ?_))|(refine rg 3 (mW rfl (vV (ix T rfl (by omega) (jV a) g1) (lW T rfl (bN (bI T rfl) rfl (aW rfl (aL T rfl rfl rfl rfl rfl rfl (by decide) rfl ?_)))))))|(refine rg 4 (dK rfl (qW T rfl (vV (gH rfl rfl) ?_))))|(refine rg 5 (aV ?_))|refine nZ ?_));all_goals first | (exfalso;omega) | exact cH (.inl rfl) rfl (by rw [he,e1];rfl)
  · by_cases h2:k<b.length
    · have e1:=zQ5 (show k=a.length by omega) h2
      (repeat' (first|refine wS ?_|refine wR ?_|refine wE ?_|(refine wC rfl ?_ ?_<;>(intro hb;(try simp only [nm] at hb);try (exfalso;omega)))|(refine rg 2 (vV (aI rfl rfl) ?_))|(refine rg 11 (mW rfl (qW T rfl (mW rfl (qW T rfl (vV (aI rfl rfl) ?_))))))|(refine rg 12 (aV ?_))|refine nZ ?_));all_goals first | (exfalso;omega) | exact cH (.inl rfl) rfl (by rw [he,e1];rfl)
    · have e1:=zQ4 (show k=a.length by omega) (show k=b.length by omega)
      (repeat' (first|refine wS ?_|refine wK ?_|refine wR ?_|refine wE ?_|(refine wC rfl ?_ ?_<;>(intro hb;(try simp only [nm] at hb);try (exfalso;omega)))|(refine rg 2 (vV (aI rfl rfl) ?_))|(refine rg 11 (mW rfl (qW T rfl (mW rfl (qW T rfl (vV (aI rfl rfl) ?_))))))|(refine rg 13 (aV ?_))|refine nZ ?_));all_goals first | (exfalso;omega) | exact cH (.inl rfl) rfl (by rw [he,e1];rfl)
abbrev MZ (w:W):AV:=.agg (wA w)
def O1 (w:W):Prop:=w.1.length≤1000000∧w.2.2.length≤1000000
theorem QT (a b:W) (ha:O1 a) (hb:O1 b):aT Tryz.prog 99 [MZ a,MZ b] [] (.i (oS a b)) []:=by
  obtain ⟨p,m,c⟩:=a;obtain ⟨p',m',c'⟩:=b;unfold O1 at ha hb;dsimp only at ha hb;have h1:=UV p p' (by omega) (by omega)
  have h2:=OP c c' (by omega) (by omega)
  have e:oS (p,m,c) (p',m',c')=T7 (cL p p') (cB c c'):=rfl;rw [e];generalize cL p p'=x at *;generalize cB c c'=y at *;by_cases h0:x=0
  · subst h0;rw [YP];refine bK T Tryz.func99 rfl rfl rfl rfl ?_
    (repeat' (first|refine wS ?_|refine wK ?_|refine wR ?_|refine wU ?_|(refine rg 0 (bN (cC rfl rfl) rfl (bN (cC rfl rfl) rfl (aV ?_))))|(refine rg 1 (gB T rfl (gB T rfl (vV (kC (h1)) (aV ?_)))))|(refine rg 2 (mW rfl (vV (eX rfl rfl) ?_)))|(refine rg 4 (gB T rfl (gB T rfl (vV (kC (h2)) (aV ?_)))))|refine nZ ?_));all_goals first | (exfalso;omega) | exact rQ
  · rw [NZ h0];refine bK T Tryz.func99 rfl rfl rfl rfl ?_
    (repeat' (first|refine wS ?_|refine wR ?_|(refine wC rfl ?_ ?_<;>(intro hb;(try simp only [nm] at hb);try (exfalso;omega)))|(refine rg 0 (bN (cC rfl rfl) rfl (bN (cC rfl rfl) rfl (aV ?_))))|(refine rg 1 (gB T rfl (gB T rfl (vV (kC (h1)) (aV ?_)))))|(refine rg 2 (mW rfl (vV (eX rfl rfl) ?_)))|(refine rg 3 (mW rfl (aV ?_)))|refine nZ ?_));all_goals first | (exfalso;omega) | exact rQ
theorem xF (a b:W) (ha:O1 a) (hb:O1 b):aT Tryz.prog 97 [MZ a,MZ b] [] (.i (eY a b)) []:=by
  have h1:=QT a b ha hb;have h2:=FC a.2.1 b.2.1;have h3:=yD1 (oS a b) (cI a.2.1 b.2.1);refine bK T Tryz.func97 rfl rfl rfl rfl ?_
  (repeat' (first|refine wS ?_|refine wR ?_|(refine rg 0 (bN (cC rfl rfl) rfl (bN (cC rfl rfl) rfl (aV ?_))))|(refine bQ (id:=1) 15 [[],[],[0,1],[],[3],[],[5],rN 7,rN 8,rN 9] (rM 5 10) [[],[5],[],[5,6,7],[5,6,7],rM 5 5,rM 5 5,[],[],[]] cF rfl (by decide +kernel) (dO T rfl (dO T rfl (dV rfl (kC (h1)) (dP T rfl (dO T rfl (dP T rfl (dO T rfl (dV rfl (kC (h2)) (pX rfl rfl rfl (by exact bD T rfl rfl (by decide) (by decide) rfl rfl rfl) rfl ?_)))))))));refine dV rfl (by exact eJ rfl rfl (h3) (by ((repeat (first|exact .nil|exact .v _|refine .cons ?_ ?_|refine .sl rfl (by simp) ?_));done)) rfl rfl) ?_;(all_goals (refine dE ?_;refine aV ?_)))|refine nZ ?_));all_goals first | (exfalso;omega) | exact rQ
theorem BA (a b:W) (ha:O1 a) (hb:O1 b):aT Tryz.prog 102 [MZ a,MZ b] [] (.b (G6 a b)) []:=by
  have h1:=QT a b ha hb;refine bK T Tryz.func102 rfl rfl rfl rfl ?_
  (repeat' (first|refine wS ?_|refine wR ?_|(refine rg 0 (bN (cC rfl rfl) rfl (bN (cC rfl rfl) rfl (aV ?_))))|(refine rg 1 (lW T rfl (lW T rfl (vV (kC (h1)) (vV (eQ rfl rfl) (aV ?_))))))|refine nZ ?_));all_goals first | (exfalso;omega) | exact rQ
end Go.Proofs.YtmmkhmilpeodnaaGreat
namespace Go.Ld
open Go.Ab Go.Proofs.YtmmkhmilpeodnaaGreat
theorem jX (l:List W):∀ e,e∈fH l→e.length=3:=by intro e he;obtain ⟨n,_,rfl⟩:=bE.1 he;rfl
theorem fJ (l:List W):(fH l).length=l.length:=aF _
theorem pM {L:List W}{j:Int}{i:Nat}{x:W}(h:L[i]? = some x) (e:j=i):(fH L)[0+j.toNat]? = some (wA x):=by
  subst e;simp [h]
theorem wZ {L:List W}{j:Int}{i:Nat}{x:W}(e:j=i):(fH L).set (0+j.toNat) (wA x)=fH (L.set i x):=by
  subst e;simp [fH,sJ]
theorem nU {α:Type}(A B:List α) (x:α){n:Nat}(h:n=A.length):(A++x::B)[n]? = some x:=by subst h;simp
theorem oC {α:Type}(A B:List α) (x y:α){n:Nat}(h:n=A.length):(A++x::B).set n y=A++y::B:=by subst h;simp
abbrev Up (l:List W):Prop:=l.Pairwise (fun a b=>eY a b≤0)
theorem X0 {l:List W}(h:Up l):eK eY l=l:=(H7 jT (.refl _) h).symm
theorem J6 {l m:List W}(hp:m.Perm l) (h:Up m):eK eY l=m:=(H7 jT hp h).symm
theorem E6 {a b:W}(h:eY a b<0):eY a b≤0:=by omega
theorem NF {S1 S2:List W}{x:W}(h:Up (S1++S2)) (h1:∀ y,y∈S1→eY y x≤0) (h2:∀ y,y∈S2→eY x y≤0):Up (S1++x::S2):=by
  obtain ⟨a,b,c⟩:=fB.1 h;refine fB.2 ⟨a,fG.2 ⟨h2,b⟩,fun p hp q hq=>?_⟩
  rcases bO.1 hq with rfl | hq
  · exact h1 p hp
  · exact c p hp q hq
theorem zU1 {A B:List W}(h1:Up A) (h2:Up B) (h3:∀ a b,a∈A→b∈B→eY a b≤0):Up (A++B):=fB.2 ⟨h1,h2,fun a ha b hb=>h3 a b ha hb⟩
theorem PS {A:List W}{y:W}(h:Up (A++[y])):∀ z,z∈A++[y]→eY z y≤0:=by
  intro z hz;obtain ⟨a,b,c⟩:=fB.1 h;rcases bG.1 hz with hz | hz
  · exact c z hz y (by simp)
  · rw [aQ.1 hz,jT.rfl'];exact dC _
theorem zH4 {B:List W}{y:W}(h:Up (y::B)):∀ z,z∈y::B→eY y z≤0:=by
  intro z hz;rcases bO.1 hz with rfl | hz
  · rw [jT.rfl'];exact dC _
  · exact (fG.1 h).1 z hz
theorem yG1 {a b:W}(h:¬ eY a b<0):eY b a≤0:=by have:=jT.neg a b;omega
def VN (l:List W) (a b:Nat):List W:=l.take a++(eK eY ((l.drop a).take (b-a))++l.drop b)
theorem jI {l:List W}:(eK eY l).length=l.length:=(dS eY l).length_eq
theorem WP {l:List W}{a:Nat}(h:a≤l.length):VN l a a=l:=by unfold VN;simp [eK]
theorem zI3 {l:List W}{a:Nat}(h:a<l.length):VN l a (a+1)=l:=by
  unfold VN;rw [show a+1-a=1 by omega,bB h]
  simp only [oO,mD,eK,CW];rw [List.singleton_append,← bB h,bR]
structure zT2 (l:List W) (a i:Nat) (x:W) (q:List W × List W):Prop where
  eq:q.1++q.2=eK eY ((l.drop a).take (i-a))
  gt:∀ y,y∈q.2→eY x y<0
def wF (l:List W) (a i:Nat) (x:W) (q:List W × List W):List W:=(l.take a++q.1)++x::(q.2++l.drop (i+1))
theorem UE {l:List W}{a i:Nat}{x:W}(h1:a<i) (h2:i<l.length) (hx:l[i]? = some x):zT2 l a i x (eK eY ((l.drop a).take (i-a)),[])∧VN l a i=wF l a i x (eK eY ((l.drop a).take (i-a)),[]):=by
  refine ⟨⟨by simp,fun y hy=>by cases hy⟩,?_⟩
  unfold VN wF;have:l.drop i=x::l.drop (i+1):=by
    rw [aA h2] at hx;rw [bB h2];cases hx;rfl
  simp [this]
theorem RG {l:List W}{a i:Nat}{x:W}{q:List W × List W}(h:zT2 l a i x q) (h1:a<i) (h2:i<l.length):q.1.length+q.2.length=i-a:=by
  have:=congrArg List.length h.eq;simp only [aJ,jI,bL,eD] at this;omega
theorem ZQ {l:List W}{a i:Nat}{x:W}{q:List W × List W}(h:zT2 l a i x q) (h1:a<i) (h2:i<l.length):(wF l a i x q).length=l.length:=by
  have:=RG h h1 h2;unfold wF;simp only [aJ,List.length_cons,bL,eD];omega
theorem ZN {l:List W}{a i:Nat}{x:W}{q:List W × List W}(h:zT2 l a i x q) (h1:a<i) (h2:i<l.length) (hx:l[i]? = some x) (hs:∀ y,y∈q.1→eY y x≤0):wF l a i x q=VN l a (i+1):=by
  unfold wF VN;have e:(l.drop a).take (i+1-a)=(l.drop a).take (i-a)++[x]:=by
    rw [show i+1-a=(i-a)+1 by omega,zG1]
    rw [eU,show a+(i-a)=i by omega,hx];rfl
  rw [e];have hp:(q.1++x::q.2).Perm ((l.drop a).take (i-a)++[x]):=by
    refine List.perm_middle.trans ?_;rw [h.eq];exact ((dS eY _).cons x).trans (N7 _ _).symm
  have hu:Up (q.1++x::q.2):=NF (by rw [h.eq];exact lX jT _) hs (fun y hy=>E6 (h.gt y hy))
  rw [J6 hp hu];simp
theorem zM3 {l:List W}{a i:Nat}{x y:W}{S:List W}{q:List W × List W}(h:zT2 l a i x q) (e:q.1=S++[y]) (hc:¬ eY x y<0):∀ z,z∈q.1→eY z x≤0:=by
  have hu:Up (q.1++q.2):=by rw [h.eq];exact lX jT _
  have hu1:Up q.1:=(fB.1 hu).1;rw [e] at hu1;intro z hz;rw [e] at hz;exact jT.le_tr (PS hu1 z hz) (yG1 hc)
theorem ZO {l:List W}{a i:Nat}{x y:W}{S:List W}{q:List W × List W}(h:zT2 l a i x q) (e:q.1=S++[y]) (hc:eY x y<0):zT2 l a i x (S,y::q.2):=by
  refine ⟨?_,fun z hz=>?_⟩
  · rw [← h.eq,e];simp
  · rcases bO.1 hz with rfl | hz
    · exact hc
    · exact h.gt z hz
end Go.Ld
namespace Go.Proofs.YtmmkhmilpeodnaaGreat
open Go Go.Ab Go.Ld
attribute [local irreducible] VC AW bX aT
set_option maxHeartbeats 4000000
theorem zT3 (l:List W):(fH l).flatten.all AV.one=true:=by
  induction l with
  | nil=>rfl
  | cons x l ih=>simp only [List.map_cons,eW,List.all_append,ih];rfl
theorem bS (l:List W):∀ e,e∈fH l→AV.idfL e=true:=by
  intro e he;obtain ⟨x,_,rfl⟩:=bE.1 he;rfl
theorem mH:∀ i:Nat,i<1→([0]:List Nat)[i]? = some i:=by decide
abbrev rT:AV:=.clo (.func 97) [] []
theorem KZ (l:List W) (a b:Nat) (hab:a≤b) (hb:b≤l.length) (hl:l.length≤100000) (hw:∀ w,w∈l→O1 w) :
    aT Tryz.prog 161 [.sl 0 0 l.length 3,.i a,.i b,rT] [.arr (fH l) 3] (.tup []) [.arr (fH (VN l a b)) 3]:=by
  rcases iM a b with hlt | hge
  · refine bK T Tryz.func161 rfl rfl rfl rfl ?_
    (repeat' (first|refine wS ?_|refine wB ?_|(refine iA 0 rfl rfl rfl (by omega) (by omega) ?_)|refine nZ ?_));refine cO (X:={i:Nat // a+1≤i∧i≤b}) (fun i=>[(0,.sl 0 0 l.length 3),(1,.i a),(2,.i b),(3,rT),(8,.i i.1)]) (fun i=>[.arr (fH (VN l a i.1)) 3]) (fun i=>b-i.1) ⟨a+1,by omega,by omega⟩ ⟨[0],rfl,by (repeat (first | exact trivial | refine ⟨rfl,?_⟩)),⟨.inr (aD rfl (by dsimp only;rw [zI3 (by omega)]) (bS _)),trivial⟩,by decide,mH⟩ ?_
    rintro ⟨i,h1,h2⟩;dsimp only;by_cases hi:i<b
    · (repeat' (first|refine wS ?_|refine wB ?_|refine wK ?_|(refine wC rfl (fun hb=>?_) (fun hb=>?_) <;> (((try simp only [nm] at hb);try (exfalso;omega))))|(refine rg 1 (dK rfl (vV (aI rfl rfl) ?_)))|(refine rg 3 (mW rfl (aV ?_)))|(refine nZ ?_)));all_goals try (exfalso;omega)
      have hil:i<l.length:=by omega
      obtain ⟨x,hx⟩:∃ x,l[i]? = some x:=⟨_,aA hil⟩;obtain ⟨s1,s2⟩:=UE (a:=a) (by omega) hil hx
      refine cO (X:={q:List W × List W // zT2 l a i x q}) (fun q=>[(0,.sl 0 0 l.length 3),(1,.i a),(2,.i b),(3,rT),(8,.i i),(9,.i ((a+q.1.1.length:Nat):Int))]) (fun q=>[.arr (fH (wF l a i x q.1)) 3]) (fun q=>q.1.1.length) ⟨_,s1⟩ ⟨[0],rfl,⟨rfl,rfl,rfl,rfl,rfl,by dsimp only;rw [jI,bL,eD,show a+min (i-a) (l.length-a)=i by omega];rfl,trivial⟩,⟨.inr (aD rfl (by dsimp only;rw [s2]) (bS _)),trivial⟩,by decide,mH⟩ ?_
      rintro ⟨⟨S1,S2⟩,hq⟩;dsimp only;have hln:=RG hq (by omega) hil
      dsimp only at hln;have hwx:O1 x:=hw x (aS hx);have hal:(l.take a).length=a:=by rw [bL];omega
      rcases List.eq_nil_or_concat S1 with rfl | ⟨S,y,rfl⟩
      · have ee:=ZN hq (by omega) hil hx (fun y hy=>by cases hy)
        have hJ:((a+([]:List W).length:Nat):Int)=a:=by simp
        generalize ((a+([]:List W).length:Nat):Int)=J at *;generalize wF l a i x ([],S2)=L at *
        (repeat' (first|refine wS ?_|refine wE ?_|refine wU ?_|(refine bQ (id:=4) 53 yM6 (rM 18 17) yM7 cF rfl (by decide +kernel) (dN rfl (dN rfl (dV rfl (GW rfl rfl (by omega)) (dN rfl (tG rfl (tG rfl (tG rfl (tG rfl (dG ?_)))))))));refine tG rfl (tG rfl (tG rfl (tG rfl (tG rfl (tG rfl (tG rfl (dV rfl (gQ rfl rfl) (dE ?_)))))))))|(refine iA 2 rfl rfl rfl (by omega) (by omega) ?_)|refine nZ ?_));all_goals first | (exfalso;omega) | exact ⟨⟨i+1,by omega,by omega⟩,by dsimp only;omega,⟨[0],rfl,by (repeat (first | exact trivial | refine ⟨rfl,?_⟩)),⟨.inr (aD rfl (by dsimp only;rw [ee]) (bS _)),trivial⟩,by decide,mH⟩⟩
      · rw [List.concat_eq_append] at *;have hy:y∈l:=by
          have h3:y∈eK eY ((l.drop a).take (i-a)):=by rw [← hq.eq];simp
          exact fD (fC ((dS _ _).mem_iff.1 h3))
        have hc:=xF x y hwx (hw y hy);have hL:wF l a i x (S++[y],S2)=(l.take a++S)++y::x::(S2++l.drop (i+1)):=by unfold wF;simp
        have hJ:((a+(S++[y]).length:Nat):Int)=((a+S.length+1:Nat):Int):=by simp;omega
        have hAl:a+S.length=(l.take a++S).length:=by rw [aJ,hal]
        have hlen:=ZQ hq (by omega) hil
        by_cases h0:eY x y<0
        · have ee:=ZO hq rfl h0;have q1:=pM (L:=wF l a i x (S++[y],S2)) (j:=((a+(S++[y]).length:Nat):Int)) (i:=a+S.length+1) (x:=x) (by rw [hL,show (l.take a++S)++y::x::(S2++l.drop (i+1))=((l.take a++S)++[y])++x::(S2++l.drop (i+1)) by simp];exact nU _ _ _ (by simp;omega)) hJ
          have q2:=pM (L:=wF l a i x (S++[y],S2)) (j:=((a+(S++[y]).length:Nat):Int)-1) (i:=a+S.length) (x:=y) (by rw [hL];exact nU _ _ _ hAl) (by omega)
          have t1:=wZ (L:=wF l a i x (S++[y],S2)) (j:=((a+(S++[y]).length:Nat):Int)) (i:=a+S.length+1) (x:=y) hJ;have e1:(wF l a i x (S++[y],S2)).set (a+S.length+1) y=(l.take a++S)++y::y::(S2++l.drop (i+1)):=by
            rw [hL,show (l.take a++S)++y::x::(S2++l.drop (i+1))=((l.take a++S)++[y])++x::(S2++l.drop (i+1)) by simp,oC _ _ _ _ (by simp;omega)];simp
          rw [e1] at t1;have q3:=pM (L:=(l.take a++S)++y::y::(S2++l.drop (i+1))) (j:=((a+(S++[y]).length:Nat):Int)-1) (i:=a+S.length) (x:=y) (nU _ _ _ hAl) (by omega)
          have t2:=wZ (L:=(l.take a++S)++y::y::(S2++l.drop (i+1))) (j:=((a+(S++[y]).length:Nat):Int)-1) (i:=a+S.length) (x:=x) (by omega)
          rw [oC _ _ _ _ hAl,show (l.take a++S)++x::y::(S2++l.drop (i+1))=wF l a i x (S,y::S2) by unfold wF;simp,← t1] at t2
          rw [← t1] at q3;have hJ2:((a+(S++[y]).length:Nat):Int)-1=((a+S.length:Nat):Int):=by omega
          have hJ3:((a+(S++[y]).length:Nat):Int)<l.length:=by omega
          have hJ4:(a:Int)<((a+(S++[y]).length:Nat):Int):=by omega
          clear hJ hL;generalize ((a+(S++[y]).length:Nat):Int)=J at *;generalize eY x y=z at *;generalize wF l a i x (S++[y],S2)=L at *
          (repeat' (first|refine wS ?_|refine wB ?_|refine wK ?_|(refine wC rfl ?_ ?_<;>(intro hb;(try simp only [nm] at hb);try (exfalso;omega)))|(refine bQ (id:=4) 53 yM6 (rM 18 17) yM7 cF rfl (by decide +kernel) (dN rfl (dN rfl (dV rfl (eE rfl rfl) (dM ?_))));refine uA rfl rfl rfl rfl ?_ ?_<;>(intro hb;rw [hb];(try simp only [nm] at hb);try (exfalso;omega))<;>(refine tM ?_);(all_goals (refine tN rfl (tN rfl (dT rfl (by exact aK T rfl rfl rfl rfl rfl (by omega) (by omega)) ?_));refine dT rfl (by exact aE T rfl rfl (bM rfl q1) rfl) ?_;refine tN rfl (tN rfl (dT rfl (cX rfl rfl (by omega) (by omega)) (dT rfl (by exact aK T rfl rfl rfl rfl rfl (by omega) (by omega)) ?_)));refine dT rfl (by exact aE T rfl rfl (bM rfl q2) rfl) ?_;refine dT rfl (kC (hc)) (dT rfl (aI rfl rfl) (dV rfl (iE rfl rfl) (dE ?_))))))|(refine oG (id:=6) 53 yM8 (rM 37 15) yM9 [(15,0)] cF rfl (by decide +kernel) (dB rfl rfl rfl rfl (by exact bU rfl) ?_);refine dB rfl rfl rfl rfl (by exact bU rfl) ?_;refine dB rfl rfl rfl rfl (by exact bU rfl) ?_;refine dB rfl rfl rfl rfl (by exact bU rfl) ?_;refine dB rfl rfl rfl rfl (by exact cX rfl rfl (by omega) (by omega)) ?_;refine dB rfl rfl rfl rfl (by exact bU rfl) ?_;refine dB rfl rfl rfl rfl (by exact bU rfl) ?_;refine dB rfl rfl rfl rfl (by exact cX rfl rfl (by omega) (by omega)) ?_;refine dB rfl rfl rfl rfl (by exact aK T rfl rfl rfl rfl rfl (by omega) (by omega)) ?_;refine dB rfl rfl rfl rfl (by exact aE T rfl rfl (bM rfl q2) rfl) ?_;refine dB rfl rfl rfl rfl (by exact bU rfl) ?_;refine dB rfl rfl rfl rfl (by exact bU rfl) ?_;refine dB rfl rfl rfl rfl (by exact aK T rfl rfl rfl rfl rfl (by omega) (by omega)) ?_;refine dB rfl rfl rfl rfl (by exact aE T rfl rfl (bM rfl q1) rfl) ?_;refine dB rfl rfl rfl rfl (by exact aK T rfl rfl rfl rfl rfl (by omega) (by omega)) ?_;refine xZ rfl rfl rfl rfl (aY rfl) T rfl rfl rfl rfl rfl rfl (by decide) (xB rfl q1 rfl) ?_;refine sY rfl rfl rfl (by exact rfl) ?_;refine vV (by exact aK T rfl rfl rfl rfl rfl (by omega) (by omega)) ?_;refine aL T rfl rfl rfl rfl rfl rfl (by decide) (iJ rfl q3 rfl) ?_)|(refine rg 5 (mW rfl (vV (cX rfl rfl (by omega) (by omega)) (aV ?_))))|refine nZ ?_));all_goals first | (exfalso;omega) | exact ⟨⟨_,ee⟩,by dsimp only;simp,⟨[0],rfl,⟨rfl,rfl,rfl,rfl,rfl,by dsimp only;rw [← hJ2];try rfl,trivial⟩,⟨.inr (aD rfl (by dsimp only;rw [← t2];try rfl) (bS _)),trivial⟩,by decide,mH⟩⟩
        · have ee:=ZN hq (by omega) hil hx (zM3 hq rfl h0)
          have q1:=pM (L:=wF l a i x (S++[y],S2)) (j:=((a+(S++[y]).length:Nat):Int)) (i:=a+S.length+1) (x:=x) (by rw [hL,show (l.take a++S)++y::x::(S2++l.drop (i+1))=((l.take a++S)++[y])++x::(S2++l.drop (i+1)) by simp];exact nU _ _ _ (by simp;omega)) hJ
          have q2:=pM (L:=wF l a i x (S++[y],S2)) (j:=((a+(S++[y]).length:Nat):Int)-1) (i:=a+S.length) (x:=y) (by rw [hL];exact nU _ _ _ hAl) (by omega)
          have hJ3:((a+(S++[y]).length:Nat):Int)<l.length:=by omega
          have hJ4:(a:Int)<((a+(S++[y]).length:Nat):Int):=by omega
          clear hJ hL;generalize ((a+(S++[y]).length:Nat):Int)=J at *;generalize eY x y=z at *;generalize wF l a i x (S++[y],S2)=L at *
          (repeat' (first|refine wS ?_|refine wE ?_|(refine wC rfl ?_ ?_<;>(intro hb;(try simp only [nm] at hb);try (exfalso;omega)))|(refine bQ (id:=4) 53 yM6 (rM 18 17) yM7 cF rfl (by decide +kernel) (dN rfl (dN rfl (dV rfl (eE rfl rfl) (dM ?_))));refine uA rfl rfl rfl rfl ?_ ?_<;>(intro hb;rw [hb];(try simp only [nm] at hb);try (exfalso;omega))<;>(refine tM ?_);(all_goals (refine tN rfl (tN rfl (dT rfl (by exact aK T rfl rfl rfl rfl rfl (by omega) (by omega)) ?_));refine dT rfl (by exact aE T rfl rfl (bM rfl q1) rfl) ?_;refine tN rfl (tN rfl (dT rfl (cX rfl rfl (by omega) (by omega)) (dT rfl (by exact aK T rfl rfl rfl rfl rfl (by omega) (by omega)) ?_)));refine dT rfl (by exact aE T rfl rfl (bM rfl q2) rfl) ?_;refine dT rfl (kC (hc)) (dT rfl (aI rfl rfl) (dV rfl (iE rfl rfl) (dE ?_))))))|(refine iA 2 rfl rfl rfl (by omega) (by omega) ?_)|refine nZ ?_));all_goals first | (exfalso;omega) | exact ⟨⟨i+1,by omega,by omega⟩,by dsimp only;omega,⟨[0],rfl,by (repeat (first | exact trivial | refine ⟨rfl,?_⟩)),⟨.inr (aD rfl (by dsimp only;rw [ee]) (bS _)),trivial⟩,by decide,mH⟩⟩
    · obtain rfl:i=b:=by omega
      (repeat' (first|refine wS ?_|refine wE ?_|(refine wC rfl ?_ ?_<;>(intro hb;(try simp only [nm] at hb);try (exfalso;omega)))|(refine rg 1 (dK rfl (vV (aI rfl rfl) ?_)))|refine nZ ?_));all_goals first | (exfalso;omega) | exact ⟨.inl rfl,[0],_,rfl,rfl,rfl,⟨.inr (aD rfl rfl (bS _)),trivial⟩,by decide,mH⟩ | exact ⟨.inr rfl,[0],_,rfl,rfl,rfl,⟨.inr (aD rfl rfl (bS _)),trivial⟩,by decide,mH⟩
  · obtain rfl:a=b:=by omega
    rw [WP hb];refine bK T Tryz.func161 rfl rfl rfl rfl ?_
    (repeat' (first|refine wS ?_|refine wB ?_|(refine iA 0 rfl rfl rfl (by omega) (by omega) ?_)|refine nZ ?_));refine cO (X:=Unit) (fun _=>[(0,.sl 0 0 l.length 3),(1,.i a),(2,.i a),(3,rT),(8,.i ((a:Int)+1))]) (fun _=>[.arr (fH l) 3]) (fun _=>0) () ⟨[0],rfl,by (repeat (first | exact trivial | refine ⟨rfl,?_⟩)),⟨.inr (aD rfl rfl (bS _)),trivial⟩,by decide,mH⟩ ?_
    intro _;dsimp only
    (repeat' (first|refine wS ?_|refine wE ?_|(refine wC rfl ?_ ?_<;>(intro hb;(try simp only [nm] at hb);try (exfalso;omega)))|(refine rg 1 (dK rfl (vV (aI rfl rfl) ?_)))|refine nZ ?_));all_goals first | (exfalso;omega) | exact ⟨.inl rfl,[0],_,rfl,rfl,rfl,⟨.inr (aD rfl rfl (bS _)),trivial⟩,by decide,mH⟩ | exact ⟨.inr rfl,[0],_,rfl,rfl,rfl,⟨.inr (aD rfl rfl (bS _)),trivial⟩,by decide,mH⟩
end Go.Proofs.YtmmkhmilpeodnaaGreat
namespace Go.Ld
open Go.Ab Go.Proofs.YtmmkhmilpeodnaaGreat
def IX (P X Q Y R:List W) (k:Nat):List W:=P++((Y.take k++X.drop k)++(Q++((X.take k++Y.drop k)++R)))
theorem yC3 (P X Q Y R:List W):IX P X Q Y R 0=P++(X++(Q++(Y++R))):=by simp [IX]
theorem yC2 {P X Q Y R:List W}{n:Nat}(h1:X.length=n) (h2:Y.length=n):IX P X Q Y R n=P++(Y++(Q++(X++R))):=by
  unfold IX;rw [bV (by omega),bV (by omega),dJ (by omega),dJ (by omega)];simp
theorem yH1 {X1 X2:List W}{x:W}{k:Nat}(h:X1.length=k):(X1++x::X2).take k=X1∧(X1++x::X2).drop k=x::X2∧(X1++x::X2).take (k+1)=X1++[x]∧(X1++x::X2).drop (k+1)=X2:=by
  subst h;refine ⟨wQ,wV,?_,?_⟩
  · rw [show X1++x::X2=(X1++[x])++X2 by simp,show X1.length+1=(X1++[x]).length by simp,wQ]
  · rw [show X1++x::X2=(X1++[x])++X2 by simp,show X1.length+1=(X1++[x]).length by simp,wV]
theorem NI {X:List W}{k:Nat}(h:k<X.length):∃ X1 x X2,X=X1++x::X2∧X1.length=k:=⟨X.take k,X[k],X.drop (k+1),by simp,by simp;omega⟩
theorem WJ {P X Q Y R:List W}{n k:Nat}(h1:X.length=n) (h2:Y.length=n) (hk:k<n):∃ x y,x∈X∧y∈Y∧(IX P X Q Y R k)[P.length+k]? = some x∧(IX P X Q Y R k)[P.length+n+Q.length+k]? = some y ∧
    ((IX P X Q Y R k).set (P.length+k) y)[P.length+n+Q.length+k]? = some y∧((IX P X Q Y R k).set (P.length+k) y).set (P.length+n+Q.length+k) x=IX P X Q Y R (k+1):=by
  obtain ⟨X1,x,X2,rfl,hx⟩:=NI (show k<X.length by omega)
  obtain ⟨Y1,y,Y2,rfl,hy⟩:=NI (show k<Y.length by omega)
  obtain ⟨a1,a2,a3,a4⟩:=yH1 (x:=x) (X2:=X2) hx;obtain ⟨b1,b2,b3,b4⟩:=yH1 (x:=y) (X2:=Y2) hy;simp only [aJ,List.length_cons] at h1 h2;have e:IX P (X1++x::X2) Q (Y1++y::Y2) R k=(P++Y1)++x::(X2++(Q++(X1++y::(Y2++R)))):=by
    unfold IX;rw [a1,a2,b1,b2];simp
  have e1:(IX P (X1++x::X2) Q (Y1++y::Y2) R k).set (P.length+k) y=((P++Y1)++y::(X2++(Q++X1)))++y::(Y2++R):=by
    rw [e,oC _ _ _ _ (by simp;omega)];simp
  have l1:P.length+n+Q.length+k=((P++Y1)++y::(X2++(Q++X1))).length:=by
    simp only [aJ,List.length_cons];omega
  refine ⟨x,y,by simp,by simp,?_,?_,?_,?_⟩
  · rw [e];exact nU _ _ _ (by simp;omega)
  · rw [e,show (P++Y1)++x::(X2++(Q++(X1++y::(Y2++R))))=((P++Y1)++x::(X2++(Q++X1)))++y::(Y2++R) by simp]
    exact nU _ _ _ (by simp only [aJ,List.length_cons];omega)
  · rw [e1];exact nU _ _ _ l1
  · rw [e1,oC _ _ _ _ l1];unfold IX;rw [a3,a4,b3,b4];simp
end Go.Ld
namespace Go.Proofs.YtmmkhmilpeodnaaGreat
open Go Go.Ab Go.Ld
attribute [local irreducible] VC AW bX aT
set_option maxHeartbeats 4000000
theorem FQ (P X Q Y R:List W){n a b N:Nat}(h1:X.length=n) (h2:Y.length=n) (ha:a=P.length) (hb:b=P.length+n+Q.length) (hN:N=P.length+(n+(Q.length+(n+R.length)))) (hl:N≤100000) :
    aT Tryz.prog 181 [.sl 0 0 N 3,.i a,.i b,.i n,rT] [.arr (fH (P++(X++(Q++(Y++R))))) 3] (.tup []) [.arr (fH (P++(Y++(Q++(X++R))))) 3]:=by
  refine bK T Tryz.func181 rfl rfl rfl rfl ?_
  (repeat' (first|refine wS ?_|refine wB ?_|(refine rg 0 (aV ?_))|refine nZ ?_));refine cO (X:={k:Nat // k≤n}) (fun k=>[(0,.sl 0 0 N 3),(1,.i a),(2,.i b),(3,.i n),(4,rT),(10,.i k.1)]) (fun k=>[.arr (fH (IX P X Q Y R k.1)) 3]) (fun k=>n-k.1) ⟨0,by omega⟩ ⟨[0],rfl,by (repeat (first | exact trivial | refine ⟨rfl,?_⟩)),⟨.inr (aD rfl (by dsimp only;rw [yC3]) (bS _)),trivial⟩,by decide,mH⟩ ?_
  rintro ⟨k,hk⟩;dsimp only;by_cases hlt:k<n
  · obtain ⟨x,y,_,_,p1,p2,p3,p4⟩:=WJ (P:=P) (Q:=Q) (R:=R) h1 h2 hlt;have q1:=pM (j:=(a:Int)+(k:Int)) p1 (by omega)
    have q2:=pM (j:=(b:Int)+(k:Int)) p2 (by omega)
    have t1:=wZ (L:=IX P X Q Y R k) (j:=(a:Int)+(k:Int)) (i:=P.length+k) (x:=y) (by omega)
    have q3:=pM (j:=(b:Int)+(k:Int)) p3 (by omega)
    have t2:=wZ (L:=(IX P X Q Y R k).set (P.length+k) y) (j:=(b:Int)+(k:Int)) (i:=P.length+n+Q.length+k) (x:=x) (by omega)
    rw [← t1] at q3 t2;rw [p4] at t2;clear p1 p2 p3 p4 t1;generalize IX P X Q Y R k=L at *
    (repeat' (first|refine wS ?_|refine wB ?_|refine wK ?_|(refine wC rfl ?_ ?_<;>(intro hb;(try simp only [nm] at hb);try (exfalso;omega)))|(refine rg 1 (dK rfl (vV (aI rfl rfl) ?_)))|(refine oG (id:=3) 38 [[],[],[],[1,2],[],[],[],[5,6],[],[],[],[9,10],rM 8 4,rM 8 5,[],[],[],[15,16],rM 14 4,rM 14 5,[0,1,2,3,8,9,10,11,12,13,14,15,16,17,18,19],[0,1,2,3,8,9,10,11,12,13,14,15,16,17,18,19,20]] (rM 16 21) [[],[16],[16,17],[16],rM 16 4,rM 16 5,rM 16 6,rM 16 5,rM 16 8,rM 16 9,rM 16 10,rM 16 9,rM 16 8,rM 16 8,rM 16 14,rM 16 15,rM 16 16,rM 16 15,rM 16 14,rM 16 14,rM 20 4,rM 20 4] [(21,0)] cF rfl (by decide +kernel) (dB rfl rfl rfl rfl (by exact bU rfl) ?_);refine dB rfl rfl rfl rfl (by exact bU rfl) ?_;refine dB rfl rfl rfl rfl (by exact bU rfl) ?_;refine dB rfl rfl rfl rfl (by exact bY rfl rfl (by omega) (by omega)) ?_;refine dB rfl rfl rfl rfl (by exact bU rfl) ?_;refine dB rfl rfl rfl rfl (by exact bU rfl) ?_;refine dB rfl rfl rfl rfl (by exact bU rfl) ?_;refine dB rfl rfl rfl rfl (by exact bY rfl rfl (by omega) (by omega)) ?_;refine dB rfl rfl rfl rfl (by exact bU rfl) ?_;refine dB rfl rfl rfl rfl (by exact bU rfl) ?_;refine dB rfl rfl rfl rfl (by exact bU rfl) ?_;refine dB rfl rfl rfl rfl (by exact bY rfl rfl (by omega) (by omega)) ?_;refine dB rfl rfl rfl rfl (by exact aK T rfl rfl rfl rfl rfl (by omega) (by omega)) ?_;refine dB rfl rfl rfl rfl (by exact aE T rfl rfl (bM rfl q2) rfl) ?_;refine dB rfl rfl rfl rfl (by exact bU rfl) ?_;refine dB rfl rfl rfl rfl (by exact bU rfl) ?_;refine dB rfl rfl rfl rfl (by exact bU rfl) ?_;refine dB rfl rfl rfl rfl (by exact bY rfl rfl (by omega) (by omega)) ?_;refine dB rfl rfl rfl rfl (by exact aK T rfl rfl rfl rfl rfl (by omega) (by omega)) ?_;refine dB rfl rfl rfl rfl (by exact aE T rfl rfl (bM rfl q1) rfl) ?_;refine dB rfl rfl rfl rfl (by exact aK T rfl rfl rfl rfl rfl (by omega) (by omega)) ?_;refine xZ rfl rfl rfl rfl (aY rfl) T rfl rfl rfl rfl rfl rfl (by decide) (xB rfl q1 rfl) ?_;refine sY rfl rfl rfl (by exact rfl) ?_;refine vV (by exact aK T rfl rfl rfl rfl rfl (by omega) (by omega)) ?_;refine aL T rfl rfl rfl rfl rfl rfl (by decide) (iJ rfl q3 rfl) ?_)|(refine iA 2 rfl rfl rfl (by omega) (by omega) ?_)|refine nZ ?_));all_goals first | (exfalso;omega) | exact ⟨⟨k+1,by omega⟩,by dsimp only;omega,⟨[0],rfl,by (repeat (first | exact trivial | refine ⟨rfl,?_⟩)),⟨.inr (aD rfl (by dsimp only;rw [← t2];try rfl) (bS _)),trivial⟩,by decide,mH⟩⟩
  · obtain rfl:k=n:=by omega
    have e:=yC2 (P:=P) (Q:=Q) (R:=R) h1 h2
    (repeat' (first|refine wS ?_|refine wE ?_|(refine wC rfl ?_ ?_<;>(intro hb;(try simp only [nm] at hb);try (exfalso;omega)))|(refine rg 1 (dK rfl (vV (aI rfl rfl) ?_)))|refine nZ ?_));all_goals first | (exfalso;omega) | exact ⟨.inl rfl,[0],_,rfl,rfl,rfl,⟨.inr (aD rfl (by rw [e]) (bS _)),trivial⟩,by decide,mH⟩ | exact ⟨.inr rfl,[0],_,rfl,rfl,rfl,⟨.inr (aD rfl (by rw [e]) (bS _)),trivial⟩,by decide,mH⟩
theorem WZ (P X Y R:List W){a m b N:Nat}(ha:a=P.length) (hm:m=P.length+X.length) (hb:b=P.length+X.length+Y.length) (hN:N=b+R.length) (hl:N≤100000) (hX:0<X.length) (hY:0<Y.length) :
    aT Tryz.prog 176 [.sl 0 0 N 3,.i a,.i m,.i b,rT] [.arr (fH (P++(X++(Y++R)))) 3] (.tup []) [.arr (fH (P++(Y++(X++R)))) 3]:=by
  refine bK T Tryz.func176 rfl rfl rfl rfl ?_
  (repeat' (first|refine wS ?_|refine wB ?_|(refine rg 0 (dK rfl (vV (cX rfl rfl (by omega) (by omega)) (aV ?_))))|(refine rg 1 (dK rfl (vV (cX rfl rfl (by omega) (by omega)) (aV ?_))))|refine nZ ?_));refine cO (X:={q:List W × List W × List W × List W // q.1++(q.2.2.1++(q.2.1++q.2.2.2))=P++(Y++(X++R))∧q.1.length+q.2.1.length=m∧m+q.2.2.1.length+q.2.2.2.length=N∧0<q.2.1.length∧0<q.2.2.1.length})
    (fun q=>[(0,.sl 0 0 N 3),(1,.i a),(2,.i m),(3,.i b),(4,rT),(10,.i q.1.2.1.length),(11,.i q.1.2.2.1.length)]) (fun q=>[.arr (fH (q.1.1++(q.1.2.1++(q.1.2.2.1++q.1.2.2.2)))) 3]) (fun q=>q.1.2.1.length+q.1.2.2.1.length) ⟨(P,X,Y,R),by dsimp only;exact ⟨rfl,by omega,by omega,hX,hY⟩⟩
    ⟨[0],rfl,⟨rfl,rfl,rfl,rfl,rfl,by dsimp only;rw [show (X.length:Int)=(m:Int)-(a:Int) by omega];rfl,by dsimp only;rw [show (Y.length:Int)=(b:Int)-(m:Int) by omega];rfl,trivial⟩,⟨.inr (aD rfl rfl (bS _)),trivial⟩,by decide,mH⟩ ?_
  rintro ⟨⟨P1,X1,Y1,R1⟩,h1,h2,h3,h4,h5⟩;dsimp only at h1 h2 h3 h4 h5 ⊢;have hsb:((P1.length:Nat):Int)=(m:Int)-(X1.length:Int):=by omega
  by_cases hij:X1.length=Y1.length
  · have hc:=FQ P1 X1 [] Y1 R1 (n:=X1.length) (a:=P1.length) (b:=m) (N:=N) rfl hij.symm rfl (by simp;omega) (by simp;omega) hl
    rw [List.nil_append,List.nil_append,hsb,h1] at hc
    (repeat' (first|refine wS ?_|refine wE ?_|refine wU ?_|(refine rg 2 (dK rfl (vV (kZ rfl rfl (by omega)) ?_)))|(refine rg 8 (dK rfl (mW rfl (vV (cX rfl rfl (by omega) (by omega)) (dK rfl (mW rfl (fP [0] rfl rfl (hc) rfl rfl (by decide) ⟨.inr (aD rfl rfl (bS _)),trivial⟩ (by simp) rfl ?_)))))))|refine nZ ?_));all_goals first | (exfalso;omega) | exact ⟨.inl rfl,[0],_,rfl,rfl,rfl,⟨.inr (aD rfl (cJ _ (bS _)) (bS _)),trivial⟩,by decide,mH⟩ | exact ⟨.inr rfl,[0],_,rfl,rfl,rfl,⟨.inr (aD rfl (cJ _ (bS _)) (bS _)),trivial⟩,by decide,mH⟩
  · by_cases hgt:Y1.length<X1.length
    · -- a part of the left side goes to the end
      obtain ⟨A,B,rfl,hA⟩:∃ A B,X1=A++B∧A.length=Y1.length:=⟨X1.take Y1.length,X1.drop Y1.length,by simp,by simp;omega⟩
      rw [aJ] at *;have hc:=FQ P1 A B Y1 R1 (n:=Y1.length) (a:=P1.length) (b:=m) (N:=N) hA rfl rfl (by omega) (by omega) hl
      rw [hsb] at hc;rw [bT]
      (repeat' (first|refine wS ?_|refine wB ?_|refine wK ?_|refine wT ?_|(refine rg 2 (dK rfl (vV (sT rfl rfl (by omega)) ?_)))|(refine rg 3 (dK rfl (vV (zN4 rfl rfl (by omega)) ?_)))|(refine rg 4 (dK rfl (mW rfl (vV (cX rfl rfl (by omega) (by omega)) (dK rfl (mW rfl (fP [0] rfl rfl (hc) rfl rfl (by decide) ⟨.inr (aD rfl rfl (bS _)),trivial⟩ (by simp) rfl ?_)))))))|(refine rg 5 (dK rfl (vV (cX rfl rfl (by omega) (by omega)) (aV ?_))))|refine nZ ?_));all_goals first | (exfalso;omega) | skip
      refine ⟨⟨(P1++Y1,B,A,R1),by dsimp only;refine ⟨by rw [← h1];simp,?_,?_,?_,?_⟩ <;> (try simp only [aJ]) <;> omega⟩,by dsimp only;omega,⟨[0],rfl,⟨rfl,rfl,rfl,rfl,rfl,by dsimp only;rw [show (B.length:Int)=((A.length+B.length:Nat):Int)-(Y1.length:Int) by omega];rfl,by dsimp only;rw [hA];rfl,trivial⟩,⟨.inr (aD rfl (by rw [cJ _ (bS _)];simp) (bS _)),trivial⟩,by decide,mH⟩⟩
    · -- a part of the right side goes to the front
      obtain ⟨A,B,rfl,hA⟩:∃ A B,Y1=A++B∧B.length=X1.length:=⟨Y1.take (Y1.length-X1.length),Y1.drop (Y1.length-X1.length),by simp,by simp;omega⟩
      rw [aJ] at *;have hc:=FQ P1 X1 A B R1 (n:=X1.length) (a:=P1.length) (b:=m+A.length) (N:=N) rfl hA rfl (by omega) (by omega) hl
      rw [hsb,show ((m+A.length:Nat):Int)=(m:Int)+((A.length+B.length:Nat):Int)-(X1.length:Int) by omega] at hc
      rw [bT]
      (repeat' (first|refine wS ?_|refine wB ?_|refine wK ?_|refine wT ?_|refine wU ?_|(refine rg 2 (dK rfl (vV (sT rfl rfl (by omega)) ?_)))|(refine rg 3 (dK rfl (vV (GW rfl rfl (by omega)) ?_)))|(refine rg 6 (dK rfl (mW rfl (vV (cX rfl rfl (by omega) (by omega)) (dK rfl (vV (bY rfl rfl (by omega) (by omega)) (mW rfl (vV (cX rfl rfl (by omega) (by omega)) (dK rfl (fP [0] rfl rfl (hc) rfl rfl (by decide) ⟨.inr (aD rfl rfl (bS _)),trivial⟩ (by simp) rfl ?_))))))))))|(refine rg 7 (dK rfl (vV (cX rfl rfl (by omega) (by omega)) (aV ?_))))|refine nZ ?_));all_goals first | (exfalso;omega) | skip
      refine ⟨⟨(P1,B,A,X1++R1),by dsimp only;refine ⟨by rw [← h1];simp,?_,?_,?_,?_⟩ <;> (try simp only [aJ]) <;> omega⟩,by dsimp only;omega,⟨[0],rfl,⟨rfl,rfl,rfl,rfl,rfl,by dsimp only;rw [hA];rfl,by dsimp only;rw [show (A.length:Int)=((A.length+B.length:Nat):Int)-(X1.length:Int) by omega];rfl,trivial⟩,⟨.inr (aD rfl (by rw [cJ _ (bS _)]) (bS _)),trivial⟩,by decide,mH⟩⟩
end Go.Proofs.YtmmkhmilpeodnaaGreat
namespace Go.Ld
open Go.Ab Go.Proofs.YtmmkhmilpeodnaaGreat
theorem SV {V:List W}{i:Nat}{z:W}(h0:0<i) (h:V[i-1]? = some z):V.take i=V.take (i-1)++[z]:=by
  conv=>lhs;rw [show i=(i-1)+1 by omega]
  rw [zG1,h];rfl
theorem zP4 {V:List W}{i:Nat}{z:W}(h:V[i]? = some z):V.drop i=z::V.drop (i+1):=by
  obtain ⟨hi,e⟩:=aB.1 h;rw [bB hi,e]
theorem PR {V:List W}{i:Nat}(hu:Up V){x y z:W}(h0:0<i) (h:V[i-1]? = some z) (hy:y∈V.take i) (hz:eY z x≤0):eY y x≤0:=by
  have h1:Up (V.take i):=hu.sublist (List.take_sublist _ _);rw [SV h0 h] at h1 hy;exact jT.le_tr (PS h1 y hy) hz
theorem PT {V:List W}{i:Nat}(hu:Up V){x y z:W}(h:V[i]? = some z) (hy:y∈V.drop i) (hz:eY x z≤0):eY x y≤0:=by
  have h1:Up (V.drop i):=hu.sublist (List.drop_sublist _ _);rw [zP4 h] at h1 hy;exact jT.le_tr hz (zH4 h1 y hy)
theorem sS {V:List W}{i:Nat}{y:W}(h:y∈V.take i) (hi:i≤V.length):0<i∧∃ z,V[i-1]? = some z:=by
  have:0<i:=by
    rcases N6 i with rfl | h0
    · simp at h
    · exact h0
  exact ⟨this,_,aA (by omega)⟩
theorem uP {V:List W}{i:Nat}{y:W}(h:y∈V.drop i):∃ z,V[i]? = some z:=by
  have:i<V.length:=by
    rcases iM i V.length with h0 | h0
    · exact h0
    · rw [dJ h0] at h;cases h
  exact ⟨_,aA this⟩
theorem zW5 {u:W}{V:List W}{i:Nat}(hi:i≤V.length) (hu:Up V) (h1:∀ z,0<i→V[i-1]? = some z→eY z u<0) (h2:∀ z,V[i]? = some z→¬ eY z u<0):eK eY ([u]++V)=V.take i++u::V.drop i:=by
  refine J6 ?_ (NF (by rw [bR];exact hu) (fun y hy=>?_) (fun y hy=>?_))
  · refine List.perm_middle.trans ?_;rw [bR];exact .refl _
  · obtain ⟨h0,z,hz⟩:=sS hy hi;exact PR hu h0 hz hy (E6 (h1 z h0 hz))
  · obtain ⟨z,hz⟩:=uP hy;exact PT hu hz hy (yG1 (h2 z hz))
theorem zW4 {v:W}{U:List W}{i:Nat}(hi:i≤U.length) (hu:Up U) (h1:∀ z,0<i→U[i-1]? = some z→¬ eY v z<0) (h2:∀ z,U[i]? = some z→eY v z<0):eK eY (U++[v])=U.take i++v::U.drop i:=by
  refine J6 ?_ (NF (by rw [bR];exact hu) (fun y hy=>?_) (fun y hy=>?_))
  · refine List.perm_middle.trans ?_;rw [bR];exact (N7 _ _).symm
  · obtain ⟨h0,z,hz⟩:=sS hy hi;exact PR hu h0 hz hy (yG1 (h1 z h0 hz))
  · obtain ⟨z,hz⟩:=uP hy;exact PT hu hz hy (E6 (h2 z hz))
theorem yE8 {U V:List W}{i e:Nat}(hU:Up U) (hV:Up V) (hi:i≤U.length) (he:e≤V.length) (h1:∀ x y,0<i→U[i-1]? = some x→V[e]? = some y→¬ eY y x<0) (h2:∀ x y,0<e→U[i]? = some x→V[e-1]? = some y→eY y x<0) :
    eK eY (U++V)=eK eY (U.take i++V.take e)++eK eY (U.drop i++V.drop e):=by
  have hU1:Up (U.take i++U.drop i):=by rw [bR];exact hU
  have hV1:Up (V.take e++V.drop e):=by rw [bR];exact hV
  have cU:=(fB.1 hU1).2.2;have cV:=(fB.1 hV1).2.2;refine J6 ?_ (zU1 (lX jT _) (lX jT _) fun x y hx hy=>?_)
  · refine ((dS _ _).append (dS _ _)).trans ?_;have e1:(U.take i++V.take e++(U.drop i++V.drop e)).Perm (U.take i++U.drop i++(V.take e++V.drop e)):=by
      rw [bT,bT];refine List.Perm.append_left _ ?_;rw [← bT,← bT];exact List.perm_append_comm.append_right _
    rw [bR,bR] at e1;exact e1
  · have hx:=(dS _ _).mem_iff.1 hx;have hy:=(dS _ _).mem_iff.1 hy;rcases bG.1 hx with hx | hx <;> rcases bG.1 hy with hy | hy
    · exact cU x hx y hy
    · obtain ⟨h0,z,hz⟩:=sS hx hi;obtain ⟨q,hq⟩:=uP hy;exact PT hV hq hy (PR hU h0 hz hx (yG1 (h1 z q h0 hz hq)))
    · obtain ⟨h0,z,hz⟩:=sS hx he;obtain ⟨q,hq⟩:=uP hy;exact PT hU hq hy (PR hV h0 hz hx (E6 (h2 q z h0 hq hz)))
    · exact cV x hx y hy
def O0 (P V:List W) (u:W) (R:List W) (k:Nat):List W:=(P++V.take k)++u::(V.drop k++R)
theorem IQ {P V:List W}{u:W}{R:List W}{k:Nat}(h:k<V.length):∃ y,(O0 P V u R k)[P.length+k]? = some u∧(O0 P V u R k)[P.length+k+1]? = some y ∧
    ((O0 P V u R k).set (P.length+k) y)[P.length+k+1]? = some y∧((O0 P V u R k).set (P.length+k) y).set (P.length+k+1) u=O0 P V u R (k+1) ∧
    (O0 P V u R (k+1))[P.length+k+1]? = some u∧(O0 P V u R (k+1))[P.length+k]? = some y∧((O0 P V u R (k+1)).set (P.length+k+1) y)[P.length+k]? = some y∧((O0 P V u R (k+1)).set (P.length+k+1) y).set (P.length+k) u=O0 P V u R k:=by
  obtain ⟨V1,y,V2,rfl,hk⟩:=NI h;obtain ⟨a1,a2,a3,a4⟩:=yH1 (x:=y) (X2:=V2) hk;have e:O0 P (V1++y::V2) u R k=(P++V1)++u::y::(V2++R):=by unfold O0;rw [a1,a2];simp
  have e':O0 P (V1++y::V2) u R (k+1)=(P++V1)++y::u::(V2++R):=by unfold O0;rw [a3,a4];simp
  have l0:P.length+k=(P++V1).length:=by simp;omega
  have s1:∀ (p q:W),((P++V1)++p::q::(V2++R))[P.length+k+1]? = some q:=fun p q=>by
    rw [show (P++V1)++p::q::(V2++R)=((P++V1)++[p])++q::(V2++R) by simp];exact nU _ _ _ (by simp;omega)
  have s2:∀ (p q z:W),((P++V1)++p::q::(V2++R)).set (P.length+k+1) z=(P++V1)++p::z::(V2++R):=fun p q z=>by
    rw [show (P++V1)++p::q::(V2++R)=((P++V1)++[p])++q::(V2++R) by simp,oC _ _ _ _ (by simp;omega)];simp
  rw [e,e'];refine ⟨y,nU _ _ _ l0,s1 _ _,?_,?_,s1 _ _,nU _ _ _ l0,?_,?_⟩
  · rw [oC _ _ _ _ l0];exact s1 _ _
  · rw [oC _ _ _ _ l0,s2]
  · rw [s2];exact nU _ _ _ l0
  · rw [s2,oC _ _ _ _ l0]
end Go.Ld
