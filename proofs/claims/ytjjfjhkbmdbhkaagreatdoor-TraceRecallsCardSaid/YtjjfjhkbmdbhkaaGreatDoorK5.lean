/-
  Texts of the logic and of the layer,in one module (part 5).
-/
import Derived.Test.YtjjfjhkbmdbhkaaGreatDoorK4
import Derived.Shelf.Lay
import Derived.Shelf.Sort.Plain
import Derived.Shelf.Slices.In.SortNone
import Derived.Ground.NamesProg
import Derived.WalkKit
set_option maxHeartbeats 4000000
set_option linter.unusedVariables false
set_option linter.unusedSimpArgs false
set_option linter.unnecessarySimpa false
namespace Go.Proofs.Q
open Go Go.Ab
attribute [local irreducible] VC AW bW aM
def H9 (m st er sl:Int):Bool:=decide (0≤min (min (min m st) er) sl)&&decide (max (max (max m st) er) sl≤1048576)
theorem zG4 (m st er sl:Int):aM Tryz.prog 57 [qI m st er sl] [] (.b (H9 m st er sl)) []:=by
 refine bS T Tryz.func57 rfl rfl rfl rfl ?_
 (repeat' (first|refine wS ?_|refine wR ?_|(refine rg 0 (cO (dR rfl rfl) rfl (aV ?_)))|(refine rg 1 (iK T rfl (iK T rfl (iK T rfl (iK T rfl (vV (yE5 rfl rfl rfl rfl) (vV (iR rfl rfl) (mV ?_)))))));refine cD rfl rfl ?_ ?_<;>(intro hb;rw [hb];(try simp only [nm] at hb);try omega);(all_goals first|(refine gT (fW T rfl (gT (lW T rfl (gT (fW T rfl (gT (lW T rfl (gT (fV T ?_)))))))));refine gT (lW T rfl (gT (fW T rfl (gT (lW T rfl (gT (vV (yE6 rfl rfl rfl rfl) (gT (vV (iQ rfl rfl) ?_))))))))))|(iterate 10 refine gF ?_));(all_goals (refine pW rfl (aV ?_))))|refine nZ ?_));all_goals
  refine dU (.inl rfl) rfl (oM ?_);rw [K9];simp only [H9,aN,decide_eq_true_eq]
  first|omega | (simp;omega)
theorem WG (l:List Int) (v:Int) (hl:l.length≤1000):aM Tryz.prog 31 [.rowE (ints l) 1,.i v] [] (.b (decide (v∈l))) []:=by
 have hlen:(ints l).length=l.length:=by simp
 refine bS T Tryz.func31 rfl rfl rfl rfl ?_
 (repeat' (first|refine wS ?_|refine wB ?_|(refine rg 0 (aV ?_))|(refine rg 1 (aV ?_))|refine nZ ?_));refine dI (X:={k:Nat // k≤l.length∧(v∈l↔v∈l.drop k)}) (fun k=>[(0,.rowE (ints l) 1),(1,.i v),(5,.i k.1)]) (fun _=>[]) (fun k=>l.length-k.1) ⟨0,by simp⟩ (gQ []) ?_
 rintro ⟨k,hk,hf⟩;dsimp only;by_cases hlt:k<l.length
 ·repeat' (first|refine wS ?_|refine wB ?_|refine wK ?_|refine wR ?_|(refine wC rfl (fun hb=>?_) (fun hb=>?_) <;> (((try simp only [nm] at hb);try omega)))|(refine rg 2 (dJ rfl (qW T rfl (vV (aK rfl rfl) ?_))))|(refine rg 4 (dJ rfl (vV (ix T rfl (by omega) (dY l) (mC (k:=k) (by omega))) (lW T rfl (mW rfl (vV (fB rfl rfl) ?_))))))|(refine rg 5 (aV ?_))|(refine iA 3 rfl rfl rfl (by omega) (by omega) ?_)|(refine nZ ?_))
  ·refine dU (.inl rfl) rfl (oM ?_);have:v∈l:=by rw [← hb];exact aO hlt
   simp [this]
  ·refine ⟨⟨k+1,by omega,?_⟩,by dsimp only;omega,gQ []⟩
   rw [hf,aP hlt];simp only [bQ];exact ⟨fun h=>h.resolve_left (fun e=>hb e.symm),.inr⟩
 ·(repeat' (first|refine wS ?_|refine wR ?_|refine wE ?_|(refine wC rfl (fun hb=>?_) (fun hb=>?_) <;> (((try simp only [nm] at hb);try omega)))|(refine rg 2 (dJ rfl (qW T rfl (vV (aK rfl rfl) ?_))))|(refine rg 6 (aV ?_))|(refine nZ ?_)));refine dU (.inl rfl) rfl (oM ?_)
  rw [cY (by omega)] at hf
  simp at hf;simp [hf]
structure xE (ks:List KD) (ls:List LT) (ps:List Int) (bs:List BX):Prop where
 len:ps.length=bs.length
 p:∀ i:Nat,i<ps.length→(i:Int)∈ps
 k:∀ (i:Nat) (h:i<ks.length),0≤ks[i].2∧ks[i].2≤1048576
 l:∀ (i:Nat) (h:i<ls.length),0≤ls[i].1∧ls[i].1<ks.length
 b:∀ (i:Nat) (h:i<bs.length),-1≤bs[i].1∧bs[i].1<ls.length∧0≤bs[i].2.1∧bs[i].2.1≤20000∧(bs[i].1 = -1→bs[i].2.1=0)∧0≤bs[i].2.2∧bs[i].2.2≤1073741824
open Classical in
noncomputable def vG (ks:List KD) (ls:List LT) (ps:List Int) (bs:List BX):Bool:=decide (xE ks ls ps bs)
theorem xU {ks:List KD}{ls:List LT}{ps:List Int}{bs:List BX}(h:¬ xE ks ls ps bs):vG ks ls ps bs=false:=by unfold vG;simp [h]
theorem SI {ks:List KD}{ls:List LT}{ps:List Int}{bs:List BX}(h:xE ks ls ps bs):vG ks ls ps bs=true:=by unfold vG;simp [h]
theorem zW8 (ks:List KD) (ls:List LT) (ps:List Int) (bs:List BX) (h1:ks.length≤1000) (h2:ls.length≤1000) (h3:ps.length≤1000) (h4:bs.length≤1000) :
    aM Tryz.prog 58 [.rowE (jA ks) 2,.rowE (kE ls) 3,.rowE (ints ps) 1,.rowE (fL bs) 3] [] (.b (vG ks ls ps bs)) []:=by
  have e1:(jA ks).length=ks.length:=by simp
  have e2:(kE ls).length=ls.length:=by simp
  have e3:(ints ps).length=ps.length:=by simp
  have e4:(fL bs).length=bs.length:=by simp
  refine bS T Tryz.func58 rfl rfl rfl rfl ?_
  repeat' (first|refine wS ?_|refine wB ?_|refine wK ?_|refine wR ?_|(refine wC rfl ?_ ?_<;>(intro hb;(try simp only [nm] at hb);try omega))|(refine rg 0 (aV ?_))|(refine rg 1 (mW rfl (qW T rfl (mW rfl (qW T rfl (vV (gI rfl rfl) ?_))))))|(refine rg 2 (aV ?_))|(refine rg 3 (aV ?_))|refine nZ ?_)
  · (refine dU (.inl rfl) rfl (oM (xU fun h=>?_).symm);have:=h.len;omega)
  have hlen:ps.length=bs.length:=by omega
  refine dI (X:={k:Nat // k≤ps.length∧∀ i:Nat,i<k→(i:Int)∈ps}) (fun k=>[(0,.rowE (jA ks) 2),(1,.rowE (kE ls) 3),(2,.rowE (ints ps) 1),(3,.rowE (fL bs) 3),(9,.i k.1)]) (fun _=>[]) (fun k=>ps.length-k.1) ⟨0,by omega,fun i hi=>by omega⟩ (gQ []) ?_
  rintro ⟨k,hk,hp⟩;dsimp only;by_cases hlt:k<ps.length
  · repeat' (first|refine wS ?_|refine wB ?_|refine wK ?_|refine wR ?_|(refine wC rfl (fun hb=>?_) (fun hb=>?_) <;> (((try simp only [nm] at hb);try omega)))|(refine rg 4 (dJ rfl (qW T rfl (vV (aK rfl rfl) ?_))))|(refine rg 6 (dJ rfl (vV (by exact gD rfl rfl (WG ps _ h3) rfl rfl rfl) ?_));refine vV (dS rfl) ?_)|(refine rg 7 (aV ?_))|(refine iA 5 rfl rfl rfl (by omega) (by omega) ?_)|(refine nZ ?_))
    · (refine dU (.inl rfl) rfl (oM (xU fun h=>?_).symm);exact hb (h.p k hlt))
    · refine ⟨⟨k+1,by omega,fun i hi=>?_⟩,by dsimp only;omega,gQ []⟩
      by_cases e:i=k
      · subst e;exact hb
      · exact hp i (by omega)
  have hpA:∀ i:Nat,i<ps.length→(i:Int)∈ps:=fun i hi=>hp i (by omega)
  clear hp
  (repeat' (first|refine wS ?_|refine wB ?_|refine wE ?_|(refine wC rfl ?_ ?_<;>(intro hb;(try simp only [nm] at hb);try omega))|(refine rg 4 (dJ rfl (qW T rfl (vV (aK rfl rfl) ?_))))|(refine rg 8 (aV ?_))|refine nZ ?_));refine dI (X:={k:Nat // k≤ks.length∧∀ (i:Nat) (h:i<ks.length),i<k→0≤ks[i].2∧ks[i].2≤1048576}) (fun k=>[(0,.rowE (jA ks) 2),(1,.rowE (kE ls) 3),(2,.rowE (ints ps) 1),(3,.rowE (fL bs) 3),(10,.i k.1)]) (fun _=>[]) (fun k=>ks.length-k.1) ⟨0,by omega,fun i _ hi=>by omega⟩ (gQ []) ?_
  rintro ⟨k1,hk1,hq⟩;dsimp only;by_cases hlt1:k1<ks.length
  · (repeat' (first|refine wS ?_|refine wB ?_|refine wK ?_|refine wR ?_|refine sE rfl ?_|(refine wC rfl (fun hb=>?_) (fun hb=>?_) <;> (((try simp only [nm] at hb);try omega)))|(refine rg 9 (dJ rfl (qW T rfl (vV (aK rfl rfl) ?_))))|(refine rg 11 (dJ rfl (vV (ix T rfl (by omega) (yK ks) (I3 (k:=k1) hlt1)) (iK T rfl (vV (aK rfl rfl) (mV ?_)))));refine cD rfl rfl (fun hb=>?_) (fun hb=>?_) <;> ((rw [hb];(try simp only [nm] at hb);try ((exfalso;omega);done)));(all_goals first|(refine gT (mW rfl (gT (mW rfl (gT (vV (ix T rfl (by omega) (yK ks) (I3 (k:=k1) hlt1)) (gT (fW T rfl (gT (lV T ?_)))))))));refine gT (vV (fK rfl rfl) ?_))|(iterate 6 refine gF ?_));(all_goals (refine pV ?_)))|(refine rg 12 (aV ?_))|(refine iA 10 rfl rfl rfl (by omega) (by omega) ?_)|(refine nZ ?_)));all_goals first
      | (refine dU (.inl rfl) rfl (oM (xU fun h=>?_).symm);have:=h.k k1 hlt1;omega)
      | (refine ⟨⟨k1+1,by omega,fun i hi hik=>?_⟩,by dsimp only; omega,gQ []⟩
         by_cases e:i=k1
         · subst e;omega
         · exact hq i hi (by omega))
  have hkA:∀ (i:Nat) (h:i<ks.length),0≤ks[i].2∧ks[i].2≤1048576:=fun i hi=>hq i hi (by omega)
  clear hq
  (repeat' (first|refine wS ?_|refine wB ?_|refine wE ?_|(refine wC rfl ?_ ?_<;>(intro hb;(try simp only [nm] at hb);try omega))|(refine rg 9 (dJ rfl (qW T rfl (vV (aK rfl rfl) ?_))))|(refine rg 13 (aV ?_))|refine nZ ?_));refine dI (X:={k:Nat // k≤ls.length∧∀ (i:Nat) (h:i<ls.length),i<k→0≤ls[i].1∧ls[i].1<ks.length}) (fun k=>[(0,.rowE (jA ks) 2),(1,.rowE (kE ls) 3),(2,.rowE (ints ps) 1),(3,.rowE (fL bs) 3),(11,.i k.1)]) (fun _=>[]) (fun k=>ls.length-k.1) ⟨0,by omega,fun i _ hi=>by omega⟩ (gQ []) ?_
  rintro ⟨k2,hk2,hq⟩;dsimp only;by_cases hlt2:k2<ls.length
  · (repeat' (first|refine wS ?_|refine wB ?_|refine wK ?_|refine wR ?_|refine sE rfl ?_|(refine wC rfl (fun hb=>?_) (fun hb=>?_) <;> (((try simp only [nm] at hb);try omega)))|(refine rg 14 (dJ rfl (qW T rfl (vV (aK rfl rfl) ?_))))|(refine rg 16 (dJ rfl (vV (ix T rfl (by omega) (E9 ls) (Q7 (k:=k2) hlt2)) (iK T rfl (vV (aK rfl rfl) (mV ?_)))));refine cD rfl rfl (fun hb=>?_) (fun hb=>?_) <;> ((rw [hb];(try simp only [nm] at hb);try ((exfalso;omega);done)));(all_goals first|(refine gT (mW rfl (gT (mW rfl (gT (vV (ix T rfl (by omega) (E9 ls) (Q7 (k:=k2) hlt2)) (gT (fW T rfl (gT (lV T ?_)))))))));refine gT (mW rfl (gT (qW T rfl (gT (vV (iR rfl rfl) ?_))))))|(iterate 8 refine gF ?_));(all_goals (refine pV ?_)))|(refine rg 17 (aV ?_))|(refine iA 15 rfl rfl rfl (by omega) (by omega) ?_)|(refine nZ ?_)));all_goals first
      | (refine dU (.inl rfl) rfl (oM (xU fun h=>?_).symm);have:=h.l k2 hlt2;omega)
      | (refine ⟨⟨k2+1,by omega,fun i hi hik=>?_⟩,by dsimp only; omega,gQ []⟩
         by_cases e:i=k2
         · subst e;omega
         · exact hq i hi (by omega))
  have hlA:∀ (i:Nat) (h:i<ls.length),0≤ls[i].1∧ls[i].1<ks.length:=fun i hi=>hq i hi (by omega)
  clear hq
  (repeat' (first|refine wS ?_|refine wB ?_|refine wE ?_|(refine wC rfl ?_ ?_<;>(intro hb;(try simp only [nm] at hb);try omega))|(refine rg 14 (dJ rfl (qW T rfl (vV (aK rfl rfl) ?_))))|(refine rg 18 (aV ?_))|refine nZ ?_));refine dI (X:={k:Nat // k≤bs.length∧∀ (i:Nat) (h:i<bs.length),i<k→-1≤bs[i].1∧bs[i].1<ls.length∧0≤bs[i].2.1∧bs[i].2.1≤20000∧(bs[i].1 = -1→bs[i].2.1=0)∧0≤bs[i].2.2∧bs[i].2.2≤1073741824}) (fun k=>[(0,.rowE (jA ks) 2),(1,.rowE (kE ls) 3),(2,.rowE (ints ps) 1),(3,.rowE (fL bs) 3),(12,.i k.1)]) (fun _=>[]) (fun k=>bs.length-k.1) ⟨0,by omega,fun i _ hi=>by omega⟩ (gQ []) ?_
  rintro ⟨k3,hk3,hq⟩;dsimp only;by_cases hlt3:k3<bs.length
  · (repeat' (first|refine wS ?_|refine wB ?_|refine wK ?_|refine wR ?_|refine sE rfl ?_|(refine wC rfl (fun hb=>?_) (fun hb=>?_) <;> (((try simp only [nm] at hb);try omega)))|(refine rg 19 (dJ rfl (qW T rfl (vV (aK rfl rfl) ?_))))|(refine rg 21 (dJ rfl (vV (ix T rfl (by omega) (pF bs) (JF (k:=k3) hlt3)) (lW T rfl (cO (cN T rfl) rfl (bC T rfl rfl rfl rfl rfl rfl (by decide) rfl ?_))))))|(refine rg 22 (iK T rfl (vV (aK rfl rfl) (mV ?_)));refine cD rfl rfl (fun hb=>?_) (fun hb=>?_) <;> ((rw [hb];(try simp only [nm] at hb);try ((exfalso;omega);done)));(all_goals first|(refine gT (fW T rfl (gT (lW T rfl (gT (mW rfl (gT (qW T rfl (gT (vV (iR rfl rfl) ?_))))))))))|(iterate 5 refine gF ?_));(all_goals (refine pW rfl (mV ?_)));(all_goals first|(refine gK ?_)|(refine cD rfl rfl (fun hb=>?_) (fun hb=>?_) <;> ((rw [hb];(try simp only [nm] at hb);try ((exfalso;omega);done)))));(all_goals first|(refine gT (fW T rfl (gT (lW T rfl (gT (vV (aK rfl rfl) ?_))))))|(iterate 3 refine gF ?_));(all_goals (refine pW rfl (mV ?_)));(all_goals first|(refine gK ?_)|(refine cD rfl rfl (fun hb=>?_) (fun hb=>?_) <;> ((rw [hb];(try simp only [nm] at hb);try ((exfalso;omega);done)))));(all_goals first|(refine gT (fW T rfl (gT (lW T rfl (gT (vV (fK rfl rfl) ?_))))))|(iterate 3 refine gF ?_));(all_goals (refine pW rfl (mV ?_)));(all_goals first|(refine gK ?_)|(refine cD rfl rfl (fun hb=>?_) (fun hb=>?_) <;> ((rw [hb];(try simp only [nm] at hb);try ((exfalso;omega);done)))));(all_goals first|(refine gT (fW T rfl (gT (lW T rfl (gT (vV (fB rfl rfl) (gT (mV ?_))))))))|(iterate 4 refine gF ?_));(all_goals first|(refine gK ?_)|(refine cD rfl rfl (fun hb=>?_) (fun hb=>?_) <;> ((rw [hb];(try simp only [nm] at hb);try ((exfalso;omega);done)))));(all_goals first|(refine gT (fW T rfl (gT (lW T rfl (gT (vV (gI rfl rfl) ?_))))))|((iterate 3 first|refine gF ?_|refine gU ?_)));(all_goals first|(refine gT (pV ?_))|(refine gF ?_));(all_goals (refine pW rfl (mV ?_)));(all_goals first|(refine gK ?_)|(refine cD rfl rfl (fun hb=>?_) (fun hb=>?_) <;> ((rw [hb];(try simp only [nm] at hb);try ((exfalso;omega);done)))));(all_goals first|(refine gT (fW T rfl (gT (lW T rfl (gT (vV (aK rfl rfl) ?_))))))|(iterate 3 refine gF ?_));(all_goals (refine pW rfl (mV ?_)));(all_goals first|(refine gK ?_)|(refine cD rfl rfl (fun hb=>?_) (fun hb=>?_) <;> ((rw [hb];(try simp only [nm] at hb);try ((exfalso;omega);done)))));(all_goals first|(refine gT (fW T rfl (gT (lW T rfl (gT (vV (fK rfl rfl) ?_))))))|(iterate 3 refine gF ?_));(all_goals (refine pV ?_)))|(refine rg 23 (aV ?_))|(refine iA 20 rfl rfl rfl (by omega) (by omega) ?_)|(refine nZ ?_)));all_goals first
      | (refine dU (.inl rfl) rfl (oM (xU fun h=>?_).symm);have:=h.b k3 hlt3;omega)
      | (refine ⟨⟨k3+1,by omega,fun i hi hik=>?_⟩,by dsimp only; omega,gQ []⟩
         by_cases e:i=k3
         · subst e;omega
         · exact hq i hi (by omega))
  (repeat' (first|refine wS ?_|refine wR ?_|refine wE ?_|(refine wC rfl ?_ ?_<;>(intro hb;(try simp only [nm] at hb);try omega))|(refine rg 19 (dJ rfl (qW T rfl (vV (aK rfl rfl) ?_))))|(refine rg 24 (aV ?_))|refine nZ ?_));refine dU (.inl rfl) rfl (oM (SI ?_).symm)
  exact ⟨hlen,hpA,hkA,hlA,fun i hi=>hq i hi (by omega)⟩
abbrev zJ (ks:List KD) (ls:List LT) (ps:List Int) (bs:List BX):AV:=.agg [.rowE (jA ks) 2,.rowE (kE ls) 3,.rowE (ints ps) 1,.rowE (fL bs) 3]
def xJ1 (ks:List KD) (ls:List LT) (ps:List Int) (bs:List BX):Prop:=1≤ps.length∧ps.length≤8∧bs.length≤8∧ks.length≤10∧ls.length≤10
theorem yR6 {ks:List KD}{ls:List LT}{ps:List Int}{bs:List BX}(h:xJ1 ks ls ps bs) (ht:vG ks ls ps bs=true):yU9 ks ls ps bs:=by
 have ht:xE ks ls ps bs:=by
  unfold vG at ht;simpa using ht
 obtain ⟨h1,h2,h3,h4,h5⟩:=h;exact ⟨h1,h2,ht.len,h4,h5,ht.k,ht.l,fun i hi=>DT ps.length ps rfl ht.p _ (aO hi),ht.b⟩
theorem XS {m st er sl:Int}(h:H9 m st er sl=true):oY m st er sl:=by
 simp only [H9,aN,decide_eq_true_eq] at h;unfold oY;omega
theorem D3 {n f t:Int}(h:f≤n∧n≤t):aM Tryz.prog 106 [.i n,.i f,.i t] [] (.b true) []:=by
 have:=vC n f t
 rwa [show jK n f t=true by simp [jK,h]] at this
theorem LY {l:List Int}{n:Int}{i:Nat}(h:i<l.length) (hn:¬ BM l n i):LZ l n=false:=by
 unfold LZ;simp only [decide_eq_false_iff_not];exact fun hh=>hn (hh i h)
theorem FN {l:List Int}{n:Int}(h:∀ i,i<l.length→BM l n i):LZ l n=true:=by
 unfold LZ;simp only [decide_eq_true_eq];exact h
theorem WH {l:List Int}{k:Nat}(h:k<l.length):l.getD k 0=l[k]:=by simp [List.getD,h]
theorem JI (l:List Int) (n:Int) (hl:l.length≤9223372036854775807) (hn:0≤n∧n≤1000):aM Tryz.prog 103 [.rowE (ints l) 1,.i n] [] (.b (LZ l n)) []:=by
  have hlen:(ints l).length=l.length:=by simp
  refine bS T Tryz.func103 rfl rfl rfl rfl ?_
  (repeat' (first|refine wS ?_|refine wB ?_|(refine rg 0 (aV ?_))|(refine rg 1 (mW rfl (qW T rfl (mV ?_))))|refine nZ ?_));refine dI (X:={k:Nat // k≤l.length∧∀ i,i<k→BM l n i}) (fun k=>[(0,.rowE (ints l) 1),(1,.i n),(7,.rowE (ints l) 1),(8,.i (ints l).length),(9,.i k.1)]) (fun _=>[]) (fun k=>l.length-k.1) ⟨0,by omega,fun i hi=>by omega⟩ (gQ []) ?_
  rintro ⟨k,hk,hq⟩;dsimp only;by_cases hlt:k<l.length
  · have hg:=WH hlt;cases hw:jK l[k] 0 (n-1)
    · have c:=hw▸vC l[k] 0 (n-1);have hno:¬ BM l n k:=fun h=>by
        unfold BM at h;rw [hg] at h;rw [show jK l[k] 0 (n-1)=true by simp [jK];omega] at hw
        cases hw
      (repeat' (first|refine wS ?_|refine wB ?_|refine wK ?_|refine wR ?_|refine wT ?_|(refine wC rfl ?_ ?_<;>(intro hb;(try simp only [nm] at hb);try omega))|(refine rg 2 (vV (aK rfl rfl) ?_))|(refine rg 3 (mW rfl (vV (ix T rfl (by omega) (dY l) (mC (k:=k) hlt)) (lW T rfl (pT ?_)))))|(refine rg 4 (dJ rfl (vV (dC rfl rfl (by omega) (by omega)) (vV (kC (c)) (vV (dS rfl) (mV ?_)))));(iterate 3 refine gF ?_);(iterate 7 refine gU ?_);refine gF (pV ?_))|(refine rg 5 (aV ?_))|refine nZ ?_));exact dU (.inl rfl) rfl (oM (LY hlt hno).symm)
    · have c:=hw▸vC l[k] 0 (n-1);simp only [jK,aN,decide_eq_true_eq] at hw;by_cases hk0:0<k
      · have hlt':k-1<l.length:=by omega
        have hg':=WH hlt';have hc':(ints l)[((k:Int)-1).toNat]? = some [AV.i l[k-1]]:=by rw [show ((k:Int)-1).toNat=k-1 by omega];exact mC hlt'
        (repeat' (first|refine wS ?_|refine wB ?_|refine wK ?_|refine wR ?_|(refine wC rfl ?_ ?_<;>(intro hb;(try simp only [nm] at hb);try omega))|(refine rg 2 (vV (aK rfl rfl) ?_))|(refine rg 3 (mW rfl (vV (ix T rfl (by omega) (dY l) (mC (k:=k) hlt)) (lW T rfl (pT ?_)))))|(refine rg 4 (dJ rfl (vV (dC rfl rfl (by omega) (by omega)) (vV (kC (c)) (vV (dS rfl) (mW rfl (yN rfl (yV (fK rfl rfl) (yM ?_))))))));refine cD rfl rfl ?_ ?_<;>(intro hb;rw [hb];(try simp only [nm] at hb);try omega);(all_goals (refine yN rfl (yN rfl (yN rfl (yV (dC rfl rfl (by omega) (by omega)) (yV (ix T rfl (by omega) (dY l) hc') (yO T rfl (yV (iQ rfl rfl) (gT (pW rfl (pV ?_))))))))))))|(refine rg 5 (aV ?_))|(refine rg 6 (vV (cK rfl rfl (by omega) (by omega)) (mV ?_)))|refine nZ ?_));all_goals first
          | (exfalso;omega)
          | (refine dU (.inl rfl) rfl (oM (LY hlt (fun h=>?_)).symm);unfold BM at h;rw [hg,hg'] at h;omega)
          | (refine ⟨⟨k+1,by omega,fun i hi=>?_⟩,by dsimp only; omega,gQ []⟩
             by_cases e:i=k
             · subst e;unfold BM;rw [hg,hg'];omega
             · exact hq i (by omega))
      · obtain rfl:k=0:=by omega
        (repeat' (first|refine wS ?_|refine wB ?_|refine wK ?_|refine wU ?_|(refine wC rfl ?_ ?_<;>(intro hb;(try simp only [nm] at hb);try omega))|(refine rg 2 (vV (aK rfl rfl) ?_))|(refine rg 3 (mW rfl (vV (ix T rfl (by omega) (dY l) (mC (k:=0) hlt)) (lW T rfl (pT ?_)))))|(refine rg 4 (dJ rfl (vV (dC rfl rfl (by omega) (by omega)) (vV (kC (c)) (vV (dS rfl) (mW rfl (yN rfl (yV (fK rfl rfl) (yM ?_))))))));(iterate 7 refine gF ?_);refine gT (pW rfl (pV ?_)))|(refine rg 6 (vV (cK rfl rfl (by omega) (by omega)) (mV ?_)))|refine nZ ?_));all_goals first
          | (exfalso;omega)
          | (refine ⟨⟨1,by omega,fun i hi=>?_⟩,by dsimp only; omega,gQ []⟩
             obtain rfl:i=0:=by omega
             unfold BM;rw [hg];omega)
  · (repeat' (first|refine wS ?_|refine wR ?_|refine wE ?_|(refine wC rfl (fun hb=>?_) (fun hb=>?_) <;> (((try simp only [nm] at hb);try omega)))|(refine rg 2 (vV (aK rfl rfl) ?_))|(refine rg 7 (aV ?_))|(refine nZ ?_)));exact dU (.inl rfl) rfl (oM (FN fun i hi=>hq i (by omega)).symm)
theorem bF (l:List Int):∀ e,e∈ints l→AV.idfL e=true:=by
 intro e he;obtain ⟨i,_,rfl⟩:=bD.1 he;rfl
section
variable {ks:List KD}{ls:List LT}{ps:List Int}{bs:List BX}{m st er sl k a b n id lot ct ta done:Int}{ids:List Int}{M:Int}
end
section
variable {P:Program}{env:eG}{h:Hp}{d:Option Nat}{ty:TypeId}{pos:String}{af:Array Edge}{g:Option (Nat × Bool)}
end
section
variable {ks:List KD}{ls:List LT}{ps:List Int}{bs:List BX}{m st er sl k a b n id lot ct ta done:Int}{ids:List Int}{M:Int}
end
end Go.Proofs.Q
namespace Go.Proofs.Q
open Go Go.Ab Go.Shelf Go.Proofs
shelf_lay Lays.n189 Nm 189 at Tryz as laysSort
theorem SL (l:List Int) (hl:l.length≤17592186043904):aM Tryz.prog 74 [.sl 0 0 l.length 1] [.arr (ints l) 1] (.tup []) [.arr (ints (jF l)) 1]:=
 UL ⟨_,Tryz.func74,by kernel_rfl,by kernel_rfl⟩ (fun blk off cap zs w h1 h2 h3=>Any.slices_Sort_int laysSort blk off cap zs w h1 h2 h3) (fun p cap w=>Any.slices_Sort_int_none laysSort p cap w) l hl
end Go.Proofs.Q
namespace Go.Proofs.Q
open Go Go.Ab
attribute [local irreducible] VC AW bW aM AY VY GA
theorem LQ (l:List Int) (hl:l.length≤17592186043904):aM Tryz.prog 64 [.rowE (ints l) 1] [] (.sl 0 0 l.length 1) [.arr (ints l) 1]:=by
 have hll:(ints l).length=l.length:=by simp
 refine bS T Tryz.func64 rfl rfl rfl rfl ?_
 repeat' (first|refine wS ?_|refine wK ?_|refine wT ?_|refine wU ?_|(refine rg 0 (aV ?_))|(refine rg 1 (mV ?_);refine vE T rfl rfl rfl rfl fun b hb=>?_;cases b)|refine nZ ?_)
 ·(repeat' (first|refine wR ?_|(refine rg 3 (cO (by exact bG T rfl rfl (by decide) (by decide) rfl rfl rfl) rfl ?_);refine mW rfl (gJ T rfl rfl rfl rfl rfl rfl (by decide) (.row (dY l)) (R0 l) (by simp;omega) (by simp;omega) rfl ?_);refine aV ?_)|(refine nZ ?_)));exact ⟨.inl rfl,[1],_,rfl,(by show AV.sl 1 0 (0+(ints l).length) 1=AV.sl 1 0 l.length 1;simp),rfl,⟨.inr (aC rfl rfl (bF _)),trivial⟩,by decide,AM⟩
 ·have hl0:l=[]:=fH.1 (Classical.byContradiction fun h=>by have:=hb (by omega);cases this)
  subst hl0
  (repeat' (first|refine wR ?_|(refine rg 2 (vV (eD rfl) (oF 2 1 rfl (by decide) ?_)))|refine nZ ?_));exact ⟨.inl rfl,[0],_,rfl,rfl,rfl,⟨.inr (aC rfl rfl (bF _)),trivial⟩,by decide,AM⟩
abbrev zW0 (l:List Int):AV:=.clo (.func 154) [] [.pr [.rowE (ints l) 1] 0]
theorem CU (l:List Int):aM Tryz.prog 102 [.rowE (ints l) 1] [] (zW0 l) []:=by
 refine UO rfl ?_;refine bS T Tryz.func102 rfl rfl rfl rfl ?_
 (repeat' (first|refine wS ?_|refine wR ?_|(refine rg 0 (cO (dR rfl rfl) rfl (aV ?_)))|(refine rg 1 (vV (by exact kT rfl rfl) ?_);refine aV ?_)|refine nZ ?_));exact ⟨.inl rfl,[0],_,rfl,rfl,rfl,⟨.inr rfl,trivial⟩,by decide,AM⟩
def yM7 (l:List Int) (k:Nat):List AV:=match l[k]? with
 | some x=>[.i x]
 | none=>[]
theorem JV {l:List Int}{k:Nat}(h:k<l.length):yM7 l k=[.i l[k]]:=by unfold yM7;rw [aB h]
theorem XJ (l:List Int) (hl:l.length≤17592186043904):GA Tryz.prog 154 [] [.pr [.rowE (ints l) 1] 0] [] (yM7 l) l.length:=by
 have hll:(ints l).length=l.length:=by simp
 refine yL9 T Tryz.func154 rfl rfl rfl rfl ?_;intro J A y hJ hy
 (repeat' (first|(first|(refine A8 ?_)|(refine G3 ?_))|(((refine sO hJ (eU (id:=0) ?_)));(all_goals (refine lV T ?_;(refine qV T ?_);refine mV ?_)))|refine nZ ?_));refine LW (X:={k:Nat // k≤l.length}) (fun k=>[(0,.clo (.yield y) [] []),(5,.rowE (ints l) 1),(6,.i (ints l).length),(7,.i (k.1:Int))]) (fun _=>[]) (fun k=>(k.1,false)) (fun k=>l.length-k.1) ⟨0,bZ _⟩ rfl (gQ []) ?_
 rintro ⟨k,hkl⟩;dsimp only;by_cases hk:k<l.length
 ·have hit:=JV hk;have q1:(ints l)[(k:Int).toNat]? = some [AV.i l[k]]:=by rw [bI,bN,aB hk];rfl
  generalize l[k]=x at *
  (repeat' (first|(first|(refine A8 ?_)|(refine G3 ?_)|(refine CN ?_)|(refine zR6 ?_))|((refine A9 rfl (fun hb=>?_) (fun hb=>?_)<;>(((try simp only [nm] at hb);try ((exfalso;omega);done)))))|(((refine sO hJ (eU (id:=1) ?_)));(all_goals (refine vV (aK rfl rfl) ?_)))|(((refine sO hJ (eU (id:=2) ?_)));(all_goals (refine vV (ix T rfl (by omega) (dY _) q1) ?_;refine lV T ?_;refine aV ?_)))|(((refine JH (id:=3) ?_));((refine zD4 2 hJ ?_));(dsimp only [List.take,List.drop]);(all_goals (refine xC6 ?_;refine iI ?_;refine MY hJ hy rfl rfl rfl hk hit rfl ?_));(all_goals (intro yes));(all_goals (refine yJ8 hJ ?_;refine vV (dS rfl) ?_;refine BV (by ((dsimp only [List.nil_append,List.cons_append,List.append_nil,List.length_cons,List.length_nil,List.set_cons_zero,List.set_cons_succ,List.map_cons,List.map_nil,kR,nE,mR,tA,ND,D6,AF,AD,AC,AE,D5,D8,D4,D7,Nat.zero_add,Nat.add_zero,Nat.reduceAdd,Bool.not_true,Bool.not_false];done))) ?_)))|(((refine sO hJ (eU (id:=4) ?_)));(all_goals (refine vV (cK rfl rfl (by omega) (by omega)) ?_;refine mV ?_)))|refine nZ ?_));all_goals first|omega | skip
  ·exact ⟨.inl rfl,fun h=>(by first|(subst hb;cases h)|(cases h;done)),[],rfl⟩
  ·obtain rfl:=hb;exact ⟨⟨k+1,hk⟩,by dsimp only;omega,rfl,gQ []⟩
 ·(repeat' (first|(first|(refine A8 ?_)|(refine LX ?_))|((refine A9 rfl (fun hb=>?_) (fun hb=>?_) <;> (((try simp only [nm] at hb);try ((exfalso;omega);done)))))|(((refine sO hJ (eU (id:=1) ?_)));(all_goals (refine vV (aK rfl rfl) ?_)))|(refine BV (by ((dsimp only [List.nil_append,List.cons_append,List.append_nil,List.length_cons,List.length_nil,List.set_cons_zero,List.set_cons_succ,List.map_cons,List.map_nil,kR,nE,mR,tA,ND,D6,AF,AD,AC,AE,D5,D8,D4,D7,Nat.zero_add,Nat.add_zero,Nat.reduceAdd,Bool.not_true,Bool.not_false];done))) ?_)));all_goals first|omega | skip
  exact ⟨.inr rfl,fun _=>by show k=_;omega,[],rfl⟩
abbrev xF9 (l:List Int):Hp:=[.cells [.sl 1 0 l.length 1],.arr (ints l) 1]
theorem xC9:∀ i:Nat,i<1→([0,3]:List Nat)[i]? = some i:=by decide
theorem RC (l:List Int) (hl:l.length≤17592186043904):aM Tryz.prog 198 [.nils,zW0 l] [] (.sl 0 0 l.length 1) [.arr (ints l) 1]:=by
 have hit:=XJ l hl;refine bS T Tryz.func198 rfl rfl rfl rfl ?_
 (repeat' (first|refine wS ?_|refine wB ?_|(refine rg 0 (cO (dR rfl rfl) rfl (aV ?_)))|(refine rg 1 (mV ?_))|refine nZ ?_));refine mQ 0 0 1 rfl rfl (by decide) ?_
 refine QV [] [0,1] [(2,.ptr 0 0)] (fun k=>xF9 (l.take k)) 1 rfl hit rfl rfl rfl trivial eM rfl ⟨rfl,trivial⟩ ⟨.inr rfl,.inr rfl,trivial⟩ (by decide) (AM) (by simp) (bZ _) (aI rfl) rfl (by decide) (fun k hk=>by rw [JV hk];exact ⟨rfl,rfl⟩) ?_ ?_
 ·intro k hk;rw [JV hk];have hks:=aL hk;have hkl:(l.take k).length≤l.length:=List.length_take_le' _ _;generalize l.take k=K at hks hkl ⊢;generalize l[k]=x at *;refine eU (id:=2) ?_;refine vV (by exact eD rfl) ?_
  refine iI ?_;refine ⟨rfl,?_⟩
  repeat' (first|refine wB ?_|(refine rg 3 (lW T rfl (mW rfl (cO (by exact bG T rfl rfl (by decide) (by decide) rfl rfl rfl) rfl ?_)));refine gJ T rfl rfl rfl rfl rfl rfl (by simp) (kK.whole rfl rfl) rfl (by simp;omega) (by simp;omega) rfl ?_;refine bC T rfl rfl rfl rfl rfl rfl (by decide) rfl ?_)|refine nZ ?_)
  show MF _ _ _ _ (xF9 (l.take (k+1)));rw [hks];exact ⟨[0,3],rfl,trivial,⟨.inr (by simp;rfl),.inr (aC rfl (by simp;exact bO (by simp)) (bF _)),trivial⟩,by decide,xC9⟩
 ·have e:l.take l.length=l:=cM;rw [e]
  (repeat' (first|refine wS ?_|refine wR ?_|(refine rg 4 (lW T rfl (aV ?_)))|refine nZ ?_));exact ⟨.inl rfl,[1],_,rfl,rfl,rfl,⟨.inr (aC rfl rfl (bF _)),trivial⟩,by decide,AM⟩
theorem zA6 (l:List Int) (hl:l.length≤17592186043904):aM Tryz.prog 153 [zW0 l] [] (.sl 0 0 l.length 1) [.arr (ints l) 1]:=by
 have h1:=RC l hl;have hrf:=VZ l;refine bS T Tryz.func153 rfl rfl rfl rfl ?_
 (repeat' (first|refine wS ?_|refine wR ?_|(refine rg 0 (aV ?_))|(refine rg 1 (mW rfl (cO (by exact gH rfl rfl h1 (.inr ⟨rfl,rfl,by simp⟩)) rfl ?_));refine aV ?_)|refine nZ ?_));exact ⟨.inl rfl,[0],_,rfl,rfl,rfl,⟨.inr (aC rfl (EO _ _) (bF _)),trivial⟩,by decide,AM⟩
theorem NM (l:List Int) (hl:l.length≤17592186043904):aM Tryz.prog 101 [zW0 l] [] (.rowE (ints (jF l)) 1) []:=by
 refine kZ (by simp [zK]:l.length=(ints (jF l)).length) (ZE _) ?_
 have h1:=zA6 l hl;have h2:=SL l hl;have hrf:=VZ l;generalize jF l=B at *;refine bS T Tryz.func101 rfl rfl rfl rfl ?_
 (repeat' (first|refine wS ?_|refine wR ?_|(refine rg 0 (aV ?_))|(refine rg 1 (mW rfl (cO (by exact gH rfl rfl h1 (.inr ⟨rfl,rfl,by simp⟩)) rfl ?_));refine aV ?_)|(refine rg 2 (mW rfl (bT [0] rfl rfl h2 rfl rfl (by decide) ⟨.inr (aC rfl (EO _ _) (bF _)),trivial⟩ (by simp) rfl ?_)))|(refine rg 3 (mW rfl (aV ?_)))|refine nZ ?_));exact ⟨.inl rfl,[0],_,rfl,rfl,rfl,⟨.inr (aC rfl (EO _ _) (bF _)),trivial⟩,by decide,AM⟩
end Go.Proofs.Q
namespace Go.Pm
structure Rt (p:List Nat):Prop where
 nd:p.Nodup
 lt:∀ x,x∈p→x<p.length
abbrev mJ (p:List Nat) (i:Nat):Nat:=p.getD i 0
theorem oV {p:List Nat}{i:Nat}(h:i<p.length):mJ p i=p[i]:=by
 rw [mJ,aE,aB h];rfl
theorem Rt.ltAt {p:List Nat}(r:Rt p){i:Nat}(h:i<p.length):mJ p i<p.length:=by
 rw [oV h];exact r.lt _ (aO h)
theorem Rt.inj {p:List Nat}(r:Rt p){i j:Nat}(hi:i<p.length) (hj:j<p.length) (e:mJ p i=mJ p j):i=j:=by
 rw [oV hi,oV hj] at e;have h:=uI.1 r.nd;rcases Nat.lt_trichotomy i j with h1 | h1 | h1
 ·exact absurd e (h i j hi hj h1)
 ·exact h1
 ·exact absurd e.symm (h j i hj hi h1)
theorem Rt.mem {p:List Nat}(r:Rt p){x:Nat}(h:x<p.length):x∈p:=by
 apply Classical.byContradiction;intro hx;have h1:(x::p).Nodup:=fR.2 ⟨hx,r.nd⟩
 have:=h1.length_le_of_subset (l₂:=List.range p.length) (fun y hy=>by
  rw [fG];rcases bQ.1 hy with rfl | hy
  ·exact h
  ·exact r.lt y hy)
 simp at this;omega
theorem yW7 {p:List Nat}(h1:∀ i,i<p.length→mJ p i<p.length) (h2:∀ i j,i<p.length→j<p.length→mJ p i=mJ p j→i=j):Rt p:=by
 refine ⟨?_,fun x hx=>?_⟩
 ·rw [List.Nodup,uI];intro i j hi hj hij e;have:=h2 i j hi hj (by rw [oV hi,oV hj];exact e)
  omega
 ·obtain ⟨i,hi,rfl⟩:=pB.1 hx;rw [← oV hi];exact h1 i hi
theorem yR8 {p q:List Nat}(hl:p.length=q.length) (h:∀ i,i<p.length→mJ p i=mJ q i):p=q:=by
 refine lP hl fun i h1 h2=>?_
 have:=h i h1
 rwa [oV h1,oV h2] at this
theorem yT6 {f:Nat→Nat}{l:List Nat}{i:Nat}(h:i<l.length):mJ (l.map f) i=f (mJ l i):=by
 rw [oV (by simpa using h),oV h];simp
theorem zS3 {l:List Nat}{i j v:Nat}(h:i<l.length):mJ (l.set i v) j=if i=j then v else mJ l j:=by
 rw [mJ,aE,iC];by_cases e:i=j
 ·rw [if_pos e,if_pos e,if_pos h];rfl
 ·rw [if_neg e,if_neg e,mJ,aE]
def comp (p q:List Nat):List Nat:=q.map (mJ p)
theorem qD (p q:List Nat):(comp p q).length=q.length:=aU _
theorem CM {p q:List Nat}{i:Nat}(h:i<q.length):mJ (comp p q) i=mJ p (mJ q i):=yT6 h
def MS (p:List Nat) (a b:Nat):List Nat:=(p.set a (mJ p b)).set b (mJ p a)
theorem H5 (p:List Nat) (a b:Nat):(MS p a b).length=p.length:=by simp [MS]
theorem CV {p:List Nat}{a b i:Nat}(ha:a<p.length) (hb:b<p.length):mJ (MS p a b) i=if b=i then mJ p a else if a=i then mJ p b else mJ p i:=by
 unfold MS;rw [zS3 (by simpa using hb),zS3 ha]
theorem yN5 {p:List Nat}(r:Rt p){a b:Nat}(ha:a<p.length) (hb:b<p.length):Rt (MS p a b):=by
 refine yW7 (fun i hi=>?_) (fun i j hi hj e=>?_)
 ·rw [H5] at hi ⊢;rw [CV ha hb];split
  ·exact r.ltAt ha
  ·split
   ·exact r.ltAt hb
   ·exact r.ltAt hi
 ·rw [H5] at hi hj;rw [CV ha hb,CV ha hb] at e;by_cases h1:b=i
  ·subst h1;rw [if_pos rfl] at e;by_cases h2:b=j
   ·exact h2
   ·rw [if_neg h2] at e;by_cases h3:a=j
    ·rw [if_pos h3] at e;have:=r.inj ha hb e;omega
    ·rw [if_neg h3] at e;exact absurd (r.inj ha hj e) h3
  ·rw [if_neg h1] at e;by_cases h2:b=j
   ·subst h2;rw [if_pos rfl] at e;by_cases h3:a=i
    ·rw [if_pos h3] at e;have:=r.inj hb ha e;omega
    ·rw [if_neg h3] at e;exact absurd (r.inj hi ha e).symm h3
   ·rw [if_neg h2] at e;by_cases h3:a=i
    ·rw [if_pos h3] at e;by_cases h4:a=j
     ·omega
     ·rw [if_neg h4] at e;exact absurd (r.inj hb hj e) h2
    ·rw [if_neg h3] at e;by_cases h4:a=j
     ·rw [if_pos h4] at e;exact absurd (r.inj hi hb e).symm h1
     ·rw [if_neg h4] at e;exact r.inj hi hj e
theorem zE5 {p q:List Nat}{a b:Nat}(ha:a<q.length) (hb:b<q.length):comp p (MS q a b)=MS (comp p q) a b:=by
 refine yR8 (by simp [qD,H5]) fun i hi=>?_
 rw [qD,H5] at hi;rw [CM (by rw [H5];exact hi),CV ha hb,CV (by rw [qD];exact ha) (by rw [qD];exact hb),CM ha,CM hb,CM hi]
 split
 ·rfl
 ·split <;> rfl
inductive Sw (x:List Nat):Bool→List Nat→Prop
 | refl:Sw x false x
 | swap {b:Bool} {y:List Nat} {i j:Nat}:Sw x b y→i<x.length→j<x.length→i≠j→Sw x (!b) (MS y i j)
theorem Sw.len {x y:List Nat}{b:Bool}(h:Sw x b y):y.length=x.length:=by
 induction h with
 | refl=>rfl
 | swap _ _ _ _ ih=>rw [H5];exact ih
theorem Sw.rt {x y:List Nat}{b:Bool}(h:Sw x b y) (r:Rt x):Rt y:=by
 induction h with
 | refl=>exact r
 | swap h' h1 h2 _ ih=>exact yN5 ih (by rw [h'.len];exact h1) (by rw [h'.len];exact h2)
theorem Sw.comp {p x y:List Nat}{b:Bool}(h:Sw x b y):Sw (comp p x) b (comp p y):=by
 induction h with
 | refl=>exact .refl
 | swap h' h1 h2 h3 ih=>
  rw [zE5 (by rw [h'.len];exact h1) (by rw [h'.len];exact h2)]
  exact .swap ih (by rw [qD];exact h1) (by rw [qD];exact h2) h3
abbrev bt (s:List Bool) (i:Nat):Bool:=s.getD i false
theorem yT3 {s:List Bool}{i j:Nat}{v:Bool}(h:i<s.length):bt (s.set i v) j=if i=j then v else bt s j:=by
 rw [bt,aE,iC];by_cases e:i=j
 ·rw [if_pos e,if_pos e,if_pos h];rfl
 ·rw [if_neg e,if_neg e,bt,aE]
def yH0 (p:List Nat):Nat→List Bool→List Nat→Nat→List Bool × List Nat
 | 0,sn,c,_=>(sn,c)
 | f+1,sn,c,k=>if bt sn k then (sn,c) else yH0 p f (sn.set k true) (c++[k]) (mJ p k)
def zA4 (p:List Nat):Nat→List Bool × List (List Nat)
 | 0=>(List.replicate p.length false,[])
 | i+1=>((yH0 p p.length (zA4 p i).1 [] i).1,if 1<(yH0 p p.length (zA4 p i).1 [] i).2.length then (zA4 p i).2++[(yH0 p p.length (zA4 p i).1 [] i).2] else (zA4 p i).2)
def xE3 (p:List Nat):List (List Nat):=(zA4 p p.length).2
structure CI (p:List Nat) (sn0:List Bool) (i:Nat) (sn:List Bool) (c:List Nat) (k:Nat):Prop where
 len:sn.length=p.length
 nd:c.Nodup
 lt:∀ x,x∈c→x<p.length
 sn:∀ x,x<p.length→(bt sn x=true↔bt sn0 x=true∨x∈c)
 new:∀ x,x∈c→bt sn0 x=false
 z:c=[]→k=i
 hd:c≠[]→mJ c 0=i
 nx:c≠[]→k=mJ p (mJ c (c.length-1))
 st:∀ j,j+1<c.length→mJ c (j+1)=mJ p (mJ c j)
 k:k<p.length
theorem CO {c:List Nat}{k j:Nat}:mJ (c++[k]) j=if j<c.length then mJ c j else if j=c.length then k else 0:=by
 rw [mJ,aE];by_cases h:j<c.length
 ·rw [if_pos h,aG h,mJ,aE]
 ·rw [if_neg h,aF (by omega)]
  by_cases h2:j=c.length
  ·rw [if_pos h2,h2];simp
  ·rw [if_neg h2];rw [dA (by simp;omega)];rfl
theorem CI.step {p:List Nat}(r:Rt p){sn0 sn:List Bool}{i k:Nat}{c:List Nat}(h:CI p sn0 i sn c k) (hb:bt sn k=false):CI p sn0 i (sn.set k true) (c++[k]) (mJ p k):=by
 have hk:=h.k;have hkc:¬ (bt sn0 k=true∨k∈c):=fun q=>by rw [(h.sn k hk).2 q] at hb;cases hb
 refine ⟨by simp [h.len],?_,fun x hx=>?_,fun x hx=>?_,fun x hx=>?_,fun e=>by simp at e,fun _=>?_,fun _=>?_,fun j hj=>?_,r.ltAt hk⟩
 ·rw [dB];exact ⟨h.nd,by simp,fun a ha b hb e=>by simp at hb;subst hb;subst e;exact hkc (.inr ha)⟩
 ·rcases bH.1 hx with hx | hx
  ·exact h.lt x hx
  ·simp at hx;subst hx;exact hk
 ·rw [yT3 (by rw [h.len];exact hk)]
  by_cases e:k=x
  ·subst e;simp
  ·rw [if_neg e,h.sn x hx];simp [Ne.symm e]
 ·rcases bH.1 hx with hx | hx
  ·exact h.new x hx
  ·simp at hx;subst hx;rw [← fA];exact fun q=>hkc (.inl q)
 ·rw [CO];cases c with
  | nil=>simp;exact h.z rfl
  | cons a c=>simp;exact h.hd (by simp)
 ·simp [CO]
 ·simp at hj;rw [CO,CO,if_pos hj];by_cases e:j+1<c.length
  ·rw [if_pos e];exact h.st j e
  ·rw [if_neg e,if_pos (by omega)]
   have:=h.nx (by intro q;subst q;simp at hj)
   rw [this,show c.length-1=j by omega]
structure xJ2 (p:List Nat) (c:List Nat):Prop where
 ne:c≠[]
 nd:c.Nodup
 lt:∀ x,x∈c→x<p.length
 st:∀ j,j<c.length→mJ p (mJ c j)=mJ c ((j+1) % c.length)
theorem CI.fin {p:List Nat}(r:Rt p){sn0 sn:List Bool}{i k:Nat}{c:List Nat}(h:CI p sn0 i sn c k) (hcl:∀ x,x<p.length→bt sn0 (mJ p x)=true→bt sn0 x=true) (hb:bt sn k=true) (hc:c≠[]):xJ2 p c:=by
 have hc0:0<c.length:=eO.2 hc;have hlast:mJ c (c.length-1)∈c:=by rw [oV (by omega)];exact aO _
 have hki:k=mJ c 0:=by
  have hnx:=h.nx hc;rcases (h.sn k h.k).1 hb with h1 | h1
  ·rw [hnx] at h1;have:=hcl _ (h.lt _ hlast) h1;rw [h.new _ hlast] at this;cases this
  ·obtain ⟨j,hj,e⟩:=pB.1 h1;rw [← oV hj] at e;cases j with
   | zero=>exact e.symm
   | succ j=>
    have h2:=h.st j hj;rw [e,hnx] at h2;have hjm:mJ c j∈c:=by rw [oV (by omega)];exact aO _
    have h3:=r.inj (h.lt _ hlast) (h.lt _ hjm) h2;rw [oV (by omega),oV (by omega)] at h3
    have hp:=uI.1 h.nd;exact absurd h3.symm (hp j (c.length-1) (by omega) (by omega) (by omega))
 refine ⟨hc,h.nd,h.lt,fun j hj=>?_⟩
 by_cases e:j+1<c.length
 ·rw [Nat.mod_eq_of_lt e,h.st j e]
 ·have:j=c.length-1:=by omega
  rw [show j+1=c.length by omega,Nat.mod_self,← hki,h.nx hc,this]
theorem EE {c:List Nat}(h:c.Nodup){i j:Nat}(hi:i<c.length) (hj:j<c.length) (e:mJ c i=mJ c j):i=j:=by
 rw [oV hi,oV hj] at e;have h:=uI.1 h;rcases Nat.lt_trichotomy i j with h1 | h1 | h1
 ·exact absurd e (h i j hi hj h1)
 ·exact h1
 ·exact absurd e.symm (h j i hj hi h1)
def xD7:Nat→Nat
 | 0=>1
 | n+1=>xD7 n*(n+1)
abbrev Up (l:List Nat):Prop:=l.Pairwise (· < ·)
theorem Rt.perm {p:List Nat}(r:Rt p):p.Perm (List.range p.length):=
 (List.perm_ext_iff_of_nodup r.nd yJ1).2 fun x=>by rw [fG];exact ⟨r.lt x,r.mem⟩
end Go.Pm
namespace Go.Pm
open Go.Ab
def permB (p:List Int):Bool:=decide (jF p=nats (List.range p.length))
theorem le_tr:∀ (a b c:Int),decide (a≤b)=true→decide (b≤c)=true→decide (a≤c)=true:=fun a b c h1 h2=>by simp at *;omega
theorem yQ3:∀ (a b:Int),(decide (a≤b)||decide (b≤a))=true:=fun a b=>by simp;omega
theorem sorted_perm (p:List Int):(jF p).Perm p:=List.mergeSort_perm _ _
theorem sorted_up (p:List Int):(jF p).Pairwise (fun a b=>a≤b):=
 (List.pairwise_mergeSort le_tr yQ3 p).imp (fun h=>by simpa using h)
theorem sorted_eq {p q:List Int}(h:p.Perm q) (hq:q.Pairwise (fun a b=>a≤b)):jF p=q:=
 List.Perm.eq_of_pairwise (le:=fun a b=>a≤b) (fun a b _ _ h1 h2=>by omega) (sorted_up p) hq ((sorted_perm p).trans h)
theorem range_le (n:Nat):(nats (List.range n)).Pairwise (fun a b=>a≤b):=
 List.Pairwise.map _ (fun a b h=>by omega) (GP (n:=n))
end Go.Pm
namespace Go.Ab
open Go
section
variable {P:Program}
end
end Go.Ab
namespace Go.Proofs.Q
open Go Go.Ab
attribute [local irreducible] VC AW bW aM
theorem lO {θ:Nat→Nat}{f:Fn}{caps:List AV}(hi:AV.idfL caps=true):(AV.clo f [] caps).map θ = .clo f [] caps:=by
 show AV.clo f (AV.mapL θ []) (AV.mapL θ caps)=_;rw [tT θ caps hi];rfl
theorem zM8 {w:List KD}{F:FuncId}{caps:List AV}(hl:w.length≤1000) (hi:AV.idfL caps=true) (hF:∀ x,x∈w→aM Tryz.prog F (.agg [AV.v (.string x.1),AV.i x.2]::caps) [] (.b false) []) :
  aM Tryz.prog 155 [.rowE (jA w) 2,.clo (.func F) [] caps] [] (.i (-1)) []:=by
 have hlen:(jA w).length=w.length:=by simp
 refine bS T Tryz.func155 rfl rfl rfl rfl ?_
 (repeat' (first|refine wS ?_|refine wB ?_|(refine rg 0 (aV ?_))|(refine rg 1 (mW rfl (qW T rfl (mV ?_))))|refine nZ ?_));refine dI (X:={k:Nat // k≤w.length}) (fun k=>[(0,.rowE (jA w) 2),(1,.clo (.func F) [] caps),(7,.i (jA w).length),(8,.i k.1)]) (fun _=>[]) (fun k=>w.length-k.1) ⟨0,by simp⟩ ⟨[],rfl,⟨rfl,by rw [lO hi];rfl,rfl,rfl,trivial⟩,trivial,eM,fun _ h=>absurd h (eV _)⟩ ?_
 rintro ⟨k,hk⟩;dsimp only;by_cases hlt:k<w.length
 ·have hc:=hF w[k] (aO hlt);have hg:=I3 (l:=w) hlt;generalize w[k]=y at *
  (repeat' (first|refine wS ?_|refine wB ?_|refine wK ?_|refine wU ?_|(refine wC rfl ?_ ?_<;>(intro hb;(try simp only [nm] at hb);try omega))|(refine rg 2 (vV (aK rfl rfl) ?_))|(refine rg 3 (mW rfl (aV ?_)))|(refine rg 4 (dJ rfl (mW rfl (vV (ix T rfl (by omega) (yK w) hg) (lW T rfl (vV (by exact gD rfl rfl hc rfl (by simp [AV.idfL,AV.idf,hi]) rfl) ?_))))))|(refine rg 6 (vV (cK rfl rfl (by omega) (by omega)) (mV ?_)))|refine nZ ?_));all_goals first|omega | exact ⟨⟨k+1,hlt⟩,by dsimp only;omega,⟨[],rfl,⟨rfl,by rw [lO hi];rfl,rfl,rfl,trivial⟩,trivial,eM,fun _ h=>absurd h (eV _)⟩⟩
 ·(repeat' (first|refine wS ?_|refine wR ?_|refine wE ?_|(refine wC rfl (fun hb=>?_) (fun hb=>?_) <;> (((try simp only [nm] at hb);try omega)))|(refine rg 2 (vV (aK rfl rfl) ?_))|(refine rg 7 (aV ?_))|(refine nZ ?_)));all_goals first|omega | exact rQ
theorem yQ8 {w:List KD}{F:FuncId}{caps:List AV}(hl:w.length≤1000) (hi:AV.idfL caps=true) (hF:∀ x,x∈w→aM Tryz.prog F (.agg [AV.v (.string x.1),AV.i x.2]::caps) [] (.b false) []) :
  aM Tryz.prog 104 [.rowE (jA w) 2,.clo (.func F) [] caps] [] (.b false) []:=by
 have hc:=zM8 hl hi hF;refine bS T Tryz.func104 rfl rfl rfl rfl ?_
 (repeat' (first|refine wS ?_|refine wR ?_|(refine rg 0 (aV ?_))|(refine rg 1 (dJ rfl (vV (by exact gD rfl rfl hc rfl (by simp [AV.idfL,AV.idf,hi]) rfl) ?_));refine vV (iR rfl rfl) (aV ?_))|refine nZ ?_));all_goals first|omega | exact rQ
theorem zM7 {w:List LT}{F:FuncId}{caps:List AV}(hl:w.length≤1000) (hi:AV.idfL caps=true) (hF:∀ x,x∈w→aM Tryz.prog F (.agg [AV.i x.1,AV.i x.2.1,AV.b x.2.2]::caps) [] (.b false) []) :
  aM Tryz.prog 156 [.rowE (kE w) 3,.clo (.func F) [] caps] [] (.i (-1)) []:=by
 have hlen:(kE w).length=w.length:=by simp
 refine bS T Tryz.func156 rfl rfl rfl rfl ?_
 (repeat' (first|refine wS ?_|refine wB ?_|(refine rg 0 (aV ?_))|(refine rg 1 (mW rfl (qW T rfl (mV ?_))))|refine nZ ?_));refine dI (X:={k:Nat // k≤w.length}) (fun k=>[(0,.rowE (kE w) 3),(1,.clo (.func F) [] caps),(7,.i (kE w).length),(8,.i k.1)]) (fun _=>[]) (fun k=>w.length-k.1) ⟨0,by simp⟩ ⟨[],rfl,⟨rfl,by rw [lO hi];rfl,rfl,rfl,trivial⟩,trivial,eM,fun _ h=>absurd h (eV _)⟩ ?_
 rintro ⟨k,hk⟩;dsimp only;by_cases hlt:k<w.length
 ·have hc:=hF w[k] (aO hlt);have hg:=Q7 (l:=w) hlt;generalize w[k]=y at *
  (repeat' (first|refine wS ?_|refine wB ?_|refine wK ?_|refine wU ?_|(refine wC rfl ?_ ?_<;>(intro hb;(try simp only [nm] at hb);try omega))|(refine rg 2 (vV (aK rfl rfl) ?_))|(refine rg 3 (mW rfl (aV ?_)))|(refine rg 4 (dJ rfl (mW rfl (vV (ix T rfl (by omega) (E9 w) hg) (lW T rfl (vV (by exact gD rfl rfl hc rfl (by simp [AV.idfL,AV.idf,hi]) rfl) ?_))))))|(refine rg 6 (vV (cK rfl rfl (by omega) (by omega)) (mV ?_)))|refine nZ ?_));all_goals first|omega | exact ⟨⟨k+1,hlt⟩,by dsimp only;omega,⟨[],rfl,⟨rfl,by rw [lO hi];rfl,rfl,rfl,trivial⟩,trivial,eM,fun _ h=>absurd h (eV _)⟩⟩
 ·(repeat' (first|refine wS ?_|refine wR ?_|refine wE ?_|(refine wC rfl (fun hb=>?_) (fun hb=>?_) <;> (((try simp only [nm] at hb);try omega)))|(refine rg 2 (vV (aK rfl rfl) ?_))|(refine rg 7 (aV ?_))|(refine nZ ?_)));all_goals first|omega | exact rQ
theorem yQ7 {w:List LT}{F:FuncId}{caps:List AV}(hl:w.length≤1000) (hi:AV.idfL caps=true) (hF:∀ x,x∈w→aM Tryz.prog F (.agg [AV.i x.1,AV.i x.2.1,AV.b x.2.2]::caps) [] (.b false) []) :
  aM Tryz.prog 107 [.rowE (kE w) 3,.clo (.func F) [] caps] [] (.b false) []:=by
 have hc:=zM7 hl hi hF;refine bS T Tryz.func107 rfl rfl rfl rfl ?_
 (repeat' (first|refine wS ?_|refine wR ?_|(refine rg 0 (aV ?_))|(refine rg 1 (dJ rfl (vV (by exact gD rfl rfl hc rfl (by simp [AV.idfL,AV.idf,hi]) rfl) ?_));refine vV (iR rfl rfl) (aV ?_))|refine nZ ?_));all_goals first|omega | exact rQ
theorem zM9 {w:List BX}{F:FuncId}{caps:List AV}(hl:w.length≤1000) (hi:AV.idfL caps=true) (hF:∀ x,x∈w→aM Tryz.prog F (.agg [AV.i x.1,AV.i x.2.1,AV.i x.2.2]::caps) [] (.b false) []) :
  aM Tryz.prog 157 [.rowE (fL w) 3,.clo (.func F) [] caps] [] (.i (-1)) []:=by
 have hlen:(fL w).length=w.length:=by simp
 refine bS T Tryz.func157 rfl rfl rfl rfl ?_
 (repeat' (first|refine wS ?_|refine wB ?_|(refine rg 0 (aV ?_))|(refine rg 1 (mW rfl (qW T rfl (mV ?_))))|refine nZ ?_));refine dI (X:={k:Nat // k≤w.length}) (fun k=>[(0,.rowE (fL w) 3),(1,.clo (.func F) [] caps),(7,.i (fL w).length),(8,.i k.1)]) (fun _=>[]) (fun k=>w.length-k.1) ⟨0,by simp⟩ ⟨[],rfl,⟨rfl,by rw [lO hi];rfl,rfl,rfl,trivial⟩,trivial,eM,fun _ h=>absurd h (eV _)⟩ ?_
 rintro ⟨k,hk⟩;dsimp only;by_cases hlt:k<w.length
 ·have hc:=hF w[k] (aO hlt);have hg:=JF (l:=w) hlt;generalize w[k]=y at *
  (repeat' (first|refine wS ?_|refine wB ?_|refine wK ?_|refine wU ?_|(refine wC rfl ?_ ?_<;>(intro hb;(try simp only [nm] at hb);try omega))|(refine rg 2 (vV (aK rfl rfl) ?_))|(refine rg 3 (mW rfl (aV ?_)))|(refine rg 4 (dJ rfl (mW rfl (vV (ix T rfl (by omega) (pF w) hg) (lW T rfl (vV (by exact gD rfl rfl hc rfl (by simp [AV.idfL,AV.idf,hi]) rfl) ?_))))))|(refine rg 6 (vV (cK rfl rfl (by omega) (by omega)) (mV ?_)))|refine nZ ?_));all_goals first|omega | exact ⟨⟨k+1,hlt⟩,by dsimp only;omega,⟨[],rfl,⟨rfl,by rw [lO hi];rfl,rfl,rfl,trivial⟩,trivial,eM,fun _ h=>absurd h (eV _)⟩⟩
 ·(repeat' (first|refine wS ?_|refine wR ?_|refine wE ?_|(refine wC rfl (fun hb=>?_) (fun hb=>?_) <;> (((try simp only [nm] at hb);try omega)))|(refine rg 2 (vV (aK rfl rfl) ?_))|(refine rg 7 (aV ?_))|(refine nZ ?_)));all_goals first|omega | exact rQ
theorem yR1 {w:List BX}{F:FuncId}{caps:List AV}(hl:w.length≤1000) (hi:AV.idfL caps=true) (hF:∀ x,x∈w→aM Tryz.prog F (.agg [AV.i x.1,AV.i x.2.1,AV.i x.2.2]::caps) [] (.b false) []) :
  aM Tryz.prog 109 [.rowE (fL w) 3,.clo (.func F) [] caps] [] (.b false) []:=by
 have hc:=zM9 hl hi hF;refine bS T Tryz.func109 rfl rfl rfl rfl ?_
 (repeat' (first|refine wS ?_|refine wR ?_|(refine rg 0 (aV ?_))|(refine rg 1 (dJ rfl (vV (by exact gD rfl rfl hc rfl (by simp [AV.idfL,AV.idf,hi]) rfl) ?_));refine vV (iR rfl rfl) (aV ?_))|refine nZ ?_));all_goals first|omega | exact rQ
theorem zD9 (x:KD) (h:0≤x.2∧x.2≤1048576):aM Tryz.prog 105 [.agg [AV.v (.string x.1),AV.i x.2]] [] (.b false) []:=by
 have hw:=D3 (n:=x.2) (f:=0) (t:=1048576) h;refine bS T Tryz.func105 rfl rfl rfl rfl ?_
 (repeat' (first|refine wS ?_|refine wR ?_|(refine rg 0 (cO (dR rfl rfl) rfl (aV ?_)))|(refine rg 1 (iK T rfl (vV (kC (hw)) (vV (dS rfl) (aV ?_)))))|refine nZ ?_));all_goals first|omega | exact rQ
theorem zD8 (ks:List KD) (x:LT) (h:0≤x.1∧x.1<ks.length) (hk:ks.length≤1000):aM Tryz.prog 108 [.agg [AV.i x.1,AV.i x.2.1,AV.b x.2.2],.pr [.rowE (jA ks) 2] 0] [] (.b false) []:=by
 have e1:(jA ks).length=ks.length:=by simp
 have hw:=D3 (n:=x.1) (f:=0) (t:=((jA ks).length:Int)-1) (by omega)
 refine bS T Tryz.func108 rfl rfl rfl rfl ?_
 (repeat' (first|refine wS ?_|refine wR ?_|(refine rg 0 (cO (dR rfl rfl) rfl (aV ?_)))|(refine rg 1 (iK T rfl (lW T rfl (qW T rfl (vV (dC rfl rfl (by omega) (by omega)) (vV (kC (hw)) (vV (dS rfl) (aV ?_))))))))|refine nZ ?_));all_goals first|omega | exact rQ
theorem zE0 (ls:List LT) (x:BX) (h:-1≤x.1∧x.1<ls.length∧0≤x.2.1∧x.2.1≤20000∧(x.1 = -1→x.2.1=0)∧0≤x.2.2∧x.2.2≤1073741824) (hk:ls.length≤1000):aM Tryz.prog 110 [.agg [AV.i x.1,AV.i x.2.1,AV.i x.2.2],.pr [.rowE (kE ls) 3] 0] [] (.b false) []:=by
 have e1:(kE ls).length=ls.length:=by simp
 obtain ⟨lot,ct,ta⟩:=x;dsimp only at h ⊢;have h1:=D3 (n:=lot) (f:=-1) (t:=((kE ls).length:Int)-1) (by omega)
 have h2:=D3 (n:=ct) (f:=0) (t:=20000) (by omega)
 have h3:=D3 (n:=ta) (f:=0) (t:=1073741824) (by omega)
 refine bS T Tryz.func110 rfl rfl rfl rfl ?_
 (repeat' (first|refine wS ?_|refine wR ?_|(refine rg 0 (cO (dR rfl rfl) rfl (aV ?_)))|(refine rg 1 (iK T rfl (lW T rfl (qW T rfl (vV (dC rfl rfl (by omega) (by omega)) (vV (kC (h1)) (vV (dS rfl) (mW rfl (yP T rfl (yL T ?_)))))))));refine yV (kC (h2)) (yV (dS rfl) (pW rfl (mW rfl (yP T rfl (yO T rfl (yV (aK rfl rfl) (yM ?_)))))));refine cD rfl rfl ?_ ?_<;>(intro hb;rw [hb];(try simp only [nm] at hb);try omega);(all_goals first|(refine gT (fW T rfl (gT (lW T rfl (gT (vV (fK rfl rfl) ?_))))))|(iterate 3 refine gF ?_));(all_goals (refine gT (pW rfl (pW rfl (mV ?_)))));(all_goals first|(refine gK ?_)|(refine cD rfl rfl ?_ ?_<;>(intro hb;rw [hb];(try simp only [nm] at hb);try omega)));(all_goals (refine yP T rfl (yO T rfl (yV (kC (h3)) (yV (dS rfl) (pW rfl (aV ?_))))))))|refine nZ ?_));all_goals first|omega | exact rQ
theorem DS:∀ (l m:List Int),l.Nodup→(∀ x,x∈l→x∈m)→m.length≤l.length→l.Perm m
 | [],m,_,_,hl=>by
  have:m=[]:=fH.1 (by simpa using hl)
  subst this;exact List.Perm.refl _
 | x::l,m,hn,hs,hl=>by
  have hx:=hs x (by simp)
  have h2:=List.perm_cons_erase hx
  have h3:=DS l (m.erase x) (fR.1 hn).2 (fun y hy=>by
   have hyx:y≠x:=fun e=>(fR.1 hn).1 (e▸hy);exact (mI hyx).2 (hs y (aH _ hy))) (by
    rw [lR hx];simp only [List.length_cons] at hl
    omega)
  exact (List.Perm.cons x h3).trans h2.symm
theorem KB {n:Nat}{ps:List Int}(hl:ps.length=n) (h:∀ i:Nat,i<n→(i:Int)∈ps):jF ps=Go.Ab.nats (List.range n):=by
 have hnd:(Go.Ab.nats (List.range n)).Nodup:=List.Pairwise.map _ (fun a b hab e=>hab (by omega)) yJ1
 have hsub:∀ x,x∈Go.Ab.nats (List.range n)→x∈ps:=fun x hx=>by
  obtain ⟨i,hi,rfl⟩:=bD.1 hx;exact h i (fG.1 hi)
 have hp:(Go.Ab.nats (List.range n)).Perm ps:=DS (Go.Ab.nats (List.range n)) ps hnd hsub (by simp [hl])
 exact Go.Pm.sorted_eq hp.symm (Go.Pm.range_le n)
theorem YC (n:Nat):LZ (Go.Ab.nats (List.range n)) n=true:=by
 refine FN fun i hi=>?_
 have hi':i<n:=by simpa using hi
 have e:∀ k,k<n→(Go.Ab.nats (List.range n)).getD k 0=(k:Int):=fun k hk=>by
  rw [aE];simp [hk]
 unfold BM;rw [e i hi'];refine ⟨by omega,by omega,fun h0=>?_⟩
 rw [e (i-1) (by omega)];omega
theorem KC {ks:List KD}{ls:List LT}{ps:List Int}{bs:List BX}(t:xE ks ls ps bs) (h1:ks.length≤1000) (h2:ls.length≤1000) (h3:ps.length≤1000) :
  aM Tryz.prog 66 [.rowE (jA ks) 2,.rowE (kE ls) 3,.rowE (ints ps) 1,.rowE (fL bs) 3] [] (.b true) []:=by
 have e3:(ints ps).length=ps.length:=by simp
 have e4:(fL bs).length=bs.length:=by simp
 have hlen:=t.len;have v1:=CU ps;have v2:=NM ps (by omega)
 rw [KB (n:=ps.length) rfl t.p] at v2;have v3:=JI (Go.Ab.nats (List.range ps.length)) ps.length (by simp;omega) (by omega)
 rw [YC] at v3;rw [show (ps.length:Int)=((fL bs).length:Int) by omega] at v3
 have c1:=yQ8 (w:=ks) (F:=105) (caps:=[]) h1 rfl (fun x hx=>by
  obtain ⟨i,hi,rfl⟩:=pB.1 hx
  exact zD9 _ (t.k i hi))
 have c2:=yQ7 (w:=ls) (F:=108) (caps:=[.pr [.rowE (jA ks) 2] 0]) h2 rfl (fun x hx=>by
  obtain ⟨i,hi,rfl⟩:=pB.1 hx
  exact zD8 ks _ (t.l i hi) h1)
 have c3:=yR1 (w:=bs) (F:=110) (caps:=[.pr [.rowE (kE ls) 3] 0]) (by omega) rfl (fun x hx=>by
  obtain ⟨i,hi,rfl⟩:=pB.1 hx
  exact zE0 ls _ (t.b i hi) h2)
 generalize Go.Ab.nats (List.range ps.length)=sr at *;refine bS T Tryz.func66 rfl rfl rfl rfl ?_
 (repeat' (first|refine wS ?_|refine wK ?_|refine wU ?_|(refine rg 0 (cO (dR rfl rfl) rfl (cO (dR rfl rfl) rfl (aV ?_))))|(refine rg 1 (mW rfl (vV (kC (v1)) (vV (by exact gD rfl rfl v2 rfl rfl rfl) ?_)));refine aV ?_)|(refine rg 2 (mW rfl (qW T rfl (mW rfl (qW T rfl (vV (uP rfl rfl (by omega)) (mW rfl (yN rfl (yN rfl (gT ?_)))))))));refine qW T rfl (yV (kC (v3)) (yV (dS rfl) (pV ?_))))|refine nZ ?_));all_goals try omega
 (repeat' (first|refine wS ?_|refine wR ?_|(refine rg 4 (lW T rfl (vV (by exact gD rfl rfl c1 rfl rfl rfl) ?_));refine aV ?_)|(refine rg 5 (dJ rfl (yO T rfl (yV (by exact kT rfl rfl) ?_)));refine yV (by exact eH rfl rfl c2 (.cons (.row _ _ _) (.cons (.clo .nil (.cons (.ptr rfl (.cons (.row _ _ _) .nil)) .nil)) .nil)) rfl rfl) ?_;refine pW rfl (aV ?_))|(refine rg 6 (mW rfl (vV (dS rfl) (mW rfl (yN rfl (yV (by exact kT rfl rfl) ?_)))));refine yV (by exact eH rfl rfl c3 (.cons (.row _ _ _) (.cons (.clo .nil (.cons (.ptr rfl (.cons (.row _ _ _) .nil)) .nil)) .nil)) rfl rfl) ?_;refine yV (dS rfl) (pW rfl (aV ?_)))|refine nZ ?_));all_goals first|omega | exact rQ
end Go.Proofs.Q
namespace Go.Ab
open Go
section
variable {P:Program}{env:eG}{h:Hp}{d:Option Nat}{ty:TypeId}{pos:String}{af:Array Edge}{g:Option (Nat × Bool)}
end
end Go.Ab
namespace Go.Proofs.Q
open Go Go.Ab
section
variable {P:Program}{env:eG}{h:Hp}{d:Option Nat}{ty:TypeId}{pos:String}{af:Array Edge}{g:Option (Nat × Bool)}
theorem yE7 {t t2:TypeId}{x y:Operand}{a b:Int}(hx:evu env x=some (.i a)) (hy:evu env y=some (.i b)) (e:b<a):bW P ⟨d,.binOp .gtr t x y t2,ty,pos,af,g⟩ env h 0 (fun _=>.b true) (fun _=>[]):=by
 have:=fK (P:=P) (d:=d) (ty:=ty) (pos:=pos) (af:=af) (g:=g) (h:=h) (t:=t) (t2:=t2) hx hy;simpa [show decide (a > b)=true from decide_eq_true (by omega)] using this
theorem LF {t t2:TypeId}{x y:Operand}{a b:Int}(hx:evu env x=some (.i a)) (hy:evu env y=some (.i b)) (e:a≤b):bW P ⟨d,.binOp .gtr t x y t2,ty,pos,af,g⟩ env h 0 (fun _=>.b false) (fun _=>[]):=by
 have:=fK (P:=P) (d:=d) (ty:=ty) (pos:=pos) (af:=af) (g:=g) (h:=h) (t:=t) (t2:=t2) hx hy;simpa [show decide (a > b)=false from decide_eq_false (by omega)] using this
theorem S4 {t t2:TypeId}{x y:Operand}{a b:Int}(hx:evu env x=some (.i a)) (hy:evu env y=some (.i b)) (e:a<b):bW P ⟨d,.binOp .lss t x y t2,ty,pos,af,g⟩ env h 0 (fun _=>.b true) (fun _=>[]):=by
 have:=aK (P:=P) (d:=d) (ty:=ty) (pos:=pos) (af:=af) (g:=g) (h:=h) (t:=t) (t2:=t2) hx hy;simpa [show decide (a<b)=true from decide_eq_true (by omega)] using this
theorem S6 {t t2:TypeId}{x y:Operand}{a b:Int}(hx:evu env x=some (.i a)) (hy:evu env y=some (.i b)) (e:b≤a):bW P ⟨d,.binOp .lss t x y t2,ty,pos,af,g⟩ env h 0 (fun _=>.b false) (fun _=>[]):=by
 have:=aK (P:=P) (d:=d) (ty:=ty) (pos:=pos) (af:=af) (g:=g) (h:=h) (t:=t) (t2:=t2) hx hy;simpa [show decide (a<b)=false from decide_eq_false (by omega)] using this
theorem LG {t t2:TypeId}{x y:Operand}{a b:Int}(hx:evu env x=some (.i a)) (hy:evu env y=some (.i b)) (e:a<b):bW P ⟨d,.binOp .geq t x y t2,ty,pos,af,g⟩ env h 0 (fun _=>.b false) (fun _=>[]):=by
 have:=iR (P:=P) (d:=d) (ty:=ty) (pos:=pos) (af:=af) (g:=g) (h:=h) (t:=t) (t2:=t2) hx hy;simpa [show decide (a ≥ b)=false from decide_eq_false (by omega)] using this
end
end Go.Proofs.Q
namespace Go.Proofs.Q
open Go Go.Ab Go.Ld
attribute [local irreducible] VC AW bW aM
theorem IG (x:Int):aM Tryz.prog 189 [.i x] [] (.b false) []:=by
 refine bS T Tryz.func189 rfl rfl rfl rfl ?_
 (repeat' (first|refine wS ?_|refine wR ?_|(refine rg 0 (aV ?_))|(refine rg 1 (dJ rfl (vV (gI rfl rfl) (aV ?_))))|refine nZ ?_));all_goals first|omega | exact dU (.inl rfl) rfl (oM (by simp))
theorem JD (x y:Int):aM Tryz.prog 143 [.i x,.i y] [] (.i (cI x y)) []:=by
 by_cases h1:x<y
 ·rw [show cI x y = -1 by unfold cI;rw [if_pos h1]]
  refine bS T Tryz.func143 rfl rfl rfl rfl ?_
  (repeat' (first|refine wS ?_|refine wK ?_|refine wR ?_|refine wU ?_|(refine wC rfl ?_ ?_<;>(intro hb;(try simp only [nm] at hb);try omega))|(refine rg 0 (aV ?_))|(refine rg 1 (mW rfl (vV (kC (IG x)) (aV ?_))))|(refine rg 2 (mW rfl (vV (kC (IG y)) (aV ?_))))|(refine rg 3 (mV ?_))|(refine rg 7 (mV ?_))|(refine rg 9 (dJ rfl (vV (aK rfl rfl) ?_)))|(refine rg 10 (aV ?_))|refine nZ ?_));all_goals first|omega | exact rQ
 ·by_cases h2:y<x
  ·rw [show cI x y=1 by unfold cI;rw [if_neg h1,if_pos h2]]
   refine bS T Tryz.func143 rfl rfl rfl rfl ?_
   (repeat' (first|refine wS ?_|refine wK ?_|refine wR ?_|refine wU ?_|(refine wC rfl ?_ ?_<;>(intro hb;(try simp only [nm] at hb);try omega))|(refine rg 0 (aV ?_))|(refine rg 1 (mW rfl (vV (kC (IG x)) (aV ?_))))|(refine rg 2 (mW rfl (vV (kC (IG y)) (aV ?_))))|(refine rg 3 (mV ?_))|(refine rg 7 (mV ?_))|(refine rg 9 (dJ rfl (vV (aK rfl rfl) ?_)))|(refine rg 11 (dJ rfl (vV (fK rfl rfl) ?_)))|(refine rg 12 (aV ?_))|refine nZ ?_));all_goals first|omega | exact rQ
  ·rw [show cI x y=0 by unfold cI;rw [if_neg h1,if_neg h2]]
   refine bS T Tryz.func143 rfl rfl rfl rfl ?_
   (repeat' (first|refine wS ?_|refine wK ?_|refine wR ?_|refine wU ?_|(refine wC rfl ?_ ?_<;>(intro hb;(try simp only [nm] at hb);try omega))|(refine rg 0 (aV ?_))|(refine rg 1 (mW rfl (vV (kC (IG x)) (aV ?_))))|(refine rg 2 (mW rfl (vV (kC (IG y)) (aV ?_))))|(refine rg 3 (mV ?_))|(refine rg 7 (mV ?_))|(refine rg 9 (dJ rfl (vV (aK rfl rfl) ?_)))|(refine rg 11 (dJ rfl (vV (fK rfl rfl) ?_)))|(refine rg 13 (aV ?_))|refine nZ ?_));all_goals first|omega | exact rQ
theorem yX1 (x y:Int):aM Tryz.prog 141 [.rowE (ints [x,y]) 1] [] (.i (AJ x y)) []:=by
 have hlen:(ints [x,y]).length=2:=rfl;refine bS T Tryz.func141 rfl rfl rfl rfl ?_
 (repeat' (first|refine wS ?_|refine wB ?_|(refine rg 0 (aV ?_))|(refine rg 1 (aV ?_))|(refine rg 2 (mW rfl (qW T rfl (mV ?_))))|refine nZ ?_));refine dI (X:={k:Nat // k≤2∧(1≤k→x=0)∧(2≤k→y=0)}) (fun k=>[(0,.rowE (ints [x,y]) 1),(3,.i 0),(6,.rowE (ints [x,y]) 1),(7,.i (ints [x,y]).length),(8,.i k.1)]) (fun _=>[]) (fun k=>2-k.1) ⟨0,by omega,by omega,by omega⟩ (gQ []) ?_
 rintro ⟨k,hk,h1,h2⟩;dsimp only;by_cases hlt:k<2
 ·have hg:∃ z,(ints [x,y])[k]? = some [AV.i z]∧(k=0→z=x)∧(k=1→z=y):=by
   rcases (by omega:k=0∨k=1) with rfl | rfl
   ·exact ⟨x,rfl,fun _=>rfl,by omega⟩
   ·exact ⟨y,rfl,by omega,fun _=>rfl⟩
  obtain ⟨z,hg,hz1,hz2⟩:=hg;by_cases h0:z=0
  ·(repeat' (first|refine wS ?_|refine wB ?_|refine wK ?_|(refine wC rfl (fun hb=>?_) (fun hb=>?_) <;> (((try simp only [nm] at hb);try omega)))|(refine rg 3 (vV (aK rfl rfl) ?_))|(refine rg 4 (vV (ix T rfl (by omega) (dY [x,y]) hg) (lW T rfl (aV ?_))))|(refine rg 5 (dJ rfl (vV (gI rfl rfl) ?_)))|(refine rg 7 (vV (cK rfl rfl (by omega) (by omega)) (mV ?_)))|(refine nZ ?_)));all_goals first|omega | exact ⟨⟨k+1,by omega,by omega,by omega⟩,by dsimp only;omega,gQ []⟩
  ·(repeat' (first|refine wS ?_|refine wB ?_|refine wK ?_|refine wR ?_|(refine wC rfl (fun hb=>?_) (fun hb=>?_) <;> (((try simp only [nm] at hb);try omega)))|(refine rg 3 (vV (aK rfl rfl) ?_))|(refine rg 4 (vV (ix T rfl (by omega) (dY [x,y]) hg) (lW T rfl (aV ?_))))|(refine rg 5 (dJ rfl (vV (gI rfl rfl) ?_)))|(refine rg 6 (mW rfl (aV ?_)))|(refine nZ ?_)));all_goals first|omega | exact dU (.inl rfl) rfl (by rw [show AJ x y=z by unfold AJ;split <;> omega];rfl)
 ·(repeat' (first|refine wS ?_|refine wR ?_|refine wE ?_|(refine wC rfl (fun hb=>?_) (fun hb=>?_) <;> (((try simp only [nm] at hb);try omega)))|(refine rg 3 (vV (aK rfl rfl) ?_))|(refine rg 8 (mW rfl (aV ?_)))|(refine nZ ?_)));all_goals first|omega | exact dU (.inl rfl) rfl (by rw [show AJ x y=0 by unfold AJ;split <;> omega];rfl)
theorem yZ4 {a b:List Int}{k:Nat}(h1:k<a.length) (h2:k<b.length):cL (a.drop k) (b.drop k)=AJ (cI a[k] b[k]) (cL (a.drop (k+1)) (b.drop (k+1))):=by
 rw [aP h1,aP h2];rfl
theorem yH7 {a b:List Int}{k:Nat}(h1:k<a.length) (h2:k=b.length):cL (a.drop k) (b.drop k)=1:=by
 rw [aP h1,cY (l:=b) (by omega)];rfl
theorem yH6 {a b:List Int}{k:Nat}(h1:k=a.length) (h2:k<b.length):cL (a.drop k) (b.drop k) = -1:=by
 rw [cY (l:=a) (by omega),aP h2];rfl
theorem yH5 {a b:List Int}{k:Nat}(h1:k=a.length) (h2:k=b.length):cL (a.drop k) (b.drop k)=0:=by
 rw [cY (l:=a) (by omega),cY (l:=b) (by omega)];rfl
theorem zJ6 (b:Int):AJ 0 b=b:=rfl
theorem TB {a b:Int}(h:¬ a=0):AJ a b=a:=by unfold AJ;rw [if_neg h]
theorem zA5 (a b:List Int) (ha:a.length≤9223372036854775807) (hb:b.length≤9223372036854775807):aM Tryz.prog 186 [.rowE (ints a) 1,.rowE (ints b) 1] [] (.i (cL a b)) []:=by
 have hla:(ints a).length=a.length:=by simp
 have hlb:(ints b).length=b.length:=by simp
 refine bS T Tryz.func186 rfl rfl rfl rfl ?_
 (repeat' (first|refine wS ?_|refine wB ?_|(refine rg 0 (aV ?_))|(refine rg 1 (mW rfl (qW T rfl (mV ?_))))|refine nZ ?_));refine dI (X:={k:Nat // k≤a.length∧k≤b.length∧cL a b=cL (a.drop k) (b.drop k)}) (fun k=>[(0,.rowE (ints a) 1),(1,.rowE (ints b) 1),(9,.rowE (ints a) 1),(10,.i (ints a).length),(11,.i k.1)]) (fun _=>[]) (fun k=>a.length-k.1) ⟨0,by omega,by omega,rfl⟩ (gQ []) ?_
 rintro ⟨k,hk,hkb,he⟩;dsimp only;by_cases h1:k<a.length
 ·have g1:=mC h1;by_cases h2:k<b.length
  ·have g2:=mC h2;have e1:=yZ4 h1 h2;have hc:=JD a[k] b[k];generalize a[k]=x at *;generalize b[k]=y at *;by_cases h0:cI x y=0
   ·rw [h0] at hc e1;rw [zJ6] at e1
    (repeat' (first|refine wS ?_|refine wB ?_|refine wK ?_|refine wU ?_|(refine wC rfl ?_ ?_<;>(intro hb;(try simp only [nm] at hb);try omega))|(refine rg 2 (vV (aK rfl rfl) ?_))|(refine rg 3 (mW rfl (vV (ix T rfl (by omega) (dY a) g1) (lW T rfl (pT ?_)))))|(refine rg 4 (dJ rfl (qW T rfl (vV (iR rfl rfl) ?_))))|(refine rg 6 (dJ rfl (vV (ix T rfl (by omega) (dY b) g2) (lW T rfl (aV ?_)))))|(refine rg 7 (dJ rfl (vV (kC (hc)) (aV ?_))))|(refine rg 8 (mW rfl (vV (gI rfl rfl) ?_)))|(refine rg 10 (vV (cK rfl rfl (by omega) (by omega)) (mV ?_)))|refine nZ ?_));all_goals first|omega | exact ⟨⟨k+1,by omega,by omega,he.trans e1⟩,by dsimp only;omega,gQ []⟩
   ·rw [TB h0] at e1;generalize cI x y=q at *
    (repeat' (first|refine wS ?_|refine wB ?_|refine wK ?_|refine wR ?_|(refine wC rfl ?_ ?_<;>(intro hb;(try simp only [nm] at hb);try omega))|(refine rg 2 (vV (aK rfl rfl) ?_))|(refine rg 3 (mW rfl (vV (ix T rfl (by omega) (dY a) g1) (lW T rfl (pT ?_)))))|(refine rg 4 (dJ rfl (qW T rfl (vV (iR rfl rfl) ?_))))|(refine rg 6 (dJ rfl (vV (ix T rfl (by omega) (dY b) g2) (lW T rfl (aV ?_)))))|(refine rg 7 (dJ rfl (vV (kC (hc)) (aV ?_))))|(refine rg 8 (mW rfl (vV (gI rfl rfl) ?_)))|(refine rg 9 (mW rfl (aV ?_)))|refine nZ ?_));all_goals first|omega | exact dU (.inl rfl) rfl (by rw [he,e1];rfl)
  ·have e1:=yH7 h1 (show k=b.length by omega)
   (repeat' (first|refine wS ?_|refine wB ?_|refine wK ?_|refine wR ?_|(refine wC rfl ?_ ?_<;>(intro hb;(try simp only [nm] at hb);try omega))|(refine rg 2 (vV (aK rfl rfl) ?_))|(refine rg 3 (mW rfl (vV (ix T rfl (by omega) (dY a) g1) (lW T rfl (pT ?_)))))|(refine rg 4 (dJ rfl (qW T rfl (vV (iR rfl rfl) ?_))))|(refine rg 5 (aV ?_))|refine nZ ?_));all_goals first|omega | exact dU (.inl rfl) rfl (by rw [he,e1];rfl)
 ·by_cases h2:k<b.length
  ·have e1:=yH6 (show k=a.length by omega) h2
   (repeat' (first|refine wS ?_|refine wR ?_|refine wE ?_|(refine wC rfl ?_ ?_<;>(intro hb;(try simp only [nm] at hb);try omega))|(refine rg 2 (vV (aK rfl rfl) ?_))|(refine rg 11 (mW rfl (qW T rfl (mW rfl (qW T rfl (vV (aK rfl rfl) ?_))))))|(refine rg 12 (aV ?_))|refine nZ ?_));all_goals first|omega | exact dU (.inl rfl) rfl (by rw [he,e1];rfl)
  ·have e1:=yH5 (show k=a.length by omega) (show k=b.length by omega)
   (repeat' (first|refine wS ?_|refine wK ?_|refine wR ?_|refine wE ?_|(refine wC rfl ?_ ?_<;>(intro hb;(try simp only [nm] at hb);try omega))|(refine rg 2 (vV (aK rfl rfl) ?_))|(refine rg 11 (mW rfl (qW T rfl (mW rfl (qW T rfl (vV (aK rfl rfl) ?_))))))|(refine rg 13 (aV ?_))|refine nZ ?_));all_goals first|omega | exact dU (.inl rfl) rfl (by rw [he,e1];rfl)
theorem lT (l:List SP):∀ e,e∈fS l→e.length=2:=by intro e he;obtain ⟨n,_,rfl⟩:=bD.1 he;rfl
theorem HB {l:List SP}{k:Nat}(h:k<l.length):(fS l)[k]? = some [AV.i l[k].1,AV.i l[k].2]:=by simp [h]
theorem zJ5 (x y:SP):aM Tryz.prog 188 [nU x.1 x.2,nU y.1 y.2] [] (.i (cS x y)) []:=by
 have h1:=JD x.1 y.1;have h2:=JD x.2 y.2;have h3:=yX1 (cI x.1 y.1) (cI x.2 y.2);refine bS T Tryz.func188 rfl rfl rfl rfl ?_
 (repeat' (first|refine wS ?_|refine wR ?_|(refine rg 0 (cO (dR rfl rfl) rfl (cO (dR rfl rfl) rfl (aV ?_))))|(refine cH (id:=1) 17 [[],[0],[],[2],rN 4,[],[5],[],[7],rN 9,rN 10,rN 11] (rM 5 12) [[],[],[5,6],[5,6],[],rM 5 5,rM 5 5,rM 5 7,rM 5 7,[],[],[]] cP rfl (by decide +kernel) (dP T rfl (dO T rfl (dP T rfl (dO T rfl (dV rfl (kC (h1)) (dP T rfl (dO T rfl (dP T rfl (dL T ?_)))))))));refine dV rfl (kC (h2)) (K2 rfl rfl rfl (by exact bG T rfl rfl (by decide) (by decide) rfl rfl rfl) rfl ?_);refine dV rfl (by exact eH rfl rfl (h3) (by ((repeat (first|exact .nil|exact .v _|refine .cons ?_ ?_|refine .sl rfl (by simp) ?_));done)) rfl rfl) ?_;(all_goals (refine dE ?_;refine aV ?_)))|refine nZ ?_));all_goals first|omega | exact rQ
theorem yZ5 {a b:List SP}{k:Nat}(h1:k<a.length) (h2:k<b.length):cB (a.drop k) (b.drop k)=AJ (cS a[k] b[k]) (cB (a.drop (k+1)) (b.drop (k+1))):=by
 rw [aP h1,aP h2];rfl
theorem yI0 {a b:List SP}{k:Nat}(h1:k<a.length) (h2:k=b.length):cB (a.drop k) (b.drop k)=1:=by
 rw [aP h1,cY (l:=b) (by omega)];rfl
theorem yH9 {a b:List SP}{k:Nat}(h1:k=a.length) (h2:k<b.length):cB (a.drop k) (b.drop k) = -1:=by
 rw [cY (l:=a) (by omega),aP h2];rfl
theorem yH8 {a b:List SP}{k:Nat}(h1:k=a.length) (h2:k=b.length):cB (a.drop k) (b.drop k)=0:=by
 rw [cY (l:=a) (by omega),cY (l:=b) (by omega)];rfl
abbrev yX4:AV:=.clo (.func 188) [] []
theorem TX (a b:List SP) (ha:a.length≤9223372036854775807) (hb:b.length≤9223372036854775807):aM Tryz.prog 187 [.rowE (fS a) 2,.rowE (fS b) 2,yX4] [] (.i (cB a b)) []:=by
 have hla:(fS a).length=a.length:=by simp
 have hlb:(fS b).length=b.length:=by simp
 refine bS T Tryz.func187 rfl rfl rfl rfl ?_
 (repeat' (first|refine wS ?_|refine wB ?_|(refine rg 0 (aV ?_))|(refine rg 1 (mW rfl (qW T rfl (mV ?_))))|refine nZ ?_));refine dI (X:={k:Nat // k≤a.length∧k≤b.length∧cB a b=cB (a.drop k) (b.drop k)}) (fun k=>[(0,.rowE (fS a) 2),(1,.rowE (fS b) 2),(2,yX4),(11,.rowE (fS a) 2),(12,.i (fS a).length),(13,.i k.1)]) (fun _=>[]) (fun k=>a.length-k.1) ⟨0,by omega,by omega,rfl⟩ (gQ []) ?_
 rintro ⟨k,hk,hkb,he⟩;dsimp only;by_cases h1:k<a.length
 ·have g1:=HB h1;by_cases h2:k<b.length
  ·have g2:=HB h2;have e1:=yZ5 h1 h2;have hc:=zJ5 a[k] b[k];generalize a[k]=x at *;generalize b[k]=y at *;by_cases h0:cS x y=0
   ·rw [h0] at hc e1;rw [zJ6] at e1
    (repeat' (first|refine wS ?_|refine wB ?_|refine wK ?_|refine wU ?_|(refine wC rfl ?_ ?_<;>(intro hb;(try simp only [nm] at hb);try omega))|(refine rg 2 (vV (aK rfl rfl) ?_))|(refine rg 3 (mW rfl (vV (ix T rfl (by omega) (lT a) g1) (lW T rfl (cO (cN T rfl) rfl (aW rfl (bC T rfl rfl rfl rfl rfl rfl (by decide) rfl ?_)))))))|(refine rg 4 (dJ rfl (qW T rfl (vV (iR rfl rfl) ?_))))|(refine rg 6 (dJ rfl (vV (ix T rfl (by omega) (lT b) g2) (lW T rfl (cO (cN T rfl) rfl (bC T rfl rfl rfl rfl rfl rfl (by decide) rfl ?_))))))|(refine rg 7 (mW rfl (lW T rfl (lW T rfl (vV (kC (hc)) (aV ?_))))))|(refine rg 8 (mW rfl (vV (gI rfl rfl) ?_)))|(refine rg 10 (vV (cK rfl rfl (by omega) (by omega)) (mV ?_)))|refine nZ ?_));all_goals first|omega | exact ⟨⟨k+1,by omega,by omega,he.trans e1⟩,by dsimp only;omega,gQ []⟩
   ·rw [TB h0] at e1;generalize cS x y=q at *
    (repeat' (first|refine wS ?_|refine wB ?_|refine wK ?_|refine wR ?_|(refine wC rfl ?_ ?_<;>(intro hb;(try simp only [nm] at hb);try omega))|(refine rg 2 (vV (aK rfl rfl) ?_))|(refine rg 3 (mW rfl (vV (ix T rfl (by omega) (lT a) g1) (lW T rfl (cO (cN T rfl) rfl (aW rfl (bC T rfl rfl rfl rfl rfl rfl (by decide) rfl ?_)))))))|(refine rg 4 (dJ rfl (qW T rfl (vV (iR rfl rfl) ?_))))|(refine rg 6 (dJ rfl (vV (ix T rfl (by omega) (lT b) g2) (lW T rfl (cO (cN T rfl) rfl (bC T rfl rfl rfl rfl rfl rfl (by decide) rfl ?_))))))|(refine rg 7 (mW rfl (lW T rfl (lW T rfl (vV (kC (hc)) (aV ?_))))))|(refine rg 8 (mW rfl (vV (gI rfl rfl) ?_)))|(refine rg 9 (mW rfl (aV ?_)))|refine nZ ?_));all_goals first|omega | exact dU (.inl rfl) rfl (by rw [he,e1];rfl)
  ·have e1:=yI0 h1 (show k=b.length by omega)
   (repeat' (first|refine wS ?_|refine wB ?_|refine wK ?_|refine wR ?_|(refine wC rfl ?_ ?_<;>(intro hb;(try simp only [nm] at hb);try omega))|(refine rg 2 (vV (aK rfl rfl) ?_))|(refine rg 3 (mW rfl (vV (ix T rfl (by omega) (lT a) g1) (lW T rfl (cO (cN T rfl) rfl (aW rfl (bC T rfl rfl rfl rfl rfl rfl (by decide) rfl ?_)))))))|(refine rg 4 (dJ rfl (qW T rfl (vV (iR rfl rfl) ?_))))|(refine rg 5 (aV ?_))|refine nZ ?_));all_goals first|omega | exact dU (.inl rfl) rfl (by rw [he,e1];rfl)
 ·by_cases h2:k<b.length
  ·have e1:=yH9 (show k=a.length by omega) h2
   (repeat' (first|refine wS ?_|refine wR ?_|refine wE ?_|(refine wC rfl ?_ ?_<;>(intro hb;(try simp only [nm] at hb);try omega))|(refine rg 2 (vV (aK rfl rfl) ?_))|(refine rg 11 (mW rfl (qW T rfl (mW rfl (qW T rfl (vV (aK rfl rfl) ?_))))))|(refine rg 12 (aV ?_))|refine nZ ?_));all_goals first|omega | exact dU (.inl rfl) rfl (by rw [he,e1];rfl)
  ·have e1:=yH8 (show k=a.length by omega) (show k=b.length by omega)
   (repeat' (first|refine wS ?_|refine wK ?_|refine wR ?_|refine wE ?_|(refine wC rfl ?_ ?_<;>(intro hb;(try simp only [nm] at hb);try omega))|(refine rg 2 (vV (aK rfl rfl) ?_))|(refine rg 11 (mW rfl (qW T rfl (mW rfl (qW T rfl (vV (aK rfl rfl) ?_))))))|(refine rg 13 (aV ?_))|refine nZ ?_));all_goals first|omega | exact dU (.inl rfl) rfl (by rw [he,e1];rfl)
abbrev RX (w:W):AV:=.agg (wA w)
def V6 (w:W):Prop:=w.1.length≤1000000∧w.2.2.length≤1000000
theorem VN (a b:W) (ha:V6 a) (hb:V6 b):aM Tryz.prog 142 [RX a,RX b] [] (.i (pY a b)) []:=by
 obtain ⟨p,m,c⟩:=a;obtain ⟨p',m',c'⟩:=b;unfold V6 at ha hb;dsimp only at ha hb;have h1:=zA5 p p' (by omega) (by omega)
 have h2:=TX c c' (by omega) (by omega)
 have e:pY (p,m,c) (p',m',c')=AJ (cL p p') (cB c c'):=rfl;rw [e];generalize cL p p'=x at *;generalize cB c c'=y at *;by_cases h0:x=0
 ·subst h0;rw [zJ6];refine bS T Tryz.func142 rfl rfl rfl rfl ?_
  (repeat' (first|refine wS ?_|refine wK ?_|refine wR ?_|refine wU ?_|(refine rg 0 (cO (dR rfl rfl) rfl (cO (dR rfl rfl) rfl (aV ?_))))|(refine rg 1 (iK T rfl (iK T rfl (vV (kC (h1)) (aV ?_)))))|(refine rg 2 (mW rfl (vV (gI rfl rfl) ?_)))|(refine rg 4 (iK T rfl (iK T rfl (vV (kC (h2)) (aV ?_)))))|refine nZ ?_));all_goals first|omega | exact rQ
 ·rw [TB h0];refine bS T Tryz.func142 rfl rfl rfl rfl ?_
  (repeat' (first|refine wS ?_|refine wR ?_|(refine wC rfl ?_ ?_<;>(intro hb;(try simp only [nm] at hb);try omega))|(refine rg 0 (cO (dR rfl rfl) rfl (cO (dR rfl rfl) rfl (aV ?_))))|(refine rg 1 (iK T rfl (iK T rfl (vV (kC (h1)) (aV ?_)))))|(refine rg 2 (mW rfl (vV (gI rfl rfl) ?_)))|(refine rg 3 (mW rfl (aV ?_)))|refine nZ ?_));all_goals first|omega | exact rQ
theorem zO (a b:W) (ha:V6 a) (hb:V6 b):aM Tryz.prog 140 [RX a,RX b] [] (.i (eY a b)) []:=by
 have h1:=VN a b ha hb;have h2:=JD a.2.1 b.2.1;have h3:=yX1 (pY a b) (cI a.2.1 b.2.1);refine bS T Tryz.func140 rfl rfl rfl rfl ?_
 (repeat' (first|refine wS ?_|refine wR ?_|(refine rg 0 (cO (dR rfl rfl) rfl (cO (dR rfl rfl) rfl (aV ?_))))|(refine cH (id:=1) 15 [[],[],[0,1],[],[3],[],[5],rN 7,rN 8,rN 9] (rM 5 10) [[],[5],[],[5,6,7],[5,6,7],rM 5 5,rM 5 5,[],[],[]] cP rfl (by decide +kernel) (dO T rfl (dO T rfl (dV rfl (kC (h1)) (dP T rfl (dO T rfl (dP T rfl (dO T rfl (dV rfl (kC (h2)) (K2 rfl rfl rfl (by exact bG T rfl rfl (by decide) (by decide) rfl rfl rfl) rfl ?_)))))))));refine dV rfl (by exact eH rfl rfl (h3) (by ((repeat (first|exact .nil|exact .v _|refine .cons ?_ ?_|refine .sl rfl (by simp) ?_));done)) rfl rfl) ?_;(all_goals (refine dE ?_;refine aV ?_)))|refine nZ ?_));all_goals first|omega | exact rQ
theorem DZ (a b:W) (ha:V6 a) (hb:V6 b):aM Tryz.prog 145 [RX a,RX b] [] (.b (L8 a b)) []:=by
 have h1:=VN a b ha hb;refine bS T Tryz.func145 rfl rfl rfl rfl ?_
 (repeat' (first|refine wS ?_|refine wR ?_|(refine rg 0 (cO (dR rfl rfl) rfl (cO (dR rfl rfl) rfl (aV ?_))))|(refine rg 1 (lW T rfl (lW T rfl (vV (kC (h1)) (vV (fB rfl rfl) (aV ?_))))))|refine nZ ?_));all_goals first|omega | exact rQ
end Go.Proofs.Q
namespace Go.Ld
open Go.Ab Go.Proofs.Q
theorem qN (l:List W):∀ e,e∈gN l→e.length=3:=by intro e he;obtain ⟨n,_,rfl⟩:=bD.1 he;rfl
theorem fQ (l:List W):(gN l).length=l.length:=aU _
theorem qZ {L:List W}{j:Int}{i:Nat}{x:W}(h:L[i]? = some x) (e:j=i):(gN L)[0+j.toNat]? = some (wA x):=by
 subst e;simp [h]
theorem zG {L:List W}{j:Int}{i:Nat}{x:W}(e:j=i):(gN L).set (0+j.toNat) (wA x)=gN (L.set i x):=by
 subst e;simp [gN,zC]
theorem oU {α:Type}(A B:List α) (x:α){n:Nat}(h:n=A.length):(A++x::B)[n]? = some x:=by subst h;simp
theorem pE {α:Type}(A B:List α) (x y:α){n:Nat}(h:n=A.length):(A++x::B).set n y=A++y::B:=by subst h;simp
abbrev Up (l:List W):Prop:=l.Pairwise (fun a b=>eY a b≤0)
theorem BY {l:List W}(h:Up l):eN eY l=l:=(M4 jT (.refl _) h).symm
theorem P5 {l m:List W}(hp:m.Perm l) (h:Up m):eN eY l=m:=(M4 jT hp h).symm
theorem J7 {a b:W}(h:eY a b<0):eY a b≤0:=by omega
theorem SF {S1 S2:List W}{x:W}(h:Up (S1++S2)) (h1:∀ y,y∈S1→eY y x≤0) (h2:∀ y,y∈S2→eY x y≤0):Up (S1++x::S2):=by
 obtain ⟨a,b,c⟩:=fM.1 h;refine fM.2 ⟨a,fJ.2 ⟨h2,b⟩,fun p hp q hq=>?_⟩
 rcases bQ.1 hq with rfl | hq
 ·exact h1 p hp
 ·exact c p hp q hq
theorem yM8 {A B:List W}(h1:Up A) (h2:Up B) (h3:∀ a b,a∈A→b∈B→eY a b≤0):Up (A++B):=fM.2 ⟨h1,h2,fun a ha b hb=>h3 a b ha hb⟩
theorem UX {A:List W}{y:W}(h:Up (A++[y])):∀ z,z∈A++[y]→eY z y≤0:=by
 intro z hz;obtain ⟨a,b,c⟩:=fM.1 h;rcases bH.1 hz with hz | hz
 ·exact c z hz y (by simp)
 ·rw [bE.1 hz,jT.rfl'];exact eW _
theorem zW2 {B:List W}{y:W}(h:Up (y::B)):∀ z,z∈y::B→eY y z≤0:=by
 intro z hz;rcases bQ.1 hz with rfl | hz
 ·rw [jT.rfl'];exact eW _
 ·exact (fJ.1 h).1 z hz
theorem xA6 {a b:W}(h:¬ eY a b<0):eY b a≤0:=by have:=jT.neg a b;omega
def zC8 (l:List W) (a b:Nat):List W:=l.take a++(eN eY ((l.drop a).take (b-a))++l.drop b)
theorem jH {l:List W}:(eN eY l).length=l.length:=(dW eY l).length_eq
theorem zF9 {l:List W}{a:Nat}(h:a≤l.length):zC8 l a a=l:=by unfold zC8;simp [eN]
theorem zX8 {l:List W}{a:Nat}(h:a<l.length):zC8 l a (a+1)=l:=by
 unfold zC8;rw [show a+1-a=1 by omega,aP h]
 simp only [nA,lH,eN,GJ];rw [oD,← aP h,bK]
structure yM2 (l:List W) (a i:Nat) (x:W) (q:List W × List W):Prop where
 eq:q.1++q.2=eN eY ((l.drop a).take (i-a))
 gt:∀ y,y∈q.2→eY x y<0
def yT (l:List W) (a i:Nat) (x:W) (q:List W × List W):List W:=(l.take a++q.1)++x::(q.2++l.drop (i+1))
theorem ZH {l:List W}{a i:Nat}{x:W}(h1:a<i) (h2:i<l.length) (hx:l[i]? = some x):yM2 l a i x (eN eY ((l.drop a).take (i-a)),[])∧zC8 l a i=yT l a i x (eN eY ((l.drop a).take (i-a)),[]):=by
 refine ⟨⟨by simp,fun y hy=>by cases hy⟩,?_⟩
 unfold zC8 yT;have:l.drop i=x::l.drop (i+1):=by
  rw [aB h2] at hx;rw [aP h2];cases hx;rfl
 simp [this]
theorem WB {l:List W}{a i:Nat}{x:W}{q:List W × List W}(h:yM2 l a i x q) (h1:a<i) (h2:i<l.length):q.1.length+q.2.length=i-a:=by
 have:=congrArg List.length h.eq;simp only [aD,jH,aY,dK] at this;omega
theorem zM5 {l:List W}{a i:Nat}{x:W}{q:List W × List W}(h:yM2 l a i x q) (h1:a<i) (h2:i<l.length):(yT l a i x q).length=l.length:=by
 have:=WB h h1 h2;unfold yT;simp only [aD,List.length_cons,aY,dK];omega
theorem zM2 {l:List W}{a i:Nat}{x:W}{q:List W × List W}(h:yM2 l a i x q) (h1:a<i) (h2:i<l.length) (hx:l[i]? = some x) (hs:∀ y,y∈q.1→eY y x≤0):yT l a i x q=zC8 l a (i+1):=by
 unfold yT zC8;have e:(l.drop a).take (i+1-a)=(l.drop a).take (i-a)++[x]:=by
  rw [show i+1-a=(i-a)+1 by omega,zU7]
  rw [eK,show a+(i-a)=i by omega,hx];rfl
 rw [e];have hp:(q.1++x::q.2).Perm ((l.drop a).take (i-a)++[x]):=by
  refine List.perm_middle.trans ?_;rw [h.eq];exact ((dW eY _).cons x).trans (U9 _ _).symm
 have hu:Up (q.1++x::q.2):=SF (by rw [h.eq];exact lZ jT _) hs (fun y hy=>J7 (h.gt y hy))
 rw [P5 hp hu];simp
theorem yD4 {l:List W}{a i:Nat}{x y:W}{S:List W}{q:List W × List W}(h:yM2 l a i x q) (e:q.1=S++[y]) (hc:¬ eY x y<0):∀ z,z∈q.1→eY z x≤0:=by
 have hu:Up (q.1++q.2):=by rw [h.eq];exact lZ jT _
 have hu1:Up q.1:=(fM.1 hu).1;rw [e] at hu1;intro z hz;rw [e] at hz;exact jT.le_tr (UX hu1 z hz) (xA6 hc)
theorem zM3 {l:List W}{a i:Nat}{x y:W}{S:List W}{q:List W × List W}(h:yM2 l a i x q) (e:q.1=S++[y]) (hc:eY x y<0):yM2 l a i x (S,y::q.2):=by
 refine ⟨?_,fun z hz=>?_⟩
 ·rw [← h.eq,e];simp
 ·rcases bQ.1 hz with rfl | hz
  ·exact hc
  ·exact h.gt z hz
end Go.Ld
namespace Go.Proofs.Q
open Go Go.Ab Go.Ld
attribute [local irreducible] VC AW bW aM
theorem yM3 (l:List W):(gN l).flatten.all AV.one=true:=by
 induction l with
 | nil=>rfl
 | cons x l ih=>simp only [List.map_cons,dZ,List.all_append,ih];rfl
theorem bY (l:List W):∀ e,e∈gN l→AV.idfL e=true:=by
 intro e he;obtain ⟨x,_,rfl⟩:=bD.1 he;rfl
theorem lX:∀ i:Nat,i<1→([0]:List Nat)[i]? = some i:=by decide
abbrev tV:AV:=.clo (.func 140) [] []
theorem PK (l:List W) (a b:Nat) (hab:a≤b) (hb:b≤l.length) (hl:l.length≤100000) (hw:∀ w,w∈l→V6 w) :
  aM Tryz.prog 216 [.sl 0 0 l.length 3,.i a,.i b,tV] [.arr (gN l) 3] (.tup []) [.arr (gN (zC8 l a b)) 3]:=by
 rcases jO a b with hlt | hge
 ·refine bS T Tryz.func216 rfl rfl rfl rfl ?_
  (repeat' (first|refine wS ?_|refine wB ?_|(refine iA 0 rfl rfl rfl (by omega) (by omega) ?_)|refine nZ ?_));refine dI (X:={i:Nat // a+1≤i∧i≤b}) (fun i=>[(0,.sl 0 0 l.length 3),(1,.i a),(2,.i b),(3,tV),(8,.i i.1)]) (fun i=>[.arr (gN (zC8 l a i.1)) 3]) (fun i=>b-i.1) ⟨a+1,by omega,by omega⟩ ⟨[0],rfl,by (repeat (first|exact trivial|refine ⟨rfl,?_⟩)),⟨.inr (aC rfl (by dsimp only;rw [zX8 (by omega)]) (bY _)),trivial⟩,by decide,lX⟩ ?_
  rintro ⟨i,h1,h2⟩;dsimp only;by_cases hi:i<b
  ·(repeat' (first|refine wS ?_|refine wB ?_|refine wK ?_|(refine wC rfl (fun hb=>?_) (fun hb=>?_) <;> (((try simp only [nm] at hb);try omega)))|(refine rg 1 (dJ rfl (vV (aK rfl rfl) ?_)))|(refine rg 3 (mW rfl (aV ?_)))|(refine nZ ?_)));all_goals try omega
   have hil:i<l.length:=by omega
   obtain ⟨x,hx⟩:∃ x,l[i]? = some x:=⟨_,aB hil⟩;obtain ⟨s1,s2⟩:=ZH (a:=a) (by omega) hil hx
   refine dI (X:={q:List W × List W // yM2 l a i x q}) (fun q=>[(0,.sl 0 0 l.length 3),(1,.i a),(2,.i b),(3,tV),(8,.i i),(9,.i ((a+q.1.1.length:Nat):Int))]) (fun q=>[.arr (gN (yT l a i x q.1)) 3]) (fun q=>q.1.1.length) ⟨_,s1⟩ ⟨[0],rfl,⟨rfl,rfl,rfl,rfl,rfl,by dsimp only;rw [jH,aY,dK,show a+min (i-a) (l.length-a)=i by omega];rfl,trivial⟩,⟨.inr (aC rfl (by dsimp only;rw [s2]) (bY _)),trivial⟩,by decide,lX⟩ ?_
   rintro ⟨⟨S1,S2⟩,hq⟩;dsimp only;have hln:=WB hq (by omega) hil
   dsimp only at hln;have hwx:V6 x:=hw x (aQ hx);have hal:(l.take a).length=a:=by rw [aY];omega
   rcases List.eq_nil_or_concat S1 with rfl | ⟨S,y,rfl⟩
   ·have ee:=zM2 hq (by omega) hil hx (fun y hy=>by cases hy)
    have hJ:((a+([]:List W).length:Nat):Int)=a:=by simp
    generalize ((a+([]:List W).length:Nat):Int)=J at *;generalize yT l a i x ([],S2)=L at *
    (repeat' (first|refine wS ?_|refine wE ?_|refine wU ?_|(refine cH (id:=4) 53 xJ8 (rM 18 17) xJ9 cP rfl (by decide +kernel) (dN rfl (dN rfl (dV rfl (LF rfl rfl (by omega)) (dN rfl (tG rfl (tG rfl (tG rfl (tG rfl (dG ?_)))))))));refine tG rfl (tG rfl (tG rfl (tG rfl (tG rfl (tG rfl (tG rfl (dV rfl (iM rfl rfl) (dE ?_)))))))))|(refine iA 2 rfl rfl rfl (by omega) (by omega) ?_)|refine nZ ?_));all_goals first|omega | exact ⟨⟨i+1,by omega,by omega⟩,by dsimp only;omega,⟨[0],rfl,by (repeat (first|exact trivial|refine ⟨rfl,?_⟩)),⟨.inr (aC rfl (by dsimp only;rw [ee]) (bY _)),trivial⟩,by decide,lX⟩⟩
   ·rw [List.concat_eq_append] at *;have hy:y∈l:=by
     have h3:y∈eN eY ((l.drop a).take (i-a)):=by rw [← hq.eq];simp
     exact eB (eJ ((dW _ _).mem_iff.1 h3))
    have hc:=zO x y hwx (hw y hy);have hL:yT l a i x (S++[y],S2)=(l.take a++S)++y::x::(S2++l.drop (i+1)):=by unfold yT;simp
    have hJ:((a+(S++[y]).length:Nat):Int)=((a+S.length+1:Nat):Int):=by simp;omega
    have hAl:a+S.length=(l.take a++S).length:=by rw [aD,hal]
    have hlen:=zM5 hq (by omega) hil
    by_cases h0:eY x y<0
    ·have ee:=zM3 hq rfl h0;have q1:=qZ (L:=yT l a i x (S++[y],S2)) (j:=((a+(S++[y]).length:Nat):Int)) (i:=a+S.length+1) (x:=x) (by rw [hL,show (l.take a++S)++y::x::(S2++l.drop (i+1))=((l.take a++S)++[y])++x::(S2++l.drop (i+1)) by simp];exact oU _ _ _ (by simp;omega)) hJ
     have q2:=qZ (L:=yT l a i x (S++[y],S2)) (j:=((a+(S++[y]).length:Nat):Int)-1) (i:=a+S.length) (x:=y) (by rw [hL];exact oU _ _ _ hAl) (by omega)
     have t1:=zG (L:=yT l a i x (S++[y],S2)) (j:=((a+(S++[y]).length:Nat):Int)) (i:=a+S.length+1) (x:=y) hJ;have e1:(yT l a i x (S++[y],S2)).set (a+S.length+1) y=(l.take a++S)++y::y::(S2++l.drop (i+1)):=by
      rw [hL,show (l.take a++S)++y::x::(S2++l.drop (i+1))=((l.take a++S)++[y])++x::(S2++l.drop (i+1)) by simp,pE _ _ _ _ (by simp;omega)];simp
     rw [e1] at t1;have q3:=qZ (L:=(l.take a++S)++y::y::(S2++l.drop (i+1))) (j:=((a+(S++[y]).length:Nat):Int)-1) (i:=a+S.length) (x:=y) (oU _ _ _ hAl) (by omega)
     have t2:=zG (L:=(l.take a++S)++y::y::(S2++l.drop (i+1))) (j:=((a+(S++[y]).length:Nat):Int)-1) (i:=a+S.length) (x:=x) (by omega)
     rw [pE _ _ _ _ hAl,show (l.take a++S)++x::y::(S2++l.drop (i+1))=yT l a i x (S,y::S2) by unfold yT;simp,← t1] at t2
     rw [← t1] at q3;have hJ2:((a+(S++[y]).length:Nat):Int)-1=((a+S.length:Nat):Int):=by omega
     have hJ3:((a+(S++[y]).length:Nat):Int)<l.length:=by omega
     have hJ4:(a:Int)<((a+(S++[y]).length:Nat):Int):=by omega
     clear hJ hL;generalize ((a+(S++[y]).length:Nat):Int)=J at *;generalize eY x y=z at *;generalize yT l a i x (S++[y],S2)=L at *
     (repeat' (first|refine wS ?_|refine wB ?_|refine wK ?_|(refine wC rfl ?_ ?_<;>(intro hb;(try simp only [nm] at hb);try omega))|(refine cH (id:=4) 53 xJ8 (rM 18 17) xJ9 cP rfl (by decide +kernel) (dN rfl (dN rfl (dV rfl (fK rfl rfl) (dM ?_))));refine rY rfl rfl rfl rfl ?_ ?_<;>(intro hb;rw [hb];(try simp only [nm] at hb);try omega)<;>(refine tM ?_);(all_goals (refine tN rfl (tN rfl (dT rfl (by exact aT T rfl rfl rfl rfl rfl (by omega) (by omega)) ?_));refine dT rfl (by exact bA T rfl rfl (bX rfl q1) rfl) ?_;refine tN rfl (tN rfl (dT rfl (dC rfl rfl (by omega) (by omega)) (dT rfl (by exact aT T rfl rfl rfl rfl rfl (by omega) (by omega)) ?_)));refine dT rfl (by exact bA T rfl rfl (bX rfl q2) rfl) ?_;refine dT rfl (kC (hc)) (dT rfl (aK rfl rfl) (dV rfl (jE rfl rfl) (dE ?_))))))|(refine pG (id:=6) 53 xK0 (rM 37 15) xK1 [(15,0)] cP rfl (by decide +kernel) (dH rfl rfl rfl rfl (by exact bV rfl) ?_);refine dH rfl rfl rfl rfl (by exact bV rfl) ?_;refine dH rfl rfl rfl rfl (by exact bV rfl) ?_;refine dH rfl rfl rfl rfl (by exact bV rfl) ?_;refine dH rfl rfl rfl rfl (by exact dC rfl rfl (by omega) (by omega)) ?_;refine dH rfl rfl rfl rfl (by exact bV rfl) ?_;refine dH rfl rfl rfl rfl (by exact bV rfl) ?_;refine dH rfl rfl rfl rfl (by exact dC rfl rfl (by omega) (by omega)) ?_;refine dH rfl rfl rfl rfl (by exact aT T rfl rfl rfl rfl rfl (by omega) (by omega)) ?_;refine dH rfl rfl rfl rfl (by exact bA T rfl rfl (bX rfl q2) rfl) ?_;refine dH rfl rfl rfl rfl (by exact bV rfl) ?_;refine dH rfl rfl rfl rfl (by exact bV rfl) ?_;refine dH rfl rfl rfl rfl (by exact aT T rfl rfl rfl rfl rfl (by omega) (by omega)) ?_;refine dH rfl rfl rfl rfl (by exact bA T rfl rfl (bX rfl q1) rfl) ?_;refine dH rfl rfl rfl rfl (by exact aT T rfl rfl rfl rfl rfl (by omega) (by omega)) ?_;refine A0 rfl rfl rfl rfl (aI rfl) T rfl rfl rfl rfl rfl rfl (by decide) (zI rfl q1 rfl) ?_;refine uS rfl rfl rfl (by exact rfl) ?_;refine vV (by exact aT T rfl rfl rfl rfl rfl (by omega) (by omega)) ?_;refine bC T rfl rfl rfl rfl rfl rfl (by decide) (nJ rfl q3 rfl) ?_)|(refine rg 5 (mW rfl (vV (dC rfl rfl (by omega) (by omega)) (aV ?_))))|refine nZ ?_));all_goals first|omega | exact ⟨⟨_,ee⟩,by dsimp only;simp,⟨[0],rfl,⟨rfl,rfl,rfl,rfl,rfl,by dsimp only;rw [← hJ2];try rfl,trivial⟩,⟨.inr (aC rfl (by dsimp only;rw [← t2];try rfl) (bY _)),trivial⟩,by decide,lX⟩⟩
    ·have ee:=zM2 hq (by omega) hil hx (yD4 hq rfl h0)
     have q1:=qZ (L:=yT l a i x (S++[y],S2)) (j:=((a+(S++[y]).length:Nat):Int)) (i:=a+S.length+1) (x:=x) (by rw [hL,show (l.take a++S)++y::x::(S2++l.drop (i+1))=((l.take a++S)++[y])++x::(S2++l.drop (i+1)) by simp];exact oU _ _ _ (by simp;omega)) hJ
     have q2:=qZ (L:=yT l a i x (S++[y],S2)) (j:=((a+(S++[y]).length:Nat):Int)-1) (i:=a+S.length) (x:=y) (by rw [hL];exact oU _ _ _ hAl) (by omega)
     have hJ3:((a+(S++[y]).length:Nat):Int)<l.length:=by omega
     have hJ4:(a:Int)<((a+(S++[y]).length:Nat):Int):=by omega
     clear hJ hL;generalize ((a+(S++[y]).length:Nat):Int)=J at *;generalize eY x y=z at *;generalize yT l a i x (S++[y],S2)=L at *
     (repeat' (first|refine wS ?_|refine wE ?_|(refine wC rfl ?_ ?_<;>(intro hb;(try simp only [nm] at hb);try omega))|(refine cH (id:=4) 53 xJ8 (rM 18 17) xJ9 cP rfl (by decide +kernel) (dN rfl (dN rfl (dV rfl (fK rfl rfl) (dM ?_))));refine rY rfl rfl rfl rfl ?_ ?_<;>(intro hb;rw [hb];(try simp only [nm] at hb);try omega)<;>(refine tM ?_);(all_goals (refine tN rfl (tN rfl (dT rfl (by exact aT T rfl rfl rfl rfl rfl (by omega) (by omega)) ?_));refine dT rfl (by exact bA T rfl rfl (bX rfl q1) rfl) ?_;refine tN rfl (tN rfl (dT rfl (dC rfl rfl (by omega) (by omega)) (dT rfl (by exact aT T rfl rfl rfl rfl rfl (by omega) (by omega)) ?_)));refine dT rfl (by exact bA T rfl rfl (bX rfl q2) rfl) ?_;refine dT rfl (kC (hc)) (dT rfl (aK rfl rfl) (dV rfl (jE rfl rfl) (dE ?_))))))|(refine iA 2 rfl rfl rfl (by omega) (by omega) ?_)|refine nZ ?_));all_goals first|omega | exact ⟨⟨i+1,by omega,by omega⟩,by dsimp only;omega,⟨[0],rfl,by (repeat (first|exact trivial|refine ⟨rfl,?_⟩)),⟨.inr (aC rfl (by dsimp only;rw [ee]) (bY _)),trivial⟩,by decide,lX⟩⟩
  ·obtain rfl:i=b:=by omega
   (repeat' (first|refine wS ?_|refine wE ?_|(refine wC rfl ?_ ?_<;>(intro hb;(try simp only [nm] at hb);try omega))|(refine rg 1 (dJ rfl (vV (aK rfl rfl) ?_)))|refine nZ ?_));all_goals first|omega | exact ⟨.inl rfl,[0],_,rfl,rfl,rfl,⟨.inr (aC rfl rfl (bY _)),trivial⟩,by decide,lX⟩ | exact ⟨.inr rfl,[0],_,rfl,rfl,rfl,⟨.inr (aC rfl rfl (bY _)),trivial⟩,by decide,lX⟩
 ·obtain rfl:a=b:=by omega
  rw [zF9 hb];refine bS T Tryz.func216 rfl rfl rfl rfl ?_
  (repeat' (first|refine wS ?_|refine wB ?_|(refine iA 0 rfl rfl rfl (by omega) (by omega) ?_)|refine nZ ?_));refine dI (X:=Unit) (fun _=>[(0,.sl 0 0 l.length 3),(1,.i a),(2,.i a),(3,tV),(8,.i ((a:Int)+1))]) (fun _=>[.arr (gN l) 3]) (fun _=>0) () ⟨[0],rfl,by (repeat (first|exact trivial|refine ⟨rfl,?_⟩)),⟨.inr (aC rfl rfl (bY _)),trivial⟩,by decide,lX⟩ ?_
  intro _;dsimp only
  (repeat' (first|refine wS ?_|refine wE ?_|(refine wC rfl ?_ ?_<;>(intro hb;(try simp only [nm] at hb);try omega))|(refine rg 1 (dJ rfl (vV (aK rfl rfl) ?_)))|refine nZ ?_));all_goals first|omega | exact ⟨.inl rfl,[0],_,rfl,rfl,rfl,⟨.inr (aC rfl rfl (bY _)),trivial⟩,by decide,lX⟩ | exact ⟨.inr rfl,[0],_,rfl,rfl,rfl,⟨.inr (aC rfl rfl (bY _)),trivial⟩,by decide,lX⟩
end Go.Proofs.Q
namespace Go.Ld
open Go.Ab Go.Proofs.Q
def NI (P X Q Y R:List W) (k:Nat):List W:=P++((Y.take k++X.drop k)++(Q++((X.take k++Y.drop k)++R)))
theorem yW0 (P X Q Y R:List W):NI P X Q Y R 0=P++(X++(Q++(Y++R))):=by simp [NI]
theorem yV9 {P X Q Y R:List W}{n:Nat}(h1:X.length=n) (h2:Y.length=n):NI P X Q Y R n=P++(Y++(Q++(X++R))):=by
 unfold NI;rw [bO (by omega),bO (by omega),cY (by omega),cY (by omega)];simp
theorem xB7 {X1 X2:List W}{x:W}{k:Nat}(h:X1.length=k):(X1++x::X2).take k=X1∧(X1++x::X2).drop k=x::X2∧(X1++x::X2).take (k+1)=X1++[x]∧(X1++x::X2).drop (k+1)=X2:=by
 subst h;refine ⟨tY,tZ,?_,?_⟩
 ·rw [show X1++x::X2=(X1++[x])++X2 by simp,show X1.length+1=(X1++[x]).length by simp,tY]
 ·rw [show X1++x::X2=(X1++[x])++X2 by simp,show X1.length+1=(X1++[x]).length by simp,tZ]
theorem SK {X:List W}{k:Nat}(h:k<X.length):∃ X1 x X2,X=X1++x::X2∧X1.length=k:=⟨X.take k,X[k],X.drop (k+1),by simp,by simp;omega⟩
theorem zE7 {P X Q Y R:List W}{n k:Nat}(h1:X.length=n) (h2:Y.length=n) (hk:k<n):∃ x y,x∈X∧y∈Y∧(NI P X Q Y R k)[P.length+k]? = some x∧(NI P X Q Y R k)[P.length+n+Q.length+k]? = some y ∧
  ((NI P X Q Y R k).set (P.length+k) y)[P.length+n+Q.length+k]? = some y∧((NI P X Q Y R k).set (P.length+k) y).set (P.length+n+Q.length+k) x=NI P X Q Y R (k+1):=by
 obtain ⟨X1,x,X2,rfl,hx⟩:=SK (show k<X.length by omega)
 obtain ⟨Y1,y,Y2,rfl,hy⟩:=SK (show k<Y.length by omega)
 obtain ⟨a1,a2,a3,a4⟩:=xB7 (x:=x) (X2:=X2) hx;obtain ⟨b1,b2,b3,b4⟩:=xB7 (x:=y) (X2:=Y2) hy;simp only [aD,List.length_cons] at h1 h2;have e:NI P (X1++x::X2) Q (Y1++y::Y2) R k=(P++Y1)++x::(X2++(Q++(X1++y::(Y2++R)))):=by
  unfold NI;rw [a1,a2,b1,b2];simp
 have e1:(NI P (X1++x::X2) Q (Y1++y::Y2) R k).set (P.length+k) y=((P++Y1)++y::(X2++(Q++X1)))++y::(Y2++R):=by
  rw [e,pE _ _ _ _ (by simp;omega)];simp
 have l1:P.length+n+Q.length+k=((P++Y1)++y::(X2++(Q++X1))).length:=by
  simp only [aD,List.length_cons];omega
 refine ⟨x,y,by simp,by simp,?_,?_,?_,?_⟩
 ·rw [e];exact oU _ _ _ (by simp;omega)
 ·rw [e,show (P++Y1)++x::(X2++(Q++(X1++y::(Y2++R))))=((P++Y1)++x::(X2++(Q++X1)))++y::(Y2++R) by simp]
  exact oU _ _ _ (by simp only [aD,List.length_cons];omega)
 ·rw [e1];exact oU _ _ _ l1
 ·rw [e1,pE _ _ _ _ l1];unfold NI;rw [a3,a4,b3,b4];simp
end Go.Ld
namespace Go.Proofs.Q
open Go Go.Ab Go.Ld
attribute [local irreducible] VC AW bW aM
theorem JY (P X Q Y R:List W){n a b N:Nat}(h1:X.length=n) (h2:Y.length=n) (ha:a=P.length) (hb:b=P.length+n+Q.length) (hN:N=P.length+(n+(Q.length+(n+R.length)))) (hl:N≤100000) :
  aM Tryz.prog 244 [.sl 0 0 N 3,.i a,.i b,.i n,tV] [.arr (gN (P++(X++(Q++(Y++R))))) 3] (.tup []) [.arr (gN (P++(Y++(Q++(X++R))))) 3]:=by
 refine bS T Tryz.func244 rfl rfl rfl rfl ?_
 (repeat' (first|refine wS ?_|refine wB ?_|(refine rg 0 (aV ?_))|refine nZ ?_));refine dI (X:={k:Nat // k≤n}) (fun k=>[(0,.sl 0 0 N 3),(1,.i a),(2,.i b),(3,.i n),(4,tV),(10,.i k.1)]) (fun k=>[.arr (gN (NI P X Q Y R k.1)) 3]) (fun k=>n-k.1) ⟨0,by omega⟩ ⟨[0],rfl,by (repeat (first|exact trivial|refine ⟨rfl,?_⟩)),⟨.inr (aC rfl (by dsimp only;rw [yW0]) (bY _)),trivial⟩,by decide,lX⟩ ?_
 rintro ⟨k,hk⟩;dsimp only;by_cases hlt:k<n
 ·obtain ⟨x,y,_,_,p1,p2,p3,p4⟩:=zE7 (P:=P) (Q:=Q) (R:=R) h1 h2 hlt;have q1:=qZ (j:=(a:Int)+(k:Int)) p1 (by omega)
  have q2:=qZ (j:=(b:Int)+(k:Int)) p2 (by omega)
  have t1:=zG (L:=NI P X Q Y R k) (j:=(a:Int)+(k:Int)) (i:=P.length+k) (x:=y) (by omega)
  have q3:=qZ (j:=(b:Int)+(k:Int)) p3 (by omega)
  have t2:=zG (L:=(NI P X Q Y R k).set (P.length+k) y) (j:=(b:Int)+(k:Int)) (i:=P.length+n+Q.length+k) (x:=x) (by omega)
  rw [← t1] at q3 t2;rw [p4] at t2;clear p1 p2 p3 p4 t1;generalize NI P X Q Y R k=L at *
  (repeat' (first|refine wS ?_|refine wB ?_|refine wK ?_|(refine wC rfl ?_ ?_<;>(intro hb;(try simp only [nm] at hb);try omega))|(refine rg 1 (dJ rfl (vV (aK rfl rfl) ?_)))|(refine pG (id:=3) 38 [[],[],[],[1,2],[],[],[],[5,6],[],[],[],[9,10],rM 8 4,rM 8 5,[],[],[],[15,16],rM 14 4,rM 14 5,[0,1,2,3,8,9,10,11,12,13,14,15,16,17,18,19],[0,1,2,3,8,9,10,11,12,13,14,15,16,17,18,19,20]] (rM 16 21) [[],[16],[16,17],[16],rM 16 4,rM 16 5,rM 16 6,rM 16 5,rM 16 8,rM 16 9,rM 16 10,rM 16 9,rM 16 8,rM 16 8,rM 16 14,rM 16 15,rM 16 16,rM 16 15,rM 16 14,rM 16 14,rM 20 4,rM 20 4] [(21,0)] cP rfl (by decide +kernel) (dH rfl rfl rfl rfl (by exact bV rfl) ?_);refine dH rfl rfl rfl rfl (by exact bV rfl) ?_;refine dH rfl rfl rfl rfl (by exact bV rfl) ?_;refine dH rfl rfl rfl rfl (by exact cK rfl rfl (by omega) (by omega)) ?_;refine dH rfl rfl rfl rfl (by exact bV rfl) ?_;refine dH rfl rfl rfl rfl (by exact bV rfl) ?_;refine dH rfl rfl rfl rfl (by exact bV rfl) ?_;refine dH rfl rfl rfl rfl (by exact cK rfl rfl (by omega) (by omega)) ?_;refine dH rfl rfl rfl rfl (by exact bV rfl) ?_;refine dH rfl rfl rfl rfl (by exact bV rfl) ?_;refine dH rfl rfl rfl rfl (by exact bV rfl) ?_;refine dH rfl rfl rfl rfl (by exact cK rfl rfl (by omega) (by omega)) ?_;refine dH rfl rfl rfl rfl (by exact aT T rfl rfl rfl rfl rfl (by omega) (by omega)) ?_;refine dH rfl rfl rfl rfl (by exact bA T rfl rfl (bX rfl q2) rfl) ?_;refine dH rfl rfl rfl rfl (by exact bV rfl) ?_;refine dH rfl rfl rfl rfl (by exact bV rfl) ?_;refine dH rfl rfl rfl rfl (by exact bV rfl) ?_;refine dH rfl rfl rfl rfl (by exact cK rfl rfl (by omega) (by omega)) ?_;refine dH rfl rfl rfl rfl (by exact aT T rfl rfl rfl rfl rfl (by omega) (by omega)) ?_;refine dH rfl rfl rfl rfl (by exact bA T rfl rfl (bX rfl q1) rfl) ?_;refine dH rfl rfl rfl rfl (by exact aT T rfl rfl rfl rfl rfl (by omega) (by omega)) ?_;refine A0 rfl rfl rfl rfl (aI rfl) T rfl rfl rfl rfl rfl rfl (by decide) (zI rfl q1 rfl) ?_;refine uS rfl rfl rfl (by exact rfl) ?_;refine vV (by exact aT T rfl rfl rfl rfl rfl (by omega) (by omega)) ?_;refine bC T rfl rfl rfl rfl rfl rfl (by decide) (nJ rfl q3 rfl) ?_)|(refine iA 2 rfl rfl rfl (by omega) (by omega) ?_)|refine nZ ?_));all_goals first|omega | exact ⟨⟨k+1,by omega⟩,by dsimp only;omega,⟨[0],rfl,by (repeat (first|exact trivial|refine ⟨rfl,?_⟩)),⟨.inr (aC rfl (by dsimp only;rw [← t2];try rfl) (bY _)),trivial⟩,by decide,lX⟩⟩
 ·obtain rfl:k=n:=by omega
  have e:=yV9 (P:=P) (Q:=Q) (R:=R) h1 h2
  (repeat' (first|refine wS ?_|refine wE ?_|(refine wC rfl ?_ ?_<;>(intro hb;(try simp only [nm] at hb);try omega))|(refine rg 1 (dJ rfl (vV (aK rfl rfl) ?_)))|refine nZ ?_));all_goals first|omega | exact ⟨.inl rfl,[0],_,rfl,rfl,rfl,⟨.inr (aC rfl (by rw [e]) (bY _)),trivial⟩,by decide,lX⟩ | exact ⟨.inr rfl,[0],_,rfl,rfl,rfl,⟨.inr (aC rfl (by rw [e]) (bY _)),trivial⟩,by decide,lX⟩
theorem zH4 (P X Y R:List W){a m b N:Nat}(ha:a=P.length) (hm:m=P.length+X.length) (hb:b=P.length+X.length+Y.length) (hN:N=b+R.length) (hl:N≤100000) (hX:0<X.length) (hY:0<Y.length) :
  aM Tryz.prog 236 [.sl 0 0 N 3,.i a,.i m,.i b,tV] [.arr (gN (P++(X++(Y++R)))) 3] (.tup []) [.arr (gN (P++(Y++(X++R)))) 3]:=by
 refine bS T Tryz.func236 rfl rfl rfl rfl ?_
 (repeat' (first|refine wS ?_|refine wB ?_|(refine rg 0 (dJ rfl (vV (dC rfl rfl (by omega) (by omega)) (aV ?_))))|(refine rg 1 (dJ rfl (vV (dC rfl rfl (by omega) (by omega)) (aV ?_))))|refine nZ ?_));refine dI (X:={q:List W × List W × List W × List W // q.1++(q.2.2.1++(q.2.1++q.2.2.2))=P++(Y++(X++R))∧q.1.length+q.2.1.length=m∧m+q.2.2.1.length+q.2.2.2.length=N∧0<q.2.1.length∧0<q.2.2.1.length})
  (fun q=>[(0,.sl 0 0 N 3),(1,.i a),(2,.i m),(3,.i b),(4,tV),(10,.i q.1.2.1.length),(11,.i q.1.2.2.1.length)]) (fun q=>[.arr (gN (q.1.1++(q.1.2.1++(q.1.2.2.1++q.1.2.2.2)))) 3]) (fun q=>q.1.2.1.length+q.1.2.2.1.length) ⟨(P,X,Y,R),by dsimp only;exact ⟨rfl,by omega,by omega,hX,hY⟩⟩
  ⟨[0],rfl,⟨rfl,rfl,rfl,rfl,rfl,by dsimp only;rw [show (X.length:Int)=(m:Int)-(a:Int) by omega];rfl,by dsimp only;rw [show (Y.length:Int)=(b:Int)-(m:Int) by omega];rfl,trivial⟩,⟨.inr (aC rfl rfl (bY _)),trivial⟩,by decide,lX⟩ ?_
 rintro ⟨⟨P1,X1,Y1,R1⟩,h1,h2,h3,h4,h5⟩;dsimp only at h1 h2 h3 h4 h5 ⊢;have hsb:((P1.length:Nat):Int)=(m:Int)-(X1.length:Int):=by omega
 by_cases hij:X1.length=Y1.length
 ·have hc:=JY P1 X1 [] Y1 R1 (n:=X1.length) (a:=P1.length) (b:=m) (N:=N) rfl hij.symm rfl (by simp;omega) (by simp;omega) hl
  rw [List.nil_append,List.nil_append,hsb,h1] at hc
  (repeat' (first|refine wS ?_|refine wE ?_|refine wU ?_|(refine rg 2 (dJ rfl (vV (uP rfl rfl (by omega)) ?_)))|(refine rg 8 (dJ rfl (mW rfl (vV (dC rfl rfl (by omega) (by omega)) (dJ rfl (mW rfl (bT [0] rfl rfl (hc) rfl rfl (by decide) ⟨.inr (aC rfl rfl (bY _)),trivial⟩ (by simp) rfl ?_)))))))|refine nZ ?_));all_goals first|omega | exact ⟨.inl rfl,[0],_,rfl,rfl,rfl,⟨.inr (aC rfl (bB _ (bY _)) (bY _)),trivial⟩,by decide,lX⟩ | exact ⟨.inr rfl,[0],_,rfl,rfl,rfl,⟨.inr (aC rfl (bB _ (bY _)) (bY _)),trivial⟩,by decide,lX⟩
 ·by_cases hgt:Y1.length<X1.length
  ·-- a part of the left side goes to the end
   obtain ⟨A,B,rfl,hA⟩:∃ A B,X1=A++B∧A.length=Y1.length:=⟨X1.take Y1.length,X1.drop Y1.length,by simp,by simp;omega⟩
   rw [aD] at *;have hc:=JY P1 A B Y1 R1 (n:=Y1.length) (a:=P1.length) (b:=m) (N:=N) hA rfl rfl (by omega) (by omega) hl
   rw [hsb] at hc;rw [bM]
   (repeat' (first|refine wS ?_|refine wB ?_|refine wK ?_|refine wT ?_|(refine rg 2 (dJ rfl (vV (CJ rfl rfl (by omega)) ?_)))|(refine rg 3 (dJ rfl (vV (yE7 rfl rfl (by omega)) ?_)))|(refine rg 4 (dJ rfl (mW rfl (vV (dC rfl rfl (by omega) (by omega)) (dJ rfl (mW rfl (bT [0] rfl rfl (hc) rfl rfl (by decide) ⟨.inr (aC rfl rfl (bY _)),trivial⟩ (by simp) rfl ?_)))))))|(refine rg 5 (dJ rfl (vV (dC rfl rfl (by omega) (by omega)) (aV ?_))))|refine nZ ?_));all_goals first|omega | skip
   refine ⟨⟨(P1++Y1,B,A,R1),by dsimp only;refine ⟨by rw [← h1];simp,?_,?_,?_,?_⟩ <;> (try simp only [aD]) <;> omega⟩,by dsimp only;omega,⟨[0],rfl,⟨rfl,rfl,rfl,rfl,rfl,by dsimp only;rw [show (B.length:Int)=((A.length+B.length:Nat):Int)-(Y1.length:Int) by omega];rfl,by dsimp only;rw [hA];rfl,trivial⟩,⟨.inr (aC rfl (by rw [bB _ (bY _)];simp) (bY _)),trivial⟩,by decide,lX⟩⟩
  ·-- a part of the right side goes to the front
   obtain ⟨A,B,rfl,hA⟩:∃ A B,Y1=A++B∧B.length=X1.length:=⟨Y1.take (Y1.length-X1.length),Y1.drop (Y1.length-X1.length),by simp,by simp;omega⟩
   rw [aD] at *;have hc:=JY P1 X1 A B R1 (n:=X1.length) (a:=P1.length) (b:=m+A.length) (N:=N) rfl hA rfl (by omega) (by omega) hl
   rw [hsb,show ((m+A.length:Nat):Int)=(m:Int)+((A.length+B.length:Nat):Int)-(X1.length:Int) by omega] at hc
   rw [bM]
   (repeat' (first|refine wS ?_|refine wB ?_|refine wK ?_|refine wT ?_|refine wU ?_|(refine rg 2 (dJ rfl (vV (CJ rfl rfl (by omega)) ?_)))|(refine rg 3 (dJ rfl (vV (LF rfl rfl (by omega)) ?_)))|(refine rg 6 (dJ rfl (mW rfl (vV (dC rfl rfl (by omega) (by omega)) (dJ rfl (vV (cK rfl rfl (by omega) (by omega)) (mW rfl (vV (dC rfl rfl (by omega) (by omega)) (dJ rfl (bT [0] rfl rfl (hc) rfl rfl (by decide) ⟨.inr (aC rfl rfl (bY _)),trivial⟩ (by simp) rfl ?_))))))))))|(refine rg 7 (dJ rfl (vV (dC rfl rfl (by omega) (by omega)) (aV ?_))))|refine nZ ?_));all_goals first|omega | skip
   refine ⟨⟨(P1,B,A,X1++R1),by dsimp only;refine ⟨by rw [← h1];simp,?_,?_,?_,?_⟩ <;> (try simp only [aD]) <;> omega⟩,by dsimp only;omega,⟨[0],rfl,⟨rfl,rfl,rfl,rfl,rfl,by dsimp only;rw [hA];rfl,by dsimp only;rw [show (A.length:Int)=((A.length+B.length:Nat):Int)-(X1.length:Int) by omega];rfl,trivial⟩,⟨.inr (aC rfl (by rw [bB _ (bY _)]) (bY _)),trivial⟩,by decide,lX⟩⟩
end Go.Proofs.Q
namespace Go.Ld
open Go.Ab Go.Proofs.Q
theorem XM {V:List W}{i:Nat}{z:W}(h0:0<i) (h:V[i-1]? = some z):V.take i=V.take (i-1)++[z]:=by
 conv=>lhs;rw [show i=(i-1)+1 by omega]
 rw [zU7,h];rfl
theorem yG6 {V:List W}{i:Nat}{z:W}(h:V[i]? = some z):V.drop i=z::V.drop (i+1):=by
 obtain ⟨hi,e⟩:=aA.1 h;rw [aP hi,e]
theorem UW {V:List W}{i:Nat}(hu:Up V){x y z:W}(h0:0<i) (h:V[i-1]? = some z) (hy:y∈V.take i) (hz:eY z x≤0):eY y x≤0:=by
 have h1:Up (V.take i):=hu.sublist (List.take_sublist _ _);rw [XM h0 h] at h1 hy;exact jT.le_tr (UX h1 y hy) hz
theorem UY {V:List W}{i:Nat}(hu:Up V){x y z:W}(h:V[i]? = some z) (hy:y∈V.drop i) (hz:eY x z≤0):eY x y≤0:=by
 have h1:Up (V.drop i):=hu.sublist (List.drop_sublist _ _);rw [yG6 h] at h1 hy;exact jT.le_tr hz (zW2 h1 y hy)
theorem uM {V:List W}{i:Nat}{y:W}(h:y∈V.take i) (hi:i≤V.length):0<i∧∃ z,V[i-1]? = some z:=by
 have:0<i:=by
  rcases U8 i with rfl | h0
  ·simp at h
  ·exact h0
 exact ⟨this,_,aB (by omega)⟩
theorem wX {V:List W}{i:Nat}{y:W}(h:y∈V.drop i):∃ z,V[i]? = some z:=by
 have:i<V.length:=by
  rcases jO i V.length with h0 | h0
  ·exact h0
  ·rw [cY h0] at h;cases h
 exact ⟨_,aB this⟩
theorem yP8 {u:W}{V:List W}{i:Nat}(hi:i≤V.length) (hu:Up V) (h1:∀ z,0<i→V[i-1]? = some z→eY z u<0) (h2:∀ z,V[i]? = some z→¬ eY z u<0):eN eY ([u]++V)=V.take i++u::V.drop i:=by
 refine P5 ?_ (SF (by rw [bK];exact hu) (fun y hy=>?_) (fun y hy=>?_))
 ·refine List.perm_middle.trans ?_;rw [bK];exact .refl _
 ·obtain ⟨h0,z,hz⟩:=uM hy hi;exact UW hu h0 hz hy (J7 (h1 z h0 hz))
 ·obtain ⟨z,hz⟩:=wX hy;exact UY hu hz hy (xA6 (h2 z hz))
theorem yP7 {v:W}{U:List W}{i:Nat}(hi:i≤U.length) (hu:Up U) (h1:∀ z,0<i→U[i-1]? = some z→¬ eY v z<0) (h2:∀ z,U[i]? = some z→eY v z<0):eN eY (U++[v])=U.take i++v::U.drop i:=by
 refine P5 ?_ (SF (by rw [bK];exact hu) (fun y hy=>?_) (fun y hy=>?_))
 ·refine List.perm_middle.trans ?_;rw [bK];exact (U9 _ _).symm
 ·obtain ⟨h0,z,hz⟩:=uM hy hi;exact UW hu h0 hz hy (xA6 (h1 z h0 hz))
 ·obtain ⟨z,hz⟩:=wX hy;exact UY hu hz hy (J7 (h2 z hz))
theorem yZ3 {U V:List W}{i e:Nat}(hU:Up U) (hV:Up V) (hi:i≤U.length) (he:e≤V.length) (h1:∀ x y,0<i→U[i-1]? = some x→V[e]? = some y→¬ eY y x<0) (h2:∀ x y,0<e→U[i]? = some x→V[e-1]? = some y→eY y x<0) :
  eN eY (U++V)=eN eY (U.take i++V.take e)++eN eY (U.drop i++V.drop e):=by
 have hU1:Up (U.take i++U.drop i):=by rw [bK];exact hU
 have hV1:Up (V.take e++V.drop e):=by rw [bK];exact hV
 have cU:=(fM.1 hU1).2.2;have cV:=(fM.1 hV1).2.2;refine P5 ?_ (yM8 (lZ jT _) (lZ jT _) fun x y hx hy=>?_)
 ·refine ((dW _ _).append (dW _ _)).trans ?_;have e1:(U.take i++V.take e++(U.drop i++V.drop e)).Perm (U.take i++U.drop i++(V.take e++V.drop e)):=by
   rw [bM,bM];refine List.Perm.append_left _ ?_;rw [← bM,← bM];exact List.perm_append_comm.append_right _
  rw [bK,bK] at e1;exact e1
 ·have hx:=(dW _ _).mem_iff.1 hx;have hy:=(dW _ _).mem_iff.1 hy;rcases bH.1 hx with hx | hx <;> rcases bH.1 hy with hy | hy
  ·exact cU x hx y hy
  ·obtain ⟨h0,z,hz⟩:=uM hx hi;obtain ⟨q,hq⟩:=wX hy;exact UY hV hq hy (UW hU h0 hz hx (xA6 (h1 z q h0 hz hq)))
  ·obtain ⟨h0,z,hz⟩:=uM hx he;obtain ⟨q,hq⟩:=wX hy;exact UY hU hq hy (UW hV h0 hz hx (J7 (h2 q z h0 hq hz)))
  ·exact cV x hx y hy
def V5 (P V:List W) (u:W) (R:List W) (k:Nat):List W:=(P++V.take k)++u::(V.drop k++R)
theorem NC {P V:List W}{u:W}{R:List W}{k:Nat}(h:k<V.length):∃ y,(V5 P V u R k)[P.length+k]? = some u∧(V5 P V u R k)[P.length+k+1]? = some y ∧
  ((V5 P V u R k).set (P.length+k) y)[P.length+k+1]? = some y∧((V5 P V u R k).set (P.length+k) y).set (P.length+k+1) u=V5 P V u R (k+1) ∧
  (V5 P V u R (k+1))[P.length+k+1]? = some u∧(V5 P V u R (k+1))[P.length+k]? = some y∧((V5 P V u R (k+1)).set (P.length+k+1) y)[P.length+k]? = some y∧((V5 P V u R (k+1)).set (P.length+k+1) y).set (P.length+k) u=V5 P V u R k:=by
 obtain ⟨V1,y,V2,rfl,hk⟩:=SK h;obtain ⟨a1,a2,a3,a4⟩:=xB7 (x:=y) (X2:=V2) hk;have e:V5 P (V1++y::V2) u R k=(P++V1)++u::y::(V2++R):=by unfold V5;rw [a1,a2];simp
 have e':V5 P (V1++y::V2) u R (k+1)=(P++V1)++y::u::(V2++R):=by unfold V5;rw [a3,a4];simp
 have l0:P.length+k=(P++V1).length:=by simp;omega
 have s1:∀ (p q:W),((P++V1)++p::q::(V2++R))[P.length+k+1]? = some q:=fun p q=>by
  rw [show (P++V1)++p::q::(V2++R)=((P++V1)++[p])++q::(V2++R) by simp];exact oU _ _ _ (by simp;omega)
 have s2:∀ (p q z:W),((P++V1)++p::q::(V2++R)).set (P.length+k+1) z=(P++V1)++p::z::(V2++R):=fun p q z=>by
  rw [show (P++V1)++p::q::(V2++R)=((P++V1)++[p])++q::(V2++R) by simp,pE _ _ _ _ (by simp;omega)];simp
 rw [e,e'];refine ⟨y,oU _ _ _ l0,s1 _ _,?_,?_,s1 _ _,oU _ _ _ l0,?_,?_⟩
 ·rw [pE _ _ _ _ l0];exact s1 _ _
 ·rw [pE _ _ _ _ l0,s2]
 ·rw [s2];exact oU _ _ _ l0
 ·rw [s2,pE _ _ _ _ l0]
theorem zS5 {P U V R:List W}{i k:Nat}(h:i=P.length+U.length+k) (hk:k<V.length):(P++(U++(V++R)))[i]? = V[k]?:=by
 subst h;rw [aF (by omega),aF (by omega),aG (by omega)]
 congr 1;omega
theorem zS6 {P U V R:List W}{i k:Nat}(h:i=P.length+k) (hk:k<U.length):(P++(U++(V++R)))[i]? = U[k]?:=by
 subst h;rw [aF (by omega),aG (by omega)]
 congr 1;omega
end Go.Ld
namespace Go.Proofs.Q
open Go Go.Ab Go.Ld
attribute [local irreducible] VC AW bW aM
theorem C8:AA Tryz.prog 3 .i64:=by unfold AA;kernel_rfl
theorem tH:AA Tryz.prog 164 .u64:=by unfold AA;kernel_rfl
attribute [local irreducible] AA
theorem yN4 (P:List W) (u:W) (V R:List W){a m b N:Nat}(ha:a=P.length) (hm:m=a+1) (hb:b=m+V.length) (hN:N=b+R.length) (hl:N≤100000) (hV:Up V) (hu:V6 u) (hw:∀ w,w∈V→V6 w) :
  aM Tryz.prog 217 [.sl 0 0 N 3,.i a,.i m,.i b,tV] [.arr (gN (P++([u]++(V++R)))) 3] (.tup []) [.arr (gN (P++(eN eY ([u]++V)++R))) 3]:=by
 refine bS T Tryz.func217 rfl rfl rfl rfl ?_
 (repeat' (first|refine wS ?_|refine wB ?_|refine wT ?_|(refine rg 0 (dJ rfl (vV (dC rfl rfl (by omega) (by omega)) (vV (jL rfl rfl (by omega)) ?_))))|(refine rg 1 (mW rfl (aV ?_)))|(refine rg 2 (mW rfl (aV ?_)))|refine nZ ?_));refine dI (X:={q:Nat × Nat // m≤q.1∧q.1≤q.2∧q.2≤b∧(∀ z,0<q.1-m→V[q.1-m-1]? = some z→eY z u<0)∧(∀ z,V[q.2-m]? = some z→¬ eY z u<0)})
  (fun q=>[(0,.sl 0 0 N 3),(1,.i a),(4,tV),(10,.i q.1.1),(11,.i q.1.2)]) (fun _=>[.arr (gN (P++([u]++(V++R)))) 3]) (fun q=>q.1.2-q.1.1) ⟨(m,b),by dsimp only;exact ⟨by omega,by omega,by omega,fun z h=>by omega,fun z h=>by rw [dA (by omega)] at h;cases h⟩⟩
  ⟨[0],rfl,by (repeat (first|exact trivial|refine ⟨rfl,?_⟩)),⟨.inr (aC rfl rfl (bY _)),trivial⟩,by decide,lX⟩ ?_
 rintro ⟨⟨i,j⟩,h1,h2,h3,h4,h5⟩;dsimp only at h1 h2 h3 h4 h5 ⊢;by_cases hij:i<j
 ·have hP:((i:Int)+j) / 2 ^ (1:Int).toNat=(((i+j) / 2:Nat):Int):=by rw [show (2:Int) ^ (1:Int).toNat=2 from rfl];omega
  have hw1:IntKind.u64.wrap ((i:Int)+j)=(i:Int)+j:=MV (by omega) (by omega)
  have hw2:IntKind.i64.wrap (((i+j) / 2:Nat):Int)=(((i+j) / 2:Nat):Int):=IntWalk.i64_in _ (by omega)
  have hh:i≤(i+j) / 2∧(i+j) / 2<j:=by omega
  generalize hq:(i+j) / 2=q at *;obtain ⟨z,hz⟩:∃ z,V[q-m]? = some z:=⟨_,aB (by omega)⟩
  have q1:=qZ (L:=P++([u]++(V++R))) (j:=(q:Int)) (i:=q) (x:=z) (by rw [zS5 (k:=q-m) (by simp;omega) (by omega)];exact hz) rfl
  have q2:=qZ (L:=P++([u]++(V++R))) (j:=(a:Int)) (i:=a) (x:=u) (by rw [zS6 (k:=0) (by omega) (by simp)];rfl) rfl
  have hc:=zO z u (hw z (aQ hz)) hu;by_cases h0:eY z u<0
  ·generalize hx:eY z u=x at *
   (repeat' (first|refine wS ?_|refine wB ?_|refine wK ?_|(refine wC rfl ?_ ?_<;>(intro hb;(try simp only [nm] at hb);try omega))|(refine rg 3 (dJ rfl (vV (aK rfl rfl) ?_)))|(refine rg 4 (dJ rfl (vV (cK rfl rfl (by omega) (by omega)) (vV (jQ C8 tH rfl hw1) (vV (by exact hP▸xA rfl rfl (by decide) (by decide)) ?_))));refine vV (jQ tH C8 rfl hw2) (aV ?_))|(refine cH (id:=5) 220 xK2 (rM 40 11) xK3 cP rfl (by decide +kernel) (dN rfl (dN rfl (dN rfl (dV rfl (by exact aT T rfl rfl rfl rfl rfl (by omega) (by omega)) ?_))));refine dV rfl (by exact bA T rfl rfl (bX rfl q1) rfl) ?_;refine dN rfl (dN rfl (dV rfl (by exact aT T rfl rfl rfl rfl rfl (by omega) (by omega)) ?_));refine dV rfl (by exact bA T rfl rfl (bX rfl q2) rfl) ?_;refine dV rfl (kC (hc)) (dV rfl (aK rfl rfl) (dE ?_)))|(refine iA 6 rfl rfl rfl (by omega) (by omega) ?_)|refine nZ ?_));all_goals first|omega | skip
   exact ⟨⟨(q+1,j),by dsimp only;exact ⟨by omega,by omega,by omega,fun z' _ hz'=>by rw [show q+1-m-1=q-m by omega,hz] at hz';cases hz';omega,h5⟩⟩,by dsimp only;omega,⟨[0],rfl,by (repeat (first|exact trivial|refine ⟨rfl,?_⟩)),⟨.inr (aC rfl rfl (bY _)),trivial⟩,by decide,lX⟩⟩
  ·generalize hx:eY z u=x at *
   (repeat' (first|refine wS ?_|refine wB ?_|refine wK ?_|(refine wC rfl ?_ ?_<;>(intro hb;(try simp only [nm] at hb);try omega))|(refine rg 3 (dJ rfl (vV (aK rfl rfl) ?_)))|(refine rg 4 (dJ rfl (vV (cK rfl rfl (by omega) (by omega)) (vV (jQ C8 tH rfl hw1) (vV (by exact hP▸xA rfl rfl (by decide) (by decide)) ?_))));refine vV (jQ tH C8 rfl hw2) (aV ?_))|(refine cH (id:=5) 220 xK2 (rM 40 11) xK3 cP rfl (by decide +kernel) (dN rfl (dN rfl (dN rfl (dV rfl (by exact aT T rfl rfl rfl rfl rfl (by omega) (by omega)) ?_))));refine dV rfl (by exact bA T rfl rfl (bX rfl q1) rfl) ?_;refine dN rfl (dN rfl (dV rfl (by exact aT T rfl rfl rfl rfl rfl (by omega) (by omega)) ?_));refine dV rfl (by exact bA T rfl rfl (bX rfl q2) rfl) ?_;refine dV rfl (kC (hc)) (dV rfl (aK rfl rfl) (dE ?_)))|(refine rg 7 (mW rfl (aV ?_)))|refine nZ ?_));all_goals first|omega | skip
   exact ⟨⟨(i,q),by dsimp only;exact ⟨by omega,by omega,by omega,h4,fun z' hz'=>by rw [hz] at hz';cases hz';omega⟩⟩,by dsimp only;omega,⟨[0],rfl,by (repeat (first|exact trivial|refine ⟨rfl,?_⟩)),⟨.inr (aC rfl rfl (bY _)),trivial⟩,by decide,lX⟩⟩
 ·obtain rfl:i=j:=by omega
  have hmg:=yP8 (u:=u) (i:=i-m) (by omega) hV h4 h5
  (repeat' (first|refine wS ?_|refine wB ?_|refine wE ?_|(refine wC rfl ?_ ?_<;>(intro hb;(try simp only [nm] at hb);try omega))|(refine rg 3 (dJ rfl (vV (aK rfl rfl) ?_)))|(refine rg 8 (mW rfl (aV ?_)))|refine nZ ?_));all_goals first|omega | skip
  refine dI (X:={t:Nat // t≤i-m}) (fun t=>[(0,.sl 0 0 N 3),(10,.i i),(13,.i ((a+t.1:Nat):Int))]) (fun t=>[.arr (gN (V5 P V u R t.1)) 3]) (fun t=>i-m-t.1) ⟨0,by omega⟩ ⟨[0],rfl,⟨rfl,rfl,by dsimp only;rfl,trivial⟩,⟨.inr (aC rfl (by dsimp only;unfold V5;simp) (bY _)),trivial⟩,by decide,lX⟩ ?_
  rintro ⟨t,ht⟩;dsimp only;by_cases hlt:t<i-m
  ·obtain ⟨y,p1,p2,p3,p4,_⟩:=NC (P:=P) (u:=u) (R:=R) (show t<V.length by omega)
   have q1:=qZ (j:=((a+t:Nat):Int)) p1 (by omega)
   have q2:=qZ (j:=((a+t:Nat):Int)+1) p2 (by omega)
   have t1:=zG (L:=V5 P V u R t) (j:=((a+t:Nat):Int)) (i:=P.length+t) (x:=y) (by omega)
   have q3:=qZ (j:=((a+t:Nat):Int)+1) p3 (by omega)
   have t2:=zG (L:=(V5 P V u R t).set (P.length+t) y) (j:=((a+t:Nat):Int)+1) (i:=P.length+t+1) (x:=u) (by omega)
   rw [← t1] at q3 t2;rw [p4] at t2;have hJ:((a+t:Nat):Int)+1=((a+(t+1):Nat):Int):=by omega
   have hJ1:((a+t:Nat):Int)<(i:Int)-1:=by omega
   have hJ2:0≤((a+t:Nat):Int):=by omega
   clear p1 p2 p3 p4 t1;generalize ((a+t:Nat):Int)=J at *;generalize V5 P V u R t=L at *
   (repeat' (first|refine wS ?_|refine wB ?_|refine wK ?_|(refine wC rfl ?_ ?_<;>(intro hb;(try simp only [nm] at hb);try omega))|(refine rg 9 (dJ rfl (vV (dC rfl rfl (by omega) (by omega)) (vV (aK rfl rfl) ?_))))|(refine pG (id:=11) 220 xK0 (rM 61 15) [[],[61],[61,62],[61,62,63],[61,62,63],rM 61 5,rM 61 6,rM 61 6,rM 61 5,rM 61 5,rM 61 10,rM 61 11,rM 61 10,rM 61 10,[63,64,65],[63,64,65]] [(15,0)] cP rfl (by decide +kernel) (dH rfl rfl rfl rfl (by exact bV rfl) ?_);refine dH rfl rfl rfl rfl (by exact bV rfl) ?_;refine dH rfl rfl rfl rfl (by exact bV rfl) ?_;refine dH rfl rfl rfl rfl (by exact bV rfl) ?_;refine dH rfl rfl rfl rfl (by exact cK rfl rfl (by omega) (by omega)) ?_;refine dH rfl rfl rfl rfl (by exact bV rfl) ?_;refine dH rfl rfl rfl rfl (by exact bV rfl) ?_;refine dH rfl rfl rfl rfl (by exact cK rfl rfl (by omega) (by omega)) ?_;refine dH rfl rfl rfl rfl (by exact aT T rfl rfl rfl rfl rfl (by omega) (by omega)) ?_;refine dH rfl rfl rfl rfl (by exact bA T rfl rfl (bX rfl q2) rfl) ?_;refine dH rfl rfl rfl rfl (by exact bV rfl) ?_;refine dH rfl rfl rfl rfl (by exact bV rfl) ?_;refine dH rfl rfl rfl rfl (by exact aT T rfl rfl rfl rfl rfl (by omega) (by omega)) ?_;refine dH rfl rfl rfl rfl (by exact bA T rfl rfl (bX rfl q1) rfl) ?_;refine dH rfl rfl rfl rfl (by exact aT T rfl rfl rfl rfl rfl (by omega) (by omega)) ?_;refine A0 rfl rfl rfl rfl (aI rfl) T rfl rfl rfl rfl rfl rfl (by decide) (zI rfl q1 rfl) ?_;refine uS rfl rfl rfl (by exact rfl) ?_;refine vV (by exact aT T rfl rfl rfl rfl rfl (by omega) (by omega)) ?_;refine bC T rfl rfl rfl rfl rfl rfl (by decide) (nJ rfl q3 rfl) ?_)|(refine iA 10 rfl rfl rfl (by omega) (by omega) ?_)|refine nZ ?_));all_goals first|omega | skip
   exact ⟨⟨t+1,by omega⟩,by dsimp only;omega,⟨[0],rfl,⟨rfl,rfl,by dsimp only;rw [← hJ];try rfl,trivial⟩,⟨.inr (aC rfl (by dsimp only;rw [← t2];try rfl) (bY _)),trivial⟩,by decide,lX⟩⟩
  ·obtain rfl:t=i-m:=by omega
   have ee:V5 P V u R (i-m)=P++(eN eY ([u]++V)++R):=by rw [hmg];unfold V5;simp
   have hJ1:¬ ((a+(i-m):Nat):Int)<(i:Int)-1:=by omega
   generalize ((a+(i-m):Nat):Int)=J at *
   (repeat' (first|refine wS ?_|refine wR ?_|refine wE ?_|(refine wC rfl ?_ ?_<;>(intro hb;(try simp only [nm] at hb);try omega))|(refine rg 9 (dJ rfl (vV (dC rfl rfl (by omega) (by omega)) (vV (aK rfl rfl) ?_))))|refine nZ ?_));all_goals first|omega | exact ⟨.inl rfl,[0],_,rfl,rfl,rfl,⟨.inr (aC rfl (by rw [ee]) (bY _)),trivial⟩,by decide,lX⟩ | exact ⟨.inr rfl,[0],_,rfl,rfl,rfl,⟨.inr (aC rfl (by rw [ee]) (bY _)),trivial⟩,by decide,lX⟩
theorem yN3 (P U:List W) (v:W) (R:List W){a m b N:Nat}(ha:a=P.length) (hm:m=a+U.length) (hb:b=m+1) (hN:N=b+R.length) (hl:N≤100000) (hU2:2≤U.length) (hU:Up U) (hv:V6 v) (hw:∀ w,w∈U→V6 w) :
  aM Tryz.prog 217 [.sl 0 0 N 3,.i a,.i m,.i b,tV] [.arr (gN (P++(U++([v]++R)))) 3] (.tup []) [.arr (gN (P++(eN eY (U++[v])++R))) 3]:=by
 refine bS T Tryz.func217 rfl rfl rfl rfl ?_
 (repeat' (first|refine wS ?_|refine wB ?_|refine wK ?_|refine wT ?_|refine wU ?_|(refine rg 0 (dJ rfl (vV (dC rfl rfl (by omega) (by omega)) (vV (gR rfl rfl (by omega)) ?_))))|(refine rg 12 (dJ rfl (vV (dC rfl rfl (by omega) (by omega)) (vV (jL rfl rfl (by omega)) ?_))))|(refine rg 13 (mW rfl (aV ?_)))|(refine rg 14 (mW rfl (aV ?_)))|refine nZ ?_));refine dI (X:={q:Nat × Nat // a≤q.1∧q.1≤q.2∧q.2≤m∧(∀ z,0<q.1-a→U[q.1-a-1]? = some z→¬ eY v z<0)∧(∀ z,U[q.2-a]? = some z→eY v z<0)})
  (fun q=>[(0,.sl 0 0 N 3),(2,.i m),(4,tV),(14,.i q.1.1),(15,.i q.1.2)]) (fun _=>[.arr (gN (P++(U++([v]++R)))) 3]) (fun q=>q.1.2-q.1.1) ⟨(a,m),by dsimp only;exact ⟨by omega,by omega,by omega,fun z h=>by omega,fun z h=>by rw [dA (by omega)] at h;cases h⟩⟩
  ⟨[0],rfl,by (repeat (first|exact trivial|refine ⟨rfl,?_⟩)),⟨.inr (aC rfl rfl (bY _)),trivial⟩,by decide,lX⟩ ?_
 rintro ⟨⟨i,j⟩,h1,h2,h3,h4,h5⟩;dsimp only at h1 h2 h3 h4 h5 ⊢;by_cases hij:i<j
 ·have hP:((i:Int)+j) / 2 ^ (1:Int).toNat=(((i+j) / 2:Nat):Int):=by rw [show (2:Int) ^ (1:Int).toNat=2 from rfl];omega
  have hw1:IntKind.u64.wrap ((i:Int)+j)=(i:Int)+j:=MV (by omega) (by omega)
  have hw2:IntKind.i64.wrap (((i+j) / 2:Nat):Int)=(((i+j) / 2:Nat):Int):=IntWalk.i64_in _ (by omega)
  have hh:i≤(i+j) / 2∧(i+j) / 2<j:=by omega
  generalize hq:(i+j) / 2=q at *;obtain ⟨z,hz⟩:∃ z,U[q-a]? = some z:=⟨_,aB (by omega)⟩
  have q1:=qZ (L:=P++(U++([v]++R))) (j:=(m:Int)) (i:=m) (x:=v) (by rw [zS5 (k:=0) (by omega) (by simp)];rfl) rfl
  have q2:=qZ (L:=P++(U++([v]++R))) (j:=(q:Int)) (i:=q) (x:=z) (by rw [zS6 (k:=q-a) (by omega) (by omega)];exact hz) rfl
  have hc:=zO v z hv (hw z (aQ hz));by_cases h0:eY v z<0
  ·generalize hx:eY v z=x at *
   (repeat' (first|refine wS ?_|refine wB ?_|refine wK ?_|(refine wC rfl ?_ ?_<;>(intro hb;(try simp only [nm] at hb);try omega))|(refine rg 15 (dJ rfl (vV (aK rfl rfl) ?_)))|(refine rg 16 (dJ rfl (vV (cK rfl rfl (by omega) (by omega)) (vV (jQ C8 tH rfl hw1) (vV (by exact hP▸xA rfl rfl (by decide) (by decide)) ?_))));refine vV (jQ tH C8 rfl hw2) (aV ?_))|(refine cH (id:=17) 220 xK4 (rM 92 12) xK5 cP rfl (by decide +kernel) (dN rfl (dN rfl (dN rfl (dV rfl (by exact aT T rfl rfl rfl rfl rfl (by omega) (by omega)) ?_))));refine dV rfl (by exact bA T rfl rfl (bX rfl q1) rfl) ?_;refine dN rfl (dN rfl (dV rfl (by exact aT T rfl rfl rfl rfl rfl (by omega) (by omega)) ?_));refine dV rfl (by exact bA T rfl rfl (bX rfl q2) rfl) ?_;refine dV rfl (kC (hc)) (dV rfl (aK rfl rfl) (dV rfl (dS rfl) (dE ?_))))|(refine rg 19 (mW rfl (aV ?_)))|refine nZ ?_));all_goals first|omega | skip
   exact ⟨⟨(i,q),by dsimp only;exact ⟨by omega,by omega,by omega,h4,fun z' hz'=>by rw [hz] at hz';cases hz';omega⟩⟩,by dsimp only;omega,⟨[0],rfl,by (repeat (first|exact trivial|refine ⟨rfl,?_⟩)),⟨.inr (aC rfl rfl (bY _)),trivial⟩,by decide,lX⟩⟩
  ·generalize hx:eY v z=x at *
   (repeat' (first|refine wS ?_|refine wB ?_|refine wK ?_|(refine wC rfl ?_ ?_<;>(intro hb;(try simp only [nm] at hb);try omega))|(refine rg 15 (dJ rfl (vV (aK rfl rfl) ?_)))|(refine rg 16 (dJ rfl (vV (cK rfl rfl (by omega) (by omega)) (vV (jQ C8 tH rfl hw1) (vV (by exact hP▸xA rfl rfl (by decide) (by decide)) ?_))));refine vV (jQ tH C8 rfl hw2) (aV ?_))|(refine cH (id:=17) 220 xK4 (rM 92 12) xK5 cP rfl (by decide +kernel) (dN rfl (dN rfl (dN rfl (dV rfl (by exact aT T rfl rfl rfl rfl rfl (by omega) (by omega)) ?_))));refine dV rfl (by exact bA T rfl rfl (bX rfl q1) rfl) ?_;refine dN rfl (dN rfl (dV rfl (by exact aT T rfl rfl rfl rfl rfl (by omega) (by omega)) ?_));refine dV rfl (by exact bA T rfl rfl (bX rfl q2) rfl) ?_;refine dV rfl (kC (hc)) (dV rfl (aK rfl rfl) (dV rfl (dS rfl) (dE ?_))))|(refine iA 18 rfl rfl rfl (by omega) (by omega) ?_)|refine nZ ?_));all_goals first|omega | skip
   exact ⟨⟨(q+1,j),by dsimp only;exact ⟨by omega,by omega,by omega,fun z' _ hz'=>by rw [show q+1-a-1=q-a by omega,hz] at hz';cases hz';omega,h5⟩⟩,by dsimp only;omega,⟨[0],rfl,by (repeat (first|exact trivial|refine ⟨rfl,?_⟩)),⟨.inr (aC rfl rfl (bY _)),trivial⟩,by decide,lX⟩⟩
 ·obtain rfl:i=j:=by omega
  have hmg:=yP7 (v:=v) (i:=i-a) (by omega) hU h4 h5
  (repeat' (first|refine wS ?_|refine wB ?_|refine wE ?_|(refine wC rfl ?_ ?_<;>(intro hb;(try simp only [nm] at hb);try omega))|(refine rg 15 (dJ rfl (vV (aK rfl rfl) ?_)))|(refine rg 20 (mW rfl (aV ?_)))|refine nZ ?_));all_goals first|omega | skip
  refine dI (X:={t:Nat // i-a≤t∧t≤U.length}) (fun t=>[(0,.sl 0 0 N 3),(14,.i i),(17,.i ((a+t.1:Nat):Int))]) (fun t=>[.arr (gN (V5 P U v R t.1)) 3]) (fun t=>t.1) ⟨U.length,by omega⟩ ⟨[0],rfl,⟨rfl,rfl,by dsimp only;rw [← hm];rfl,trivial⟩,⟨.inr (aC rfl (by dsimp only;unfold V5;simp) (bY _)),trivial⟩,by decide,lX⟩ ?_
  rintro ⟨t,ht,ht2⟩;dsimp only;by_cases hlt:i-a<t
  ·obtain ⟨t,rfl⟩:∃ t',t=t'+1:=⟨t-1,by omega⟩
   obtain ⟨y,_,_,_,_,p1,p2,p3,p4⟩:=NC (P:=P) (u:=v) (R:=R) (show t<U.length by omega)
   have q1:=qZ (j:=((a+(t+1):Nat):Int)) p1 (by omega)
   have q2:=qZ (j:=((a+(t+1):Nat):Int)-1) p2 (by omega)
   have t1:=zG (L:=V5 P U v R (t+1)) (j:=((a+(t+1):Nat):Int)) (i:=P.length+t+1) (x:=y) (by omega)
   have q3:=qZ (j:=((a+(t+1):Nat):Int)-1) p3 (by omega)
   have t2:=zG (L:=(V5 P U v R (t+1)).set (P.length+t+1) y) (j:=((a+(t+1):Nat):Int)-1) (i:=P.length+t) (x:=v) (by omega)
   rw [← t1] at q3 t2;rw [p4] at t2;have hJ:((a+(t+1):Nat):Int)-1=((a+t:Nat):Int):=by omega
   have hJ1:((a+(t+1):Nat):Int) > (i:Int):=by omega
   have hJ2:1≤((a+(t+1):Nat):Int):=by omega
   have hJ3:((a+(t+1):Nat):Int)<N:=by omega
   clear p1 p2 p3 p4 t1;generalize ((a+(t+1):Nat):Int)=J at *;generalize V5 P U v R (t+1)=L at *
   (repeat' (first|refine wS ?_|refine wB ?_|refine wK ?_|(refine wC rfl ?_ ?_<;>(intro hb;(try simp only [nm] at hb);try omega))|(refine rg 21 (dJ rfl (vV (fK rfl rfl) ?_)))|(refine pG (id:=23) 220 xK0 (rM 113 15) [[],[113],[113,114],[113,114,115],[113,114,115],rM 113 5,rM 113 6,rM 113 6,rM 113 5,rM 113 5,rM 113 10,rM 113 11,rM 113 10,rM 113 10,[115,116,117],[115,116,117]] [(15,0)] cP rfl (by decide +kernel) (dH rfl rfl rfl rfl (by exact bV rfl) ?_);refine dH rfl rfl rfl rfl (by exact bV rfl) ?_;refine dH rfl rfl rfl rfl (by exact bV rfl) ?_;refine dH rfl rfl rfl rfl (by exact bV rfl) ?_;refine dH rfl rfl rfl rfl (by exact dC rfl rfl (by omega) (by omega)) ?_;refine dH rfl rfl rfl rfl (by exact bV rfl) ?_;refine dH rfl rfl rfl rfl (by exact bV rfl) ?_;refine dH rfl rfl rfl rfl (by exact dC rfl rfl (by omega) (by omega)) ?_;refine dH rfl rfl rfl rfl (by exact aT T rfl rfl rfl rfl rfl (by omega) (by omega)) ?_;refine dH rfl rfl rfl rfl (by exact bA T rfl rfl (bX rfl q2) rfl) ?_;refine dH rfl rfl rfl rfl (by exact bV rfl) ?_;refine dH rfl rfl rfl rfl (by exact bV rfl) ?_;refine dH rfl rfl rfl rfl (by exact aT T rfl rfl rfl rfl rfl (by omega) (by omega)) ?_;refine dH rfl rfl rfl rfl (by exact bA T rfl rfl (bX rfl q1) rfl) ?_;refine dH rfl rfl rfl rfl (by exact aT T rfl rfl rfl rfl rfl (by omega) (by omega)) ?_;refine A0 rfl rfl rfl rfl (aI rfl) T rfl rfl rfl rfl rfl rfl (by decide) (zI rfl q1 rfl) ?_;refine uS rfl rfl rfl (by exact rfl) ?_;refine vV (by exact aT T rfl rfl rfl rfl rfl (by omega) (by omega)) ?_;refine bC T rfl rfl rfl rfl rfl rfl (by decide) (nJ rfl q3 rfl) ?_)|(refine rg 22 (mW rfl (vV (dC rfl rfl (by omega) (by omega)) (aV ?_))))|refine nZ ?_));all_goals first|omega | skip
   exact ⟨⟨t,by omega⟩,by dsimp only;omega,⟨[0],rfl,⟨rfl,rfl,by dsimp only;rw [← hJ];try rfl,trivial⟩,⟨.inr (aC rfl (by dsimp only;rw [← t2];try rfl) (bY _)),trivial⟩,by decide,lX⟩⟩
  ·obtain rfl:t=i-a:=by omega
   have ee:V5 P U v R (i-a)=P++(eN eY (U++[v])++R):=by rw [hmg];unfold V5;simp
   have hJ1:¬ ((a+(i-a):Nat):Int) > (i:Int):=by omega
   generalize ((a+(i-a):Nat):Int)=J at *
   (repeat' (first|refine wS ?_|refine wR ?_|refine wE ?_|(refine wC rfl ?_ ?_<;>(intro hb;(try simp only [nm] at hb);try omega))|(refine rg 21 (dJ rfl (vV (fK rfl rfl) ?_)))|refine nZ ?_));all_goals first|omega | exact ⟨.inl rfl,[0],_,rfl,rfl,rfl,⟨.inr (aC rfl (by rw [ee]) (bY _)),trivial⟩,by decide,lX⟩ | exact ⟨.inr rfl,[0],_,rfl,rfl,rfl,⟨.inr (aC rfl (by rw [ee]) (bY _)),trivial⟩,by decide,lX⟩
end Go.Proofs.Q
namespace Go.Ld
open Go.Ab Go.Proofs.Q
theorem zX6 {P U V R:List W}{a m b mid n lo hi s:Nat}(ha:a=P.length) (hm:m=a+U.length) (hb:b=m+V.length) (hmid:mid=(a+b) / 2) (hn:n=mid+m) (hU:Up U) (hV:Up V)
  (hc:mid<m∧lo=n-b∧hi=mid∨m≤mid∧lo=a∧hi=m) (hs1:lo≤s) (hs2:s≤hi)
  (h1:∀ x y,lo<s→(P++(U++(V++R)))[s-1]? = some x→(P++(U++(V++R)))[n-s]? = some y→¬ eY y x<0)
  (h2:∀ x y,s<hi→(P++(U++(V++R)))[s]? = some x→(P++(U++(V++R)))[n-1-s]? = some y→eY y x<0) :
  ∃ X1 X2 Y1 Y2,U=X1++X2∧V=Y1++Y2∧s=a+X1.length∧n=(m+Y1.length)+s∧mid=a+X1.length+Y1.length∧eN eY (U++V)=eN eY (X1++Y1)++eN eY (X2++Y2):=by
 have f1:a≤s∧s≤m∧m+s≤n∧n≤b+s:=by rcases hc with ⟨c1,c2,c3⟩ | ⟨c1,c2,c3⟩ <;> omega
 obtain ⟨f1,f2,f3,f4⟩:=f1;refine ⟨U.take (s-a),U.drop (s-a),V.take (n-s-m),V.drop (n-s-m),by simp,by simp,by rw [aY];omega,by rw [aY];omega,by rw [aY,aY];omega,?_⟩
 refine yZ3 hU hV (by omega) (by omega) (fun x y h0 hx hy=>?_) (fun x y h0 hx hy=>?_)
 ·have i1:=(aA.1 hy).1;refine h1 x y (by rcases hc with ⟨c1,c2,c3⟩ | ⟨c1,c2,c3⟩ <;> omega) ?_ ?_
  ·rw [zS6 (k:=s-a-1) (by omega) (by omega)];exact hx
  ·rw [zS5 (k:=n-s-m) (by omega) (by omega)];exact hy
 ·have i1:=(aA.1 hx).1;refine h2 x y (by rcases hc with ⟨c1,c2,c3⟩ | ⟨c1,c2,c3⟩ <;> omega) ?_ ?_
  ·rw [zS6 (k:=s-a) (by omega) (by omega)];exact hx
  ·rw [zS5 (k:=n-s-m-1) (by omega) (by omega)];exact hy
theorem yV5 {A B:List W}(h:Up (A++B)):Up A:=(fM.1 h).1
theorem yV4 {A B:List W}(h:Up (A++B)):Up B:=(fM.1 h).2.1
def bs (k:Nat) (l:List W):List W:=if h:l.length≤k∨k=0 then eN eY l else eN eY (l.take k)++bs k (l.drop k)
 termination_by l.length
 decreasing_by simp only [dK];omega
theorem AZ {k:Nat}{l:List W}(h:l.length≤k):bs k l=eN eY l:=by unfold bs;rw [dif_pos (.inl h)]
theorem yZ8 {k:Nat}{l:List W}(h:k<l.length) (h0:0<k):bs k l=eN eY (l.take k)++bs k (l.drop k):=by rw [bs,dif_neg (by omega)]
theorem FK {k:Nat}{a b:List W}(h:a.length=k) (h0:0<k):bs k (a++b)=eN eY a++bs k b:=by
 subst h;cases b with
 | nil=>rw [List.append_nil,AZ (aX _),AZ (bZ _)];simp [eN]
 | cons x b=>rw [yZ8 (by simp) h0,tY,tZ]
theorem yT4 (k:Nat) (l:List W):(bs k l).length=l.length:=by
 induction hn:l.length using Nat.strongRecOn generalizing l with
 | _ n ih=>
  unfold bs;split
  ·rw [jH,hn]
  ·rw [aD,jH,aY,ih (l.drop k).length (by rw [dK];omega) _ rfl,dK];omega
theorem NN (a b:List W):eN eY (eN eY a++eN eY b)=eN eY (a++b):=
 P5 ((dW _ _).trans ((dW _ _).append (dW _ _)).symm) (lZ jT _)
end Go.Ld
namespace Go.Proofs.Q
open Go Go.Ab Go.Ld
attribute [local irreducible] VC AW bW aM AA
theorem yK1:∀ (k:Nat) (P U V R:List W){a m b N:Nat},b-a≤k→0<U.length→0<V.length→a=P.length→m=a+U.length→b=m+V.length→N=b+R.length→N≤100000→Up U→Up V→(∀ w,w∈U→V6 w)→(∀ w,w∈V→V6 w) →
  aM Tryz.prog 217 [.sl 0 0 N 3,.i a,.i m,.i b,tV] [.arr (gN (P++(U++(V++R)))) 3] (.tup []) [.arr (gN (P++(eN eY (U++V)++R))) 3]:=by
 intro k
 induction k with
 | zero=>intros;exfalso;omega
 | succ k ih=>
  intro P U V R a m b N hk hU0 hV0 ha hm hb hN hl hU hV hwU hwV;by_cases hu1:U.length=1
  ·obtain ⟨u,rfl⟩:=nF.1 hu1;exact yN4 P u V R ha hm hb hN hl hV (hwU u (by simp)) hwV
  by_cases hv1:V.length=1
  ·obtain ⟨v,rfl⟩:=nF.1 hv1;exact yN3 P U v R ha hm hb hN hl (by omega) hU (hwV v (by simp)) hwU
  have hP:((a:Int)+b) / 2 ^ (1:Int).toNat=(((a+b) / 2:Nat):Int):=by rw [show (2:Int) ^ (1:Int).toNat=2 from rfl];omega
  have hw1:IntKind.u64.wrap ((a:Int)+b)=(a:Int)+b:=MV (by omega) (by omega)
  have hw2:IntKind.i64.wrap (((a+b) / 2:Nat):Int)=(((a+b) / 2:Nat):Int):=IntWalk.i64_in _ (by omega)
  obtain ⟨mid,hmid⟩:∃ mid,mid=(a+b) / 2:=⟨_,rfl⟩;rw [← hmid] at hP hw2;have hD1:∀ i,a≤i→i<m→(P++(U++(V++R)))[i]? = U[i-a]?:=fun i h1 h2=>zS6 (by omega) (by omega)
  have hD2:∀ i,m≤i→i<b→(P++(U++(V++R)))[i]? = V[i-m]?:=fun i h1 h2=>zS5 (by omega) (by omega)
  have hcut:∀ {lo hi s:Nat},_:=@zX6 P U V R a m b mid (mid+m);generalize hDe:P++(U++(V++R))=D at *;refine bS T Tryz.func217 rfl rfl rfl rfl ?_;apply Go.Ab.cutT (T:=∀ lo hi:Nat,(mid<m∧lo=mid+m-b∧hi=mid∨m≤mid∧lo=a∧hi=m)→_)
  ·intro rest;by_cases h:mid<m
   ·obtain ⟨lo,hlo⟩:∃ lo:Nat,lo=mid+m-b:=⟨_,rfl⟩;obtain ⟨hi,hhi⟩:∃ hi:Nat,hi=mid:=⟨_,rfl⟩
    (repeat' (first|refine wS ?_|refine wB ?_|refine wK ?_|refine wU ?_|(refine wC rfl ?_ ?_<;>(intro hb;(try simp only [nm] at hb);try omega))|(refine rg 0 (dJ rfl (vV (dC rfl rfl (by omega) (by omega)) (vV (gR rfl rfl (by omega)) ?_))))|(refine rg 12 (dJ rfl (vV (dC rfl rfl (by omega) (by omega)) (vV (gR rfl rfl (by omega)) ?_))))|(refine rg 24 (dJ rfl (vV (cK rfl rfl (by omega) (by omega)) (vV (jQ C8 tH rfl hw1) (vV (by exact hP▸xA rfl rfl (by decide) (by decide)) ?_))));refine vV (jQ tH C8 rfl hw2) (aV ?_))|(refine rg 25 (dJ rfl (vV (cK rfl rfl (by omega) (by omega)) (aV ?_))))|(refine rg 26 (pT ?_))|(refine rg 27 (dJ rfl (vV (fK rfl rfl) ?_)))|(refine rg 28 (dJ rfl (vV (dC rfl rfl (by omega) (by omega)) (aV ?_))))|(refine rg 29 (mW rfl (aV ?_)))|(refine rg 32 (mW rfl (vV (dC rfl rfl (by omega) (by omega)) (aV ?_))))|refine nZ ?_));all_goals first|omega | exact fF [(0,.sl 0 0 N 3),(1,.i a),(2,.i m),(3,.i b),(4,tV),(18,.i mid),(19,.i ((mid:Int)+m)),(20,.i lo),(21,.i hi),(22,.i ((mid:Int)+m-1))] [.arr (gN D) 3] ⟨[0],rfl,⟨rfl,rfl,rfl,rfl,rfl,rfl,rfl,by rw [show (lo:Int)=(mid:Int)+m-b by omega];rfl,by rw [hhi];rfl,rfl,trivial⟩,⟨.inr (aC rfl rfl (bY _)),trivial⟩,by decide,lX⟩ (rest.get lo hi (by omega))
   ·obtain ⟨lo,hlo⟩:∃ lo:Nat,lo=a:=⟨_,rfl⟩;obtain ⟨hi,hhi⟩:∃ hi:Nat,hi=m:=⟨_,rfl⟩
    (repeat' (first|refine wS ?_|refine wB ?_|refine wK ?_|refine wU ?_|(refine wC rfl ?_ ?_<;>(intro hb;(try simp only [nm] at hb);try omega))|(refine rg 0 (dJ rfl (vV (dC rfl rfl (by omega) (by omega)) (vV (gR rfl rfl (by omega)) ?_))))|(refine rg 12 (dJ rfl (vV (dC rfl rfl (by omega) (by omega)) (vV (gR rfl rfl (by omega)) ?_))))|(refine rg 24 (dJ rfl (vV (cK rfl rfl (by omega) (by omega)) (vV (jQ C8 tH rfl hw1) (vV (by exact hP▸xA rfl rfl (by decide) (by decide)) ?_))));refine vV (jQ tH C8 rfl hw2) (aV ?_))|(refine rg 25 (dJ rfl (vV (cK rfl rfl (by omega) (by omega)) (aV ?_))))|(refine rg 26 (pT ?_))|(refine rg 27 (dJ rfl (vV (fK rfl rfl) ?_)))|(refine rg 30 (mW rfl (aV ?_)))|(refine rg 31 (mW rfl (aV ?_)))|(refine rg 32 (mW rfl (vV (dC rfl rfl (by omega) (by omega)) (aV ?_))))|refine nZ ?_));all_goals first|omega | exact fF [(0,.sl 0 0 N 3),(1,.i a),(2,.i m),(3,.i b),(4,tV),(18,.i mid),(19,.i ((mid:Int)+m)),(20,.i lo),(21,.i hi),(22,.i ((mid:Int)+m-1))] [.arr (gN D) 3] ⟨[0],rfl,⟨rfl,rfl,rfl,rfl,rfl,rfl,rfl,by rw [hlo];rfl,by rw [hhi];rfl,rfl,trivial⟩,⟨.inr (aC rfl rfl (bY _)),trivial⟩,by decide,lX⟩ (rest.get lo hi (by omega))
  intro lo hi hc;have hcut:=fun s=>@hcut lo hi s ha hm hb hmid rfl hU hV hc
  refine dI (X:={q:Nat × Nat // lo≤q.1∧q.1≤q.2∧q.2≤hi∧(∀ x y,lo<q.1→D[q.1-1]? = some x→D[mid+m-q.1]? = some y→¬ eY y x<0)∧(∀ x y,q.2<hi→D[q.2]? = some x→D[mid+m-1-q.2]? = some y→eY y x<0)})
   (fun q=>[(0,.sl 0 0 N 3),(1,.i a),(2,.i m),(3,.i b),(4,tV),(18,.i mid),(19,.i ((mid:Int)+m)),(20,.i q.1.1),(21,.i q.1.2),(22,.i ((mid:Int)+m-1))]) (fun _=>[.arr (gN D) 3]) (fun q=>q.1.2-q.1.1) ⟨(lo,hi),by dsimp only;exact ⟨by omega,by omega,by omega,fun x y h=>by omega,fun x y h=>by omega⟩⟩
   ⟨[0],rfl,by (repeat (first|exact trivial|refine ⟨rfl,?_⟩)),⟨.inr (aC rfl rfl (bY _)),trivial⟩,by decide,lX⟩ ?_
  rintro ⟨⟨i,j⟩,h1,h2,h3,h4,h5⟩;dsimp only at h1 h2 h3 h4 h5 ⊢;have hlo:a≤lo∧hi≤m∧m≤mid+m-hi∧mid+m-lo≤b∧lo≤mid+m:=by omega
  by_cases hij:i<j
  ·clear hP hw1 hw2;have hP:((i:Int)+j) / 2 ^ (1:Int).toNat=(((i+j) / 2:Nat):Int):=by rw [show (2:Int) ^ (1:Int).toNat=2 from rfl];omega
   have hw1:IntKind.u64.wrap ((i:Int)+j)=(i:Int)+j:=MV (by omega) (by omega)
   have hw2:IntKind.i64.wrap (((i+j) / 2:Nat):Int)=(((i+j) / 2:Nat):Int):=IntWalk.i64_in _ (by omega)
   have hh:i≤(i+j) / 2∧(i+j) / 2<j:=by omega
   generalize hq:(i+j) / 2=q at *;obtain ⟨x,hx⟩:∃ x,U[q-a]? = some x:=⟨_,aB (by omega)⟩
   obtain ⟨y,hy⟩:∃ y,V[mid+m-1-q-m]? = some y:=⟨_,aB (by omega)⟩
   have wx:=hwU x (aQ hx);have wy:=hwV y (aQ hy);rw [← hD1 q (by omega) (by omega)] at hx
   rw [← hD2 (mid+m-1-q) (by omega) (by omega)] at hy
   have q1:=qZ (j:=(mid:Int)+m-1-q) hy (by omega)
   have q2:=qZ (j:=(q:Int)) hx rfl;have hc':=zO y x wy wx;by_cases h0:eY y x<0
   ·generalize hz:eY y x=z at *
    (repeat' (first|refine wS ?_|refine wB ?_|refine wK ?_|(refine wC rfl ?_ ?_<;>(intro hb;(try simp only [nm] at hb);try omega))|(refine rg 33 (dJ rfl (vV (aK rfl rfl) ?_)))|(refine rg 34 (dJ rfl (vV (cK rfl rfl (by omega) (by omega)) (vV (jQ C8 tH rfl hw1) (vV (by exact hP▸xA rfl rfl (by decide) (by decide)) ?_))));refine vV (jQ tH C8 rfl hw2) (aV ?_))|(refine cH (id:=35) 220 xK6 (rM 158 14) xK7 cP rfl (by decide +kernel) (dN rfl (dN rfl (dN rfl (dN rfl (dV rfl (dC rfl rfl (by omega) (by omega)) (dV rfl (by exact aT T rfl rfl rfl rfl rfl (by omega) (by omega)) ?_))))));refine dV rfl (by exact bA T rfl rfl (bX rfl q1) rfl) ?_;refine dN rfl (dN rfl (dV rfl (by exact aT T rfl rfl rfl rfl rfl (by omega) (by omega)) ?_));refine dV rfl (by exact bA T rfl rfl (bX rfl q2) rfl) ?_;refine dV rfl (kC (hc')) (dV rfl (aK rfl rfl) (dV rfl (dS rfl) (dE ?_))))|(refine rg 37 (mW rfl (aV ?_)))|refine nZ ?_));all_goals first|omega | skip
    exact ⟨⟨(i,q),by dsimp only;exact ⟨by omega,by omega,by omega,h4,fun x' y' _ hx' hy'=>by rw [hx] at hx';rw [hy] at hy';cases hx';cases hy';omega⟩⟩,by dsimp only;omega,⟨[0],rfl,by (repeat (first|exact trivial|refine ⟨rfl,?_⟩)),⟨.inr (aC rfl rfl (bY _)),trivial⟩,by decide,lX⟩⟩
   ·generalize hz:eY y x=z at *
    (repeat' (first|refine wS ?_|refine wB ?_|refine wK ?_|(refine wC rfl ?_ ?_<;>(intro hb;(try simp only [nm] at hb);try omega))|(refine rg 33 (dJ rfl (vV (aK rfl rfl) ?_)))|(refine rg 34 (dJ rfl (vV (cK rfl rfl (by omega) (by omega)) (vV (jQ C8 tH rfl hw1) (vV (by exact hP▸xA rfl rfl (by decide) (by decide)) ?_))));refine vV (jQ tH C8 rfl hw2) (aV ?_))|(refine cH (id:=35) 220 xK6 (rM 158 14) xK7 cP rfl (by decide +kernel) (dN rfl (dN rfl (dN rfl (dN rfl (dV rfl (dC rfl rfl (by omega) (by omega)) (dV rfl (by exact aT T rfl rfl rfl rfl rfl (by omega) (by omega)) ?_))))));refine dV rfl (by exact bA T rfl rfl (bX rfl q1) rfl) ?_;refine dN rfl (dN rfl (dV rfl (by exact aT T rfl rfl rfl rfl rfl (by omega) (by omega)) ?_));refine dV rfl (by exact bA T rfl rfl (bX rfl q2) rfl) ?_;refine dV rfl (kC (hc')) (dV rfl (aK rfl rfl) (dV rfl (dS rfl) (dE ?_))))|(refine iA 36 rfl rfl rfl (by omega) (by omega) ?_)|refine nZ ?_));all_goals first|omega | skip
    exact ⟨⟨(q+1,j),by dsimp only;exact ⟨by omega,by omega,by omega,fun x' y' _ hx' hy'=>by rw [show q+1-1=q by omega,hx] at hx';rw [show mid+m-(q+1)=mid+m-1-q by omega,hy] at hy';cases hx';cases hy';omega,h5⟩⟩,by dsimp only;omega,⟨[0],rfl,by (repeat (first|exact trivial|refine ⟨rfl,?_⟩)),⟨.inr (aC rfl rfl (bY _)),trivial⟩,by decide,lX⟩⟩
  ·obtain rfl:i=j:=by omega
   obtain ⟨X1,X2,Y1,Y2,rfl,rfl,e1,e2,e3,hsrt⟩:=hcut i (by omega) (by omega) h4 h5
   clear hcut h4 h5 hD1 hD2 hP hw1 hw2;rw [hsrt];obtain ⟨e,he⟩:∃ e,e=m+Y1.length:=⟨_,rfl⟩;simp only [aD] at hm hb hU0 hV0 hu1 hv1;have uX1:=yV5 hU;have uX2:=yV4 hU;have uY1:=yV5 hV;have uY2:=yV4 hV;have w1:=ih P X1 Y1 (X2++(Y2++R)) (a:=a) (m:=i) (b:=mid) (N:=N);have w2:=ih (P++eN eY (X1++Y1)) X2 Y2 R (a:=mid) (m:=e) (b:=b) (N:=N);have hsl:(eN eY (X1++Y1)).length=X1.length+Y1.length:=by rw [jH,aD]
   have w0:=zH4 (P++X1) X2 Y1 (Y2++R) (a:=i) (m:=m) (b:=e) (N:=N);simp only [aD,hsl] at w0 w1 w2;have c0:i<m→m<e→_:=fun h h'=>w0 (by omega) (by omega) (by omega) (by omega) hl (by omega) (by omega)
   have c1:a<i→i<mid→_:=fun h h'=>w1 (by omega) (by omega) (by omega) ha (by omega) (by omega) (by omega) hl uX1 uY1 (fun w hw=>hwU w (by simp [hw])) (fun w hw=>hwV w (by simp [hw]))
   have c2:mid<e→e<b→_:=fun h h'=>w2 (by omega) (by omega) (by omega) (by omega) (by omega) (by omega) (by omega) hl uX2 uY2 (fun w hw=>hwU w (by simp [hw])) (fun w hw=>hwV w (by simp [hw]))
   have d0:¬ (i<m∧m<e)→D=P++(X1++(Y1++(X2++(Y2++R)))):=fun h=>by
    rw [← hDe];by_cases h':X2.length=0
    ·rw [cJ h'];simp
    ·rw [cJ (show Y1.length=0 by omega)];simp
   have d1:¬ (a<i∧i<mid)→P++(X1++(Y1++(X2++(Y2++R))))=P++(eN eY (X1++Y1)++(X2++(Y2++R))):=fun h=>by
    by_cases h':X1.length=0
    ·rw [cJ h',List.nil_append,List.nil_append,BY uY1]
    ·rw [cJ (show Y1.length=0 by omega),List.nil_append,List.append_nil,BY uX1]
   have d2:¬ (mid<e∧e<b)→P++(eN eY (X1++Y1)++(X2++(Y2++R)))=P++(eN eY (X1++Y1)++eN eY (X2++Y2)++R):=fun h=>by
    by_cases h':X2.length=0
    ·rw [cJ h',List.nil_append,List.nil_append,BY uY2];simp
    ·rw [cJ (show Y2.length=0 by omega),List.nil_append,List.append_nil,BY uX2];simp
   have g0:(P++X1)++(X2++(Y1++(Y2++R)))=D:=by rw [← hDe];simp
   have g1:(P++X1)++(Y1++(X2++(Y2++R)))=P++(X1++(Y1++(X2++(Y2++R)))):=by simp
   have g2:(P++eN eY (X1++Y1))++(X2++(Y2++R))=P++(eN eY (X1++Y1)++(X2++(Y2++R))):=by simp
   have g3:(P++eN eY (X1++Y1))++(eN eY (X2++Y2)++R)=P++(eN eY (X1++Y1)++eN eY (X2++Y2)++R):=by simp
   rw [g0,g1] at c0;rw [g2,g3] at c2;clear w0 w1 w2 ih g0 g1 g2 g3 hDe hwU hwV;generalize P++(eN eY (X1++Y1)++eN eY (X2++Y2)++R)=A3 at *;generalize P++(eN eY (X1++Y1)++(X2++(Y2++R)))=A2 at *;generalize P++(X1++(Y1++(X2++(Y2++R))))=A1 at *;apply Go.Ab.cutT
   ·intro rest;by_cases h:i<m∧m<e
    ·have hc':=c0 h.1 h.2;rw [show (e:Int)=(mid:Int)+m-i by omega] at hc'
     (repeat' (first|refine wS ?_|refine wE ?_|(refine wC rfl ?_ ?_<;>(intro hb;(try simp only [nm] at hb);try omega))|(refine rg 33 (dJ rfl (vV (aK rfl rfl) ?_)))|(refine rg 38 (dJ rfl (vV (dC rfl rfl (by omega) (by omega)) (aV ?_))))|(refine rg 39 (dJ rfl (vV (aK rfl rfl) (mV ?_)));refine cD rfl rfl ?_ ?_<;>(intro hb;rw [hb];(try simp only [nm] at hb);try omega);(all_goals (refine yN rfl (yN rfl (yV (aK rfl rfl) (pV ?_))))))|(refine rg 40 (dJ rfl (dJ rfl (mW rfl (bT [0] rfl rfl (hc') rfl rfl (by decide) ⟨.inr (aC rfl rfl (bY _)),trivial⟩ (by simp) rfl ?_)))))|refine nZ ?_));all_goals first|omega | exact fF [(0,.sl 0 0 N 3),(1,.i a),(3,.i b),(4,tV),(18,.i mid),(20,.i i),(24,.i e)] [.arr (gN A1) 3] ⟨[0],rfl,⟨rfl,rfl,rfl,rfl,rfl,rfl,by rw [show (e:Int)=(mid:Int)+m-i by omega];rfl,trivial⟩,⟨.inr (aC rfl (bB _ (bY _)) (bY _)),trivial⟩,by decide,lX⟩ rest.get
    ·obtain rfl:=d0 h
     (repeat' (first|refine wS ?_|refine wK ?_|refine wE ?_|refine wU ?_|(refine wC rfl ?_ ?_<;>(intro hb;(try simp only [nm] at hb);try omega))|(refine rg 33 (dJ rfl (vV (aK rfl rfl) ?_)))|(refine rg 38 (dJ rfl (vV (dC rfl rfl (by omega) (by omega)) (aV ?_))))|(refine rg 39 (dJ rfl (vV (aK rfl rfl) (mV ?_)));refine cD rfl rfl ?_ ?_<;>(intro hb;rw [hb];(try simp only [nm] at hb);try omega);(all_goals first|(refine gT (mW rfl (gT (mW rfl (gT (vV (aK rfl rfl) ?_))))))|(iterate 3 refine gF ?_));(all_goals (refine pV ?_)))|refine nZ ?_));all_goals first|omega | exact fF [(0,.sl 0 0 N 3),(1,.i a),(3,.i b),(4,tV),(18,.i mid),(20,.i i),(24,.i e)] [.arr (gN D) 3] ⟨[0],rfl,⟨rfl,rfl,rfl,rfl,rfl,rfl,by rw [show (e:Int)=(mid:Int)+m-i by omega];rfl,trivial⟩,⟨.inr (aC rfl rfl (bY _)),trivial⟩,by decide,lX⟩ rest.get
   clear c0 d0;apply Go.Ab.cutT
   ·intro rest;by_cases h:a<i∧i<mid
    ·have hc':=c1 h.1 h.2
     (repeat' (first|refine wS ?_|(refine wC rfl ?_ ?_<;>(intro hb;(try simp only [nm] at hb);try omega))|(refine rg 41 (dJ rfl (vV (aK rfl rfl) (mV ?_)));refine cD rfl rfl ?_ ?_<;>(intro hb;rw [hb];(try simp only [nm] at hb);try omega);(all_goals (refine yN rfl (yN rfl (yV (aK rfl rfl) (pV ?_))))))|(refine rg 42 (dJ rfl (dJ rfl (mW rfl (bT [0] rfl rfl (hc') rfl rfl (by decide) ⟨.inr (aC rfl rfl (bY _)),trivial⟩ (by simp) rfl ?_)))))|refine nZ ?_));all_goals first|omega | exact fF [(0,.sl 0 0 N 3),(1,.i a),(3,.i b),(4,tV),(18,.i mid),(24,.i e)] [.arr (gN A2) 3] ⟨[0],rfl,(by repeat first|exact trivial|refine ⟨rfl,?_⟩),⟨.inr (aC rfl (bB _ (bY _)) (bY _)),trivial⟩,by decide,lX⟩ rest.get
    ·obtain rfl:=d1 h
     (repeat' (first|refine wS ?_|refine wK ?_|refine wU ?_|(refine wC rfl ?_ ?_<;>(intro hb;(try simp only [nm] at hb);try omega))|(refine rg 41 (dJ rfl (vV (aK rfl rfl) (mV ?_)));refine cD rfl rfl ?_ ?_<;>(intro hb;rw [hb];(try simp only [nm] at hb);try omega);(all_goals first|(refine gT (mW rfl (gT (mW rfl (gT (vV (aK rfl rfl) ?_))))))|(iterate 3 refine gF ?_));(all_goals (refine pV ?_)))|refine nZ ?_));all_goals first|omega | exact fF [(0,.sl 0 0 N 3),(1,.i a),(3,.i b),(4,tV),(18,.i mid),(24,.i e)] [.arr (gN A1) 3] ⟨[0],rfl,(by repeat first|exact trivial|refine ⟨rfl,?_⟩),⟨.inr (aC rfl rfl (bY _)),trivial⟩,by decide,lX⟩ rest.get
   clear c1 d1;by_cases h:mid<e∧e<b
   ·have hc':=c2 h.1 h.2
    (repeat' (first|(refine wC rfl ?_ ?_<;>(intro hb;(try simp only [nm] at hb);try omega))|(refine rg 43 (dJ rfl (vV (aK rfl rfl) (mV ?_)));refine cD rfl rfl ?_ ?_<;>(intro hb;rw [hb];(try simp only [nm] at hb);try omega);(all_goals (refine yN rfl (yN rfl (yV (aK rfl rfl) (pV ?_))))))|(refine rg 44 (dJ rfl (dJ rfl (mW rfl (bT [0] rfl rfl (hc') rfl rfl (by decide) ⟨.inr (aC rfl rfl (bY _)),trivial⟩ (by simp) rfl ?_)))))|refine nZ ?_));all_goals first|omega | exact ⟨.inl rfl,[0],_,rfl,rfl,rfl,⟨.inr (aC rfl (bB _ (bY _)) (bY _)),trivial⟩,by decide,lX⟩ | exact ⟨.inr rfl,[0],_,rfl,rfl,rfl,⟨.inr (aC rfl (bB _ (bY _)) (bY _)),trivial⟩,by decide,lX⟩
   ·obtain rfl:=d2 h
    (repeat' (first|refine wK ?_|refine wU ?_|(refine wC rfl ?_ ?_<;>(intro hb;(try simp only [nm] at hb);try omega))|(refine rg 43 (dJ rfl (vV (aK rfl rfl) (mV ?_)));refine cD rfl rfl ?_ ?_<;>(intro hb;rw [hb];(try simp only [nm] at hb);try omega);(all_goals first|(refine gT (mW rfl (gT (mW rfl (gT (vV (aK rfl rfl) ?_))))))|(iterate 3 refine gF ?_));(all_goals (refine pV ?_)))|refine nZ ?_));all_goals first|omega | exact ⟨.inl rfl,[0],_,rfl,rfl,rfl,⟨.inr (aC rfl rfl (bY _)),trivial⟩,by decide,lX⟩ | exact ⟨.inr rfl,[0],_,rfl,rfl,rfl,⟨.inr (aC rfl rfl (bY _)),trivial⟩,by decide,lX⟩
end Go.Proofs.Q
