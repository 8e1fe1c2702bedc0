/-
  Texts of the logic and of the layer,in one module (part 8).
-/
import Derived.Test.YtmmkhmilpeodnaaGreatJ7
set_option linter.unusedVariables false
set_option linter.unusedSimpArgs false
set_option linter.unnecessarySimpa false
namespace Go.Ld
open Go.Ab Go.Proofs.YtmmkhmilpeodnaaGreat
theorem PS (c : Cx) (gs : List G) (s : Ev) : (nY c gs s).1 = 0 ∨ (nY c gs s).1 = 1 ∧ jV c.bs.length s = false ∨ (nY c gs s).1 = 6 ∨ (nY c gs s).1 = 26 := by
  have h2 : ∀ all,(vO c gs all s).1 = 0 ∨ (vO c gs all s).1 = 6 ∨ (vO c gs all s).1 = 26 := fun all => by
    unfold vO;dsimp only;split
    · simp
    · split
      · simp
      · split <;> simp
  unfold nY;split
  · split
    · split
      · simp
      · rename_i all _;have := h2 all;omega
    · have := h2 gs;omega
  · rename_i h;exact .inr (.inl ⟨rfl,Bool.eq_false_iff.2 h⟩)
abbrev TR := List Int × List BX × Int
def oN (bs : List BX) : List Int := bs.map (·.2.1)
theorem TD (bs : List BX) : (oN bs).length = bs.length := bC _
theorem CM (bs : List BX) (i : Nat) : (oN bs).getD i 0 = (bs.getD i (0,0,0)).2.1 := by
  unfold oN;rw [aC,aC,bP];cases bs[i]? <;> rfl
structure sK (c : Cx) (ps : List Int) (bs : List BX) : Prop where
  t : sA c.ks c.ls ps bs
  len : ps.length = c.bs.length
  same : ∀ i,(bs.getD i (0,0,0)).1 = (c.bs.getD i (0,0,0)).1 ∧ (bs.getD i (0,0,0)).2.2 = (c.bs.getD i (0,0,0)).2.2
theorem sK.pq {c : Cx} {ps : List Int} {bs : List BX} (h : sK c ps bs) : PQ c ps (oN bs) where
  pl := h.len
  ql := by rw [TD,← h.t.len,h.len]
  pp := by
    refine (Q0 (nats (List.range c.bs.length)) ps (xI _) (fun x hx => ?_) (by simp [h.len])).symm
    obtain ⟨h0,h1⟩ := qU.1 hx;have := h.t.p x.toNat (by rw [h.len];omega)
    rwa [show ((x.toNat : Nat) : Int) = x by omega] at this
  q0 := fun x hx => by
    obtain ⟨b,hb,rfl⟩ := bI.1 hx;obtain ⟨i,hi,rfl⟩ := JI hb;have := h.t.b i hi;omega
theorem sK.fit {c : Cx} {ps : List Int} {bs : List BX} (hc : rK c) (h : sK c ps bs) : zG3 c.ks c.ls ps bs where
  n1 := by have := hc.f.n1;simp at this;rw [h.len];omega
  n8 := by have := hc.f.n8;simp at this;rw [h.len];omega
  len := h.t.len
  k10 := hc.f.k10
  l10 := hc.f.l10
  k := hc.f.k
  l := hc.f.l
  p := fun i hi => by
    have := h.pq.pp.mem_iff.1 (aH hi);rw [h.len];exact qU.1 this
  b := h.t.b
def D9 (ps : List Int) (bs : List BX) (s : Ev) (done : Int) : List BX :=
  if s.k = 2 then bs.set (ps.getD s.a.toNat 0).toNat ((bs.getD (ps.getD s.a.toNat 0).toNat (0,0,0)).1,(bs.getD (ps.getD s.a.toNat 0).toNat (0,0,0)).2.1 - done,(bs.getD (ps.getD s.a.toNat 0).toNat (0,0,0)).2.2) else bs
theorem xZ (ps : List Int) (bs : List BX) (s : Ev) (done : Int) : oN (D9 ps bs s done) = rH ps (oN bs) s done := by
  unfold D9 rH;split
  · rw [CM];unfold oN;rw [zT]
  · rfl
theorem GV (ps : List Int) (bs : List BX) (s : Ev) (done : Int) : (D9 ps bs s done).length = bs.length := by
  unfold D9;split <;> simp
theorem sK.aft {c : Cx} {ps : List Int} {bs : List BX} {s : Ev} {done : Int} (h : sK c ps bs) (ha : 0 ≤ s.a ∧ s.a < c.bs.length) (hb : s.k = 4 → s.a < s.b ∧ s.b < c.bs.length) (hc : yC c ps (oN bs) s done = true) : sK c (tS ps s done) (D9 ps bs s done) where
  len := by rw [D8];exact h.len
  same := fun i => by
    unfold D9;split
    · by_cases e : i = (ps.getD s.a.toNat 0).toNat
      · by_cases hl : (ps.getD s.a.toNat 0).toNat < bs.length
        · rw [fD hl,if_pos e,e];exact h.same _
        · rw [List.set_eq_of_length_le (by omega)];exact h.same i
      · by_cases hl : (ps.getD s.a.toNat 0).toNat < bs.length
        · rw [fD hl,if_neg e];exact h.same _
        · rw [List.set_eq_of_length_le (by omega)];exact h.same i
    · exact h.same i
  t := by
    have hp := (h.pq.aft ha hb hc).pp;refine ⟨by rw [D8,GV];exact h.t.len,fun i hi => ?_,h.t.k,h.t.l,fun i hi => ?_⟩
    · rw [D8,h.len] at hi;exact hp.mem_iff.2 (qU.2 ⟨by omega,by omega⟩)
    · rw [GV] at hi;have h0 := h.t.b i hi;by_cases hk : s.k = 2
      · have hr := wV hk hc;rw [CM] at hr;have e : D9 ps bs s done = bs.set (ps.getD s.a.toNat 0).toNat ((bs.getD (ps.getD s.a.toNat 0).toNat (0,0,0)).1,(bs.getD (ps.getD s.a.toNat 0).toNat (0,0,0)).2.1 - done,(bs.getD (ps.getD s.a.toNat 0).toNat (0,0,0)).2.2) := if_pos hk;simp only [e];rw [List.getElem_set];split
        · rename_i hx;rw [hx] at hr ⊢;have eb : bs.getD i (0,0,0) = bs[i] := by rw [aC,aA hi];rfl
          rw [eb] at hr ⊢;dsimp only;refine ⟨h0.1,h0.2.1,by omega,by omega,fun q => ?_,h0.2.2.2.2.2⟩
          have := h0.2.2.2.2.1 q;omega
        · exact h0
      · have e : D9 ps bs s done = bs := if_neg hk;simp only [e];exact h0
def zX : List TR → TR → List TR
  | [],x => [x]
  | t :: l,x => if t.1 = x.1 ∧ t.2.1 = x.2.1 then (if x.2.2 < t.2.2 then x :: l else t :: l) else t :: zX l x
theorem X0 : ∀ {l : List TR} {x t : TR}, t ∈ zX l x → t ∈ l ∨ t = x
  | [],x,t,h => .inr (bO.1 h)
  | y :: l,x,t,h => by
    unfold zX at h;split at h
    · split at h
      · rcases bL.1 h with rfl | h
        · exact .inr rfl
        · exact .inl (aN _ h)
      · exact .inl h
    · rcases bL.1 h with rfl | h
      · exact .inl aR
      · rcases X0 h with h | h
        · exact .inl (aN _ h)
        · exact .inr h
def LQ (l : List TR) (p : List Int) (bs : List BX) (M : Int) : Prop := ∃ t,t ∈ l ∧ t.1 = p ∧ t.2.1 = bs ∧ t.2.2 ≤ M
theorem X3 : ∀ {l : List TR} {x : TR} {p : List Int} {bs : List BX} {M : Int}, LQ (zX l x) p bs M ↔ LQ l p bs M ∨ (x.1 = p ∧ x.2.1 = bs ∧ x.2.2 ≤ M)
  | [],x,p,bs,M => by simp [zX,LQ]
  | y :: l,x,p,bs,M => by
    have hc : ∀ (z : TR) (l : List TR),LQ (z :: l) p bs M ↔ (z.1 = p ∧ z.2.1 = bs ∧ z.2.2 ≤ M) ∨ LQ l p bs M := fun z l => by unfold LQ;simp
    unfold zX;split
    · rename_i he;split
      · rename_i hlt;rw [hc,hc];constructor
        · rintro (h | h)
          · exact .inr h
          · exact .inl (.inr h)
        · rintro ((⟨a,b,d⟩ | h) | h)
          · exact .inl ⟨he.1.symm.trans a,he.2.symm.trans b,by omega⟩
          · exact .inr h
          · exact .inl h
      · rename_i hlt;rw [hc];constructor
        · exact .inl
        · rintro (h | ⟨a,b,d⟩)
          · exact h
          · exact .inl ⟨he.1.trans a,he.2.trans b,by omega⟩
    · rw [hc,hc,X3];constructor
      · rintro (h | h | h)
        · exact .inl (.inl h)
        · exact .inl (.inr h)
        · exact .inr h
      · rintro ((h | h) | h)
        · exact .inl h
        · exact .inr (.inl h)
        · exact .inr (.inr h)
theorem AF : ∀ {L l : List TR} {t : TR}, t ∈ L.foldl zX l → t ∈ l ∨ t ∈ L
  | [],l,t,h => .inl h
  | x :: L,l,t,h => by
    rcases AF (L := L) h with h | h
    · rcases X0 h with h | h
      · exact .inl h
      · exact .inr (by rw [h];exact aR)
    · exact .inr (aN _ h)
theorem AG : ∀ {L l : List TR} {p : List Int} {bs : List BX} {M : Int}, LQ (L.foldl zX l) p bs M ↔ LQ l p bs M ∨ LQ L p bs M
  | [],l,p,bs,M => by simp [LQ]
  | x :: L,l,p,bs,M => by
    rw [yE,AG,X3];have hc : LQ (x :: L) p bs M ↔ (x.1 = p ∧ x.2.1 = bs ∧ x.2.2 ≤ M) ∨ LQ L p bs M := by unfold LQ;simp
    rw [hc,or_assoc]
def ZD (c : Cx) (s : Ev) (t : TR) (done : Int) : TR := (tS t.1 s done,D9 t.1 t.2.1 s done,t.2.2 + uC c t.1 s)
def AC (c : Cx) (s : Ev) (t : TR) : Bool := VI c t.1 (oN t.2.1) s && decide (t.2.2 + uC c t.1 s ≤ c.m)
def SL (c : Cx) (s : Ev) (t : TR) (k : Nat) : List TR := if AC c s t then ((List.range k).filter fun d => yC c t.1 (oN t.2.1) s (d : Nat)).map fun d => ZD c s t (d : Nat) else []
def I0 (c : Cx) (s : Ev) (all : List TR) : List TR := (all.flatMap fun t => SL c s t 4).foldl zX []
structure JJ (c : Cx) (gs : List G) (all : List TR) : Prop where
  ok : ∀ t,t ∈ all → sK c t.1 t.2.1 ∧ 0 ≤ t.2.2 ∧ t.2.2 ≤ c.m ∧ ∀ x,x ∈ oN t.2.1 → x ≤ 3
  iff : ∀ p q,PQ c p q → ∀ M,M ≤ c.m → ((∃ f,vD c p q f ∧ Sem gs f M) ↔ ∃ t,t ∈ all ∧ t.1 = p ∧ oN t.2.1 = q ∧ t.2.2 ≤ M)
theorem UL (st id k : Int) (ids : List Int) : 0 ≤ ZU st id k ids ∧ ZU st id k ids ≤ 1 := by
  unfold ZU;repeat' split
  all_goals omega
theorem SY {c : Cx} {gs : List G} (h : mR c gs) {f : As} {M : Int} (hs : Sem gs f M) : ∀ b : Int,0 ≤ b → b < c.bs.length → GX (f b).2 := fun b h0 h1 => (M2 h.mid hs h0 h1).1
theorem P3 {c : Cx} {gs : List G} (h : mR c gs) {s : Ev} (hr : jV c.bs.length s = true) : (0 ≤ s.a ∧ s.a < c.bs.length) ∧ (s.k = 4 → s.a < s.b ∧ s.b < c.bs.length) ∧ (s.k = 1 ∨ s.k = 2 ∨ s.k = 3 → 0 ≤ s.n ∧ s.n ≤ 1099511627776) := by
  have hn := h.mid.n12;obtain ⟨r1,r2,r3⟩ := pP hr (by omega)
  refine ⟨r1,fun k => ?_,fun k => ?_⟩
  · have := r2 k;omega
  · unfold jV at hr;rw [aJ] at hr;have hr := hr.2;rw [if_neg (by omega),if_pos k,decide_eq_true_eq] at hr
    exact hr
theorem E9 {c : Cx} {gs : List G} {p q : List Int} {f : As} {s : Ev} {M done : Int} (hc : rK c) (h : mR c gs) (hr : jV c.bs.length s = true) (hp : PQ c p q) (hf : vD c p q f) (hs : Sem gs f M)
    (hag : VI c p q s = true) (hcan : yC c p q s done = true) (hM : M + uC c p s ≤ c.m) :
    (nY c gs s).1 ≠ 26 ∧ ((nY c gs s).1 = 0 → ∃ f',vD c (tS p s done) (rH p q s done) f' ∧ Sem (nY c gs s).2 f' (M + uC c p s)) := by
  obtain ⟨r1,r2,r3⟩ := P3 h hr;obtain ⟨m0,m1,_⟩ := hc.s;obtain ⟨f',st,ok⟩ := MG hc hp hf (SY h hs) r1 r2 (fun k => r3 (by omega)) hag hcan
  have hse := JX h m0 m1 hr (f' := f') hM;have hex : ∃ f d,W2 c s f f' d ∧ Sem gs f (M + uC c p s - d) := ⟨f,_,st,hs.mono (by omega)⟩
  exact ⟨fun q => hse.2 q hex,fun q => ⟨f',ok,(hse.1 q).2 hex⟩⟩
theorem AE {c : Cx} {s : Ev} {t x : TR} {k : Nat} : x ∈ SL c s t k ↔ AC c s t = true ∧ ∃ d : Nat,d < k ∧ yC c t.1 (oN t.2.1) s d = true ∧ x = ZD c s t d := by
  unfold SL;split
  · rename_i h;rw [bI];constructor
    · rintro ⟨d,hd,rfl⟩;obtain ⟨h1,h2⟩ := oZ.1 hd;exact ⟨h,d,eJ.1 h1,h2,rfl⟩
    · rintro ⟨_,d,h1,h2,rfl⟩;exact ⟨d,oZ.2 ⟨eJ.2 h1,h2⟩,rfl⟩
  · rename_i h;constructor
    · intro q;cases q
    · rintro ⟨q,_⟩;exact absurd q h
theorem H9 {c : Cx} {s : Ev} {all : List TR} {x : TR} (h : x ∈ I0 c s all) : ∃ t,t ∈ all ∧ AC c s t = true ∧ ∃ d : Nat,d < 4 ∧ yC c t.1 (oN t.2.1) s d = true ∧ x = ZD c s t d := by
  rcases AF h with h | h
  · cases h
  · obtain ⟨t,ht,hx⟩ := gJ.1 h;exact ⟨t,ht,AE.1 hx⟩
theorem C4 {c : Cx} {s : Ev} {t : TR} : AC c s t = true ↔ VI c t.1 (oN t.2.1) s = true ∧ t.2.2 + uC c t.1 s ≤ c.m := by
  unfold AC;rw [aJ,decide_eq_true_eq]
theorem JJ.step {c : Cx} {gs : List G} {all : List TR} {s : Ev} (hc : rK c) (h : mR c gs) (hr : jV c.bs.length s = true) (e : JJ c gs all) :
    ((nY c gs s).1 = 0 → JJ c (nY c gs s).2 (I0 c s all)) ∧ ((nY c gs s).1 = 26 → I0 c s all = []) := by
  obtain ⟨r1,r2,r3⟩ := P3 h hr;obtain ⟨m0,m1,_⟩ := hc.s;have key : ∀ t,t ∈ all → AC c s t = true → ∀ d : Nat,yC c t.1 (oN t.2.1) s d = true → ∃ f,vD c t.1 (oN t.2.1) f ∧ Sem gs f t.2.2 := fun t ht hg d hd => by
    obtain ⟨a,b,b',_⟩ := e.ok t ht;exact (e.iff t.1 (oN t.2.1) a.pq t.2.2 b').2 ⟨t,ht,rfl,rfl,fC _⟩
  constructor
  · intro h0;refine ⟨fun x hx => ?_,fun p q hpq M hM => ⟨?_,?_⟩⟩
    · obtain ⟨t,ht,hg,d,hd,hcan,rfl⟩ := H9 hx;obtain ⟨a,b,b',b3⟩ := e.ok t ht;obtain ⟨g1,g2⟩ := C4.1 hg;have := (UL c.st (t.1.getD s.a.toNat 0) s.k s.ids).1;refine ⟨a.aft r1 r2 hcan,?_,g2,fun y hy => ?_⟩
      · show 0 ≤ t.2.2 + uC c t.1 s;unfold uC;omega
      · change y ∈ oN (D9 t.1 t.2.1 s d) at hy;rw [xZ] at hy;unfold rH at hy;split at hy
        · rename_i hk;have hrg := wV hk hcan;rcases fH hy with hy | rfl
          · exact b3 y hy
          · obtain ⟨i0,i1⟩ := a.pq.at r1.1 r1.2;have : (oN t.2.1).getD (t.1.getD s.a.toNat 0).toNat 0 ∈ oN t.2.1 := by
              have := a.pq.ql;rw [aC,aA (by omega)];exact aH _
            have := b3 _ this;omega
        · exact b3 y hy
    · rintro ⟨f',hf',hs'⟩;obtain ⟨f,d,st,hs⟩ := ((JX h m0 m1 hr (f' := f') hM).1 h0).1 hs';obtain ⟨p0,q0,done,hpq0,hf0,hag,hcan,rfl,e1,e2⟩ := MH hc hpq st hf' (SY h hs) r1 r2 (fun k => r3 (by omega))
      have hm := (UL c.st (p0.getD s.a.toNat 0) s.k s.ids).1;obtain ⟨t,ht,rfl,rfl,htm⟩ := (e.iff p0 q0 hpq0 (M - uC c p0 s) (by unfold uC;omega)).1 ⟨f,hf0,hs⟩
      obtain ⟨a,b,b',b3⟩ := e.ok t ht;have hd : 0 ≤ done ∧ done < 4 := by
        by_cases hk : s.k = 2
        · have hrg := wV hk hcan;obtain ⟨i0,i1⟩ := a.pq.at r1.1 r1.2;have : (oN t.2.1).getD (t.1.getD s.a.toNat 0).toNat 0 ∈ oN t.2.1 := by
            have := a.pq.ql;rw [aC,aA (by omega)];exact aH _
          have := b3 _ this;omega
        · unfold yC OA at hcan;rw [if_neg hk] at hcan;split at hcan
          · rw [yG,decide_eq_true_eq,decide_eq_true_eq] at hcan;omega
          · rw [decide_eq_true_eq] at hcan;omega
      have hdn : ((done.toNat : Nat) : Int) = done := by omega
      have hx : LQ (I0 c s all) (tS t.1 s done) (D9 t.1 t.2.1 s done) M := by
        refine AG.2 (.inr ⟨ZD c s t (done.toNat : Nat),gJ.2 ⟨t,ht,AE.2 ⟨C4.2 ⟨hag,by omega⟩,done.toNat,by omega,by rw [hdn];exact hcan,rfl⟩⟩,?_,?_,?_⟩)
        · rw [hdn];rfl
        · rw [hdn];rfl
        · show t.2.2 + uC c t.1 s ≤ M;omega
      obtain ⟨x,hx1,hx2,hx3,hx4⟩ := hx;exact ⟨x,hx1,hx2.trans e1.symm,by rw [hx3,xZ];exact e2.symm,hx4⟩
    · rintro ⟨x,hx,rfl,rfl,hxm⟩;obtain ⟨t,ht,hg,d,hd,hcan,rfl⟩ := H9 hx;obtain ⟨f,hf,hs⟩ := key t ht hg d hcan;obtain ⟨a,b,b',b3⟩ := e.ok t ht;obtain ⟨g1,g2⟩ := C4.1 hg;obtain ⟨f',ok,hs'⟩ := (E9 hc h hr a.pq hf hs g1 hcan g2).2 h0;refine ⟨f',?_,hs'.mono hxm⟩;show vD c (tS t.1 s d) (oN (D9 t.1 t.2.1 s d)) f';rw [xZ];exact ok
  · intro h26;cases hn : I0 c s all with
    | nil => rfl
    | cons x l =>
      exfalso;have hx : x ∈ I0 c s all := by rw [hn];exact aR
      obtain ⟨t,ht,hg,d,hd,hcan,rfl⟩ := H9 hx;obtain ⟨f,hf,hs⟩ := key t ht hg d hcan;obtain ⟨a,b,b',b3⟩ := e.ok t ht;obtain ⟨g1,g2⟩ := C4.1 hg;exact (E9 hc h hr a.pq hf hs g1 hcan g2).1 h26
theorem JJ.some {c : Cx} {gs : List G} {all : List TR} (hc : rK c) (h : mR c gs) (hp : JH c gs) (e : JJ c gs all) : all ≠ [] := by
  have hn := hc.f.n1;simp at hn;obtain ⟨f,hs⟩ := MF h hp (by omega)
  obtain ⟨p,q,hpq,hf⟩ := EN h.mid hs;obtain ⟨t,ht,_⟩ := (e.iff p q hpq c.m (fC _)).1 ⟨f,hf,hs⟩;exact fun q => by rw [q] at ht;cases ht
def UH (all : List TR) (p q : List Int) : Bool := all.any fun t => decide (t.1 = p) && decide (oN t.2.1 = q)
theorem JJ.among {c : Cx} {gs : List G} {all : List TR} {p q : List Int} (h : mR c gs) (e : JJ c gs all) (hp : PQ c p q) : UM c gs p q = UH all p q := by
  rw [AU,N4 h];unfold UH;rw [jJ];have hi := e.iff p q hp c.m (fC _);constructor
  · rintro ⟨_,_,_,f,hf,hs⟩;obtain ⟨t,ht,e1,e2,_⟩ := hi.1 ⟨f,hf,hs⟩;exact ⟨t,ht,by rw [e1,e2];simp⟩
  · rintro ⟨t,ht,hx⟩;rw [aJ,decide_eq_true_eq,decide_eq_true_eq] at hx;obtain ⟨f,hf,hs⟩ := hi.2 ⟨t,ht,hx.1,hx.2,(e.ok t ht).2.2.1⟩;exact ⟨hp.pl,by rw [hp.ql,hp.pl],(EV hp.pl).2 hp.pp,f,hf,hs⟩
theorem RJ {c : Cx} (hc : rK c) : sK c (nats (List.range c.bs.length)) c.bs := ⟨DS hc,by simp,fun i => ⟨rfl,rfl⟩⟩
theorem XB {n : Nat} {b : Int} (h0 : 0 ≤ b) (h1 : b < n) : (nats (List.range n)).getD b.toNat 0 = b := by
  have := BQ (n := n) (fun x => x) 0 h0 h1
  rwa [List.map_id'] at this
theorem XA {c : Cx} : ∃ f,vD c (nats (List.range c.bs.length)) (oN c.bs) f ∧ Sem (qT c) f 0 := by
  refine ⟨fun b => (b,((c.bs.getD b.toNat (0,0,0)).2.1,(c.bs.getD b.toNat (0,0,0)).2.1 + 1)),fun b h0 h1 => ?_,WZ.2 ⟨fC _,fun b h0 h1 => rfl⟩⟩
  unfold LP;rw [XB h0 h1,CM];exact ⟨rfl,lX.2 ⟨fC _,by dsimp only;omega⟩⟩
end Go.Ld
namespace Go.Proofs.YtmmkhmilpeodnaaGreat
open Go Go.Ab Go.Ld
attribute [local irreducible] VC AW bX aT kT
set_option maxHeartbeats 4000000
theorem PD (ks : List KD) (ls : List LT) (ps : List Int) (bs : List BX) (m st er sl : Int) (l : List Ev) (p q : List Int) (hb : bs.length ≤ 17592186043904)
    (hf : aT Tryz.prog 25 [qQ ks ls (nats (List.range bs.length)) bs,nT m st er sl,.i 6] [] (.b false) []) :
    aT Tryz.prog 4 [qQ ks ls ps bs,nT m st er sl,.rowE (L2 l) 5,.rowE (ints p) 1,.rowE (ints q) 1] [] (.b true) [] := by
  have hbl : (fS bs).length = bs.length := bC _;have hi := M6 bs.length hb;rw [← hbl] at hi;rw [hbl] at hi;have hsm := F1;generalize nats (List.range bs.length) = I at *;rw [← hbl] at hi;refine bT T Tryz.func4 rfl rfl rfl rfl ?_
  (repeat' (first|refine wS ?_|(refine rg 0 (bV (cO rfl rfl) rfl (bV (cO rfl rfl) rfl (aV ?_))))|(refine rg 1 (vV (kC (hsm)) (aV ?_)))|(refine rg 2 (iP T rfl (qW T rfl (vV (kC (hi)) (fW T rfl (aU T rfl rfl rfl rfl rfl rfl (by decide) rfl ?_))))))|refine nZ ?_));refine fN 5 (cs := [.rowE (iI ks) 2,.rowE (kX ls) 3,.rowE (ints I) 1,.rowE (fS bs) 3]) rfl rfl rfl ?_
  refine fN 6 (cs := [.i m,.i st,.i er,.i sl]) rfl rfl rfl ?_
  (repeat' (first|refine wS ?_|refine wR ?_|refine wT ?_|(refine rg 3 (lW T rfl (lW T rfl (vV (kC (hf)) (vV (eD rfl) (mV ?_)))));(iterate 3 refine gF ?_);refine pW rfl (mV ?_);(iterate 3 refine gF ?_);refine pW rfl (mV ?_);(iterate 3 refine gF ?_);refine pV ?_)|(refine rg 4 (mW rfl (aV ?_)))|refine nZ ?_));all_goals try (exfalso;omega)
  all_goals exact rQ
theorem PC (ks : List KD) (ls : List LT) (ps : List Int) (bs : List BX) (m st er sl : Int) (l : List Ev) (p q : List Int) (hb : bs.length ≤ 17592186043904)
    (hf : aT Tryz.prog 25 [qQ ks ls (nats (List.range bs.length)) bs,nT m st er sl,.i 6] [] (.b true) [])
    (hids : ∀ s,s ∈ l → s.ids.length ≤ 9223372036854775807) (hx : H3 l 12 = false ∨ 8 < p.length ∨ 8 < q.length) :
    aT Tryz.prog 4 [qQ ks ls ps bs,nT m st er sl,.rowE (L2 l) 5,.rowE (ints p) 1,.rowE (ints q) 1] [] (.b true) [] := by
  have hbl : (fS bs).length = bs.length := bC _;have hi := M6 bs.length hb;rw [← hbl] at hi;rw [hbl] at hi;have hsm := F1;have hfe := SW l 12 (by omega) hids
  have hpl : (ints p).length = p.length := cT _;have hql : (ints q).length = q.length := cT _;generalize H3 l 12 = fe at *;generalize nats (List.range bs.length) = I at *;rw [← hbl] at hi;cases fe
  all_goals
    first | (have hx := hx.resolve_left (by decide)) | skip
    refine bT T Tryz.func4 rfl rfl rfl rfl ?_
    (repeat' (first|refine wS ?_|(refine rg 0 (bV (cO rfl rfl) rfl (bV (cO rfl rfl) rfl (aV ?_))))|(refine rg 1 (vV (kC (hsm)) (aV ?_)))|(refine rg 2 (iP T rfl (qW T rfl (vV (kC (hi)) (fW T rfl (aU T rfl rfl rfl rfl rfl rfl (by decide) rfl ?_))))))|refine nZ ?_));refine fN 5 (cs := [.rowE (iI ks) 2,.rowE (kX ls) 3,.rowE (ints I) 1,.rowE (fS bs) 3]) rfl rfl rfl ?_
    refine fN 6 (cs := [.i m,.i st,.i er,.i sl]) rfl rfl rfl ?_
    (repeat' (first|refine wS ?_|refine wR ?_|refine wT ?_|(refine wC rfl ?_ ?_<;>(intro hb;(try simp only [nm] at hb);try (exfalso;omega)))|(refine rg 3 (lW T rfl (lW T rfl (vV (kC (hf)) (vV (eD rfl) (mW rfl (yN rfl (yV (kC (hfe)) (yV (eD rfl) (pV ?_)))))))));refine mV ?_;(all_goals first|(refine gT (mW rfl (gT (qW T rfl (gT (vV (fP rfl rfl) ?_))))))|(iterate 3 refine gF ?_));(all_goals (refine pW rfl (mV ?_)));(all_goals first|(refine gK ?_)|(refine cE rfl rfl ?_ ?_<;>(intro hb;rw [hb];(try simp only [nm] at hb);try (exfalso;omega))));(all_goals first|(refine gT (mW rfl (gT (qW T rfl (gT (vV (fP rfl rfl) ?_))))))|(iterate 3 refine gF ?_));(all_goals (refine pV ?_)))|(refine rg 4 (mW rfl (aV ?_)))|refine nZ ?_));all_goals try (exfalso;omega)
    all_goals exact rQ
theorem VW {c : Cx} {gs : List G} {p q : List Int} (h : mR c gs) (ha : UM c gs p q = true) {b : Int} (hb : 0 ≤ b ∧ b < c.bs.length) : p.length = c.bs.length ∧ q.length = c.bs.length ∧ 0 ≤ p.getD b.toNat 0 ∧ p.getD b.toNat 0 < c.bs.length ∧ 0 ≤ q.getD (p.getD b.toNat 0).toNat 0 := by
  obtain ⟨h1,h2,h3,f,hf,hs⟩ := (N4 h).1 ha;obtain ⟨o1,o2⟩ := hf b hb.1 hb.2;have hr := M2 h.mid hs hb.1 hb.2;rw [lX] at o2;obtain ⟨r1,r2,r3⟩ := hr;unfold GX at r1;rw [o1] at r2 r3;exact ⟨h1,by omega,r2,r3,by omega⟩
theorem PB (c : Cx) (hc : rK c) (ps : List Int) (l : List Ev) (p q : List Int)
    (hf : aT Tryz.prog 25 [qQ c.ks c.ls (nats (List.range c.bs.length)) c.bs,nT c.m c.st c.er c.sl,.i 6] [] (.b true) [])
    (hids : ∀ s,s ∈ l → s.ids.length ≤ 9223372036854775807) (hx : H3 l 12 = true) (hp8 : p.length ≤ 8) (hq8 : q.length ≤ 8) :
    aT Tryz.prog 4 [qQ c.ks c.ls ps c.bs,nT c.m c.st c.er c.sl,.rowE (L2 l) 5,.rowE (ints p) 1,.rowE (ints q) 1] [] (.b true) [] := by
  have hbl : (fS c.bs).length = c.bs.length := bC _;have hn8 := hc.f.n8;have hl10 := hc.f.l10;have hnl : (nats (List.range c.bs.length)).length = c.bs.length := by simp
  rw [hnl] at hn8;have hll : (kX c.ls).length = c.ls.length := bC _;have hi := M6 c.bs.length (by omega)
  rw [← hbl] at hi;rw [hbl] at hi;have hsm := F1;have hfe := SW l 12 (by omega) hids
  rw [hx] at hfe;have hpl : (ints p).length = p.length := cT _;have hql : (ints q).length = q.length := cT _;have hel : (L2 l).length = l.length := bC _;have hlen12 : l.length ≤ 12 := by
    unfold H3 at hx;simp only [aJ,decide_eq_true_eq] at hx;exact hx.1.2
  have hn := RM c hc;have hg0 := ID hc (by omega) hc.s.1
  generalize nats (List.range c.bs.length) = I at *;rw [← hbl] at hi;refine bT T Tryz.func4 rfl rfl rfl rfl ?_
  (repeat' (first|refine wS ?_|(refine rg 0 (bV (cO rfl rfl) rfl (bV (cO rfl rfl) rfl (aV ?_))))|(refine rg 1 (vV (kC (hsm)) (aV ?_)))|(refine rg 2 (iP T rfl (qW T rfl (vV (kC (hi)) (fW T rfl (aU T rfl rfl rfl rfl rfl rfl (by decide) rfl ?_))))))|refine nZ ?_));refine fN 5 (cs := [.rowE (iI c.ks) 2,.rowE (kX c.ls) 3,.rowE (ints I) 1,.rowE (fS c.bs) 3]) rfl rfl rfl ?_
  refine fN 6 (cs := [.i c.m,.i c.st,.i c.er,.i c.sl]) rfl rfl rfl ?_
  (repeat' (first|refine wS ?_|refine wK ?_|(refine wC rfl ?_ ?_<;>(intro hb;(try simp only [nm] at hb);try (exfalso;omega)))|(refine rg 3 (lW T rfl (lW T rfl (vV (kC (hf)) (vV (eD rfl) (mW rfl (yN rfl (yV (kC (hfe)) (yV (eD rfl) (pV ?_)))))))));refine mW rfl (yN rfl (gT (qW T rfl (yV (fP rfl rfl) (pW rfl (mV ?_))))));refine cE rfl rfl ?_ ?_<;>(intro hb;rw [hb];(try simp only [nm] at hb);try (exfalso;omega));(all_goals (refine yN rfl (gT (qW T rfl (yV (fP rfl rfl) (pV ?_)))))))|refine nZ ?_));all_goals try (exfalso;omega)
  (repeat' (first|refine wS ?_|refine wB ?_|refine wK ?_|refine wU ?_|(refine rg 5 (lW T rfl (iP T rfl (iP T rfl (iP T rfl (bV (by exact fZ rfl rfl hn (.inr ⟨rfl,rfl,by simp⟩)) rfl ?_)))));refine mW rfl (xW rfl (xW rfl (rZ ?_))))|(refine rg 6 (mW rfl (vV (by exact S7 zH6 rfl rfl rfl) ?_));refine mW rfl (yN rfl (yV (fI rfl rfl) (pV ?_))))|(refine rg 8 (aV ?_))|refine nZ ?_));all_goals try (exfalso;omega)
  refine dB (X := {x : Nat × List G // x.1 ≤ l.length ∧ mR c x.2}) (fun x => [(2,.rowE (L2 l) 5),(3,.rowE (ints p) 1),(4,.rowE (ints q) 1),(5,.pr [.rowE (iI c.ks) 2,.rowE (kX c.ls) 3,.rowE (ints I) 1,.rowE (fS c.bs) 3] 0),(11,.b true),(12,.ptr 0 0),(14,.i (x.1.1 : Int))]) (fun x => [.cells (gL c x.1.2)]) (fun x => l.length - x.1.1) ⟨(0,qT c),cK _,hg0⟩ (eL [2]) ?_;rintro ⟨⟨k,gs⟩,hk,hgs⟩;dsimp only at hk hgs ⊢;by_cases hlt : k < l.length
  · have hg := FY hlt;have hse := JY c gs l[k] hc hgs (hids _ (aH _));have hgs2 := O8 (s := l[k]) hgs hc.s.1 hc.s.2.1;generalize nY c gs l[k] = R at *;obtain ⟨r,gs'⟩ := R;dsimp only at hse hgs2;generalize l[k] = s at *
    (repeat' (first|refine wS ?_|refine wB ?_|refine wK ?_|(refine wC rfl ?_ ?_<;>(intro hb;(try simp only [nm] at hb);try (exfalso;omega)))|(refine rg 9 (dS rfl (qW T rfl (vV (aO rfl rfl) ?_))))|(refine rg 11 (dS rfl (mW rfl (vV (ix T rfl (by omega) (xR _) hg) (lW T rfl (fQ [0] rfl rfl (hse) rfl rfl (by decide) ⟨.inr rfl,trivial⟩ (by simp) rfl ?_))))))|(refine iA 10 rfl rfl rfl (by omega) (by omega) ?_)|refine nZ ?_));all_goals try (exfalso;omega)
    exact ⟨⟨(k + 1,gs'),by dsimp only;omega,hgs2⟩,by dsimp only;omega,eL [0]⟩
  · (repeat' (first|refine wS ?_|refine wE ?_|(refine wC rfl (fun hb => ?_) (fun hb => ?_) <;> (((try simp only [nm] at hb);try (exfalso;omega))))|(refine rg 9 (dS rfl (qW T rfl (vV (aO rfl rfl) ?_))))|(refine nZ ?_)));all_goals try (exfalso;omega)
    refine fN 12 (cs := gL c gs) rfl rfl rfl ?_;have hag := AQ c gs p q hgs hc.s.2.1 (by omega) (by omega)
    have hsure := fun {b : Int} => VZ (p := p) (q := q) hgs (b := b);have hn0 := fun {b : Int} => VW (p := p) (q := q) hgs (b := b);cases ha : UM c gs p q with
    | false =>
      rw [ha] at hag
      (repeat' (first|refine wS ?_|refine wR ?_|refine wT ?_|(refine rg 12 (dS rfl (mW rfl (vV (kC (hag)) (vV (eD rfl) ?_)))))|(refine rg 13 (mW rfl (aV ?_)))|refine nZ ?_));all_goals try (exfalso;omega)
      all_goals exact rQ
    | true =>
      rw [ha] at hag
      (repeat' (first|refine wS ?_|refine wB ?_|refine wK ?_|refine wU ?_|(refine rg 12 (dS rfl (mW rfl (vV (kC (hag)) (vV (eD rfl) ?_)))))|(refine rg 14 (aV ?_))|refine nZ ?_));all_goals try (exfalso;omega)
      refine dB (X := {b : Nat // b ≤ c.bs.length}) (fun b => [(3,.rowE (ints p) 1),(4,.rowE (ints q) 1),(5,.pr [.rowE (iI c.ks) 2,.rowE (kX c.ls) 3,.rowE (ints I) 1,.rowE (fS c.bs) 3] 0),(11,.b true),(12,.pr (gL c gs) 0),(15,.i (b.1 : Int))]) (fun _ => []) (fun b => c.bs.length - b.1) ⟨0,cK _⟩ (eL []) ?_;rintro ⟨b,hb⟩;dsimp only;by_cases hbt : b < c.bs.length
      · have hbb : (0 : Int) ≤ (b : Int) ∧ (b : Int) < c.bs.length := ⟨by omega,by omega⟩
        obtain ⟨g,hgr,hgm,hbg⟩ := zC9 (hgs.mid.find hbb);obtain ⟨u1,u2,u3⟩ := hsure ha hbb hgr;obtain ⟨v1,v2,v3,v4,v5⟩ := hn0 ha hbb;have hpo := BI c gs b hgs hgr;have hgp := R8 c gs b hgs hgr;have hid := zJ c gs b hgs hgr;have hra := BG c gs b hgs hgr;have hib := fM hbg;have hle := fun lot => B6 c gs b lot hgs hgr (QJ hgs hgm hib) (by have := hgs.mid.wl g hgm;have := ES (g := g) (i := g.1.idxOf (b : Int));omega)
        have hpo' := nB (by simp) (G9 _) hpo
        have hgp' := nB (by simp) (G9 _) hgp
        have hgl := (hgs.mid.out.ok g hgm).ln;have hh1 := SG (kQ g (g.1.idxOf (b : Int))) (p.getD (b : Int).toNat 0) (by have := hgs.mid.wl g hgm;have := ES (g := g) (i := g.1.idxOf (b : Int));omega)
        have hh2 := SG g.1 (b : Int) (by omega)
        rw [decide_eq_true u1] at hh1;rw [decide_eq_true hbg] at hh2;have hsid := VX u1;have hlo := fun lot => FI (c := c) (r := yA g (g.1.idxOf (b : Int))) (lot := lot) u1;have hl2 := fun lot => MZ (c := c) (l := kQ g (g.1.idxOf (b : Int))) (r := yA g (g.1.idxOf (b : Int))) (lot := lot) v5 u2;have q1 := lG (l := p) (j := (b : Int)) (i := b) 0 (by omega) rfl
        rw [bQ] at v3 v4 v5 u1 u2 u3 hh1 hsid hlo hl2;generalize hX : p.getD b 0 = x at *;have q2 := lG (l := q) (j := x) (i := x.toNat) 0 (by omega) (by omega)
        have q3 : (fS c.bs)[x.toNat]? = some [AV.i (c.bs.getD x.toNat (0,0,0)).1,AV.i (c.bs.getD x.toNat (0,0,0)).2.1,AV.i (c.bs.getD x.toNat (0,0,0)).2.2] := by
          rw [H5 (by omega),aC,aA (by omega)];rfl
        have hlotb : -1 ≤ (c.bs.getD x.toNat (0,0,0)).1 ∧ (c.bs.getD x.toNat (0,0,0)).1 < c.ls.length := by
          have := hc.f.b x.toNat (by omega)
          rw [aC,aA (by omega)];exact ⟨this.1,this.2.1⟩
        generalize q.getD x.toNat 0 = y at *;generalize c.bs.getD x.toNat (0,0,0) = bx at *;obtain ⟨lot,ct,ta⟩ := bx;dsimp only at *;have hle1 := hle lot;have hl21 := hl2 lot;generalize zH c (kQ g (g.1.idxOf (b : Int))) (yA g (g.1.idxOf (b : Int))) lot = L1 at *;generalize yA g (g.1.idxOf (b : Int)) = r at *;obtain ⟨r1,r2⟩ := r;generalize kQ g (g.1.idxOf (b : Int)) = P at *;generalize hI : ZP P = ip at *;obtain ⟨i1,i2⟩ := ip;dsimp only at *;generalize g.1 = gb at *
        (repeat' (first|refine wS ?_|refine wB ?_|refine wK ?_|(refine wC rfl ?_ ?_<;>(intro hb;(try simp only [nm] at hb);try (exfalso;omega)))|(refine rg 15 (mW rfl (iP T rfl (qW T rfl (vV (aO rfl rfl) ?_)))))|(refine rg 17 (dS rfl (vV (kC (hid)) (mW rfl (xW rfl (xW rfl (rZ ?_)))))))|(refine rg 18 (dS rfl (vV (kC (hra)) (bV (bN T rfl) rfl (aU T rfl rfl rfl rfl rfl rfl (by decide) rfl ?_)))))|(refine rg 19 (dS rfl (mW rfl (vV (ix T rfl (by omega) (cN p) q1) (lW T rfl (vV (ix T rfl (by omega) (cN q) q2) (lW T rfl (aV ?_))))))))|(refine cM (id := 20) 179 [[],[0],[],[],[2,3],[2,3,4],rN 6,rN 7,rN 8] (rM 106 9) [[],[],[106,107],[106,107,108],[106,107],[106,107],[],[],[]] dA rfl (by decide +kernel) (dP T rfl (dO T rfl (dN rfl (dN rfl (dV rfl (ix T rfl (by omega) (cN p) q1) (dO T rfl (dV rfl (ix T rfl (by omega) (oL _) q3) (dP T rfl (dL T ?_)))))))));refine dE ?_;refine aV ?_)|refine nZ ?_));all_goals try (exfalso;omega)
        cases i2
        all_goals
          first | (have hsid := hsid rfl) | skip
          (repeat' (first|refine wS ?_|refine wB ?_|refine wK ?_|refine wU ?_|(refine wC rfl ?_ ?_<;>(intro hb;(try simp only [nm] at hb);try (exfalso;omega)))|(refine cM (id := 21) 179 [[],[],[0,1],[],[],[3,4],[3,4,5],rN 7,rN 8,rN 9,rN 10,rN 11,rN 12,rN 12,rN 12,[0,1,2,3,4,5,6,7,8,9,10,11,13,14],[0,1,2,3,4,5,6,7,8,9,10,11,13,14,15],rN 17,rN 18,rN 19,rN 20,rN 21,rN 21,[0,1,2,3,4,5,6,7,8,9,10,11,12,13,14,15,16,17,18,19,20,22],rN 24,rN 25,rN 26,rN 27,rN 27,[0,1,2,3,4,5,6,7,8,9,10,11,12,13,14,15,16,17,18,19,20,21,22,23,24,25,26,28],rN 30,rN 31,rN 32,rN 33,rN 33,rN 35,rN 33,rN 37,rN 38,rN 39] (rM 115 40) [[],[115],[],[115,116,117],rM 115 4,[115,116,117],[115,116,117],[],[],[],[],[],[],[127],[127,128],[127],[127],[],[],[],[],[],[136],[136],[],[],[],[],[142],[142],[],[],[],[],[148],[],[148,149,150],[],[],[]] dA rfl (by decide +kernel) (dN rfl (dN rfl (dV rfl (kC (hpo')) (dN rfl (dN rfl (dV rfl (ix T rfl (by omega) (cN p) q1) (dO T rfl (dV rfl (kC (hh1)) (dV rfl (eD rfl) ?_)))))))));refine dN rfl (tN rfl (tM ?_));(all_goals first|(refine tM ?_)|(refine dG ?_));(all_goals first|(refine tM ?_)|(refine dG ?_));(all_goals first|(refine tM ?_)|(refine dG ?_));(all_goals first|(refine dT rfl (ix T rfl (by omega) (cN p) q1) ?_)|(refine dG ?_));(all_goals first|(refine tL T ?_)|(refine dG ?_));(all_goals first|(refine dT rfl (fI rfl rfl) ?_)|(refine dG ?_));(all_goals (refine dT rfl (by first|exact jQ rfl rfl|exact iB rfl rfl) ?_;refine dV rfl (iB rfl rfl) (dM ?_)));(all_goals first|(refine tM ?_)|(refine pR rfl rfl rfl rfl ?_ ?_<;>(intro hb;rw [hb];(try simp only [nm] at hb);try (exfalso;omega))<;>(refine tM ?_)));(all_goals (refine tP T rfl (tO T rfl (dT rfl (C5 rfl rfl (by omega)) (dV rfl (iB rfl rfl) (dN rfl (tN rfl (tP T rfl (tO T rfl (dT rfl (XV rfl rfl (by omega)) (dV rfl (iB rfl rfl) ?_)))))))));refine dN rfl (tN rfl (tN rfl (dT rfl (kC (hgp')) (tN rfl (dT rfl (kC (hh2)) (dT rfl (eD rfl) (dV rfl (iB rfl rfl) (dE ?_)))))))))))|(refine rg 23 (dS rfl (mW rfl (vV (kC (hle1)) (mW rfl (vV (fP rfl rfl) ?_))))))|(refine rg 25 (aV ?_))|refine nZ ?_));all_goals try (exfalso;omega)
          refine dB (X := {k : Int // -1 ≤ k ∧ k ≤ c.ls.length}) (fun k => [(3,.rowE (ints p) 1),(4,.rowE (ints q) 1),(5,.pr [.rowE (iI c.ks) 2,.rowE (kX c.ls) 3,.rowE (ints I) 1,.rowE (fS c.bs) 3] 0),(11,.b true),(12,.pr (gL c gs) 0),(15,.i (b : Int)),(20,.i lot),(21,.i k.1)]) (fun _ => []) (fun k => (c.ls.length - k.1).toNat) ⟨-1,by omega,by omega⟩ (eL []) ?_
          rintro ⟨k2,hk1,hk2⟩;dsimp only;by_cases hk3 : k2 < c.ls.length
          · by_cases hk4 : k2 = lot
            · (repeat' (first|refine wS ?_|refine wB ?_|refine wK ?_|refine GQ rfl ?_|(refine wC rfl (fun hb => ?_) (fun hb => ?_) <;> (((try simp only [nm] at hb);try (exfalso;omega))))|(refine rg 26 (mW rfl (iP T rfl (qW T rfl (vV (aO rfl rfl) ?_)))))|(refine rg 28 (dS rfl (vV (nW rfl rfl (by omega)) (mV ?_)));(iterate 5 refine gF ?_);refine pV ?_)|(refine iA 27 rfl rfl rfl (by omega) (by omega) ?_)|(refine nZ ?_)));all_goals try (exfalso;omega)
              exact ⟨⟨k2 + 1,by omega,by omega⟩,by dsimp only;omega,eL []⟩
            · have hle2 := hle k2;rw [hlo k2 (fun e => hk4 e.symm)] at hle2
              (repeat' (first|refine wS ?_|refine wB ?_|refine wK ?_|refine wU ?_|(refine wC rfl ?_ ?_<;>(intro hb;(try simp only [nm] at hb);try (exfalso;omega)))|(refine rg 26 (mW rfl (iP T rfl (qW T rfl (vV (aO rfl rfl) ?_)))))|(refine rg 28 (dS rfl (vV (rV rfl rfl (by omega)) (mW rfl (yN rfl (yN rfl (yN rfl (yV (kC (hle2)) (yV (nW rfl rfl (by omega)) (pV ?_))))))))))|(refine iA 27 rfl rfl rfl (by omega) (by omega) ?_)|refine nZ ?_));all_goals try (exfalso;omega)
              exact ⟨⟨k2 + 1,by omega,by omega⟩,by dsimp only;omega,eL []⟩
          · (repeat' (first|refine wS ?_|refine wE ?_|(refine wC rfl (fun hb => ?_) (fun hb => ?_) <;> (((try simp only [nm] at hb);try (exfalso;omega))))|(refine rg 26 (mW rfl (iP T rfl (qW T rfl (vV (aO rfl rfl) ?_)))))|(refine iA 16 rfl rfl rfl (by omega) (by omega) ?_)|(refine nZ ?_)));all_goals try (exfalso;omega)
            exact ⟨⟨b + 1,by omega⟩,by dsimp only;omega,eL []⟩
      · (repeat' (first|refine wS ?_|refine wR ?_|refine wE ?_|(refine wC rfl (fun hb => ?_) (fun hb => ?_) <;> (((try simp only [nm] at hb);try (exfalso;omega))))|(refine rg 15 (mW rfl (iP T rfl (qW T rfl (vV (aO rfl rfl) ?_)))))|(refine rg 30 (mW rfl (aV ?_)))|(refine nZ ?_)));all_goals try (exfalso;omega)
        all_goals exact rQ
end Go.Proofs.YtmmkhmilpeodnaaGreat
namespace Go.Ld
open Go.Ab Go.Proofs.YtmmkhmilpeodnaaGreat
structure U7 (c : Cx) (gs : List G) (ps : List Int) (bs : List BX) (M : Int) : Prop where
  gk : mR c gs
  re : sK c ps bs
  m0 : 0 ≤ M
  m1 : M ≤ c.m
  f : ∃ f,vD c ps (oN bs) f ∧ Sem gs f M
theorem U7.new {c : Cx} (hc : rK c) (hn : c.bs.length ≤ 12) : U7 c (qT c) (nats (List.range c.bs.length)) c.bs 0 :=
  ⟨ID hc hn hc.s.1,RJ hc,fC _,hc.s.1,XA⟩
theorem U7.step {c : Cx} {gs : List G} {ps : List Int} {bs : List BX} {M done : Int} {s : Ev} (hc : rK c) (h : U7 c gs ps bs M) (hr : jV c.bs.length s = true) (hag : VI c ps (oN bs) s = true) (hcan : yC c ps (oN bs) s done = true) (hM : M + uC c ps s ≤ c.m) :
    (nY c gs s).1 = 6 ∨ (nY c gs s).1 = 0 ∧ U7 c (nY c gs s).2 (tS ps s done) (D9 ps bs s done) (M + uC c ps s) ∧ UM c (nY c gs s).2 (tS ps s done) (oN (D9 ps bs s done)) = true := by
  obtain ⟨r1,r2,r3⟩ := P3 h.gk hr;obtain ⟨m0,m1,_⟩ := hc.s;obtain ⟨f,hf,hs⟩ := h.f;obtain ⟨t1,t2⟩ := E9 hc h.gk hr h.re.pq hf hs hag hcan hM;have hmis := (UL c.st (ps.getD s.a.toNat 0) s.k s.ids).1;have hm0 := h.m0;have hre := h.re.aft r1 r2 hcan;rcases PS c gs s with h0 | ⟨_,h0⟩ | h0 | h0
  · refine .inr ⟨h0,?_⟩;obtain ⟨f',ok,hs'⟩ := t2 h0;rw [← xZ] at ok;have hg := O8 (s := s) h.gk m0 m1;refine ⟨⟨hg,hre,by unfold uC;omega,hM,f',ok,hs'⟩,?_⟩
    exact (N4 hg).2 ⟨hre.pq.pl,by rw [hre.pq.ql,hre.pq.pl],(EV hre.pq.pl).2 hre.pq.pp,f',ok,hs'.mono hM⟩
  · rw [h0] at hr;cases hr
  · exact .inl h0
  · exact absurd h0 t1
end Go.Ld
namespace Go.Proofs.YtmmkhmilpeodnaaGreat
open Go Go.Ab Go.Ld
attribute [local irreducible] VC AW bX aT kT
set_option maxHeartbeats 4000000
end Go.Proofs.YtmmkhmilpeodnaaGreat
namespace Go.Ab
open Go
def O7 (P : Program) (t : TypeId) (i o : Nat) (e : TypeId) : Bool := match P.underlying t with
  | some (.struct fs) => (match fs[i]? with
    | some f => f.offset == o && P.cellsOf f.type == 1 && (match P.underlying f.type with
      | some (.slice e') => e' == e
      | _ => false)
    | none => false)
  | _ => false
theorem DB {S : Nat → Prop} {w : World} {ρ : Pl} {x : AV} : ∀ {k : Nat} {us : List AV} {ys : List Value}, RL S w us ρ ys → us[k]? = some x → ∃ y, ys[k]? = some y ∧ R S w x ρ y
  | _,[],_,_,h => by simp at h
  | 0,u :: us,ys,hr,h => by
    simp only [RL] at hr;obtain ⟨y,zs,h1,h2,h3⟩ := hr;obtain rfl : u = x := by simpa using h
    first
      | (subst h1;exact ⟨y,rfl,h2⟩)
      | (subst h2;exact ⟨y,rfl,h1⟩)
      | (subst h3;exact ⟨y,rfl,h1⟩)
  | k + 1,u :: us,ys,hr,h => by
    simp only [RL] at hr;obtain ⟨y,zs,h1,h2,h3⟩ := hr;have h' : us[k]? = some x := by simpa using h
    first
      | (subst h1;exact DB (k := k) h3 h')
      | (subst h3;exact DB (k := k) h2 h')
theorem IF {P : Program} {H : Type} {enc : TypeId × Value → H} {ts : List TypeId} {ds : List (DataW H)} {j : Nat} {t e : TypeId} {d : DataW H} {W : World} {v : Value} {p : List MemPlace} {S : Nat → Prop} {ρ : Pl} {us : List AV} {cs : List AV} {len sz i o : Nat}
    (hw : (DataW.weightsEach P ts ds).all (· ≤ reachBytes) = true) (hts : ts[j]? = some t) (hds : ds[j]? = some d) (hf : O7 P t i o e = true) (hv : DataW.Trod enc P W 0 (fun _ => true) true t v d p) (hr : R S W (.agg us) ρ v) (hu : us[o]? = some (.row cs len sz)) : len * P.bytesOf e ≤ 140737488351232 := by
  simp only [R] at hr;obtain ⟨ys,rfl,hl⟩ := hr;obtain ⟨y,hy,hry⟩ := DB hl hu;simp only [R] at hry;obtain ⟨a,cap,rfl,_⟩ := hry;unfold O7 at hf;split at hf
  · rename_i fs ht;split at hf
    · rename_i f hfi;simp only [aJ,beq_iff_eq] at hf;obtain ⟨⟨h1,h2⟩,h3⟩ := hf;split at h3
      · rename_i e' hs;have h3 : e' = e := by simpa using h3
        subst h3;obtain ⟨fuel,hft⟩ := hv;have hc : (Value.agg ys).cells.toList = ys.toList := rfl;rw [hc] at hft;obtain ⟨xs,n,rfl,hx,_,hxl,hx2⟩ := DataW.trod_struct ht hft;have hx3 := hx2 i f hfi
        rw [h1,h2,show (ys.toList.drop o).take 1 = [.slice a len cap] by
          rw [List.take_one,List.head?_drop,hy];rfl] at hx3
        have hil : i < xs.length := by rw [hxl];exact (aI.1 hfi).1
        rw [aA hil] at hx3;simp only [Prod.mk.injEq] at hx;rcases DataW.trod_slice hs hx3 with ⟨q1,_⟩ | ⟨a',len',cap',elems,rest,n',_,q2,q3,_,_,_,q4,_⟩
        · simp only [List.cons.injEq,Value.slice.injEq] at q1;rw [q1.1.2.1];simp
        · simp only [List.cons.injEq,Value.slice.injEq] at q2;rw [q2.1.2.1];have hmem : (elems.length + rest.length) * P.bytesOf e' ∈ d.weights P t := by
            rw [hx.1];unfold DataW.weights;rw [ht];refine DataW.weights_mem_each (j := i) (t := f.type) (d := xs[i].1) ?_ ?_ _ ?_
            · rw [bP,iR,hfi];rfl
            · rw [bP,aA hil];rfl
            · rw [q3];simp only [DataW.weights,hs,bC];exact aR
          have h5 := bA.1 hw _ (DataW.weights_mem_each hts hds _ hmem);have hrb : reachBytes = 140737488351232 := by decide
          simp only [decide_eq_true_eq,hrb,eB] at h5;rw [← q4];omega
      · cases h3
    · cases hf
  · cases hf
end Go.Ab
namespace Go.Proofs.YtmmkhmilpeodnaaGreat
open Go Go.Ab Go.Ld
attribute [local irreducible] VC AW bX aT
def zG (n : Int) : Prop := (Lit.int .i64 n).wf = true
theorem qR : gI Tryz.prog 3 zG (fun n => [AV.i n]) := gI.int Tryz.underlying3 (by kernel_rfl)
theorem zB5 : gI Tryz.prog 4 (fun _ => True) (fun b => [AV.b b]) := gI.bool Tryz.underlying4 (by kernel_rfl)
theorem RC : gI Tryz.prog 9 (fun s => s.size ≤ maxLen) (fun s => [.v (.string s)]) := gI.string Tryz.underlying9 (by kernel_rfl)
theorem BN : gI Tryz.prog 24 (fun l : List Int => l.length ≤ maxLen ∧ ∀ a,a ∈ l → zG a) (fun l => [.rowE (ints l) 1]) :=
  gI.slice Tryz.underlying24 (by kernel_rfl) (by kernel_rfl) (by decide) qR
theorem zB4 : gI Tryz.prog 74 (fun p : KD => p.1.size ≤ maxLen ∧ zG p.2) (fun p => [AV.v (.string p.1),AV.i p.2]) :=
  gI.struct (fs := [(9, 0), (3, 1)]) (by kernel_rfl) (by kernel_rfl)
    (fun e W fuel css hl hx => by
      obtain ⟨a,h1,h2,h3⟩ := gW.cons RC (gW.cons qR gW.nil) e W fuel css hl hx
      exact ⟨(a.1,a.2.1),⟨h1.1,h1.2.1⟩,by simpa using h2,by simpa using h3⟩)
    (fun _ => by kernel_rfl)
theorem zI0 : gI Tryz.prog 77 (fun p : LT => zG p.1 ∧ zG p.2.1) (fun p => [AV.i p.1,AV.i p.2.1,AV.b p.2.2]) :=
  gI.struct (fs := [(3, 0), (3, 1), (4, 2)]) (by kernel_rfl) (by kernel_rfl)
    (fun e W fuel css hl hx => by
      obtain ⟨a,h1,h2,h3⟩ := gW.cons qR (gW.cons qR (gW.cons zB5 gW.nil)) e W fuel css hl hx
      exact ⟨(a.1,a.2.1,a.2.2.1),⟨h1.1,h1.2.1⟩,by simpa using h2,by simpa using h3⟩)
    (fun _ => by kernel_rfl)
theorem zI1 : gI Tryz.prog 54 (fun p : BX => zG p.1 ∧ zG p.2.1 ∧ zG p.2.2) (fun p => [AV.i p.1,AV.i p.2.1,AV.i p.2.2]) :=
  gI.struct (fs := [(3, 0), (3, 1), (3, 2)]) (by kernel_rfl) (by kernel_rfl)
    (fun e W fuel css hl hx => by
      obtain ⟨a,h1,h2,h3⟩ := gW.cons qR (gW.cons qR (gW.cons qR gW.nil)) e W fuel css hl hx
      exact ⟨(a.1,a.2.1,a.2.2.1),⟨h1.1,h1.2.1,h1.2.2.1⟩,by simpa using h2,by simpa using h3⟩)
    (fun _ => by kernel_rfl)
theorem WX : gI Tryz.prog 22 (fun l : List KD => l.length ≤ maxLen ∧ ∀ a,a ∈ l → a.1.size ≤ maxLen ∧ zG a.2) (fun l => [.rowE (iI l) 2]) :=
  gI.slice Tryz.underlying22 (by kernel_rfl) (by kernel_rfl) (by decide) zB4
theorem zB3 : gI Tryz.prog 23 (fun l : List LT => l.length ≤ maxLen ∧ ∀ a,a ∈ l → zG a.1 ∧ zG a.2.1) (fun l => [.rowE (kX l) 3]) :=
  gI.slice Tryz.underlying23 (by kernel_rfl) (by kernel_rfl) (by decide) zI0
theorem WY : gI Tryz.prog 25 (fun l : List BX => l.length ≤ maxLen ∧ ∀ a,a ∈ l → zG a.1 ∧ zG a.2.1 ∧ zG a.2.2) (fun l => [.rowE (fS l) 3]) :=
  gI.slice Tryz.underlying25 (by kernel_rfl) (by kernel_rfl) (by decide) zI1
theorem WV : gI Tryz.prog 27 (fun _ : List KD × List LT × List Int × List BX => True) (fun x => [.rowE (iI x.1) 2,.rowE (kX x.2.1) 3,.rowE (ints x.2.2.1) 1,.rowE (fS x.2.2.2) 3]) :=
  gI.struct (fs := [(22, 0), (23, 1), (24, 2), (25, 3)]) (by kernel_rfl) (by kernel_rfl)
    (fun e W fuel css hl hx => by
      obtain ⟨a,h1,h2,h3⟩ := gW.cons WX (gW.cons zB3 (gW.cons BN (gW.cons WY gW.nil))) e W fuel css hl hx
      exact ⟨(a.1,a.2.1,a.2.2.1,a.2.2.2.1),trivial,by simpa using h2,by simpa using h3⟩)
    (fun _ => by kernel_rfl)
theorem RE : gI Tryz.prog 29 (fun p : Int × Int × Int × Int => zG p.1 ∧ zG p.2.1 ∧ zG p.2.2.1 ∧ zG p.2.2.2) (fun p => [AV.i p.1,AV.i p.2.1,AV.i p.2.2.1,AV.i p.2.2.2]) :=
  gI.struct (fs := [(3, 0), (3, 1), (3, 2), (3, 3)]) (by kernel_rfl) (by kernel_rfl)
    (fun e W fuel css hl hx => by
      obtain ⟨a,h1,h2,h3⟩ := gW.cons qR (gW.cons qR (gW.cons qR (gW.cons qR gW.nil))) e W fuel css hl hx
      exact ⟨(a.1,a.2.1,a.2.2.1,a.2.2.2.1),⟨h1.1,h1.2.1,h1.2.2.1,h1.2.2.2.1⟩,by simpa using h2,by simpa using h3⟩)
    (fun _ => by kernel_rfl)
theorem WW : gI Tryz.prog 42 (fun p : Int × Int × Int × Int × List Int => p.2.2.2.2.length ≤ maxLen) (fun p => [AV.i p.1,AV.i p.2.1,AV.i p.2.2.1,AV.i p.2.2.2.1,.rowE (ints p.2.2.2.2) 1]) :=
  gI.struct (fs := [(3, 0), (3, 1), (3, 2), (3, 3), (24, 4)]) (by kernel_rfl) (by kernel_rfl)
    (fun e W fuel css hl hx => by
      obtain ⟨a,h1,h2,h3⟩ := gW.cons qR (gW.cons qR (gW.cons qR (gW.cons qR (gW.cons BN gW.nil)))) e W fuel css hl hx
      exact ⟨(a.1,a.2.1,a.2.2.1,a.2.2.2.1,a.2.2.2.2.1),h1.2.2.2.2.1.1,by simpa using h2,by simpa using h3⟩)
    (fun _ => by kernel_rfl)
theorem RD : gI Tryz.prog 30 (fun l : List (Int × Int × Int × Int × List Int) => l.length ≤ maxLen ∧ ∀ p,p ∈ l → p.2.2.2.2.length ≤ maxLen) (fun l => [.rowE (l.map fun p => [AV.i p.1,AV.i p.2.1,AV.i p.2.2.1,AV.i p.2.2.2.1,.rowE (ints p.2.2.2.2) 1]) 5]) :=
  gI.slice Tryz.underlying30 (by kernel_rfl) (by kernel_rfl) (by decide) WW
abbrev zM3 (p : Int × Int × Int × Int × List Int) : Ev := ⟨p.1,p.2.1,p.2.2.1,p.2.2.2.1,p.2.2.2.2⟩
theorem zD9 (l : List (Int × Int × Int × Int × List Int)) : (l.map fun p => [AV.i p.1,AV.i p.2.1,AV.i p.2.2.1,AV.i p.2.2.2.1,.rowE (ints p.2.2.2.2) 1]) = L2 (l.map zM3) := by
  unfold L2;rw [VD];rfl
theorem YK {l : List (Int × Int × Int × Int × List Int)} (h : ∀ p,p ∈ l → p.2.2.2.2.length ≤ maxLen) : ∀ s,s ∈ l.map zM3 → s.ids.length ≤ 9223372036854775807 := by
  intro s hs;obtain ⟨p,hp,rfl⟩ := bI.1 hs;exact bY (h p hp) (by decide)
abbrev zP0 (x : List KD × List LT × List Int × List BX) (c : Int × Int × Int × Int) : Cx := ⟨c.1,c.2.1,c.2.2.1,c.2.2.2,x.1,x.2.1,x.2.2.2⟩
theorem PE (x : List KD × List LT × List Int × List BX) (_ : True) (hx : x.2.2.2.length * 24 ≤ 140737488351232) (c : Int × Int × Int × Int) (_ : zG c.1 ∧ zG c.2.1 ∧ zG c.2.2.1 ∧ zG c.2.2.2) (l : List (Int × Int × Int × Int × List Int)) (hl : l.length ≤ maxLen ∧ ∀ p, p ∈ l → p.2.2.2.2.length ≤ maxLen)
    (p : List Int) (_ : p.length ≤ maxLen ∧ ∀ a,a ∈ p → zG a) (q : List Int) (_ : q.length ≤ maxLen ∧ ∀ a,a ∈ q → zG a) :
    aT Tryz.prog 4 [qQ x.1 x.2.1 x.2.2.1 x.2.2.2,nT c.1 c.2.1 c.2.2.1 c.2.2.2,.rowE (l.map fun p => [AV.i p.1,AV.i p.2.1,AV.i p.2.2.1,AV.i p.2.2.2.1,.rowE (ints p.2.2.2.2) 1]) 5,.rowE (ints p) 1,.rowE (ints q) 1] [] (.b true) [] := by
  rw [zD9];have hids := YK hl.2;generalize l.map zM3 = l at *;rcases YE 6 (by omega) x.1 x.2.1 (Go.Ab.nats (List.range x.2.2.2.length)) x.2.2.2 c.1 c.2.1 c.2.2.1 c.2.2.2 with hf | ⟨hf,f,hs,t,_⟩
  · exact PD _ _ _ _ _ _ _ _ l p q (by omega) hf
  · by_cases hx2 : H3 l 12 = false ∨ 8 < p.length ∨ 8 < q.length
    · exact PC _ _ _ _ _ _ _ _ l p q (by omega) hf hids hx2
    · have h1 : H3 l 12 = true := by cases h : H3 l 12 with
        | true => rfl
        | false => exact absurd (.inl h) hx2
      exact PB (zP0 x c) ⟨f,hs⟩ _ l p q hf hids h1 (by omega) (by omega)
end Go.Proofs.YtmmkhmilpeodnaaGreat
