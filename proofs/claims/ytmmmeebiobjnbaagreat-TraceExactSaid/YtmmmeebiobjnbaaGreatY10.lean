/-
  Texts of the logic and of the layer,in one module (part 10).
-/
import Derived.Test.YtmmmeebiobjnbaaGreatY9
set_option linter.unusedVariables false
set_option linter.unusedSimpArgs false
set_option linter.unnecessarySimpa false
namespace Go.Ld
open Go.Ab Go.Proofs.YtmmmeebiobjnbaaGreat
structure RX (c:Cx) (l:List En) (k:Nat) (t:Tr) (all:List PT):Prop where
  L:U7 c l k t
  P:∃ H,P6 c t all H
  al:all.length≤4 ^ k
theorem RX.new {c:Cx}(hc:iL c) (l:List En) (h3:∀ i,i<c.bs.length→(c.bs.getD i (0,0,0)).2.1≤3):RX c l 0 ⟨oB c,[],[],[]⟩ [⟨nats (List.range c.bs.length),c.bs,0,[]⟩]:=⟨U7.new hc l,⟨_,P6.new hc h3⟩,aU _⟩
theorem zY5 {a k:Nat}(h:a≤4 ^ k):a≤4 ^ (k+1):=by rw [yS1];omega
theorem RX.skip {c:Cx}{l:List En}{k:Nat}{t:Tr}{all:List PT}(h:RX c l k t all) (hk:k<l.length):RX c l (k+1) t all:=⟨h.L.skip hk,h.P,zY5 h.al⟩
theorem RX.see {c:Cx}{l:List En}{k:Nat}{t:Tr}{all:List PT}(hc:iL c) (h:RX c l k t all) (hk:k<l.length) (hs:l[k].sold=false) (h0:(eY c t.gs l[k].s).1=0):RX c l (k+1) ⟨(eY c t.gs l[k].s).2,t.seen++[l[k].s],t.sales,t.ord++[false]⟩ (uW c l[k].s all):=by
  obtain ⟨H,hP⟩:=h.P;refine ⟨h.L.see hc hk hs h0,⟨_,hP.see hc h.L.tr h0⟩,?_⟩;rw [yS1];exact bG (RQ _ _ _) (fE _ h.al)
theorem RX.sell {c:Cx}{l:List En}{k:Nat}{t:Tr}{all:List PT}(h:RX c l k t all) (hk:k<l.length) (hs:l[k].sold=true) (h0:oT c t l[k].x=0):RX c l (k+1) (qJ t l[k].x) (V7 l[k].x.b all):=by
  obtain ⟨H,hP⟩:=h.P;exact ⟨h.L.sell hk hs h0,⟨_,hP.sell l[k].x (Q9 h0)⟩,zY5 (bG (VK _ _) h.al)⟩
theorem RX.short {c:Cx}{l:List En}{k:Nat}{t:Tr}{all:List PT}(hn:c.bs.length≤100) (hk:k≤100) (h:RX c l k t all):∀ y,y∈all→y.p.length=c.bs.length∧y.b.length=c.bs.length∧y.s.length=t.sales.length∧t.sales.length≤100:=fun y hy=>by
  obtain ⟨H,hP⟩:=h.P;obtain ⟨a,_,_,_,b⟩:=hP.ok y hy;have h1:=a.len;have h2:=a.t.len;have:=h.L.len;exact ⟨h1,by omega,b,by omega⟩
theorem yG0 {c:Cx}{l:List En}{k:Nat}{t:Tr}(hT:U7 c l k t) (hlt:k<l.length) :
    ((G4 c t l[k]).1≠0∧EQ c t l[k]=KO c t)∨((G4 c t l[k]).1=0∧l[k].sold=false∧(eY c t.gs l[k].s).1=0∧EQ c t l[k]=G9 c ⟨(eY c t.gs l[k].s).2,t.seen++[l[k].s],t.sales,t.ord++[false]⟩)∨((G4 c t l[k]).1=0∧l[k].sold=true∧oT c t l[k].x=0∧EQ c t l[k]=I9 c (qJ t l[k].x)):=by
  unfold G4 EQ ZG;by_cases h:l[k].sold=true
  · rw [if_pos h,if_pos h];by_cases q:oT c t l[k].x=0
    · rw [if_pos q,if_pos q];exact .inr (.inr ⟨rfl,h,q,rfl⟩)
    · rw [if_neg q,if_neg q];exact .inl ⟨q,rfl⟩
  · rw [if_neg h,if_neg h];by_cases q:(eY c t.gs l[k].s).1=0
    · rw [if_pos q,if_pos q];exact .inr (.inl ⟨rfl,by simpa using h,q,rfl⟩)
    · rw [if_neg q,if_neg q];exact .inl ⟨q,rfl⟩
def yY (all:List PT) (i id k:Nat):Bool:=(all.take k).any fun y=>decide (y.s[i]? = some (id:Int))
theorem NJ {all:List PT}{i id k:Nat}(h:k<all.length):yY all i id (k+1)=(yY all i id k||decide (all[k].s[i]? = some (id:Int))):=by
  unfold yY;rw [aP h,List.any_append];simp
theorem PG (all:List PT) (i id:Nat):oS all i (id+1)=oS all i id++if yY all i id all.length then [(id:Int)] else []:=by
  unfold oS yY;rw [rR,nO,nats,bT,cQ];by_cases q:(all.any fun y=>decide (y.s[i]? = some (id:Int)))=true <;> simp [q]
theorem UV (all:List PT) (i n:Nat):(oS all i n).length≤n:=by
  unfold oS;rw [nats,aX];exact bG (fP _ _) (by simp)
end Go.Ld
namespace Go.Ab
open Go
theorem zX2 {S:Nat→Prop}{w:World}{ρ:Pl}{a b d:AV}{y:Value}(h:R S w (.agg [a,b,d,.nils]) ρ y):R S w (.agg [a,b,d,.rowE [] 1]) ρ y:=by
  simp only [R] at h ⊢;obtain ⟨ys,e1,h1⟩:=h;exact ⟨ys,e1,jG (fun _ h=>h) (fun _=>jG (fun _ h=>h) fun _=>jG (fun _ h=>h) fun _=>jG (fun _ h=>EC h) fun _ h=>h) h1⟩
end Go.Ab
namespace Go.Proofs.YtmmmeebiobjnbaaGreat
open Go Go.Ab Go.Ld
attribute [local irreducible] VC AW cD aT jE zU
set_option maxHeartbeats 8000000
theorem QJ (l:List Int):AV.plnL (ints l).flatten=true:=pG (fun _=>rfl) l
theorem zG2 (ks:List KD) (ls:List LT) (ps:List Int) (bs:List BX) (m st er sl:Int) (l:List En) (w:Bool) (hb:bs.length≤17592186043904) (hids:∀ e,e∈l→e.s.ids.length≤9223372036854775807)
    (hf:aT Tryz.prog 9 [wF ks ls (nats (List.range bs.length)) bs,iH m st er sl,.i 3] [] (.b w) []) (hx:3<bs.length∨NO l 6 2=false∨w=false) :
    aT Tryz.prog 5 [wF ks ls ps bs,iH m st er sl,.rowE (A4 l) 10] [] (.b true) []:=by
  have hbl:(cW bs).length=bs.length:=aX _;have hi:=zZ0 bs.length hb;rw [← hbl] at hi;rw [hbl] at hi;have hsm:=FK;have hel:=J9 l;have hfe:=zF9 l 6 2 (by omega) (by omega) hids
  generalize NO l 6 2=v at *;generalize nats (List.range bs.length)=I at *;rw [← hbl] at hi;cases v
  all_goals cases w
  all_goals
    first | (have hx:3<bs.length:=by rcases hx with h | h | h <;> first | exact h | cases h) | skip
    refine bU T Tryz.func5 rfl rfl rfl rfl ?_
    (repeat' (first|refine wS ?_|(refine rg 0 (cC (cO rfl rfl) rfl (cC (cO rfl rfl) rfl (aV ?_))))|(refine rg 1 (vV (kC (hsm)) (aV ?_)))|(refine rg 2 (gI T rfl (qW T rfl (vV (kC (hi)) (fW T rfl (bD T rfl rfl rfl rfl rfl rfl (by decide) rfl ?_))))))|refine nZ ?_));refine fH 3 (cs:=[.rowE (gE ks) 2,.rowE (iI ls) 3,.rowE (ints I) 1,.rowE (cW bs) 3]) rfl rfl rfl ?_
    refine fH 4 (cs:=[.i m,.i st,.i er,.i sl]) rfl rfl rfl ?_
    (repeat' (first|refine wS ?_|refine wR ?_|refine wT ?_|(refine rg 3 (gI T rfl (qW T rfl (vV (fA rfl rfl) (mV ?_))));refine bQ rfl rfl ?_ ?_<;>(intro hb;rw [hb];(try simp only [nm] at hb);try (exfalso;omega));(all_goals first|(refine gT (mW rfl (gT (vV (kC (hfe)) (gT (vV (eH rfl) ?_))))))|(iterate 3 refine gF ?_));(all_goals (refine pW rfl (mV ?_)));(all_goals first|(refine gT (lW T rfl (gT (lW T rfl (gT (vV (kC (hf)) (gT (vV (eH rfl) ?_))))))))|(iterate 4 refine gF ?_));(all_goals (refine pV ?_)))|(refine rg 4 (mW rfl (aV ?_)))|refine nZ ?_));all_goals try (exfalso;omega)
    all_goals exact rQ
theorem yE5 (c:Cx) (hc:iL c) (ps:List Int) (l:List En)
    (hf:aT Tryz.prog 9 [wF c.ks c.ls (nats (List.range c.bs.length)) c.bs,iH c.m c.st c.er c.sl,.i 3] [] (.b true) [])
    (hids:∀ e,e∈l→e.s.ids.length≤9223372036854775807) (hfew:NO l 6 2=true) (hb3:c.bs.length≤3) :
    aT Tryz.prog 5 [wF c.ks c.ls ps c.bs,iH c.m c.st c.er c.sl,.rowE (A4 l) 10] [] (.b true) []:=by
  have hbl:(cW c.bs).length=c.bs.length:=aX _;have hi:=zZ0 c.bs.length (by omega)
  rw [← hbl] at hi;rw [hbl] at hi;have hsm:=FK;have hel:=J9 l;have hfe:=zF9 l 6 2 (by omega) (by omega) hids
  rw [hfew] at hfe;obtain ⟨hl8,h5,hid2⟩:=zG0 hfew;have hn:=YH c hc;have hg0:=RX.new hc l;have hafter:=fun all s h1 h2 h3 h4 h5 h6=>kL (qA _).symm (BV _) (zK2 c hc (nats (List.range c.bs.length)) all s h1 h2 h3 h4 h5 h6);generalize nats (List.range c.bs.length)=I at *;rw [← hbl] at hi;refine bU T Tryz.func5 rfl rfl rfl rfl ?_
  (repeat' (first|refine wS ?_|(refine rg 0 (cC (cO rfl rfl) rfl (cC (cO rfl rfl) rfl (aV ?_))))|(refine rg 1 (vV (kC (hsm)) (aV ?_)))|(refine rg 2 (gI T rfl (qW T rfl (vV (kC (hi)) (fW T rfl (bD T rfl rfl rfl rfl rfl rfl (by decide) rfl ?_))))))|refine nZ ?_));refine fH 3 (cs:=[.rowE (gE c.ks) 2,.rowE (iI c.ls) 3,.rowE (ints I) 1,.rowE (cW c.bs) 3]) rfl rfl rfl ?_
  refine fH 4 (cs:=[.i c.m,.i c.st,.i c.er,.i c.sl]) rfl rfl rfl ?_
  (repeat' (first|refine wS ?_|refine wB ?_|refine wK ?_|refine wU ?_|(refine rg 3 (gI T rfl (qW T rfl (vV (fA rfl rfl) (mV ?_))));refine bQ rfl rfl ?_ ?_<;>(intro hb;rw [hb];(try simp only [nm] at hb);try (exfalso;omega));(all_goals (refine yN rfl (yV (kC (hfe)) (yV (eH rfl) (pW rfl (mW rfl (yO T rfl (yO T rfl (yV (kC (hf)) (yV (eH rfl) (pV ?_))))))))))))|(refine rg 5 (aV ?_))|refine nZ ?_));all_goals try (exfalso;omega)
  refine dA (X:={i:Nat // i≤c.bs.length∧∀ j,j<i→(c.bs.getD j (0,0,0)).2.1≤3}) (fun i=>[(2,.rowE (A4 l) 10),(3,.pr [.rowE (gE c.ks) 2,.rowE (iI c.ls) 3,.rowE (ints I) 1,.rowE (cW c.bs) 3] 0),(4,.pr [.i c.m,.i c.st,.i c.er,.i c.sl] 0),(7,.b true),(8,.i (i.1:Int))]) (fun _=>[]) (fun i=>c.bs.length-i.1) ⟨0,bW _,fun j hj=>absurd hj (eG _)⟩ (gH []) ?_;rintro ⟨i,hi1,hi2⟩;dsimp only at hi1 hi2 ⊢;by_cases hlt:i<c.bs.length
  · have q1:(cW c.bs)[(i:Int).toNat]? = some [AV.i (c.bs.getD i (0,0,0)).1,AV.i (c.bs.getD i (0,0,0)).2.1,AV.i (c.bs.getD i (0,0,0)).2.2]:=by
      rw [bP,xP hlt,aD,aA hlt];rfl
    have hnx:(c.bs.getD i (0,0,0)).2.1≤3→∀ j,j<i+1→(c.bs.getD j (0,0,0)).2.1≤3:=fun h j hj=>by
      by_cases e:j=i
      · subst e;exact h
      · exact hi2 j (by omega)
    generalize c.bs.getD i (0,0,0)=bx at *;obtain ⟨x1,x2,x3⟩:=bx;dsimp only at *;by_cases h3:x2≤3
    · have hnx:=hnx h3
      (repeat' (first|refine wS ?_|refine wB ?_|refine wK ?_|refine wU ?_|(refine wC rfl ?_ ?_<;>(intro hb;(try simp only [nm] at hb);try (exfalso;omega)))|(refine rg 6 (mW rfl (gI T rfl (qW T rfl (vV (aL rfl rfl) ?_)))))|(refine rg 8 (gI T rfl (mW rfl (vV (ix T rfl (by omega) (iS _) q1) (gI T rfl (vV (AP rfl rfl (by omega)) ?_))))))|(refine iA 7 rfl rfl rfl (by omega) (by omega) ?_)|refine nZ ?_));all_goals try (exfalso;omega)
      exact ⟨⟨i+1,hlt,hnx⟩,by dsimp only;omega,gH []⟩
    · (repeat' (first|refine wS ?_|refine wB ?_|refine wK ?_|refine wR ?_|refine uV rfl ?_|(refine wC rfl (fun hb=>?_) (fun hb=>?_) <;> (((try simp only [nm] at hb);try (exfalso;omega))))|(refine rg 6 (mW rfl (gI T rfl (qW T rfl (vV (aL rfl rfl) ?_)))))|(refine rg 8 (gI T rfl (mW rfl (vV (ix T rfl (by omega) (iS _) q1) (gI T rfl (vV (AO rfl rfl (by omega)) ?_))))))|(refine rg 9 (mW rfl (aV ?_)))|(refine nZ ?_)));all_goals try (exfalso;omega)
      all_goals exact rQ
  obtain rfl:i=c.bs.length:=by omega
  have hg0:=hg0 hi2
  (repeat' (first|refine wS ?_|refine wE ?_|(refine wC rfl ?_ ?_<;>(intro hb;(try simp only [nm] at hb);try (exfalso;omega)))|(refine rg 6 (mW rfl (gI T rfl (qW T rfl (vV (aL rfl rfl) ?_)))))|(refine rg 10 (lW T rfl (gI T rfl (gI T rfl (gI T rfl (cC (by exact fN rfl rfl hn (.inr ⟨rfl,rfl,by simp⟩)) rfl ?_)))));refine mW rfl (xW rfl (xW rfl (sG ?_))))|refine nZ ?_));all_goals try (exfalso;omega)
  refine oN 0 3 5 rfl rfl (by decide) ?_
  refine oN 0 4 6 rfl rfl (by decide) ?_
  refine oN 0 5 1 rfl rfl (by decide) ?_
  refine fO [(2,.rowE (A4 l) 10),(3,.pr [.rowE (gE c.ks) 2,.rowE (iI c.ls) 3,.rowE (ints I) 1,.rowE (cW c.bs) 3] 0),(4,.pr [.i c.m,.i c.st,.i c.er,.i c.sl] 0),(7,.b true),(9,.ptr 0 0),(10,.i 0)] (KO c ⟨oB c,[],[],[]⟩) ⟨[0,1,2,3,4],rfl,(by repeat first|exact trivial|refine ⟨rfl,?_⟩),⟨.inr rfl,.inr rfl,.inr rfl,.inr rfl,.inr rfl,trivial⟩,by decide,jY _⟩ ?_
  (repeat' (first|refine wS ?_|refine wB ?_|refine wK ?_|refine wU ?_|(refine rg 11 (mW rfl (vV (gB rfl rfl) (mW rfl (yN rfl (yV (by exact yS SW rfl rfl rfl) ?_)))));refine pV ?_)|(refine rg 13 (gI T rfl (gI T rfl (vV (by exact eO T rfl rfl rfl rfl) ?_)));refine zM3 80 (.agg [.rowE (ints I) 1,.rowE (cW c.bs) 3,.i 0,.rowE [] 1]) rfl (fun _ _ _ _ h=>zX2 h) ?_;refine cC (by exact bE T rfl rfl (by decide) (by decide) rfl rfl rfl) rfl ?_;refine mN 81 rfl rfl rfl rfl ?_;refine aV ?_)|(refine rg 14 (aV ?_))|refine nZ ?_));all_goals try (exfalso;omega)
  refine dA (X:={x:Nat × Tr × List PT // x.1≤l.length∧RX c l x.1 x.2.1 x.2.2}) (fun x=>[(2,.rowE (A4 l) 10),(3,.pr [.rowE (gE c.ks) 2,.rowE (iI c.ls) 3,.rowE (ints I) 1,.rowE (cW c.bs) 3] 0),(4,.pr [.i c.m,.i c.st,.i c.er,.i c.sl] 0),(7,.b true),(9,.ptr 0 0),(11,.rowE (mC x.1.2.2) 4),(12,.i (x.1.1:Int))]) (fun x=>KO c x.1.2.1) (fun x=>l.length-x.1.1) ⟨(0,⟨oB c,[],[],[]⟩,[⟨I,c.bs,0,[]⟩]),bW _,hg0⟩ ⟨[0,1,2,3,4],rfl,(by repeat first|exact trivial|refine ⟨rfl,?_⟩),⟨.inr rfl,.inr rfl,.inr rfl,.inr rfl,.inr rfl,trivial⟩,by decide,jY _⟩ ?_
  clear hn hfe hf hsm hi hg0;rintro ⟨⟨k,t,all⟩,hk,hX⟩;dsimp only at hk hX ⊢;have hal:all.length≤65536:=bG hX.al (bG (Nat.pow_le_pow_right (by decide) (show k≤8 by omega)) (by decide))
  have hsh:=hX.short (by omega) (by omega)
  obtain ⟨hsn,hll⟩:=hX.L.len;have hod:=hX.L.od;have hpl:=qA all;by_cases hlt:k<l.length
  · have hg:=NS hlt
    have hadd:=yL8 c t l[k] hc hX.L.tr (by omega) (fun hq=>by
      have:=hid2 l[k].s (bA.2 ⟨l[k],dW.2 ⟨aM hlt,by rw [hq];rfl⟩,rfl⟩)
      omega) (by omega) (by omega) (by omega)
    have hids1:l[k].sold=false→l[k].s.ids.length≤12:=fun hq=>hid2 l[k].s (bA.2 ⟨l[k],dW.2 ⟨aM hlt,by rw [hq];rfl⟩,rfl⟩)
    have hsk:=hX.skip hlt;have hs1:=hX.see hc hlt;have hs2:=hX.sell hlt;rcases yG0 hX.L hlt with ⟨e0,e1⟩ | ⟨e0,e1,e2,e3⟩ | ⟨e0,e1,e2,e3⟩
    · rw [e1] at hadd;clear hs1 hs2;generalize (G4 c t l[k]).1=code at *;generalize l[k]=e at *
      (repeat' (first|refine wS ?_|refine wB ?_|refine wK ?_|refine wE ?_|refine wT ?_|(refine wC rfl ?_ ?_<;>(intro hb;(try simp only [nm] at hb);try (exfalso;omega)))|(refine rg 15 (dI rfl (qW T rfl (vV (aL rfl rfl) ?_))))|(refine rg 17 (dI rfl (mW rfl (vV (ix T rfl (by omega) (rF _) hg) (lW T rfl (eC [0,1,2,3,4] rfl rfl (hadd) rfl rfl (by decide) ⟨.inr rfl,.inr rfl,.inr (aC rfl rfl (eZ _)),.inr (aC rfl rfl (fF _ _)),.inr (aC rfl rfl (fG _)),trivial⟩ (by simp) rfl ?_)))));refine aV ?_)|(refine rg 18 (mW rfl (vV (N3 rfl rfl e0) ?_)))|(refine iA 16 rfl rfl rfl (by omega) (by omega) ?_)|refine nZ ?_));all_goals try (exfalso;omega)
      all_goals exact ⟨⟨(k+1,t,all),by dsimp only;omega,hsk⟩,by dsimp only;omega,⟨[0,1,2,3,4],rfl,(by repeat first|exact trivial|refine ⟨rfl,?_⟩),⟨.inr rfl,.inr rfl,.inr (aC rfl (bB _ (eZ _)) (eZ _)),.inr (aC rfl (bB _ (fF _ _)) (fF _ _)),.inr (aC rfl (bB _ (fG _)) (fG _)),trivial⟩,by decide,jY _⟩⟩
    · rw [e3,e0] at hadd;have hX2:=hs1 e1 e2;have hids1:=hids1 e1;have hr:=E4 e2;obtain ⟨r1,r2,r3,r4⟩:=mU hr (by omega)
      have haf:=hafter all l[k].s (fun y hy=>by
        obtain ⟨H,hP⟩:=hX.P;obtain ⟨a,b,d,_⟩:=hP.ok y hy;have:=hsh y hy
        exact ⟨a,b,d,by omega⟩) (by omega) r1 r2 ⟨r3,r4⟩ (by omega)
      clear hs1 hs2;generalize (⟨(eY c t.gs l[k].s).2,t.seen++[l[k].s],t.sales,t.ord++[false]⟩:Tr)=t' at *;generalize uW c l[k].s all=nx at *;clear e2 e3 e0 hr r1 r2 r3 r4;generalize l[k]=e at *;obtain ⟨es,⟨ek,ea,eb,en,eids⟩,⟨xt,xo,xb,xn⟩⟩:=e;dsimp only [zU9] at *;subst e1
      (repeat' (first|refine wS ?_|refine wB ?_|refine wK ?_|refine wE ?_|refine wT ?_|refine wU ?_|(refine wC rfl ?_ ?_<;>(intro hb;(try simp only [nm] at hb);try (exfalso;omega)))|(refine rg 15 (dI rfl (qW T rfl (vV (aL rfl rfl) ?_))))|(refine rg 17 (dI rfl (mW rfl (vV (ix T rfl (by omega) (rF _) hg) (lW T rfl (eC (rN 5) rfl rfl (hadd) rfl rfl (by decide) ⟨.inr rfl,.inr rfl,.inr (aC rfl rfl (eZ _)),.inr (aC rfl rfl (fF _ _)),.inr (aC rfl rfl (fG _)),trivial⟩ (by simp) rfl ?_)))));refine aV ?_)|(refine rg 18 (mW rfl (vV (gB rfl rfl) ?_)))|(refine rg 19 (dI rfl (vV (ix T rfl (by omega) (rF _) hg) (gI T rfl (vV (eH rfl) ?_)))))|(refine bV (id:=20) 211 [[],[],[],[],[],[3,4],[3,4,5],rM 3 4,rN 8] (rM 102 9) [[],[102],[102,103],[102,103,104],rM 102 4,[102,103,104],[102,103,104],[102,103,104],[]] cK rfl (by decide +kernel) (dO T rfl (dO T rfl (dN rfl (dN rfl (dN rfl (dV rfl (ix T rfl (by omega) (rF _) hg) (dP T rfl (dO T rfl (dV rfl (kC (haf)) ?_)))))))));refine dE ?_;refine aV ?_)|(refine iA 16 rfl rfl rfl (by omega) (by omega) ?_)|refine nZ ?_));all_goals try (exfalso;omega)
      all_goals exact ⟨⟨(k+1,t',nx),by dsimp only;omega,hX2⟩,by dsimp only;omega,⟨[0,1,5,3,6],rfl,(by repeat first|exact trivial|refine ⟨rfl,?_⟩),⟨.inr rfl,.inr rfl,.inr (aC rfl (bB _ (eZ _)) (eZ _)),.inr (aC rfl (bB _ (fF _ _)) (fF _ _)),.inr (aC rfl (bB _ (fG _)) (fG _)),trivial⟩,by decide,jY _⟩⟩
    · rw [e3,e0] at hadd;have hX2:=hs2 e1 e2;have hb:=Q9 e2;clear hs1 hs2;generalize hF:(fun j=>((all.take j).map (L7 l[k].x.b)).foldl iO [])=F at *;have hF0:F 0=[]:=by rw [← hF];rfl
      have hFs:∀ j (h:j<all.length),F (j+1)=iO (F j) (L7 l[k].x.b all[j]):=fun j h=>by rw [← hF];exact QN _ h
      have hFe:F all.length=V7 l[k].x.b all:=by rw [← hF];dsimp only;rw [cQ];rfl
      have hFl:∀ j,(F j).length≤65536:=fun j=>by
        rw [← hF];refine bG (uE _ _) ?_;rw [aX,bH,List.length_nil];omega
      have hFb:∀ j y,y∈F j→HP y:=fun j y hy=>by
        rw [← hF] at hy;rcases uD hy with h | h
        · cases h
        · obtain ⟨u,hu,rfl⟩:=bA.1 h;obtain ⟨q1,q2,q3,q4⟩:=hsh u (dS hu);refine ⟨by show u.p.length≤1000;omega,by show u.b.length≤1000;omega,?_⟩
          show (u.s++_).length≤1000;rw [aF,zW];omega
      clear hF;generalize qJ t l[k].x=t' at *;generalize V7 l[k].x.b all=nx at *;clear e2 e3 e0;generalize l[k]=e at *;obtain ⟨es,⟨ek,ea,eb,en,eids⟩,⟨xt,xo,xb,xn⟩⟩:=e;dsimp only [zU9] at *;subst e1
      (repeat' (first|refine wS ?_|refine wB ?_|refine wK ?_|refine wU ?_|(refine wC rfl ?_ ?_<;>(intro hb;(try simp only [nm] at hb);try (exfalso;omega)))|(refine rg 15 (dI rfl (qW T rfl (vV (aL rfl rfl) ?_))))|(refine rg 17 (dI rfl (mW rfl (vV (ix T rfl (by omega) (rF _) hg) (lW T rfl (eC [0,1,2,3,4] rfl rfl (hadd) rfl rfl (by decide) ⟨.inr rfl,.inr rfl,.inr (aC rfl rfl (eZ _)),.inr (aC rfl rfl (fF _ _)),.inr (aC rfl rfl (fG _)),trivial⟩ (by simp) rfl ?_)))));refine aV ?_)|(refine rg 18 (mW rfl (vV (gB rfl rfl) ?_)))|(refine rg 19 (dI rfl (vV (ix T rfl (by omega) (rF _) hg) (gI T rfl (vV (eH rfl) ?_)))))|refine nZ ?_));all_goals try (exfalso;omega)
      repeat' (first|refine wS ?_|(refine rg 21 (vV (dK rfl) (nY 14 4 rfl (by decide) ?_)))|refine nZ ?_)
      (repeat' (first|refine wB ?_|(refine rg 22 (aV ?_))|refine nZ ?_));refine dA (X:={x:Nat × List PT // x.1≤all.length∧F x.1=x.2}) (fun x=>[(2,.rowE (A4 l) 10),(3,.pr [.rowE (gE c.ks) 2,.rowE (iI c.ls) 3,.rowE (ints I) 1,.rowE (cW c.bs) 3] 0),(4,.pr [.i c.m,.i c.st,.i c.er,.i c.sl] 0),(7,.b true),(9,.ptr 0 0),(11,.rowE (mC all) 4),(12,.i (k:Int)),(14,.sl 5 0 x.1.2.length 4),(15,.i (x.1.1:Int))]) (fun x=>zN2 c t' [.arr (mC x.1.2) 4]) (fun x=>all.length-x.1.1) ⟨(0,[]),bW _,hF0⟩ ⟨[0,1,2,5,6,7],rfl,(by repeat first|exact trivial|refine ⟨rfl,?_⟩),⟨.inr rfl,.inr rfl,.inr (aC rfl (bB _ (eZ _)) (eZ _)),.inr (aC rfl (bB _ (fF _ _)) (fF _ _)),.inr (aC rfl (bB _ (fG _)) (fG _)),.inr rfl,trivial⟩,by decide,jY _⟩ ?_
      rintro ⟨⟨j,D⟩,hj,hD⟩;dsimp only at hj hD ⊢;have hDl:=hFl j;have hDb:=hFb j;rw [hD] at hDl hDb;have hDp:=qA D;by_cases hjl:j<all.length
      · have hFs:=hFs j hjl;rw [hD] at hFs;have q1:=BW hjl;obtain ⟨u1,u2,u3,u4⟩:=hsh _ (aM hjl);generalize all[j]=y at *;obtain ⟨pt,bt,mt,st⟩:=y;dsimp only at u1 u2 u3
        replace q1:(mC all)[(j:Int).toNat]? = some [.rowE (Go.Ab.ints pt) 1,.rowE (cW bt) 3,.i mt,.rowE (Go.Ab.ints st) 1]:=q1
        have hptl:(ints pt).length=pt.length:=cY pt;have hptl2:(Go.Ab.ints pt).length=pt.length:=cY pt;have hstl:(ints st).length=st.length:=cY st;have hstl2:(Go.Ab.ints st).length=st.length:=cY st;have hq:∀ v:Int,v=xb→(ints pt)[v.toNat]? = some [AV.i (pt.getD xb.toNat 0)]:=fun v hv=>sK (l:=pt) (j:=v) (i:=xb.toNat) 0 (by omega) (by omega)
        change F (j+1)=iO D ⟨pt,bt,mt,st++[pt.getD xb.toNat 0]⟩ at hFs;generalize pt.getD xb.toNat 0=v at *;have hw1:=KT D ⟨pt,bt,mt,st++[v]⟩ (by omega) hDb
        have hw2:=EZ D ⟨pt,bt,mt,st++[v]⟩ (by omega) hDb
        rw [← hFs] at hw1 hw2;generalize hD':F (j+1)=D' at *
        (repeat' (first|refine wS ?_|refine wB ?_|refine wK ?_|(refine wC rfl ?_ ?_<;>(intro hb;(try simp only [nm] at hb);try (exfalso;omega)))|(refine rg 23 (dI rfl (qW T rfl (vV (aL rfl rfl) ?_))))|(refine rg 25 (dI rfl (vV (ix T rfl (by omega) (sJ _) q1) (lW T rfl (cC (cM T rfl) rfl (bD T rfl rfl rfl rfl rfl rfl (by decide) rfl ?_))))))|refine nZ ?_));all_goals try (exfalso;omega)
        have esn:ints (st++[v])=ints st++[[.i v]]:=by rw [ints,bT];rfl
        apply Go.Ab.cutT
        · intro rest;by_cases hst0:st=[]
          · have hel0:ints st=[]:=by rw [hst0];rfl
            have hE0:∀ h,iK h (.rowE (ints st) 1) [] 1:=fun h=>by rw [hel0];exact iK.row (fun e he=>by cases he)
            have esl:(st++[v]).length=0+1:=by rw [hst0];rfl
            (repeat' (first|(refine rK (id:=26) 21 211 yY1 yY2 (rM 121 21) yY3 cK rfl (by decide +kernel) (by decide +kernel) ?_;(dsimp only [List.take,List.drop]);refine xO rfl rfl rfl (by exact X7 (len:=0) T rfl rfl (by decide) (by decide) rfl rfl rfl) rfl ?_;refine dP T rfl (dO T rfl (dV rfl (by exact DA T rfl rfl rfl rfl rfl rfl (hE0 _)) ?_));refine dP T rfl (dO T rfl (dN rfl (dN rfl (dV rfl (ix T rfl (by omega) (rF _) hg) (dP T rfl (dP T rfl (dO T rfl (dP T rfl (dL T ?_)))))))));refine dV rfl (jB T rfl rfl) (dV rfl (cT rfl rfl (by omega) (by omega)) (dV rfl (J7 rfl rfl) (dV rfl (yW rfl rfl) (dV rfl (ix T rfl (by omega) (dR pt) (hq _ (by omega))) (dO T rfl (xO rfl rfl rfl (by exact bE T rfl rfl (by decide) (by decide) rfl rfl rfl) rfl ?_))))));refine dE ?_;refine iM ?_;refine cC (by exact H7 (news:=[[.i v]]) T rfl rfl rfl rfl rfl (by decide) rfl (List.cons_ne_nil _ _) (iK.whole rfl rfl) (by simp) (by simp)) rfl ?_;refine fW T rfl (bD T rfl rfl rfl rfl rfl rfl (by decide) rfl ?_))|refine nZ ?_));all_goals try (exfalso;omega)
            all_goals exact fO [(2,.rowE (A4 l) 10),(3,.pr [.rowE (gE c.ks) 2,.rowE (iI c.ls) 3,.rowE (ints I) 1,.rowE (cW c.bs) 3] 0),(4,.pr [.i c.m,.i c.st,.i c.er,.i c.sl] 0),(7,.b true),(9,.ptr 0 0),(11,.rowE (mC all) 4),(12,.i (k:Int)),(14,.sl 5 0 D.length 4),(15,.i (j:Int)),(16,.ptr 6 0)] (zN2 c t' [.arr (mC D) 4,.cells [.rowE (ints pt) 1,.rowE (cW bt) 3,.i mt,.sl 7 0 (st++[v]).length 1],.arr (ints (st++[v])) 1]) ⟨[0,1,2,3,4,5,6,9],rfl,(by repeat first|exact trivial|refine ⟨rfl,?_⟩),⟨.inr rfl,.inr rfl,.inr (aC rfl rfl (eZ _)),.inr (aC rfl rfl (fF _ _)),.inr (aC rfl rfl (fG _)),.inr (aC rfl rfl (gR _)),.inr (by rw [esl];rfl),.inr (aC rfl (by rw [esn,hel0];rfl) (bJ _)),trivial⟩,by decide,jY _⟩ rest.get
          · have hne:ints st≠[]:=fun q=>hst0 (by rw [← fI,← hstl,q];rfl)
            have esl:(st++[v]).length=(0+(ints st).length)+[[AV.i v]].length:=by simp
            (repeat' (first|(refine rK (id:=26) 21 211 yY1 yY2 (rM 121 21) yY3 cK rfl (by decide +kernel) (by decide +kernel) ?_;(dsimp only [List.take,List.drop]);refine xO rfl rfl rfl (by exact X7 (len:=0) T rfl rfl (by decide) (by decide) rfl rfl rfl) rfl ?_;refine dP T rfl (dO T rfl (xO rfl rfl rfl (by exact H7 T rfl rfl rfl rfl rfl (by decide) rfl hne (iK.row (dR _)) (by dsimp only;omega) (by omega)) rfl ?_));refine dP T rfl (dO T rfl (dN rfl (dN rfl (dV rfl (ix T rfl (by omega) (rF _) hg) (dP T rfl (dP T rfl (dO T rfl (dP T rfl (dL T ?_)))))))));refine dV rfl (jB T rfl rfl) (dV rfl (cT rfl rfl (by omega) (by omega)) (dV rfl (J7 rfl rfl) (dV rfl (yW rfl rfl) (dV rfl (ix T rfl (by omega) (dR pt) (hq _ (by omega))) (dO T rfl (xO rfl rfl rfl (by exact bE T rfl rfl (by decide) (by decide) rfl rfl rfl) rfl ?_))))));refine dE ?_;refine iM ?_;refine fS T rfl rfl rfl rfl rfl rfl (by omega) (iK.whole rfl rfl) rfl (by simp;omega) (by simp;omega) rfl ?_;refine fW T rfl (bD T rfl rfl rfl rfl rfl rfl (by decide) rfl ?_))|refine nZ ?_));all_goals try (exfalso;omega)
            all_goals exact fO [(2,.rowE (A4 l) 10),(3,.pr [.rowE (gE c.ks) 2,.rowE (iI c.ls) 3,.rowE (ints I) 1,.rowE (cW c.bs) 3] 0),(4,.pr [.i c.m,.i c.st,.i c.er,.i c.sl] 0),(7,.b true),(9,.ptr 0 0),(11,.rowE (mC all) 4),(12,.i (k:Int)),(14,.sl 5 0 D.length 4),(15,.i (j:Int)),(16,.ptr 6 0)] (zN2 c t' [.arr (mC D) 4,.cells [.rowE (ints pt) 1,.rowE (cW bt) 3,.i mt,.sl 7 0 (st++[v]).length 1],.arr (ints (st++[v])) 1]) ⟨[0,1,2,3,4,5,6,10],rfl,(by repeat first|exact trivial|refine ⟨rfl,?_⟩),⟨.inr rfl,.inr rfl,.inr (aC rfl rfl (eZ _)),.inr (aC rfl rfl (fF _ _)),.inr (aC rfl rfl (fG _)),.inr (aC rfl rfl (gR _)),.inr (by rw [esl];rfl),.inr (aC rfl (by rw [esn];first | done | exact jF (by simp)) (bJ _)),trivial⟩,by decide,jY _⟩ rest.get
        refine nN 6 3 rfl rfl rfl (cY _).symm (gV (bJ _)) ?_;refine fH 16 (cs:=zY4 ⟨pt,bt,mt,st++[v]⟩) rfl rfl rfl ?_;cases hh:TT D ⟨pt,bt,mt,st++[v]⟩ with
        | true=>
          have hw:=hw1 hh
          (repeat' (first|(refine rg 27 (mW rfl (lW T rfl (eC [5] rfl rfl (hw) rfl rfl (by decide) ⟨.inr (aC rfl rfl (gR _)),trivial⟩ (by simp) rfl ?_)));refine aV ?_)|(refine iA 24 rfl rfl rfl (by omega) (by omega) ?_)|refine nZ ?_));all_goals try (exfalso;omega)
          all_goals exact ⟨⟨(j+1,D'),hjl,hD'⟩,by dsimp only;omega,⟨[0,1,2,3,4,5],rfl,(by repeat first|exact trivial|refine ⟨rfl,?_⟩),⟨.inr rfl,.inr rfl,.inr (aC rfl rfl (eZ _)),.inr (aC rfl rfl (fF _ _)),.inr (aC rfl rfl (fG _)),.inr (aC rfl (bB _ (gR _)) (gR _)),trivial⟩,by decide,jY _⟩⟩
        | false=>
          have hw:=hw2 hh
          (repeat' (first|(refine rg 27 (mW rfl (lW T rfl (eC [5] rfl rfl (hw) rfl rfl (by decide) ⟨.inr (aC rfl rfl (gR _)),trivial⟩ (by simp) rfl ?_)));refine aV ?_)|(refine iA 24 rfl rfl rfl (by omega) (by omega) ?_)|refine nZ ?_));all_goals try (exfalso;omega)
          all_goals exact ⟨⟨(j+1,D'),hjl,hD'⟩,by dsimp only;omega,⟨[0,1,2,3,4,8],rfl,(by repeat first|exact trivial|refine ⟨rfl,?_⟩),⟨.inr rfl,.inr rfl,.inr (aC rfl rfl (eZ _)),.inr (aC rfl rfl (fF _ _)),.inr (aC rfl rfl (fG _)),.inr (aC rfl (bB _ (gR _)) (gR _)),trivial⟩,by decide,jY _⟩⟩
      · obtain rfl:j=all.length:=by omega
        have hDn:D=nx:=by rw [← hD,hFe]
        subst hDn
        (repeat' (first|refine wS ?_|refine wE ?_|(refine wC rfl ?_ ?_<;>(intro hb;(try simp only [nm] at hb);try (exfalso;omega)))|(refine rg 23 (dI rfl (qW T rfl (vV (aL rfl rfl) ?_))))|refine nZ ?_));all_goals try (exfalso;omega)
        refine JX 14 rfl rfl (qA _).symm (BV _) ?_
        (repeat' (first|(refine rg 28 (mW rfl (aV ?_)))|(refine iA 16 rfl rfl rfl (by omega) (by omega) ?_)|refine nZ ?_));all_goals try (exfalso;omega)
        all_goals exact ⟨⟨(k+1,t',D),by dsimp only;omega,hX2⟩,by dsimp only;omega,⟨[0,1,2,3,4],rfl,(by repeat first|exact trivial|refine ⟨rfl,?_⟩),⟨.inr rfl,.inr rfl,.inr (aC rfl rfl (eZ _)),.inr (aC rfl rfl (fF _ _)),.inr (aC rfl rfl (fG _)),trivial⟩,by decide,jY _⟩⟩
  obtain rfl:k=l.length:=by omega
  obtain ⟨H,hP⟩:=hX.P;have hidk:=hX.L.ids hid2;have h5':=hX.L.swap h5;have hsal:=YD c t (by omega)
  have hbs6:c.bs.length≤6:=by omega
  clear hafter
  (repeat' (first|refine wS ?_|refine wB ?_|refine wE ?_|(refine wC rfl ?_ ?_<;>(intro hb;(try simp only [nm] at hb);try (exfalso;omega)))|(refine rg 15 (dI rfl (qW T rfl (vV (aL rfl rfl) ?_))))|(refine rg 29 (aV ?_))|refine nZ ?_));all_goals try (exfalso;omega)
  refine dA (X:={i:Nat // i≤t.sales.length}) (fun i=>[(2,.rowE (A4 l) 10),(3,.pr [.rowE (gE c.ks) 2,.rowE (iI c.ls) 3,.rowE (ints I) 1,.rowE (cW c.bs) 3] 0),(4,.pr [.i c.m,.i c.st,.i c.er,.i c.sl] 0),(7,.b true),(9,.ptr 0 0),(11,.rowE (mC all) 4),(17,.i (i.1:Int))]) (fun _=>KO c t) (fun i=>t.sales.length-i.1) ⟨0,bW _⟩ ⟨[0,1,2,3,4],rfl,(by repeat first|exact trivial|refine ⟨rfl,?_⟩),⟨.inr rfl,.inr rfl,.inr (aC rfl rfl (eZ _)),.inr (aC rfl rfl (fF _ _)),.inr (aC rfl rfl (fG _)),trivial⟩,by decide,jY _⟩ ?_
  rintro ⟨i,hi⟩;dsimp only;by_cases hil:i<t.sales.length
  · have hx:t.sales[i]? = some t.sales[i]:=aA hil;have q2:=TS c t i hc hX.L.tr hx (by omega) hidk
    have hw:=hP.want hc hbs6 hX.L.tr h5' hx;have n1:=hX.L.nids hbs6 (aM hil);generalize t.sales[i]=x at *;rw [hw] at q2 n1;clear hw hx
    (repeat' (first|refine wS ?_|refine wB ?_|refine wK ?_|(refine wC rfl ?_ ?_<;>(intro hb;(try simp only [nm] at hb);try (exfalso;omega)))|(refine rg 30 (dI rfl (cC (by exact fN rfl rfl hsal (.inl ⟨.cons (pS rfl rfl rfl rfl rfl rfl rfl rfl) .nil,ZL _ _⟩)) rfl ?_));refine qW T rfl (vV (aL rfl rfl) ?_))|refine nZ ?_));all_goals try (exfalso;omega)
    repeat' (first|refine wS ?_|(refine rg 32 (vV (dK rfl) (nY 18 1 rfl (by decide) ?_)))|refine nZ ?_)
    (repeat' (first|refine wB ?_|(refine rg 33 (aV ?_))|refine nZ ?_));refine dA (X:={n:Nat // n≤c.bs.length}) (fun n=>[(2,.rowE (A4 l) 10),(3,.pr [.rowE (gE c.ks) 2,.rowE (iI c.ls) 3,.rowE (ints I) 1,.rowE (cW c.bs) 3] 0),(4,.pr [.i c.m,.i c.st,.i c.er,.i c.sl] 0),(7,.b true),(9,.ptr 0 0),(11,.rowE (mC all) 4),(17,.i (i:Int)),(18,.sl 5 0 (oS all i n.1).length 1),(19,.i (n.1:Int))]) (fun n=>zN2 c t [.arr (ints (oS all i n.1)) 1]) (fun n=>c.bs.length-n.1) ⟨0,bW _⟩ ⟨[0,1,2,3,4,6],rfl,(by repeat first|exact trivial|refine ⟨rfl,?_⟩),⟨.inr rfl,.inr rfl,.inr (aC rfl rfl (eZ _)),.inr (aC rfl rfl (fF _ _)),.inr (aC rfl rfl (fG _)),.inr rfl,trivial⟩,by decide,jY _⟩ ?_
    rintro ⟨id,hid⟩;dsimp only;have wll:=UV all i id;have wi:(ints (oS all i id)).length=(oS all i id).length:=cY _;by_cases hidl:id<c.bs.length
    · have ws:=PG all i id
      (repeat' (first|refine wS ?_|refine wB ?_|refine wK ?_|(refine wC rfl ?_ ?_<;>(intro hb;(try simp only [nm] at hb);try (exfalso;omega)))|(refine rg 34 (mW rfl (gI T rfl (qW T rfl (vV (aL rfl rfl) ?_)))))|(refine rg 36 (aV ?_))|(refine rg 37 (aV ?_))|refine nZ ?_));all_goals try (exfalso;omega)
      refine dA (X:={n:Nat // n≤all.length}) (fun n=>[(2,.rowE (A4 l) 10),(3,.pr [.rowE (gE c.ks) 2,.rowE (iI c.ls) 3,.rowE (ints I) 1,.rowE (cW c.bs) 3] 0),(4,.pr [.i c.m,.i c.st,.i c.er,.i c.sl] 0),(7,.b true),(9,.ptr 0 0),(11,.rowE (mC all) 4),(17,.i (i:Int)),(18,.sl 5 0 (oS all i id).length 1),(19,.i (id:Int)),(20,.b (yY all i id n.1)),(21,.i (n.1:Int))]) (fun _=>zN2 c t [.arr (ints (oS all i id)) 1]) (fun n=>all.length-n.1) ⟨0,bW _⟩ ⟨[0,1,2,3,4,5],rfl,(by repeat first|exact trivial|refine ⟨rfl,?_⟩),⟨.inr rfl,.inr rfl,.inr (aC rfl rfl (eZ _)),.inr (aC rfl rfl (fF _ _)),.inr (aC rfl rfl (fG _)),.inr (aC rfl rfl (bJ _)),trivial⟩,by decide,jY _⟩ ?_
      rintro ⟨n,hn⟩;dsimp only;by_cases hnl:n<all.length
      · have fs:=NJ (i:=i) (id:=id) hnl;have q1:=BW hnl;obtain ⟨u1,u2,u3,u4⟩:=hsh _ (aM hnl);generalize yY all i id n=fo at *;generalize hfo:yY all i id (n+1)=fo' at *;generalize all[n]=y at *;obtain ⟨pt,bt,mt,st⟩:=y;dsimp only at u1 u2 u3 fs
        replace q1:(mC all)[(n:Int).toNat]? = some [.rowE (Go.Ab.ints pt) 1,.rowE (cW bt) 3,.i mt,.rowE (Go.Ab.ints st) 1]:=q1
        have hstl:(ints st).length=st.length:=cY st;have hstl2:(Go.Ab.ints st).length=st.length:=cY st;have hil2:i<st.length:=by omega
        have hq:∀ v:Int,v=(i:Int)→(ints st)[v.toNat]? = some [AV.i st[i]]:=fun v hv=>by subst hv;exact mE hil2
        rw [aA hil2] at fs;generalize st[i]=sv at *;cases fo with
        | true=>
          rw [Bool.true_or] at fs;subst fs
          (repeat' (first|refine wS ?_|refine wB ?_|refine wK ?_|(refine wC rfl ?_ ?_<;>(intro hb;(try simp only [nm] at hb);try (exfalso;omega)))|(refine rg 38 (dI rfl (qW T rfl (vV (aL rfl rfl) ?_))))|(refine bV (id:=40) 211 yY4 (rM 168 31) yY5 cK rfl (by decide +kernel) (dN rfl (dN rfl (tG rfl (tG rfl (tG rfl (tG rfl (tG rfl (tG rfl (dG ?_)))))))));refine tG rfl (tG rfl (tH rfl (tH rfl (tH rfl (tH rfl (tH rfl (tH rfl (tH rfl (dH ?_)))))))));refine tH rfl (tH rfl (tH rfl (tH rfl (tH rfl (tH rfl (tH rfl (tH rfl (tH rfl (dH ?_)))))))));refine tG rfl (dV rfl (gG rfl rfl) (dE ?_));refine aV ?_)|(refine iA 39 rfl rfl rfl (by omega) (by omega) ?_)|refine nZ ?_));all_goals try (exfalso;omega)
          all_goals exact ⟨⟨n+1,hnl⟩,by dsimp only;omega,⟨[0,1,2,3,4,5],rfl,(by dsimp only;rw [hfo];(repeat (first | exact trivial | refine ⟨rfl,?_⟩))),⟨.inr rfl,.inr rfl,.inr (aC rfl rfl (eZ _)),.inr (aC rfl rfl (fF _ _)),.inr (aC rfl rfl (fG _)),.inr (aC rfl rfl (bJ _)),trivial⟩,by decide,jY _⟩⟩
        | false=>
          rw [yP6] at fs;by_cases hv:sv=(id:Int)
          · rw [decide_eq_true (by rw [hv])] at fs
            subst fs
            (repeat' (first|refine wS ?_|refine wB ?_|refine wK ?_|(refine wC rfl ?_ ?_<;>(intro hb;(try simp only [nm] at hb);try (exfalso;omega)))|(refine rg 38 (dI rfl (qW T rfl (vV (aL rfl rfl) ?_))))|(refine bV (id:=40) 211 yY4 (rM 168 31) yY5 cK rfl (by decide +kernel) (dN rfl (dN rfl (tN rfl (tN rfl (dT rfl (ix T rfl (by omega) (sJ _) q1) (tP T rfl (tO T rfl (dT rfl (jB T rfl rfl) (tM ?_)))))))));refine dT rfl (AO rfl rfl (by omega)) (tN rfl (tN rfl (tN rfl (dT rfl (ix T rfl (by omega) (sJ _) q1) (tP T rfl (tO T rfl (tN rfl (tN rfl (tM ?_)))))))));refine dT rfl (ix T rfl (by omega) (sJ _) q1) (tP T rfl (tO T rfl (dT rfl (jB T rfl rfl) (dT rfl (cT rfl rfl (by omega) (by omega)) (dT rfl (J7 rfl rfl) (dT rfl (ix T rfl (by omega) (dR st) (hq _ (by omega))) (tO T rfl (tN rfl (dT rfl (lE rfl rfl hv) ?_)))))))));refine dT rfl (gG rfl rfl) (dV rfl (gJ rfl rfl) (dE ?_));refine aV ?_)|(refine iA 39 rfl rfl rfl (by omega) (by omega) ?_)|refine nZ ?_));all_goals try (exfalso;omega)
            all_goals exact ⟨⟨n+1,hnl⟩,by dsimp only;omega,⟨[0,1,2,3,4,5],rfl,(by dsimp only;rw [hfo];(repeat (first | exact trivial | refine ⟨rfl,?_⟩))),⟨.inr rfl,.inr rfl,.inr (aC rfl rfl (eZ _)),.inr (aC rfl rfl (fF _ _)),.inr (aC rfl rfl (fG _)),.inr (aC rfl rfl (bJ _)),trivial⟩,by decide,jY _⟩⟩
          · rw [decide_eq_false (fun q=>hv (Option.some.inj q))] at fs;subst fs
            (repeat' (first|refine wS ?_|refine wB ?_|refine wK ?_|(refine wC rfl ?_ ?_<;>(intro hb;(try simp only [nm] at hb);try (exfalso;omega)))|(refine rg 38 (dI rfl (qW T rfl (vV (aL rfl rfl) ?_))))|(refine bV (id:=40) 211 yY4 (rM 168 31) yY5 cK rfl (by decide +kernel) (dN rfl (dN rfl (tN rfl (tN rfl (dT rfl (ix T rfl (by omega) (sJ _) q1) (tP T rfl (tO T rfl (dT rfl (jB T rfl rfl) (tM ?_)))))))));refine dT rfl (AO rfl rfl (by omega)) (tN rfl (tN rfl (tN rfl (dT rfl (ix T rfl (by omega) (sJ _) q1) (tP T rfl (tO T rfl (tN rfl (tN rfl (tM ?_)))))))));refine dT rfl (ix T rfl (by omega) (sJ _) q1) (tP T rfl (tO T rfl (dT rfl (jB T rfl rfl) (dT rfl (cT rfl rfl (by omega) (by omega)) (dT rfl (J7 rfl rfl) (dT rfl (ix T rfl (by omega) (dR st) (hq _ (by omega))) (tO T rfl (tN rfl (dT rfl (iE rfl rfl hv) ?_)))))))));refine dT rfl (gG rfl rfl) (dV rfl (gJ rfl rfl) (dE ?_));refine aV ?_)|(refine iA 39 rfl rfl rfl (by omega) (by omega) ?_)|refine nZ ?_));all_goals try (exfalso;omega)
            all_goals exact ⟨⟨n+1,hnl⟩,by dsimp only;omega,⟨[0,1,2,3,4,5],rfl,(by dsimp only;rw [hfo];(repeat (first | exact trivial | refine ⟨rfl,?_⟩))),⟨.inr rfl,.inr rfl,.inr (aC rfl rfl (eZ _)),.inr (aC rfl rfl (fF _ _)),.inr (aC rfl rfl (fG _)),.inr (aC rfl rfl (bJ _)),trivial⟩,by decide,jY _⟩⟩
      · obtain rfl:n=all.length:=by omega
        cases hfo:yY all i id all.length with
        | true=>
          rw [hfo,if_pos rfl] at ws;have e1:ints (oS all i (id+1))=ints (oS all i id)++[[.i (id:Int)]]:=by rw [ws,ints,bT];rfl
          have e2:(oS all i (id+1)).length=(oS all i id).length+1:=by rw [ws];simp
          have i1:=bJ (oS all i (id+1));rw [e1] at i1;generalize ints (oS all i id)=A at *
          (repeat' (first|refine wS ?_|refine wE ?_|refine wT ?_|(refine wC rfl ?_ ?_<;>(intro hb;(try simp only [nm] at hb);try (exfalso;omega)))|(refine rg 38 (dI rfl (qW T rfl (vV (aL rfl rfl) ?_))))|(refine rg 41 (mV ?_))|(refine rg 42 (dI rfl (cC (by exact bE T rfl rfl (by decide) (by decide) rfl rfl rfl) rfl ?_));refine fS T rfl rfl rfl rfl rfl rfl (by omega) (iK.whole rfl rfl) rfl (by simp;omega) (by simp;omega) rfl ?_;refine aV ?_)|(refine iA 35 rfl rfl rfl (by omega) (by omega) ?_)|refine nZ ?_));all_goals try (exfalso;omega)
          all_goals exact ⟨⟨id+1,hidl⟩,by dsimp only;omega,⟨[0,1,2,3,4,7],rfl,(by dsimp only;rw [e2];(repeat (first | exact trivial | refine ⟨rfl,?_⟩))),⟨.inr rfl,.inr rfl,.inr (aC rfl rfl (eZ _)),.inr (aC rfl rfl (fF _ _)),.inr (aC rfl rfl (fG _)),.inr (aC rfl (by dsimp only;rw [e1];exact jF (by omega)) (by dsimp only;rw [e1];exact i1)),trivial⟩,by decide,jY _⟩⟩
        | false=>
          rw [hfo,if_neg lQ,List.append_nil] at ws
          (repeat' (first|refine wS ?_|refine wK ?_|refine wE ?_|refine wU ?_|(refine wC rfl ?_ ?_<;>(intro hb;(try simp only [nm] at hb);try (exfalso;omega)))|(refine rg 38 (dI rfl (qW T rfl (vV (aL rfl rfl) ?_))))|(refine rg 41 (mV ?_))|(refine iA 35 rfl rfl rfl (by omega) (by omega) ?_)|refine nZ ?_));all_goals try (exfalso;omega)
          all_goals exact ⟨⟨id+1,hidl⟩,by dsimp only;omega,⟨[0,1,2,3,4,5],rfl,(by dsimp only;rw [ws];(repeat (first | exact trivial | refine ⟨rfl,?_⟩))),⟨.inr rfl,.inr rfl,.inr (aC rfl rfl (eZ _)),.inr (aC rfl rfl (fF _ _)),.inr (aC rfl rfl (fG _)),.inr (aC rfl (by dsimp only;rw [ws]) (bJ _)),trivial⟩,by decide,jY _⟩⟩
    · obtain rfl:id=c.bs.length:=by omega
      generalize oS all i c.bs.length=W at *;have hsa:=J1 W W (by omega)
      rw [decide_eq_true rfl] at hsa;have hWp:AV.plnL (ints W).flatten=true:=QJ W;have f1:(ints W).length=W.length:=cY W
      (repeat' (first|refine wS ?_|refine wK ?_|refine wE ?_|refine wU ?_|(refine wC rfl ?_ ?_<;>(intro hb;(try simp only [nm] at hb);try (exfalso;omega)))|(refine rg 34 (mW rfl (gI T rfl (qW T rfl (vV (aL rfl rfl) ?_)))))|(refine rg 43 (dI rfl (vV (by exact zE8 rfl rfl q2 (.cons (pS rfl rfl rfl rfl rfl rfl rfl rfl) (.cons (.v _) .nil)) f1.symm (SU _) (gV (bJ _))) ?_));refine mW rfl (vV (by exact fM rfl rfl hsa (.cons (.row _ _ _) (.cons (nP rfl f1.symm hWp) .nil)) rfl rfl) ?_);refine vV (eH rfl) ?_)|(refine iA 31 rfl rfl rfl (by omega) (by omega) ?_)|refine nZ ?_));all_goals try (exfalso;omega)
      all_goals exact ⟨⟨i+1,hil⟩,by dsimp only;omega,⟨[0,1,2,3,4],rfl,(by repeat first|exact trivial|refine ⟨rfl,?_⟩),⟨.inr rfl,.inr rfl,.inr (aC rfl rfl (eZ _)),.inr (aC rfl rfl (fF _ _)),.inr (aC rfl rfl (fG _)),trivial⟩,by decide,jY _⟩⟩
  · (repeat' (first|refine wS ?_|refine wR ?_|refine wE ?_|(refine wC rfl (fun hb=>?_) (fun hb=>?_) <;> (((try simp only [nm] at hb);try (exfalso;omega))))|(refine rg 30 (dI rfl (cC (by exact fN rfl rfl hsal (.inl ⟨.cons (pS rfl rfl rfl rfl rfl rfl rfl rfl) .nil,ZL _ _⟩)) rfl ?_));refine qW T rfl (vV (aL rfl rfl) ?_))|(refine rg 45 (mW rfl (aV ?_)))|(refine nZ ?_)));all_goals try (exfalso;omega)
    all_goals exact rQ
end Go.Proofs.YtmmmeebiobjnbaaGreat
namespace Go.Proofs.YtmmmeebiobjnbaaGreat
open Go Go.Ab Go.Ld
attribute [local irreducible] VC AW cD aT jE
set_option maxHeartbeats 4000000
end Go.Proofs.YtmmmeebiobjnbaaGreat
namespace Go.Ab
open Go
def BM (P:Program) (t:TypeId) (i o:Nat) (e:TypeId):Bool:=match P.underlying t with
  | some (.struct fs)=>(match fs[i]? with
    | some f=>f.offset == o&&P.cellsOf f.type == 1&&(match P.underlying f.type with
      | some (.slice e')=>e' == e
      | _=>false)
    | none=>false)
  | _=>false
theorem KG {S:Nat→Prop}{w:World}{ρ:Pl}{x:AV}:∀ {k:Nat}{us:List AV}{ys:List Value},RL S w us ρ ys→us[k]? = some x→∃ y,ys[k]? = some y∧R S w x ρ y
  | _,[],_,_,h=>by simp at h
  | 0,u::us,ys,hr,h=>by
    simp only [RL] at hr;obtain ⟨y,zs,h1,h2,h3⟩:=hr;obtain rfl:u=x:=by simpa using h
    first
      | (subst h1;exact ⟨y,rfl,h2⟩)
      | (subst h2;exact ⟨y,rfl,h1⟩)
      | (subst h3;exact ⟨y,rfl,h1⟩)
  | k+1,u::us,ys,hr,h=>by
    simp only [RL] at hr;obtain ⟨y,zs,h1,h2,h3⟩:=hr;have h':us[k]? = some x:=by simpa using h
    first
      | (subst h1;exact KG (k:=k) h3 h')
      | (subst h3;exact KG (k:=k) h2 h')
theorem QH {P:Program}{H:Type}{enc:TypeId × Value→H}{ts:List TypeId}{ds:List (DataW H)}{j:Nat}{t e:TypeId}{d:DataW H}{W:World}{v:Value}{p:List MemPlace}{S:Nat→Prop}{ρ:Pl}{us:List AV}{cs:List AV}{len sz i o:Nat}
    (hw:(DataW.weightsEach P ts ds).all (·≤reachBytes)=true) (hts:ts[j]? = some t) (hds:ds[j]? = some d) (hf:BM P t i o e=true) (hv:DataW.Trod enc P W 0 (fun _=>true) true t v d p) (hr:R S W (.agg us) ρ v) (hu:us[o]? = some (.row cs len sz)):len*P.bytesOf e≤140737488351232:=by
  simp only [R] at hr;obtain ⟨ys,rfl,hl⟩:=hr;obtain ⟨y,hy,hry⟩:=KG hl hu;simp only [R] at hry;obtain ⟨a,cap,rfl,_⟩:=hry;unfold BM at hf;split at hf
  · rename_i fs ht;split at hf
    · rename_i f hfi;simp only [aN,beq_iff_eq] at hf;obtain ⟨⟨h1,h2⟩,h3⟩:=hf;split at h3
      · rename_i e' hs;have h3:e'=e:=by simpa using h3
        subst h3;obtain ⟨fuel,hft⟩:=hv;have hc:(Value.agg ys).cells.toList=ys.toList:=rfl;rw [hc] at hft;obtain ⟨xs,n,rfl,hx,_,hxl,hx2⟩:=DataW.trod_struct ht hft;have hx3:=hx2 i f hfi
        rw [h1,h2,show (ys.toList.drop o).take 1=[.slice a len cap] by
          rw [List.take_one,List.head?_drop,hy];rfl] at hx3
        have hil:i<xs.length:=by rw [hxl];exact (aR.1 hfi).1
        rw [aA hil] at hx3;simp only [Prod.mk.injEq] at hx;rcases DataW.trod_slice hs hx3 with ⟨q1,_⟩ | ⟨a',len',cap',elems,rest,n',_,q2,q3,_,_,_,q4,_⟩
        · simp only [List.cons.injEq,Value.slice.injEq] at q1;rw [q1.1.2.1];simp
        · simp only [List.cons.injEq,Value.slice.injEq] at q2;rw [q2.1.2.1];have hmem:(elems.length+rest.length)*P.bytesOf e'∈d.weights P t:=by
            rw [hx.1];unfold DataW.weights;rw [ht];refine DataW.weights_mem_each (j:=i) (t:=f.type) (d:=xs[i].1) ?_ ?_ _ ?_
            · rw [bY,kB,hfi];rfl
            · rw [bY,aA hil];rfl
            · rw [q3];simp only [DataW.weights,hs,aX];exact aQ
          have h5:=bK.1 hw _ (DataW.weights_mem_each hts hds _ hmem);have hrb:reachBytes=140737488351232:=by decide
          simp only [decide_eq_true_eq,hrb,eM] at h5;rw [← q4];omega
      · cases h3
    · cases hf
  · cases hf
end Go.Ab
namespace Go.Proofs.YtmmmeebiobjnbaaGreat
open Go Go.Ab Go.Ld
attribute [local irreducible] VC AW cD aT
def Z4 (n:Int):Prop:=(Lit.int .i64 n).wf=true
theorem qY:iD Tryz.prog 3 Z4 (fun n=>[AV.i n]):=iD.int Tryz.underlying3 (by kernel_rfl)
theorem zB1:iD Tryz.prog 4 (fun _=>True) (fun b=>[AV.b b]):=iD.bool Tryz.underlying4 (by kernel_rfl)
theorem zA8:iD Tryz.prog 9 (fun s=>s.size≤maxLen) (fun s=>[.v (.string s)]):=iD.string Tryz.underlying9 (by kernel_rfl)
theorem zB0:iD Tryz.prog 24 (fun l:List Int=>l.length≤maxLen∧∀ a,a∈l→Z4 a) (fun l=>[.rowE (ints l) 1]):=
  iD.slice Tryz.underlying24 (by kernel_rfl) (by kernel_rfl) (by decide) qY
theorem yB8:iD Tryz.prog 96 (fun p:KD=>p.1.size≤maxLen∧Z4 p.2) (fun p=>[AV.v (.string p.1),AV.i p.2]):=
  iD.struct (fs:=[(9,0),(3,1)]) (by kernel_rfl) (by kernel_rfl)
    (fun e W fuel css hl hx=>by
      obtain ⟨a,h1,h2,h3⟩:=gO.cons zA8 (gO.cons qY gO.nil) e W fuel css hl hx
      exact ⟨(a.1,a.2.1),⟨h1.1,h1.2.1⟩,by simpa using h2,by simpa using h3⟩)
    (fun _=>by kernel_rfl)
theorem yJ0:iD Tryz.prog 79 (fun p:LT=>Z4 p.1∧Z4 p.2.1) (fun p=>[AV.i p.1,AV.i p.2.1,AV.b p.2.2]):=
  iD.struct (fs:=[(3,0),(3,1),(4,2)]) (by kernel_rfl) (by kernel_rfl)
    (fun e W fuel css hl hx=>by
      obtain ⟨a,h1,h2,h3⟩:=gO.cons qY (gO.cons qY (gO.cons zB1 gO.nil)) e W fuel css hl hx
      exact ⟨(a.1,a.2.1,a.2.2.1),⟨h1.1,h1.2.1⟩,by simpa using h2,by simpa using h3⟩)
    (fun _=>by kernel_rfl)
theorem yJ1:iD Tryz.prog 61 (fun p:BX=>Z4 p.1∧Z4 p.2.1∧Z4 p.2.2) (fun p=>[AV.i p.1,AV.i p.2.1,AV.i p.2.2]):=
  iD.struct (fs:=[(3,0),(3,1),(3,2)]) (by kernel_rfl) (by kernel_rfl)
    (fun e W fuel css hl hx=>by
      obtain ⟨a,h1,h2,h3⟩:=gO.cons qY (gO.cons qY (gO.cons qY gO.nil)) e W fuel css hl hx
      exact ⟨(a.1,a.2.1,a.2.2.1),⟨h1.1,h1.2.1,h1.2.2.1⟩,by simpa using h2,by simpa using h3⟩)
    (fun _=>by kernel_rfl)
theorem zQ5:iD Tryz.prog 22 (fun l:List KD=>l.length≤maxLen∧∀ a,a∈l→a.1.size≤maxLen∧Z4 a.2) (fun l=>[.rowE (gE l) 2]):=
  iD.slice Tryz.underlying22 (by kernel_rfl) (by kernel_rfl) (by decide) yB8
theorem yB7:iD Tryz.prog 23 (fun l:List LT=>l.length≤maxLen∧∀ a,a∈l→Z4 a.1∧Z4 a.2.1) (fun l=>[.rowE (iI l) 3]):=
  iD.slice Tryz.underlying23 (by kernel_rfl) (by kernel_rfl) (by decide) yJ0
theorem zQ7:iD Tryz.prog 25 (fun l:List BX=>l.length≤maxLen∧∀ a,a∈l→Z4 a.1∧Z4 a.2.1∧Z4 a.2.2) (fun l=>[.rowE (cW l) 3]):=
  iD.slice Tryz.underlying25 (by kernel_rfl) (by kernel_rfl) (by decide) yJ1
theorem zQ3:iD Tryz.prog 27 (fun _:List KD × List LT × List Int × List BX=>True) (fun x=>[.rowE (gE x.1) 2,.rowE (iI x.2.1) 3,.rowE (ints x.2.2.1) 1,.rowE (cW x.2.2.2) 3]):=
  iD.struct (fs:=[(22,0),(23,1),(24,2),(25,3)]) (by kernel_rfl) (by kernel_rfl)
    (fun e W fuel css hl hx=>by
      obtain ⟨a,h1,h2,h3⟩:=gO.cons zQ5 (gO.cons yB7 (gO.cons zB0 (gO.cons zQ7 gO.nil))) e W fuel css hl hx
      exact ⟨(a.1,a.2.1,a.2.2.1,a.2.2.2.1),trivial,by simpa using h2,by simpa using h3⟩)
    (fun _=>by kernel_rfl)
theorem zA9:iD Tryz.prog 29 (fun p:Int × Int × Int × Int=>Z4 p.1∧Z4 p.2.1∧Z4 p.2.2.1∧Z4 p.2.2.2) (fun p=>[AV.i p.1,AV.i p.2.1,AV.i p.2.2.1,AV.i p.2.2.2]):=
  iD.struct (fs:=[(3,0),(3,1),(3,2),(3,3)]) (by kernel_rfl) (by kernel_rfl)
    (fun e W fuel css hl hx=>by
      obtain ⟨a,h1,h2,h3⟩:=gO.cons qY (gO.cons qY (gO.cons qY (gO.cons qY gO.nil))) e W fuel css hl hx
      exact ⟨(a.1,a.2.1,a.2.2.1,a.2.2.2.1),⟨h1.1,h1.2.1,h1.2.2.1,h1.2.2.2.1⟩,by simpa using h2,by simpa using h3⟩)
    (fun _=>by kernel_rfl)
theorem zQ4:iD Tryz.prog 47 (fun p:Int × Int × Int × Int × List Int=>p.2.2.2.2.length≤maxLen) (fun p=>[AV.i p.1,AV.i p.2.1,AV.i p.2.2.1,AV.i p.2.2.2.1,.rowE (ints p.2.2.2.2) 1]):=
  iD.struct (fs:=[(3,0),(3,1),(3,2),(3,3),(24,4)]) (by kernel_rfl) (by kernel_rfl)
    (fun e W fuel css hl hx=>by
      obtain ⟨a,h1,h2,h3⟩:=gO.cons qY (gO.cons qY (gO.cons qY (gO.cons qY (gO.cons zB0 gO.nil)))) e W fuel css hl hx
      exact ⟨(a.1,a.2.1,a.2.2.1,a.2.2.2.1,a.2.2.2.2.1),h1.2.2.2.2.1.1,by simpa using h2,by simpa using h3⟩)
    (fun _=>by kernel_rfl)
abbrev yS0 (x:List KD × List LT × List Int × List BX) (c:Int × Int × Int × Int):Cx:=⟨c.1,c.2.1,c.2.2.1,c.2.2.2,x.1,x.2.1,x.2.2.2⟩
end Go.Proofs.YtmmmeebiobjnbaaGreat
namespace Go.Proofs.YtmmmeebiobjnbaaGreat
open Go Go.Ab Go.Ld
attribute [local irreducible] VC AW cD aT jE zU
abbrev yH2:=Bool × (Int × Int × Int × Int × List Int) × (Int × Int × Int × Int)
theorem yB6:iD Tryz.prog 49 (fun _:Int × Int × Int × Int=>True) (fun p=>[AV.i p.1,AV.i p.2.1,AV.i p.2.2.1,AV.i p.2.2.2]):=
  iD.struct (fs:=[(3,0),(3,1),(3,2),(3,3)]) (by kernel_rfl) (by kernel_rfl)
    (fun e W fuel css hl hx=>by
      obtain ⟨a,h1,h2,h3⟩:=gO.cons qY (gO.cons qY (gO.cons qY (gO.cons qY gO.nil))) e W fuel css hl hx
      exact ⟨(a.1,a.2.1,a.2.2.1,a.2.2.2.1),trivial,by simpa using h2,by simpa using h3⟩)
    (fun _=>by kernel_rfl)
theorem zQ6:iD Tryz.prog 51 (fun p:yH2=>p.2.1.2.2.2.2.length≤maxLen) (fun p=>[AV.b p.1,AV.i p.2.1.1,AV.i p.2.1.2.1,AV.i p.2.1.2.2.1,AV.i p.2.1.2.2.2.1,.rowE (ints p.2.1.2.2.2.2) 1,AV.i p.2.2.1,AV.i p.2.2.2.1,AV.i p.2.2.2.2.1,AV.i p.2.2.2.2.2]):=
  iD.struct (fs:=[(4,0),(47,1),(49,6)]) (by kernel_rfl) (by kernel_rfl)
    (fun e W fuel css hl hx=>by
      obtain ⟨a,h1,h2,h3⟩:=gO.cons zB1 (gO.cons zQ4 (gO.cons yB6 gO.nil)) e W fuel css hl hx
      exact ⟨(a.1,a.2.1,a.2.2.1),h1.2.1,by simpa using h2,by simpa using h3⟩)
    (fun _=>by kernel_rfl)
theorem VW:iD Tryz.prog 30 (fun l:List yH2=>l.length≤maxLen∧∀ p,p∈l→p.2.1.2.2.2.2.length≤maxLen) (fun l=>[.rowE (l.map fun p=>[AV.b p.1,AV.i p.2.1.1,AV.i p.2.1.2.1,AV.i p.2.1.2.2.1,AV.i p.2.1.2.2.2.1,.rowE (ints p.2.1.2.2.2.2) 1,AV.i p.2.2.1,AV.i p.2.2.2.1,AV.i p.2.2.2.2.1,AV.i p.2.2.2.2.2]) 10]):=
  iD.slice Tryz.underlying30 (by kernel_rfl) (by kernel_rfl) (by decide) zQ6
abbrev yO4 (p:yH2):En:=⟨p.1,⟨p.2.1.1,p.2.1.2.1,p.2.1.2.2.1,p.2.1.2.2.2.1,p.2.1.2.2.2.2⟩,⟨p.2.2.1,p.2.2.2.1,p.2.2.2.2.1,p.2.2.2.2.2⟩⟩
theorem yE6 (l:List yH2):(l.map fun p=>[AV.b p.1,AV.i p.2.1.1,AV.i p.2.1.2.1,AV.i p.2.1.2.2.1,AV.i p.2.1.2.2.2.1,.rowE (ints p.2.1.2.2.2.2) 1,AV.i p.2.2.1,AV.i p.2.2.2.1,AV.i p.2.2.2.2.1,AV.i p.2.2.2.2.2])=A4 (l.map yO4):=by
  unfold A4;rw [ES];rfl
theorem zU8 {l:List yH2}(h:∀ p,p∈l→p.2.1.2.2.2.2.length≤maxLen):∀ e,e∈l.map yO4→e.s.ids.length≤9223372036854775807:=by
  intro s hs;obtain ⟨p,hp,rfl⟩:=bA.1 hs;exact bG (h p hp) (by decide)
theorem yA3 (x:List KD × List LT × List Int × List BX) (_:True) (hx:x.2.2.2.length*24≤140737488351232) (c:Int × Int × Int × Int) (_:Z4 c.1∧Z4 c.2.1∧Z4 c.2.2.1∧Z4 c.2.2.2) (l:List yH2) (hl:l.length≤maxLen∧∀ p,p∈l→p.2.1.2.2.2.2.length≤maxLen) :
    aT Tryz.prog 5 [wF x.1 x.2.1 x.2.2.1 x.2.2.2,iH c.1 c.2.1 c.2.2.1 c.2.2.2,.rowE (l.map fun p=>[AV.b p.1,AV.i p.2.1.1,AV.i p.2.1.2.1,AV.i p.2.1.2.2.1,AV.i p.2.1.2.2.2.1,.rowE (ints p.2.1.2.2.2.2) 1,AV.i p.2.2.1,AV.i p.2.2.2.1,AV.i p.2.2.2.2.1,AV.i p.2.2.2.2.2]) 10] [] (.b true) []:=by
  rw [yE6];have hids:=zU8 hl.2;generalize l.map yO4=l at *;rcases zU1 3 (by omega) x.1 x.2.1 (Go.Ab.nats (List.range x.2.2.2.length)) x.2.2.2 c.1 c.2.1 c.2.2.1 c.2.2.2 with hf | ⟨hf,f,hs,t,h6⟩
  · exact zG2 _ _ _ _ _ _ _ _ l false (by omega) hids hf (.inr (.inr rfl))
  · cases h:NO l 6 2 with
    | false=>exact zG2 _ _ _ _ _ _ _ _ l true (by omega) hids hf (.inr (.inl h))
    | true=>
      by_cases hd:3<x.2.2.2.length
      · exact zG2 _ _ _ _ _ _ _ _ l true (by omega) hids hf (.inl hd)
      · exact yE5 (yS0 x c) ⟨f,hs⟩ _ l hf hids h (by show x.2.2.2.length≤3;omega)
end Go.Proofs.YtmmmeebiobjnbaaGreat
