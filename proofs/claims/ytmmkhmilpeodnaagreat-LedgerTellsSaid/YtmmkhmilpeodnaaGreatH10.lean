/-
  Texts of the logic and of the layer,in one module (part 10).
-/
import Derived.Test.YtmmkhmilpeodnaaGreatH9
set_option linter.unusedVariables false
set_option linter.unusedSimpArgs false
set_option linter.unnecessarySimpa false
namespace Go.Ld
open Go.Ab Go.Proofs.YtmmkhmilpeodnaaGreat
theorem yE6 {c:Cx}(h1:0<c.bs.length) (h8:c.bs.length≤5) (hk:c.ks.length≤10) (hl:c.ls.length≤10) (hs:qO c=false) (ht:ID c.ks c.ls c.bs=true):qN c:=by
  have t:=X4.1 ht;refine ⟨⟨by simp;omega,by simp;omega,by simp,hk,hl,t.k,t.l,fun i h=>?_,t.b⟩,O9.1 hs⟩
  simp at h ⊢;omega
theorem WI {l:List Ev}{k:Nat}(h:k<l.length):NA (l.take (k+1))=NA (l.take k)+(if l[k].k=4 then 1 else 0):=by
  rw [aP h];unfold NA;rw [VJ];simp [CT]
theorem zO8 {l:List Ev}{m:Nat}(h:F1 l m=true):l.length≤m∧(∀ s,s∈l→s.ids.length≤12)∧∀ k,NA (l.take k)≤5:=by
  unfold F1 at h;simp only [aN,decide_eq_true_eq,bF] at h;obtain ⟨⟨h1,h2⟩,h3⟩:=h;have e:l.take (m+1)=l:=bV (by omega)
  rw [e] at h1 h3;exact ⟨h2,h1,fun k=>bP (List.Sublist.countP_le (List.take_sublist k l)) h3⟩
end Go.Ld
namespace Go.Proofs.YtmmkhmilpeodnaaGreat
open Go Go.Ab Go.Ld
def PK (P:Program) (t e:TypeId):Prop:=P.underlying t=some (.pointer e)
theorem P8:PK Tryz.prog 33 81:=by unfold PK;kernel_rfl
theorem AM:PK Tryz.prog 37 89:=by unfold PK;kernel_rfl
theorem M6:FN Tryz.prog 4:=by unfold FN;kernel_rfl
section
variable {P:Program}{env:eH}{h:Hp}{d:Option Nat}{ty:TypeId}{pos:String}{af:Array Edge}{g:Option (Nat × Bool)}{t t2 te:TypeId}{x y:Operand}{u z:AV}
theorem A5 (ht:PK P t te) (hx:evu env x=some u) (hz:u.plus 0=some z) (hy:evu env y=some (.v (.pointer none))):bX P ⟨d,.binOp .eql t x y t2,ty,pos,af,g⟩ env h 0 (fun _=>.b false) (fun _=>[]):=BJ ht hx hz hy
theorem OK (ht:PK P t te) (hx:evu env x=some (.v (.pointer none))) (hy:evu env y=some (.v (.pointer none))):bX P ⟨d,.binOp .eql t x y t2,ty,pos,af,g⟩ env h 0 (fun _=>.b true) (fun _=>[]):=OJ ht hx hy
end
attribute [local irreducible] VC AW bX aT jU jB FN PK
set_option maxHeartbeats 4000000
theorem SU (c:Cx) (ps:List Int) (l:List Ev) (b lot:Int) (p q:List Int)
    (hids:∀ s,s∈l→s.ids.length≤9223372036854775807) (hx:F1 l 10=false∨5<c.bs.length∨10<c.ks.length∨10<c.ls.length∨8<p.length∨8<q.length) :
    aT Tryz.prog 3 [AE c.ks c.ls ps c.bs,C9 c.m c.st c.er c.sl,.rowE (L8 l) 5,.i b,.i lot,.rowE (ints p) 1,.rowE (ints q) 1] [] (.b true) []:=by
  have hkl:(fQ c.ks).length=c.ks.length:=aF _;have hll:(iS c.ls).length=c.ls.length:=aF _;have hbl:(eB c.bs).length=c.bs.length:=aF _;have hsm:=C8;have hfe:=HC l 10 (by omega) hids
  have hpl:(ints p).length=p.length:=ints_length _;have hql:(ints q).length=q.length:=ints_length _;generalize F1 l 10=fe at *;cases fe
  all_goals
    first | (have hx:=hx.resolve_left (by decide)) | skip
    refine bK T Tryz.func3 rfl rfl rfl rfl ?_
    (repeat' (first|refine wS ?_|(refine rg 0 (bN (cC rfl rfl) rfl (bN (cC rfl rfl) rfl (aV ?_))))|(refine rg 1 (vV (kC (hsm)) (aV ?_)))|refine nZ ?_));refine dU 7 (cs:=[.rowE (fQ c.ks) 2,.rowE (iS c.ls) 3,.rowE (ints ps) 1,.rowE (eB c.bs) 3]) rfl rfl rfl ?_
    refine dU 8 (cs:=[.i c.m,.i c.st,.i c.er,.i c.sl]) rfl rfl rfl ?_
    (repeat' (first|refine wS ?_|refine wR ?_|refine wT ?_|(refine wC rfl ?_ ?_<;>(intro hb;(try simp only [nm] at hb);try (exfalso;omega)))|(refine rg 2 (gB T rfl (qW T rfl (vV (eE rfl rfl) (mV ?_))));refine bC rfl rfl ?_ ?_<;>(intro hb;rw [hb];(try simp only [nm] at hb);try (exfalso;omega));(all_goals first|(refine gT (fW T rfl (gT (lW T rfl (gT (qW T rfl (gT (vV (eE rfl rfl) ?_))))))))|(iterate 4 refine gF ?_));(all_goals (refine pW rfl (mV ?_)));(all_goals first|(refine gK ?_)|(refine bC rfl rfl ?_ ?_<;>(intro hb;rw [hb];(try simp only [nm] at hb);try (exfalso;omega))));(all_goals first|(refine gT (fW T rfl (gT (lW T rfl (gT (qW T rfl (gT (vV (eE rfl rfl) ?_))))))))|(iterate 4 refine gF ?_));(all_goals (refine pW rfl (mV ?_)));(all_goals first|(refine gK ?_)|(refine bC rfl rfl ?_ ?_<;>(intro hb;rw [hb];(try simp only [nm] at hb);try (exfalso;omega))));(all_goals first|(refine gT (mW rfl (gT (vV (kC (hfe)) (gT (vV (cY rfl) ?_))))))|(iterate 3 refine gF ?_));(all_goals (refine pW rfl (mV ?_)));(all_goals first|(refine gT (mW rfl (gT (qW T rfl (gT (vV (eE rfl rfl) ?_))))))|(iterate 3 refine gF ?_));(all_goals (refine pW rfl (mV ?_)));(all_goals first|(refine gK ?_)|(refine bC rfl rfl ?_ ?_<;>(intro hb;rw [hb];(try simp only [nm] at hb);try (exfalso;omega))));(all_goals first|(refine gT (mW rfl (gT (qW T rfl (gT (vV (eE rfl rfl) ?_))))))|(iterate 3 refine gF ?_));(all_goals (refine pV ?_)))|(refine rg 3 (mW rfl (aV ?_)))|refine nZ ?_));all_goals try (exfalso;omega)
    all_goals exact rQ
theorem ST (c:Cx) (ps:List Int) (l:List Ev) (b lot:Int) (p q:List Int)
    (hids:∀ s,s∈l→s.ids.length≤9223372036854775807) (hx:F1 l 10=true) (h1:c.bs.length≤5) (h2:c.ks.length≤10) (h3:c.ls.length≤10) (h4:p.length≤8) (h5:q.length≤8)
    (hno:(!qO c&&ID c.ks c.ls c.bs)=false) :
    aT Tryz.prog 3 [AE c.ks c.ls ps c.bs,C9 c.m c.st c.er c.sl,.rowE (L8 l) 5,.i b,.i lot,.rowE (ints p) 1,.rowE (ints q) 1] [] (.b true) []:=by
  have hkl:(fQ c.ks).length=c.ks.length:=aF _;have hll:(iS c.ls).length=c.ls.length:=aF _;have hbl:(eB c.bs).length=c.bs.length:=aF _;have hsm:=C8;have hfe:=HC l 10 (by omega) hids
  rw [hx] at hfe;have hpl:(ints p).length=p.length:=ints_length _;have hql:(ints q).length=q.length:=ints_length _;have n1:=zW2 c (by omega) (by omega) (by omega) hno
  have n2:=zJ2 c (by omega) (by omega) (by omega) hno
  refine bK T Tryz.func3 rfl rfl rfl rfl ?_
  (repeat' (first|refine wS ?_|(refine rg 0 (bN (cC rfl rfl) rfl (bN (cC rfl rfl) rfl (aV ?_))))|(refine rg 1 (vV (kC (hsm)) (aV ?_)))|refine nZ ?_));refine dU 7 (cs:=[.rowE (fQ c.ks) 2,.rowE (iS c.ls) 3,.rowE (ints ps) 1,.rowE (eB c.bs) 3]) rfl rfl rfl ?_
  refine dU 8 (cs:=[.i c.m,.i c.st,.i c.er,.i c.sl]) rfl rfl rfl ?_
  (repeat' (first|refine wS ?_|refine wK ?_|(refine wC rfl ?_ ?_<;>(intro hb;(try simp only [nm] at hb);try (exfalso;omega)))|(refine rg 2 (gB T rfl (qW T rfl (vV (eE rfl rfl) (mV ?_))));refine bC rfl rfl ?_ ?_<;>(intro hb;rw [hb];(try simp only [nm] at hb);try (exfalso;omega));(all_goals (refine yP T rfl (yO T rfl (gT (qW T rfl (yV (eE rfl rfl) (pW rfl (mV ?_))))));refine bC rfl rfl ?_ ?_<;>(intro hb;rw [hb];(try simp only [nm] at hb);try (exfalso;omega))));(all_goals (refine yP T rfl (yO T rfl (gT (qW T rfl (yV (eE rfl rfl) (pW rfl (mV ?_))))));refine bC rfl rfl ?_ ?_<;>(intro hb;rw [hb];(try simp only [nm] at hb);try (exfalso;omega))));(all_goals (refine yN rfl (yV (kC (hfe)) (yV (cY rfl) (pW rfl (mW rfl (yN rfl (gT (qW T rfl (yV (eE rfl rfl) (pV ?_)))))))));refine mV ?_;refine bC rfl rfl ?_ ?_<;>(intro hb;rw [hb];(try simp only [nm] at hb);try (exfalso;omega))));(all_goals (refine yN rfl (gT (qW T rfl (yV (eE rfl rfl) (pV ?_)))))))|refine nZ ?_));all_goals try (exfalso;omega)
  (repeat' (first|refine wS ?_|refine wK ?_|refine wR ?_|refine wT ?_|refine wU ?_|(refine rg 4 (lW T rfl (gB T rfl (gB T rfl (gB T rfl (vV (kC (n1)) (mW rfl (xW rfl (xW rfl (oM ?_))))))))))|(refine rg 5 (lW T rfl (gB T rfl (gB T rfl (gB T rfl (vV (kC (n2)) (mW rfl (xW rfl (xW rfl (oM ?_))))))))))|(refine rg 6 (dK rfl (vV (kZ rfl rfl rfl) (mW rfl (yN rfl (yV (by exact OK P8 rfl rfl) ?_)))));refine yN rfl (yV (by exact OK AM rfl rfl) ?_);refine yV (A6 M6 rfl rfl) (pV ?_))|(refine rg 8 (mW rfl (vV (by exact OK P8 rfl rfl) ?_));refine mV ?_;(iterate 2 refine gF ?_);refine pW rfl (mV ?_);(iterate 4 refine gF ?_);refine pV ?_)|(refine rg 9 (mW rfl (aV ?_)))|refine nZ ?_));all_goals try (exfalso;omega)
  all_goals exact rQ
theorem zI0 (c:Cx) (ps:List Int) (l:List Ev) (b lot:Int) (p q:List Int)
    (hids:∀ s,s∈l→s.ids.length≤9223372036854775807) (hx:F1 l 10=true) (h1:c.bs=[]) (h2:c.ks.length≤10) (h3:c.ls.length≤10) (h4:p.length≤8) (h5:q.length≤8)
    (hs:qO c=false) (ht:ID c.ks c.ls c.bs=true) :
    aT Tryz.prog 3 [AE c.ks c.ls ps c.bs,C9 c.m c.st c.er c.sl,.rowE (L8 l) 5,.i b,.i lot,.rowE (ints p) 1,.rowE (ints q) 1] [] (.b true) []:=by
  have hkl:(fQ c.ks).length=c.ks.length:=aF _;have hll:(iS c.ls).length=c.ls.length:=aF _;have hbl:(eB c.bs).length=0:=by rw [h1];rfl
  have hsm:=C8;have hfe:=HC l 10 (by omega) hids
  rw [hx] at hfe;have hpl:(ints p).length=p.length:=ints_length _;have hql:(ints q).length=q.length:=ints_length _;have n1:=zW3 c (by omega) (by omega) h1 hs ht
  have n2:=XC c (by omega) (by omega) (by rw [h1];decide) hs ht
  refine bK T Tryz.func3 rfl rfl rfl rfl ?_
  (repeat' (first|refine wS ?_|(refine rg 0 (bN (cC rfl rfl) rfl (bN (cC rfl rfl) rfl (aV ?_))))|(refine rg 1 (vV (kC (hsm)) (aV ?_)))|refine nZ ?_));refine dU 7 (cs:=[.rowE (fQ c.ks) 2,.rowE (iS c.ls) 3,.rowE (ints ps) 1,.rowE (eB c.bs) 3]) rfl rfl rfl ?_
  refine dU 8 (cs:=[.i c.m,.i c.st,.i c.er,.i c.sl]) rfl rfl rfl ?_
  (repeat' (first|refine wS ?_|refine wK ?_|(refine wC rfl ?_ ?_<;>(intro hb;(try simp only [nm] at hb);try (exfalso;omega)))|(refine rg 2 (gB T rfl (qW T rfl (vV (eE rfl rfl) (mV ?_))));refine bC rfl rfl ?_ ?_<;>(intro hb;rw [hb];(try simp only [nm] at hb);try (exfalso;omega));(all_goals (refine yP T rfl (yO T rfl (gT (qW T rfl (yV (eE rfl rfl) (pW rfl (mV ?_))))));refine bC rfl rfl ?_ ?_<;>(intro hb;rw [hb];(try simp only [nm] at hb);try (exfalso;omega))));(all_goals (refine yP T rfl (yO T rfl (gT (qW T rfl (yV (eE rfl rfl) (pW rfl (mV ?_))))));refine bC rfl rfl ?_ ?_<;>(intro hb;rw [hb];(try simp only [nm] at hb);try (exfalso;omega))));(all_goals (refine yN rfl (yV (kC (hfe)) (yV (cY rfl) (pW rfl (mW rfl (yN rfl (gT (qW T rfl (yV (eE rfl rfl) (pV ?_)))))))));refine mV ?_;refine bC rfl rfl ?_ ?_<;>(intro hb;rw [hb];(try simp only [nm] at hb);try (exfalso;omega))));(all_goals (refine yN rfl (gT (qW T rfl (yV (eE rfl rfl) (pV ?_)))))))|refine nZ ?_));all_goals try (exfalso;omega)
  (repeat' (first|refine wS ?_|refine wK ?_|refine wR ?_|refine wT ?_|refine wU ?_|(refine rg 4 (lW T rfl (gB T rfl (gB T rfl (gB T rfl (bN (by exact fX rfl rfl n1 (.inr ⟨rfl,rfl,by simp⟩)) rfl ?_)))));refine mW rfl (xW rfl (xW rfl (oM ?_))))|(refine rg 5 (lW T rfl (gB T rfl (gB T rfl (gB T rfl (bN (by exact fX rfl rfl n2 (.inr ⟨rfl,rfl,by simp⟩)) rfl ?_)))));refine mW rfl (xW rfl (xW rfl (oM ?_))))|(refine rg 6 (dK rfl (vV (kZ rfl rfl rfl) (mW rfl (yN rfl (yV (by exact A5 P8 rfl rfl rfl) ?_)))));refine yN rfl (yV (by exact A5 AM rfl rfl rfl) ?_);refine yV (A6 M6 rfl rfl) (pV ?_))|(refine rg 8 (mW rfl (vV (by exact A5 P8 rfl rfl rfl) ?_));refine mW rfl (yN rfl (yV (by exact A5 AM rfl rfl rfl) ?_));refine pW rfl (mW rfl (yP T rfl (yO T rfl (gT (qW T rfl (yV (gX rfl rfl (by omega)) (pV ?_))))))))|(refine rg 9 (mW rfl (aV ?_)))|refine nZ ?_));all_goals try (exfalso;omega)
  all_goals exact rQ
theorem SS (c:Cx) (ps:List Int) (l:List Ev) (b lot:Int) (p q:List Int)
    (hids:∀ s,s∈l→s.ids.length≤9223372036854775807) (hx:F1 l 10=true) (hn0:0<c.bs.length) (h1:c.bs.length≤5) (h2:c.ks.length≤10) (h3:c.ls.length≤10) (h4:p.length≤8) (h5:q.length≤8)
    (hs:qO c=false) (ht:ID c.ks c.ls c.bs=true) :
    aT Tryz.prog 3 [AE c.ks c.ls ps c.bs,C9 c.m c.st c.er c.sl,.rowE (L8 l) 5,.i b,.i lot,.rowE (ints p) 1,.rowE (ints q) 1] [] (.b true) []:=by
  have hc:=yE6 hn0 h1 h2 h3 hs ht;have hkl:(fQ c.ks).length=c.ks.length:=aF _;have hll:(iS c.ls).length=c.ls.length:=aF _;have hbl:(eB c.bs).length=c.bs.length:=aF _;have hsm:=C8;have hfe:=HC l 10 (by omega) hids
  obtain ⟨hl10,hids2,hsw⟩:=zO8 hx;rw [hx] at hfe;have hpl:(ints p).length=p.length:=ints_length _;have hql:(ints q).length=q.length:=ints_length _;have hel:(L8 l).length=l.length:=aF _;have n1:=ZC c hc;have n2:=XC c (by omega) (by omega) (by omega) hs ht
  have hT0:B8 c (NA (l.take 0)) (qL c) [VU c]:=B8.new hc (by omega)
  refine bK T Tryz.func3 rfl rfl rfl rfl ?_
  (repeat' (first|refine wS ?_|(refine rg 0 (bN (cC rfl rfl) rfl (bN (cC rfl rfl) rfl (aV ?_))))|(refine rg 1 (vV (kC (hsm)) (aV ?_)))|refine nZ ?_));refine dU 7 (cs:=[.rowE (fQ c.ks) 2,.rowE (iS c.ls) 3,.rowE (ints ps) 1,.rowE (eB c.bs) 3]) rfl rfl rfl ?_
  refine dU 8 (cs:=[.i c.m,.i c.st,.i c.er,.i c.sl]) rfl rfl rfl ?_
  (repeat' (first|refine wS ?_|refine wK ?_|(refine wC rfl ?_ ?_<;>(intro hb;(try simp only [nm] at hb);try (exfalso;omega)))|(refine rg 2 (gB T rfl (qW T rfl (vV (eE rfl rfl) (mV ?_))));refine bC rfl rfl ?_ ?_<;>(intro hb;rw [hb];(try simp only [nm] at hb);try (exfalso;omega));(all_goals (refine yP T rfl (yO T rfl (gT (qW T rfl (yV (eE rfl rfl) (pW rfl (mV ?_))))));refine bC rfl rfl ?_ ?_<;>(intro hb;rw [hb];(try simp only [nm] at hb);try (exfalso;omega))));(all_goals (refine yP T rfl (yO T rfl (gT (qW T rfl (yV (eE rfl rfl) (pW rfl (mV ?_))))));refine bC rfl rfl ?_ ?_<;>(intro hb;rw [hb];(try simp only [nm] at hb);try (exfalso;omega))));(all_goals (refine yN rfl (yV (kC (hfe)) (yV (cY rfl) (pW rfl (mW rfl (yN rfl (gT (qW T rfl (yV (eE rfl rfl) (pV ?_)))))))));refine mV ?_;refine bC rfl rfl ?_ ?_<;>(intro hb;rw [hb];(try simp only [nm] at hb);try (exfalso;omega))));(all_goals (refine yN rfl (gT (qW T rfl (yV (eE rfl rfl) (pV ?_)))))))|refine nZ ?_));all_goals try (exfalso;omega)
  (repeat' (first|refine wS ?_|refine wB ?_|refine wK ?_|refine wU ?_|(refine rg 4 (lW T rfl (gB T rfl (gB T rfl (gB T rfl (bN (by exact fX rfl rfl n1 (.inr ⟨rfl,rfl,by simp⟩)) rfl ?_)))));refine mW rfl (xW rfl (xW rfl (oM ?_))))|(refine rg 5 (lW T rfl (gB T rfl (gB T rfl (gB T rfl (bN (by exact fX rfl rfl n2 (.inr ⟨rfl,rfl,by simp⟩)) rfl ?_)))));refine mW rfl (xW rfl (xW rfl (oM ?_))))|(refine rg 6 (dK rfl (vV (kZ rfl rfl rfl) (mW rfl (yN rfl (yV (by exact A5 P8 rfl rfl rfl) ?_)))));refine yN rfl (yV (by exact A5 AM rfl rfl rfl) ?_);refine yV (A6 M6 rfl rfl) (pV ?_))|(refine rg 8 (mW rfl (vV (by exact A5 P8 rfl rfl rfl) ?_));refine mW rfl (yN rfl (yV (by exact A5 AM rfl rfl rfl) ?_));refine pW rfl (mW rfl (yP T rfl (yO T rfl (gT (qW T rfl (yV (dQ rfl rfl (by omega)) (pV ?_))))))))|(refine rg 10 (aV ?_))|refine nZ ?_));all_goals try (exfalso;omega)
  refine cO (X:={x:Nat × List G × List W // x.1≤l.length∧B8 c (NA (l.take x.1)) x.2.1 x.2.2}) (fun x=>[(2,.rowE (L8 l) 5),(3,.i b),(4,.i lot),(5,.rowE (ints p) 1),(6,.rowE (ints q) 1),(15,.b true),(16,.ptr 0 0),(18,.ptr 1 0),(20,.i (x.1.1:Int))]) (fun x=>[.cells (gZ c x.1.2.1),.cells (oD c x.1.2.2)]) (fun x=>l.length-x.1.1) ⟨(0,qL c,[VU c]),bW _,hT0⟩ ⟨[2,3],rfl,(by repeat first|exact trivial|refine ⟨rfl,?_⟩),⟨.inr rfl,.inr rfl,trivial⟩,by decide,jJ _⟩ ?_
  rintro ⟨⟨k,gs,L⟩,hk,hT⟩;dsimp only at hk hT ⊢;by_cases hlt:k<l.length
  · have hg:=LS hlt;have hids1:=hids2 _ (aH hlt);have hsk:=hsw k;have h32:=XW hsk;have hse:=QC c gs l[k] hc hT.gk (by omega)
    have hsr:=zV3 c L l[k] hc (wP.w1 hT.ri.mid) (by have:=hT.ll;omega) (by omega)
    obtain ⟨e1,hT2⟩:=hT.step (s:=l[k]) hc (by omega) hsk
    rw [← WI hlt] at hT2;rw [e1] at hsr;have hsk2:=hsw (k+1);clear hT;generalize lQ c gs l[k]=R at *;obtain ⟨r,gs'⟩:=R;dsimp only at hse hsr hT2;generalize (Go.Ld.seeR c L l[k]).2=L' at *;generalize l[k]=s at *;have h33:=XW hsk2;have w1:=wP.w1 hT2.ri.mid;have hL0:0<L'.length:=eF.2 (by have:=hT2.ri.mid.ne _ (aQ.2 rfl);exact this)
    have hL1:L'.length≤1000:=by have:=hT2.ll;omega
    have hwp:∀ w,w∈L'→w.1.length=c.bs.length:=fun w hw=>(w1 w hw).1.pl;have hwc:∀ w,w∈L'→w.2.2.length=c.bs.length:=fun w hw=>(w1 w hw).1.cl;have i1:=ZW hT2.gk hT2.pd hT2.ri b;have i2:=XF c L' b (by omega) hL1 hwp
    have p1:=zJ9 hT2.gk hT2.pd hT2.ri b;have p2:=QF c L' b (by omega) hL1 hwp
    have g1:=XO hT2.gk hT2.pd hT2.ri b;have g2:=JP c L' b (by omega) hL0 hL1 hwc
    have t1:=ZH hT2.gk hT2.pd hT2.ri b lot;have t2:=XD c L' b lot (by omega) hL0 hL1 (fun w hw=>⟨hwp w hw,hwc w hw⟩) (fun hb=>zK0 hT2.gk hT2.pd hT2.ri hb)
    have a1:=FI c gs' p q hT2.gk hc.s.2.1 (by omega) (by omega)
    rw [yF4 hT2.gk hT2.ri] at a1;have a2:=TH c L' p q (by omega) hL1 (fun w hw=>⟨hwp w hw,hwc w hw⟩) (by omega) (by omega)
    have hsa:=P6 (mY c L' b) (mY c L' b) (by have:=KE c L' b;omega)
    rw [decide_eq_true rfl] at hsa;generalize vB c (mY c L' b) (vR c L' b) lot=lv at *;generalize zG6 (mY c L' b)=iv at *;generalize mY c L' b=P at *;generalize vR c L' b=rv at *;have hrf:((AV.sl 0 0 P.length 1).rf&&[AB.arr (ints P) 1].all AB.rf)=true:=by rw [zK,QM];rfl
    have hPl:P.length=(ints P).length:=(ints_length _).symm;generalize zT0 c L' p q=av at *
    (repeat' (first|refine wS ?_|refine wB ?_|refine wK ?_|refine wU ?_|(refine wC rfl ?_ ?_<;>(intro hb;(try simp only [nm] at hb);try (exfalso;omega)))|(refine rg 11 (dK rfl (qW T rfl (vV (aI rfl rfl) ?_))))|(refine rB (id:=13) 184 [[],[],[],[1,2],[1,2,3],rN 5,[],[],[],[7,8],[7,8,9],rN 11,rN 12] (rM 109 13) [[],[109],[109,110],[109],[109],[],rM 109 6,rM 109 7,rM 109 8,rM 109 7,rM 109 7,[],[]] [(5,0),(11,1)] cF rfl (by decide +kernel) (eN rfl rfl rfl rfl (by exact bU rfl) ?_);refine eN rfl rfl rfl rfl (by exact bU rfl) ?_;refine eN rfl rfl rfl rfl (by exact bU rfl) ?_;refine eN rfl rfl rfl rfl (by exact ix T rfl (by omega) (xT _) hg) ?_;refine eN rfl rfl rfl rfl (by exact aE T rfl rfl rfl rfl) ?_;refine tZ rfl rfl rfl rfl (aY rfl) (by exact M8 [0] rfl rfl (yJ hse) (fun _=>rfl) rfl (by decide) (fun _=>⟨.inr rfl,trivial⟩) (by simp) rfl (fun _ _=>rfl) rfl rfl) ?_;refine eN rfl rfl rfl rfl (by exact bU rfl) ?_;refine eN rfl rfl rfl rfl (by exact bU rfl) ?_;refine eN rfl rfl rfl rfl (by exact bU rfl) ?_;refine eN rfl rfl rfl rfl (by exact ix T rfl (by omega) (xT _) hg) ?_;refine eN rfl rfl rfl rfl (by exact aE T rfl rfl rfl rfl) ?_;refine tZ rfl rfl rfl rfl (aY rfl) (by exact M8 [1] rfl rfl (yJ hsr) (fun _=>rfl) rfl (by decide) (fun _=>⟨.inr rfl,trivial⟩) (by simp) rfl (fun _ _=>rfl) rfl rfl) ?_;refine eN rfl rfl rfl rfl (by exact kZ rfl rfl rfl) ?_;refine yA rfl rfl rfl (by exact rfl) ?_)|refine nZ ?_));all_goals try (exfalso;omega)
    show AW _ _ _ _ _ _;refine eI [(2,.rowE (L8 l) 5),(3,.i b),(4,.i lot),(5,.rowE (ints p) 1),(6,.rowE (ints q) 1),(15,.b true),(16,.ptr 0 0),(18,.ptr 1 0),(20,.i (k:Int))] [.cells (gZ c gs'),.cells (oD c L')] ⟨[0,1],rfl,(by repeat first|exact trivial|refine ⟨rfl,?_⟩),⟨.inr rfl,.inr rfl,trivial⟩,by decide,jJ _⟩ ?_
    (repeat' (first|refine wS ?_|(refine rg 15 (dK rfl (vV (by exact eJ rfl rfl i1 (.cons (.ptr rfl (eO _ rfl)) (.cons (.v _) .nil)) rfl rfl) ?_));refine mW rfl (xW rfl (xW rfl (oM ?_))))|(refine rg 16 (dK rfl (vV (by exact eJ rfl rfl i2 (.cons (.ptr rfl (eO _ rfl)) (.cons (.v _) .nil)) rfl rfl) ?_));refine mW rfl (xW rfl (xW rfl (oM ?_))))|refine nZ ?_));all_goals try (exfalso;omega)
    (repeat' (first|refine wK ?_|refine wU ?_|(refine rg 17 (dK rfl (vV (kZ rfl rfl rfl) (mW rfl (yN rfl (yN rfl (yV (A6 M6 rfl rfl) (pW rfl (mW rfl (yM ?_)))))))));refine yN rfl (gT (bN (by exact fX rfl rfl p1 (.inl ⟨.cons (.ptr rfl (eO _ rfl)) (.cons (.v _) .nil),hrf⟩)) rfl ?_));refine mE 145 (es:=ints P) rfl (congrArg (fun x=>some (AB.arr x 1)) (cJ _ (ints_idf _))) hPl (fO (ints_idf _)) ?_;refine yN rfl (yN rfl (gT (bN (by exact fX rfl rfl p2 (.inl ⟨.cons (.ptr rfl (eO _ rfl)) (.cons (.v _) .nil),hrf⟩)) rfl ?_)));refine mE 148 (es:=ints P) rfl (congrArg (fun x=>some (AB.arr x 1)) (cJ _ (ints_idf _))) hPl (fO (ints_idf _)) ?_;refine yV (kC (hsa)) (yV (cY rfl) (pW rfl (mW rfl (yN rfl (yN rfl (yV (by exact eJ rfl rfl g1 (.cons (.ptr rfl (eO _ rfl)) (.cons (.v _) .nil)) rfl rfl) ?_))))));refine yN rfl (yN rfl (yV (by exact eJ rfl rfl g2 (.cons (.ptr rfl (eO _ rfl)) (.cons (.v _) .nil)) rfl rfl) ?_));refine yV (LL JC rfl rfl) (pW rfl (mW rfl (yN rfl (yN rfl (yN rfl (yV (by exact eJ rfl rfl t1 (.cons (.ptr rfl (eO _ rfl)) (.cons (.v _) (.cons (.v _) .nil))) rfl rfl) ?_))))));refine yN rfl (yN rfl (yN rfl (yV (by exact eJ rfl rfl t2 (.cons (.ptr rfl (eO _ rfl)) (.cons (.v _) (.cons (.v _) .nil))) rfl rfl) ?_)));refine yV (kZ rfl rfl rfl) (pW rfl (mW rfl (yN rfl (yN rfl (yN rfl (yV (by exact eJ rfl rfl a1 (.cons (.ptr rfl (eO _ rfl)) (.cons (.row _ _ _) (.cons (.row _ _ _) .nil))) rfl rfl) ?_))))));refine yN rfl (yN rfl (yN rfl (yV (by exact eJ rfl rfl a2 (.cons (.ptr rfl (eO _ rfl)) (.cons (.row _ _ _) (.cons (.row _ _ _) .nil))) rfl rfl) ?_)));refine yV (A6 M6 rfl rfl) (pV ?_))|(refine iA 12 rfl rfl rfl (by omega) (by omega) ?_)|refine nZ ?_));all_goals try (exfalso;omega)
    all_goals exact ⟨⟨(k+1,gs',L'),by dsimp only;omega,hT2⟩,by dsimp only;omega,⟨[0,1],rfl,(by repeat first|exact trivial|refine ⟨rfl,?_⟩),⟨.inr rfl,.inr rfl,trivial⟩,by decide,jJ _⟩⟩
  · (repeat' (first|refine wS ?_|refine wR ?_|refine wE ?_|(refine wC rfl (fun hb=>?_) (fun hb=>?_) <;> (((try simp only [nm] at hb);try (exfalso;omega))))|(refine rg 11 (dK rfl (qW T rfl (vV (aI rfl rfl) ?_))))|(refine rg 19 (mW rfl (aV ?_)))|(refine nZ ?_)));all_goals try (exfalso;omega)
    all_goals exact rQ
end Go.Proofs.YtmmkhmilpeodnaaGreat
namespace Go.Proofs.YtmmkhmilpeodnaaGreat
open Go Go.Ab Go.Ld
attribute [local irreducible] VC AW bX aT jU
theorem IU (x:List KD × List LT × List Int × List BX) (_:True) (c:Int × Int × Int × Int) (_:zJ c.1∧zJ c.2.1∧zJ c.2.2.1∧zJ c.2.2.2) (l:List (Int × Int × Int × Int × List Int)) (hl:l.length≤maxLen∧∀ p,p∈l→p.2.2.2.2.length≤maxLen)
    (b:Int) (_:zJ b) (lot:Int) (_:zJ lot) (p:List Int) (_:p.length≤maxLen∧∀ a,a∈p→zJ a) (q:List Int) (_:q.length≤maxLen∧∀ a,a∈q→zJ a) :
    aT Tryz.prog 3 [AE x.1 x.2.1 x.2.2.1 x.2.2.2,C9 c.1 c.2.1 c.2.2.1 c.2.2.2,.rowE (l.map fun p=>[AV.i p.1,AV.i p.2.1,AV.i p.2.2.1,AV.i p.2.2.2.1,.rowE (ints p.2.2.2.2) 1]) 5,.i b,.i lot,.rowE (ints p) 1,.rowE (ints q) 1] [] (.b true) []:=by
  rw [zY7];have hids:=zP1 hl.2;generalize l.map yI1=l at *;by_cases hx:F1 l 10=false∨5<x.2.2.2.length∨10<x.1.length∨10<x.2.1.length∨8<p.length∨8<q.length
  · exact SU (yE7 x c) _ l b lot p q hids hx
  · have hf:F1 l 10=true:=by
      cases h:F1 l 10 with
      | true=>rfl
      | false=>exact absurd (.inl h) hx
    have h1:x.2.2.2.length≤5:=by omega
    have h2:x.1.length≤10:=by omega
    have h3:x.2.1.length≤10:=by omega
    have h4:p.length≤8:=by omega
    have h5:q.length≤8:=by omega
    cases hno:(!qO (yE7 x c)&&ID x.1 x.2.1 x.2.2.2) with
    | false=>exact ST (yE7 x c) _ l b lot p q hids hf h1 h2 h3 h4 h5 hno
    | true=>
      rw [aN,wX] at hno;obtain ⟨hs,ht⟩:=hno;by_cases h0:x.2.2.2=[]
      · exact zI0 (yE7 x c) _ l b lot p q hids hf h0 h2 h3 h4 h5 hs ht
      · exact SS (yE7 x c) _ l b lot p q hids hf (eF.2 h0) h1 h2 h3 h4 h5 hs ht
end Go.Proofs.YtmmkhmilpeodnaaGreat
