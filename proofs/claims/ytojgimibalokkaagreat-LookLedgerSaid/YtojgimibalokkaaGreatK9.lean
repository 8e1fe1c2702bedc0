/-
  Texts of the logic and of the layer,in one module (part 9).
-/
import Derived.Test.YtojgimibalokkaaGreatK8
set_option linter.unusedVariables false
set_option linter.unusedSimpArgs false
set_option linter.unnecessarySimpa false
namespace Go.Proofs.YtojgimibalokkaaGreat.L4
open Go Go.Ab Go.Lk
attribute [local irreducible] VC AW cF aP
set_option maxHeartbeats 4000000
theorem UV (a b:List Int) (p:Nat) (ha:p<a.length) (hb:p<b.length):aP Tryz.prog 121 [.rowE (ints b) 1,.pr [.i p] 0,.pr [.rowE (ints a) 1] 0] [] (.b (decide (cell b p=cell a p))) []:=by
  refine bL T Tryz.func121 rfl rfl rfl rfl ?_
  (repeat' (first|refine wS ?_|refine wR ?_|(refine rg 0 (aV ?_))|(refine bO (id:=1) 14 yO9 (rM 5 9) [[],[5],[],[],rM 5 4,rM 5 5,rM 5 4,rM 5 4,[]] cK rfl (by decide +kernel) (dN rfl (dO T rfl (dV rfl (ix T rfl (by omega) (ints_len _) (qI hb)) (dO T rfl (dO T rfl (dO T rfl (dV rfl (ix T rfl (by omega) (ints_len _) (qI ha)) (dO T rfl (dV rfl (bW rfl rfl) ?_)))))))));refine dE ?_;refine aV ?_)|refine nZ ?_));exact rQ
theorem zS0:FT Tryz.prog 60 0=some (3,0):=by kernel_rfl
theorem zJ4:∀ i:Nat,i<2→([0,1,2,3]:List Nat)[i]? = some i:=by decide
theorem SV:∀ i:Nat,i<2→([0,1]:List Nat)[i]? = some i:=by decide
theorem P3 (u:Ws) (k:Nat):worldsA (u.take k) = .rowE ((wsA u).take k) 1:=by
  show AV.rowE ((u.take k).map _) 1=AV.rowE ((u.map _).take k) 1;rw [jO]
def zS5 (ids:List Int) (w0:Ws) (n:Nat) (u:Ws) (s:Nat→Int):Prop:=∀ m,zP ids w0 n m→∃ m',zP ids w0 n m' ∧
  aP Tryz.prog 50 [.ptr 0 0,worldsA u,RQ s] [qK ids,.mapO m.1 m.2] (BU (needM ids u)) [qK ids,.mapO m'.1 m'.2]
def zB8 (ids:List Int) (w0:Ws) (n:Nat) (u:Ws) (s:Nat→Int) (p:Nat):Prop:=∀ m,zP ids w0 n m→∃ m',zP ids w0 n m' ∧
  aP Tryz.prog 93 [.ptr 0 0,worldsA u,RQ s,.i p] [qK ids,.mapO m.1 m.2] (.i (gO (need ids) u p:Nat)) [qK ids,.mapO m'.1 m'.2]
section
variable {ids:List Int}{w0:Ws}{n:Nat}
theorem BP {u:Ws}{s:Nat→Int}{p:Nat}(hu:Ok n u) (hul:u.length≤1000) (hp:p<n) (hc:constM u p=true):zB8 ids w0 n u s p:=by
  intro m g;refine ⟨m,g,?_⟩;rw [O9 hc];have hpos:0<u.length:=by cases h:u with | nil=>exact absurd h hu.ne | cons a w=>simp
  have hlu:(wsA u).length=u.length:=by simp
  have h0:u[0]∈u:=aI hpos;have hlp:p<u[0].length:=by rw [hu.len _ h0];exact hp
  have hcf:=containsFunc_c (w:=u.take 0) (F:=121) (caps:=[.pr [.i p] 0,.pr [.rowE (ints u[0]) 1] 0]) (q:=fun b=>decide (cell b p=cell u[0] p)) (by simp) rfl (fun a hm=>by simp at hm)
  rw [P3] at hcf;have hcf:aP _ _ _ [] (.b false) []:=hcf;have hl:=XR u p (cell u[0] p) hul (fun a hm=>by rw [hu.len a hm];exact hp)
  rw [IY hc h0] at hl;refine bL T Tryz.func93 rfl rfl rfl rfl ?_
  (repeat' (first|refine wS ?_|refine wB ?_|(refine rg 0 (bS (bZ rfl rfl) rfl (bS (bZ rfl rfl) rfl (aV ?_))))|(refine rg 1 (aV ?_))|(refine rg 2 (mW rfl (qW T rfl (mV ?_))))|refine nZ ?_));refine cX (X:=Unit) (fun _=>[(0,.ptr 0 0),(1,worldsA u),(6,.ptr 2 0),(7,.ptr 3 0),(9,.i 0),(14,worldsA u),(15,.i (wsA u).length),(16,.i 0)]) (fun _=>[qK ids,.mapO m.1 m.2,.cells [.i (s 0),.i (s 1),.i (s 2),.i (s 3),.i (s 4),.i (s 5)],.cells [.i p]]) (fun _=>0) () ⟨[0,1,2,3],rfl,(by repeat first|exact trivial|refine ⟨rfl,?_⟩),⟨.inr rfl,.inr (lZ rfl rfl g.idf),.inr rfl,.inr rfl,trivial⟩,by decide,zJ4⟩ ?_
  rintro ⟨⟩;dsimp only
  (repeat' (first|refine wS ?_|refine wB ?_|refine wK ?_|refine wR ?_|(first|(refine wU ?_)|(refine qR rfl (fun hb=>?_) (fun hb=>?_)<;>(((try simp only [nm] at hb);try ((first|(exfalso;omega)|exact absurd trivial hb);done)))))|(refine rg 3 (vV (aK rfl rfl) ?_))|(refine rg 4 (mW rfl (vV (ix T rfl (by omega) (lF u) (zT (k:=0) hpos)) (lW T rfl (bS (bM T rfl) rfl (aW rfl (aU T rfl rfl rfl rfl rfl rfl (by decide) rfl ?_)))))))|(refine rg 5 (dR rfl (vV (by exact nR (k:=0) T rfl rfl rfl rfl rfl (by simp) (lF u)) ?_));refine vV (by exact gI rfl rfl) ?_;refine vV (by exact eC rfl rfl hcf (.cons (.row _ _ _) (.cons (.clo .nil (.cons (.ptr rfl (.cons (.v _) .nil)) (.cons (.ptr rfl (.cons (.row _ _ _) .nil)) .nil))) .nil)) rfl rfl) ?_)|(refine bO (id:=6) 56 [[],[],[],[],[2,3],[2,3,4],rN 6] (rM 26 7) yP1 cK rfl (by decide +kernel) (dN rfl (dO T rfl (dO T rfl (dO T rfl (dV rfl (ix T rfl (by omega) (ints_len _) (qI hlp)) (dO T rfl (dV rfl (kC (hl)) (dE ?_))))))));refine aV ?_)|(refine rg 7 (mW rfl (qW T rfl (mW rfl (qW T rfl (vV (bW rfl rfl) ?_))))))|(refine rg 8 (aV ?_))|refine nZ ?_));all_goals first | (exfalso;omega) | skip
  exact ⟨.inl rfl,[0,1],_,rfl,rfl,rfl,⟨.inr rfl,.inr (lZ rfl rfl g.idf),trivial⟩,by decide,SV⟩
theorem zD8 (hw0:Ok n w0) (hn:n≤6) (h1000:w0.length≤1000) (hr:∀ b,b∈w0→∀ x,x∈b→rngI x){u:Ws}{s:Nat→Int}{p:Nat}(hu:Ok n u) (hus:u=nP n w0 s) (hs:zP9 s) (hp:p<n) (hc:constM u p=false)
    (ih:∀ v t,v.length<u.length→Ok n v→v=nP n w0 t→zP9 t→zS5 ids w0 n v t):zB8 ids w0 n u s p:=by
  intro m0 g0;have hul:u.length≤1000:=by rw [hus];exact bY (nF _ _) h1000
  have hlu:(wsA u).length=u.length:=by simp
  let Tt:Nat→(Nat→Int):=fun i=>G2 s p (IntKind.i64.wrap (cell (u.getD i []) p+1))
  let Lf:Nat→Ws:=fun i=>leftM u p (cell (u.getD i []) p)
  let sk:Nat→Bool:=fun i=>(u.take i).any fun b=>decide (cell b p=cell (u.getD i []) p)
  have hget:∀ i,i<u.length→u.getD i []∈u:=fun i hi=>by
    simp only [aC,aA hi,iL];exact aI hi
  obtain ⟨M,hM0,hMg,hMs⟩:=QG (zP ids w0 n) (fun i m m'=>(sk i=true∧m'=m)∨(sk i=false∧aP Tryz.prog 50 [.ptr 0 0,worldsA (Lf i),RQ (Tt i)] [qK ids,.mapO m.1 m.2] (BU (needM ids (Lf i))) [qK ids,.mapO m'.1 m'.2])) u.length (fun i hi m g=>by
    cases hsk:sk i with
    | true=>exact ⟨m,g,.inl ⟨rfl,rfl⟩⟩
    | false=>
      have ha:=hget i hi;have hmu:=SU (n:=n) (w0:=w0) (s:=s) (p:=p) (a:=u.getD i []) (fun b hb x hx=>⟨hr b hb x hx,hw0.pos b hb x hx⟩) hw0.len hp (by rw [← hus];exact ha)
      obtain ⟨m',h1,h2⟩:=ih (Lf i) (Tt i) (wP hc ha) (hu.left ha) (by rw [hmu,← hus]) (VD hs p _) m g
      exact ⟨m',h1,.inr ⟨rfl,h2⟩⟩) m0 g0
  refine ⟨M u.length,hMg _ (aT _),?_⟩
  let N:Nat→Nat:=fun k=>mx ((u.take k).map fun a=>1+need ids (leftM u p (cell a p)))
  have hN:gO (need ids) u p=N u.length:=by
    unfold gO;rw [hc,if_neg (by simp)]
    show _=mx ((u.take u.length).map _);rw [cQ]
  rw [hN];rw [← hM0];refine bL T Tryz.func93 rfl rfl rfl rfl ?_
  (repeat' (first|refine wS ?_|refine wB ?_|(refine rg 0 (bS (bZ rfl rfl) rfl (bS (bZ rfl rfl) rfl (aV ?_))))|(refine rg 1 (aV ?_))|(refine rg 2 (mW rfl (qW T rfl (mV ?_))))|refine nZ ?_));refine cX (X:={k:Nat // k≤u.length}) (fun k=>[(0,.ptr 0 0),(1,worldsA u),(6,.ptr 2 0),(7,.ptr 3 0),(9,.i (N k.1:Nat)),(14,worldsA u),(15,.i (wsA u).length),(16,.i k.1)]) (fun k=>[qK ids,.mapO (M k.1).1 (M k.1).2,.cells [.i (s 0),.i (s 1),.i (s 2),.i (s 3),.i (s 4),.i (s 5)],.cells [.i p]]) (fun k=>u.length-k.1) ⟨0,by simp⟩ ⟨[0,1,2,3],rfl,(by repeat first|exact trivial|refine ⟨rfl,?_⟩),⟨.inr rfl,.inr (lZ rfl rfl (hMg 0 (cC _)).idf),.inr rfl,.inr rfl,trivial⟩,by decide,zJ4⟩ ?_
  rintro ⟨k,hk⟩;dsimp only;by_cases hlt:k<u.length
  · have hm:=aI hlt;have hgd:u.getD k []=u[k]:=by simp [aC,hlt]
    have hlp:p<u[k].length:=by rw [hu.len _ hm];exact hp
    have hcf:=containsFunc_c (w:=u.take k) (F:=121) (caps:=[.pr [.i p] 0,.pr [.rowE (ints u[k]) 1] 0]) (q:=fun b=>decide (cell b p=cell u[k] p)) (by simp;omega) rfl (fun b hb=>UV u[k] b p hlp (by rw [hu.len b (eK hb)];exact hp))
    rw [P3] at hcf;have hskd:sk k=(u.take k).any fun b=>decide (cell b p=cell u[k] p):=by show ((u.take k).any fun b=>decide (cell b p=cell (u.getD k []) p))=_;rw [hgd]
    rw [← hskd] at hcf;have hNs:N (k+1)=max (N k) (1+need ids (leftM u p (cell u[k] p))):=by
      show mx ((u.take (k+1)).map _)=max (mx _) _;rw [aM hlt,dJ];exact zJ0 _ _
    have hmk:=(hMg k hk).idf;have hmk1:=(hMg (k+1) hlt).idf;rcases hMs k hlt with ⟨h1,h2⟩ | ⟨h1,h2⟩
    · rw [h1] at hcf;have hN2:N (k+1)=N k:=by
        rw [hNs];rw [h1] at hskd;obtain ⟨b,hb,he⟩:=iZ.1 hskd.symm;have he:cell b p=cell u[k] p:=by simpa using he
        have:1+need ids (leftM u p (cell b p))≤N k:=FI (bB.2 ⟨b,hb,rfl⟩);rw [he] at this;omega
      (repeat' (first|refine wS ?_|refine wB ?_|refine wK ?_|refine wE ?_|refine wT ?_|(refine wC rfl ?_ ?_<;>(intro hb;(try simp only [nm] at hb);try (exfalso;omega)))|(refine rg 3 (vV (aK rfl rfl) ?_))|(refine rg 4 (mW rfl (vV (ix T rfl (by omega) (lF u) (zT (k:=k) hlt)) (lW T rfl (bS (bM T rfl) rfl (aW rfl (aU T rfl rfl rfl rfl rfl rfl (by decide) rfl ?_)))))))|(refine rg 5 (dR rfl (vV (by exact nR (k:=k) T rfl rfl rfl rfl rfl (by simp;omega) (lF u)) ?_));refine vV (by exact gI rfl rfl) ?_;refine vV (by exact eC rfl rfl hcf (.cons (.row _ _ _) (.cons (.clo .nil (.cons (.ptr rfl (.cons (.v _) .nil)) (.cons (.ptr rfl (.cons (.row _ _ _) .nil)) .nil))) .nil)) rfl rfl) ?_)|(refine rg 12 (vV (bP rfl rfl (by omega) (by omega)) (mV ?_)))|refine nZ ?_));exact ⟨⟨k+1,hlt⟩,by dsimp only;omega,[0,1,2,3],rfl,⟨rfl,rfl,rfl,rfl,by rw [hN2];rfl,rfl,rfl,rfl,trivial⟩,⟨.inr rfl,.inr (by show _=some ((AB.mapO (M (k+1)).1 (M (k+1)).2).map _);rw [h2];exact lZ rfl rfl hmk),.inr rfl,.inr rfl,trivial⟩,by decide,zJ4⟩
    · rw [h1] at hcf;have hl:=XR u p (cell u[k] p) hul (fun a hm=>by rw [hu.len a hm];exact hp)
      have hlt2:=wP hc hm;have hll:(wsA (leftM u p (cell u[k] p))).length=(leftM u p (cell u[k] p)).length:=by simp
      have h2:aP Tryz.prog 50 [.ptr 0 0,worldsA (leftM u p (cell (u.getD k []) p)),RQ (G2 s p (IntKind.i64.wrap (cell (u.getD k []) p+1)))] [qK ids,.mapO (M k).1 (M k).2] (BU (needM ids (leftM u p (cell (u.getD k []) p)))) [qK ids,.mapO (M (k+1)).1 (M (k+1)).2]:=h2;rw [hgd] at h2;have hnl:(needM ids (leftM u p (cell u[k] p))).1≤n:=need_le (hu.left hm) ids;have hset:List.set ([.i (s 0),.i (s 1),.i (s 2),.i (s 3),.i (s 4),.i (s 5)]:List AV) (0+(p:Int).toNat*1) (.i (IntKind.i64.wrap (cell u[k] p+1)))=_:=(congrArg (fun q=>List.set _ q _) (by omega:0+(p:Int).toNat*1=p)).trans (zF8 (x:=IntKind.i64.wrap (cell u[k] p+1)) (by omega))
      have hNi:((N (k+1):Nat):Int)=max ((N k:Nat):Int) (1+((needM ids (leftM u p (cell u[k] p))).1:Int)):=by rw [hNs];show ((max (N k) (1+(needM ids (leftM u p (cell u[k] p))).1):Nat):Int)=_;omega
      (repeat' (first|refine wS ?_|refine wB ?_|refine wK ?_|refine wU ?_|(refine wC rfl ?_ ?_<;>(intro hb;(try simp only [nm] at hb);try (exfalso;omega)))|(refine rg 3 (vV (aK rfl rfl) ?_))|(refine rg 4 (mW rfl (vV (ix T rfl (by omega) (lF u) (zT (k:=k) hlt)) (lW T rfl (bS (bM T rfl) rfl (aW rfl (aU T rfl rfl rfl rfl rfl rfl (by decide) rfl ?_)))))))|(refine rg 5 (dR rfl (vV (by exact nR (k:=k) T rfl rfl rfl rfl rfl (by simp;omega) (lF u)) ?_));refine vV (by exact gI rfl rfl) ?_;refine vV (by exact eC rfl rfl hcf (.cons (.row _ _ _) (.cons (.clo .nil (.cons (.ptr rfl (.cons (.v _) .nil)) (.cons (.ptr rfl (.cons (.row _ _ _) .nil)) .nil))) .nil)) rfl rfl) ?_)|(refine bO (id:=6) 56 [[],[],[],[],[2,3],[2,3,4],rN 6] (rM 26 7) yP1 cK rfl (by decide +kernel) (dN rfl (dO T rfl (dO T rfl (dO T rfl (dV rfl (ix T rfl (by omega) (ints_len _) (qI hlp)) (dO T rfl (dV rfl (kC (hl)) (dE ?_))))))));refine aV ?_)|(refine rg 7 (mW rfl (qW T rfl (mW rfl (qW T rfl (vV (bW rfl rfl) ?_))))))|(refine rg 9 (lW T rfl (bS (bM T rfl) rfl (aU T rfl rfl rfl rfl rfl rfl (by decide) rfl ?_))))|(refine bO (id:=10) 56 [[],[],[],[1,2],[1,2,3],rM 1 4] (rM 39 6) [[],[39],[39,40],[39],[39],[39]] cK rfl (by decide +kernel) (dO T rfl (dO T rfl (dO T rfl (dV rfl (ix T rfl (by omega) (ints_len _) (qI hlp)) (dO T rfl (dV rfl (MS rfl rfl) (dE ?_)))))));refine vV (by exact JM T rfl rfl rfl rfl (by omega) (by omega) rfl) ?_;refine aU T rfl rfl rfl rfl rfl rfl (by decide) (zT5 rfl (by simp;omega) hset) ?_)|(refine rg 11 (dR rfl (mW rfl (lW T rfl (fO [0,1] rfl rfl h2 rfl rfl (by decide) ⟨.inr rfl,.inr (lZ rfl rfl hmk),trivial⟩ (by simp) rfl ?_))));refine vV (by exact N7 T rfl zS0 rfl rfl) ?_;refine vV (bP rfl rfl (by omega) (by omega)) (vV (uJ rfl rfl) (aV ?_)))|(refine rg 12 (vV (bP rfl rfl (by omega) (by omega)) (mV ?_)))|refine nZ ?_));all_goals first | (exfalso;omega) | skip
      exact ⟨⟨k+1,hlt⟩,by dsimp only;omega,[0,1,2,3],rfl,⟨rfl,rfl,rfl,rfl,by rw [hNi];rfl,rfl,rfl,rfl,trivial⟩,⟨.inr rfl,.inr (lZ rfl (mD _ _ hmk1) hmk1),.inr rfl,.inr rfl,trivial⟩,by decide,zJ4⟩
  · obtain rfl:k=u.length:=by omega
    (repeat' (first|refine wS ?_|refine wR ?_|refine wE ?_|(refine wC rfl ?_ ?_<;>(intro hb;(try simp only [nm] at hb);try (exfalso;omega)))|(refine rg 3 (vV (aK rfl rfl) ?_))|(refine rg 13 (mW rfl (aV ?_)))|refine nZ ?_));exact ⟨.inl rfl,[0,1],_,rfl,rfl,rfl,⟨.inr rfl,.inr (lZ rfl rfl (hMg _ (aT _)).idf),trivial⟩,by decide,SV⟩
end
theorem A4:Tryz.prog.underlying 105=some (.map yI 60):=by kernel_rfl
theorem zR9:(Tryz.prog.info? 60).bind (·.zero)=some (.agg #[.int .i64 0,.int .i64 0]):=by kernel_rfl
theorem zB2:∀ (S:Nat→Prop) (w:World) (ρ:Pl),R S w (.agg [.i 0,.i 0]) ρ (.agg #[.int .i64 0,.int .i64 0]):=fun S w ρ=>by simp [R,RL]
theorem yH8:∀ i:Nat,i<2→([0,1,2,3,5]:List Nat)[i]? = some i:=by decide
theorem yE5:∀ i:Nat,i<2→([0,1,2,3,4]:List Nat)[i]? = some i:=by decide
structure Fit (n:Nat) (w:Ws) (ids:List Int):Prop where
  ok:Ok n w
  n6:n≤6
  len:w.length≤1000
  rng:∀ b,b∈w→∀ x,x∈b→rngI x
  ids:ids.length≤1000
section
variable {ids:List Int}{w0:Ws}{n:Nat}
theorem sV (f:Fit n w0 ids):∀ (k:Nat) (u:Ws) (s:Nat→Int),u.length≤k→Ok n u→u=nP n w0 s→zP9 s→zS5 ids w0 n u s:=by
  intro k
  induction k with
  | zero=>intro u s h hu;exact absurd (bI (by omega)) hu.ne
  | succ k ih=>
  intro u s hk hu hus hs m g;have hul:u.length≤1000:=by rw [hus];exact bY (nF _ _) f.len
  have hgk:PN (kv s):=⟨s,hs,rfl⟩;have hn:=f.n6;by_cases hin:kv s∈m.1
  · obtain ⟨i,hi⟩:=zS hin;have hv:=g.find hn hi;rw [← hus] at hv;refine ⟨m,g,?_⟩;refine bL T Tryz.func50 rfl rfl rfl rfl ?_
    (repeat' (first|refine wS ?_|refine wR ?_|refine wT ?_|(refine rg 0 (bS (bZ rfl rfl) rfl (bS (bM T rfl) rfl ?_)))|(refine sY (id:=1) 8 10 68 (by (dsimp only [yD];done)) (by decide +kernel) yP2 [13,14,15,16,17,18,12,19,20,7] yP3 cK rfl (by decide +kernel) (dN rfl (dV rfl (by exact eU rfl rfl) ?_));refine dP T rfl (dO T rfl (dO T rfl (dV rfl (by exact TQ A4 uU rfl rfl (A7 s) rfl g.good hgk g.nd hi hv) ?_)));refine dN rfl (dV rfl (by exact dU rfl rfl) ?_);refine dV rfl (by exact dU rfl rfl) ?_;refine uL rfl rfl rfl (by exact bM T rfl) rfl ?_;refine dE ?_;refine aU T rfl rfl rfl rfl rfl rfl (by decide) rfl (aV ?_))|(refine rg 2 (mV ?_))|(refine rg 3 (lW T rfl (aU T rfl rfl rfl rfl rfl rfl (by decide) rfl ?_)))|refine nZ ?_));exact ⟨.inl rfl,[0,1],_,rfl,rfl,rfl,⟨.inr rfl,.inr (lZ rfl rfl g.idf),trivial⟩,by decide,SV⟩
  · have hdc:=decided_c u ids hu.ne hul (fun a ha=>by rw [hu.len a ha];omega) f.ids
    have hlh:(ints (hd u)).length=n:=by simp [hu.hd_len]
    cases hd1:decM u ids with
    | true=>
      rw [hd1] at hdc;have e:needM ids u=(0,-1):=by rw [yX,hd1,if_pos rfl]
      have gp:=g.put hs hin;rw [← hus,e] at gp;refine ⟨_,gp,?_⟩;rw [e];refine bL T Tryz.func50 rfl rfl rfl rfl ?_
      (repeat' (first|refine wS ?_|refine wK ?_|refine wR ?_|refine wU ?_|(refine rg 0 (bS (bZ rfl rfl) rfl (bS (bM T rfl) rfl ?_)))|(refine sY (id:=1) 8 10 68 (by (dsimp only [yD];done)) (by decide +kernel) yP2 [13,14,15,16,17,18,12,19,20,7] yP3 cK rfl (by decide +kernel) (dN rfl (dV rfl (by exact eU rfl rfl) ?_));refine dP T rfl (dO T rfl (dO T rfl (dV rfl (by exact Z9 A4 uU (GX zR9) zB2 rfl rfl (A7 s) rfl g.good hgk hin) ?_)));refine dN rfl (dV rfl (by exact dU rfl rfl) ?_);refine dV rfl (by exact dU rfl rfl) ?_;refine uL rfl rfl rfl (by exact bM T rfl) rfl ?_;refine dE ?_;refine aU T rfl rfl rfl rfl rfl rfl (by decide) rfl (aV ?_))|(refine rg 2 (mV ?_))|(refine rg 4 (vV (by exact gG T rfl rfl rfl rfl) ?_);refine bS (bM T rfl) rfl (aU T rfl rfl rfl rfl rfl rfl (by decide) rfl ?_))|(refine rg 5 (dR rfl (nV ?_));refine fR T rfl (vV (kC (hdc)) (vV (cT rfl) ?_)))|(refine bO (id:=14) 68 yP4 (rM 61 6) yP5 cK rfl (by decide +kernel) (dN rfl (dV rfl (by exact eU rfl rfl) ?_));refine dP T rfl (dO T rfl (dO T rfl (dO T rfl (dE ?_))));refine CH A4 uU rfl rfl (A7 s) rfl rfl g.good hgk hin ?_)|(refine rg 15 (lW T rfl (aU T rfl rfl rfl rfl rfl rfl (by decide) rfl ?_)))|refine nZ ?_));exact ⟨.inl rfl,[0,1],_,rfl,rfl,rfl,⟨.inr rfl,.inr (lZ rfl rfl gp.idf),trivial⟩,by decide,SV⟩
    | false=>
      rw [hd1] at hdc
      obtain ⟨M,hM0,hMg,hMs⟩:=QG (zP ids w0 n) (fun p m m'=>aP Tryz.prog 93 [.ptr 0 0,worldsA u,RQ s,.i p] [qK ids,.mapO m.1 m.2] (.i (gO (need ids) u p:Nat)) [qK ids,.mapO m'.1 m'.2]) n (fun p hp m g=>by
        cases hc:constM u p with
        | true=>exact BP hu hul hp hc m g
        | false=>exact zD8 f.ok hn f.len f.rng hu hus hs hp hc (fun v t h1 h2 h3 h4=>ih v t (by omega) h2 h3 h4) m g) m g
      have gN:=hMg n (aT _);have eN:needM ids u=O1 (gO (need ids) u) (n+1) n:=by
        rw [yX,hd1,if_neg (by simp),hu.hd_len]
      have key:∃ m',zP ids w0 n m'∧(((kv s∉(M n).1)∧m'=((M n).1++[kv s],(M n).2++[BU (needM ids u)]))∨∃ i,(M n).1[i]? = some (kv s)∧m'=((M n).1,(M n).2.set i (BU (needM ids u)))):=by
        by_cases hin2:kv s∈(M n).1
        · obtain ⟨i,hi⟩:=zS hin2;refine ⟨_,?_,.inr ⟨i,hi,rfl⟩⟩;rw [hus,gN.set hn hi];exact gN
        · have gp:=gN.put hs hin2;rw [← hus] at gp;exact ⟨_,gp,.inl ⟨hin2,rfl⟩⟩
      obtain ⟨m',gm',hm'⟩:=key;refine ⟨m',gm',?_⟩;rw [← hM0];have hM0':M 0=m:=hM0;have g0:zP ids w0 n (M 0):=hMg 0 (cC _);have hin':kv s∉(M 0).1:=by rw [hM0'];exact hin
      refine bL T Tryz.func50 rfl rfl rfl rfl ?_
      (repeat' (first|refine wS ?_|refine wB ?_|refine wK ?_|refine wT ?_|refine wU ?_|(refine rg 0 (bS (bZ rfl rfl) rfl (bS (bM T rfl) rfl ?_)))|(refine sY (id:=1) 8 10 68 (by (dsimp only [yD];done)) (by decide +kernel) yP2 [13,14,15,16,17,18,12,19,20,7] yP3 cK rfl (by decide +kernel) (dN rfl (dV rfl (by exact eU rfl rfl) ?_));refine dP T rfl (dO T rfl (dO T rfl (dV rfl (by exact Z9 A4 uU (GX zR9) zB2 rfl rfl (A7 s) rfl g0.good hgk hin') ?_)));refine dN rfl (dV rfl (by exact dU rfl rfl) ?_);refine dV rfl (by exact dU rfl rfl) ?_;refine uL rfl rfl rfl (by exact bM T rfl) rfl ?_;refine dE ?_;refine aU T rfl rfl rfl rfl rfl rfl (by decide) rfl (aV ?_))|(refine rg 2 (mV ?_))|(refine rg 4 (vV (by exact gG T rfl rfl rfl rfl) ?_);refine bS (bM T rfl) rfl (aU T rfl rfl rfl rfl rfl rfl (by decide) rfl ?_))|(refine rg 5 (dR rfl (nV ?_));refine fR T rfl (vV (kC (hdc)) (vV (cT rfl) ?_)))|(refine rg 6 (mW rfl (vV (ix T rfl (by decide) (lF u) (D9 hu.ne)) (lW T rfl (qW T rfl (vV (bP rfl rfl (by omega) (by omega)) (fW T rfl (aU T rfl rfl rfl rfl rfl rfl (by decide) rfl ?_))))))))|(refine rg 7 (mW rfl (vV (ix T rfl (by decide) (lF u) (D9 hu.ne)) (lW T rfl (qW T rfl (mV ?_))))))|refine nZ ?_));refine cX (X:={k:Nat // k≤n}) (fun k=>[(0,.ptr 0 0),(1,worldsA u),(5,.ptr 2 0),(6,.ptr 3 0),(9,.ptr 4 0),(40,.i (ints (hd u)).length),(41,.i k.1)]) (fun k=>[qK ids,.mapO (M k.1).1 (M k.1).2,.cells [.i (s 0),.i (s 1),.i (s 2),.i (s 3),.i (s 4),.i (s 5)],.cells [.i 0,.i 0],.cells [.i ((O1 (gO (need ids) u) (n+1) k.1).1:Nat),.i (O1 (gO (need ids) u) (n+1) k.1).2]]) (fun k=>n-k.1) ⟨0,by omega⟩ ⟨[0,1,2,3,5],rfl,(by repeat first|exact trivial|refine ⟨rfl,?_⟩),⟨.inr rfl,.inr (lZ rfl rfl g0.idf),.inr rfl,.inr rfl,.inr (L2 rfl (by rw [hlh];rfl)),trivial⟩,by decide,yH8⟩ ?_
      rintro ⟨p,hp⟩;dsimp only;by_cases hlt:p<n
      · have hb1:=B6 (gO (need ids) u) (n+1) p;have hw:=hMs p hlt;have hi0:=(hMg p hp).idf;have hi1:=(hMg (p+1) hlt).idf;generalize hB:O1 (gO (need ids) u) (n+1) p=B at hb1 ⊢;generalize hW:gO (need ids) u p=W at hw hb1;unfold KJ at hb1;rw [hW] at hb1;by_cases hcd:0<W∧W<B.1
        · rw [if_pos hcd] at hb1
          (repeat' (first|refine wS ?_|refine wB ?_|refine wK ?_|(refine wC rfl ?_ ?_<;>(intro hb;(try simp only [nm] at hb);try (exfalso;omega)))|(refine rg 8 (vV (aK rfl rfl) ?_))|(refine rg 9 (mW rfl (aV ?_)))|(refine rg 10 (dR rfl (lW T rfl (mW rfl (fO [0,1] rfl rfl hw rfl rfl (by decide) ⟨.inr rfl,.inr (lZ rfl rfl hi0),trivial⟩ (by simp) rfl ?_))));refine aV ?_)|(refine rg 11 (mW rfl (vV (dX rfl rfl) (mV ?_)));refine aY rfl rfl ?_ ?_<;>(intro hb;rw [hb];(try simp only [nm] at hb);try (exfalso;omega));(all_goals (refine yN rfl (yP T rfl (yO T rfl (yV (aK rfl rfl) (pV ?_)))))))|(refine rg 12 (dR rfl (vV (by exact gG T rfl rfl rfl rfl) ?_));refine aU T rfl rfl rfl rfl rfl rfl (by decide) rfl ?_)|(refine rg 13 (vV (bP rfl rfl (by omega) (by omega)) (mV ?_)))|refine nZ ?_));all_goals first | (exfalso;omega) | skip
          exact ⟨⟨p+1,hlt⟩,by dsimp only;omega,[0,1,2,3,4],rfl,(by repeat first|exact trivial|refine ⟨rfl,?_⟩),⟨.inr rfl,.inr (lZ rfl (mD _ _ hi1) hi1),.inr rfl,.inr rfl,.inr (L2 rfl (by rw [hb1];rfl)),trivial⟩,by decide,yE5⟩
        · rw [if_neg hcd] at hb1
          (repeat' (first|refine wS ?_|refine wB ?_|refine wK ?_|refine wU ?_|(refine wC rfl ?_ ?_<;>(intro hb;(try simp only [nm] at hb);try (exfalso;omega)))|(refine rg 8 (vV (aK rfl rfl) ?_))|(refine rg 9 (mW rfl (aV ?_)))|(refine rg 10 (dR rfl (lW T rfl (mW rfl (fO [0,1] rfl rfl hw rfl rfl (by decide) ⟨.inr rfl,.inr (lZ rfl rfl hi0),trivial⟩ (by simp) rfl ?_))));refine aV ?_)|(refine rg 11 (mW rfl (vV (dX rfl rfl) (mV ?_)));refine aY rfl rfl ?_ ?_<;>(intro hb;rw [hb];(try simp only [nm] at hb);try (exfalso;omega));(all_goals first|(refine gT (mW rfl (gT (fW T rfl (gT (lW T rfl (gT (vV (aK rfl rfl) ?_))))))))|(iterate 4 refine gF ?_));(all_goals (refine pV ?_)))|(refine rg 13 (vV (bP rfl rfl (by omega) (by omega)) (mV ?_)))|refine nZ ?_));all_goals first | (exfalso;omega) | skip
          all_goals exact ⟨⟨p+1,hlt⟩,by dsimp only;omega,[0,1,2,3,4],rfl,(by repeat first|exact trivial|refine ⟨rfl,?_⟩),⟨.inr rfl,.inr (lZ rfl (mD _ _ hi1) hi1),.inr rfl,.inr rfl,.inr (L2 rfl (by rw [hb1];rfl)),trivial⟩,by decide,yE5⟩
      · obtain rfl:p=n:=by omega
        rw [← eN];rcases hm' with ⟨hn1,rfl⟩ | ⟨i,hi,rfl⟩
        · (repeat' (first|refine wS ?_|refine wR ?_|refine wE ?_|(refine wC rfl (fun hb=>?_) (fun hb=>?_) <;> (((try simp only [nm] at hb);try (exfalso;omega))))|(refine rg 8 (vV (aK rfl rfl) ?_))|(refine bO (id:=14) 68 yP4 (rM 61 6) yP5 cK rfl (by decide +kernel) (dN rfl (dV rfl (by exact eU rfl rfl) ?_));refine dP T rfl (dO T rfl (dO T rfl (dO T rfl (dE ?_))));refine CH A4 uU rfl rfl (A7 s) rfl rfl gN.good hgk hn1 ?_)|(refine rg 15 (lW T rfl (aU T rfl rfl rfl rfl rfl rfl (by decide) rfl ?_)))|(refine nZ ?_)));exact ⟨.inl rfl,[0,1],_,rfl,rfl,rfl,⟨.inr rfl,.inr (lZ rfl rfl gm'.idf),trivial⟩,by decide,SV⟩
        · (repeat' (first|refine wS ?_|refine wR ?_|refine wE ?_|(refine wC rfl (fun hb=>?_) (fun hb=>?_) <;> (((try simp only [nm] at hb);try (exfalso;omega))))|(refine rg 8 (vV (aK rfl rfl) ?_))|(refine bO (id:=14) 68 yP4 (rM 61 6) yP5 cK rfl (by decide +kernel) (dN rfl (dV rfl (by exact eU rfl rfl) ?_));refine dP T rfl (dO T rfl (dO T rfl (dO T rfl (dE ?_))));refine RE A4 uU rfl rfl (A7 s) rfl rfl gN.good hgk gN.nd hi ?_)|(refine rg 15 (lW T rfl (aU T rfl rfl rfl rfl rfl rfl (by decide) rfl ?_)))|(refine nZ ?_)));exact ⟨.inl rfl,[0,1],_,rfl,rfl,rfl,⟨.inr rfl,.inr (lZ rfl rfl gm'.idf),trivial⟩,by decide,SV⟩
theorem solve_c (f:Fit n w0 ids):aP Tryz.prog 22 [worldsA w0,.rowE (ints ids) 1] [] (BU (needM ids w0)) []:=by
  obtain ⟨m',gm,hc⟩:=sV f w0.length w0 (fun _=>0) (aT _) f.ok (MI n w0).symm (fun q=>by show rngI 0;unfold rngI;omega) ([],[]) ⟨bK,rfl,rfl,fun i k hi=>by simp at hi⟩
  refine bL T Tryz.func22 rfl rfl rfl rfl ?_
  (repeat' (first|refine wS ?_|refine wR ?_|(refine rg 0 (bS (bM T rfl) rfl ?_))|(refine rg 1 (mW rfl (bS (by exact TP) rfl ?_));refine vV (by exact gG T rfl rfl rfl rfl) ?_;refine bS (bZ rfl rfl) rfl (aV ?_))|(refine rg 2 (dR rfl (vV (by exact JN T rfl rfl rfl rfl rfl) ?_));refine fO [2,1] rfl rfl hc rfl rfl (by decide) ⟨.inr rfl,.inr rfl,trivial⟩ (by simp) rfl ?_;refine aU T rfl rfl rfl rfl rfl rfl (by decide) rfl ?_)|refine nZ ?_));exact rQ
theorem FG (f:Fit n w0 ids):aP Tryz.prog 14 [worldsA w0,.rowE (ints ids) 1] [] (.i (need ids w0:Nat)) []:=by
  have hc:=solve_c f;refine bL T Tryz.func14 rfl rfl rfl rfl ?_
  (repeat' (first|refine wS ?_|refine wR ?_|(refine rg 0 (aV ?_))|(refine rg 1 (dR rfl (vV (kC (hc)) (vV (by exact N7 T rfl zS0 rfl rfl) ?_)));refine aV ?_)|refine nZ ?_));exact rQ
theorem MG (f:Fit n w0 ids):aP Tryz.prog 13 [worldsA w0,.rowE (ints ids) 1] [] (.tup [.i (max (needM ids w0).2 0),.b (decide (0≤(needM ids w0).2))]) []:=by
  have hc:=solve_c f;refine bL T Tryz.func13 rfl rfl rfl rfl ?_
  (repeat' (first|refine wS ?_|refine wR ?_|(refine rg 0 (lO ?_))|(refine rg 1 (dR rfl (vV (kC (hc)) (bS (bM T rfl) rfl (aU T rfl rfl rfl rfl rfl rfl (by decide) rfl ?_)))))|(refine bO (id:=2) 16 [[],[0],[0,1],[],[3],[3,4],[0,1,2]] [10,11,12,13,14,15,4] [[],[],[],[10,11,12],[10,11,12],[10,11,12],[13,14,15]] cK rfl (by decide +kernel) (dP T rfl (dO T rfl (dV rfl (uJ rfl rfl) (dP T rfl (dO T rfl (dV rfl (fM rfl rfl) (dV rfl (dS rfl) (dE ?_))))))));refine aV ?_)|refine nZ ?_));exact rQ
end
end Go.Proofs.YtojgimibalokkaaGreat.L4
namespace Go.Ld
open Go.Ab Go.Proofs.YtojgimibalokkaaGreat
theorem yA2 {o:Lk.Ws}{x:List Int}:(o.any fun a=>decide (a=x))=decide (x∈o):=by
  rw [iK,iZ,decide_eq_true_eq];exact ⟨fun ⟨a,h1,h2⟩=>of_decide_eq_true h2▸h1,fun h=>⟨x,h,decide_eq_true rfl⟩⟩
theorem XG {l:List W}{k:Nat}(h:k<l.length):sN (l.take (k+1))=if l[k].1∈sN (l.take k) then sN (l.take k) else sN (l.take k)++[l[k].1]:=by
  rw [aM h,XH];rfl
theorem zL1 {l:List Int}:l.getD 0 0=l.headD 0:=by cases l <;> rfl
end Go.Ld
namespace Go.Proofs.YtojgimibalokkaaGreat
open Go Go.Ab Go.Ld
attribute [local irreducible] VC AW cF aP kG
set_option maxHeartbeats 4000000
theorem ZL:aP Tryz.prog 38 [.nils] [] (.rowE (ints []) 1) []:=
  EJ (jS (len:=0) rfl rfl (J4 [] (by decide))) fun S w ρ ys=>lL (fun _ h=>BF h) fun _ h=>h
theorem TL (c:Cx) (gs:List G) (b:Int) (h:kQ c gs) (hg:tD gs b=none) :
    aP Tryz.prog 21 [.pr (kN c gs) 0,.i b] [] (.rowE (ints []) 1) []:=by
  have hl12:gs.length≤12:=bY h.mid.out.len h.mid.out.ln;have hgr:=YN c gs b (by omega) (fun x hx=>by have:=(h.mid.out.ok x hx).ln;omega) hg
  refine bL T Tryz.func21 rfl rfl rfl rfl ?_
  (repeat' (first|refine wS ?_|refine wR ?_|(refine rg 0 (aV ?_))|(refine rg 1 (dR rfl (vV (kC (hgr)) (mW rfl (xW rfl (xW rfl (xW rfl (bS (bM T rfl) rfl (aU T rfl rfl rfl rfl rfl rfl (by decide) rfl (lO ?_))))))))))|(refine rg 2 (fR T rfl (vV (kC (ZL)) (aV ?_))))|refine nZ ?_));all_goals first | (exfalso;omega) | exact rQ
theorem TM (c:Cx) (gs:List G) (b:Int) (h:kQ c gs){g:G}{i:Nat}(hg:tD gs b=some (g,i)) :
    aP Tryz.prog 21 [.pr (kN c gs) 0,.i b] [] (.rowE (ints g.1) 1) []:=
  jS (len:=g.1.length) (dH _).symm (iG (cJ _)) (YO c gs b h hg)
theorem yE0 (a:List Int) (w:W) (ha:a.length≤9223372036854775806):aP Tryz.prog 36 [.rowE (ints a) 1,.pr (wA w) 0] [] (.b (decide (a=w.1))) []:=by
  have he:=ZB a w.1 ha;obtain ⟨wp,wm,wc⟩:=w;dsimp only at *;generalize decide (a=wp)=v at *;refine bL T Tryz.func36 rfl rfl rfl rfl ?_
  (repeat' (first|refine wS ?_|refine wR ?_|(refine rg 0 (aV ?_))|(refine rg 1 (mW rfl (fR T rfl (vV (kC (he)) (aV ?_)))))|refine nZ ?_));all_goals first | (exfalso;omega) | exact rQ
theorem zT0 (w:Lk.Ws):AV.plnL (L4.wsA w).flatten=true:=sH (fun _=>rfl) w
theorem yD9 (c:Cx) (gs:List G) (b:Int) (h:kQ c gs){g:G}{i:Nat}(hg:tD gs b=some (g,i)) :
    aP Tryz.prog 9 [.pr (kN c gs) 0,.i b] [] (L4.worldsA (sN g.2)) []:=by
  obtain ⟨k0,h1,h2,h3,h4⟩:=nC hg;have hgm:=aH h2;have og:=h.mid.out.ok g hgm;have hwl:=h.mid.wl g hgm;have hw:=QW c gs b h hg;have hln:=og.ln;have hpl:∀ w,w∈g.2→w.1.length≤6:=fun w hw=>by rw [(og.ws w hw).pl];exact hln
  clear hg h1 h2 h3 h4 hgm og;generalize g.2=ws at *;have hwsl:(wsA ws).length=ws.length:=eZ _;have hol:∀ k,(sN (ws.take k)).length≤1000:=fun k=>by
    have:=OY (ws.take k);rw [bE] at this;omega
  have hom:∀ k a,a∈sN (ws.take k)→a.length≤9223372036854775806:=fun k a ha=>by
    obtain ⟨w,hw,rfl⟩:=kT.1 ha;have:=hpl w (eK hw);omega
  have hoL:∀ o:Lk.Ws,(L4.wsA o).length=o.length:=fun o=>aX _
  refine jS (len:=(sN ws).length) (hoL _).symm (iG (L4.wsA_idf _)) ?_;refine bL T Tryz.func9 rfl rfl rfl rfl ?_
  (repeat' (first|refine wS ?_|(refine rg 0 (aV ?_))|refine nZ ?_));all_goals try (exfalso;omega)
  (repeat' (first|refine wS ?_|(refine rg 1 (vV (dS rfl) (rY 5 1 rfl (by decide) ?_)))|refine nZ ?_));all_goals try (exfalso;omega)
  (repeat' (first|refine wB ?_|(refine rg 2 (dR rfl (vV (kC (hw)) (qW T rfl (mV ?_)))))|refine nZ ?_));all_goals try (exfalso;omega)
  refine cX (X:={k:Nat // k≤ws.length}) (fun k=>[(5,.sl 0 0 (sN (ws.take k.1)).length 1),(10,.rowE (wsA ws) 3),(11,.i (wsA ws).length),(12,.i k.1)]) (fun k=>[.arr (L4.wsA (sN (ws.take k.1))) 1]) (fun k=>ws.length-k.1) ⟨0,cC _⟩ ⟨[0],rfl,(by repeat first|exact trivial|refine ⟨rfl,?_⟩),⟨.inr rfl,trivial⟩,by decide,kP _⟩ ?_
  rintro ⟨k,hk⟩;dsimp only;by_cases hlt:k<ws.length
  · have hgk:=tJ hlt;have q1:=hol k;have q2:=hom k;have q5:=XG hlt;have hcl:=jS (len:=(ws[k]).1.length) (dH _).symm (iG (cJ _)) (J4 (ws[k]).1 (by have:=hpl _ (aI hlt);omega))
    generalize sN (ws.take k)=o at *;have hcf:=L4.containsFunc_c (w:=o) (F:=36) (caps:=[.pr (wA ws[k]) 0]) (q:=fun a=>decide (a=(ws[k]).1)) q1 rfl (fun a ha=>yE0 a ws[k] (q2 a ha));rw [yA2] at hcf;generalize ws[k]=w at *;obtain ⟨wp,wm,wc⟩:=w;dsimp only at *;have hwl:=hoL o;have hoi:=L4.wsA_idf o;have hop:=zT0 o;by_cases hin:wp∈o
    · rw [if_pos hin] at q5;rw [decide_eq_true hin] at hcf
      (repeat' (first|refine wS ?_|refine wB ?_|refine wK ?_|(refine wC rfl ?_ ?_<;>(intro hb;(try simp only [nm] at hb);try (exfalso;omega)))|(refine rg 3 (vV (aK rfl rfl) ?_))|(refine rg 4 (vV (ix T rfl (by omega) (nH _) hgk) (lW T rfl (bS (bM T rfl) rfl (aU T rfl rfl rfl rfl rfl rfl (by decide) rfl ?_)))))|refine nZ ?_));all_goals try (exfalso;omega)
      refine eI 7 (cs:=wA (wp,wm,wc)) rfl rfl rfl ?_
      (repeat' (first|refine wK ?_|refine wU ?_|(refine rg 5 (mW rfl (vV (by exact gI rfl rfl) ?_));refine vV (by exact eC rfl rfl hcf (.cons (qG rfl hwl.symm hop) (.cons (.clo .nil (.cons (.pr _ _) .nil)) .nil)) rfl rfl) ?_;refine vV (cT rfl) ?_)|(refine rg 7 (vV (bP rfl rfl (by omega) (by omega)) (mV ?_)))|refine nZ ?_));all_goals try (exfalso;omega)
      all_goals exact ⟨⟨k+1,hlt⟩,by dsimp only;omega,⟨[0],rfl,(by dsimp only;rw [q5];(repeat (first | exact trivial | refine ⟨rfl,?_⟩))),⟨.inr (aE rfl (by dsimp only;rw [q5]) (by dsimp only;rw [q5];exact hoi)),trivial⟩,by decide,kP _⟩⟩
    · rw [if_neg hin] at q5;rw [decide_eq_false hin] at hcf;have q6:L4.wsA (sN (ws.take (k+1)))=L4.wsA o++[[.rowE (ints wp) 1]]:=by rw [q5,L4.wsA,dJ];rfl
      have q7:(sN (ws.take (k+1))).length=o.length+1:=by rw [q5,aF];rfl
      have q8:=L4.wsA_idf (sN (ws.take (k+1)));unfold L4.worldsA at hcf;generalize L4.wsA o=A at *
      (repeat' (first|refine wS ?_|refine wB ?_|refine wK ?_|(refine wC rfl ?_ ?_<;>(intro hb;(try simp only [nm] at hb);try (exfalso;omega)))|(refine rg 3 (vV (aK rfl rfl) ?_))|(refine rg 4 (vV (ix T rfl (by omega) (nH _) hgk) (lW T rfl (bS (bM T rfl) rfl (aU T rfl rfl rfl rfl rfl rfl (by decide) rfl ?_)))))|refine nZ ?_));all_goals try (exfalso;omega)
      refine eI 7 (cs:=wA (wp,wm,wc)) rfl rfl rfl ?_
      (repeat' (first|refine wT ?_|(refine rg 5 (mW rfl (vV (by exact gI rfl rfl) ?_));refine vV (by exact eC rfl rfl hcf (.cons (qG rfl hwl.symm hop) (.cons (.clo .nil (.cons (.pr _ _) .nil)) .nil)) rfl rfl) ?_;refine vV (cT rfl) ?_)|(refine rg 6 (mW rfl (fR T rfl (vV (kC (hcl)) (bS (by exact bF T rfl rfl (by decide) (by decide) rfl rfl rfl) rfl ?_))));refine gD T rfl rfl rfl rfl rfl rfl (by omega) (kZ.whole rfl rfl) rfl (by simp;omega) (by simp;omega) rfl ?_;refine aV ?_)|(refine rg 7 (vV (bP rfl rfl (by omega) (by omega)) (mV ?_)))|refine nZ ?_));all_goals try (exfalso;omega)
      all_goals exact ⟨⟨k+1,hlt⟩,by dsimp only;omega,⟨[3],rfl,(by dsimp only;rw [q7];(repeat (first | exact trivial | refine ⟨rfl,?_⟩))),⟨.inr (aE rfl (by dsimp only;rw [q6];exact mN hwl.symm) q8),trivial⟩,by decide,kP _⟩⟩
  · obtain rfl:k=ws.length:=by omega
    rw [cQ]
    (repeat' (first|refine wS ?_|refine wR ?_|refine wE ?_|(refine wC rfl ?_ ?_<;>(intro hb;(try simp only [nm] at hb);try (exfalso;omega)))|(refine rg 3 (vV (aK rfl rfl) ?_))|(refine rg 8 (mW rfl (aV ?_)))|refine nZ ?_));all_goals try (exfalso;omega)
    exact ⟨.inl rfl,[0],_,rfl,rfl,rfl,⟨.inr (aE rfl rfl (L4.wsA_idf _)),trivial⟩,by decide,kP _⟩
theorem PY {c:Cx}{gs:List G}(h:kQ c gs){g:G}(hg:g∈gs){ids:List Int}(hi:ids.length≤1000):L4.Fit g.1.length (sN g.2) ids where
  ok:=xP (h.mid.out.ok g hg) (h.mid.ne g hg)
  n6:=(h.mid.out.ok g hg).ln
  len:=bY (OY _) (h.mid.wl g hg)
  rng:=fun b hb x hx=>by
    obtain ⟨w,hw,rfl⟩:=kT.1 hb;have:=((h.mid.out.ok g hg).ws w hw).pr x hx;have:=h.mid.n12;unfold L4.rngI;omega
  ids:=hi
theorem EX (c:Cx) (gs:List G) (ids:List Int) (h:kQ c gs) (hi:ids.length≤1000) :
    aP Tryz.prog 7 [.pr (kN c gs) 0,.rowE (ints ids) 1] [] (.tup [.i (lT ids gs).1,.i ((lT ids gs).2:Nat)]) []:=by
  have n12:=h.mid.n12;refine bL T Tryz.func7 rfl rfl rfl rfl ?_
  (repeat' (first|refine wS ?_|refine wB ?_|(refine rg 0 (lO ?_))|(refine rg 1 (aV ?_))|(refine rg 2 (aV ?_))|refine nZ ?_));refine cX (X:={x:Nat × Nat // x.1≤c.bs.length∧NR gs x.1 x.2}) (fun x=>[(0,.pr (kN c gs) 0),(1,.rowE (ints ids) 1),(4,.i (lT ids (gs.take x.1.2)).1),(5,.i ((lT ids (gs.take x.1.2)).2:Nat)),(6,.i (x.1.1:Int))]) (fun _=>[]) (fun x=>c.bs.length-x.1.1) ⟨(0,0),cC _,RG h⟩ ⟨[],rfl,(by repeat first|exact trivial|refine ⟨rfl,?_⟩),trivial,bK,kP _⟩ ?_
  rintro ⟨⟨b,j⟩,hb,hu⟩;dsimp only at hb hu ⊢;have hbd:=H2 ids h j;cases hq:tD gs b with
  | none=>
    have hgl:=TL c gs b h hq;have hnl:(ints []).length=0:=rfl;rw [VB h hu (YM h (by omega) hq)]
    (repeat' (first|refine wS ?_|refine wB ?_|refine wR ?_|refine wT ?_|(refine rg 4 (dR rfl (vV (kC (hgl)) (aV ?_))))|(refine rg 5 (mW rfl (qW T rfl (vV (bW rfl rfl) ?_))))|(refine rg 6 (dR rfl (lO ?_)))|refine nZ ?_));all_goals first | (exfalso;omega) | exact rQ
  | some x=>
    obtain ⟨g,i⟩:=x;have hgl:=TM c gs b h hq;obtain ⟨b0,b1⟩:=zX9 h hq;obtain ⟨k0,_,h2,h3,_⟩:=nC hq;have hgm:=aH h2;have og:=h.mid.out.ok g hgm;have hln:=og.ln;have hl0:0<g.1.length:=eV.2 og.ne;have hgi:(ints g.1).length=g.1.length:=dH _;have q0:=nK (l:=g.1) (j:=0) (i:=0) 0 hl0 rfl;rw [zL1] at q0;by_cases he:g.1.headD 0=b
    · obtain ⟨hgj,hu2⟩:=RH h hu hq he;have hof:=yD9 c gs b h hq;have hso:=L4.solve_c (PY h hgm hi);have hpt:=SE ids hgj;have hbd2:=H2 ids h (j+1);have hnx:=fun p hp=>(Lk.need_next (xP og (h.mid.ne g hgm)) ids (p:=p) hp (Lk.hd_mem (xP og (h.mid.ne g hgm)).ne)).1;have ep2:(tQ ids (lT ids (gs.take j)) g).2=(lT ids (gs.take j)).2+(Lk.needM ids (sN g.2)).1:=rfl;have ep1:(tQ ids (lT ids (gs.take j)) g).1=if (lT ids (gs.take j)).1<0∧0≤(Lk.needM ids (sN g.2)).2 then g.1.getD (Lk.needM ids (sN g.2)).2.toNat 0 else (lT ids (gs.take j)).1:=rfl
      rw [← hpt] at ep1 ep2;clear hpt;generalize lT ids (gs.take j)=P at *;generalize Lk.needM ids (sN g.2)=N at *;obtain ⟨P1,Pn⟩:=P;obtain ⟨N1,N2⟩:=N;dsimp only at *;by_cases hc:P1<0∧0≤N2
      · rw [if_pos hc] at ep1;have hnl:=hnx N2.toNat (by omega)
        have q2:=nK (l:=g.1) (j:=N2) (i:=N2.toNat) 0 hnl (by omega)
        generalize g.1.getD N2.toNat 0=nb at *
        (repeat' (first|refine wS ?_|refine wB ?_|refine wK ?_|(refine wC rfl ?_ ?_<;>(intro hb;(try simp only [nm] at hb);try (exfalso;omega)))|(refine rg 4 (dR rfl (vV (kC (hgl)) (aV ?_))))|(refine rg 5 (mW rfl (qW T rfl (vV (bW rfl rfl) ?_))))|(refine rg 7 (mW rfl (vV (ix T rfl (by omega) (ints_len _) q0) (lW T rfl (mW rfl (vV (dI rfl rfl) ?_))))))|(refine rg 8 (dR rfl (vV (kC (hof)) (mW rfl (vV (kC (hso)) (bS (bM T rfl) rfl (aU T rfl rfl rfl rfl rfl rfl (by decide) rfl ?_)))))))|refine nZ ?_));all_goals try (exfalso;omega)
        refine eI 8 (cs:=[.i (N1:Int),.i N2]) rfl rfl rfl ?_
        (repeat' (first|refine wS ?_|(refine wC rfl ?_ ?_<;>(intro hb;(try simp only [nm] at hb);try (exfalso;omega)))|(refine rg 9 (mW rfl (fR T rfl (vV (bP rfl rfl (by omega) (by omega)) (aV ?_)))))|(refine rg 10 (mW rfl (vV (aK rfl rfl) (mV ?_)));refine aY rfl rfl ?_ ?_<;>(intro hb;rw [hb];(try simp only [nm] at hb);try (exfalso;omega));(all_goals (refine yP T rfl (yO T rfl (yV (fM rfl rfl) (pV ?_))))))|(refine rg 11 (mW rfl (fR T rfl (vV (ix T rfl (by omega) (ints_len _) q2) (lW T rfl (aV ?_))))))|(refine iA 3 rfl rfl rfl (by omega) (by omega) ?_)|refine nZ ?_));all_goals try (exfalso;omega)
        all_goals exact ⟨⟨(b+1,j+1),by dsimp only;omega,hu2⟩,by dsimp only;omega,⟨[],rfl,(by dsimp only;rw [ep1,ep2];(repeat (first | exact trivial | refine ⟨rfl,?_⟩))),trivial,bK,kP _⟩⟩
      · rw [if_neg hc] at ep1
        (repeat' (first|refine wS ?_|refine wB ?_|refine wK ?_|(refine wC rfl ?_ ?_<;>(intro hb;(try simp only [nm] at hb);try (exfalso;omega)))|(refine rg 4 (dR rfl (vV (kC (hgl)) (aV ?_))))|(refine rg 5 (mW rfl (qW T rfl (vV (bW rfl rfl) ?_))))|(refine rg 7 (mW rfl (vV (ix T rfl (by omega) (ints_len _) q0) (lW T rfl (mW rfl (vV (dI rfl rfl) ?_))))))|(refine rg 8 (dR rfl (vV (kC (hof)) (mW rfl (vV (kC (hso)) (bS (bM T rfl) rfl (aU T rfl rfl rfl rfl rfl rfl (by decide) rfl ?_)))))))|refine nZ ?_));all_goals try (exfalso;omega)
        refine eI 8 (cs:=[.i (N1:Int),.i N2]) rfl rfl rfl ?_
        (repeat' (first|refine wS ?_|refine wK ?_|refine wU ?_|(refine wC rfl ?_ ?_<;>(intro hb;(try simp only [nm] at hb);try (exfalso;omega)))|(refine rg 9 (mW rfl (fR T rfl (vV (bP rfl rfl (by omega) (by omega)) (aV ?_)))))|(refine rg 10 (mW rfl (vV (aK rfl rfl) (mV ?_)));refine aY rfl rfl ?_ ?_<;>(intro hb;rw [hb];(try simp only [nm] at hb);try (exfalso;omega));(all_goals first|(refine gT (fW T rfl (gT (lW T rfl (gT (vV (fM rfl rfl) ?_))))))|(iterate 3 refine gF ?_));(all_goals (refine pV ?_)))|(refine iA 3 rfl rfl rfl (by omega) (by omega) ?_)|refine nZ ?_));all_goals try (exfalso;omega)
        all_goals exact ⟨⟨(b+1,j+1),by dsimp only;omega,hu2⟩,by dsimp only;omega,⟨[],rfl,(by dsimp only;rw [ep1,ep2];(repeat (first | exact trivial | refine ⟨rfl,?_⟩))),trivial,bK,kP _⟩⟩
    · have hu2:=RI h hu hq he
      (repeat' (first|refine wS ?_|refine wB ?_|refine wK ?_|refine wE ?_|(refine wC rfl ?_ ?_<;>(intro hb;(try simp only [nm] at hb);try (exfalso;omega)))|(refine rg 4 (dR rfl (vV (kC (hgl)) (aV ?_))))|(refine rg 5 (mW rfl (qW T rfl (vV (bW rfl rfl) ?_))))|(refine rg 7 (mW rfl (vV (ix T rfl (by omega) (ints_len _) q0) (lW T rfl (mW rfl (vV (dI rfl rfl) ?_))))))|(refine iA 3 rfl rfl rfl (by omega) (by omega) ?_)|refine nZ ?_));all_goals try (exfalso;omega)
      all_goals exact ⟨⟨(b+1,j),by dsimp only;omega,hu2⟩,by dsimp only;omega,⟨[],rfl,(by repeat first|exact trivial|refine ⟨rfl,?_⟩),trivial,bK,kP _⟩⟩
end Go.Proofs.YtojgimibalokkaaGreat
namespace Go.Ld
open Go.Ab Go.Proofs.YtojgimibalokkaaGreat
def yA5 (c:Cx) (r:AV) (o:Hp):Prop:=r = .tup [.v (.pointer none),.nils]∧o=[]∨∃ gs ps bs M,rE c gs ps bs M∧r = .tup [.ptr 0 0,.rowE (Go.Proofs.YtojgimibalokkaaGreat.ints ps) 1]∧o=[.cells (kN c gs)]
theorem WD {n:Int}{s:Ev}(h:gH n s=true) (hk:s.k=0):s.ids.Nodup:=by
  unfold gH at h;rw [if_pos hk] at h;simp only [aJ] at h;have ha:=h.2.2;unfold zA4 at ha;rw [bA] at ha;have key:∀ i,i<s.ids.length→0<i→s.ids.getD (i-1) 0<s.ids.getD i 0:=fun i hi h0=>(of_decide_eq_true (ha i (eJ.2 hi))).2.2 h0;have mono:∀ d i,i+d+1<s.ids.length→s.ids.getD i 0<s.ids.getD (i+d+1) 0:=fun d=>by
    induction d with
    | zero=>intro i hi;have:=key (i+1) (by omega) (by omega);simpa using this
    | succ d ih=>
      intro i hi;have h1:=ih i (by omega)
      have h2:=key (i+(d+1)+1) hi (by omega)
      rw [show i+(d+1)+1-1=i+d+1 by omega] at h2
      omega
  refine jF.2 fun i j hi hj hij e=>?_
  have:=mono (j-i-1) i (by omega)
  rw [show i+(j-i-1)+1=j by omega,aC,aC,aA hi,aA hj] at this
  simp only [iL] at this;omega
end Go.Ld
namespace Go.Proofs.YtojgimibalokkaaGreat
open Go Go.Ab Go.Ld
attribute [local irreducible] VC AW cF aP kG K3
set_option maxHeartbeats 4000000
theorem WL {c:Cx}(hc:qP c){ps:List Int}{bs:List BX}(h:qO c ps bs){s:Ev}(ha:0≤s.a∧s.a<c.bs.length) (hn:0≤s.n∧s.n≤1099511627776) (hids:s.ids.length≤9223372036854775806) (hnd:s.k=0→s.ids.Nodup) :
    aP Tryz.prog 19 [lH c.m c.st c.er c.sl,.rowE (fF c.ks) 2,.rowE (iF c.ls) 3,.rowE (ints ps) 1,.rowE (dY bs) 3,yF2 s] [] (.tup [.i (rD c ps s),.b (GL c ps (lS bs) s)]) []:=by
  have hf:=h.fit hc;have hpl:=h.len;have hbl:=h.t.len;obtain ⟨i0,i1⟩:=h.pq.at ha.1 ha.2;have h1:=PS (l:=ps) (i:=s.a.toNat) (by omega)
  have h2:=PT (l:=bs) (i:=(ps.getD s.a.toNat 0).toNat) (by omega)
  have:=WK (k:=s.k) (b:=s.b) (n:=s.n) (ids:=s.ids) hf hc.s ha.1 hn hids hnd h1 h2;rw [yA3 s h] at this;exact this
theorem zH0 {c:Cx}(hc:qP c){ps:List Int}{bs:List BX}(h:qO c ps bs){s:Ev}(ha:0≤s.a∧s.a<c.bs.length) (hb:s.k=4→s.a<s.b∧s.b<c.bs.length) (hn:0≤s.n∧s.n≤1099511627776) (hids:s.ids.length≤9223372036854775806) (hnd:s.k=0→s.ids.Nodup) (done:Int) :
    ((GL c ps (lS bs) s&&rR c ps (lS bs) s done)=true∧aP Tryz.prog 20 [lH c.m c.st c.er c.sl,.rowE (fF c.ks) 2,.rowE (iF c.ls) 3,.rowE (ints ps) 1,.rowE (dY bs) 3,yF2 s,.i done] [] (.tup [.rowE (ints (rS ps s done)) 1,.rowE (dY (yC ps bs s done)) 3,.b true]) []) ∨
    ((GL c ps (lS bs) s&&rR c ps (lS bs) s done)=false∧aP Tryz.prog 20 [lH c.m c.st c.er c.sl,.rowE (fF c.ks) 2,.rowE (iF c.ls) 3,.rowE (ints ps) 1,.rowE (dY bs) 3,yF2 s,.i done] [] (.tup [.nils,.nils,.b false]) []):=by
  have hf:=h.fit hc;have hpl:=h.len;have hbl:=h.t.len;obtain ⟨i0,i1⟩:=h.pq.at ha.1 ha.2;have h1:=PS (l:=ps) (i:=s.a.toNat) (by omega)
  have h2:=PT (l:=bs) (i:=(ps.getD s.a.toNat 0).toNat) (by omega)
  have hag:=WL hc h ha hn hids hnd;have hcT:C5 c.sl (bs.getD (ps.getD s.a.toNat 0).toNat (0,0,0)).2.1 s.k s.n done=rR c ps (lS bs) s done:=by unfold rR;rw [J3]
  cases e1:GL c ps (lS bs) s
  · rw [e1] at hag;exact .inr ⟨rfl,CV hf hc.s ha.1 hn h1 h2 (.inl rfl) hag⟩
  · rw [e1] at hag;cases e2:rR c ps (lS bs) s done
    · rw [e2] at hcT;exact .inr ⟨rfl,CV hf hc.s ha.1 hn h1 h2 (.inr hcT) hag⟩
    · rw [e2] at hcT;refine .inl ⟨rfl,?_⟩;have:=LX hf hc.s ha.1 hn h1 h2 hcT (fun k=>by have:=hb k;omega) hag
      exact NQ (by rw [dH];exact (zM ..).symm) (by rw [aX];exact (BC ..).symm) (MM _) (NG _) rfl this
theorem VZ (c:Cx) (ps:List Int) (l:List Ev) (d:List Int) (h1:c.ks.length≤1000) (h2:c.ls.length≤1000) (h3:c.bs.length≤1000) (hno:(!sE c&&LP c.ks c.ls c.bs)=false) :
    aP Tryz.prog 6 [wH c.ks c.ls ps c.bs,lH c.m c.st c.er c.sl,.rowE (vJ l) 5,.rowE (ints d) 1] [] (.tup [.v (.pointer none),.nils]) []:=by
  have hn:=zV6 c h1 h2 h3 hno;refine bL T Tryz.func6 rfl rfl rfl rfl ?_
  (repeat' (first|refine wS ?_|(refine rg 0 (bS (bZ rfl rfl) rfl (bS (bZ rfl rfl) rfl (lO ?_))))|refine nZ ?_));refine eI 4 (cs:=[.rowE (fF c.ks) 2,.rowE (iF c.ls) 3,.rowE (ints ps) 1,.rowE (dY c.bs) 3]) rfl rfl rfl ?_
  refine eI 5 (cs:=[.i c.m,.i c.st,.i c.er,.i c.sl]) rfl rfl rfl ?_
  (repeat' (first|refine wS ?_|refine wR ?_|refine wT ?_|(refine rg 1 (lW T rfl (fR T rfl (fR T rfl (fR T rfl (vV (kC (hn)) (mW rfl (xW rfl (xW rfl (lO ?_))))))))))|(refine rg 2 (mW rfl (vV (dI rfl rfl) (mV ?_)));(iterate 2 refine gF ?_);refine pW rfl (mV ?_);(iterate 5 refine gF ?_);refine pV ?_)|(refine rg 3 (lO ?_))|refine nZ ?_));all_goals first | (exfalso;omega) | exact rQ
theorem zU3 (c:Cx) (hc:qP c) (ps:List Int) (l:List Ev) (d:List Int) (hids:∀ s,s∈l→s.ids.length≤9223372036854775806) (hl:l.length≤1000) :
    K3 Tryz.prog 6 [wH c.ks c.ls ps c.bs,lH c.m c.st c.er c.sl,.rowE (vJ l) 5,.rowE (ints d) 1] [] (yA5 c):=by
  have hbl:(dY c.bs).length=c.bs.length:=aX _;have hn8:=hc.f.n8;have hnl:(nats (List.range c.bs.length)).length=c.bs.length:=by simp
  rw [hnl] at hn8;have hi:=ident_c c.bs.length (by omega)
  rw [← hbl] at hi;rw [hbl] at hi;have hel:(vJ l).length=l.length:=aX _;have hdl:(ints d).length=d.length:=dH _;have hn:=zV7 c hc;have hg0:=rE.new hc (by omega)
  have hm0:=hc.s.1;have hm1:=hc.s.2.1;generalize nats (List.range c.bs.length)=I at *;rw [← hbl] at hi;refine yD3 T Tryz.func6 rfl rfl rfl rfl ?_
  (repeat' (first|refine wS ?_|(refine rg 0 (bS (bZ rfl rfl) rfl (bS (bZ rfl rfl) rfl (lO ?_))))|refine nZ ?_));refine eI 4 (cs:=[.rowE (fF c.ks) 2,.rowE (iF c.ls) 3,.rowE (ints ps) 1,.rowE (dY c.bs) 3]) rfl rfl rfl ?_
  refine eI 5 (cs:=[.i c.m,.i c.st,.i c.er,.i c.sl]) rfl rfl rfl ?_;by_cases hdl2:d.length=l.length
  case neg=>
    (repeat' (first|refine wS ?_|refine wR ?_|(refine wC rfl ?_ ?_<;>(intro hb;(try simp only [nm] at hb);try (exfalso;omega)))|(refine rg 1 (lW T rfl (fR T rfl (fR T rfl (fR T rfl (bS (by exact hO rfl rfl hn (.inr ⟨rfl,rfl,by simp⟩)) rfl ?_)))));refine mW rfl (xW rfl (xW rfl (lO ?_))))|(refine rg 2 (mW rfl (vV (dI rfl rfl) (mW rfl (yN rfl (yV (by exact pC BQ rfl rfl rfl) ?_)))));refine pW rfl (mW rfl (yN rfl (gT (qW T rfl (yN rfl (gT (qW T rfl (yV (dI rfl rfl) (pV ?_))))))))))|(refine rg 3 (lO ?_))|refine nZ ?_));all_goals first | (exfalso;omega) | exact ⟨_,_,.inl ⟨rfl,rfl⟩,rQ⟩
  (repeat' (first|refine wS ?_|refine wB ?_|refine wK ?_|(refine wC rfl ?_ ?_<;>(intro hb;(try simp only [nm] at hb);try (exfalso;omega)))|(refine rg 1 (lW T rfl (fR T rfl (fR T rfl (fR T rfl (bS (by exact hO rfl rfl hn (.inr ⟨rfl,rfl,by simp⟩)) rfl ?_)))));refine mW rfl (xW rfl (xW rfl (lO ?_))))|(refine rg 2 (mW rfl (vV (dI rfl rfl) (mW rfl (yN rfl (yV (by exact pC BQ rfl rfl rfl) ?_)))));refine pW rfl (mW rfl (yN rfl (gT (qW T rfl (yN rfl (gT (qW T rfl (yV (dI rfl rfl) (pV ?_))))))))))|(refine rg 4 (fR T rfl (qW T rfl (vV (kC (hi)) (aV ?_)))))|(refine rg 5 (fR T rfl (aV ?_)))|(refine rg 6 (aV ?_))|(refine rg 7 (aV ?_))|refine nZ ?_));all_goals try (exfalso;omega)
  refine cX (X:={x:Nat × List G × List Int × List BX × Int // x.1≤l.length∧rE c x.2.1 x.2.2.1 x.2.2.2.1 x.2.2.2.2}) (fun x=>[(2,.rowE (vJ l) 5),(3,.rowE (ints d) 1),(4,.pr [.rowE (fF c.ks) 2,.rowE (iF c.ls) 3,.rowE (ints ps) 1,.rowE (dY c.bs) 3] 0),(5,.pr [.i c.m,.i c.st,.i c.er,.i c.sl] 0),(10,.ptr 0 0),(12,.rowE (ints x.1.2.2.1) 1),(13,.rowE (dY x.1.2.2.2.1) 3),(14,.i x.1.2.2.2.2),(15,.i (x.1.1:Int))]) (fun x=>[.cells (kN c x.1.2.1)]) (fun x=>l.length-x.1.1) ⟨(0,uG c,I,c.bs,0),cC _,hg0⟩ (fU [2]) ?_;rintro ⟨⟨k,gs,p,bs,M⟩,hk,hT⟩;dsimp only at hk hT ⊢;have hM0:=hT.m0;have hM1:=hT.m1;by_cases hlt:k<l.length
  · have hg:=AL hlt;have hdg:=nK (l:=d) (j:=(k:Int)) (i:=k) 0 (by omega) rfl
    have hids1:=hids _ (aI hlt);have hright:=W9 c.bs.length l[k].k l[k].a l[k].b l[k].n l[k].ids (by omega) ⟨by omega,by omega⟩
    rw [← hbl] at hright;generalize l[k]=s at *;generalize d.getD k 0=dn at *;have hsil:(Go.Ab.ints s.ids).length=s.ids.length:=aX _;change aP _ _ _ _ (.b (gH _ s)) _ at hright;rw [hbl] at hright;cases hr:gH c.bs.length s with
    | false=>
      rw [hr] at hright;rw [← hbl] at hright
      (repeat' (first|refine wS ?_|refine wB ?_|refine wK ?_|refine wR ?_|refine wT ?_|(refine wC rfl ?_ ?_<;>(intro hb;(try simp only [nm] at hb);try (exfalso;omega)))|(refine rg 8 (dR rfl (qW T rfl (vV (aK rfl rfl) ?_))))|(refine bO (id:=10) 123 yP6 (rM 57 9) yP7 cK rfl (by decide +kernel) (dP T rfl (dO T rfl (dV rfl (lD T rfl rfl) (dN rfl (dN rfl (dV rfl (ix T rfl (by omega) (jV _) hg) (dO T rfl (dV rfl (kC (hright)) (dV rfl (cT rfl) ?_)))))))));refine dE ?_)|(refine rg 11 (lO ?_))|refine nZ ?_));all_goals first | (exfalso;omega) | exact ⟨_,_,.inl ⟨rfl,rfl⟩,rQ⟩
    | true=>
      rw [hr] at hright;rw [← hbl] at hright;obtain ⟨r1,r2,r3,r4⟩:=pI hr (by omega)
      have hnd:=WD hr;have hag:=WL hc hT.re r1 ⟨r3,r4⟩ hids1 hnd;have haf:=zH0 hc hT.re r1 r2 ⟨r3,r4⟩ hids1 hnd dn;have hst:=fun h1 h2 h3=>hT.step (done:=dn) hc hr h1 h2 h3;have hse:=zQ8 c gs s hc hT.gk (by omega)
      have hmi:=QN c.st (p.getD s.a.toNat 0) s.k s.ids;change 0≤rD c p s∧rD c p s≤1 at hmi;generalize rD c p s=mi at *;generalize lS bs=q at *;generalize GL c p q s=ag at *;generalize rR c p q s dn=cn at *;generalize rS p s dn=p' at *;generalize yC p bs s dn=bs' at *;generalize lR c gs s=R at *;obtain ⟨code,gs'⟩:=R;dsimp only at *;rcases haf with ⟨e1,haf⟩ | ⟨e1,haf⟩
      · obtain ⟨rfl,rfl⟩:=Bool.and_eq_true_iff.1 e1;by_cases hM2:M+mi≤c.m
        · by_cases h0:code=0
          · subst h0;obtain ⟨_,hT2,_⟩:=(hst rfl rfl hM2).resolve_left (by decide)
            (repeat' (first|refine wS ?_|refine wB ?_|refine wK ?_|refine wU ?_|(refine wC rfl ?_ ?_<;>(intro hb;(try simp only [nm] at hb);try (exfalso;omega)))|(refine rg 8 (dR rfl (qW T rfl (vV (aK rfl rfl) ?_))))|(refine bO (id:=10) 123 yP6 (rM 57 9) yP7 cK rfl (by decide +kernel) (dP T rfl (dO T rfl (dV rfl (lD T rfl rfl) (dN rfl (dN rfl (dV rfl (ix T rfl (by omega) (jV _) hg) (dO T rfl (dV rfl (kC (hright)) (dV rfl (cT rfl) ?_)))))))));refine dE ?_)|(refine bO (id:=12) 123 yP8 [67,68,69,70,71,72,73,74,75,76,77,78,66,79,80,16] yP9 cK rfl (by decide +kernel) (dO T rfl (dP T rfl (dO T rfl (dP T rfl (dO T rfl (dN rfl (dN rfl (dN rfl (dM ?_)))))))));refine dV rfl (ix T rfl (by omega) (jV _) hg) (dO T rfl (dV rfl (kC (hag)) (dN rfl (dV rfl (by exact dU rfl rfl) ?_))));refine dV rfl (by exact dU rfl rfl) ?_;refine dV rfl (dS rfl) (dE ?_);refine aV ?_)|(refine bO (id:=13) 123 yQ0 [82,83,84,85,86,87,88,89,90,91,92,93,94,95,96,97,81,98,99,100,18,19] yQ1 cK rfl (by decide +kernel) (dO T rfl (dP T rfl (dO T rfl (dP T rfl (dO T rfl (dN rfl (dN rfl (dN rfl (dM ?_)))))))));refine dV rfl (ix T rfl (by omega) (jV _) hg) (dO T rfl (dN rfl (dN rfl (dV rfl (ix T rfl (by omega) (ints_len _) hdg) (dO T rfl (dV rfl (kC (haf)) (dN rfl (dV rfl (by exact dU rfl rfl) ?_))))))));refine dV rfl (by exact dU rfl rfl) ?_;refine dV rfl (by exact dU rfl rfl) ?_;refine dV rfl (dS rfl) (dV rfl (dS rfl) (dE ?_));refine aV ?_)|(refine rg 14 (dR rfl (vV (bP rfl rfl (by omega) (by omega)) (aV ?_))))|(refine rg 15 (mW rfl (vV (cT rfl) (mW rfl (yN rfl (yP T rfl (yO T rfl (yV (I5 rfl rfl (by omega)) (pV ?_)))))))))|(refine rg 17 (dR rfl (mW rfl (vV (ix T rfl (by omega) (jV _) hg) (lW T rfl (fO [0] rfl rfl (hse) rfl rfl (by decide) ⟨.inr rfl,trivial⟩ (by simp) rfl ?_)))));refine vV (dI rfl rfl) ?_)|(refine rg 19 (mW rfl (aV ?_)))|(refine rg 20 (mW rfl (aV ?_)))|(refine iA 9 rfl rfl rfl (by omega) (by omega) ?_)|refine nZ ?_));all_goals try (exfalso;omega)
            all_goals exact ⟨⟨(k+1,gs',p',bs',M+mi),by dsimp only;omega,hT2⟩,by dsimp only;omega,fU [0]⟩
          · (repeat' (first|refine wS ?_|refine wB ?_|refine wK ?_|refine wR ?_|refine J7 rfl ?_|(refine wC rfl (fun hb=>?_) (fun hb=>?_) <;> (((try simp only [nm] at hb);try (exfalso;omega))))|(refine rg 8 (dR rfl (qW T rfl (vV (aK rfl rfl) ?_))))|(refine bO (id:=10) 123 yP6 (rM 57 9) yP7 cK rfl (by decide +kernel) (dP T rfl (dO T rfl (dV rfl (lD T rfl rfl) (dN rfl (dN rfl (dV rfl (ix T rfl (by omega) (jV _) hg) (dO T rfl (dV rfl (kC (hright)) (dV rfl (cT rfl) ?_)))))))));refine dE ?_)|(refine bO (id:=12) 123 yP8 [67,68,69,70,71,72,73,74,75,76,77,78,66,79,80,16] yP9 cK rfl (by decide +kernel) (dO T rfl (dP T rfl (dO T rfl (dP T rfl (dO T rfl (dN rfl (dN rfl (dN rfl (dM ?_)))))))));refine dV rfl (ix T rfl (by omega) (jV _) hg) (dO T rfl (dV rfl (kC (hag)) (dN rfl (dV rfl (by exact dU rfl rfl) ?_))));refine dV rfl (by exact dU rfl rfl) ?_;refine dV rfl (dS rfl) (dE ?_);refine aV ?_)|(refine bO (id:=13) 123 yQ0 [82,83,84,85,86,87,88,89,90,91,92,93,94,95,96,97,81,98,99,100,18,19] yQ1 cK rfl (by decide +kernel) (dO T rfl (dP T rfl (dO T rfl (dP T rfl (dO T rfl (dN rfl (dN rfl (dN rfl (dM ?_)))))))));refine dV rfl (ix T rfl (by omega) (jV _) hg) (dO T rfl (dN rfl (dN rfl (dV rfl (ix T rfl (by omega) (ints_len _) hdg) (dO T rfl (dV rfl (kC (haf)) (dN rfl (dV rfl (by exact dU rfl rfl) ?_))))))));refine dV rfl (by exact dU rfl rfl) ?_;refine dV rfl (by exact dU rfl rfl) ?_;refine dV rfl (dS rfl) (dV rfl (dS rfl) (dE ?_));refine aV ?_)|(refine rg 14 (dR rfl (vV (bP rfl rfl (by omega) (by omega)) (aV ?_))))|(refine rg 15 (mW rfl (vV (cT rfl) (mW rfl (yN rfl (yP T rfl (yO T rfl (yV (I5 rfl rfl (by omega)) (pV ?_)))))))))|(refine rg 17 (dR rfl (mW rfl (vV (ix T rfl (by omega) (jV _) hg) (lW T rfl (fO [0] rfl rfl (hse) rfl rfl (by decide) ⟨.inr rfl,trivial⟩ (by simp) rfl ?_)))));refine vV (dI rfl rfl) ?_)|(refine rg 18 (lO ?_))|(refine nZ ?_)));all_goals first | (exfalso;omega) | exact ⟨_,_,.inl ⟨rfl,rfl⟩,rQ⟩
        · (repeat' (first|refine wS ?_|refine wB ?_|refine wK ?_|refine wR ?_|refine rA rfl ?_|refine J7 rfl ?_|(refine wC rfl (fun hb=>?_) (fun hb=>?_) <;> (((try simp only [nm] at hb);try (exfalso;omega))))|(refine rg 8 (dR rfl (qW T rfl (vV (aK rfl rfl) ?_))))|(refine bO (id:=10) 123 yP6 (rM 57 9) yP7 cK rfl (by decide +kernel) (dP T rfl (dO T rfl (dV rfl (lD T rfl rfl) (dN rfl (dN rfl (dV rfl (ix T rfl (by omega) (jV _) hg) (dO T rfl (dV rfl (kC (hright)) (dV rfl (cT rfl) ?_)))))))));refine dE ?_)|(refine bO (id:=12) 123 yP8 [67,68,69,70,71,72,73,74,75,76,77,78,66,79,80,16] yP9 cK rfl (by decide +kernel) (dO T rfl (dP T rfl (dO T rfl (dP T rfl (dO T rfl (dN rfl (dN rfl (dN rfl (dM ?_)))))))));refine dV rfl (ix T rfl (by omega) (jV _) hg) (dO T rfl (dV rfl (kC (hag)) (dN rfl (dV rfl (by exact dU rfl rfl) ?_))));refine dV rfl (by exact dU rfl rfl) ?_;refine dV rfl (dS rfl) (dE ?_);refine aV ?_)|(refine bO (id:=13) 123 yQ0 [82,83,84,85,86,87,88,89,90,91,92,93,94,95,96,97,81,98,99,100,18,19] yQ1 cK rfl (by decide +kernel) (dO T rfl (dP T rfl (dO T rfl (dP T rfl (dO T rfl (dN rfl (dN rfl (dN rfl (dM ?_)))))))));refine dV rfl (ix T rfl (by omega) (jV _) hg) (dO T rfl (dN rfl (dN rfl (dV rfl (ix T rfl (by omega) (ints_len _) hdg) (dO T rfl (dV rfl (kC (haf)) (dN rfl (dV rfl (by exact dU rfl rfl) ?_))))))));refine dV rfl (by exact dU rfl rfl) ?_;refine dV rfl (by exact dU rfl rfl) ?_;refine dV rfl (dS rfl) (dV rfl (dS rfl) (dE ?_));refine aV ?_)|(refine rg 14 (dR rfl (vV (bP rfl rfl (by omega) (by omega)) (aV ?_))))|(refine rg 15 (mW rfl (vV (cT rfl) (mW rfl (yN rfl (yP T rfl (yO T rfl (yV (PV rfl rfl (by omega)) (pV ?_)))))))))|(refine rg 16 (lO ?_))|(refine nZ ?_)));all_goals first | (exfalso;omega) | exact ⟨_,_,.inl ⟨rfl,rfl⟩,rQ⟩
      · (repeat' (first|refine wS ?_|refine wB ?_|refine wK ?_|refine wR ?_|refine rA rfl ?_|refine J7 rfl ?_|(refine wC rfl (fun hb=>?_) (fun hb=>?_) <;> (((try simp only [nm] at hb);try (exfalso;omega))))|(refine rg 8 (dR rfl (qW T rfl (vV (aK rfl rfl) ?_))))|(refine bO (id:=10) 123 yP6 (rM 57 9) yP7 cK rfl (by decide +kernel) (dP T rfl (dO T rfl (dV rfl (lD T rfl rfl) (dN rfl (dN rfl (dV rfl (ix T rfl (by omega) (jV _) hg) (dO T rfl (dV rfl (kC (hright)) (dV rfl (cT rfl) ?_)))))))));refine dE ?_)|(refine bO (id:=12) 123 yP8 [67,68,69,70,71,72,73,74,75,76,77,78,66,79,80,16] yP9 cK rfl (by decide +kernel) (dO T rfl (dP T rfl (dO T rfl (dP T rfl (dO T rfl (dN rfl (dN rfl (dN rfl (dM ?_)))))))));refine dV rfl (ix T rfl (by omega) (jV _) hg) (dO T rfl (dV rfl (kC (hag)) (dN rfl (dV rfl (by exact dU rfl rfl) ?_))));refine dV rfl (by exact dU rfl rfl) ?_;refine dV rfl (dS rfl) (dE ?_);refine aV ?_)|(refine bO (id:=13) 123 yQ0 [82,83,84,85,86,87,88,89,90,91,92,93,94,95,96,97,81,98,99,100,18,19] yQ1 cK rfl (by decide +kernel) (dO T rfl (dP T rfl (dO T rfl (dP T rfl (dO T rfl (dN rfl (dN rfl (dN rfl (dM ?_)))))))));refine dV rfl (ix T rfl (by omega) (jV _) hg) (dO T rfl (dN rfl (dN rfl (dV rfl (ix T rfl (by omega) (ints_len _) hdg) (dO T rfl (dV rfl (kC (haf)) (dN rfl (dV rfl (by exact dU rfl rfl) ?_))))))));refine dV rfl (by exact dU rfl rfl) ?_;refine dV rfl (by exact dU rfl rfl) ?_;refine dV rfl (dS rfl) (dV rfl (dS rfl) (dE ?_));refine aV ?_)|(refine rg 14 (dR rfl (vV (bP rfl rfl (by omega) (by omega)) (aV ?_))))|(refine rg 15 (mW rfl (vV (cT rfl) (mV ?_)));(iterate 4 refine gF ?_);refine pV ?_)|(refine rg 16 (lO ?_))|(refine nZ ?_)));all_goals first | (exfalso;omega) | exact ⟨_,_,.inl ⟨rfl,rfl⟩,rQ⟩
  · (repeat' (first|refine wS ?_|refine wR ?_|refine wE ?_|(refine wC rfl (fun hb=>?_) (fun hb=>?_) <;> (((try simp only [nm] at hb);try (exfalso;omega))))|(refine rg 8 (dR rfl (qW T rfl (vV (aK rfl rfl) ?_))))|(refine rg 21 (dR rfl (lO ?_)))|(refine nZ ?_)));all_goals try (exfalso;omega)
    all_goals exact ⟨_,_,.inr ⟨gs,p,bs,M,hT,rfl,rfl⟩,.inl rfl,[0],_,rfl,rfl,rfl,⟨.inr rfl,trivial⟩,by decide,kP _⟩
end Go.Proofs.YtojgimibalokkaaGreat
namespace Go.Proofs.YtojgimibalokkaaGreat.L4
open Go Go.Ab Go.Lk
attribute [local irreducible] VC AW cF aP
set_option maxHeartbeats 4000000
def S4:Ws:=[[0,1,2],[1,0,2],[2,1,0],[0,2,1]]
theorem TZ:aP Tryz.prog 12 [] [] (worldsA S4) []:=by
  refine jS (by simp [S4]:4=(wsA S4).length) (B2 (wsA_idf S4)) ?_
  refine bL T Tryz.func12 rfl rfl rfl rfl ?_
  (repeat' (first|refine wS ?_|(refine rg 0 (aV ?_))|refine nZ ?_));refine eS (id:=1) ?_
  refine bS (by exact bF T rfl rfl (by decide) (by decide) rfl rfl rfl) rfl ?_
  refine bS (by exact bF T rfl rfl (by decide) (by decide) rfl rfl rfl) rfl ?_
  refine bS (by exact bF T rfl rfl (by decide) (by decide) rfl rfl rfl) rfl ?_
  refine bS (by exact bF T rfl rfl (by decide) (by decide) rfl rfl rfl) rfl ?_
  refine wF 1 rfl rfl rfl rfl ?_;refine wF 2 rfl rfl rfl rfl ?_;refine wF 3 rfl rfl rfl rfl ?_;refine wF 4 rfl rfl rfl rfl ?_;refine bS (by exact bF T rfl rfl (by decide) (by decide) rfl rfl rfl) rfl ?_
  refine vV (by exact dS rfl) ?_
  refine iD ?_
  repeat' (refine wR ?_)
  exact ⟨.inl rfl,[4],_,rfl,rfl,rfl,⟨.inr rfl,trivial⟩,by decide,K8⟩
theorem zY7:Ok 3 S4:=⟨by decide,by decide,by decide,by decide⟩
theorem B4 (ids:List Int) (h:ids.length≤1000):Fit 3 S4 ids:=⟨zY7,by decide,by decide,by unfold rngI;decide,h⟩
theorem ZA (ids:List Int) (h:ids.length≤1000):Fit 3 (S4.take 2) ids:=⟨⟨by decide,by decide,by decide,by decide⟩,by decide,by decide,by unfold rngI;decide,h⟩
theorem zR6:needM [0] S4=(1,0):=by decide +kernel
theorem YZ:needM [1,2] S4=(2,0):=by decide +kernel
theorem zR5:needM [5] S4=(0,-1):=by decide +kernel
theorem zY8:needM [2] (S4.take 2)=(0,-1):=by decide +kernel
theorem small40_c:aP Tryz.prog 4 [] [] (.b true) []:=by
  have n0:=MG (B4 [0] (by decide))
  rw [zR6] at n0;have n0:aP _ _ [worldsA S4,.rowE (ints [0]) 1] [] (.tup [.i 0,.b true]) []:=n0;have n12:=MG (B4 [1,2] (by decide))
  rw [YZ] at n12;have n12:aP _ _ [worldsA S4,.rowE (ints [1,2]) 1] [] (.tup [.i 0,.b true]) []:=n12;have n5:=MG (B4 [5] (by decide))
  rw [zR5] at n5;have n5:aP _ _ [worldsA S4,.rowE (ints [5]) 1] [] (.tup [.i 0,.b false]) []:=n5;have d0:=FG (B4 [0] (by decide))
  rw [show need [0] S4=1 by show (needM [0] S4).1=1;rw [zR6]] at d0
  have d12:=FG (B4 [1,2] (by decide))
  rw [show need [1,2] S4=2 by show (needM [1,2] S4).1=2;rw [YZ]] at d12
  have d5:=FG (B4 [5] (by decide))
  rw [show need [5] S4=0 by show (needM [5] S4).1=0;rw [zR5]] at d5
  have d2:=FG (ZA [2] (by decide))
  rw [show need [2] (S4.take 2)=0 by show (needM [2] (S4.take 2)).1=0;rw [zY8]] at d2
  have r:=OO S4 (by decide) (by decide)
  rw [show LW S4=true by decide] at r
  refine bL T Tryz.func4 rfl rfl rfl rfl ?_
  (repeat' (first|refine wS ?_|refine wR ?_|(refine rg 0 (aV ?_))|(refine rg 1 (vV (kC (TZ)) (aV ?_)))|(refine rg 2 (mW rfl (bS (by exact bF T rfl rfl (by decide) (by decide) rfl rfl rfl) rfl ?_));refine vV (by exact eC rfl rfl n0 (.cons (.row _ _ _) (.cons (.sl rfl (by decide) (.cons (.v _) .nil)) .nil)) rfl rfl) ?_;refine mW rfl (xW rfl (xW rfl (lO ?_))))|(refine rg 3 (mW rfl (bS (by exact bF T rfl rfl (by decide) (by decide) rfl rfl rfl) rfl ?_));refine vV (by exact eC rfl rfl n12 (.cons (.row _ _ _) (.cons (.sl rfl (by decide) (.cons (.v _) (.cons (.v _) .nil))) .nil)) rfl rfl) ?_;refine mW rfl (xW rfl (xW rfl (lO ?_))))|(refine rg 4 (mW rfl (bS (by exact bF T rfl rfl (by decide) (by decide) rfl rfl rfl) rfl ?_));refine vV (by exact eC rfl rfl n5 (.cons (.row _ _ _) (.cons (.sl rfl (by decide) (.cons (.v _) .nil)) .nil)) rfl rfl) ?_;refine mW rfl (xW rfl (xW rfl (lO ?_))))|(refine rg 5 (mW rfl (bS (by exact bF T rfl rfl (by decide) (by decide) rfl rfl rfl) rfl ?_));refine vV (by exact eC rfl rfl d0 (.cons (.row _ _ _) (.cons (.sl rfl (by decide) (.cons (.v _) .nil)) .nil)) rfl rfl) ?_;refine vV (bW rfl rfl) (mW rfl (yN rfl (gT (bS (by exact bF T rfl rfl (by decide) (by decide) rfl rfl rfl) rfl ?_))));refine yV (by exact eC rfl rfl d12 (.cons (.row _ _ _) (.cons (.sl rfl (by decide) (.cons (.v _) (.cons (.v _) .nil))) .nil)) rfl rfl) ?_;refine yV (bW rfl rfl) (pW rfl (mW rfl (yN rfl (yV (by exact nR (k:=2) T rfl rfl rfl rfl rfl (by decide) (lF S4)) ?_))));refine gT (bS (by exact bF T rfl rfl (by decide) (by decide) rfl rfl rfl) rfl ?_);refine yV (by exact eC rfl rfl d2 (.cons (.row _ _ _) (.cons (.sl rfl (by decide) (.cons (.v _) .nil)) .nil)) rfl rfl) ?_;refine yV (bW rfl rfl) (pW rfl (mW rfl (yN rfl (gT (bS (by exact bF T rfl rfl (by decide) (by decide) rfl rfl rfl) rfl ?_)))));refine yV (by exact eC rfl rfl d5 (.cons (.row _ _ _) (.cons (.sl rfl (by decide) (.cons (.v _) .nil)) .nil)) rfl rfl) ?_;refine yV (bW rfl rfl) (pW rfl (aV ?_)))|(refine rg 6 (mW rfl (vV (kC (r)) (mW rfl (yN rfl (pW rfl (mW rfl (yN rfl (yV (bW rfl rfl) (pV ?_)))))))));refine mW rfl (yN rfl (pW rfl (mW rfl (yN rfl (yV (bW rfl rfl) (pW rfl (mW rfl (yN rfl (pV ?_)))))))));refine mW rfl (yN rfl (yV (cT rfl) (pW rfl (aV ?_)))))|refine nZ ?_));all_goals exact rQ
end Go.Proofs.YtojgimibalokkaaGreat.L4
namespace Go.Ld
open Go.Ab Go.Proofs.YtojgimibalokkaaGreat
theorem zO4 {c:Cx}(h1:0<c.bs.length) (h8:c.bs.length≤6) (hk:c.ks.length≤10) (hl:c.ls.length≤10) (hs:sE c=false) (ht:LP c.ks c.ls c.bs=true):qP c:=by
  have t:=zF3.1 ht;refine ⟨⟨by simp;omega,by simp;omega,by simp,hk,hl,t.k,t.l,fun i h=>?_,t.b⟩,CR.1 hs⟩
  simp at h ⊢;omega
theorem DZ {l:List Ev}{m:Nat}(h:C3 l m=true):l.length≤m∧∀ s,s∈l→s.ids.length≤12:=by
  unfold C3 at h;simp only [aJ,decide_eq_true_eq,bA] at h;obtain ⟨⟨h1,h2⟩,h3⟩:=h;have e:l.take (m+1)=l:=cD (by omega)
  rw [e] at h1;exact ⟨h2,h1⟩
theorem zI2 {c:Cx}(h:c.bs=[]):kQ c [] where
  mid:=⟨⟨fun g hg=>absurd hg iY,bK,cC _,fun g hg=>absurd hg iY⟩,List.Pairwise.nil,fun g hg=>absurd hg iY,fun g hg=>absurd hg iY,by rw [h];exact .refl _,by rw [h];exact .refl _,fun g hg=>absurd hg iY⟩
  cer:=fun g hg=>absurd hg iY
  asc:=fun g hg=>absurd hg iY
end Go.Ld
namespace Go.Proofs.YtojgimibalokkaaGreat
open Go Go.Ab Go.Ld
attribute [local irreducible] VC AW cF aP kG K3 LD
set_option maxHeartbeats 4000000
theorem GB:LD Tryz.prog 4:=by unfold LD;kernel_rfl
theorem zU6 (c:Cx) (gs:List G) (b n:Int) (hc:qP c) (h:kQ c gs) :
    aP Tryz.prog 8 [.ptr 0 0,.agg [.i 5,.i b,.i 0,.i n,.nils]] [.cells (kN c gs)] (.i (lR c gs ⟨5,b,0,n,[]⟩).1) [.cells (kN c (lR c gs ⟨5,b,0,n,[]⟩).2)]:=
  EJ (zQ8 c gs ⟨5,b,0,n,[]⟩ hc h (cC _)) fun S w ρ ys=>lL (fun _ h=>h) fun ys=>lL (fun _ h=>zB9 h) fun _ h=>h
theorem XQ (c:Cx) (ps:List Int) (l:List Ev) (d ids:List Int)
    (hids:∀ s,s∈l→s.ids.length≤9223372036854775807) (hx:C3 l 10=false∨6<c.bs.length∨10<c.ks.length∨10<c.ls.length∨6<ids.length) :
    aP Tryz.prog 3 [wH c.ks c.ls ps c.bs,lH c.m c.st c.er c.sl,.rowE (vJ l) 5,.rowE (ints d) 1,.rowE (ints ids) 1] [] (.b true) []:=by
  have hkl:(fF c.ks).length=c.ks.length:=aX _;have hll:(iF c.ls).length=c.ls.length:=aX _;have hbl:(dY c.bs).length=c.bs.length:=aX _;have hsm:=L4.small40_c;have hfe:=FU l 10 (by omega) hids
  have hil:(ints ids).length=ids.length:=dH _;generalize C3 l 10=fe at *;cases fe
  all_goals
    first | (have hx:=hx.resolve_left (by decide)) | skip
    refine bL T Tryz.func3 rfl rfl rfl rfl ?_
    (repeat' (first|refine wS ?_|(refine rg 0 (bS (bZ rfl rfl) rfl (bS (bZ rfl rfl) rfl (aV ?_))))|(refine rg 1 (vV (kC (hsm)) (aV ?_)))|refine nZ ?_));refine eI 5 (cs:=[.rowE (fF c.ks) 2,.rowE (iF c.ls) 3,.rowE (ints ps) 1,.rowE (dY c.bs) 3]) rfl rfl rfl ?_
    refine eI 6 (cs:=[.i c.m,.i c.st,.i c.er,.i c.sl]) rfl rfl rfl ?_
    (repeat' (first|refine wS ?_|refine wR ?_|refine wT ?_|(refine wC rfl ?_ ?_<;>(intro hb;(try simp only [nm] at hb);try (exfalso;omega)))|(refine rg 2 (fR T rfl (qW T rfl (vV (dX rfl rfl) (mV ?_))));refine aY rfl rfl ?_ ?_<;>(intro hb;rw [hb];(try simp only [nm] at hb);try (exfalso;omega));(all_goals first|(refine gT (fW T rfl (gT (lW T rfl (gT (qW T rfl (gT (vV (dX rfl rfl) ?_))))))))|(iterate 4 refine gF ?_));(all_goals (refine pW rfl (mV ?_)));(all_goals first|(refine gK ?_)|(refine aY rfl rfl ?_ ?_<;>(intro hb;rw [hb];(try simp only [nm] at hb);try (exfalso;omega))));(all_goals first|(refine gT (fW T rfl (gT (lW T rfl (gT (qW T rfl (gT (vV (dX rfl rfl) ?_))))))))|(iterate 4 refine gF ?_));(all_goals (refine pW rfl (mV ?_)));(all_goals first|(refine gK ?_)|(refine aY rfl rfl ?_ ?_<;>(intro hb;rw [hb];(try simp only [nm] at hb);try (exfalso;omega))));(all_goals first|(refine gT (mW rfl (gT (vV (kC (hfe)) (gT (vV (cT rfl) ?_))))))|(iterate 3 refine gF ?_));(all_goals (refine pW rfl (mV ?_)));(all_goals first|(refine gT (mW rfl (gT (qW T rfl (gT (vV (dX rfl rfl) ?_))))))|(iterate 3 refine gF ?_));(all_goals (refine pV ?_)))|(refine rg 3 (mW rfl (aV ?_)))|refine nZ ?_));all_goals try (exfalso;omega)
    all_goals exact rQ
theorem XP (c:Cx) (ps:List Int) (l:List Ev) (d ids:List Int)
    (hids:∀ s,s∈l→s.ids.length≤9223372036854775807) (hx:C3 l 10=true) (h1:c.bs.length≤6) (h2:c.ks.length≤10) (h3:c.ls.length≤10) (h4:ids.length≤6) (hno:(!sE c&&LP c.ks c.ls c.bs)=false) :
    aP Tryz.prog 3 [wH c.ks c.ls ps c.bs,lH c.m c.st c.er c.sl,.rowE (vJ l) 5,.rowE (ints d) 1,.rowE (ints ids) 1] [] (.b true) []:=by
  have hkl:(fF c.ks).length=c.ks.length:=aX _;have hll:(iF c.ls).length=c.ls.length:=aX _;have hbl:(dY c.bs).length=c.bs.length:=aX _;have hsm:=L4.small40_c;have hfe:=FU l 10 (by omega) hids
  have hse:=VZ c ps l d (by omega) (by omega) (by omega) hno
  rw [hx] at hfe;have hil:(ints ids).length=ids.length:=dH _;refine bL T Tryz.func3 rfl rfl rfl rfl ?_
  (repeat' (first|refine wS ?_|(refine rg 0 (bS (bZ rfl rfl) rfl (bS (bZ rfl rfl) rfl (aV ?_))))|(refine rg 1 (vV (kC (hsm)) (aV ?_)))|refine nZ ?_));refine eI 5 (cs:=[.rowE (fF c.ks) 2,.rowE (iF c.ls) 3,.rowE (ints ps) 1,.rowE (dY c.bs) 3]) rfl rfl rfl ?_
  refine eI 6 (cs:=[.i c.m,.i c.st,.i c.er,.i c.sl]) rfl rfl rfl ?_
  (repeat' (first|refine wS ?_|refine wK ?_|(refine wC rfl ?_ ?_<;>(intro hb;(try simp only [nm] at hb);try (exfalso;omega)))|(refine rg 2 (fR T rfl (qW T rfl (vV (dX rfl rfl) (mV ?_))));refine aY rfl rfl ?_ ?_<;>(intro hb;rw [hb];(try simp only [nm] at hb);try (exfalso;omega));(all_goals (refine yP T rfl (yO T rfl (gT (qW T rfl (yV (dX rfl rfl) (pW rfl (mV ?_))))));refine aY rfl rfl ?_ ?_<;>(intro hb;rw [hb];(try simp only [nm] at hb);try (exfalso;omega))));(all_goals (refine yP T rfl (yO T rfl (gT (qW T rfl (yV (dX rfl rfl) (pW rfl (mV ?_))))));refine aY rfl rfl ?_ ?_<;>(intro hb;rw [hb];(try simp only [nm] at hb);try (exfalso;omega))));(all_goals (refine yN rfl (yV (kC (hfe)) (yV (cT rfl) (pW rfl (mW rfl (yN rfl (gT (qW T rfl (yV (dX rfl rfl) (pV ?_))))))))))))|refine nZ ?_));all_goals try (exfalso;omega)
  (repeat' (first|refine wS ?_|refine wR ?_|refine wT ?_|(refine rg 4 (lW T rfl (lW T rfl (dR rfl (vV (kC (hse)) (mW rfl (xW rfl (xW rfl (lO ?_)))))))))|(refine rg 5 (mW rfl (vV (by exact F1 BQ rfl rfl) ?_)))|(refine rg 6 (mW rfl (aV ?_)))|refine nZ ?_));all_goals try (exfalso;omega)
  all_goals exact rQ
theorem XO (c:Cx) (ps:List Int) (l:List Ev) (d ids:List Int)
    (hids:∀ s,s∈l→s.ids.length≤9223372036854775807) (hx:C3 l 10=true) (h0:0<c.bs.length) (h1:c.bs.length≤6) (h2:c.ks.length≤10) (h3:c.ls.length≤10) (h4:ids.length≤6)
    (hs:sE c=false) (ht:LP c.ks c.ls c.bs=true) :
    aP Tryz.prog 3 [wH c.ks c.ls ps c.bs,lH c.m c.st c.er c.sl,.rowE (vJ l) 5,.rowE (ints d) 1,.rowE (ints ids) 1] [] (.b true) []:=by
  have hc:=zO4 h0 h1 h2 h3 hs ht;have hkl:(fF c.ks).length=c.ks.length:=aX _;have hll:(iF c.ls).length=c.ls.length:=aX _;have hbl:(dY c.bs).length=c.bs.length:=aX _;have hsm:=L4.small40_c;have hfe:=FU l 10 (by omega) hids
  obtain ⟨hl10,hids2⟩:=DZ hx;have hse:=zU3 c hc ps l d (fun s hs=>by have:=hids2 s hs;omega) (by omega)
  rw [hx] at hfe;have hil:(ints ids).length=ids.length:=dH _;refine bL T Tryz.func3 rfl rfl rfl rfl ?_
  (repeat' (first|refine wS ?_|(refine rg 0 (bS (bZ rfl rfl) rfl (bS (bZ rfl rfl) rfl (aV ?_))))|(refine rg 1 (vV (kC (hsm)) (aV ?_)))|refine nZ ?_));refine eI 5 (cs:=[.rowE (fF c.ks) 2,.rowE (iF c.ls) 3,.rowE (ints ps) 1,.rowE (dY c.bs) 3]) rfl rfl rfl ?_
  refine eI 6 (cs:=[.i c.m,.i c.st,.i c.er,.i c.sl]) rfl rfl rfl ?_
  (repeat' (first|refine wS ?_|refine wK ?_|(refine wC rfl ?_ ?_<;>(intro hb;(try simp only [nm] at hb);try (exfalso;omega)))|(refine rg 2 (fR T rfl (qW T rfl (vV (dX rfl rfl) (mV ?_))));refine aY rfl rfl ?_ ?_<;>(intro hb;rw [hb];(try simp only [nm] at hb);try (exfalso;omega));(all_goals (refine yP T rfl (yO T rfl (gT (qW T rfl (yV (dX rfl rfl) (pW rfl (mV ?_))))));refine aY rfl rfl ?_ ?_<;>(intro hb;rw [hb];(try simp only [nm] at hb);try (exfalso;omega))));(all_goals (refine yP T rfl (yO T rfl (gT (qW T rfl (yV (dX rfl rfl) (pW rfl (mV ?_))))));refine aY rfl rfl ?_ ?_<;>(intro hb;rw [hb];(try simp only [nm] at hb);try (exfalso;omega))));(all_goals (refine yN rfl (yV (kC (hfe)) (yV (cT rfl) (pW rfl (mW rfl (yN rfl (gT (qW T rfl (yV (dX rfl rfl) (pV ?_))))))))))))|refine nZ ?_));all_goals try (exfalso;omega)
  repeat' (first|refine wS ?_|(refine rg 4 (lW T rfl (lW T rfl (yG7 ?_)));(refine RD [] rfl rfl (hse) rfl rfl (by decide) trivial (by simp) rfl ?_;rintro _ _ ho;rcases ho with ⟨rfl,rfl⟩|⟨gs,p,bs,M,hT,rfl,rfl⟩);(all_goals (refine mW rfl (xW rfl (xW rfl (lO ?_))))))|refine nZ ?_)
  · (repeat' (first|refine wS ?_|refine wR ?_|refine rA rfl ?_|(refine rg 5 (mW rfl (vV (by exact F1 BQ rfl rfl) ?_)))|(refine rg 6 (mW rfl (aV ?_)))|(refine nZ ?_)));all_goals first | (exfalso;omega) | exact rQ
  refine gM [(4,.rowE (ints ids) 1),(11,.b true),(12,.ptr 0 0),(13,.rowE (ints p) 1)] [.cells (kN c gs)] ⟨[2],rfl,(by repeat first|exact trivial|refine ⟨rfl,?_⟩),⟨.inr rfl,trivial⟩,by decide,kP _⟩ ?_
  have hpl:=hT.re.len;have hpi:(ints p).length=p.length:=dH _;have hP:=EX c gs ids hT.gk (by omega)
  (repeat' (first|refine wS ?_|refine wB ?_|refine wK ?_|refine wU ?_|(refine rg 5 (mW rfl (vV (by exact pC BQ rfl rfl rfl) ?_)))|(refine rg 7 (dR rfl (vV (by exact eC rfl rfl hP (.cons (.ptr rfl (lP _ rfl)) (.cons (.row _ _ _) .nil)) rfl rfl) ?_));refine mW rfl (xW rfl (xW rfl (lO ?_))))|refine nZ ?_));all_goals try (exfalso;omega)
  refine cX (X:={x:List G // rE c x p bs M}) (fun x=>[(4,.rowE (ints ids) 1),(11,.b true),(12,.ptr 0 0),(13,.rowE (ints p) 1),(14,.i (lT ids x.1).1),(15,.i ((lT ids x.1).2:Nat))]) (fun x=>[.cells (kN c x.1)]) (fun x=>mI ids x.1) ⟨gs,hT⟩ (fU [0]) ?_;clear hT hP hse;rintro ⟨gs,hT⟩;dsimp only;obtain ⟨pk,hpk⟩:=OR ids hT.gk;have hbd:=H2 ids hT.gk gs.length;rw [cQ] at hbd;rcases hpk with ⟨hn1,hz⟩ | ⟨hpos,hpick⟩
  case inr=>
    have hst:=SW hc hT hpick;generalize hb:(lT ids gs).1=b at *;obtain ⟨b0,b1,k0,hT2,hlt⟩:=hst;have hse:=zU6 c gs b (p.getD b.toNat 0) hc hT.gk;have q:=nK (l:=p) (j:=b) (i:=b.toNat) 0 (by omega) (by omega)
    generalize p.getD b.toNat 0=nb at *;rw [k0] at hse;have hP2:=EX c (lR c gs ⟨5,b,0,nb,[]⟩).2 ids hT2.gk (by omega)
    obtain ⟨pk2,_⟩:=OR ids hT2.gk;have hbd2:=H2 ids hT2.gk (lR c gs ⟨5,b,0,nb,[]⟩).2.length;rw [cQ] at hbd2;generalize (lR c gs ⟨5,b,0,nb,[]⟩).2=yB5 at *;generalize hsn:(lT ids gs).2=sn at *;have hge:(lT ids yB5).2<sn:=by rw [pk2,pk];exact hlt
    generalize hN2:(lT ids yB5).2=n2 at *;generalize hB2:(lT ids yB5).1=b2 at *
    (repeat' (first|refine wS ?_|refine wB ?_|refine wK ?_|refine wU ?_|(refine wC rfl ?_ ?_<;>(intro hb;(try simp only [nm] at hb);try (exfalso;omega)))|(refine rg 8 (mW rfl (vV (dX rfl rfl) ?_)))|(refine rg 9 (mW rfl (vV (aK rfl rfl) (mV ?_)));refine aY rfl rfl ?_ ?_<;>(intro hb;rw [hb];(try simp only [nm] at hb);try (exfalso;omega));(all_goals (refine yN rfl (yN rfl (gT (qW T rfl (yV (fM rfl rfl) (pV ?_))))))))|(refine rg 11 (dR rfl (dR rfl (vV (ix T rfl (by omega) (ints_len _) q) (lW T rfl (vV (by exact gG T rfl rfl rfl rfl) ?_)))));refine fO [0] rfl rfl (hse) rfl rfl (by decide) ⟨.inr rfl,trivial⟩ (by simp) rfl ?_;refine vV (dI rfl rfl) ?_)|(refine rg 13 (dR rfl (vV (by exact eC rfl rfl hP2 (.cons (.ptr rfl (lP _ rfl)) (.cons (.row _ _ _) .nil)) rfl rfl) ?_));refine mW rfl (xW rfl (xW rfl (lO ?_))))|(refine rg 14 (dR rfl (vV (fM rfl rfl) ?_)))|(refine rg 16 (mW rfl (aV ?_)))|(refine rg 17 (mW rfl (aV ?_)))|refine nZ ?_));all_goals try (exfalso;omega)
    all_goals exact ⟨⟨yB5,hT2⟩,hlt,⟨[0],rfl,(by rw [hN2,hB2];(repeat (first | exact trivial | refine ⟨rfl,?_⟩))),⟨.inr rfl,trivial⟩,by decide,kP _⟩⟩
  have hdec:=zF2 (ids:=ids) hT.gk hz;rw [hz] at pk;rw [hn1,pk]
  (repeat' (first|refine wS ?_|refine wB ?_|refine wK ?_|refine wE ?_|refine wU ?_|(refine rg 8 (mW rfl (vV (dX rfl rfl) ?_)))|(refine rg 18 (mW rfl (vV (dI rfl rfl) ?_)))|(refine rg 20 (aV ?_))|refine nZ ?_));all_goals try (exfalso;omega)
  refine eI 12 (cs:=kN c gs) rfl rfl rfl ?_;refine cX (X:={i:Nat // i≤ids.length}) (fun i=>[(4,.rowE (ints ids) 1),(11,.b true),(12,.pr (kN c gs) 0),(13,.rowE (ints p) 1),(18,.i (i.1:Int))]) (fun _=>[]) (fun i=>ids.length-i.1) ⟨0,cC _⟩ ⟨[],rfl,(by repeat first|exact trivial|refine ⟨rfl,?_⟩),trivial,bK,kP _⟩ ?_
  rintro ⟨i,hi⟩;dsimp only;by_cases hit:i<ids.length
  · have qi:=iQ (l:=ids) (k:=i) hit;have hmem:=aI hit;generalize ids[i]=x at *
    (repeat' (first|refine wS ?_|refine wB ?_|refine wK ?_|(refine wC rfl ?_ ?_<;>(intro hb;(try simp only [nm] at hb);try (exfalso;omega)))|(refine rg 21 (dR rfl (qW T rfl (vV (aK rfl rfl) ?_))))|(refine rg 23 (aV ?_))|refine nZ ?_));all_goals try (exfalso;omega)
    refine cX (X:={b:Nat // b≤p.length}) (fun b=>[(4,.rowE (ints ids) 1),(11,.b true),(12,.pr (kN c gs) 0),(13,.rowE (ints p) 1),(18,.i (i:Int)),(19,.i (b.1:Int))]) (fun _=>[]) (fun b=>p.length-b.1) ⟨0,cC _⟩ ⟨[],rfl,(by repeat first|exact trivial|refine ⟨rfl,?_⟩),trivial,bK,kP _⟩ ?_
    rintro ⟨b,hb⟩;dsimp only;by_cases hbt:b<p.length
    · obtain ⟨g,hg,hgm,hbg⟩:=YL (hT.gk.mid.find (b:=(b:Int)) ⟨by omega,by omega⟩)
      generalize g.1.idxOf (b:Int)=i0 at *;have qb:=nK (l:=p) (j:=(b:Int)) (i:=b) 0 hbt rfl;have hof:=yD9 c gs b hT.gk hg;have hfit:=PY hT.gk hgm (ids:=ids) (by omega)
      have hdc:=L4.decided_c (sN g.2) ids hfit.ok.ne hfit.len (fun a ha=>by rw [hfit.ok.len a ha];have:=hfit.n6;omega) (by omega)
      rw [hdec g hgm] at hdc;have hid:=MO c gs b hT.gk hg;have hfin:=zY4 (id:=x) hc hT ⟨by omega,by omega⟩ hg (hdec g hgm) hmem
      rw [bR] at hfin;have hol:0<(L4.wsA (sN g.2)).length:=by rw [aX];exact eV.2 hfit.ok.ne
      generalize p.getD b 0=t at *;generalize YG (qC g i0)=I at *;obtain ⟨y,s⟩:=I;dsimp only at *;by_cases hxt:t=x
      · obtain ⟨rfl,rfl⟩:=hfin.1 hxt
        (repeat' (first|refine wS ?_|refine wB ?_|refine wK ?_|refine wU ?_|(refine wC rfl ?_ ?_<;>(intro hb;(try simp only [nm] at hb);try (exfalso;omega)))|(refine rg 24 (dR rfl (qW T rfl (vV (aK rfl rfl) ?_))))|(refine rg 26 (dR rfl (vV (kC (hof)) (aV ?_))))|(refine rg 27 (mW rfl (qW T rfl (vV (bW rfl rfl) ?_))))|(refine rg 29 (dR rfl (vV (kC (hdc)) (vV (cT rfl) ?_))))|(refine rg 31 (dR rfl (vV (kC (hid)) (mW rfl (xW rfl (xW rfl (lO ?_)))))))|(refine bO (id:=32) 148 yQ2 (rM 128 19) yQ3 cK rfl (by decide +kernel) (dN rfl (dN rfl (dV rfl (ix T rfl (by omega) (ints_len _) qb) (dO T rfl (dN rfl (dN rfl (dV rfl (ix T rfl (by omega) (ints_len _) qi) (dO T rfl (dV rfl (jL rfl rfl hxt) ?_)))))))));refine dN rfl (dN rfl (tN rfl (tN rfl (tN rfl (dT rfl (ix T rfl (by omega) (ints_len _) qi) (tO T rfl (dT rfl (jL rfl rfl rfl) (dV rfl (mF rfl rfl) (dV rfl (Z8 GB rfl rfl) ?_)))))))));refine dE ?_)|(refine iA 25 rfl rfl rfl (by omega) (by omega) ?_)|refine nZ ?_));all_goals try (exfalso;omega)
        all_goals exact ⟨⟨b+1,hbt⟩,by dsimp only;omega,⟨[],rfl,(by repeat first|exact trivial|refine ⟨rfl,?_⟩),trivial,bK,kP _⟩⟩
      · cases s with
        | false=>
          (repeat' (first|refine wS ?_|refine wB ?_|refine wK ?_|refine wU ?_|(refine wC rfl ?_ ?_<;>(intro hb;(try simp only [nm] at hb);try (exfalso;omega)))|(refine rg 24 (dR rfl (qW T rfl (vV (aK rfl rfl) ?_))))|(refine rg 26 (dR rfl (vV (kC (hof)) (aV ?_))))|(refine rg 27 (mW rfl (qW T rfl (vV (bW rfl rfl) ?_))))|(refine rg 29 (dR rfl (vV (kC (hdc)) (vV (cT rfl) ?_))))|(refine rg 31 (dR rfl (vV (kC (hid)) (mW rfl (xW rfl (xW rfl (lO ?_)))))))|(refine bO (id:=32) 148 yQ2 (rM 128 19) yQ3 cK rfl (by decide +kernel) (dN rfl (dN rfl (dV rfl (ix T rfl (by omega) (ints_len _) qb) (dO T rfl (dN rfl (dN rfl (dV rfl (ix T rfl (by omega) (ints_len _) qi) (dO T rfl (dV rfl (fB rfl rfl hxt) ?_)))))))));refine dN rfl (dN rfl (tG rfl (tG rfl (tG rfl (tG rfl (tG rfl (tG rfl (dV rfl (oU rfl rfl) (dV rfl (Z8 GB rfl rfl) ?_)))))))));refine dE ?_)|(refine iA 25 rfl rfl rfl (by omega) (by omega) ?_)|refine nZ ?_));all_goals try (exfalso;omega)
          all_goals exact ⟨⟨b+1,hbt⟩,by dsimp only;omega,⟨[],rfl,(by repeat first|exact trivial|refine ⟨rfl,?_⟩),trivial,bK,kP _⟩⟩
        | true=>
          have hyx:¬ y=x:=fun e=>hxt (hfin.2 ⟨rfl,e⟩)
          (repeat' (first|refine wS ?_|refine wB ?_|refine wK ?_|refine wU ?_|(refine wC rfl ?_ ?_<;>(intro hb;(try simp only [nm] at hb);try (exfalso;omega)))|(refine rg 24 (dR rfl (qW T rfl (vV (aK rfl rfl) ?_))))|(refine rg 26 (dR rfl (vV (kC (hof)) (aV ?_))))|(refine rg 27 (mW rfl (qW T rfl (vV (bW rfl rfl) ?_))))|(refine rg 29 (dR rfl (vV (kC (hdc)) (vV (cT rfl) ?_))))|(refine rg 31 (dR rfl (vV (kC (hid)) (mW rfl (xW rfl (xW rfl (lO ?_)))))))|(refine bO (id:=32) 148 yQ2 (rM 128 19) yQ3 cK rfl (by decide +kernel) (dN rfl (dN rfl (dV rfl (ix T rfl (by omega) (ints_len _) qb) (dO T rfl (dN rfl (dN rfl (dV rfl (ix T rfl (by omega) (ints_len _) qi) (dO T rfl (dV rfl (fB rfl rfl hxt) ?_)))))))));refine dN rfl (dN rfl (tN rfl (tN rfl (tN rfl (dT rfl (ix T rfl (by omega) (ints_len _) qi) (tO T rfl (dT rfl (fB rfl rfl hyx) (dV rfl (mF rfl rfl) (dV rfl (Z8 GB rfl rfl) ?_)))))))));refine dE ?_)|(refine iA 25 rfl rfl rfl (by omega) (by omega) ?_)|refine nZ ?_));all_goals try (exfalso;omega)
          all_goals exact ⟨⟨b+1,hbt⟩,by dsimp only;omega,⟨[],rfl,(by repeat first|exact trivial|refine ⟨rfl,?_⟩),trivial,bK,kP _⟩⟩
    · (repeat' (first|refine wS ?_|refine wE ?_|(refine wC rfl (fun hb=>?_) (fun hb=>?_) <;> (((try simp only [nm] at hb);try (exfalso;omega))))|(refine rg 24 (dR rfl (qW T rfl (vV (aK rfl rfl) ?_))))|(refine iA 22 rfl rfl rfl (by omega) (by omega) ?_)|(refine nZ ?_)));all_goals try (exfalso;omega)
      all_goals exact ⟨⟨i+1,hit⟩,by dsimp only;omega,⟨[],rfl,(by repeat first|exact trivial|refine ⟨rfl,?_⟩),trivial,bK,kP _⟩⟩
  · (repeat' (first|refine wS ?_|refine wR ?_|refine wE ?_|(refine wC rfl (fun hb=>?_) (fun hb=>?_) <;> (((try simp only [nm] at hb);try (exfalso;omega))))|(refine rg 21 (dR rfl (qW T rfl (vV (aK rfl rfl) ?_))))|(refine rg 34 (mW rfl (aV ?_)))|(refine nZ ?_)));all_goals first | (exfalso;omega) | exact rQ
abbrev yE7 (c:Cx):List AV:=[.i c.m,.i c.st,.i c.er,.i c.sl,.rowE (fF c.ks) 2,.rowE (iF c.ls) 3,.rowE (dY c.bs) 3,.nils]
theorem zU4 (c:Cx) (ps:List Int) (l:List Ev) (d:List Int) (hids:∀ s,s∈l→s.ids.length≤9223372036854775806) (hl:l.length≤1000) (h0:c.bs=[]) (h2:c.ks.length≤10) (h3:c.ls.length≤10) (hs:sE c=false) (ht:LP c.ks c.ls c.bs=true) :
    aP Tryz.prog 6 [wH c.ks c.ls ps c.bs,lH c.m c.st c.er c.sl,.rowE (vJ l) 5,.rowE (ints d) 1] [] (.tup [.v (.pointer none),.nils]) [] ∨
    aP Tryz.prog 6 [wH c.ks c.ls ps c.bs,lH c.m c.st c.er c.sl,.rowE (vJ l) 5,.rowE (ints d) 1] [] (.tup [.ptr 0 0,.rowE [] 1]) [.cells (yE7 c)]:=by
  have hbl:(dY c.bs).length=0:=by rw [h0];rfl
  have hid:=ident_c 0 (by decide)
  change aP _ _ [.i 0] [] (.rowE [] 1) [] at hid;have hel:(vJ l).length=l.length:=aX _;have hdl:(ints d).length=d.length:=dH _;have hn:=zV8 c (by omega) (by omega) h0 hs ht
  by_cases hdl2:d.length=l.length
  case neg=>
    refine .inl ?_;refine bL T Tryz.func6 rfl rfl rfl rfl ?_
    (repeat' (first|refine wS ?_|(refine rg 0 (bS (bZ rfl rfl) rfl (bS (bZ rfl rfl) rfl (lO ?_))))|refine nZ ?_));refine eI 4 (cs:=[.rowE (fF c.ks) 2,.rowE (iF c.ls) 3,.rowE (ints ps) 1,.rowE (dY c.bs) 3]) rfl rfl rfl ?_
    refine eI 5 (cs:=[.i c.m,.i c.st,.i c.er,.i c.sl]) rfl rfl rfl ?_
    (repeat' (first|refine wS ?_|refine wR ?_|(refine wC rfl ?_ ?_<;>(intro hb;(try simp only [nm] at hb);try (exfalso;omega)))|(refine rg 1 (lW T rfl (fR T rfl (fR T rfl (fR T rfl (bS (by exact hO rfl rfl hn (.inr ⟨rfl,rfl,by simp⟩)) rfl ?_)))));refine mW rfl (xW rfl (xW rfl (lO ?_))))|(refine rg 2 (mW rfl (vV (dI rfl rfl) (mW rfl (yN rfl (yV (by exact pC BQ rfl rfl rfl) ?_)))));refine pW rfl (mW rfl (yN rfl (gT (qW T rfl (yN rfl (gT (qW T rfl (yV (dI rfl rfl) (pV ?_))))))))))|(refine rg 3 (lO ?_))|refine nZ ?_));all_goals first | (exfalso;omega) | exact rQ
  have hid':aP Tryz.prog 17 [.i (dY c.bs).length] [] (.rowE [] 1) []:=by rw [hbl];exact hid
  by_cases hl0:l.length=0
  · refine .inr ?_;refine bL T Tryz.func6 rfl rfl rfl rfl ?_
    (repeat' (first|refine wS ?_|(refine rg 0 (bS (bZ rfl rfl) rfl (bS (bZ rfl rfl) rfl (lO ?_))))|refine nZ ?_));refine eI 4 (cs:=[.rowE (fF c.ks) 2,.rowE (iF c.ls) 3,.rowE (ints ps) 1,.rowE (dY c.bs) 3]) rfl rfl rfl ?_
    refine eI 5 (cs:=[.i c.m,.i c.st,.i c.er,.i c.sl]) rfl rfl rfl ?_
    (repeat' (first|refine wS ?_|refine wB ?_|refine wK ?_|(refine wC rfl ?_ ?_<;>(intro hb;(try simp only [nm] at hb);try (exfalso;omega)))|(refine rg 1 (lW T rfl (fR T rfl (fR T rfl (fR T rfl (bS (by exact hO rfl rfl hn (.inr ⟨rfl,rfl,by simp⟩)) rfl ?_)))));refine mW rfl (xW rfl (xW rfl (lO ?_))))|(refine rg 2 (mW rfl (vV (dI rfl rfl) (mW rfl (yN rfl (yV (by exact pC BQ rfl rfl rfl) ?_)))));refine pW rfl (mW rfl (yN rfl (gT (qW T rfl (yN rfl (gT (qW T rfl (yV (dI rfl rfl) (pV ?_))))))))))|(refine rg 4 (fR T rfl (qW T rfl (vV (kC (hid')) (aV ?_)))))|(refine rg 5 (fR T rfl (aV ?_)))|(refine rg 6 (aV ?_))|(refine rg 7 (aV ?_))|refine nZ ?_));all_goals try (exfalso;omega)
    refine cX (X:=Unit) (fun _=>[(2,.rowE (vJ l) 5),(10,.ptr 0 0),(12,.rowE [] 1),(15,.i 0)]) (fun _=>[.cells (yE7 c)]) (fun _=>0) () (fU [2]) ?_;rintro ⟨⟩
    (repeat' (first|refine wS ?_|refine wR ?_|refine wE ?_|(refine wC rfl ?_ ?_<;>(intro hb;(try simp only [nm] at hb);try (exfalso;omega)))|(refine rg 8 (dR rfl (qW T rfl (vV (aK rfl rfl) ?_))))|(refine rg 21 (dR rfl (lO ?_)))|refine nZ ?_));all_goals try (exfalso;omega)
    all_goals exact ⟨.inl rfl,[0],_,rfl,rfl,rfl,⟨.inr rfl,trivial⟩,by decide,kP _⟩
  · refine .inl ?_;have hlt:0<l.length:=by omega
    have hg:=AL hlt;have hids1:=hids _ (aI hlt);have hright:=W9 0 l[0].k l[0].a l[0].b l[0].n l[0].ids (by omega) ⟨by omega,by omega⟩
    generalize l[0]=s at *;have hr:gH 0 s=false:=by
      unfold gH;rw [decide_eq_false (by omega)];rfl
    change aP _ _ _ _ (.b (gH 0 s)) _ at hright;rw [hr] at hright;have hright':aP Tryz.prog 18 [.i (dY c.bs).length,.agg [.i s.k,.i s.a,.i s.b,.i s.n,.rowE (Go.Ab.ints s.ids) 1]] [] (.b false) []:=by rw [hbl];exact hright
    refine bL T Tryz.func6 rfl rfl rfl rfl ?_
    (repeat' (first|refine wS ?_|(refine rg 0 (bS (bZ rfl rfl) rfl (bS (bZ rfl rfl) rfl (lO ?_))))|refine nZ ?_));refine eI 4 (cs:=[.rowE (fF c.ks) 2,.rowE (iF c.ls) 3,.rowE (ints ps) 1,.rowE (dY c.bs) 3]) rfl rfl rfl ?_
    refine eI 5 (cs:=[.i c.m,.i c.st,.i c.er,.i c.sl]) rfl rfl rfl ?_
    (repeat' (first|refine wS ?_|refine wB ?_|refine wK ?_|(refine wC rfl ?_ ?_<;>(intro hb;(try simp only [nm] at hb);try (exfalso;omega)))|(refine rg 1 (lW T rfl (fR T rfl (fR T rfl (fR T rfl (bS (by exact hO rfl rfl hn (.inr ⟨rfl,rfl,by simp⟩)) rfl ?_)))));refine mW rfl (xW rfl (xW rfl (lO ?_))))|(refine rg 2 (mW rfl (vV (dI rfl rfl) (mW rfl (yN rfl (yV (by exact pC BQ rfl rfl rfl) ?_)))));refine pW rfl (mW rfl (yN rfl (gT (qW T rfl (yN rfl (gT (qW T rfl (yV (dI rfl rfl) (pV ?_))))))))))|(refine rg 4 (fR T rfl (qW T rfl (vV (kC (hid')) (aV ?_)))))|(refine rg 5 (fR T rfl (aV ?_)))|(refine rg 6 (aV ?_))|(refine rg 7 (aV ?_))|refine nZ ?_));all_goals try (exfalso;omega)
    refine cX (X:=Unit) (fun _=>[(2,.rowE (vJ l) 5),(4,.pr [.rowE (fF c.ks) 2,.rowE (iF c.ls) 3,.rowE (ints ps) 1,.rowE (dY c.bs) 3] 0),(15,.i 0)]) (fun _=>[]) (fun _=>0) () ⟨[],rfl,(by repeat first|exact trivial|refine ⟨rfl,?_⟩),trivial,bK,kP _⟩ ?_
    rintro ⟨⟩
    (repeat' (first|refine wS ?_|refine wB ?_|refine wK ?_|refine wR ?_|refine wT ?_|(refine wC rfl ?_ ?_<;>(intro hb;(try simp only [nm] at hb);try (exfalso;omega)))|(refine rg 8 (dR rfl (qW T rfl (vV (aK rfl rfl) ?_))))|(refine bO (id:=10) 123 yP6 (rM 57 9) yP7 cK rfl (by decide +kernel) (dP T rfl (dO T rfl (dV rfl (lD T rfl rfl) (dN rfl (dN rfl (dV rfl (ix T rfl (by omega) (jV _) hg) (dO T rfl (dV rfl (kC (hright')) (dV rfl (cT rfl) ?_)))))))));refine dE ?_)|(refine rg 11 (lO ?_))|refine nZ ?_));all_goals first | (exfalso;omega) | exact rQ
theorem zW3 (c:Cx) (ps:List Int) (l:List Ev) (d ids:List Int)
    (hids:∀ s,s∈l→s.ids.length≤9223372036854775807) (hx:C3 l 10=true) (h0:c.bs=[]) (h2:c.ks.length≤10) (h3:c.ls.length≤10) (h4:ids.length≤6)
    (hs:sE c=false) (ht:LP c.ks c.ls c.bs=true) :
    aP Tryz.prog 3 [wH c.ks c.ls ps c.bs,lH c.m c.st c.er c.sl,.rowE (vJ l) 5,.rowE (ints d) 1,.rowE (ints ids) 1] [] (.b true) []:=by
  have hkl:(fF c.ks).length=c.ks.length:=aX _;have hll:(iF c.ls).length=c.ls.length:=aX _;have hbl:(dY c.bs).length=0:=by rw [h0];rfl
  have hsm:=L4.small40_c;have hfe:=FU l 10 (by omega) hids
  obtain ⟨hl10,hids2⟩:=DZ hx;rw [hx] at hfe;have hil:(ints ids).length=ids.length:=dH _;rcases zU4 c ps l d (fun s hs=>by have:=hids2 s hs;omega) (by omega) h0 h2 h3 hs ht with hse | hse
  · refine bL T Tryz.func3 rfl rfl rfl rfl ?_
    (repeat' (first|refine wS ?_|(refine rg 0 (bS (bZ rfl rfl) rfl (bS (bZ rfl rfl) rfl (aV ?_))))|(refine rg 1 (vV (kC (hsm)) (aV ?_)))|refine nZ ?_));refine eI 5 (cs:=[.rowE (fF c.ks) 2,.rowE (iF c.ls) 3,.rowE (ints ps) 1,.rowE (dY c.bs) 3]) rfl rfl rfl ?_
    refine eI 6 (cs:=[.i c.m,.i c.st,.i c.er,.i c.sl]) rfl rfl rfl ?_
    (repeat' (first|refine wS ?_|refine wK ?_|(refine wC rfl ?_ ?_<;>(intro hb;(try simp only [nm] at hb);try (exfalso;omega)))|(refine rg 2 (fR T rfl (qW T rfl (vV (dX rfl rfl) (mV ?_))));refine aY rfl rfl ?_ ?_<;>(intro hb;rw [hb];(try simp only [nm] at hb);try (exfalso;omega));(all_goals (refine yP T rfl (yO T rfl (gT (qW T rfl (yV (dX rfl rfl) (pW rfl (mV ?_))))));refine aY rfl rfl ?_ ?_<;>(intro hb;rw [hb];(try simp only [nm] at hb);try (exfalso;omega))));(all_goals (refine yP T rfl (yO T rfl (gT (qW T rfl (yV (dX rfl rfl) (pW rfl (mV ?_))))));refine aY rfl rfl ?_ ?_<;>(intro hb;rw [hb];(try simp only [nm] at hb);try (exfalso;omega))));(all_goals (refine yN rfl (yV (kC (hfe)) (yV (cT rfl) (pW rfl (mW rfl (yN rfl (gT (qW T rfl (yV (dX rfl rfl) (pV ?_))))))))))))|refine nZ ?_));all_goals try (exfalso;omega)
    (repeat' (first|refine wS ?_|refine wR ?_|refine wT ?_|(refine rg 4 (lW T rfl (lW T rfl (dR rfl (vV (kC (hse)) (mW rfl (xW rfl (xW rfl (lO ?_)))))))))|(refine rg 5 (mW rfl (vV (by exact F1 BQ rfl rfl) ?_)))|(refine rg 6 (mW rfl (aV ?_)))|refine nZ ?_));all_goals first | (exfalso;omega) | exact rQ
  · have hP:=EX c [] ids (zI2 h0) (by omega)
    change aP _ _ _ _ (.tup [.i (-1),.i (0:Nat)]) _ at hP;refine bL T Tryz.func3 rfl rfl rfl rfl ?_
    (repeat' (first|refine wS ?_|(refine rg 0 (bS (bZ rfl rfl) rfl (bS (bZ rfl rfl) rfl (aV ?_))))|(refine rg 1 (vV (kC (hsm)) (aV ?_)))|refine nZ ?_));refine eI 5 (cs:=[.rowE (fF c.ks) 2,.rowE (iF c.ls) 3,.rowE (ints ps) 1,.rowE (dY c.bs) 3]) rfl rfl rfl ?_
    refine eI 6 (cs:=[.i c.m,.i c.st,.i c.er,.i c.sl]) rfl rfl rfl ?_
    (repeat' (first|refine wS ?_|refine wK ?_|(refine wC rfl ?_ ?_<;>(intro hb;(try simp only [nm] at hb);try (exfalso;omega)))|(refine rg 2 (fR T rfl (qW T rfl (vV (dX rfl rfl) (mV ?_))));refine aY rfl rfl ?_ ?_<;>(intro hb;rw [hb];(try simp only [nm] at hb);try (exfalso;omega));(all_goals (refine yP T rfl (yO T rfl (gT (qW T rfl (yV (dX rfl rfl) (pW rfl (mV ?_))))));refine aY rfl rfl ?_ ?_<;>(intro hb;rw [hb];(try simp only [nm] at hb);try (exfalso;omega))));(all_goals (refine yP T rfl (yO T rfl (gT (qW T rfl (yV (dX rfl rfl) (pW rfl (mV ?_))))));refine aY rfl rfl ?_ ?_<;>(intro hb;rw [hb];(try simp only [nm] at hb);try (exfalso;omega))));(all_goals (refine yN rfl (yV (kC (hfe)) (yV (cT rfl) (pW rfl (mW rfl (yN rfl (gT (qW T rfl (yV (dX rfl rfl) (pV ?_))))))))))))|refine nZ ?_));all_goals try (exfalso;omega)
    (repeat' (first|refine wS ?_|refine wB ?_|refine wK ?_|refine wU ?_|(refine rg 4 (lW T rfl (lW T rfl (dR rfl (bS (by exact hO rfl rfl hse (.inr ⟨rfl,rfl,by simp⟩)) rfl ?_))));refine mW rfl (xW rfl (xW rfl (lO ?_))))|(refine rg 5 (mW rfl (vV (by exact pC BQ rfl rfl rfl) ?_)))|(refine rg 7 (dR rfl (vV (by exact eC rfl rfl hP (.cons (.ptr rfl (.cons (.v _) (.cons (.v _) (.cons (.v _) (.cons (.v _) (.cons (.row _ _ _) (.cons (.row _ _ _) (.cons (.row _ _ _) (.cons (.nils 2) .nil))))))))) (.cons (.row _ _ _) .nil)) rfl rfl) ?_));refine mW rfl (xW rfl (xW rfl (lO ?_))))|refine nZ ?_));all_goals try (exfalso;omega)
    refine cX (X:=Unit) (fun _=>[(4,.rowE (ints ids) 1),(11,.b true),(13,.rowE [] 1),(14,.i (-1)),(15,.i 0)]) (fun _=>[]) (fun _=>0) () ⟨[],rfl,(by repeat first|exact trivial|refine ⟨rfl,?_⟩),trivial,bK,kP _⟩ ?_
    rintro ⟨⟩
    (repeat' (first|refine wS ?_|refine wB ?_|refine wK ?_|refine wE ?_|refine wU ?_|(refine rg 8 (mW rfl (vV (dX rfl rfl) ?_)))|(refine rg 18 (mW rfl (vV (dI rfl rfl) ?_)))|(refine rg 20 (aV ?_))|refine nZ ?_));all_goals try (exfalso;omega)
    refine cX (X:={i:Nat // i≤ids.length}) (fun i=>[(4,.rowE (ints ids) 1),(11,.b true),(13,.rowE [] 1),(18,.i (i.1:Int))]) (fun _=>[]) (fun i=>ids.length-i.1) ⟨0,cC _⟩ ⟨[],rfl,(by repeat first|exact trivial|refine ⟨rfl,?_⟩),trivial,bK,kP _⟩ ?_
    rintro ⟨i,hi⟩;dsimp only;by_cases hit:i<ids.length
    · (repeat' (first|refine wS ?_|refine wB ?_|refine wK ?_|(refine wC rfl (fun hb=>?_) (fun hb=>?_) <;> (((try simp only [nm] at hb);try (exfalso;omega))))|(refine rg 21 (dR rfl (qW T rfl (vV (aK rfl rfl) ?_))))|(refine rg 23 (aV ?_))|(refine nZ ?_)));all_goals try (exfalso;omega)
      refine cX (X:=Unit) (fun _=>[(4,.rowE (ints ids) 1),(11,.b true),(13,.rowE [] 1),(18,.i (i:Int)),(19,.i 0)]) (fun _=>[]) (fun _=>0) () ⟨[],rfl,(by repeat first|exact trivial|refine ⟨rfl,?_⟩),trivial,bK,kP _⟩ ?_
      rintro ⟨⟩
      (repeat' (first|refine wS ?_|refine wE ?_|refine wU ?_|(refine rg 24 (dR rfl (qW T rfl (vV (aK rfl rfl) ?_))))|(refine iA 22 rfl rfl rfl (by omega) (by omega) ?_)|refine nZ ?_));all_goals try (exfalso;omega)
      all_goals exact ⟨⟨i+1,hit⟩,by dsimp only;omega,⟨[],rfl,(by repeat first|exact trivial|refine ⟨rfl,?_⟩),trivial,bK,kP _⟩⟩
    · (repeat' (first|refine wS ?_|refine wR ?_|refine wE ?_|(refine wC rfl (fun hb=>?_) (fun hb=>?_) <;> (((try simp only [nm] at hb);try (exfalso;omega))))|(refine rg 21 (dR rfl (qW T rfl (vV (aK rfl rfl) ?_))))|(refine rg 34 (mW rfl (aV ?_)))|(refine nZ ?_)));all_goals first | (exfalso;omega) | exact rQ
end Go.Proofs.YtojgimibalokkaaGreat
namespace Go.Proofs.YtojgimibalokkaaGreat
open Go Go.Ab Go.Ld
attribute [local irreducible] VC AW cF aP kG
set_option maxHeartbeats 4000000
end Go.Proofs.YtojgimibalokkaaGreat
namespace Go.Ab
open Go
end Go.Ab
namespace Go.Proofs.YtojgimibalokkaaGreat
open Go Go.Ab Go.Ld
attribute [local irreducible] VC AW cF aP
def M1 (n:Int):Prop:=(Lit.int .i64 n).wf=true
theorem sJ:gY Tryz.prog 3 M1 (fun n=>[AV.i n]):=gY.int Tryz.underlying3 (by kernel_rfl)
theorem zV4:gY Tryz.prog 4 (fun _=>True) (fun b=>[AV.b b]):=gY.bool Tryz.underlying4 (by kernel_rfl)
theorem XB:gY Tryz.prog 9 (fun s=>s.size≤maxLen) (fun s=>[.v (.string s)]):=gY.string Tryz.underlying9 (by kernel_rfl)
theorem FC:gY Tryz.prog 24 (fun l:List Int=>l.length≤maxLen∧∀ a,a∈l→M1 a) (fun l=>[.rowE (ints l) 1]):=
  gY.slice Tryz.underlying24 (by kernel_rfl) (by kernel_rfl) (by decide) sJ
theorem zV3:gY Tryz.prog 92 (fun p:KD=>p.1.size≤maxLen∧M1 p.2) (fun p=>[AV.v (.string p.1),AV.i p.2]):=
  gY.struct (fs:=[(9,0),(3,1)]) (by kernel_rfl) (by kernel_rfl)
    (fun e W fuel css hl hx=>by
      obtain ⟨a,h1,h2,h3⟩:=iM.cons XB (iM.cons sJ iM.nil) e W fuel css hl hx
      exact ⟨(a.1,a.2.1),⟨h1.1,h1.2.1⟩,by simpa using h2,by simpa using h3⟩)
    (fun _=>by kernel_rfl)
theorem yD6:gY Tryz.prog 95 (fun p:LT=>M1 p.1∧M1 p.2.1) (fun p=>[AV.i p.1,AV.i p.2.1,AV.b p.2.2]):=
  gY.struct (fs:=[(3,0),(3,1),(4,2)]) (by kernel_rfl) (by kernel_rfl)
    (fun e W fuel css hl hx=>by
      obtain ⟨a,h1,h2,h3⟩:=iM.cons sJ (iM.cons sJ (iM.cons zV4 iM.nil)) e W fuel css hl hx
      exact ⟨(a.1,a.2.1,a.2.2.1),⟨h1.1,h1.2.1⟩,by simpa using h2,by simpa using h3⟩)
    (fun _=>by kernel_rfl)
theorem yD7:gY Tryz.prog 98 (fun p:BX=>M1 p.1∧M1 p.2.1∧M1 p.2.2) (fun p=>[AV.i p.1,AV.i p.2.1,AV.i p.2.2]):=
  gY.struct (fs:=[(3,0),(3,1),(3,2)]) (by kernel_rfl) (by kernel_rfl)
    (fun e W fuel css hl hx=>by
      obtain ⟨a,h1,h2,h3⟩:=iM.cons sJ (iM.cons sJ (iM.cons sJ iM.nil)) e W fuel css hl hx
      exact ⟨(a.1,a.2.1,a.2.2.1),⟨h1.1,h1.2.1,h1.2.2.1⟩,by simpa using h2,by simpa using h3⟩)
    (fun _=>by kernel_rfl)
theorem zI0:gY Tryz.prog 22 (fun l:List KD=>l.length≤maxLen∧∀ a,a∈l→a.1.size≤maxLen∧M1 a.2) (fun l=>[.rowE (fF l) 2]):=
  gY.slice Tryz.underlying22 (by kernel_rfl) (by kernel_rfl) (by decide) zV3
theorem zV2:gY Tryz.prog 23 (fun l:List LT=>l.length≤maxLen∧∀ a,a∈l→M1 a.1∧M1 a.2.1) (fun l=>[.rowE (iF l) 3]):=
  gY.slice Tryz.underlying23 (by kernel_rfl) (by kernel_rfl) (by decide) yD6
theorem zI1:gY Tryz.prog 25 (fun l:List BX=>l.length≤maxLen∧∀ a,a∈l→M1 a.1∧M1 a.2.1∧M1 a.2.2) (fun l=>[.rowE (dY l) 3]):=
  gY.slice Tryz.underlying25 (by kernel_rfl) (by kernel_rfl) (by decide) yD7
theorem zH8:gY Tryz.prog 27 (fun _:List KD × List LT × List Int × List BX=>True) (fun x=>[.rowE (fF x.1) 2,.rowE (iF x.2.1) 3,.rowE (ints x.2.2.1) 1,.rowE (dY x.2.2.2) 3]):=
  gY.struct (fs:=[(22,0),(23,1),(24,2),(25,3)]) (by kernel_rfl) (by kernel_rfl)
    (fun e W fuel css hl hx=>by
      obtain ⟨a,h1,h2,h3⟩:=iM.cons zI0 (iM.cons zV2 (iM.cons FC (iM.cons zI1 iM.nil))) e W fuel css hl hx
      exact ⟨(a.1,a.2.1,a.2.2.1,a.2.2.2.1),trivial,by simpa using h2,by simpa using h3⟩)
    (fun _=>by kernel_rfl)
theorem XD:gY Tryz.prog 29 (fun p:Int × Int × Int × Int=>M1 p.1∧M1 p.2.1∧M1 p.2.2.1∧M1 p.2.2.2) (fun p=>[AV.i p.1,AV.i p.2.1,AV.i p.2.2.1,AV.i p.2.2.2]):=
  gY.struct (fs:=[(3,0),(3,1),(3,2),(3,3)]) (by kernel_rfl) (by kernel_rfl)
    (fun e W fuel css hl hx=>by
      obtain ⟨a,h1,h2,h3⟩:=iM.cons sJ (iM.cons sJ (iM.cons sJ (iM.cons sJ iM.nil))) e W fuel css hl hx
      exact ⟨(a.1,a.2.1,a.2.2.1,a.2.2.2.1),⟨h1.1,h1.2.1,h1.2.2.1,h1.2.2.2.1⟩,by simpa using h2,by simpa using h3⟩)
    (fun _=>by kernel_rfl)
theorem zH9:gY Tryz.prog 41 (fun p:Int × Int × Int × Int × List Int=>p.2.2.2.2.length≤maxLen) (fun p=>[AV.i p.1,AV.i p.2.1,AV.i p.2.2.1,AV.i p.2.2.2.1,.rowE (ints p.2.2.2.2) 1]):=
  gY.struct (fs:=[(3,0),(3,1),(3,2),(3,3),(24,4)]) (by kernel_rfl) (by kernel_rfl)
    (fun e W fuel css hl hx=>by
      obtain ⟨a,h1,h2,h3⟩:=iM.cons sJ (iM.cons sJ (iM.cons sJ (iM.cons sJ (iM.cons FC iM.nil)))) e W fuel css hl hx
      exact ⟨(a.1,a.2.1,a.2.2.1,a.2.2.2.1,a.2.2.2.2.1),h1.2.2.2.2.1.1,by simpa using h2,by simpa using h3⟩)
    (fun _=>by kernel_rfl)
theorem XC:gY Tryz.prog 30 (fun l:List (Int × Int × Int × Int × List Int)=>l.length≤maxLen∧∀ p,p∈l→p.2.2.2.2.length≤maxLen) (fun l=>[.rowE (l.map fun p=>[AV.i p.1,AV.i p.2.1,AV.i p.2.2.1,AV.i p.2.2.2.1,.rowE (ints p.2.2.2.2) 1]) 5]):=
  gY.slice Tryz.underlying30 (by kernel_rfl) (by kernel_rfl) (by decide) zH9
abbrev yI2 (p:Int × Int × Int × Int × List Int):Ev:=⟨p.1,p.2.1,p.2.2.1,p.2.2.2.1,p.2.2.2.2⟩
theorem zY9 (l:List (Int × Int × Int × Int × List Int)):(l.map fun p=>[AV.i p.1,AV.i p.2.1,AV.i p.2.2.1,AV.i p.2.2.2.1,.rowE (ints p.2.2.2.2) 1])=vJ (l.map yI2):=by
  unfold vJ;rw [zD0];rfl
theorem zN6 {l:List (Int × Int × Int × Int × List Int)}(h:∀ p,p∈l→p.2.2.2.2.length≤maxLen):∀ s,s∈l.map yI2→s.ids.length≤9223372036854775807:=by
  intro s hs;obtain ⟨p,hp,rfl⟩:=bB.1 hs;exact bY (h p hp) (by decide)
abbrev yF7 (x:List KD × List LT × List Int × List BX) (c:Int × Int × Int × Int):Cx:=⟨c.1,c.2.1,c.2.2.1,c.2.2.2,x.1,x.2.1,x.2.2.2⟩
end Go.Proofs.YtojgimibalokkaaGreat
namespace Go.Proofs.YtojgimibalokkaaGreat
open Go Go.Ab Go.Ld
attribute [local irreducible] VC AW cF aP kG
theorem MK (x:List KD × List LT × List Int × List BX) (_:True) (c:Int × Int × Int × Int) (_:M1 c.1∧M1 c.2.1∧M1 c.2.2.1∧M1 c.2.2.2) (l:List (Int × Int × Int × Int × List Int)) (hl:l.length≤maxLen∧∀ p,p∈l→p.2.2.2.2.length≤maxLen)
    (d:List Int) (_:d.length≤maxLen∧∀ a,a∈d→M1 a) (ids:List Int) (_:ids.length≤maxLen∧∀ a,a∈ids→M1 a) :
    aP Tryz.prog 3 [wH x.1 x.2.1 x.2.2.1 x.2.2.2,lH c.1 c.2.1 c.2.2.1 c.2.2.2,.rowE (l.map fun p=>[AV.i p.1,AV.i p.2.1,AV.i p.2.2.1,AV.i p.2.2.2.1,.rowE (ints p.2.2.2.2) 1]) 5,.rowE (ints d) 1,.rowE (ints ids) 1] [] (.b true) []:=by
  rw [zY9];have hids:=zN6 hl.2;generalize l.map yI2=l at *;by_cases hx:C3 l 10=false∨6<x.2.2.2.length∨10<x.1.length∨10<x.2.1.length∨6<ids.length
  · exact XQ (yF7 x c) _ l d ids hids hx
  · have hf:C3 l 10=true:=by
      cases h:C3 l 10 with
      | true=>rfl
      | false=>exact absurd (.inl h) hx
    have h1:x.2.2.2.length≤6:=by omega
    have h2:x.1.length≤10:=by omega
    have h3:x.2.1.length≤10:=by omega
    have h4:ids.length≤6:=by omega
    cases hno:(!sE (yF7 x c)&&LP x.1 x.2.1 x.2.2.2) with
    | false=>exact XP (yF7 x c) _ l d ids hids hf h1 h2 h3 h4 hno
    | true=>
      rw [aJ,vY] at hno;obtain ⟨hs,ht⟩:=hno;by_cases h0:x.2.2.2=[]
      · exact zW3 (yF7 x c) _ l d ids hids hf h0 h2 h3 h4 hs ht
      · exact XO (yF7 x c) _ l d ids hids hf (eV.2 h0) h1 h2 h3 h4 hs ht
end Go.Proofs.YtojgimibalokkaaGreat
