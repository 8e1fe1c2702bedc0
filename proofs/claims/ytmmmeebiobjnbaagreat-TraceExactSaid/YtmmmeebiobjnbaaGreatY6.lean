/-
  Texts of the logic and of the layer,in one module (part 6).
-/
import Derived.Test.YtmmmeebiobjnbaaGreatY5
import Derived.Shelf.RegionOpenPlain
import Derived.Deep.LoopGhost
import Derived.Deep.RegionLaw
import Derived.Lib.Walk
import Derived.Lib.SlicesDelete
import Derived.Sort.WalkB12
import Derived.Shelf.Slices.Delete
import Derived.Ground.Names2Prog
import Derived.Shelf.Spec.SlicesGrow
import Derived.Ground.Names8Prog
set_option linter.unusedVariables false
set_option linter.unusedSimpArgs false
set_option linter.unnecessarySimpa false
namespace Go.Ld
open Go.Ab Go.Proofs.YtmmmeebiobjnbaaGreat
def uR {α:Type}(p:α→Bool):List α→Nat→Int
  | [],_=>-1
  | x::l,k=>if p x=true then k else uR p l (k+1)
theorem IZ {α:Type}{p:α→Bool}{l:List α}{k:Nat}(h:k<l.length):uR p (l.drop k) k=if p l[k]=true then (k:Int) else uR p (l.drop (k+1)) (k+1):=by
  rw [aY h];rfl
theorem CV {α:Type}{p:α→Bool}{l:List α}{k:Nat}(h:l.length≤k):uR p (l.drop k) k = -1:=by
  rw [dC h];rfl
theorem M6 {α:Type}(p:α→Bool):∀ (l:List α) (k:Nat),decide (uR p l k ≥ 0)=l.any p
  | [],k=>by simp [uR]
  | x::l,k=>by
    unfold uR;split
    · rename_i h;simp [h]
    · rename_i h;rw [M6 p l (k+1)];simp [h]
theorem GR {α:Type}(p:α→Bool):∀ (l:List α) (k:Nat),uR p l k=match l.findIdx? p with
    | some i=>((k+i:Nat):Int)
    | none=>-1
  | [],k=>by simp [uR]
  | x::l,k=>by
    unfold uR;rw [List.findIdx?_cons];by_cases h:p x=true
    · rw [if_pos h,if_pos h];simp
    · rw [if_neg h,if_neg h,GR p l (k+1)];cases l.findIdx? p with
      | none=>rfl
      | some i=>show ((k+1+i:Nat):Int)=((k+(i+1):Nat):Int);omega
theorem rZ (l:List G):∀ e,e∈kU l→e.length=2:=by intro e he;obtain ⟨n,_,rfl⟩:=bA.1 he;rfl
theorem jW (l:List G):(kU l).length=l.length:=aX _
theorem zE5 (l:List G):(kU l).flatten.all AV.one=true:=by
  induction l with
  | nil=>rfl
  | cons x l ih=>exact ih
theorem eN (l:List G):∀ e,e∈kU l→AV.idfL e=true:=by intro e he;obtain ⟨x,_,rfl⟩:=bA.1 he;rfl
end Go.Ld
namespace Go.Proofs.YtmmmeebiobjnbaaGreat
open Go Go.Ab Go.Ld
attribute [local irreducible] VC AW cD aT
set_option maxHeartbeats 4000000
abbrev XV (g:G):AV:=.agg (gA g)
theorem D9 {l:List W}{k:Nat}(h:k<l.length):(gM l)[(k:Int).toNat]? = some (wA l[k]):=by simp [h]
theorem JC {l:List G}{k:Nat}(h:k<l.length):(kU l)[(k:Int).toNat]? = some (gA l[k]):=by simp [h]
theorem TJ {l:List Int}{k:Nat}(h:k<l.length):(ints l)[(k:Int).toNat]? = some [AV.i l[k]]:=by simp [h]
theorem zC9 {l:List W}{F:FuncId}{caps:List AV}{p:W→Bool}(hl:l.length≤1000000) (hi:AV.idfL caps=true) (hF:∀ x,x∈l→aT Tryz.prog F (.agg (wA x)::caps) [] (.b (p x)) []) :
    aT Tryz.prog 135 [.rowE (gM l) 3,.clo (.func F) [] caps] [] (.i (uR p l 0)) []:=by
  have hlen:(gM l).length=l.length:=aX _;refine bU T Tryz.func135 rfl rfl rfl rfl ?_
  (repeat' (first|refine wS ?_|refine wB ?_|(refine rg 0 (aV ?_))|(refine rg 1 (mW rfl (qW T rfl (mV ?_))))|refine nZ ?_));refine dA (X:={k:Nat // k≤l.length∧uR p l 0=uR p (l.drop k) k}) (fun k=>[(0,.rowE (gM l) 3),(1,.clo (.func F) [] caps),(7,.i (gM l).length),(8,.i k.1)]) (fun _=>[]) (fun k=>l.length-k.1) ⟨0,by simp,rfl⟩ ⟨[],rfl,⟨rfl,by rw [lN hi];rfl,rfl,rfl,trivial⟩,trivial,eT,fun _ h=>absurd h (eG _)⟩ ?_
  rintro ⟨k,hk,he⟩;dsimp only;by_cases hlt:k<l.length
  · have hc:=hF l[k] (aM hlt);have hg:=D9 (l:=l) hlt;rw [IZ hlt] at he;generalize l[k]=y at *;cases hp:p y with
    | true=>
      rw [hp] at hc;rw [hp,if_pos rfl] at he
      (repeat' (first|refine wS ?_|refine wB ?_|refine wK ?_|refine wR ?_|refine wT ?_|(refine wC rfl ?_ ?_<;>(intro hb;(try simp only [nm] at hb);try (exfalso;omega)))|(refine rg 2 (vV (aL rfl rfl) ?_))|(refine rg 3 (mW rfl (aV ?_)))|(refine rg 4 (dI rfl (mW rfl (vV (ix T rfl (by omega) (pZ l) hg) (lW T rfl (vV (by exact fQ rfl rfl hc rfl (by simp [AV.idfL,AV.idf,hi]) rfl) ?_))))))|(refine rg 5 (mW rfl (aV ?_)))|refine nZ ?_));all_goals first | (exfalso;omega) | exact dJ (.inl rfl) rfl (by rw [he];rfl)
    | false=>
      rw [hp] at hc;rw [hp,if_neg (by simp)] at he
      (repeat' (first|refine wS ?_|refine wB ?_|refine wK ?_|refine wU ?_|(refine wC rfl ?_ ?_<;>(intro hb;(try simp only [nm] at hb);try (exfalso;omega)))|(refine rg 2 (vV (aL rfl rfl) ?_))|(refine rg 3 (mW rfl (aV ?_)))|(refine rg 4 (dI rfl (mW rfl (vV (ix T rfl (by omega) (pZ l) hg) (lW T rfl (vV (by exact fQ rfl rfl hc rfl (by simp [AV.idfL,AV.idf,hi]) rfl) ?_))))))|(refine rg 6 (vV (cE rfl rfl (by omega) (by omega)) (mV ?_)))|refine nZ ?_));all_goals first | (exfalso;omega) | exact ⟨⟨k+1,hlt,he⟩,by dsimp only;omega,⟨[],rfl,⟨rfl,by rw [lN hi];rfl,rfl,rfl,trivial⟩,trivial,eT,fun _ h=>absurd h (eG _)⟩⟩
  · rw [CV (by omega)] at he
    (repeat' (first|refine wS ?_|refine wR ?_|refine wE ?_|(refine wC rfl ?_ ?_<;>(intro hb;(try simp only [nm] at hb);try (exfalso;omega)))|(refine rg 2 (vV (aL rfl rfl) ?_))|(refine rg 7 (aV ?_))|refine nZ ?_));all_goals first | (exfalso;omega) | exact dJ (.inl rfl) rfl (by rw [he];rfl)
theorem yD0 {l:List W}{F:FuncId}{caps:List AV}{p:W→Bool}(hl:l.length≤1000000) (hi:AV.idfL caps=true) (hF:∀ x,x∈l→aT Tryz.prog F (.agg (wA x)::caps) [] (.b (p x)) []) :
    aT Tryz.prog 136 [.rowE (gM l) 3,.clo (.func F) [] caps] [] (.b (l.any p)) []:=by
  have hc:=zC9 hl hi hF;rw [← M6 p l 0];refine bU T Tryz.func136 rfl rfl rfl rfl ?_
  (repeat' (first|refine wS ?_|refine wR ?_|(refine rg 0 (aV ?_))|(refine rg 1 (dI rfl (vV (by exact fQ rfl rfl hc rfl (by simp [AV.idfL,AV.idf,hi]) rfl) ?_));refine vV (iC rfl rfl) (aV ?_))|refine nZ ?_));all_goals first | (exfalso;omega) | exact rQ
theorem zY9 {l:List G}{F:FuncId}{caps:List AV}{p:G→Bool}(hl:l.length≤1000000) (hi:AV.idfL caps=true) (hF:∀ x,x∈l→aT Tryz.prog F (.agg (gA x)::caps) [] (.b (p x)) []) :
    aT Tryz.prog 84 [.rowE (kU l) 2,.clo (.func F) [] caps] [] (.i (uR p l 0)) []:=by
  have hlen:(kU l).length=l.length:=aX _;refine bU T Tryz.func84 rfl rfl rfl rfl ?_
  (repeat' (first|refine wS ?_|refine wB ?_|(refine rg 0 (aV ?_))|(refine rg 1 (mW rfl (qW T rfl (mV ?_))))|refine nZ ?_));refine dA (X:={k:Nat // k≤l.length∧uR p l 0=uR p (l.drop k) k}) (fun k=>[(0,.rowE (kU l) 2),(1,.clo (.func F) [] caps),(7,.i (kU l).length),(8,.i k.1)]) (fun _=>[]) (fun k=>l.length-k.1) ⟨0,by simp,rfl⟩ ⟨[],rfl,⟨rfl,by rw [lN hi];rfl,rfl,rfl,trivial⟩,trivial,eT,fun _ h=>absurd h (eG _)⟩ ?_
  rintro ⟨k,hk,he⟩;dsimp only;by_cases hlt:k<l.length
  · have hc:=hF l[k] (aM hlt);have hg:=JC (l:=l) hlt;rw [IZ hlt] at he;generalize l[k]=y at *;cases hp:p y with
    | true=>
      rw [hp] at hc;rw [hp,if_pos rfl] at he
      (repeat' (first|refine wS ?_|refine wB ?_|refine wK ?_|refine wR ?_|refine wT ?_|(refine wC rfl ?_ ?_<;>(intro hb;(try simp only [nm] at hb);try (exfalso;omega)))|(refine rg 2 (vV (aL rfl rfl) ?_))|(refine rg 3 (mW rfl (aV ?_)))|(refine rg 4 (dI rfl (mW rfl (vV (ix T rfl (by omega) (rZ l) hg) (lW T rfl (vV (by exact fQ rfl rfl hc rfl (by simp [AV.idfL,AV.idf,hi]) rfl) ?_))))))|(refine rg 5 (mW rfl (aV ?_)))|refine nZ ?_));all_goals first | (exfalso;omega) | exact dJ (.inl rfl) rfl (by rw [he];rfl)
    | false=>
      rw [hp] at hc;rw [hp,if_neg (by simp)] at he
      (repeat' (first|refine wS ?_|refine wB ?_|refine wK ?_|refine wU ?_|(refine wC rfl ?_ ?_<;>(intro hb;(try simp only [nm] at hb);try (exfalso;omega)))|(refine rg 2 (vV (aL rfl rfl) ?_))|(refine rg 3 (mW rfl (aV ?_)))|(refine rg 4 (dI rfl (mW rfl (vV (ix T rfl (by omega) (rZ l) hg) (lW T rfl (vV (by exact fQ rfl rfl hc rfl (by simp [AV.idfL,AV.idf,hi]) rfl) ?_))))))|(refine rg 6 (vV (cE rfl rfl (by omega) (by omega)) (mV ?_)))|refine nZ ?_));all_goals first | (exfalso;omega) | exact ⟨⟨k+1,hlt,he⟩,by dsimp only;omega,⟨[],rfl,⟨rfl,by rw [lN hi];rfl,rfl,rfl,trivial⟩,trivial,eT,fun _ h=>absurd h (eG _)⟩⟩
  · rw [CV (by omega)] at he
    (repeat' (first|refine wS ?_|refine wR ?_|refine wE ?_|(refine wC rfl ?_ ?_<;>(intro hb;(try simp only [nm] at hb);try (exfalso;omega)))|(refine rg 2 (vV (aL rfl rfl) ?_))|(refine rg 7 (aV ?_))|refine nZ ?_));all_goals first | (exfalso;omega) | exact dJ (.inl rfl) rfl (by rw [he];rfl)
theorem yD4 {l:List G}{F:FuncId}{caps:List AV}{p:G→Bool}(hl:l.length≤1000000) (hi:AV.idfL caps=true) (hF:∀ x,x∈l→aT Tryz.prog F (.agg (gA x)::caps) [] (.b (p x)) []) :
    aT Tryz.prog 66 [.rowE (kU l) 2,.clo (.func F) [] caps] [] (.b (l.any p)) []:=by
  have hc:=zY9 hl hi hF;rw [← M6 p l 0];refine bU T Tryz.func66 rfl rfl rfl rfl ?_
  (repeat' (first|refine wS ?_|refine wR ?_|(refine rg 0 (aV ?_))|(refine rg 1 (dI rfl (vV (by exact fQ rfl rfl hc rfl (by simp [AV.idfL,AV.idf,hi]) rfl) ?_));refine vV (iC rfl rfl) (aV ?_))|refine nZ ?_));all_goals first | (exfalso;omega) | exact rQ
theorem zY8 {l:List Int}{F:FuncId}{caps:List AV}{p:Int→Bool}(hl:l.length≤1000000) (hi:AV.idfL caps=true) (hF:∀ x,x∈l→aT Tryz.prog F (.i x::caps) [] (.b (p x)) []) :
    aT Tryz.prog 54 [.rowE (ints l) 1,.clo (.func F) [] caps] [] (.i (uR p l 0)) []:=by
  have hlen:(ints l).length=l.length:=aX _;refine bU T Tryz.func54 rfl rfl rfl rfl ?_
  (repeat' (first|refine wS ?_|refine wB ?_|(refine rg 0 (aV ?_))|(refine rg 1 (mW rfl (qW T rfl (mV ?_))))|refine nZ ?_));refine dA (X:={k:Nat // k≤l.length∧uR p l 0=uR p (l.drop k) k}) (fun k=>[(0,.rowE (ints l) 1),(1,.clo (.func F) [] caps),(7,.i (ints l).length),(8,.i k.1)]) (fun _=>[]) (fun k=>l.length-k.1) ⟨0,by simp,rfl⟩ ⟨[],rfl,⟨rfl,by rw [lN hi];rfl,rfl,rfl,trivial⟩,trivial,eT,fun _ h=>absurd h (eG _)⟩ ?_
  rintro ⟨k,hk,he⟩;dsimp only;by_cases hlt:k<l.length
  · have hc:=hF l[k] (aM hlt);have hg:=TJ (l:=l) hlt;rw [IZ hlt] at he;generalize l[k]=y at *;cases hp:p y with
    | true=>
      rw [hp] at hc;rw [hp,if_pos rfl] at he
      (repeat' (first|refine wS ?_|refine wB ?_|refine wK ?_|refine wR ?_|refine wT ?_|(refine wC rfl ?_ ?_<;>(intro hb;(try simp only [nm] at hb);try (exfalso;omega)))|(refine rg 2 (vV (aL rfl rfl) ?_))|(refine rg 3 (mW rfl (aV ?_)))|(refine rg 4 (dI rfl (mW rfl (vV (ix T rfl (by omega) (dR l) hg) (lW T rfl (vV (by exact fQ rfl rfl hc rfl (by simp [AV.idfL,AV.idf,hi]) rfl) ?_))))))|(refine rg 5 (mW rfl (aV ?_)))|refine nZ ?_));all_goals first | (exfalso;omega) | exact dJ (.inl rfl) rfl (by rw [he];rfl)
    | false=>
      rw [hp] at hc;rw [hp,if_neg (by simp)] at he
      (repeat' (first|refine wS ?_|refine wB ?_|refine wK ?_|refine wU ?_|(refine wC rfl ?_ ?_<;>(intro hb;(try simp only [nm] at hb);try (exfalso;omega)))|(refine rg 2 (vV (aL rfl rfl) ?_))|(refine rg 3 (mW rfl (aV ?_)))|(refine rg 4 (dI rfl (mW rfl (vV (ix T rfl (by omega) (dR l) hg) (lW T rfl (vV (by exact fQ rfl rfl hc rfl (by simp [AV.idfL,AV.idf,hi]) rfl) ?_))))))|(refine rg 6 (vV (cE rfl rfl (by omega) (by omega)) (mV ?_)))|refine nZ ?_));all_goals first | (exfalso;omega) | exact ⟨⟨k+1,hlt,he⟩,by dsimp only;omega,⟨[],rfl,⟨rfl,by rw [lN hi];rfl,rfl,rfl,trivial⟩,trivial,eT,fun _ h=>absurd h (eG _)⟩⟩
  · rw [CV (by omega)] at he
    (repeat' (first|refine wS ?_|refine wR ?_|refine wE ?_|(refine wC rfl ?_ ?_<;>(intro hb;(try simp only [nm] at hb);try (exfalso;omega)))|(refine rg 2 (vV (aL rfl rfl) ?_))|(refine rg 7 (aV ?_))|refine nZ ?_));all_goals first | (exfalso;omega) | exact dJ (.inl rfl) rfl (by rw [he];rfl)
theorem yD3 {l:List Int}{F:FuncId}{caps:List AV}{p:Int→Bool}(hl:l.length≤1000000) (hi:AV.idfL caps=true) (hF:∀ x,x∈l→aT Tryz.prog F (.i x::caps) [] (.b (p x)) []) :
    aT Tryz.prog 68 [.rowE (ints l) 1,.clo (.func F) [] caps] [] (.b (l.any p)) []:=by
  have hc:=zY8 hl hi hF;rw [← M6 p l 0];refine bU T Tryz.func68 rfl rfl rfl rfl ?_
  (repeat' (first|refine wS ?_|refine wR ?_|(refine rg 0 (aV ?_))|(refine rg 1 (dI rfl (vV (by exact fQ rfl rfl hc rfl (by simp [AV.idfL,AV.idf,hi]) rfl) ?_));refine vV (iC rfl rfl) (aV ?_))|refine nZ ?_));all_goals first | (exfalso;omega) | exact rQ
end Go.Proofs.YtmmmeebiobjnbaaGreat
namespace Go.Proofs.YtmmmeebiobjnbaaGreat
open Go Go.Ab Go.Ld Go.Lib Go.Sort Go.RowKit Go.Shelf
theorem X8 (d:List Value) (i j:Nat) (Z:List Value) (hij:i≤j) (hj:j≤d.length) (hZ:Z.length=j-i) :
    lay (lay d.toArray i (d.drop j)) (i+(d.length-j)) Z=(d.take i++d.drop j++Z).toArray:=by
  apply Array.ext_getElem?;intro t;have l1:(d.take i).length=i:=by simp;omega
  have l2:(d.drop j).length=d.length-j:=by simp
  rw [lay_get? _ _ _ _ (by rw [lay_size];simp;omega),lay_get? _ _ _ _ (by rw [l2];simp;omega),show (d.take i++d.drop j++Z).toArray[t]? = (d.take i++d.drop j++Z)[t]? from jA]
  simp only [hZ,l2];by_cases c1:t<i
  · rw [if_neg (by omega),if_neg (by omega),aG (by simp;omega),aG (by omega),cJ,if_pos c1,jA]
  · by_cases c2:t<i+(d.length-j)
    · rw [if_neg (by omega),if_pos (by omega),aG (by simp;omega),aE (by omega),l1]
    · rw [aE (by simp;omega)]
      simp only [aF,l1,l2];by_cases c3:t<d.length
      · rw [if_pos (by omega)]
      · rw [if_neg (by omega),if_neg (by omega),Array.getElem?_eq_none (by simp;omega),cX (by omega)]
set_option maxHeartbeats 4000000 in
set_option maxRecDepth 1000000 in
theorem zV2 (blk off cap len i j:Nat) (cs:List Value) (w:World) (hcl0:cs.length=len*2) (hH:Holds id w blk off cs.toArray) (h1:∀ u,u∈cs→u.oneCell'=true) (hcap:len≤cap) (hm:cap≤9223372036854775807) (hij:i≤j) (hj:j≤len) :
    Calls Tryz.prog 139 #[.slice (some ⟨blk,off,none⟩) len cap,.int .i64 i,.int .i64 j] w fun e w'=>e = .returned (.slice (some ⟨blk,off,none⟩) (len-(j-i)) cap)∧∃ (q:Nat) (Z:List Value),Z.length=(j-i)*2∧w'=putRow id (Sort.ahead w q) blk off (cs.take (i*2)++cs.drop (j*2)++Z).toArray:=by
  by_cases heq:i=j
  · subst heq;have h0:Calls Tryz.prog 139 #[.slice (some ⟨blk,off,none⟩) len cap,.int .i64 i,.int .i64 i] w fun e w'=>e = .returned (.slice (some ⟨blk,off,none⟩) len cap)∧w'=w:=by
      clear hH h1
      go_enter Tryz.func139,Tryz.ntmps139
      go_wp2
      all_goals (go_ret;exact ⟨rfl,rfl⟩)
    refine h0.mono ?_;rintro e w' ⟨rfl,rfl⟩;refine ⟨by rw [dY,zK9],0,[],by simp,?_⟩
    rw [List.append_nil,bS];exact (putRow_self id (Sort.ahead w' 0) blk off cs.toArray hH).symm
  · have hlt:i<j:=by omega
    obtain ⟨inf,z,t1,t2,t3,t4,t5,t6,t7⟩:=T.tiOk 102 _ rfl;have t22:Tryz.prog.underlying 103=some (.slice 102):=T.elemOk _ _ rfl;have hzv:∀ w,(zeroValue 102).run Tryz.prog w = .ok z w:=fun w=>by simp [zeroValue,typeInfo,t1,t4]
    have hz2:z.cells.toList.length=2:=by rw [t5];rfl
    have hz1:∀ u,u∈z.cells.toList→u.oneCell'=true:=by rw [t5];exact bK.1 rfl
    obtain ⟨_,hZl⟩:=qX (z:=z.cells) rfl (by intro h;rw [h] at hz2;cases hz2) (j-i)
    rw [hz2] at hZl;have hji:len-(i+(len-j))=j-i:=by omega
    obtain ⟨Z,hZe⟩:∃ Z,Z=(Builtin.zeroCells z.cells (j-i)).toList:=⟨_,rfl⟩;rw [← hZe] at hZl;obtain ⟨news,hnews⟩:∃ news,news=cs.drop (j*2):=⟨_,rfl⟩;have hlen:news.length=(len-j)*2:=by rw [hnews,dQ];omega
    have hget:∀ t,t<(len-j)*2→news[t]? = some (cs.toArray[j*2+t]!):=by
      intro t ht;rw [hnews,eF,getElem!_pos cs.toArray (j*2+t) (by simp;omega),D7,aA]
    obtain ⟨A,hA,hsrc⟩:∃ A:Addr,(if cap=j then some (⟨blk,off,none⟩:Addr) else some ⟨blk,off+j*2,none⟩)=some A∧Hid (∀ t u,news[t]? = some u→w.drew.cell? (A.add t)=some u):=by
      by_cases h:cap=j
      · refine ⟨⟨blk,off,none⟩,by simp [h],fun t u hu=>?_⟩
        have h0:news.length=0:=by rw [hlen];omega
        rw [fI.1 h0] at hu;simp at hu
      · refine ⟨⟨blk,off+j*2,none⟩,by simp [h],fun t u hu=>?_⟩
        have ht:t<(len-j)*2:=by
          have:=(aB.1 hu).1
          rwa [hlen] at this
        rw [hget t ht] at hu;rw [Addr.add_lit,show off+j*2+t=off+(j*2+t) by omega]
        exact (hH (j*2+t) (by simp;omega)).1.trans hu
    have s1:Hid (news.length=(len-j)*2):=hlen;have s2:Hid (∀ u∈news,u.oneCell'=true):=by
      intro u hu;rw [hnews] at hu;exact h1 u (eA hu)
    have s3:Hid (∀ t,t<news.length→(w.drew.cell? ⟨blk,off+i*2+t,none⟩).isSome=true∧w.drew.frozen? ⟨blk,off+i*2+t,none⟩=false):=by
      intro t ht;rw [hlen] at ht;rw [eB];exact ⟨by show (w.cell? _).isSome=true;rw [(hH (i*2+t) (by simp;omega)).1];rfl,(hH (i*2+t) (by simp;omega)).2⟩
    obtain ⟨W1,hW1⟩:∃ W1,W1=w.drew.setCells blk (off+i*2) news:=⟨_,rfl⟩;have hW1':W1=putRow id (Sort.ahead w 1) blk off (lay cs.toArray (i*2) (cs.drop (j*2))):=by
      have h:=putRow_setCells id (Sort.ahead w 1) blk off (cs.drop (j*2)) cs.toArray (i*2) (by simp;omega)
      rw [Y8,putRow_self id (Sort.ahead w 1) blk off cs.toArray (holds_ahead id w 1 blk off cs.toArray hH)] at h;rw [hW1,hnews];exact h
    have hH1:Holds id W1 blk off (lay cs.toArray (i*2) (cs.drop (j*2))):=by rw [hW1'];exact holds_putRow id _ blk off cs.toArray _ (holds_ahead id w 1 blk off cs.toArray hH) (lay_size _ _ _)
    have hcl:∀ ty,(Builtin.clear_ #[103] ty #[.slice (some ⟨blk,off+(i+(len-j))*2,none⟩) (len-(i+(len-j))) (cap-(i+(len-j)))]).run Tryz.prog W1 = .ok (.tuple #[]) (W1.setCells blk (off+(i+(len-j))*2) Z):=
      fun ty=>by
       rw [hZe,← hji];exact BQ W1 _ _ ty z t22 hzv (by intro h; rw [h] at hz2; cases hz2) hz1 blk _ _ _ (by omega)
        (fun t ht=>by rw [hz2] at ht;rw [eB,(hH1 _ (by rw [lay_size];simp;omega)).1];rfl) (fun t ht=>by rw [hz2] at ht;rw [eB];exact (hH1 _ (by rw [lay_size];simp;omega)).2)
    have X:Aside (W1=putRow id (Sort.ahead w 1) blk off (lay cs.toArray (i*2) (cs.drop (j*2)))):=hW1';have hW:Hid (W1=w.drew.setCells blk (off+i*2) news):=hW1;have mixed:=cK;have hic:i≤cap:=by omega
    have hjc:j≤cap:=by omega
    clear hW1 hW1' hH1 hH hget hnews hlen hji hZe
    go_enter Tryz.func139,Tryz.ntmps139
    go_wp2_with fail
    go_region_law_o (refine step_append_room rfl (.tmp 22) (.tmp 25) 103 rfl 102 inf 2 t22 t1 t2 blk off i cap (by simp [Act.eval,Act.put]) A (len-j) (cap-j) news (by simp [Act.eval,Act.put]) s1.out hsrc.out s2.out (by omega) s3.out ?_;rw [← hW.out])
    go_wp2
    go_ret
    refine ⟨by rw [show len-(j-i)=i+(len-j) by omega];rfl,1,Z,hZl,?_⟩
    rw [X.out,← Y8 Z,show off+(i+(len-j))*2=off+(i*2+(cs.length-j*2)) by omega,putRow_setCells id _ blk off _ _ _ (by rw [lay_size,oI];omega),Y8,
      X8 cs (i*2) (j*2) _ (by omega) (by omega) (by omega)]
theorem yE9 (l:List SP) (i j:Nat) (hij:i≤j) (hj:j≤l.length) (hne:l≠[]) :
    aT Tryz.prog 139 [.sl 0 0 l.length 2,.i (i:Int),.i (j:Int)] [.arr (fY l) 2] (.sl 0 0 (l.length-(j-i)) 2) [.arr (fY (l.take i++l.drop j)) 2]:=by
  have h:=I1 (sz:=2) ⟨_,Tryz.func139,by kernel_rfl,by kernel_rfl⟩ zV2 (fY l) (lU l) (FI l) i j hij (by rw [aX];exact hj) (fun h=>hne (mS.1 h))
  rw [aX,← kY,← yP4,← bT] at h;exact h
set_option maxHeartbeats 4000000 in
set_option maxRecDepth 1000000 in
theorem zV3 (blk off cap len i j:Nat) (cs:List Value) (w:World) (hcl0:cs.length=len*2) (hH:Holds id w blk off cs.toArray) (h1:∀ u,u∈cs→u.oneCell'=true) (hcap:len≤cap) (hm:cap≤9223372036854775807) (hij:i≤j) (hj:j≤len) :
    Calls Tryz.prog 83 #[.slice (some ⟨blk,off,none⟩) len cap,.int .i64 i,.int .i64 j] w fun e w'=>e = .returned (.slice (some ⟨blk,off,none⟩) (len-(j-i)) cap)∧∃ (q:Nat) (Z:List Value),Z.length=(j-i)*2∧w'=putRow id (Sort.ahead w q) blk off (cs.take (i*2)++cs.drop (j*2)++Z).toArray:=by
  by_cases heq:i=j
  · subst heq;have h0:Calls Tryz.prog 83 #[.slice (some ⟨blk,off,none⟩) len cap,.int .i64 i,.int .i64 i] w fun e w'=>e = .returned (.slice (some ⟨blk,off,none⟩) len cap)∧w'=w:=by
      clear hH h1
      go_enter Tryz.func83,Tryz.ntmps83
      go_wp2
      all_goals (go_ret;exact ⟨rfl,rfl⟩)
    refine h0.mono ?_;rintro e w' ⟨rfl,rfl⟩;refine ⟨by rw [dY,zK9],0,[],by simp,?_⟩
    rw [List.append_nil,bS];exact (putRow_self id (Sort.ahead w' 0) blk off cs.toArray hH).symm
  · have hlt:i<j:=by omega
    obtain ⟨inf,z,t1,t2,t3,t4,t5,t6,t7⟩:=T.tiOk 108 _ rfl;have t22:Tryz.prog.underlying 98=some (.slice 108):=T.elemOk _ _ rfl;have hzv:∀ w,(zeroValue 108).run Tryz.prog w = .ok z w:=fun w=>by simp [zeroValue,typeInfo,t1,t4]
    have hz2:z.cells.toList.length=2:=by rw [t5];rfl
    have hz1:∀ u,u∈z.cells.toList→u.oneCell'=true:=by rw [t5];exact bK.1 rfl
    obtain ⟨_,hZl⟩:=qX (z:=z.cells) rfl (by intro h;rw [h] at hz2;cases hz2) (j-i)
    rw [hz2] at hZl;have hji:len-(i+(len-j))=j-i:=by omega
    obtain ⟨Z,hZe⟩:∃ Z,Z=(Builtin.zeroCells z.cells (j-i)).toList:=⟨_,rfl⟩;rw [← hZe] at hZl;obtain ⟨news,hnews⟩:∃ news,news=cs.drop (j*2):=⟨_,rfl⟩;have hlen:news.length=(len-j)*2:=by rw [hnews,dQ];omega
    have hget:∀ t,t<(len-j)*2→news[t]? = some (cs.toArray[j*2+t]!):=by
      intro t ht;rw [hnews,eF,getElem!_pos cs.toArray (j*2+t) (by simp;omega),D7,aA]
    obtain ⟨A,hA,hsrc⟩:∃ A:Addr,(if cap=j then some (⟨blk,off,none⟩:Addr) else some ⟨blk,off+j*2,none⟩)=some A∧Hid (∀ t u,news[t]? = some u→w.drew.cell? (A.add t)=some u):=by
      by_cases h:cap=j
      · refine ⟨⟨blk,off,none⟩,by simp [h],fun t u hu=>?_⟩
        have h0:news.length=0:=by rw [hlen];omega
        rw [fI.1 h0] at hu;simp at hu
      · refine ⟨⟨blk,off+j*2,none⟩,by simp [h],fun t u hu=>?_⟩
        have ht:t<(len-j)*2:=by
          have:=(aB.1 hu).1
          rwa [hlen] at this
        rw [hget t ht] at hu;rw [Addr.add_lit,show off+j*2+t=off+(j*2+t) by omega]
        exact (hH (j*2+t) (by simp;omega)).1.trans hu
    have s1:Hid (news.length=(len-j)*2):=hlen;have s2:Hid (∀ u∈news,u.oneCell'=true):=by
      intro u hu;rw [hnews] at hu;exact h1 u (eA hu)
    have s3:Hid (∀ t,t<news.length→(w.drew.cell? ⟨blk,off+i*2+t,none⟩).isSome=true∧w.drew.frozen? ⟨blk,off+i*2+t,none⟩=false):=by
      intro t ht;rw [hlen] at ht;rw [eB];exact ⟨by show (w.cell? _).isSome=true;rw [(hH (i*2+t) (by simp;omega)).1];rfl,(hH (i*2+t) (by simp;omega)).2⟩
    obtain ⟨W1,hW1⟩:∃ W1,W1=w.drew.setCells blk (off+i*2) news:=⟨_,rfl⟩;have hW1':W1=putRow id (Sort.ahead w 1) blk off (lay cs.toArray (i*2) (cs.drop (j*2))):=by
      have h:=putRow_setCells id (Sort.ahead w 1) blk off (cs.drop (j*2)) cs.toArray (i*2) (by simp;omega)
      rw [Y8,putRow_self id (Sort.ahead w 1) blk off cs.toArray (holds_ahead id w 1 blk off cs.toArray hH)] at h;rw [hW1,hnews];exact h
    have hH1:Holds id W1 blk off (lay cs.toArray (i*2) (cs.drop (j*2))):=by rw [hW1'];exact holds_putRow id _ blk off cs.toArray _ (holds_ahead id w 1 blk off cs.toArray hH) (lay_size _ _ _)
    have hcl:∀ ty,(Builtin.clear_ #[98] ty #[.slice (some ⟨blk,off+(i+(len-j))*2,none⟩) (len-(i+(len-j))) (cap-(i+(len-j)))]).run Tryz.prog W1 = .ok (.tuple #[]) (W1.setCells blk (off+(i+(len-j))*2) Z):=
      fun ty=>by
       rw [hZe,← hji];exact BQ W1 _ _ ty z t22 hzv (by intro h; rw [h] at hz2; cases hz2) hz1 blk _ _ _ (by omega)
        (fun t ht=>by rw [hz2] at ht;rw [eB,(hH1 _ (by rw [lay_size];simp;omega)).1];rfl) (fun t ht=>by rw [hz2] at ht;rw [eB];exact (hH1 _ (by rw [lay_size];simp;omega)).2)
    have X:Aside (W1=putRow id (Sort.ahead w 1) blk off (lay cs.toArray (i*2) (cs.drop (j*2)))):=hW1';have hW:Hid (W1=w.drew.setCells blk (off+i*2) news):=hW1;have mixed:=cK;have hic:i≤cap:=by omega
    have hjc:j≤cap:=by omega
    clear hW1 hW1' hH1 hH hget hnews hlen hji hZe
    go_enter Tryz.func83,Tryz.ntmps83
    go_wp2_with fail
    go_region_law_o (refine step_append_room rfl (.tmp 22) (.tmp 25) 98 rfl 108 inf 2 t22 t1 t2 blk off i cap (by simp [Act.eval,Act.put]) A (len-j) (cap-j) news (by simp [Act.eval,Act.put]) s1.out hsrc.out s2.out (by omega) s3.out ?_;rw [← hW.out])
    go_wp2
    go_ret
    refine ⟨by rw [show len-(j-i)=i+(len-j) by omega];rfl,1,Z,hZl,?_⟩
    rw [X.out,← Y8 Z,show off+(i+(len-j))*2=off+(i*2+(cs.length-j*2)) by omega,putRow_setCells id _ blk off _ _ _ (by rw [lay_size,oI];omega),Y8,
      X8 cs (i*2) (j*2) _ (by omega) (by omega) (by omega)]
theorem yF0 (l:List G) (i j:Nat) (hij:i≤j) (hj:j≤l.length) (hne:l≠[]) :
    aT Tryz.prog 83 [.sl 0 0 l.length 2,.i (i:Int),.i (j:Int)] [.arr (kU l) 2] (.sl 0 0 (l.length-(j-i)) 2) [.arr (kU (l.take i++l.drop j)) 2]:=by
  have h:=I1 (sz:=2) ⟨_,Tryz.func83,by kernel_rfl,by kernel_rfl⟩ zV3 (kU l) (rZ l) (zE5 l) i j hij (by rw [aX];exact hj) (fun h=>hne (mS.1 h))
  rw [aX,← kY,← yP4,← bT] at h;exact h
end Go.Proofs.YtmmmeebiobjnbaaGreat
namespace Go.Proofs.YtmmmeebiobjnbaaGreat
open Go Go.Ab Go.Shelf Go.Proofs
shelf_lay Lays2.n23 Nm2 23 at Tryz as laysDelete
theorem zG5 (l:List Int) (i j:Nat) (hij:i≤j) (hj:j≤l.length) (hne:l≠[]) :
    aT Tryz.prog 138 [.sl 0 0 l.length 1,.i (i:Int),.i (j:Int)] [.arr (ints l) 1] (.sl 0 0 (l.length-(j-i)) 1) [.arr (ints (l.take i++l.drop j)) 1]:=
  KE ⟨_,Tryz.func138,by kernel_rfl,by kernel_rfl⟩ (fun blk off cap i j zs w h1 h2 h3 h4 h5=>Any.slices_Delete_int laysDelete blk off cap i j zs w h1 h2 h3 h4 h5) l i j hij hj hne
end Go.Proofs.YtmmmeebiobjnbaaGreat
namespace Go.Ld
open Go.Ab Go.Proofs.YtmmmeebiobjnbaaGreat
abbrev gN (q:W→Bool) (l:List W):List W:=l.filter fun x=>!q x
theorem yJ {q:W→Bool}{l:List W}{k:Nat}(h:k<l.length):gN q (l.take (k+1))=if q l[k] then gN q (l.take k) else gN q (l.take k)++[l[k]]:=by
  unfold gN;rw [aP h,nO];cases e:q l[k] <;> simp [e]
theorem NA (q:W→Bool) (l:List W) (k:Nat):(gN q (l.take k)).length≤k:=bG (fP _ _) (by simp;omega)
theorem F5 {α:Type}(p:α→Bool):∀ (l:List α) (k:Nat),(uR p l k = -1∧∀ x,x∈l→p x=false)∨∃ (j:Nat) (hj:j<l.length),uR p l k=((k+j:Nat):Int)∧p l[j]=true∧∀ x,x∈l.take j→p x=false
  | [],k=>.inl ⟨rfl,fun x hx=>by cases hx⟩
  | y::l,k=>by
    unfold uR;cases hp:p y with
    | true=>exact .inr ⟨0,by simp,by rw [if_pos rfl];rfl,by simpa using hp,fun x hx=>by simp at hx⟩
    | false=>
      rw [if_neg (by simp)]
      rcases F5 p l (k+1) with ⟨h1,h2⟩ | ⟨j,hj,h1,h2,h3⟩
      · refine .inl ⟨h1,fun x hx=>?_⟩
        rcases bN.1 hx with rfl | hx
        · exact hp
        · exact h2 x hx
      · refine .inr ⟨j+1,by simp;omega,by rw [h1];omega,by simpa using h2,fun x hx=>?_⟩
        rw [pB] at hx;rcases bN.1 hx with rfl | hx
        · exact hp
        · exact h3 x hx
def S7 (m x:W):W:=if x.2.1<m.2.1 then x else m
theorem MT:∀ (l:List W) (f:W),(l.foldl S7 f).2.1=l.foldl (fun m x=>if x.2.1<m then x.2.1 else m) f.2.1
  | [],_=>rfl
  | x::l,f=>by
    rw [rS,rS,MT l];congr 1;unfold S7;split <;> rfl
theorem WZ {l:List W}{f:W}{k:Nat}(h:k<l.length):(l.take (k+1)).foldl S7 f=S7 ((l.take k).foldl S7 f) l[k]:=by
  rw [aP h,rV];rfl
end Go.Ld
namespace Go.Proofs.YtmmmeebiobjnbaaGreat
open Go Go.Ab Go.Ld
attribute [local irreducible] VC AW cD aT
set_option maxHeartbeats 4000000
theorem yH0 {F:FuncId}{caps:List AV}{q:W→Bool}(l:List W) (hl:l.length≤1000000) (hi:AV.idfL caps=true) (hp:AV.plnL caps=true) (hF:∀ x,x∈l→aT Tryz.prog F (.agg (wA x)::caps) [] (.b (q x)) []) :
    aT Tryz.prog 100 [.sl 0 0 l.length 3,.clo (.func F) [] caps] [.arr (gM l) 3] (.sl 0 0 (gN q l).length 3) [.arr (gM (gN q l)) 3]:=by
  have hll:(gM l).length=l.length:=fR l;have hix:=zC9 hl hi hF;have hvw:oF [.arr (gM l) 3] (.sl 0 0 l.length 3) (.rowE (gM l) 3):=nP rfl hll.symm (pG (fun _=>rfl) _);refine bU T Tryz.func100 rfl rfl rfl rfl ?_;rcases F5 q l 0 with ⟨h1,h2⟩ | ⟨j,hj,h1,h2,h3⟩
  · rw [h1] at hix;have hk:gN q l=l:=pC.2 fun x hx=>by rw [h2 x hx];rfl
    rw [hk]
    (repeat' (first|refine wS ?_|refine wR ?_|refine wT ?_|(refine rg 0 (aV ?_))|(refine rg 1 (dI rfl (vV (by exact fM rfl rfl hix (.cons hvw (.cons (.clo .nil (lJ _ hp)) .nil)) rfl rfl) ?_));refine aV ?_)|(refine rg 2 (mW rfl (vV (eD rfl rfl) ?_)))|(refine rg 3 (mW rfl (aV ?_)))|refine nZ ?_));all_goals first | (exfalso;omega) | exact ⟨.inl rfl,[0],_,rfl,rfl,rfl,⟨.inr (aC rfl rfl (bX _)),trivial⟩,by decide,lY⟩
  · rw [h1,Nat.zero_add] at hix;have hk0:gN q (l.take (j+1))=l.take j:=by
      rw [yJ hj,if_pos h2];exact pC.2 fun x hx=>by rw [h3 x hx];rfl
    have hkl:(gN q (l.take (j+1))).length=j:=by rw [hk0];simp;omega
    have hka:gN q (l.take (j+1))++l.drop (gN q (l.take (j+1))).length=l:=by rw [hkl,hk0,bS]
    have hkf:gN q l=gN q (l.take l.length):=by rw [cQ]
    rw [hkf]
    (repeat' (first|refine wS ?_|refine wB ?_|refine wK ?_|refine wU ?_|(refine rg 0 (aV ?_))|(refine rg 1 (dI rfl (vV (by exact fM rfl rfl hix (.cons hvw (.cons (.clo .nil (lJ _ hp)) .nil)) rfl rfl) ?_));refine aV ?_)|(refine rg 2 (mW rfl (vV (eD rfl rfl) ?_)))|(refine iA 4 rfl rfl rfl (by omega) (by omega) ?_)|refine nZ ?_));all_goals try (exfalso;omega)
    refine dA (X:={m:Nat // m≤l.length}) (fun m=>[(0,.sl 0 0 l.length 3),(1,.clo (.func F) [] caps),(5,.i (gN q (l.take m.1)).length),(6,.i m.1)]) (fun m=>[.arr (gM (gN q (l.take m.1)++l.drop (gN q (l.take m.1)).length)) 3]) (fun m=>l.length-m.1) ⟨j+1,hj⟩ ⟨[0],rfl,⟨rfl,by rw [lN hi];rfl,by dsimp only;rw [hkl];rfl,rfl,trivial⟩,⟨.inr (aC rfl (by dsimp only;rw [hka]) (bX _)),trivial⟩,by decide,lY⟩ ?_
    rintro ⟨m,hm⟩;dsimp only;have hle:=NA q l m;by_cases hlt:m<l.length
    · have hs:=yJ (q:=q) hlt;have hget:=RM (G:=gN q (l.take m)) (l:=l) (m:=m) (i:=0+(m:Int).toNat) hle hlt (by omega)
      have hg2:=RM (G:=gN q (l.take m)) (l:=l) (m:=(gN q (l.take m)).length) (i:=0+(((gN q (l.take m)).length:Nat):Int).toNat) (aU _) (by omega) (by omega)
      rw [pI hlt] at hget;have hset:=yB0 (G:=gN q (l.take m)) (l:=l) (x:=l[m]) (j:=(((gN q (l.take m)).length:Nat):Int)) (by omega) rfl
      have hc:=hF l[m] (aM hlt);have hal:=WH (G:=gN q (l.take m)) (l:=l) (by omega)
      generalize l[m]=x at *;generalize l.getD (gN q (l.take m)).length w0=y at *;generalize hG:gN q (l.take m)=G at *;generalize hA:gM (G++l.drop G.length)=A at *;cases e:q x
      · rw [e] at hc hs;rw [if_neg (by simp)] at hs
        (repeat' (first|refine wS ?_|refine wB ?_|refine wK ?_|refine wT ?_|(refine wC rfl ?_ ?_<;>(intro hb;(try simp only [nm] at hb);try (exfalso;omega)))|(refine rg 5 (dI rfl (qW T rfl (vV (aL rfl rfl) ?_))))|(refine rg 7 (dI rfl (vV (by exact aI T rfl rfl rfl rfl rfl (by omega) (by omega)) ?_));refine vV (by exact aK T rfl rfl (bF rfl hget) rfl) ?_;refine cC (cM T rfl) rfl (bD T rfl rfl rfl rfl rfl rfl (by decide) rfl ?_))|(refine rg 8 (mW rfl (vV (aK T rfl rfl rfl rfl) (vV (by exact fQ rfl rfl hc rfl (by simp [AV.idfL,AV.idf,hi]) rfl) ?_)));refine vV (eH rfl) ?_)|(refine rg 9 (dI rfl (vV (aK T rfl rfl rfl rfl) (vV (by exact aI T rfl rfl rfl rfl rfl (by omega) (by omega)) ?_)));refine bD T rfl rfl rfl rfl rfl rfl (by decide) (lR rfl hg2 rfl) ?_)|(refine iA 10 rfl rfl rfl (by omega) (by omega) ?_)|(refine iA 6 rfl rfl rfl (by omega) (by omega) ?_)|refine nZ ?_));all_goals try (exfalso;omega)
        all_goals exact ⟨⟨m+1,hlt⟩,by dsimp only;omega,[0],rfl,⟨rfl,by rw [lN hi];rfl,by rw [hs];simp only [aF];rfl,rfl,trivial⟩,⟨.inr (aC rfl (by rw [hs];exact hset) (bX _)),trivial⟩,by decide,lY⟩
      · rw [e] at hc hs;rw [if_pos rfl] at hs
        (repeat' (first|refine wS ?_|refine wB ?_|refine wK ?_|refine wU ?_|(refine wC rfl ?_ ?_<;>(intro hb;(try simp only [nm] at hb);try (exfalso;omega)))|(refine rg 5 (dI rfl (qW T rfl (vV (aL rfl rfl) ?_))))|(refine rg 7 (dI rfl (vV (by exact aI T rfl rfl rfl rfl rfl (by omega) (by omega)) ?_));refine vV (by exact aK T rfl rfl (bF rfl hget) rfl) ?_;refine cC (cM T rfl) rfl (bD T rfl rfl rfl rfl rfl rfl (by decide) rfl ?_))|(refine rg 8 (mW rfl (vV (aK T rfl rfl rfl rfl) (vV (by exact fQ rfl rfl hc rfl (by simp [AV.idfL,AV.idf,hi]) rfl) ?_)));refine vV (eH rfl) ?_)|(refine iA 6 rfl rfl rfl (by omega) (by omega) ?_)|refine nZ ?_));all_goals try (exfalso;omega)
        all_goals exact ⟨⟨m+1,hlt⟩,by dsimp only;omega,[0],rfl,⟨rfl,by rw [lN hi];rfl,by rw [hs];rfl,rfl,trivial⟩,⟨.inr (aC rfl (by rw [hs];exact hA.symm) (bX _)),trivial⟩,by decide,lY⟩
    · obtain rfl:m=l.length:=by omega
      have hal:=WH (G:=gN q (l.take l.length)) (l:=l) (by omega)
      have htk:=YK (G:=gN q (l.take l.length)) (l:=l);generalize gN q (l.take l.length)=G at *
      (repeat' (first|refine wS ?_|refine wR ?_|refine wE ?_|(refine wC rfl ?_ ?_<;>(intro hb;(try simp only [nm] at hb);try (exfalso;omega)))|(refine rg 5 (dI rfl (qW T rfl (vV (aL rfl rfl) ?_))))|(refine rg 11 (dI rfl (vV (by exact jZ T rfl rfl rfl rfl rfl rfl (by omega) (by omega) (by omega)) ?_));refine Q4 T rfl rfl rfl ⟨rfl,rfl,by decide⟩ rfl (by rw [hal];omega) ?_)|(refine rg 12 (dI rfl (vV (by exact jZ T rfl rfl rfl rfl rfl rfl (by omega) (by omega) (by omega)) ?_));refine aV ?_)|refine nZ ?_));all_goals try (exfalso;omega)
      all_goals exact ⟨.inl rfl,[0],_,rfl,(by show AV.sl 0 0 ((G.length:Int)-0).toNat 3=AV.sl 0 0 G.length 3;rw [show ((G.length:Int)-0).toNat=G.length by omega]),rfl,⟨.inr (aC rfl htk (bX _)),trivial⟩,by decide,lY⟩
abbrev yJ6:AV:=.clo (.func 134) [] []
theorem XW {f:W}{l:List W}{k:Nat}(h:k<l.length):(gM (f::l))[((k:Int)+1).toNat]? = some (wA l[k]):=by
  rw [show ((k:Int)+1).toNat=k+1 by omega];simp [h]
theorem yJ5 (f:W) (l:List W) (hl:l.length≤1000000):aT Tryz.prog 133 [.rowE (gM (f::l)) 3,yJ6] [] (OZ (l.foldl S7 f)) []:=by
  have hll:(gM (f::l)).length=l.length+1:=by simp
  have hg0:(gM (f::l))[(0:Int).toNat]? = some (wA f):=rfl;refine bU T Tryz.func133 rfl rfl rfl rfl ?_
  (repeat' (first|refine wS ?_|refine wB ?_|refine wK ?_|refine wU ?_|(refine rg 0 (cC (cM T rfl) rfl ?_))|(refine rg 1 (mW rfl (qW T rfl (vV (aL rfl rfl) ?_))))|(refine rg 3 (mW rfl (vV (ix T rfl (by omega) (pZ _) hg0) (lW T rfl (cC (cM T rfl) rfl (bD T rfl rfl rfl rfl rfl rfl (by decide) rfl ?_))))))|(refine rg 4 (aV ?_))|refine nZ ?_));all_goals try (exfalso;omega)
  refine dA (X:={k:Nat // k≤l.length}) (fun k=>[(0,.rowE (gM (f::l)) 3),(1,yJ6),(4,.ptr 0 0),(5,.ptr 1 0),(6,.i ((k.1:Int)+1))]) (fun k=>[.cells [.nils,.i 0,.nils],.cells (wA ((l.take k.1).foldl S7 f))]) (fun k=>l.length-k.1) ⟨0,bW _⟩ ⟨[0,1],rfl,by (repeat (first | exact trivial | refine ⟨rfl,?_⟩)),⟨.inr rfl,.inr rfl,trivial⟩,by decide,jY _⟩ ?_
  rintro ⟨k,hk⟩;dsimp only;by_cases hlt:k<l.length
  · have hs:=WZ (f:=f) hlt;have hg:=XW (f:=f) hlt;have hc:=zC4 l[k] ((l.take k).foldl S7 f);generalize l[k]=x at *;generalize (l.take k).foldl S7 f=m at *;by_cases h0:x.2.1<m.2.1
    · have hv:cI x.2.1 m.2.1 = -1:=by unfold cI;rw [if_pos h0]
      rw [hv] at hc;rw [S7,if_pos h0] at hs
      (repeat' (first|refine wS ?_|refine wB ?_|refine wK ?_|refine wT ?_|(refine wC rfl ?_ ?_<;>(intro hb;(try simp only [nm] at hb);try (exfalso;omega)))|(refine rg 5 (dI rfl (qW T rfl (vV (aL rfl rfl) ?_))))|(refine bV (id:=7) 33 [[],[],[],[1,2],[1,2,3],[],rN 6,rN 7] (rM 20 8) [[],[20],[20,21],[20],[20],rM 20 5,[],[]] cK rfl (by decide +kernel) (dN rfl (dN rfl (dN rfl (dV rfl (ix T rfl (by omega) (pZ _) hg) (dO T rfl (dO T rfl (dV rfl (kC (hc)) (dV rfl (aL rfl rfl) (dE ?_))))))))))|(refine rg 8 (dI rfl (vV (ix T rfl (by omega) (pZ _) hg) (lW T rfl (bD T rfl rfl rfl rfl rfl rfl (by decide) rfl ?_)))))|(refine iA 6 rfl rfl rfl (by omega) (by omega) ?_)|refine nZ ?_));all_goals try (exfalso;omega)
      all_goals exact ⟨⟨k+1,hlt⟩,by dsimp only;omega,[0,1],rfl,by (repeat (first | exact trivial | refine ⟨rfl,?_⟩)),⟨.inr rfl,.inr (by dsimp only;rw [hs];rfl),trivial⟩,by decide,jY _⟩
    · have hv:0≤cI x.2.1 m.2.1:=by unfold cI;rw [if_neg h0];split <;> omega
      rw [S7,if_neg h0] at hs;generalize cI x.2.1 m.2.1=v at *
      (repeat' (first|refine wS ?_|refine wB ?_|refine wK ?_|(refine wC rfl ?_ ?_<;>(intro hb;(try simp only [nm] at hb);try (exfalso;omega)))|(refine rg 5 (dI rfl (qW T rfl (vV (aL rfl rfl) ?_))))|(refine bV (id:=7) 33 [[],[],[],[1,2],[1,2,3],[],rN 6,rN 7] (rM 20 8) [[],[20],[20,21],[20],[20],rM 20 5,[],[]] cK rfl (by decide +kernel) (dN rfl (dN rfl (dN rfl (dV rfl (ix T rfl (by omega) (pZ _) hg) (dO T rfl (dO T rfl (dV rfl (kC (hc)) (dV rfl (aL rfl rfl) (dE ?_))))))))))|(refine iA 6 rfl rfl rfl (by omega) (by omega) ?_)|refine nZ ?_));all_goals try (exfalso;omega)
      all_goals exact ⟨⟨k+1,hlt⟩,by dsimp only;omega,[0,1],rfl,by (repeat (first | exact trivial | refine ⟨rfl,?_⟩)),⟨.inr rfl,.inr (by dsimp only;rw [hs];rfl),trivial⟩,by decide,jY _⟩
  · obtain rfl:k=l.length:=by omega
    rw [cQ];generalize l.foldl S7 f=m at *
    (repeat' (first|refine wS ?_|refine wR ?_|refine wE ?_|(refine wC rfl ?_ ?_<;>(intro hb;(try simp only [nm] at hb);try (exfalso;omega)))|(refine rg 5 (dI rfl (qW T rfl (vV (aL rfl rfl) ?_))))|(refine rg 9 (lW T rfl (bD T rfl rfl rfl rfl rfl rfl (by decide) rfl ?_)))|refine nZ ?_));all_goals first | (exfalso;omega) | exact ⟨.inl rfl,[],_,rfl,rfl,rfl,trivial,by decide,jY _⟩
theorem yR6:QS Tryz.prog 105 1=some (3,1):=by kernel_rfl
theorem TH (g:G) (hne:g.2≠[]) (hl:g.2.length≤1000000):aT Tryz.prog 99 [XV g] [] (.i (gQ g)) []:=by
  obtain ⟨b,ws⟩:=g;cases ws with
  | nil=>exact absurd rfl hne
  | cons f l=>
    have hc:=yJ5 f l (by simp at hl;omega)
    show aT _ _ _ _ (.i (l.foldl (fun m x=>if x.2.1<m then x.2.1 else m) f.2.1)) []
    rw [← MT];generalize l.foldl S7 f=m at *;refine bU T Tryz.func99 rfl rfl rfl rfl ?_
    (repeat' (first|refine wS ?_|refine wR ?_|(refine rg 0 (cC (cO rfl rfl) rfl (aV ?_)))|(refine rg 1 (gI T rfl (vV (kC (hc)) (vV (by exact WW T rfl yR6 rfl rfl) ?_)));refine aV ?_)|refine nZ ?_));all_goals first | (exfalso;omega) | exact rQ
end Go.Proofs.YtmmmeebiobjnbaaGreat
namespace Go.Ld
open Go.Ab Go.Proofs.YtmmmeebiobjnbaaGreat
def D0 (g:G):Int:=match iR g with
  | some k=>(k:Int)
  | none=>-1
theorem OB {g:G}(h:g.1.length<2∨g.2=[]):D0 g = -1:=by unfold D0 iR;rw [if_pos h]
theorem zH0 {g:G}{k:Nat}(h:¬ (g.1.length<2∨g.2=[])) (hk:k<g.1.length) (h1:∀ j,j<k→B0 g j=false) (h2:B0 g k=true):D0 g=k:=by
  unfold D0 iR;rw [if_neg h,List.find?_range_eq_some.2 ⟨h2,by simpa using hk,fun j hj=>by simp [h1 j hj]⟩]
theorem XI {g:G}(h:¬ (g.1.length<2∨g.2=[])) (h1:∀ j,j<g.1.length→B0 g j=false):D0 g = -1:=by
  unfold D0 iR;rw [if_neg h,List.find?_range_eq_none.2 (fun j hj=>by simp [h1 j hj])]
def GZ (f:W) (i:Nat) (w:W):Bool:=!decide (gP w i=gP f i∧gC w i=gC f i)
theorem PU {bs:List Int}{f:W}{l:List W}{i:Nat}:B0 (bs,f::l) i = !(f::l).any (GZ f i):=by
  show (f::l).all (fun w=>decide (gP w i=gP f i∧gC w i=gC f i))=_;rw [List.not_any_eq_all_not];congr 1;funext w;simp [GZ]
end Go.Ld
namespace Go.Proofs.YtmmmeebiobjnbaaGreat
open Go Go.Ab Go.Ld
attribute [local irreducible] VC AW cD aT mT
set_option maxHeartbeats 4000000
theorem yI4:mT Tryz.prog 102 2:=by unfold mT;kernel_rfl
theorem RG (w f:W){i:Nat}(h1:i<w.1.length) (h2:i<w.2.2.length) (h3:i<f.1.length) (h4:i<f.2.2.length) (hs:Q3 w) (hf:Q3 f) :
    aT Tryz.prog 137 [OZ w,.pr [.i i] 0,.pr (wA f) 0] [] (.b (GZ f i w)) []:=by
  obtain ⟨p,m,c⟩:=w;obtain ⟨p',m',c'⟩:=f;dsimp only at h1 h2 h3 h4;unfold Q3 at hs hf;dsimp only at hs hf;have hlp:(ints p).length=p.length:=cY _;have hlp':(ints p').length=p'.length:=cY _;have hlc:(fY c).length=c.length:=iP _;have hlc':(fY c').length=c'.length:=iP _;have q1:=sK (l:=p) (j:=(i:Int)) (i:=i) 0 h1 rfl;have q2:=sK (l:=p') (j:=(i:Int)) (i:=i) 0 h3 rfl;have q3:=wY (l:=c) (j:=(i:Int)) (i:=i) h2 rfl;have q4:=wY (l:=c') (j:=(i:Int)) (i:=i) h4 rfl;have hd:GZ (p',m',c') i (p,m,c) = !decide (p.getD i 0=p'.getD i 0∧c.getD i (0,0)=c'.getD i (0,0)):=rfl;rw [hd];generalize p.getD i 0=x at *;generalize p'.getD i 0=y at *;generalize hr:c.getD i (0,0)=r at *;generalize hr':c'.getD i (0,0)=r' at *;obtain ⟨a,b⟩:=r;obtain ⟨a',b'⟩:=r';dsimp only at q3 q4;by_cases h:x=y
  · rw [show (!decide (x=y∧(a,b)=(a',b'))) = !decide (a=a'∧b=b') by simp [h]]
    refine bU T Tryz.func137 rfl rfl rfl rfl ?_
    (repeat' (first|refine wS ?_|refine wR ?_|(refine rg 0 (cC (cO rfl rfl) rfl (aV ?_)))|(refine bV (id:=1) 29 yV4 (rM 5 24) yV5 cK rfl (by decide +kernel) (dP T rfl (dO T rfl (dO T rfl (dV rfl (ix T rfl (by omega) (dR p) q1) (dO T rfl (dP T rfl (dO T rfl (dO T rfl (dV rfl (ix T rfl (by omega) (dR p') q2) ?_)))))))));refine dO T rfl (dV rfl (AM rfl rfl h) (dN rfl (tP T rfl (tO T rfl (tO T rfl (dT rfl (ix T rfl (by omega) (lU c) q3) (tO T rfl (tP T rfl (tL T ?_)))))))));refine tO T rfl (dT rfl (ix T rfl (by omega) (lU c') q4) (tO T rfl (dT rfl (zT0 yI4 rfl rfl) (dV rfl (gJ rfl rfl) (dE ?_)))));refine aV ?_)|refine nZ ?_));all_goals first | (exfalso;omega) | exact rQ
  · rw [show (!decide (x=y∧(a,b)=(a',b')))=true by simp [h]]
    refine bU T Tryz.func137 rfl rfl rfl rfl ?_
    (repeat' (first|refine wS ?_|refine wR ?_|(refine rg 0 (cC (cO rfl rfl) rfl (aV ?_)))|(refine bV (id:=1) 29 yV4 (rM 5 24) yV5 cK rfl (by decide +kernel) (dP T rfl (dO T rfl (dO T rfl (dV rfl (ix T rfl (by omega) (dR p) q1) (dO T rfl (dP T rfl (dO T rfl (dO T rfl (dV rfl (ix T rfl (by omega) (dR p') q2) ?_)))))))));refine dO T rfl (dV rfl (N3 rfl rfl h) (dN rfl (tG rfl (tG rfl (tG rfl (tG rfl (tG rfl (tG rfl (dG ?_)))))))));refine tG rfl (tG rfl (tG rfl (tG rfl (dV rfl (gG rfl rfl) (dE ?_)))));refine aV ?_)|refine nZ ?_));all_goals first | (exfalso;omega) | exact rQ
structure yG6 (g:G):Prop where
  b:g.1.length≤1000
  w:g.2.length≤1000000
  p:∀ w,w∈g.2→w.1.length=g.1.length
  c:∀ w,w∈g.2→w.2.2.length=g.1.length
theorem yG6.sm {g:G}(h:yG6 g){w:W}(hw:w∈g.2):Q3 w:=⟨by have:=h.p w hw;have:=h.b;omega,by have:=h.c w hw;have:=h.b;omega⟩
theorem XH (g:G) (hs:yG6 g):aT Tryz.prog 102 [XV g] [] (.i (D0 g)) []:=by
  have hsz:=hs;obtain ⟨bs,ws⟩:=g;obtain ⟨hb,hw,hp,hc⟩:=hs;dsimp only at hb hw hp hc;have hlb:(ints bs).length=bs.length:=cY _;have hlw:(gM ws).length=ws.length:=fR _;by_cases h0:bs.length<2
  · rw [OB (.inl h0)];refine bU T Tryz.func102 rfl rfl rfl rfl ?_
    (repeat' (first|refine wS ?_|refine wR ?_|refine wT ?_|(refine rg 0 (cC (cO rfl rfl) rfl (aV ?_)))|(refine rg 1 (gI T rfl (qW T rfl (vV (aL rfl rfl) (mV ?_))));refine bQ rfl rfl ?_ ?_<;>(intro hb;rw [hb];(try simp only [nm] at hb);try (exfalso;omega));(all_goals ((iterate 4 refine gF ?_);refine pV ?_)))|(refine rg 2 (aV ?_))|refine nZ ?_));all_goals first | (exfalso;omega) | exact rQ
  · cases ws with
    | nil=>
      rw [OB (.inr rfl)];refine bU T Tryz.func102 rfl rfl rfl rfl ?_
      (repeat' (first|refine wS ?_|refine wR ?_|refine wT ?_|(refine rg 0 (cC (cO rfl rfl) rfl (aV ?_)))|(refine rg 1 (gI T rfl (qW T rfl (vV (aL rfl rfl) (mV ?_))));refine bQ rfl rfl ?_ ?_<;>(intro hb;rw [hb];(try simp only [nm] at hb);try (exfalso;omega));(all_goals (refine yP T rfl (yO T rfl (gT (qW T rfl (yV (eD rfl rfl) (pV ?_))))))))|(refine rg 2 (aV ?_))|refine nZ ?_));all_goals first | (exfalso;omega) | exact rQ
    | cons f l=>
      have hn:¬ (bs.length<2∨f::l=[]):=by rintro (h | h);exact h0 h;cases h
      have hg0:(gM (f::l))[(0:Int).toNat]? = some (wA f):=rfl;have hl1:(gM (f::l)).length=l.length+1:=by simp
      refine bU T Tryz.func102 rfl rfl rfl rfl ?_
      (repeat' (first|refine wS ?_|refine wB ?_|refine wK ?_|refine wU ?_|(refine rg 0 (cC (cO rfl rfl) rfl (aV ?_)))|(refine rg 1 (gI T rfl (qW T rfl (vV (aL rfl rfl) (mV ?_))));refine bQ rfl rfl ?_ ?_<;>(intro hb;rw [hb];(try simp only [nm] at hb);try (exfalso;omega));(all_goals (refine yP T rfl (yO T rfl (gT (qW T rfl (yV (eD rfl rfl) (pV ?_))))))))|(refine rg 3 (gI T rfl (qW T rfl (mV ?_))))|refine nZ ?_));all_goals try (exfalso;omega)
      all_goals refine dA (X:={k:Nat // k≤bs.length∧∀ j,j<k→B0 (bs,f::l) j=false}) (fun k=>[(1,.ptr 0 0),(17,.i (ints bs).length),(18,.i k.1)]) (fun _=>[.cells [.rowE (ints bs) 1,.rowE (gM (f::l)) 3]]) (fun k=>bs.length-k.1) ⟨0,bW _,fun j hj=>absurd hj (eG _)⟩ (gH [0]) ?_
      all_goals rintro ⟨k,hk,hj⟩
      all_goals dsimp only
      all_goals by_cases hlt:k<bs.length
      · have hlf:k<f.1.length:=by rw [hp f aQ];exact hlt
        have hlf2:k<f.2.2.length:=by rw [hc f aQ];exact hlt
        have hcc:=yD0 (caps:=[.pr [.i k] 0,.pr (wA f) 0]) (p:=GZ f k) (l:=f::l) hw rfl (fun x hx=>RG x f (by rw [hp x hx];exact hlt) (by rw [hc x hx];exact hlt) hlf hlf2 (hsz.sm hx) (hsz.sm aQ))
        have hsa:=PU (bs:=bs) (f:=f) (l:=l) (i:=k);cases hany:(f::l).any (GZ f k) with
        | false=>
          rw [hany] at hcc hsa;have hci:=zH0 hn hlt hj hsa;rw [hci]
          (repeat' (first|refine wS ?_|refine wB ?_|refine wK ?_|refine wR ?_|refine wT ?_|(refine wC rfl ?_ ?_<;>(intro hb;(try simp only [nm] at hb);try (exfalso;omega)))|(refine rg 4 (vV (aL rfl rfl) ?_))|(refine rg 5 (mW rfl (cC (cM T rfl) rfl (bD T rfl rfl rfl rfl rfl rfl (by decide) rfl ?_))))|(refine rg 6 (gI T rfl (vV (ix T rfl (by omega) (pZ _) hg0) (lW T rfl (cC (cM T rfl) rfl (bD T rfl rfl rfl rfl rfl rfl (by decide) rfl ?_))))))|(refine rg 7 (gI T rfl (vV (by exact lG rfl rfl) ?_));refine vV (by exact fM rfl rfl hcc (.cons (.row _ _ _) (.cons (.clo .nil (.cons (.ptr rfl (.cons (.v _) .nil)) (.cons (.ptr rfl (.cons (.row _ _ _) (.cons (.v _) (.cons (.row _ _ _) .nil)))) .nil))) .nil)) rfl rfl) ?_;refine vV (eH rfl) ?_)|(refine rg 8 (lW T rfl (aV ?_)))|refine nZ ?_));all_goals first | (exfalso;omega) | exact rQ
        | true=>
          rw [hany] at hcc hsa
          (repeat' (first|refine wS ?_|refine wB ?_|refine wK ?_|refine wU ?_|(refine wC rfl ?_ ?_<;>(intro hb;(try simp only [nm] at hb);try (exfalso;omega)))|(refine rg 4 (vV (aL rfl rfl) ?_))|(refine rg 5 (mW rfl (cC (cM T rfl) rfl (bD T rfl rfl rfl rfl rfl rfl (by decide) rfl ?_))))|(refine rg 6 (gI T rfl (vV (ix T rfl (by omega) (pZ _) hg0) (lW T rfl (cC (cM T rfl) rfl (bD T rfl rfl rfl rfl rfl rfl (by decide) rfl ?_))))))|(refine rg 7 (gI T rfl (vV (by exact lG rfl rfl) ?_));refine vV (by exact fM rfl rfl hcc (.cons (.row _ _ _) (.cons (.clo .nil (.cons (.ptr rfl (.cons (.v _) .nil)) (.cons (.ptr rfl (.cons (.row _ _ _) (.cons (.v _) (.cons (.row _ _ _) .nil)))) .nil))) .nil)) rfl rfl) ?_;refine vV (eH rfl) ?_)|(refine rg 9 (vV (cE rfl rfl (by omega) (by omega)) (mV ?_)))|refine nZ ?_));all_goals first | (exfalso;omega) | skip
          all_goals exact ⟨⟨k+1,by omega,fun j hjk=>(jO j k).elim (hj j) (fun h=>by obtain rfl:j=k:=(by omega);exact hsa)⟩,by dsimp only;omega,gH [0]⟩
      · rw [XI hn (fun j hjl=>hj j (by dsimp only at hjl;omega))]
        (repeat' (first|refine wS ?_|refine wR ?_|refine wE ?_|(refine wC rfl ?_ ?_<;>(intro hb;(try simp only [nm] at hb);try (exfalso;omega)))|(refine rg 4 (vV (aL rfl rfl) ?_))|(refine rg 10 (aV ?_))|refine nZ ?_));all_goals first | (exfalso;omega) | exact rQ
end Go.Proofs.YtmmmeebiobjnbaaGreat
namespace Go.Ld
open Go.Ab Go.Proofs.YtmmmeebiobjnbaaGreat
theorem N8 {α:Type}(l:List α) (k:Nat):l.take k++l.drop (k+1)=l.eraseIdx k:=(List.eraseIdx_eq_take_drop_succ l k).symm
end Go.Ld
namespace Go.Proofs.YtmmmeebiobjnbaaGreat
open Go Go.Ab Go.Ld
attribute [local irreducible] VC AW cD aT mT jE
set_option maxHeartbeats 4000000
theorem zO0 (g:G){k:Nat}(hs:yG6 g) (hk:k<g.1.length) (h2:2≤g.1.length) (hne:g.2≠[]) (hsm:g.2.length≤100000) :
    aT Tryz.prog 103 [XV g,.i k] [] (.tup [XV (nR g k),XV (kD g k)]) []:=by
  have hsz:=hs;obtain ⟨bs,ws⟩:=g;obtain ⟨hb,hw,hp,hc⟩:=hs;dsimp only at hb hw hp hc hk h2 hsm;cases ws with
  | nil=>exact absurd rfl hne
  | cons f l=>
  have hlb:(ints bs).length=bs.length:=cY _;have hf1:=hp f aQ;have hf2:=hc f aQ;have hlp:(ints f.1).length=f.1.length:=cY _;have hlc:(fY f.2.2).length=f.2.2.length:=iP _;have hg0:(gM (f::l))[(0:Int).toNat]? = some (wA f):=rfl;have hl1:(gM (f::l)).length=l.length+1:=by simp
  have q1:=sK (l:=bs) (j:=(k:Int)) (i:=k) 0 hk rfl;have q2:=sK (l:=f.1) (j:=(k:Int)) (i:=k) 0 (by omega) rfl
  have q3:=wY (l:=f.2.2) (j:=(k:Int)) (i:=k) (by omega) rfl
  have cl:=JN bs (by omega)
  have dl:=zG5 bs k (k+1) (by omega) (by omega) (by intro h;rw [h] at hk;simp at hk)
  rw [N8,show bs.length-(k+1-k)=bs.length-1 by omega,show ((k+1:Nat):Int)=(k:Int)+1 by omega] at dl
  have hel:(bs.eraseIdx k).length=bs.length-1:=by rw [gL,if_pos hk]
  obtain ⟨L,hL⟩:∃ L,f::l=L:=⟨_,rfl⟩;have hp':∀ w,w∈L→w.1.length=bs.length:=by rw [← hL];exact hp
  have hc':∀ w,w∈L→w.2.2.length=bs.length:=by rw [← hL];exact hc
  have hsm':L.length≤100000:=by rw [← hL];exact hsm
  have hsz':∀ w,w∈L→Q3 w:=by rw [← hL];exact fun w h=>hsz.sm h
  obtain ⟨R,hR⟩:∃ R,R=L.map (zU7 k):=⟨_,rfl⟩;have hor:kD (bs,f::l) k=(bs.eraseIdx k,gS R):=by rw [hR,← hL];rfl
  rw [hor]
  have ho:=GC R (by rw [hR,aX];exact hsm') (fun w hw'=>by
    rw [hR] at hw';obtain ⟨v,hv,rfl⟩:=bA.1 hw';have h1:=hp' v hv;have h2:=hc' v hv;unfold Q3 zU7;dsimp only;rw [gL,gL]
    constructor <;> split <;> omega)
  refine K6 (res:=.tup [.agg [.sl 0 0 1 1,.sl 3 0 1 3],.agg [.rowE (ints (bs.eraseIdx k)) 1,.rowE (gM (gS R)) 3]]) (hout:=[.arr (ints [bs.getD k 0]) 1,.arr (ints [f.1.getD k 0]) 1,.arr (fY [f.2.2.getD k (0,0)]) 2,.arr [[.sl 1 0 1 1,.i 0,.sl 2 0 1 2]] 3]) ?_ (.tup (.cons (.agg (.cons (wW rfl rfl) (.cons (.sl rfl (by decide) (.cons (wW rfl rfl) (.cons (.v _) (.cons (AZ rfl rfl) .nil)))) .nil))) (.cons (.agg (.cons (.row _ _ _) (.cons (.row _ _ _) .nil))) .nil)))
  generalize bs.getD k 0=x1 at *;generalize f.1.getD k 0=x2 at *;generalize hr:f.2.2.getD k (0,0)=r at *;obtain ⟨a1,a2⟩:=r;dsimp only at q3;refine bU T Tryz.func103 rfl rfl rfl rfl ?_
  (repeat' (first|refine wS ?_|(refine rg 0 (cC (cO rfl rfl) rfl (cC (cM T rfl) rfl (cC (cM T rfl) rfl ?_))))|(refine rg 1 (gI T rfl (vV (ix T rfl (by omega) (pZ _) hg0) (lW T rfl (cC (cM T rfl) rfl (bD T rfl rfl rfl rfl rfl rfl (by decide) rfl ?_))))))|(refine bV (id:=2) 78 [[],[0],[],[0,1,2],rN 4,rN 5,[],[6],[],[6,7,8],rM 6 4,rM 6 5,[],[12],[],[12,13,14],rM 12 4,rM 12 5,rM 6 12,rM 6 13,rN 20] (rM 13 21) [[],[],[13,14],[],[],[],rM 13 6,rM 13 6,rM 13 8,rM 13 6,rM 13 6,rM 13 6,rM 13 12,rM 13 12,rM 13 14,rM 13 12,rM 13 12,rM 13 12,rM 13 6,rM 13 6,[]] cK rfl (by decide +kernel) (dP T rfl (dO T rfl (dN rfl (dV rfl (ix T rfl (by omega) (dR bs) q1) (dO T rfl (xO rfl rfl rfl (by exact bE T rfl rfl (by decide) (by decide) rfl rfl rfl) rfl ?_))))));refine dP T rfl (dO T rfl (dN rfl (dV rfl (ix T rfl (by omega) (dR f.1) q2) (dO T rfl (xO rfl rfl rfl (by exact bE T rfl rfl (by decide) (by decide) rfl rfl rfl) rfl ?_)))));refine dP T rfl (dO T rfl (dN rfl (dV rfl (ix T rfl (by omega) (lU f.2.2) q3) (dO T rfl (xO rfl rfl rfl (by exact bE T rfl rfl (by decide) (by decide) rfl rfl rfl) rfl ?_)))));refine dV rfl (by exact eO T rfl rfl rfl rfl) ?_;refine xO rfl rfl rfl (by exact bE T rfl rfl (by decide) (by decide) rfl rfl rfl) rfl ?_;refine dV rfl (by exact eO T rfl rfl rfl rfl) ?_;refine dE ?_;refine bD T rfl rfl rfl rfl rfl rfl (by decide) rfl ?_)|(refine rg 3 (gI T rfl (cC (by exact fN rfl rfl cl (.inr ⟨rfl,rfl,by simp⟩)) rfl ?_));refine dI rfl (vV (cE rfl rfl (by omega) (by omega)) (eC [8] rfl rfl (dl) rfl rfl (by decide) ⟨.inr (aC rfl (bB _ (bJ _)) (bJ _)),trivial⟩ (by simp) rfl ?_));refine fW T rfl (bD T rfl rfl rfl rfl rfl rfl (by decide) rfl ?_))|refine nZ ?_));refine fO [(1,.i k),(2,.ptr 0 0),(4,.ptr 1 0),(5,.ptr 2 0)] [.cells [.rowE (ints bs) 1,.rowE (gM (f::l)) 3],.cells [.sl 3 0 1 1,.sl 6 0 1 3],.cells [.sl 7 0 (bs.length-1) 1,.nils],.arr (ints [x1]) 1,.arr (ints [x2]) 1,.arr (fY [(a1,a2)]) 2,.arr [[.sl 4 0 1 1,.i 0,.sl 5 0 1 2]] 3,.arr (ints (bs.eraseIdx k)) 1]
    ⟨[0,1,2,4,5,6,7,8],rfl,(by repeat first|exact trivial|refine ⟨rfl,?_⟩),⟨.inr rfl,.inr rfl,.inr rfl,.inr rfl,.inr rfl,.inr rfl,.inr rfl,.inr (aC rfl (bB _ (bJ _)) (bJ _)),trivial⟩,by decide,jY _⟩ ?_
  refine nN 2 0 rfl rfl rfl (by rw [cY,hel]) (gV (bJ _)) ?_
  refine oN 2 1 3 rfl rfl (by decide) ?_
  rw [hL]
  (repeat' (first|refine wB ?_|(refine rg 4 (gI T rfl (qW T rfl (mV ?_))))|refine nZ ?_));refine dA (X:={i:Nat // i≤L.length}) (fun i=>[(1,.i k),(4,.ptr 0 0),(5,.ptr 1 0),(43,.rowE (gM L) 3),(44,.i (gM L).length),(45,.i i.1)]) (fun i=>[.cells [.sl 2 0 1 1,.sl 5 0 1 3],.cells [.rowE (ints (bs.eraseIdx k)) 1,.sl 6 0 i.1 3],.arr (ints [x1]) 1,.arr (ints [x2]) 1,.arr (fY [(a1,a2)]) 2,.arr [[.sl 3 0 1 1,.i 0,.sl 4 0 1 2]] 3,.arr (gM (R.take i.1)) 3]) (fun i=>L.length-i.1) ⟨0,bW _⟩
    ⟨[1,2,3,4,5,6,8],rfl,(by repeat first|exact trivial|refine ⟨rfl,?_⟩),⟨.inr rfl,.inr rfl,.inr rfl,.inr rfl,.inr rfl,.inr rfl,.inr rfl,trivial⟩,by decide,jY _⟩ ?_
  rintro ⟨i,hi⟩;dsimp only;have hLl:(gM L).length=L.length:=fR _;have hRl:R.length=L.length:=by rw [hR,aX]
  by_cases hlt:i<L.length
  · have hg:=D9 hlt;have hv1:=hp' L[i] (aM hlt);have hv2:=hc' L[i] (aM hlt);have hRs:R.take (i+1)=R.take i++[zU7 k L[i]]:=by rw [aP (by omega)];simp [hR]
    have hwm:=hsz' _ (aM hlt);generalize L[i]=v at *;have hcw:=JM v hwm;obtain ⟨p,m,c⟩:=v;dsimp only at hv1 hv2 hcw hRs;have e1:=qF (zG5 p k (k+1) (by omega) (by omega) (by intro h;rw [h] at hv1;simp at hv1;omega))
    have e2:=qF (yE9 c k (k+1) (by omega) (by omega) (by intro h;rw [h] at hv2;simp at hv2;omega))
    rw [N8,show p.length-(k+1-k)=p.length-1 by omega,show ((k+1:Nat):Int)=(k:Int)+1 by omega] at e1
    rw [N8,show c.length-(k+1-k)=c.length-1 by omega,show ((k+1:Nat):Int)=(k:Int)+1 by omega] at e2
    (repeat' (first|refine wS ?_|refine wB ?_|refine wK ?_|(refine wC rfl ?_ ?_<;>(intro hb;(try simp only [nm] at hb);try (exfalso;omega)))|(refine rg 5 (vV (aL rfl rfl) ?_))|(refine rg 6 (vV (ix T rfl (by omega) (pZ _) hg) (lW T rfl (cC (cM T rfl) rfl (bD T rfl rfl rfl rfl rfl rfl (by decide) rfl ?_)))))|(refine rg 7 (lW T rfl (cC (by exact fN rfl rfl hcw (.inr ⟨rfl,rfl,by simp⟩)) rfl ?_));refine bD T rfl rfl rfl rfl rfl rfl (by decide) rfl ?_)|refine nZ ?_));all_goals try (exfalso;omega)
    refine fO [(1,.i k),(4,.ptr 0 0),(5,.ptr 1 0),(8,.ptr 7 0),(43,.rowE (gM L) 3),(44,.i (gM L).length),(45,.i i)] [.cells [.sl 2 0 1 1,.sl 5 0 1 3],.cells [.rowE (ints (bs.eraseIdx k)) 1,.sl 6 0 i 3],.arr (ints [x1]) 1,.arr (ints [x2]) 1,.arr (fY [(a1,a2)]) 2,.arr [[.sl 3 0 1 1,.i 0,.sl 4 0 1 2]] 3,.arr (gM (R.take i)) 3,.cells [.sl 8 0 p.length 1,.i m,.sl 9 0 c.length 2],.arr (ints p) 1,.arr (fY c) 2]
      ⟨[0,1,2,3,4,5,6,7,8,9],rfl,(by repeat first|exact trivial|refine ⟨rfl,?_⟩),⟨.inr rfl,.inr rfl,.inr rfl,.inr rfl,.inr rfl,.inr rfl,.inr (aC rfl rfl (bX _)),.inr rfl,.inr (aC rfl (bB _ (bJ _)) (bJ _)),.inr (aC rfl (bB _ (fL _)) (fL _)),trivial⟩,by decide,jY _⟩ ?_
    repeat' (first|(refine lZ (id:=8) 78 [[],[0],[],[],[3],rN 5,[],[6],[],[],[9],rN 11,rN 8,rN 13] (rM 51 13) [[],[],[51,52],[51,52,53],[51,52,53],[],rM 51 6,rM 51 6,rM 51 8,rM 51 9,rM 51 9,[],rM 59 4,[]] [(5,8),(11,9),(13,7)] cK rfl (by decide +kernel) (cH rfl rfl rfl rfl (by exact bI T rfl rfl rfl) ?_);refine cH rfl rfl rfl rfl (by exact aK T rfl rfl rfl rfl) ?_;refine cH rfl rfl rfl rfl (by exact bR rfl) ?_;refine cH rfl rfl rfl rfl (by exact bR rfl) ?_;refine cH rfl rfl rfl rfl (by exact cE rfl rfl (by omega) (by omega)) ?_;refine mR rfl rfl rfl rfl (aH rfl) (by exact rL [8] rfl rfl (e1) (fun _=>rfl) rfl (by decide) (fun _=>⟨.inr (aC rfl rfl (bJ _)),trivial⟩) (by simp) rfl (fun _ _=>rfl) rfl rfl) ?_;refine cH rfl rfl rfl rfl (by exact bI T rfl rfl rfl) ?_;refine cH rfl rfl rfl rfl (by exact aK T rfl rfl rfl rfl) ?_;refine cH rfl rfl rfl rfl (by exact bR rfl) ?_;refine cH rfl rfl rfl rfl (by exact bR rfl) ?_;refine cH rfl rfl rfl rfl (by exact cE rfl rfl (by omega) (by omega)) ?_;refine mR rfl rfl rfl rfl (aH rfl) (by exact rL [9] rfl rfl (e2) (fun _=>rfl) rfl (by decide) (fun _=>⟨.inr (aC rfl rfl (fL _)),trivial⟩) (by simp) rfl (fun _ _=>rfl) rfl rfl) ?_;refine cH rfl rfl rfl rfl (by exact bI T rfl rfl rfl) ?_;refine wM rfl rfl rfl rfl (aH rfl) T rfl rfl rfl rfl rfl rfl (by decide) rfl ?_;refine pU rfl rfl rfl (by exact rfl) ?_;refine fW T rfl (bD T rfl rfl rfl rfl rfl rfl (by decide) rfl ?_))|refine nZ ?_)
    show AW _ _ _ _ _ _;have l1:(p.eraseIdx k).length=p.length-1:=by rw [gL,if_pos (by omega)]
    have l2:(c.eraseIdx k).length=c.length-1:=by rw [gL,if_pos (by omega)]
    refine fO [(1,.i k),(4,.ptr 0 0),(5,.ptr 1 0),(8,.ptr 7 0),(43,.rowE (gM L) 3),(44,.i (gM L).length),(45,.i i)] [.cells [.sl 2 0 1 1,.sl 5 0 1 3],.cells [.rowE (ints (bs.eraseIdx k)) 1,.sl 6 0 i 3],.arr (ints [x1]) 1,.arr (ints [x2]) 1,.arr (fY [(a1,a2)]) 2,.arr [[.sl 3 0 1 1,.i 0,.sl 4 0 1 2]] 3,.arr (gM (R.take i)) 3,.cells [.sl 8 0 (p.length-1) 1,.i m,.sl 9 0 (c.length-1) 2],.arr (ints (p.eraseIdx k)) 1,.arr (fY (c.eraseIdx k)) 2]
      ⟨[0,1,2,3,4,5,6,7,8,9],rfl,(by repeat first|exact trivial|refine ⟨rfl,?_⟩),⟨.inr rfl,.inr rfl,.inr rfl,.inr rfl,.inr rfl,.inr rfl,.inr (aC rfl rfl (bX _)),.inr rfl,.inr (aC rfl (bB _ (bJ _)) (bJ _)),.inr (aC rfl (bB _ (fL _)) (fL _)),trivial⟩,by decide,jY _⟩ ?_
    refine nN 7 0 rfl rfl rfl (by rw [cY,l1]) (gV (bJ _)) ?_
    refine nN 7 2 rfl rfl rfl (by rw [iP,l2]) (gV (fL _)) ?_
    have hW:gM (R.take (i+1))=gM (R.take i)++[[.rowE (ints (p.eraseIdx k)) 1,.i m,.rowE (fY (c.eraseIdx k)) 2]]:=by rw [hRs,gM,bT];rfl
    have hTl:(gM (R.take i)).length=i:=by rw [fR,bH];omega
    generalize gM (R.take i)=Q at *
    (repeat' (first|(refine rg 9 (gI T rfl (lW T rfl (cC (by exact bE T rfl rfl (by decide) (by decide) rfl rfl rfl) rfl ?_)));refine fS T rfl rfl rfl rfl rfl rfl (by omega) (iK.whole rfl rfl) rfl (by simp;omega) (by simp;omega) rfl ?_;refine fW T rfl (bD T rfl rfl rfl rfl rfl rfl (by decide) rfl ?_))|(refine rg 10 (vV (cE rfl rfl (by omega) (by omega)) (mV ?_)))|refine nZ ?_));all_goals try (exfalso;omega)
    exact ⟨⟨i+1,hlt⟩,by dsimp only;omega,⟨[0,1,2,3,4,5,11],rfl,(by repeat first|exact trivial|refine ⟨rfl,?_⟩),⟨.inr rfl,.inr rfl,.inr rfl,.inr rfl,.inr rfl,.inr rfl,.inr (aC rfl (by dsimp only;rw [hW];exact jF hTl.symm) (bX _)),trivial⟩,by decide,jY _⟩⟩
  · obtain rfl:i=L.length:=by omega
    rw [show R.take L.length=R by rw [← hRl,cQ]]
    show AW _ _ _ _ _ _;refine nN 1 1 rfl rfl rfl (by rw [fR,hRl]) (gV (bX _)) ?_
    generalize gS R=R' at *
    (repeat' (first|refine wS ?_|refine wR ?_|refine wE ?_|(refine wC rfl ?_ ?_<;>(intro hb;(try simp only [nm] at hb);try (exfalso;omega)))|(refine rg 5 (vV (aL rfl rfl) ?_))|(refine rg 11 (gI T rfl (vV (kC (ho)) (fW T rfl (bD T rfl rfl rfl rfl rfl rfl (by decide) rfl ?_)))))|(refine nQ (id:=12) 78 [[],[],[0]] [76,77] [[],[76],[77]] [(2,0)] cK rfl (by decide +kernel) (cP rfl rfl rfl rfl (by exact aK T rfl rfl rfl rfl) ?_);refine cP rfl rfl rfl rfl (by exact aK T rfl rfl rfl rfl) ?_;refine wL rfl rfl rfl rfl (aH rfl) T rfl rfl rfl rfl rfl rfl (by decide) rfl ?_;refine sO rfl rfl rfl (by exact rfl) ?_;refine bD T rfl rfl rfl rfl rfl rfl (by decide) rfl ?_)|refine nZ ?_));all_goals first | (exfalso;omega) | exact ⟨.inl rfl,[2,3,4,5],_,rfl,rfl,rfl,⟨.inr rfl,.inr rfl,.inr rfl,.inr rfl,trivial⟩,by decide,jY _⟩
end Go.Proofs.YtmmmeebiobjnbaaGreat
namespace Go.Ld
open Go.Ab Go.Proofs.YtmmmeebiobjnbaaGreat
theorem C2 {L:List G}{j:Int}{i:Nat}{x:G}(h:L[i]? = some x) (e:j=i):(kU L)[0+j.toNat]? = some (gA x):=by
  subst e;simp [h]
theorem M7 {L:List G}{j:Int}{i:Nat}{x:G}(e:j=i):(kU L).set (0+j.toNat) (gA x)=kU (L.set i x):=by
  subst e;simp [kU,oK]
abbrev OM (l:List G):Prop:=l.Pairwise (fun a b=>cG a b≤0)
def Z9 (l:List G):Prop:=∀ a b,a∈l→b∈l→cG a b=0→a=b
theorem yF2 {a:G}:cG a a=0:=rI.rfl' _
theorem RH (a b:G):cG a b = - cG b a:=rI.neg _ _
theorem UG {a b d:G}(h1:cG a b≤0) (h2:cG b d≤0):cG a d≤0:=rI.le_tr (a:=a.1.headD 0) (b:=b.1.headD 0) (d:=d.1.headD 0) h1 h2
theorem ND (w:G):∀ {l:List G},OM l→OM (EM cG w l)
  | [],_=>kR _ _
  | x::l,hl=>by
    have hl':=fB.1 hl;unfold EM;split
    · rename_i hw;refine fB.2 ⟨fun y hy=>?_,hl⟩
      rcases bN.1 hy with rfl | hy
      · exact hw
      · exact UG hw (hl'.1 y hy)
    · rename_i hw;refine fB.2 ⟨fun y hy=>?_,ND w hl'.2⟩
      rcases bN.1 ((F3 cG w l).mem_iff.1 hy) with rfl | hy
      · have:=RH x y;omega
      · exact hl'.1 y hy
theorem tZ:∀ l:List G,OM (eJ cG l)
  | []=>.nil
  | x::l=>ND x (tZ l)
theorem LO {l m:List G}(hd:Z9 l) (hp:m.Perm l) (h:OM m):eJ cG l=m:=by
  refine (List.Perm.eq_of_pairwise (le:=fun a b=>cG a b≤0) (fun a b ha hb h1 h2=>hd a b (hp.mem_iff.1 ha) ((dU cG l).mem_iff.1 hb) (by have:=RH a b;omega)) h (tZ l) (hp.trans (dU cG l).symm)).symm
theorem Z9.sub {l m:List G}(h:Z9 l) (hs:∀ x,x∈m→x∈l):Z9 m:=fun a b ha hb e=>h a b (hs a ha) (hs b hb) e
theorem Z9.perm {l m:List G}(h:Z9 l) (hp:m.Perm l):Z9 m:=h.sub fun x hx=>hp.mem_iff.1 hx
theorem RF {a b:G}(h:cG a b<0):cG a b≤0:=by omega
theorem zM5 {S1 S2:List G}{x:G}(h:OM (S1++S2)) (h1:∀ y,y∈S1→cG y x≤0) (h2:∀ y,y∈S2→cG x y≤0):OM (S1++x::S2):=by
  obtain ⟨a,b,c⟩:=eX.1 h;refine eX.2 ⟨a,fB.2 ⟨h2,b⟩,fun p hp q hq=>?_⟩
  rcases bN.1 hq with rfl | hq
  · exact h1 p hp
  · exact c p hp q hq
theorem YB {A:List G}{y:G}(h:OM (A++[y])):∀ z,z∈A++[y]→cG z y≤0:=by
  intro z hz;obtain ⟨a,b,c⟩:=eX.1 h;rcases bL.1 hz with hz | hz
  · exact c z hz y (by simp)
  · rw [bC.1 hz,yF2];exact dX _
theorem yN4 {a b:G}(h:¬ cG a b<0):cG b a≤0:=by have:=RH a b;omega
def Z1 (l:List G) (a b:Nat):List G:=l.take a++(eJ cG ((l.drop a).take (b-a))++l.drop b)
theorem BK {l:List G}:(eJ cG l).length=l.length:=(dU cG l).length_eq
theorem VF {l:List G}{a:Nat}(h:a≤l.length):Z1 l a a=l:=by unfold Z1;simp [eJ]
theorem YW {l:List G}{a:Nat}(h:a<l.length):Z1 l a (a+1)=l:=by
  unfold Z1;rw [show a+1-a=1 by omega,aY h]
  simp only [pB,jM,eJ,EM];rw [List.singleton_append,← aY h,bS]
structure OX (l:List G) (a i:Nat) (x:G) (q:List G × List G):Prop where
  eq:q.1++q.2=eJ cG ((l.drop a).take (i-a))
  gt:∀ y,y∈q.2→cG x y<0
def qN (l:List G) (a i:Nat) (x:G) (q:List G × List G):List G:=(l.take a++q.1)++x::(q.2++l.drop (i+1))
theorem QK {l:List G}{a i:Nat}{x:G}(h1:a<i) (h2:i<l.length) (hx:l[i]? = some x):OX l a i x (eJ cG ((l.drop a).take (i-a)),[])∧Z1 l a i=qN l a i x (eJ cG ((l.drop a).take (i-a)),[]):=by
  refine ⟨⟨by simp,fun y hy=>by cases hy⟩,?_⟩
  unfold Z1 qN;have:l.drop i=x::l.drop (i+1):=by
    rw [aA h2] at hx;rw [aY h2];cases hx;rfl
  simp [this]
theorem NC {l:List G}{a i:Nat}{x:G}{q:List G × List G}(h:OX l a i x q) (h1:a<i) (h2:i<l.length):q.1.length+q.2.length=i-a:=by
  have:=congrArg List.length h.eq;simp only [aF,BK,bH,dQ] at this;omega
theorem WO {l:List G}{a i:Nat}{x:G}{q:List G × List G}(h:OX l a i x q) (h1:a<i) (h2:i<l.length):(qN l a i x q).length=l.length:=by
  have:=NC h h1 h2;unfold qN;simp only [aF,List.length_cons,bH,dQ];omega
theorem TM {l:List G}(hdl:Z9 l){a i:Nat}{x:G}{q:List G × List G}(h:OX l a i x q) (h1:a<i) (h2:i<l.length) (hx:l[i]? = some x) (hs:∀ y,y∈q.1→cG y x≤0):qN l a i x q=Z1 l a (i+1):=by
  unfold qN Z1;have e:(l.drop a).take (i+1-a)=(l.drop a).take (i-a)++[x]:=by
    rw [show i+1-a=(i-a)+1 by omega,zL2]
    rw [eF,show a+(i-a)=i by omega,hx];rfl
  rw [e];have hp:(q.1++x::q.2).Perm ((l.drop a).take (i-a)++[x]):=by
    refine List.perm_middle.trans ?_;rw [h.eq];exact ((dU cG _).cons x).trans (P8 _ _).symm
  have hu:OM (q.1++x::q.2):=zM5 (by rw [h.eq];exact tZ _) hs (fun y hy=>RF (h.gt y hy))
  rw [LO (hdl.sub fun y hy=>by rw [← e] at hy;exact eA (dS hy)) hp hu]
  simp
theorem zD2 {l:List G}{a i:Nat}{x y:G}{S:List G}{q:List G × List G}(h:OX l a i x q) (e:q.1=S++[y]) (hc:¬ cG x y<0):∀ z,z∈q.1→cG z x≤0:=by
  have hu:OM (q.1++q.2):=by rw [h.eq];exact tZ _
  have hu1:OM q.1:=(eX.1 hu).1;rw [e] at hu1;intro z hz;rw [e] at hz;exact UG (YB hu1 z hz) (yN4 hc)
theorem WN {l:List G}{a i:Nat}{x y:G}{S:List G}{q:List G × List G}(h:OX l a i x q) (e:q.1=S++[y]) (hc:cG x y<0):OX l a i x (S,y::q.2):=by
  refine ⟨?_,fun z hz=>?_⟩
  · rw [← h.eq,e];simp
  · rcases bN.1 hz with rfl | hz
    · exact hc
    · exact h.gt z hz
end Go.Ld
namespace Go.Proofs.YtmmmeebiobjnbaaGreat
open Go Go.Ab Go.Ld
attribute [local irreducible] VC AW cD aT
set_option maxHeartbeats 4000000
abbrev RA:AV:=.clo (.func 105) [] []
def yG7 (g:G):Prop:=0<g.1.length∧g.1.length≤1000000
theorem zN5 (a b:G) (ha:yG7 a) (hb:yG7 b):aT Tryz.prog 105 [XV a,XV b] [] (.i (cG a b)) []:=by
  obtain ⟨p,ws⟩:=a;obtain ⟨q,vs⟩:=b;cases p with
  | nil=>exact absurd ha.1 (by simp)
  | cons x p=>
    cases q with
    | nil=>exact absurd hb.1 (by simp)
    | cons y q=>
      have hc:=HE x y;have h1:(ints (x::p)).length=p.length+1:=by simp
      have h2:(ints (y::q)).length=q.length+1:=by simp
      have g1:(ints (x::p))[(0:Int).toNat]? = some [AV.i x]:=rfl;have g2:(ints (y::q))[(0:Int).toNat]? = some [AV.i y]:=rfl;refine bU T Tryz.func105 rfl rfl rfl rfl ?_
      (repeat' (first|refine wS ?_|refine wR ?_|(refine rg 0 (cC (cO rfl rfl) rfl (cC (cO rfl rfl) rfl (aV ?_))))|(refine bV (id:=1) 14 [[],[0],[0,1],[0,1,2],[],[4],[4,5],[4,5,6],rN 8] (rM 5 9) [[],[],[],[],rM 5 4,rM 5 4,rM 5 4,rM 5 4,[]] cK rfl (by decide +kernel) (dP T rfl (dO T rfl (dV rfl (ix T rfl (by omega) (dR _) g1) (dO T rfl (dP T rfl (dO T rfl (dV rfl (ix T rfl (by omega) (dR _) g2) (dO T rfl (dV rfl (kC (hc)) ?_)))))))));refine dE ?_;refine aV ?_)|refine nZ ?_));all_goals first | (exfalso;omega) | exact rQ
theorem WL (l:List G) (a b:Nat) (hab:a≤b) (hb:b≤l.length) (hdl:Z9 l) (hl:l.length≤100000) (hw:∀ w,w∈l→yG7 w) :
    aT Tryz.prog 149 [.sl 0 0 l.length 2,.i a,.i b,RA] [.arr (kU l) 2] (.tup []) [.arr (kU (Z1 l a b)) 2]:=by
  rcases jO a b with hlt | hge
  · refine bU T Tryz.func149 rfl rfl rfl rfl ?_
    (repeat' (first|refine wS ?_|refine wB ?_|(refine iA 0 rfl rfl rfl (by omega) (by omega) ?_)|refine nZ ?_));refine dA (X:={i:Nat // a+1≤i∧i≤b}) (fun i=>[(0,.sl 0 0 l.length 2),(1,.i a),(2,.i b),(3,RA),(8,.i i.1)]) (fun i=>[.arr (kU (Z1 l a i.1)) 2]) (fun i=>b-i.1) ⟨a+1,by omega,by omega⟩ ⟨[0],rfl,by (repeat (first | exact trivial | refine ⟨rfl,?_⟩)),⟨.inr (aC rfl (by dsimp only;rw [YW (by omega)]) (eN _)),trivial⟩,by decide,lY⟩ ?_
    rintro ⟨i,h1,h2⟩;dsimp only;by_cases hi:i<b
    · (repeat' (first|refine wS ?_|refine wB ?_|refine wK ?_|(refine wC rfl (fun hb=>?_) (fun hb=>?_) <;> (((try simp only [nm] at hb);try (exfalso;omega))))|(refine rg 1 (dI rfl (vV (aL rfl rfl) ?_)))|(refine rg 3 (mW rfl (aV ?_)))|(refine nZ ?_)));all_goals try (exfalso;omega)
      have hil:i<l.length:=by omega
      obtain ⟨x,hx⟩:∃ x,l[i]? = some x:=⟨_,aA hil⟩;obtain ⟨s1,s2⟩:=QK (a:=a) (by omega) hil hx
      refine dA (X:={q:List G × List G // OX l a i x q}) (fun q=>[(0,.sl 0 0 l.length 2),(1,.i a),(2,.i b),(3,RA),(8,.i i),(9,.i ((a+q.1.1.length:Nat):Int))]) (fun q=>[.arr (kU (qN l a i x q.1)) 2]) (fun q=>q.1.1.length) ⟨_,s1⟩ ⟨[0],rfl,⟨rfl,rfl,rfl,rfl,rfl,by dsimp only;rw [BK,bH,dQ,show a+min (i-a) (l.length-a)=i by omega];rfl,trivial⟩,⟨.inr (aC rfl (by dsimp only;rw [s2]) (eN _)),trivial⟩,by decide,lY⟩ ?_
      rintro ⟨⟨S1,S2⟩,hq⟩;dsimp only;have hln:=NC hq (by omega) hil
      dsimp only at hln;have hwx:yG7 x:=hw x (aO hx);have hal:(l.take a).length=a:=by rw [bH];omega
      rcases List.eq_nil_or_concat S1 with rfl | ⟨S,y,rfl⟩
      · have ee:=TM hdl hq (by omega) hil hx (fun y hy=>by cases hy)
        have hJ:((a+([]:List G).length:Nat):Int)=a:=by simp
        generalize ((a+([]:List G).length:Nat):Int)=J at *;generalize qN l a i x ([],S2)=L at *
        (repeat' (first|refine wS ?_|refine wE ?_|refine wU ?_|(refine bV (id:=4) 53 yT8 (rM 18 17) yT9 cK rfl (by decide +kernel) (dN rfl (dN rfl (dV rfl (AP rfl rfl (by omega)) (dN rfl (tG rfl (tG rfl (tG rfl (tG rfl (dG ?_)))))))));refine tG rfl (tG rfl (tG rfl (tG rfl (tG rfl (tG rfl (tG rfl (dV rfl (gJ rfl rfl) (dE ?_)))))))))|(refine iA 2 rfl rfl rfl (by omega) (by omega) ?_)|refine nZ ?_));all_goals first | (exfalso;omega) | exact ⟨⟨i+1,by omega,by omega⟩,by dsimp only;omega,⟨[0],rfl,by (repeat (first | exact trivial | refine ⟨rfl,?_⟩)),⟨.inr (aC rfl (by dsimp only;rw [ee]) (eN _)),trivial⟩,by decide,lY⟩⟩
      · rw [List.concat_eq_append] at *;have hy:y∈l:=by
          have h3:y∈eJ cG ((l.drop a).take (i-a)):=by rw [← hq.eq];simp
          exact eA (dS ((dU _ _).mem_iff.1 h3))
        have hc:=zN5 x y hwx (hw y hy);have hL:qN l a i x (S++[y],S2)=(l.take a++S)++y::x::(S2++l.drop (i+1)):=by unfold qN;simp
        have hJ:((a+(S++[y]).length:Nat):Int)=((a+S.length+1:Nat):Int):=by simp;omega
        have hAl:a+S.length=(l.take a++S).length:=by rw [aF,hal]
        have hlen:=WO hq (by omega) hil
        by_cases h0:cG x y<0
        · have ee:=WN hq rfl h0;have q1:=C2 (L:=qN l a i x (S++[y],S2)) (j:=((a+(S++[y]).length:Nat):Int)) (i:=a+S.length+1) (x:=x) (by rw [hL,show (l.take a++S)++y::x::(S2++l.drop (i+1))=((l.take a++S)++[y])++x::(S2++l.drop (i+1)) by simp];exact oC _ _ _ (by simp;omega)) hJ
          have q2:=C2 (L:=qN l a i x (S++[y],S2)) (j:=((a+(S++[y]).length:Nat):Int)-1) (i:=a+S.length) (x:=y) (by rw [hL];exact oC _ _ _ hAl) (by omega)
          have t1:=M7 (L:=qN l a i x (S++[y],S2)) (j:=((a+(S++[y]).length:Nat):Int)) (i:=a+S.length+1) (x:=y) hJ;have e1:(qN l a i x (S++[y],S2)).set (a+S.length+1) y=(l.take a++S)++y::y::(S2++l.drop (i+1)):=by
            rw [hL,show (l.take a++S)++y::x::(S2++l.drop (i+1))=((l.take a++S)++[y])++x::(S2++l.drop (i+1)) by simp,oM _ _ _ _ (by simp;omega)];simp
          rw [e1] at t1;have q3:=C2 (L:=(l.take a++S)++y::y::(S2++l.drop (i+1))) (j:=((a+(S++[y]).length:Nat):Int)-1) (i:=a+S.length) (x:=y) (oC _ _ _ hAl) (by omega)
          have t2:=M7 (L:=(l.take a++S)++y::y::(S2++l.drop (i+1))) (j:=((a+(S++[y]).length:Nat):Int)-1) (i:=a+S.length) (x:=x) (by omega)
          rw [oM _ _ _ _ hAl,show (l.take a++S)++x::y::(S2++l.drop (i+1))=qN l a i x (S,y::S2) by unfold qN;simp,← t1] at t2
          rw [← t1] at q3;have hJ2:((a+(S++[y]).length:Nat):Int)-1=((a+S.length:Nat):Int):=by omega
          have hJ3:((a+(S++[y]).length:Nat):Int)<l.length:=by omega
          have hJ4:(a:Int)<((a+(S++[y]).length:Nat):Int):=by omega
          clear hJ hL;generalize ((a+(S++[y]).length:Nat):Int)=J at *;generalize cG x y=z at *;generalize qN l a i x (S++[y],S2)=L at *
          (repeat' (first|refine wS ?_|refine wB ?_|refine wK ?_|(refine wC rfl ?_ ?_<;>(intro hb;(try simp only [nm] at hb);try (exfalso;omega)))|(refine bV (id:=4) 53 yT8 (rM 18 17) yT9 cK rfl (by decide +kernel) (dN rfl (dN rfl (dV rfl (fA rfl rfl) (dM ?_))));refine lL rfl rfl rfl rfl ?_ ?_<;>(intro hb;rw [hb];(try simp only [nm] at hb);try (exfalso;omega))<;>(refine tM ?_);(all_goals (refine tN rfl (tN rfl (dT rfl (by exact aI T rfl rfl rfl rfl rfl (by omega) (by omega)) ?_));refine dT rfl (by exact aK T rfl rfl (bF rfl q1) rfl) ?_;refine tN rfl (tN rfl (dT rfl (cT rfl rfl (by omega) (by omega)) (dT rfl (by exact aI T rfl rfl rfl rfl rfl (by omega) (by omega)) ?_)));refine dT rfl (by exact aK T rfl rfl (bF rfl q2) rfl) ?_;refine dT rfl (kC (hc)) (dT rfl (aL rfl rfl) (dV rfl (gG rfl rfl) (dE ?_))))))|(refine nQ (id:=6) 53 yU0 (rM 37 15) yU1 [(15,0)] cK rfl (by decide +kernel) (cP rfl rfl rfl rfl (by exact bR rfl) ?_);refine cP rfl rfl rfl rfl (by exact bR rfl) ?_;refine cP rfl rfl rfl rfl (by exact bR rfl) ?_;refine cP rfl rfl rfl rfl (by exact bR rfl) ?_;refine cP rfl rfl rfl rfl (by exact cT rfl rfl (by omega) (by omega)) ?_;refine cP rfl rfl rfl rfl (by exact bR rfl) ?_;refine cP rfl rfl rfl rfl (by exact bR rfl) ?_;refine cP rfl rfl rfl rfl (by exact cT rfl rfl (by omega) (by omega)) ?_;refine cP rfl rfl rfl rfl (by exact aI T rfl rfl rfl rfl rfl (by omega) (by omega)) ?_;refine cP rfl rfl rfl rfl (by exact aK T rfl rfl (bF rfl q2) rfl) ?_;refine cP rfl rfl rfl rfl (by exact bR rfl) ?_;refine cP rfl rfl rfl rfl (by exact bR rfl) ?_;refine cP rfl rfl rfl rfl (by exact aI T rfl rfl rfl rfl rfl (by omega) (by omega)) ?_;refine cP rfl rfl rfl rfl (by exact aK T rfl rfl (bF rfl q1) rfl) ?_;refine cP rfl rfl rfl rfl (by exact aI T rfl rfl rfl rfl rfl (by omega) (by omega)) ?_;refine wL rfl rfl rfl rfl (aH rfl) T rfl rfl rfl rfl rfl rfl (by decide) (vE rfl q1 rfl) ?_;refine sO rfl rfl rfl (by exact rfl) ?_;refine vV (by exact aI T rfl rfl rfl rfl rfl (by omega) (by omega)) ?_;refine bD T rfl rfl rfl rfl rfl rfl (by decide) (lR rfl q3 rfl) ?_)|(refine rg 5 (mW rfl (vV (cT rfl rfl (by omega) (by omega)) (aV ?_))))|refine nZ ?_));all_goals first | (exfalso;omega) | exact ⟨⟨_,ee⟩,by dsimp only;simp,⟨[0],rfl,⟨rfl,rfl,rfl,rfl,rfl,by dsimp only;rw [← hJ2];try rfl,trivial⟩,⟨.inr (aC rfl (by dsimp only;rw [← t2];try rfl) (eN _)),trivial⟩,by decide,lY⟩⟩
        · have ee:=TM hdl hq (by omega) hil hx (zD2 hq rfl h0)
          have q1:=C2 (L:=qN l a i x (S++[y],S2)) (j:=((a+(S++[y]).length:Nat):Int)) (i:=a+S.length+1) (x:=x) (by rw [hL,show (l.take a++S)++y::x::(S2++l.drop (i+1))=((l.take a++S)++[y])++x::(S2++l.drop (i+1)) by simp];exact oC _ _ _ (by simp;omega)) hJ
          have q2:=C2 (L:=qN l a i x (S++[y],S2)) (j:=((a+(S++[y]).length:Nat):Int)-1) (i:=a+S.length) (x:=y) (by rw [hL];exact oC _ _ _ hAl) (by omega)
          have hJ3:((a+(S++[y]).length:Nat):Int)<l.length:=by omega
          have hJ4:(a:Int)<((a+(S++[y]).length:Nat):Int):=by omega
          clear hJ hL;generalize ((a+(S++[y]).length:Nat):Int)=J at *;generalize cG x y=z at *;generalize qN l a i x (S++[y],S2)=L at *
          (repeat' (first|refine wS ?_|refine wE ?_|(refine wC rfl ?_ ?_<;>(intro hb;(try simp only [nm] at hb);try (exfalso;omega)))|(refine bV (id:=4) 53 yT8 (rM 18 17) yT9 cK rfl (by decide +kernel) (dN rfl (dN rfl (dV rfl (fA rfl rfl) (dM ?_))));refine lL rfl rfl rfl rfl ?_ ?_<;>(intro hb;rw [hb];(try simp only [nm] at hb);try (exfalso;omega))<;>(refine tM ?_);(all_goals (refine tN rfl (tN rfl (dT rfl (by exact aI T rfl rfl rfl rfl rfl (by omega) (by omega)) ?_));refine dT rfl (by exact aK T rfl rfl (bF rfl q1) rfl) ?_;refine tN rfl (tN rfl (dT rfl (cT rfl rfl (by omega) (by omega)) (dT rfl (by exact aI T rfl rfl rfl rfl rfl (by omega) (by omega)) ?_)));refine dT rfl (by exact aK T rfl rfl (bF rfl q2) rfl) ?_;refine dT rfl (kC (hc)) (dT rfl (aL rfl rfl) (dV rfl (gG rfl rfl) (dE ?_))))))|(refine iA 2 rfl rfl rfl (by omega) (by omega) ?_)|refine nZ ?_));all_goals first | (exfalso;omega) | exact ⟨⟨i+1,by omega,by omega⟩,by dsimp only;omega,⟨[0],rfl,by (repeat (first | exact trivial | refine ⟨rfl,?_⟩)),⟨.inr (aC rfl (by dsimp only;rw [ee]) (eN _)),trivial⟩,by decide,lY⟩⟩
    · obtain rfl:i=b:=by omega
      (repeat' (first|refine wS ?_|refine wE ?_|(refine wC rfl ?_ ?_<;>(intro hb;(try simp only [nm] at hb);try (exfalso;omega)))|(refine rg 1 (dI rfl (vV (aL rfl rfl) ?_)))|refine nZ ?_));all_goals first | (exfalso;omega) | exact ⟨.inl rfl,[0],_,rfl,rfl,rfl,⟨.inr (aC rfl rfl (eN _)),trivial⟩,by decide,lY⟩ | exact ⟨.inr rfl,[0],_,rfl,rfl,rfl,⟨.inr (aC rfl rfl (eN _)),trivial⟩,by decide,lY⟩
  · obtain rfl:a=b:=by omega
    rw [VF hb];refine bU T Tryz.func149 rfl rfl rfl rfl ?_
    (repeat' (first|refine wS ?_|refine wB ?_|(refine iA 0 rfl rfl rfl (by omega) (by omega) ?_)|refine nZ ?_));refine dA (X:=Unit) (fun _=>[(0,.sl 0 0 l.length 2),(1,.i a),(2,.i a),(3,RA),(8,.i ((a:Int)+1))]) (fun _=>[.arr (kU l) 2]) (fun _=>0) () ⟨[0],rfl,by (repeat (first | exact trivial | refine ⟨rfl,?_⟩)),⟨.inr (aC rfl rfl (eN _)),trivial⟩,by decide,lY⟩ ?_
    intro _;dsimp only
    (repeat' (first|refine wS ?_|refine wE ?_|(refine wC rfl ?_ ?_<;>(intro hb;(try simp only [nm] at hb);try (exfalso;omega)))|(refine rg 1 (dI rfl (vV (aL rfl rfl) ?_)))|refine nZ ?_));all_goals first | (exfalso;omega) | exact ⟨.inl rfl,[0],_,rfl,rfl,rfl,⟨.inr (aC rfl rfl (eN _)),trivial⟩,by decide,lY⟩ | exact ⟨.inr rfl,[0],_,rfl,rfl,rfl,⟨.inr (aC rfl rfl (eN _)),trivial⟩,by decide,lY⟩
end Go.Proofs.YtmmmeebiobjnbaaGreat
namespace Go.Ld
open Go.Ab Go.Proofs.YtmmmeebiobjnbaaGreat
def zR3 (n:Nat):Int:=[0,1,2,2,3,3,3,3,4,4,4,4,4].getD n 0
end Go.Ld
namespace Go.Proofs.YtmmmeebiobjnbaaGreat
open Go Go.Ab Go.Ld
attribute [local irreducible] VC AW cD aT V5 zX1
set_option maxHeartbeats 4000000
theorem yM7:V5 Tryz.prog 180 .u64:=by unfold V5;kernel_rfl
theorem yQ1:V5 Tryz.prog 5 .u8:=by unfold V5;kernel_rfl
theorem yM8:zX1 Tryz.prog 9:=by unfold zX1;kernel_rfl
theorem zR4 (n:Nat) (h:n≤12):aT Tryz.prog 121 [.v (.int .u64 n)] [] (.i (zR3 n)) []:=by
  rcases (by omega:n=0∨n=1∨n=2∨n=3∨n=4∨n=5∨n=6∨n=7∨n=8∨n=9∨n=10∨n=11∨n=12) with rfl | rfl | rfl | rfl | rfl | rfl | rfl | rfl | rfl | rfl | rfl | rfl | rfl
  all_goals
    refine bU T Tryz.func121 rfl rfl rfl rfl ?_
    (repeat' (first|refine wS ?_|refine wK ?_|refine wR ?_|refine wU ?_|(refine rg 0 (aV ?_))|(refine rg 1 (mW rfl (vV (iC rfl rfl) ?_)))|(refine rg 4 (mW rfl (vV (iC rfl rfl) ?_)))|(refine rg 7 (mW rfl (vV (iC rfl rfl) ?_)))|(refine rg 10 (dI rfl (vV (jR yM7 yQ1 rfl rfl) (vV (by exact WV yM8 rfl rfl (by decide) rfl) ?_)));refine vV (jR yQ1 A0 rfl rfl) (vV (zE9 rfl rfl) (aV ?_)))|refine nZ ?_));all_goals first | (exfalso;omega) | exact rQ
theorem yC6 (n:Nat) (h:n≤12):aT Tryz.prog 79 [.v (.int .u64 n)] [] (.i (zR3 n)) []:=by
  have hc:=zR4 n h;refine bU T Tryz.func79 rfl rfl rfl rfl ?_
  (repeat' (first|refine wS ?_|refine wK ?_|refine wR ?_|refine wU ?_|(refine rg 0 (aV ?_))|(refine rg 2 (mW rfl (vV (kC (hc)) (aV ?_))))|refine nZ ?_));all_goals first | (exfalso;omega) | exact rQ
theorem yI7 (l:List G) (hdl:Z9 l) (hl:l.length≤12) (hw:∀ g,g∈l→yG7 g) (lim:Int):aT Tryz.prog 140 [.sl 0 0 l.length 2,.i 0,.i l.length,.i lim,RA] [.arr (kU l) 2] (.tup []) [.arr (kU (eJ cG l)) 2]:=by
  have hc:=WL l 0 l.length (bW _) (aU _) hdl (by omega) hw
  rw [show Z1 l 0 l.length=eJ cG l by unfold Z1;simp] at hc
  refine bU T Tryz.func140 rfl rfl rfl rfl ?_
  (repeat' (first|refine wS ?_|refine wB ?_|(refine rg 0 (aV ?_))|(refine rg 1 (aV ?_))|refine nZ ?_));refine dA (X:=Unit) (fun _=>[(0,.sl 0 0 l.length 2),(1,.i 0),(2,.i l.length),(3,.i lim),(4,RA)]) (fun _=>[.arr (kU l) 2]) (fun _=>0) () ⟨[0],rfl,by (repeat (first | exact trivial | refine ⟨rfl,?_⟩)),⟨.inr (aC rfl rfl (eN _)),trivial⟩,by decide,lY⟩ ?_
  intro _;dsimp only
  (repeat' (first|refine wS ?_|refine wB ?_|refine wR ?_|(refine wC rfl ?_ ?_<;>(intro hb;(try simp only [nm] at hb);try (exfalso;omega)))|(refine rg 2 (dI rfl (vV (cT rfl rfl (by omega) (by omega)) (aV ?_))))|(refine rg 3 (mW rfl (vV (iB rfl rfl) ?_)))|(refine rg 4 (dI rfl (dI rfl (eC [0] rfl rfl (hc) rfl rfl (by decide) ⟨.inr (aC rfl rfl (eN _)),trivial⟩ (by simp) rfl ?_))))|refine nZ ?_));all_goals first | (exfalso;omega) | exact ⟨.inl rfl,[0],_,rfl,rfl,rfl,⟨.inr (aC rfl (bB _ (eN _)) (eN _)),trivial⟩,by decide,lY⟩
theorem zO2 (l:List G) (hdl:Z9 l) (hl:l.length≤12) (hw:∀ g,g∈l→yG7 g):aT Tryz.prog 104 [.sl 0 0 l.length 2,RA] [.arr (kU l) 2] (.tup []) [.arr (kU (eJ cG l)) 2]:=by
  have h1:=yC6 l.length hl;have h2:=yI7 l hdl hl hw (zR3 l.length);have hw1:IntKind.u64.wrap (l.length:Int)=(l.length:Int):=KS (by omega) (by omega)
  generalize zR3 l.length=q at *;refine bU T Tryz.func104 rfl rfl rfl rfl ?_
  (repeat' (first|refine wS ?_|(refine rg 0 (mW rfl (qW T rfl (aV ?_))))|(refine rg 1 (dI rfl (mW rfl (vV (jR A0 sQ rfl hw1) (vV (by exact fQ rfl rfl h1 rfl rfl rfl) ?_))));refine mW rfl (eC [0] rfl rfl (h2) rfl rfl (by decide) ⟨.inr (aC rfl rfl (eN _)),trivial⟩ (by simp) rfl ?_))|refine nZ ?_));all_goals first | (exfalso;omega) | exact ⟨.inl rfl,[0],_,rfl,rfl,rfl,⟨.inr (aC rfl (bB _ (eN _)) (eN _)),trivial⟩,by decide,lY⟩ | exact ⟨.inr rfl,[0],_,rfl,rfl,rfl,⟨.inr (aC rfl (bB _ (eN _)) (eN _)),trivial⟩,by decide,lY⟩
end Go.Proofs.YtmmmeebiobjnbaaGreat
namespace Go.Ld
open Go.Ab Go.Proofs.YtmmmeebiobjnbaaGreat
def xD (g:G):List G:=mD g.1.length g
theorem PY {g:G}{k:Nat}(h:iR g=some k):xD g=nR g k::xD (kD g k):=by
  obtain ⟨h1,_,h3,_⟩:=kM h;have e:(kD g k).1.length=g.1.length-1:=by show (g.1.eraseIdx k).length=_;rw [gL,if_pos h3]
  unfold xD;rw [e];obtain ⟨m,hm⟩:∃ m,g.1.length=m+1:=⟨g.1.length-1,by omega⟩
  rw [hm,XP,mD,h]
theorem CH {g:G}(h:iR g=none):xD g=[g]:=by
  unfold xD;cases hl:g.1.length with
  | zero=>rfl
  | succ m=>rw [mD,h]
theorem OA (g:G) (k:Nat):iR (nR g k)=none:=by unfold iR;rw [if_pos (.inl (by show 1<2;omega))]
theorem VR (g:G) (k:Nat):xD (nR g k)=[nR g k]:=CH (OA g k)
structure oG (n:Nat) (o:List G):Prop where
  ok:∀ g,g∈o→D8 n g
  nd:(o.flatMap (·.1)).Nodup
  ln:(o.flatMap (·.1)).length≤12
  ws:∀ g,g∈o→g.2.length≤2000
theorem pJ {o:List G}{g:G}{b:Int}(h:g∈o) (hb:b∈g.1):b∈o.flatMap (·.1):=fC.2 ⟨g,h,hb⟩
theorem AJ:∀ {o:List G},(o.flatMap (·.1)).Nodup→∀ {a b:G}{x:Int},a∈o→b∈o→x∈a.1→x∈b.1→a=b
  | [],_,a,b,x,ha,_,_,_=>by cases ha
  | g::o,h,a,b,x,ha,hb,hxa,hxb=>by
    rw [bM] at h;obtain ⟨h1,h2,h3⟩:=dB.1 h;rcases bN.1 ha with e1 | ha' <;> rcases bN.1 hb with e2 | hb'
    · rw [e1,e2]
    · exact absurd rfl (h3 x (e1▸hxa) x (pJ hb' hxb))
    · exact absurd rfl (h3 x (e2▸hxb) x (pJ ha' hxa))
    · exact AJ h2 ha' hb' hxa hxb
theorem oG.dist {n:Nat}{o:List G}(h:oG n o):Z9 o:=by
  intro a b ha hb e;have e':a.1.headD 0=b.1.headD 0:=(rI.eq _ _).1 e;have hm:∀ g:G,g.1≠[]→g.1.headD 0∈g.1:=fun g hg=>by
    cases hq:g.1 with
    | nil=>exact absurd hq hg
    | cons x l=>simp
  exact AJ h.nd ha hb (hm a (h.ok a ha).ne) (e'▸hm b (h.ok b hb).ne)
theorem oG.len {n:Nat}{o:List G}(h:oG n o):o.length≤(o.flatMap (·.1)).length:=by
  have:∀ o:List G,(∀ g,g∈o→g.1≠[])→o.length≤(o.flatMap (·.1)).length:=by
    intro o
    induction o with
    | nil=>intro _;simp
    | cons g o ih=>
      intro hg;rw [bM,aF,List.length_cons];have:=ih fun g h=>hg g (aJ _ h);have:0<g.1.length:=fD.2 (hg g aQ);omega
  exact this o fun g hg=>(h.ok g hg).ne
theorem oG.hd {n:Nat}{o:List G}(h:oG n o):∀ g,g∈o→yG7 g:=fun g hg=>⟨fD.2 (h.ok g hg).ne,by have:=(h.ok g hg).ln;omega⟩
theorem oG.perm {n:Nat}{o p:List G}(h:oG n o) (hp:p.Perm o):oG n p where
  ok g hg:=h.ok g (hp.mem_iff.1 hg)
  nd:=(hp.flatMap_right _).nodup_iff.2 h.nd
  ln:=by rw [(hp.flatMap_right _).length_eq];exact h.ln
  ws g hg:=h.ws g (hp.mem_iff.1 hg)
theorem D8.sz {n:Nat}{g:G}(h:D8 n g) (hw:g.2.length≤2000):yG6 g:=⟨by have:=h.ln;omega,by omega,fun w hw=>(h.ws w hw).pl,fun w hw=>(h.ws w hw).cl⟩
theorem qK {α:Type}{o:List α}{i:Nat}{x y:α}(h:o[i]? = some x):∃ A B,o=A++x::B∧o.set i y=A++y::B:=by
  obtain ⟨hi,e⟩:=aB.1 h;refine ⟨o.take i,o.drop (i+1),?_,?_⟩
  · rw [← e,← aY hi,bS]
  · rw [List.set_eq_take_append_cons_drop,if_pos hi]
def GH (o:List G) (i k:Nat) (g:G):List G:=eJ cG (o.set i (kD g k)++[nR g k])
theorem MR {o:List G}{i k:Nat}{g:G}(h:o[i]? = some g) (hk:k<g.1.length):((o.set i (kD g k)++[nR g k]).flatMap (·.1)).Perm (o.flatMap (·.1)):=by
  obtain ⟨A,B,e1,e2⟩:=qK (y:=kD g k) h;rw [e2,e1];simp only [fX,bM,EG,List.append_nil,bZ];refine List.Perm.append_left _ ?_;have h1:(g.1.getD k 0::g.1.eraseIdx k).Perm g.1:=kK g.1 k 0 hk;have h2:((kD g k).1++(B.flatMap (·.1)++(nR g k).1)).Perm ((nR g k).1++((kD g k).1++B.flatMap (·.1))):=by
    rw [← bZ];exact zV
  refine h2.trans ?_;rw [← bZ];exact List.Perm.append_right _ h1
theorem TC {n:Nat}{o:List G}{i k:Nat}{g:G}(ok:oG n o) (h:o[i]? = some g) (hc:iR g=some k):oG n (o.set i (kD g k)++[nR g k]):=by
  have hg:=aO h;have hk:=(kM hc).2.2.1;have hb:=MR h hk;have hm:∀ x,x∈o.set i (kD g k)++[nR g k]→x∈o∨x=kD g k∨x=nR g k:=fun x hx=>by
    rcases bL.1 hx with hx | hx
    · rcases fK hx with hx | hx
      · exact .inl hx
      · exact .inr (.inl hx)
    · exact .inr (.inr (bC.1 hx))
  refine ⟨fun x hx=>?_,hb.nodup_iff.2 ok.nd,by rw [hb.length_eq];exact ok.ln,fun x hx=>?_⟩
  · rcases hm x hx with hx | rfl | rfl
    · exact ok.ok x hx
    · exact (ok.ok g hg).rest hc
    · exact (ok.ok g hg).one hc
  · rcases hm x hx with hx | rfl | rfl
    · exact ok.ws x hx
    · have:=sU (g.2.map fun w=>(w.1.eraseIdx k,w.2.1,w.2.2.eraseIdx k));rw [aX] at this;exact bG this (ok.ws g hg)
    · show 1≤2000;omega
theorem WA {o:List G}{i k:Nat}{g:G}(h:o[i]? = some g) (hc:iR g=some k):((o.set i (kD g k)++[nR g k]).flatMap xD).Perm (o.flatMap xD):=by
  obtain ⟨A,B,e1,e2⟩:=qK (y:=kD g k) h;rw [e2,e1];simp only [fX,bM,EG,List.append_nil,bZ,PY hc,VR];refine List.Perm.append_left _ ?_;rw [← bZ];exact zV
def zX8 (o:List G):Nat:=(o.map fun g=>g.1.length-1).sum
theorem XX {o p:List G}(h:p.Perm o):zX8 p=zX8 o:=(h.map _).sum_nat
theorem zB4 {o:List G}{i k:Nat}{g:G}(h:o[i]? = some g) (hc:iR g=some k):zX8 (o.set i (kD g k)++[nR g k])+1=zX8 o:=by
  obtain ⟨A,B,e1,e2⟩:=qK (y:=kD g k) h;obtain ⟨h1,_,h3,_⟩:=kM hc;have e:(kD g k).1.length=g.1.length-1:=by show (g.1.eraseIdx k).length=_;rw [gL,if_pos h3]
  rw [e2,e1];unfold zX8;simp only [bT,List.map_cons,List.map_nil,List.sum_append,yP3,List.sum_nil,e];have:(nR g k).1.length=1:=rfl;omega
structure pY (n:Nat) (L o:List G) (i:Nat):Prop where
  ok:oG n o
  up:OM o
  fl:(o.flatMap xD).Perm (L.flatMap xD)
  hi:i≤o.length
  no:∀ (j:Nat) (g:G),j<i→o[j]? = some g→iR g=none
theorem pY.start {n:Nat}{L:List G}(ok:oG n L) (up:OM L):pY n L L 0:=⟨ok,up,.refl _,bW _,fun j g h=>absurd h (eG _)⟩
theorem pY.keep {n:Nat}{L o:List G}{i:Nat}{g:G}(p:pY n L o i) (h:o[i]? = some g) (hc:iR g=none):pY n L o (i+1) where
  ok:=p.ok
  up:=p.up
  fl:=p.fl
  hi:=(aB.1 h).1
  no j x hj hx:=by
    rcases jO j i with h' | h'
    · exact p.no j x h' hx
    · obtain rfl:j=i:=by omega
      rw [h] at hx;cases hx;exact hc
theorem pY.next {n:Nat}{L o:List G}{i k:Nat}{g:G}(p:pY n L o i) (h:o[i]? = some g) (hc:iR g=some k):pY n L (GH o i k g) 0 where
  ok:=(TC p.ok h hc).perm (dU _ _)
  up:=tZ _
  fl:=((dU cG _).flatMap_right _).trans ((WA h hc).trans p.fl)
  hi:=bW _
  no j g h:=absurd h (eG _)
theorem pY.fin {n:Nat}{L o:List G}{i:Nat}(p:pY n L o i) (hi:o.length≤i):rT L=o:=by
  have e:o.flatMap xD=o:=by
    have:∀ g,g∈o→xD g=[g]:=fun g hg=>by
      obtain ⟨j,hj,e⟩:=oJ.1 hg;exact CH (p.no j g (by omega) (by rw [aA hj,e]))
    clear p hi
    induction o with
    | nil=>rfl
    | cons g o ih=>rw [bM,this g aQ,ih fun g h=>this g (aJ _ h)];rfl
  have hp:=p.fl;rw [e] at hp;show eJ cG (L.flatMap xD)=o;exact LO (p.ok.dist.perm hp.symm) hp p.up
theorem YR {l:List G}{k:Nat}(h:k<l.length):kH (l.take (k+1))=kH (l.take k)+gQ l[k]:=by
  unfold kH;rw [aP h,bT,List.sum_append];simp
theorem IB:∀ {l:List G},(∀ g,g∈l→0≤gQ g∧gQ g≤4000000)→0≤kH l∧kH l≤4000000*l.length
  | [],_=>by simp [kH]
  | g::l,h=>by
    have h1:=h g aQ;have h2:=IB (l:=l) fun g hg=>h g (aJ _ hg);have e:kH (g::l)=gQ g+kH l:=by simp [kH]
    rw [e,List.length_cons];omega
abbrev kI (c:Cx) (gs:List G):List AV:=[.i c.m,.i c.st,.i c.er,.i c.sl,.rowE (gE c.ks) 2,.rowE (iI c.ls) 3,.rowE (cW c.bs) 3,.rowE (kU gs) 2]
theorem WI (c:Cx) (r:Int) (l:List W):gN (fun w=>decide (w.2.1+r > c.m)) l=l.filter fun w=>decide (w.2.1+r≤c.m):=by
  unfold gN;congr 1;funext w;show (!decide (w.2.1+r > c.m))=decide (w.2.1+r≤c.m);by_cases h:w.2.1+r≤c.m
  · rw [decide_eq_true h,decide_eq_false (by omega)];rfl
  · rw [decide_eq_false h,decide_eq_true (by omega)];rfl
theorem VT {c:Cx}{all:List G}{k:Nat}(h:k<all.length):(paid c all).take (k+1)=(paid c all).take k++[(all[k].1,gN (fun w=>decide (w.2.1+(kH all-gQ all[k]) > c.m)) all[k].2)]:=by
  rw [WI];unfold paid;rw [← kY,← kY,aP h,bT];rfl
theorem zA4 (c:Cx) (all:List G):(paid c all).length=all.length:=by unfold paid;rw [aX]
theorem R7 (c:Cx) (all:List G):(paid c all).flatMap (·.1)=all.flatMap (·.1):=by
  unfold paid;rw [EH]
theorem D8.sub {n:Nat}{g:G}(h:D8 n g){ws:List W}(hs:∀ w,w∈ws→w∈g.2):D8 n (g.1,ws):=⟨h.ne,h.up,h.rg,h.ln,fun w hw=>h.ws w (hs w hw),fun w v hw hv=>h.same w v (hs w hw) (hs v hv)⟩
theorem oG.paid {n:Nat}{all:List G}(h:oG n all) (c:Cx):oG n (paid c all) where
  ok g hg:=by
    obtain ⟨x,hx,rfl⟩:=bA.1 hg;exact (h.ok x hx).sub fun w hw=>(dW.1 hw).1
  nd:=by rw [R7];exact h.nd
  ln:=by rw [R7];exact h.ln
  ws g hg:=by
    obtain ⟨x,hx,rfl⟩:=bA.1 hg;exact bG (fP _ _) (h.ws x hx)
theorem SE {c:Cx}{all:List G}(h:OM all):OM (paid c all):=by
  unfold paid;refine zL3.2 (h.imp fun h=>h)
theorem GN {n:Nat}{g:G}(h:D8 n g) (hne:g.2≠[]):0≤gQ g∧gQ g≤4000000:=by
  obtain ⟨w,hw,e⟩:=uB hne;have:=h.ws w hw;rw [← e];exact ⟨this.m0,this.m1⟩
end Go.Ld
namespace Go.Proofs.YtmmmeebiobjnbaaGreat
open Go Go.Ab Go.Ld
attribute [local irreducible] VC AW cD aT
set_option maxHeartbeats 4000000
theorem zN6 (c:Cx) (gs:List G) (w:W) (r:Int) (h1:0≤w.2.1∧w.2.1≤4000000) (h2:-100000000≤r∧r≤100000000):aT Tryz.prog 101 [OZ w,.pr [.i r] 0,.pr [.pr (kI c gs) 0] 0] [] (.b (decide (w.2.1+r > c.m))) []:=by
  refine bU T Tryz.func101 rfl rfl rfl rfl ?_
  (repeat' (first|refine wS ?_|refine wR ?_|(refine rg 0 (cC (cO rfl rfl) rfl (aV ?_)))|(refine bV (id:=1) 15 [[],[0],[],[0,1,2],[],[4],[4,5],[4,5,6],rM 4 4,rN 9] (rM 5 10) [[],[],[5,6],[],rM 5 4,rM 5 4,rM 5 4,rM 5 4,rM 5 4,[]] cK rfl (by decide +kernel) (dP T rfl (dO T rfl (dO T rfl (dV rfl (cE rfl rfl (by omega) (by omega)) (dO T rfl (dV rfl (by exact cN rfl rfl) ?_))))));refine dP T rfl (dP T rfl (dO T rfl (dV rfl (fA rfl rfl) (dE ?_))));refine aV ?_)|refine nZ ?_));all_goals first | (exfalso;omega) | exact rQ
end Go.Proofs.YtmmmeebiobjnbaaGreat
namespace Go.Ab
open Go
theorem RU {P : Program} {f : FuncId} {n : Nat} (hfn : ∃ fn, P.funcs[f]? = some fn ∧ (fn.name == "runtime.NumGoroutine") = false ∧ fn.body.isNone = false)
    (hs:∀ w:World,Calls P f #[.slice none 0 0,.int .i64 n] w fun e w'=>∃ (g:Nat) (cs:Array Value) (t:TypeId),e = .returned (.slice (some ⟨w.heap.size,0,none⟩) 0 g)∧g≤maxLen∧g≤cs.size∧w'=w.drew.alloc (.cells cs t)) :
    aT P f [.nils,.i n] [] (.sl 0 0 0 1) [.arr [] 1]:=by
  refine ⟨hfn,fun ρ S w vs s ha=>?_⟩
  simp only [RL,R] at ha;obtain ⟨y,_,rfl,rfl,y2,_,rfl,rfl,rfl⟩:=ha;refine (hs w).mono fun e w' ⟨g,cs,t,he,hg,hgc,hw⟩=>?_
  subst hw;have hnew:(w.drew.alloc (.cells cs t)).heap[w.heap.size]? = some (.cells cs t (0,0)):=(MapKept.heap_alloc w.drew _).1;obtain ⟨ρ',g1,g2,_⟩:=s.made (x:=.sl 0 0 0 1) (b:=.arr [] 1) (y:=.slice (some ⟨w.heap.size,0,none⟩) 0 g) (q:=some (w.heap.size,0)) ((nU.drew1 w).trans (qO w.drew (.cells cs t) (fun _=>False)) (fun _ h=>h.elim)) (fun p hp=>by cases hp; exact ⟨aU _,by rw [World.size_alloc]; exact Nat.lt_succ_self _⟩)
    (fun ρ' e1 e2 l'=>⟨by simp only [R];exact ⟨_,_,rfl,hg,.inr ⟨_,_,e1,rfl,bW _,⟨cs,t,(0,0),hnew,by omega⟩⟩⟩,⟨(fun e he=>nomatch he),OR,.inl ⟨rfl,fun b o hbo=>by cases hbo;exact ⟨cs,t,hnew⟩⟩⟩⟩)
  exact ⟨_,ρ',S,he,g1,g2⟩
end Go.Ab
namespace Go.Proofs.YtmmmeebiobjnbaaGreat
open Go Go.Ab Go.Ld Go.Shelf Go.Proofs
attribute [local irreducible] VC AW cD aT
set_option maxHeartbeats 4000000
shelf_lay_g Lays8.n4 Nm8 4 at Tryz 122 as laysGrow
theorem yD6 (n:Nat) (h0:0<n) (h1:n≤1000000):aT Tryz.prog 122 [.nils,.i n] [] (.sl 0 0 0 1) [.arr [] 1]:=by
  obtain ⟨inf,z,t1,t2,t3,t4,t5,t6,t7⟩:=T.tiOk 3 _ rfl;have hz:z.cells.size=1:=by have:=congrArg List.length t5;simpa using this
  refine RU ⟨_,Tryz.func122,by kernel_rfl,by kernel_rfl⟩ (fun w=>?_)
  refine (Any8.slices_Grow_grow laysGrow inf z t1 t4 (by rw [t2];decide) none 0 0 n [] w (aU _) (by omega) (by rw [t3];simp;omega) (by omega) (by simp) (fun _=>rfl) (fun a h=>by cases h)).mono ?_
  rintro e w' ⟨rfl,rfl⟩;have hge:=grownCap_ge w (0+n) 0 3;refine ⟨_,_,_,rfl,grownCap_le_maxLen w _ _ _ (by unfold maxLen;omega),?_,rfl⟩
  simp only [Array.size_append,Builtin.zeroCells,Array.size_map,Array.size_range,hz,oI,List.length_nil];omega
theorem zG6 (p q:List Int) (hp:0<p.length∧p.length≤1000) (hq:0<q.length∧q.length≤1000):aT Tryz.prog 81 [.rowE [[.rowE (ints p) 1],[.rowE (ints q) 1]] 1] [] (.rowE (ints (p++q)) 1) []:=by
  have hgr:=yD6 (p.length+q.length) (by omega) (by omega)
  rw [show ((p.length+q.length:Nat):Int)=(p.length:Int)+q.length by omega] at hgr
  have hlp:(ints p).length=p.length:=cY _;have hlq:(ints q).length=q.length:=cY _;have hpq:ints (p++q)=ints p++ints q:=bT;have hle:∀ e,e∈[[AV.rowE (ints p) 1],[AV.rowE (ints q) 1]]→e.length=1:=by intro e he;simp at he;rcases he with rfl | rfl <;> rfl
  have g0:[[AV.rowE (ints p) 1],[AV.rowE (ints q) 1]][((0:Nat):Int).toNat]? = some [AV.rowE (ints p) 1]:=rfl;have g1:[[AV.rowE (ints p) 1],[AV.rowE (ints q) 1]][((1:Nat):Int).toNat]? = some [AV.rowE (ints q) 1]:=rfl;refine kL (by rw [cY]:(p++q).length=(ints (p++q)).length) (gV (bJ _)) ?_
  rw [hpq,aF];have o1:=C1 p;have o2:=C1 q;have n1:=dR p;have n2:=dR q;have i1:=bJ p;have i2:=bJ q;generalize ints p=P' at *;generalize ints q=Q' at *;obtain ⟨sz,s0,s1,s2⟩:∃ sz:Nat→Int,sz 0=0∧sz 1=P'.length∧sz 2=P'.length+Q'.length:=⟨fun k=>if k=0 then 0 else if k=1 then (P'.length:Int) else P'.length+Q'.length,by simp,by simp,by simp⟩
  obtain ⟨cc,c0,c1,c2⟩:∃ cc:Nat→List (List AV),cc 0=[]∧cc 1=P'∧cc 2=P'++Q':=⟨fun k=>if k=0 then [] else if k=1 then P' else P'++Q',by simp,by simp,by simp⟩
  refine bU T Tryz.func81 rfl rfl rfl rfl ?_
  (repeat' (first|refine wS ?_|refine wB ?_|(refine rg 0 (aV ?_))|(refine rg 1 (aV ?_))|(refine rg 2 (mW rfl (qW T rfl (mV ?_))))|refine nZ ?_));refine dA (X:={k:Nat // k≤2}) (fun k=>[(0,.rowE [[.rowE P' 1],[.rowE Q' 1]] 1),(3,.i (sz k.1)),(9,.rowE [[.rowE P' 1],[.rowE Q' 1]] 1),(10,.i 2),(11,.i k.1)]) (fun _=>[]) (fun k=>2-k.1) ⟨0,by omega⟩ ⟨[],rfl,⟨rfl,by rw [s0];rfl,rfl,rfl,rfl,trivial⟩,trivial,eT,jY _⟩ ?_
  rintro ⟨k,hk⟩;dsimp only;rcases (by omega:k=0∨k=1∨k=2) with rfl | rfl | rfl
  · (repeat' (first|refine wS ?_|refine wB ?_|refine wK ?_|refine uV rfl ?_|(refine wC rfl (fun hb=>?_) (fun hb=>?_) <;> (((try simp only [nm] at hb);try (exfalso;omega))))|(refine rg 3 (vV (aL rfl rfl) ?_))|(refine rg 4 (vV (ix T rfl (by omega) hle g0) (lW T rfl (aV ?_))))|(refine rg 5 (dI rfl (qW T rfl (vV (cE rfl rfl (by omega) (by omega)) (aV ?_)))))|(refine rg 6 (mW rfl (vV (aL rfl rfl) ?_)))|(refine rg 8 (vV (cE rfl rfl (by omega) (by omega)) (mV ?_)))|(refine nZ ?_)));all_goals first | (exfalso;omega) | exact ⟨⟨1,by omega⟩,by dsimp only;omega,[],rfl,⟨rfl,by dsimp only;rw [show sz 1=sz 0+P'.length by omega];rfl,rfl,rfl,rfl,trivial⟩,trivial,eT,jY _⟩
  · (repeat' (first|refine wS ?_|refine wB ?_|refine wK ?_|refine uV rfl ?_|(refine wC rfl (fun hb=>?_) (fun hb=>?_) <;> (((try simp only [nm] at hb);try (exfalso;omega))))|(refine rg 3 (vV (aL rfl rfl) ?_))|(refine rg 4 (vV (ix T rfl (by omega) hle g1) (lW T rfl (aV ?_))))|(refine rg 5 (dI rfl (qW T rfl (vV (cE rfl rfl (by omega) (by omega)) (aV ?_)))))|(refine rg 6 (mW rfl (vV (aL rfl rfl) ?_)))|(refine rg 8 (vV (cE rfl rfl (by omega) (by omega)) (mV ?_)))|(refine nZ ?_)));all_goals first | (exfalso;omega) | exact ⟨⟨2,by omega⟩,by dsimp only;omega,[],rfl,⟨rfl,by dsimp only;rw [show sz 2=sz 1+Q'.length by omega];rfl,rfl,rfl,rfl,trivial⟩,trivial,eT,jY _⟩
  · rw [← hlp,← hlq,← s2] at hgr
    (repeat' (first|refine wS ?_|refine wB ?_|refine wE ?_|refine wU ?_|(refine rg 3 (vV (aL rfl rfl) ?_))|(refine rg 9 (mW rfl (cC (by exact fN rfl rfl hgr (.inr ⟨rfl,rfl,by simp⟩)) rfl ?_));refine aV ?_)|(refine rg 10 (mW rfl (qW T rfl (mV ?_))))|refine nZ ?_));all_goals try (exfalso;omega)
    refine dA (X:={k:Nat // k≤2}) (fun k=>[(6,.sl 0 0 (cc k.1).length 1),(25,.rowE [[.rowE P' 1],[.rowE Q' 1]] 1),(26,.i 2),(27,.i k.1)]) (fun k=>[.arr (cc k.1) 1]) (fun k=>2-k.1) ⟨0,by omega⟩ ⟨[0],rfl,⟨by dsimp only;rw [c0];rfl,rfl,rfl,rfl,trivial⟩,⟨.inr (aC rfl (by dsimp only;rw [c0];rfl) (by rw [c0];intro e he;cases he)),trivial⟩,by decide,jY _⟩ ?_
    clear hk;rintro ⟨k,hk⟩;dsimp only;rcases (by omega:k=0∨k=1∨k=2) with rfl | rfl | rfl
    · rw [c0]
      (repeat' (first|refine wS ?_|refine wB ?_|refine wK ?_|refine wT ?_|(refine rg 11 (vV (aL rfl rfl) ?_))|(refine rg 12 (vV (ix T rfl (by omega) hle g0) (lW T rfl (aV ?_))))|(refine rg 13 (dI rfl (fS T rfl rfl rfl rfl rfl rfl (by simp) (.row n1) o1 (by simp;omega) (by simp;omega) rfl ?_));refine aV ?_)|(refine rg 14 (vV (cE rfl rfl (by omega) (by omega)) (mV ?_)))|refine nZ ?_));all_goals first | (exfalso;omega) | skip
      exact ⟨⟨1,by omega⟩,by dsimp only;omega,⟨[1],rfl,⟨by dsimp only;rw [c1];show some (AV.sl 1 0 (0+P'.length) 1)=some (AV.sl 1 0 P'.length 1);rw [Nat.zero_add],rfl,rfl,rfl,trivial⟩,⟨.inr (aC rfl (by dsimp only;rw [c1];rfl) (by rw [c1];exact i1)),trivial⟩,by decide,jY _⟩⟩
    · rw [c1]
      (repeat' (first|refine wS ?_|refine wB ?_|refine wK ?_|refine wT ?_|(refine rg 11 (vV (aL rfl rfl) ?_))|(refine rg 12 (vV (ix T rfl (by omega) hle g1) (lW T rfl (aV ?_))))|(refine rg 13 (dI rfl (fS T rfl rfl rfl rfl rfl rfl (by omega) (.row n2) o2 (by (simp;omega)) (by omega) rfl ?_));refine aV ?_)|(refine rg 14 (vV (cE rfl rfl (by omega) (by omega)) (mV ?_)))|refine nZ ?_));all_goals first | (exfalso;omega) | skip
      exact ⟨⟨2,by omega⟩,by dsimp only;omega,⟨[1],rfl,⟨by dsimp only;rw [c2,aF];rfl,rfl,rfl,rfl,trivial⟩,⟨.inr (aC rfl (by dsimp only;rw [c2,kG,cQ]) (by rw [c2];intro e he;rcases bL.1 he with he | he;exact i1 e he;exact i2 e he)),trivial⟩,by decide,jY _⟩⟩
    · rw [c2,aF]
      (repeat' (first|refine wS ?_|refine wR ?_|refine wE ?_|refine wU ?_|(refine rg 11 (vV (aL rfl rfl) ?_))|(refine rg 15 (mW rfl (aV ?_)))|refine nZ ?_));all_goals first | (exfalso;omega) | exact ⟨.inl rfl,[0],_,rfl,by rw [hlp,hlq];rfl,rfl,⟨.inr (aC rfl rfl (by intro e he;rcases bL.1 he with he | he;exact i1 e he;exact i2 e he)),trivial⟩,by decide,jY _⟩
theorem O6 (l:List G) (hl:l.length≤1000000):aT Tryz.prog 58 [.rowE (kU l) 2] [] (.sl 0 0 l.length 2) [.arr (kU l) 2]:=by
  have hll:(kU l).length=l.length:=jW l;refine bU T Tryz.func58 rfl rfl rfl rfl ?_
  repeat' (first|refine wS ?_|refine wK ?_|refine wT ?_|refine wU ?_|(refine rg 0 (aV ?_))|(refine rg 1 (mV ?_);refine uG T rfl rfl rfl rfl fun b hb=>?_;cases b)|refine nZ ?_)
  · (repeat' (first|refine wR ?_|(refine rg 3 (cC (by exact bE T rfl rfl (by decide) (by decide) rfl rfl rfl) rfl ?_);refine mW rfl (fS T rfl rfl rfl rfl rfl rfl (by decide) (.row (rZ l)) (zE5 l) (by simp;omega) (by simp;omega) rfl ?_);refine aV ?_)|(refine nZ ?_)));exact ⟨.inl rfl,[1],_,rfl,(by show AV.sl 1 0 (0+(kU l).length) 2=AV.sl 1 0 l.length 2;simp),rfl,⟨.inr (aC rfl rfl (eN _)),trivial⟩,by decide,R9⟩
  · have hl0:l=[]:=fI.1 (Classical.byContradiction fun h=>by have:=hb (by omega);cases this)
    subst hl0
    (repeat' (first|refine wR ?_|(refine rg 2 (vV (dK rfl) (nY 2 2 rfl (by decide) ?_)))|refine nZ ?_));exact ⟨.inl rfl,[0],_,rfl,rfl,rfl,⟨.inr (aC rfl rfl (eN _)),trivial⟩,by decide,R9⟩
theorem zU3 (g:G) (b:Int) (h:g.1.length≤1000000):aT Tryz.prog 85 [XV g,.pr [.i b] 0] [] (.b (decide (b∈g.1))) []:=by
  have hc:=zF g.1 b (by omega)
  refine bU T Tryz.func85 rfl rfl rfl rfl ?_
  (repeat' (first|refine wS ?_|refine wR ?_|(refine rg 0 (cC (cO rfl rfl) rfl (aV ?_)))|(refine rg 1 (gI T rfl (lW T rfl (vV (kC (hc)) (aV ?_)))))|refine nZ ?_));all_goals first | (exfalso;omega) | exact rQ
theorem C5 (l:List G) (b:Int) (hl:l.length≤1000000) (hg:∀ g,g∈l→g.1.length≤1000000):aT Tryz.prog 61 [.rowE (kU l) 2,.i b] [] (.i (pK l b)) []:=by
  have hc:=zY9 (caps:=[.pr [.i b] 0]) (p:=fun g=>decide (b∈g.1)) hl rfl (fun x hx=>zU3 x b (hg x hx));have e:uR (fun g:G=>decide (b∈g.1)) l 0=pK l b:=by
    rw [GR];unfold pK;cases l.findIdx? fun g=>decide (b∈g.1) with
    | none=>rfl
    | some i=>simp
  rw [e] at hc;generalize pK l b=v at *;refine bU T Tryz.func61 rfl rfl rfl rfl ?_
  (repeat' (first|refine wS ?_|refine wR ?_|(refine rg 0 (cC (cO rfl rfl) rfl (aV ?_)))|(refine rg 1 (mW rfl (vV (by exact lG rfl rfl) ?_));refine vV (by exact fM rfl rfl hc (.cons (.row _ _ _) (.cons (.clo .nil (.cons (.ptr rfl (.cons (.v _) .nil)) .nil)) .nil)) rfl rfl) ?_;refine aV ?_)|refine nZ ?_));all_goals first | (exfalso;omega) | exact rQ
end Go.Proofs.YtmmmeebiobjnbaaGreat
namespace Go.Ld
open Go.Ab Go.Proofs.YtmmmeebiobjnbaaGreat
theorem NM {α β:Type}{f:α→List β}{n:Nat}:∀ (l:List α) (hf:∀ x,x∈l→(f x).length=n) (i j:Nat) (hi:i<l.length) (hj:j<n),(l.flatMap f)[n*i+j]? = (f l[i])[j]?
  | [],hf,i,j,hi,hj=>by simp at hi
  | x::l,hf,0,j,hi,hj=>by
    rw [bM,Nat.mul_zero,Nat.zero_add,aG (by rw [hf x aQ];exact hj)];rfl
  | x::l,hf,i+1,j,hi,hj=>by
    have h1:=hf x aQ;rw [bM,aE (by rw [h1,zL0];omega),h1,show n*(i+1)+j-n=n*i+j by rw [zL0];omega]
    exact NM l (fun x hx=>hf x (aJ _ hx)) i j (by simpa using hi) hj
theorem NL {α β:Type}{f:α→List β}{n:Nat}:∀ (l:List α) (hf:∀ x,x∈l→(f x).length=n),(l.flatMap f).length=n*l.length
  | [],hf=>by simp
  | x::l,hf=>by
    rw [bM,aF,hf x aQ,NL l (fun x hx=>hf x (aJ _ hx)),List.length_cons,zL0];omega
theorem FZ (a b:G) (l:List Int):(qC a b l).length=b.2.length*a.2.length:=NL _ fun x _=>aX _
theorem VS {a b:G}{l:List Int}{i j:Nat}(hi:i<a.2.length) (hj:j<b.2.length):(qC a b l)[b.2.length*i+j]? = some (H5 a b a.2[i] b.2[j] l):=by
  unfold qC;rw [NM _ (fun x _=>aX _) i j hi hj];simp [hj]
theorem F4:∀ (l:List Int) (v:Int) (k:Nat),v∈l→yR l v k=((k+l.idxOf v:Nat):Int)
  | [],v,k,h=>by cases h
  | x::l,v,k,h=>by
    unfold yR;by_cases e:v=x
    · rw [if_pos e,e,List.idxOf_cons_self];rfl
    · have e':(x::l).idxOf v=l.idxOf v+1:=by rw [List.idxOf_cons,beq_eq_false_iff_ne.2 (fun h=>e h.symm)];rfl
      rw [if_neg e,show ((k:Int)+1)=((k+1:Nat):Int) by omega,F4 l v (k+1) (by rcases bN.1 h with h | h;exact absurd h e;exact h),e']
      omega
theorem TQ:∀ (l:List Int) (v k:Int),v∉l→yR l v k = -1
  | [],v,k,h=>rfl
  | x::l,v,k,h=>by
    unfold yR;rw [if_neg (fun e:v=x=>h (by rw [e];exact aQ)),TQ l v (k+1) (fun q=>h (aJ _ q))]
def CD (a b:G) (l:List Int) (k:Nat):List AV:=match (qC a b l)[k]? with
  | some w=>[.agg (wA w)]
  | none=>[]
theorem ZW {a b:G}{l:List Int}{i j:Nat}(hi:i<a.2.length) (hj:j<b.2.length):CD a b l (b.2.length*i+j)=[.agg (wA (H5 a b a.2[i] b.2[j] l))]:=by
  unfold CD;rw [VS hi hj]
theorem LG {α β:Type}{f:α→β}{l:List α}{m:Nat}(h:m<l.length):(l.map f).take (m+1)=(l.map f).take m++[f l[m]]:=by
  rw [aP (by simpa using h)];simp
end Go.Ld
namespace Go.Proofs.YtmmmeebiobjnbaaGreat
open Go Go.Ab Go.Ld
attribute [local irreducible] VC AW cD aT AY VY EJ jE
set_option maxHeartbeats 4000000
abbrev yB5 (a b:G) (l:List Int):AV:=.clo (.func 123) [] [.pr (gA a) 0,.pr (gA b) 0,.pr [.rowE (ints l) 1] 0]
theorem zQ1 (a b:G) (l:List Int):aT Tryz.prog 82 [XV a,XV b,.rowE (ints l) 1] [] (yB5 a b l) []:=by
  refine K6 (res:=.clo (.func 123) [] [.ptr 0 0,.ptr 1 0,.ptr 2 0]) (hout:=[.cells (gA a),.cells (gA b),.cells [.rowE (ints l) 1]]) ?_ (.clo .nil (.cons (.ptr rfl (.cons (.row _ _ _) (.cons (.row _ _ _) .nil))) (.cons (.ptr rfl (.cons (.row _ _ _) (.cons (.row _ _ _) .nil))) (.cons (.ptr rfl (.cons (.row _ _ _) .nil)) .nil))));refine bU T Tryz.func82 rfl rfl rfl rfl ?_
  (repeat' (first|refine wS ?_|refine wR ?_|(refine rg 0 (cC (cO rfl rfl) rfl (cC (cO rfl rfl) rfl (cC (cO rfl rfl) rfl (aV ?_)))))|(refine rg 1 (vV (by exact lG rfl rfl) ?_);refine aV ?_)|refine nZ ?_));all_goals exact ⟨.inl rfl,[0,1,2],_,rfl,rfl,rfl,⟨.inr rfl,.inr rfl,.inr rfl,trivial⟩,by decide,jY _⟩
theorem zA2 (a b:G) (l:List Int) (sa:yG6 a) (sb:yG6 b) (hl:l.length≤1000) (hm:∀ k,k∈l→k∈a.1∨k∈b.1) (h1:∀ w,w∈a.2→0≤w.2.1∧w.2.1≤4000000) (h2:∀ w,w∈b.2→0≤w.2.1∧w.2.1≤4000000) :
    EJ Tryz.prog 123 [] [.pr (gA a) 0,.pr (gA b) 0,.pr [.rowE (ints l) 1] 0] [] (CD a b l) (qC a b l).length:=by
  have hnn:=FZ a b l;have hla:(gM a.2).length=a.2.length:=fR _;have hlb:(gM b.2).length=b.2.length:=fR _;have hll:(ints l).length=l.length:=cY _;have hwa:=sa.w;have hwb:=sb.w;refine zZ5 T Tryz.func123 rfl rfl rfl rfl ?_;intro J A y hJ hy
  (repeat' (first|(first|(refine zI ?_)|(refine D1 ?_))|(((refine rU hJ (eW (id:=0) ?_)));(all_goals (refine JF T ?_;(refine qV T ?_);refine mV ?_)))|refine nZ ?_));refine JV (X:={i:Nat // i≤a.2.length}) (fun i=>[(0,.clo (.yield y) [] []),(1,.pr (gA a) 0),(2,.pr (gA b) 0),(3,.pr [.rowE (ints l) 1] 0),(15,.rowE (gM a.2) 3),(16,.i (gM a.2).length),(17,.i i.1)]) (fun _=>[]) (fun i=>(b.2.length*i.1,false)) (fun i=>a.2.length-i.1) ⟨0,bW _⟩ rfl (gH []) ?_
  rintro ⟨i,hi⟩;dsimp only;by_cases hlt:i<a.2.length
  · have ga:=D9 hlt;have hx:=sa.p _ (aM hlt);have hx2:=sa.c _ (aM hlt);have hx3:=h1 _ (aM hlt);have hpi:=fun (j:Nat) (hj:j<b.2.length)=>ZW (a:=a) (b:=b) (l:=l) hlt hj;generalize a.2[i]=x at *
    (repeat' (first|(first|(refine zI ?_)|(refine D1 ?_)|(refine AS ?_))|((refine zJ rfl (fun hb=>?_) (fun hb=>?_)<;>(((try simp only [nm] at hb);try ((exfalso;omega);done)))))|(((refine rU hJ (eW (id:=1) ?_)));(all_goals (refine vV (aL rfl rfl) ?_)))|(((refine rU hJ (eW (id:=2) ?_)));(all_goals (refine vV (ix T rfl (by omega) (pZ _) ga) ?_;refine lV T ?_;refine cC (cM T rfl) rfl ?_;refine bD T rfl rfl rfl rfl rfl rfl (by decide) rfl ?_)))|(((refine rU hJ (eW (id:=3) ?_)));(all_goals (refine JF T ?_;(refine qV T ?_);refine mV ?_)))|refine nZ ?_));all_goals try (exfalso;omega)
    refine JV (X:={j:Nat // j≤b.2.length}) (fun j=>[(0,.clo (.yield y) [] []),(1,.pr (gA a) 0),(2,.pr (gA b) 0),(3,.pr [.rowE (ints l) 1] 0),(6,.ptr 0 0),(15,.rowE (gM a.2) 3),(16,.i (gM a.2).length),(17,.i i),(22,.rowE (gM b.2) 3),(23,.i (gM b.2).length),(24,.i j.1)]) (fun _=>[.cells (wA x)]) (fun j=>(b.2.length*i+j.1,false)) (fun j=>b.2.length-j.1) ⟨0,bW _⟩ rfl ⟨[0],rfl,(by repeat first|exact trivial|refine ⟨rfl,?_⟩),⟨.inr rfl,trivial⟩,by decide,jY _⟩ ?_
    rintro ⟨j,hj⟩;dsimp only;by_cases hjl:j<b.2.length
    · have gb:=D9 hjl;have hy1:=sb.p _ (aM hjl);have hy2:=sb.c _ (aM hjl);have hy3:=h2 _ (aM hjl);have hit:=hpi j hjl;have hk:b.2.length*i+j<(qC a b l).length:=by
        rw [hnn];have:=SB b.2.length (show i+1≤a.2.length by omega)
        rw [zL0] at this;omega
      generalize b.2[j]=z at *
      (repeat' (first|(first|(refine zI ?_)|(refine D1 ?_)|(refine AS ?_))|((refine zJ rfl (fun hb=>?_) (fun hb=>?_)<;>(((try simp only [nm] at hb);try ((exfalso;omega);done)))))|(((refine rU hJ (eW (id:=4) ?_)));(all_goals (refine vV (aL rfl rfl) ?_)))|(((refine rU hJ (eW (id:=5) ?_)));(all_goals (refine vV (ix T rfl (by omega) (pZ _) gb) ?_;refine lV T ?_;refine cC (cM T rfl) rfl ?_;refine bD T rfl rfl rfl rfl rfl rfl (by decide) rfl ?_)))|(((refine rU hJ (eW (id:=6) ?_)));(all_goals (refine JF T ?_;refine JF T ?_;refine vV (cE rfl rfl (by omega) (by omega)) ?_;refine vV (by exact eO T rfl rfl rfl rfl) ?_;refine cC (cM T rfl) rfl ?_;refine bD T rfl rfl rfl rfl rfl rfl (by decide) rfl ?_)))|(((refine rU hJ (eW (id:=7) ?_)));(all_goals (refine lV T ?_;(refine qV T ?_);refine mV ?_)))|refine nZ ?_));all_goals try (exfalso;omega)
      refine rU hJ ?_;refine oN 2 0 1 rfl rfl (by decide) ?_
      refine oN 2 2 2 rfl rfl (by decide) ?_
      let fp:Int→Int:=fun k=>if k∈a.1 then gP x (a.1.idxOf k) else gP z (b.1.idxOf k)
      let fc:Int→SP:=fun k=>if k∈a.1 then gC x (a.1.idxOf k) else gC z (b.1.idxOf k)
      have hw:H5 a b x z l=(l.map fp,x.2.1+z.2.1,l.map fc):=rfl;rw [hw] at hit;have hplen:(l.map fp).length=l.length:=aX _;have hclen:(l.map fc).length=l.length:=aX _;have hpt:∀ m (h:m<l.length),(l.map fp).take (m+1)=(l.map fp).take m++[fp l[m]]:=fun m h=>LG h
      have hct:∀ m (h:m<l.length),(l.map fc).take (m+1)=(l.map fc).take m++[fc l[m]]:=fun m h=>LG h
      have hfa:∀ k,k∈a.1→fp k=x.1.getD (a.1.idxOf k) 0∧fc k=x.2.2.getD (a.1.idxOf k) (0,0):=fun k h=>⟨if_pos h,if_pos h⟩
      have hfb:∀ k,k∉a.1→fp k=z.1.getD (b.1.idxOf k) 0∧fc k=z.2.2.getD (b.1.idxOf k) (0,0):=fun k h=>⟨if_neg h,if_neg h⟩
      clear_value fp fc
      clear hw;generalize l.map fp=PP at *;generalize l.map fc=CC at *;refine dA (X:={m:Nat // m≤l.length}) (fun m=>[(0,.clo (.yield y) [] []),(1,.pr (gA a) 0),(2,.pr (gA b) 0),(3,.pr [.rowE (ints l) 1] 0),(6,.ptr 0 0),(8,.ptr 1 0),(9,.ptr 2 0),(15,.rowE (gM a.2) 3),(16,.i (gM a.2).length),(17,.i i),(22,.rowE (gM b.2) 3),(23,.i (gM b.2).length),(24,.i j),(34,.rowE (ints l) 1),(35,.i (ints l).length),(36,.i m.1)])
        (fun m=>[.cells (wA x),.cells (wA z),.cells [.sl 3 0 m.1 1,.i (x.2.1+z.2.1),.sl 4 0 m.1 2],.arr (ints (PP.take m.1)) 1,.arr (fY (CC.take m.1)) 2]) (fun m=>l.length-m.1) ⟨0,bW _⟩ ⟨[0,1,2,3,4],rfl,(by repeat first|exact trivial|refine ⟨rfl,?_⟩),⟨.inr rfl,.inr rfl,.inr rfl,.inr rfl,.inr rfl,trivial⟩,by decide,jY _⟩ ?_
      rintro ⟨m,hm'⟩;dsimp only;have hTp:(ints (PP.take m)).length=m:=by rw [cY,bH];omega
      have hTc:(fY (CC.take m)).length=m:=by rw [iP,bH];omega
      by_cases hml:m<l.length
      · have hgl:=TJ hml;have hkm:=hm l[m] (aM hml);have hp1:=hpt m hml;have hc1:=hct m hml;generalize l[m]=k at *;by_cases hka:k∈a.1
        · obtain ⟨e1,e2⟩:=hfa k hka;have hix:=yK a.1 k (by have:=sa.b;omega)
          have hxi:yR a.1 k 0=((a.1.idxOf k:Nat):Int):=by have:=F4 a.1 k 0 hka;simpa using this
          rw [hxi] at hix;have hio:=hC hka;generalize a.1.idxOf k=ia at *;have qp:=sK (l:=x.1) (j:=(ia:Int)) (i:=ia) 0 (by omega) rfl
          have qc:=wY (l:=x.2.2) (j:=(ia:Int)) (i:=ia) (by omega) rfl
          have hlp:(ints x.1).length=x.1.length:=cY _;have hlc:(fY x.2.2).length=x.2.2.length:=iP _;rw [← e1] at qp;rw [← e2] at qc;have hPs:ints (PP.take (m+1))=ints (PP.take m)++[[AV.i (fp k)]]:=by rw [hp1,T1]
          have hCs:fY (CC.take (m+1))=fY (CC.take m)++[[AV.i (fc k).1,AV.i (fc k).2]]:=by rw [hc1,fY,bT];rfl
          generalize ints (PP.take m)=P0 at *;generalize fY (CC.take m)=C0 at *;generalize fp k=vp at *;generalize fc k=vc at *
          (repeat' (first|refine wS ?_|refine wB ?_|refine wK ?_|refine wU ?_|(refine wC rfl ?_ ?_<;>(intro hb;(try simp only [nm] at hb);try (exfalso;omega)))|(refine rg 8 (vV (aL rfl rfl) ?_))|(refine rg 9 (vV (ix T rfl (by omega) (dR _) hgl) (lW T rfl (aV ?_))))|(refine rK (id:=10) 6 79 [[],[],[1],[],[1,2,3],[],rN 6,rN 7] [[],[],[1],[],[1,2,3],[]] [40,41,42,43,44,12] [[],[40],[40],[40,41,42],[40],rM 40 5] cK rfl (by decide +kernel) (by decide +kernel) ?_;(dsimp only [List.take,List.drop]);refine dO T rfl (dP T rfl (dO T rfl (dN rfl (dV rfl (kC (hix)) (xO rfl rfl rfl (by exact cM T rfl) rfl ?_)))));refine DJ rfl rfl (by ((dsimp only [List.nil_append,List.cons_append,List.append_nil,List.length_cons,List.length_nil,List.set_cons_zero,List.set_cons_succ,List.map_cons,List.map_nil,kV,nA,nE,tK,PJ,I6,BF,BD,BC,BE,I5,I8,I4,I7,Nat.zero_add,Nat.add_zero,Nat.reduceAdd,Bool.not_true,Bool.not_false];done))) ?_;refine iM ?_;refine bD T rfl rfl rfl rfl rfl rfl (by decide) rfl (aV ?_))|(refine rg 11 (mW rfl (vV (aL rfl rfl) ?_)))|(refine lZ (id:=13) 79 yV6 (rM 52 19) yV7 [(8,3),(17,4),(19,2)] cK rfl (by decide +kernel) (cH rfl rfl rfl rfl (by exact bI T rfl rfl rfl) ?_);refine cH rfl rfl rfl rfl (by exact aK T rfl rfl rfl rfl) ?_;refine cH rfl rfl rfl rfl (by exact bI T rfl rfl rfl) ?_;refine cH rfl rfl rfl rfl (by exact aK T rfl rfl rfl rfl) ?_;refine cH rfl rfl rfl rfl (by exact bR rfl) ?_;refine cH rfl rfl rfl rfl (by exact ix T rfl (by omega) (dR _) qp) ?_;refine cH rfl rfl rfl rfl (by exact aK T rfl rfl rfl rfl) ?_;refine vR rfl rfl rfl rfl (by exact bE T rfl rfl (by decide) (by decide) rfl rfl rfl) rfl ?_;refine mR rfl rfl rfl rfl (aH rfl) (by exact mA T rfl rfl rfl rfl rfl rfl (by omega) (iK.whole rfl rfl) rfl (by simp;omega) (by simp;omega)) ?_;refine cH rfl rfl rfl rfl (by exact bI T rfl rfl rfl) ?_;refine cH rfl rfl rfl rfl (by exact aK T rfl rfl rfl rfl) ?_;refine cH rfl rfl rfl rfl (by exact bI T rfl rfl rfl) ?_;refine cH rfl rfl rfl rfl (by exact aK T rfl rfl rfl rfl) ?_;refine cH rfl rfl rfl rfl (by exact bR rfl) ?_;refine cH rfl rfl rfl rfl (by exact ix T rfl (by omega) (lU _) qc) ?_;refine cH rfl rfl rfl rfl (by exact aK T rfl rfl rfl rfl) ?_;refine vR rfl rfl rfl rfl (by exact bE T rfl rfl (by decide) (by decide) rfl rfl rfl) rfl ?_;refine mR rfl rfl rfl rfl (aH rfl) (by exact mA T rfl rfl rfl rfl rfl rfl (by omega) (iK.whole rfl rfl) rfl (by simp;omega) (by simp;omega)) ?_;refine cH rfl rfl rfl rfl (by exact bI T rfl rfl rfl) ?_;refine wM rfl rfl rfl rfl (aH rfl) T rfl rfl rfl rfl rfl rfl (by decide) rfl ?_;refine pU rfl rfl rfl (by exact rfl) ?_;refine fW T rfl (bD T rfl rfl rfl rfl rfl rfl (by decide) rfl ?_))|(refine rg 14 (vV (cE rfl rfl (by omega) (by omega)) (mV ?_)))|refine nZ ?_));all_goals try (exfalso;omega)
          exact ⟨⟨m+1,hml⟩,by dsimp only;omega,⟨[0,1,2,7,9],rfl,(by repeat first|exact trivial|refine ⟨rfl,?_⟩),⟨.inr rfl,.inr rfl,.inr rfl,.inr (aC rfl (by dsimp only;rw [hPs];exact jF hTp.symm) (bJ _)),.inr (aC rfl (by dsimp only;rw [hCs];exact jF hTc.symm) (fL _)),trivial⟩,by decide,jY _⟩⟩
        · obtain ⟨e1,e2⟩:=hfb k hka;have hkb:k∈b.1:=hkm.resolve_left hka;have hix:=yK a.1 k (by have:=sa.b;omega)
          have hiy:=yK b.1 k (by have:=sb.b;omega)
          have hyi:yR b.1 k 0=((b.1.idxOf k:Nat):Int):=by have:=F4 b.1 k 0 hkb;simpa using this
          rw [TQ _ _ _ hka] at hix;rw [hyi] at hiy;have hio:=hC hkb;generalize b.1.idxOf k=ia at *;have qp:=sK (l:=z.1) (j:=(ia:Int)) (i:=ia) 0 (by omega) rfl
          have qc:=wY (l:=z.2.2) (j:=(ia:Int)) (i:=ia) (by omega) rfl
          have hlp:(ints z.1).length=z.1.length:=cY _;have hlc:(fY z.2.2).length=z.2.2.length:=iP _;rw [← e1] at qp;rw [← e2] at qc;have hPs:ints (PP.take (m+1))=ints (PP.take m)++[[AV.i (fp k)]]:=by rw [hp1,T1]
          have hCs:fY (CC.take (m+1))=fY (CC.take m)++[[AV.i (fc k).1,AV.i (fc k).2]]:=by rw [hc1,fY,bT];rfl
          generalize ints (PP.take m)=P0 at *;generalize fY (CC.take m)=C0 at *;generalize fp k=vp at *;generalize fc k=vc at *
          (repeat' (first|refine wS ?_|refine wB ?_|refine wK ?_|refine wT ?_|(refine wC rfl ?_ ?_<;>(intro hb;(try simp only [nm] at hb);try (exfalso;omega)))|(refine rg 8 (vV (aL rfl rfl) ?_))|(refine rg 9 (vV (ix T rfl (by omega) (dR _) hgl) (lW T rfl (aV ?_))))|(refine rK (id:=10) 6 79 [[],[],[1],[],[1,2,3],[],rN 6,rN 7] [[],[],[1],[],[1,2,3],[]] [40,41,42,43,44,12] [[],[40],[40],[40,41,42],[40],rM 40 5] cK rfl (by decide +kernel) (by decide +kernel) ?_;(dsimp only [List.take,List.drop]);refine dO T rfl (dP T rfl (dO T rfl (dN rfl (dV rfl (kC (hix)) (xO rfl rfl rfl (by exact cM T rfl) rfl ?_)))));refine DJ rfl rfl (by ((dsimp only [List.nil_append,List.cons_append,List.append_nil,List.length_cons,List.length_nil,List.set_cons_zero,List.set_cons_succ,List.map_cons,List.map_nil,kV,nA,nE,tK,PJ,I6,BF,BD,BC,BE,I5,I8,I4,I7,Nat.zero_add,Nat.add_zero,Nat.reduceAdd,Bool.not_true,Bool.not_false];done))) ?_;refine iM ?_;refine bD T rfl rfl rfl rfl rfl rfl (by decide) rfl (aV ?_))|(refine rg 11 (mW rfl (vV (aL rfl rfl) ?_)))|(refine nQ (id:=12) 79 [[],[],[1],[],[1,2,3],rN 5] (rM 47 5) [[],[47],[47],[47,48,49],[47],[]] [(5,5)] cK rfl (by decide +kernel) (cP rfl rfl rfl rfl (by exact aK T rfl rfl rfl rfl) ?_);refine cP rfl rfl rfl rfl (by exact bI T rfl rfl rfl) ?_;refine cP rfl rfl rfl rfl (by exact aK T rfl rfl rfl rfl) ?_;refine cP rfl rfl rfl rfl (by exact bR rfl) ?_;refine cP rfl rfl rfl rfl (by exact kC (hiy)) ?_;refine wL rfl rfl rfl rfl (aH rfl) T rfl rfl rfl rfl rfl rfl (by decide) rfl ?_;refine sO rfl rfl rfl (by exact rfl) ?_;refine aV ?_)|(refine lZ (id:=13) 79 yV6 (rM 52 19) yV7 [(8,3),(17,4),(19,2)] cK rfl (by decide +kernel) (cH rfl rfl rfl rfl (by exact bI T rfl rfl rfl) ?_);refine cH rfl rfl rfl rfl (by exact aK T rfl rfl rfl rfl) ?_;refine cH rfl rfl rfl rfl (by exact bI T rfl rfl rfl) ?_;refine cH rfl rfl rfl rfl (by exact aK T rfl rfl rfl rfl) ?_;refine cH rfl rfl rfl rfl (by exact bR rfl) ?_;refine cH rfl rfl rfl rfl (by exact ix T rfl (by omega) (dR _) qp) ?_;refine cH rfl rfl rfl rfl (by exact aK T rfl rfl rfl rfl) ?_;refine vR rfl rfl rfl rfl (by exact bE T rfl rfl (by decide) (by decide) rfl rfl rfl) rfl ?_;refine mR rfl rfl rfl rfl (aH rfl) (by exact mA T rfl rfl rfl rfl rfl rfl (by omega) (iK.whole rfl rfl) rfl (by simp;omega) (by simp;omega)) ?_;refine cH rfl rfl rfl rfl (by exact bI T rfl rfl rfl) ?_;refine cH rfl rfl rfl rfl (by exact aK T rfl rfl rfl rfl) ?_;refine cH rfl rfl rfl rfl (by exact bI T rfl rfl rfl) ?_;refine cH rfl rfl rfl rfl (by exact aK T rfl rfl rfl rfl) ?_;refine cH rfl rfl rfl rfl (by exact bR rfl) ?_;refine cH rfl rfl rfl rfl (by exact ix T rfl (by omega) (lU _) qc) ?_;refine cH rfl rfl rfl rfl (by exact aK T rfl rfl rfl rfl) ?_;refine vR rfl rfl rfl rfl (by exact bE T rfl rfl (by decide) (by decide) rfl rfl rfl) rfl ?_;refine mR rfl rfl rfl rfl (aH rfl) (by exact mA T rfl rfl rfl rfl rfl rfl (by omega) (iK.whole rfl rfl) rfl (by simp;omega) (by simp;omega)) ?_;refine cH rfl rfl rfl rfl (by exact bI T rfl rfl rfl) ?_;refine wM rfl rfl rfl rfl (aH rfl) T rfl rfl rfl rfl rfl rfl (by decide) rfl ?_;refine pU rfl rfl rfl (by exact rfl) ?_;refine fW T rfl (bD T rfl rfl rfl rfl rfl rfl (by decide) rfl ?_))|(refine rg 14 (vV (cE rfl rfl (by omega) (by omega)) (mV ?_)))|refine nZ ?_));all_goals try (exfalso;omega)
          exact ⟨⟨m+1,hml⟩,by dsimp only;omega,⟨[0,1,2,7,9],rfl,(by repeat first|exact trivial|refine ⟨rfl,?_⟩),⟨.inr rfl,.inr rfl,.inr rfl,.inr (aC rfl (by dsimp only;rw [hPs];exact jF hTp.symm) (bJ _)),.inr (aC rfl (by dsimp only;rw [hCs];exact jF hTc.symm) (fL _)),trivial⟩,by decide,jY _⟩⟩
      · obtain rfl:m=l.length:=by omega
        rw [show PP.take l.length=PP by rw [← hplen,cQ],show CC.take l.length=CC by rw [← hclen,cQ]]
        refine nN 2 0 rfl rfl rfl (by rw [cY,hplen]) (gV (bJ _)) ?_
        refine nN 2 2 rfl rfl rfl (by rw [iP,hclen]) (gV (fL _)) ?_
        (repeat' (first|refine wS ?_|refine wE ?_|(refine wC rfl ?_ ?_<;>(intro hb;(try simp only [nm] at hb);try (exfalso;omega)))|(refine rg 8 (vV (aL rfl rfl) ?_))|refine nZ ?_));all_goals try (exfalso;omega)
        show AY _ _ _ _ _ _ _ _ _
        (repeat' (first|(first|(refine zI ?_)|(refine AS ?_)|(refine zH6 ?_))|((refine zJ rfl (fun hb=>?_) (fun hb=>?_)<;>(((try simp only [nm] at hb);try ((exfalso;omega);done)))))|(((refine HH (id:=15) ?_));((refine XZ 2 hJ ?_));(dsimp only [List.take,List.drop]);(all_goals (refine mV ?_;refine lV T ?_;refine iM ?_;refine KX hJ hy rfl rfl rfl hk hit rfl ?_));(all_goals (intro yes));(all_goals (refine zY0 hJ ?_;refine vV (eH rfl) ?_;refine AC (by ((dsimp only [List.nil_append,List.cons_append,List.append_nil,List.length_cons,List.length_nil,List.set_cons_zero,List.set_cons_succ,List.map_cons,List.map_nil,kV,nA,nE,tK,PJ,I6,BF,BD,BC,BE,I5,I8,I4,I7,Nat.zero_add,Nat.add_zero,Nat.reduceAdd,Bool.not_true,Bool.not_false];done))) ?_)))|(((refine rU hJ (eW (id:=16) ?_)));(all_goals (refine vV (cE rfl rfl (by omega) (by omega)) ?_;refine mV ?_)))|refine nZ ?_));all_goals first | (exfalso;omega) | skip
        · exact ⟨.inl rfl,fun h=>(by first | (subst hb;cases h) | (cases h;done)),[],rfl⟩
        · obtain rfl:=hb;exact ⟨⟨j+1,hjl⟩,by dsimp only;omega,rfl,⟨[0],rfl,(by repeat first|exact trivial|refine ⟨rfl,?_⟩),⟨.inr rfl,trivial⟩,by decide,jY _⟩⟩
    · obtain rfl:j=b.2.length:=by omega
      (repeat' (first|(first|(refine zI ?_)|(refine JW ?_))|((refine zJ rfl (fun hb=>?_) (fun hb=>?_)<;>(((try simp only [nm] at hb);try ((exfalso;omega);done)))))|(((refine rU hJ (eW (id:=4) ?_)));(all_goals (refine vV (aL rfl rfl) ?_)))|(((refine rU hJ (eW (id:=17) ?_)));(all_goals (refine vV (cE rfl rfl (by omega) (by omega)) ?_;refine mV ?_)))|refine nZ ?_));all_goals first | (exfalso;omega) | skip
      exact ⟨⟨i+1,hlt⟩,by dsimp only;omega,rfl,gH []⟩
  · obtain rfl:i=a.2.length:=by omega
    (repeat' (first|(first|(refine zI ?_)|(refine JW ?_))|((refine zJ rfl (fun hb=>?_) (fun hb=>?_)<;>(((try simp only [nm] at hb);try ((exfalso;omega);done)))))|(((refine rU hJ (eW (id:=1) ?_)));(all_goals (refine vV (aL rfl rfl) ?_)))|refine nZ ?_));all_goals first | (exfalso;omega) | skip
    exact ⟨.inr rfl,fun _=>by rw [hnn],[],rfl⟩
end Go.Proofs.YtmmmeebiobjnbaaGreat
namespace Go.Ab
open Go
theorem tT {P:Program}{env:eE}{h:Hp}{d:Option Nat}{ty:TypeId}{pos:String}{af:Array Edge}{g:Option (Nat × Bool)}(T:oQ P){t e sz:Nat}{es:List (List AV)}{c:List AV}{i:TI}{x y:Operand}{kk:IntKind}{j:Int}(hx:evu env x=some (.rowE es sz)) (hy:evu env y=some (.v (.int kk j))) (ha:T.elem t=some e) (he:T.ti e=some i) (hs:i.size=sz) (h0:0≤j) (hl:∀ e,e∈es→e.length=sz) (hc:es[j.toNat]? = some c) :
    zK8 P ⟨d,.indexAddr t x y,ty,pos,af,g⟩ env h (.pr c 0):=by
  intro ρ S a w p;have h1:j<es.length:=by have:=(aB.1 hc).1;omega
  have h2:=p.evu hx;simp only [R] at h2;obtain ⟨ad,cap,h3,_,_,_,_,h4⟩:=h2;rcases h4 with h4 | ⟨b,o,ys,h5,h6,h7,h8⟩
  · omega
  have h9:=vB (p.evu hy);subst h5;refine ⟨.pointer (some ⟨b,o+j.toNat*sz,none⟩),fun w'=>by simp [execOp,h3,h9,Instr.indexAt,asIntOf,run_underlying (T.elemOk _ _ ha),h0,h1,T.sizeOf he,Addr.add_lit,hs],SX hl hc ?_⟩
  simp only [R];exact ⟨b,o,ys,rfl,h6,h7,h8⟩
end Go.Ab
namespace Go.Ld
open Go.Ab Go.Proofs.YtmmmeebiobjnbaaGreat
theorem jC {l:List G}{b:Int}(h:∃ g,g∈l∧b∈g.1):∃ (i:Nat) (g:G),pK l b=(i:Int)∧l[i]? = some g∧b∈g.1:=by
  obtain ⟨g,hg,hb⟩:=h;unfold pK;cases hf:l.findIdx? fun g=>decide (b∈g.1) with
  | none=>have:=List.findIdx?_eq_none_iff.1 hf g hg;simp at this;exact absurd hb this
  | some i=>
    obtain ⟨h1,h2,_⟩:=List.findIdx?_eq_some_iff_getElem.1 hf;exact ⟨i,l[i],rfl,aA h1,by simpa using h2⟩
theorem uJ (l:List Int):jD l=eJ cI l:=
  J0 rI (Go.Pm.sorted_perm l) ((Go.Pm.sorted_up l).imp fun {a b} h=>by unfold cI;split <;> (try split) <;> omega)
theorem VP {a b:G}{l:List Int}{k:Nat}{w:W}(h:(qC a b l)[k]? = some w):CD a b l k=[.agg (wA w)]:=by unfold CD;rw [h]
end Go.Ld
namespace Go.Proofs.YtmmmeebiobjnbaaGreat
open Go Go.Ab Go.Ld
attribute [local irreducible] VC AW cD aT AY VY EJ jE
set_option maxHeartbeats 4000000
theorem yN5:∀ i:Nat,i<1→([0,4]:List Nat)[i]? = some i:=by decide
theorem zR8 {n:Nat}(l:List G) (a b:Int) (ok:oG n l) (ha:∃ g,g∈l∧a∈g.1) (hb:∃ g,g∈l∧b∈g.1) (hs:pK l a=pK l b):aT Tryz.prog 60 [.sl 0 0 l.length 2,.i a,.i b] [.arr (kU l) 2] (.tup [.sl 0 0 l.length 2,.i 0]) [.arr (kU l) 2]:=by
  have hl12:l.length≤12:=bG ok.len ok.ln;have hgl:∀ g,g∈l→g.1.length≤1000000:=fun g hg=>by have:=(ok.ok g hg).ln;omega
  have f1:=C5 l a (by omega) hgl
  have f2:=C5 l b (by omega) hgl
  obtain ⟨i,x,e1,hx,hax⟩:=jC ha;obtain ⟨k,y,e2,hy,hby⟩:=jC hb;rw [e1] at f1;rw [e2] at f2;have hil:=(aB.1 hx).1;have hkl:=(aB.1 hy).1;have hll:(kU l).length=l.length:=jW _;have qx:(kU l)[(i:Int).toNat]? = some (gA x):=by rw [bP,bY,hx];rfl
  have qy:(kU l)[(k:Int).toNat]? = some (gA y):=by rw [bP,bY,hy];rfl
  have ax:mK l (i:Int).toNat=x:=by unfold mK;rw [bP,aD,hx];rfl
  have ay:mK l (k:Int).toNat=y:=by unfold mK;rw [bP,aD,hy];rfl
  have hik:i=k:=by omega
  subst hik;have hvw:oF [.arr (kU l) 2] (.sl 0 0 l.length 2) (.rowE (kU l) 2):=nP rfl hll.symm (pG (fun _=>rfl) _);refine bU T Tryz.func60 rfl rfl rfl rfl ?_
  (repeat' (first|refine wS ?_|refine wR ?_|refine wT ?_|(refine rg 0 (sG ?_))|(refine rg 1 (dI rfl (vV (by exact fM rfl rfl f1 (.cons hvw (.cons (.v _) .nil)) rfl rfl) ?_));refine dI rfl (vV (by exact fM rfl rfl f2 (.cons hvw (.cons (.v _) .nil)) rfl rfl) ?_);refine sG ?_)|(refine rg 2 (dI rfl (vV (lE rfl rfl rfl) ?_)))|(refine rg 3 (mW rfl (sG ?_)))|refine nZ ?_));all_goals first | (exfalso;omega) | exact ⟨.inl rfl,[0],_,rfl,rfl,rfl,⟨.inr (aC rfl rfl (eN _)),trivial⟩,by decide,IV⟩
theorem zS0 {n:Nat}(l:List G) (a b:Int) (ok:oG n l) (ha:∃ g,g∈l∧a∈g.1) (hb:∃ g,g∈l∧b∈g.1) (hj:join l a b=none):aT Tryz.prog 60 [.rowE (kU l) 2,.i a,.i b] [] (.tup [.nils,.i 6]) []:=by
  have hl12:l.length≤12:=bG ok.len ok.ln;have hgl:∀ g,g∈l→g.1.length≤1000000:=fun g hg=>by have:=(ok.ok g hg).ln;omega
  have f1:=C5 l a (by omega) hgl
  have f2:=C5 l b (by omega) hgl
  obtain ⟨i,x,e1,hx,hax⟩:=jC ha;obtain ⟨k,y,e2,hy,hby⟩:=jC hb;rw [e1] at f1;rw [e2] at f2;have hil:=(aB.1 hx).1;have hkl:=(aB.1 hy).1;have hll:(kU l).length=l.length:=jW _;have qx:(kU l)[(i:Int).toNat]? = some (gA x):=by rw [bP,bY,hx];rfl
  have qy:(kU l)[(k:Int).toNat]? = some (gA y):=by rw [bP,bY,hy];rfl
  have ax:mK l (i:Int).toNat=x:=by unfold mK;rw [bP,aD,hx];rfl
  have ay:mK l (k:Int).toNat=y:=by unfold mK;rw [bP,aD,hy];rfl
  unfold join at hj;dsimp only at hj;rw [e1,e2,ax,ay] at hj;clear ha hb;have hik:i≠k:=fun q=>by subst q;rw [if_pos rfl] at hj;cases hj
  rw [if_neg (by omega)] at hj
  have hf:6<x.1.length+y.1.length∨1000<x.2.length*y.2.length:=by
    by_cases hf:6<x.1.length+y.1.length∨1000<x.2.length*y.2.length
    · exact hf
    · rw [if_neg hf] at hj;cases hj
  clear hj;have xo:=ok.ok x (aO hx);have yo:=ok.ok y (aO hy);have xw:=ok.ws x (aO hx);have yw:=ok.ws y (aO hy);have xl:=xo.ln;have yl:=yo.ln;have xp:=fD.2 xo.ne;have yp:=fD.2 yo.ne;have sx:=xo.sz xw;have sy:=yo.sz yw;have l1:(ints x.1).length=x.1.length:=cY _;have l2:(ints y.1).length=y.1.length:=cY _;have l3:(gM x.2).length=x.2.length:=fR _;have l4:(gM y.2).length=y.2.length:=fR _;have hmx:x.2.length*y.2.length≤2000*2000:=OS xw yw;have hml:((x.2.length:Int)*y.2.length)=((x.2.length*y.2.length:Nat):Int):=by push_cast;rfl
  obtain ⟨bx,wx⟩:=x;obtain ⟨by_,wy⟩:=y;have hmI:(((gM wx).length:Nat):Int)*((gM wy).length:Nat)=((wx.length*wy.length:Nat):Int):=by rw [fR,fR];push_cast;rfl
  dsimp only at *;refine bU T Tryz.func60 rfl rfl rfl rfl ?_
  (repeat' (first|refine wS ?_|refine wK ?_|refine wU ?_|(refine rg 0 (sG ?_))|(refine rg 1 (dI rfl (vV (kC (f1)) (dI rfl (vV (kC (f2)) (sG ?_))))))|(refine rg 2 (dI rfl (vV (iE rfl rfl (by omega)) ?_)))|refine nZ ?_));refine zI1 [(0,.rowE (kU l) 2),(8,.i i),(9,.i k),(10,.ptr 0 0),(11,.ptr 1 0)] [.cells [.rowE (ints bx) 1,.rowE (gM wx) 3],.cells [.rowE (ints by_) 1,.rowE (gM wy) 3]] ?_ ?_
  · refine OH (id:=4) cK ?_;refine zS 0 rfl rfl (by decide +kernel) (by decide +kernel) (by decide +kernel) (by exact vH rfl) rfl ?_
    refine zS 1 rfl rfl (by decide +kernel) (by decide +kernel) (by decide +kernel) (by exact vH rfl) rfl ?_
    refine zS 2 rfl rfl (by decide +kernel) (by decide +kernel) (by decide +kernel) (by exact tT T rfl rfl rfl rfl rfl (by omega) (rZ _) qx) rfl ?_
    refine zS 4 rfl rfl (by decide +kernel) (by decide +kernel) (by decide +kernel) (by exact vH rfl) rfl ?_
    refine zS 5 rfl rfl (by decide +kernel) (by decide +kernel) (by decide +kernel) (by exact vH rfl) rfl ?_
    refine zS 6 rfl rfl (by decide +kernel) (by decide +kernel) (by decide +kernel) (by exact tT T rfl rfl rfl rfl rfl (by omega) (rZ _) qy) rfl ?_
    refine UL [(0,[]),(1,[]),(2,[0,1]),(3,[2]),(4,[]),(5,[]),(6,[4,5]),(7,[6]),(8,[]),(9,[]),(10,[8,3,0,1,2,3,8,9]),(11,[9,7,10,0,1,2,3,4,5,6,7,8,9,10])] (by decide +kernel) [true,true,true,false,true,true,true,false,false,false,false,false] rfl rfl ?_
    (repeat' (first|(refine zJ3 rfl rfl ?_;(first|(refine lV T ?_)|(refine cC (cM T rfl) rfl ?_)|(refine bD T rfl rfl rfl rfl rfl rfl (by decide) rfl ?_));refine iM ?_;dsimp only [List.set_cons_zero,List.set_cons_succ])|(refine zJ2 rfl rfl rfl ?_ ?_<;>((first|(refine lV T ?_)|(refine cC (cM T rfl) rfl ?_)|(refine bD T rfl rfl rfl rfl rfl rfl (by decide) rfl ?_));refine iM ?_;dsimp only [List.set_cons_zero,List.set_cons_succ]))|(refine zJ1 rfl rfl rfl rfl ?_ ?_ ?_<;>((first|(refine lV T ?_)|(refine cC (cM T rfl) rfl ?_));refine iM ?_;dsimp only [List.set_cons_zero,List.set_cons_succ]))|(refine zJ0 rfl rfl rfl rfl rfl ?_ ?_ ?_ ?_<;>((first|(refine lV T ?_)|(refine cC (cM T rfl) rfl ?_));refine iM ?_;dsimp only [List.set_cons_zero,List.set_cons_succ]))));all_goals first | exact G3 rfl ⟨rfl,[0,1],rfl,(by repeat first|exact trivial|refine ⟨rfl,?_⟩),⟨.inr rfl,.inr rfl,trivial⟩,by decide,jY _⟩ | exact G3 rfl ⟨rfl,[1,0],rfl,(by repeat first|exact trivial|refine ⟨rfl,?_⟩),⟨.inr rfl,.inr rfl,trivial⟩,by decide,jY _⟩
  intro v g hsub;refine RK hsub ?_
  (repeat' (first|refine wS ?_|refine wR ?_|refine wT ?_|(refine wC rfl ?_ ?_<;>(intro hb;(try simp only [nm] at hb);try (exfalso;omega)))|(refine rg 5 (gI T rfl (qW T rfl (gI T rfl (qW T rfl (vV (cE rfl rfl (by omega) (by omega)) (vV (fA rfl rfl) (mV ?_)))))));refine bQ rfl rfl ?_ ?_<;>(intro hb;rw [hb];(try simp only [nm] at hb);try (exfalso;omega));(all_goals first|(refine gT (fW T rfl (gT (lW T rfl (gT (qW T rfl (gT (fW T rfl (gT (lV T ?_)))))))));refine gT (qW T rfl (gT (vV (yU rfl rfl (by omega) (by omega)) (gT (vV (fA rfl rfl) ?_))))))|(iterate 8 refine gF ?_));(all_goals (refine pV ?_)))|(refine rg 6 (sG ?_))|refine nZ ?_));all_goals first | (exfalso;omega) | exact rQ
theorem zR9 {n:Nat}(l:List G) (a b:Int) (ok:oG n l) (ha:∃ g,g∈l∧a∈g.1) (hb:∃ g,g∈l∧b∈g.1){all:List G}(hj:join l a b=some all) (hne:pK l a≠pK l b):aT Tryz.prog 60 [.rowE (kU l) 2,.i a,.i b] [] (.tup [.sl 0 0 all.length 2,.i 0]) [.arr (kU all) 2]:=by
  have hl12:l.length≤12:=bG ok.len ok.ln;have hgl:∀ g,g∈l→g.1.length≤1000000:=fun g hg=>by have:=(ok.ok g hg).ln;omega
  have f1:=C5 l a (by omega) hgl
  have f2:=C5 l b (by omega) hgl
  obtain ⟨i,x,e1,hx,hax⟩:=jC ha;obtain ⟨k,y,e2,hy,hby⟩:=jC hb;rw [e1] at f1;rw [e2] at f2;have hil:=(aB.1 hx).1;have hkl:=(aB.1 hy).1;have hll:(kU l).length=l.length:=jW _;have qx:(kU l)[(i:Int).toNat]? = some (gA x):=by rw [bP,bY,hx];rfl
  have qy:(kU l)[(k:Int).toNat]? = some (gA y):=by rw [bP,bY,hy];rfl
  have ax:mK l (i:Int).toNat=x:=by unfold mK;rw [bP,aD,hx];rfl
  have ay:mK l (k:Int).toNat=y:=by unfold mK;rw [bP,aD,hy];rfl
  unfold join at hj;dsimp only at hj;rw [e1,e2,ax,ay] at hj;clear ha hb;have hik:i≠k:=fun q=>by subst q;exact hne (e1.trans e2.symm)
  rw [if_neg (by omega)] at hj
  have hf:¬ (6<x.1.length+y.1.length∨1000<x.2.length*y.2.length):=fun hf=>by rw [if_pos hf] at hj;cases hj
  rw [if_neg hf] at hj
  replace hj:=(Option.some.inj hj).symm
  have xo:=ok.ok x (aO hx);have yo:=ok.ok y (aO hy);have xw:=ok.ws x (aO hx);have yw:=ok.ws y (aO hy);have xl:=xo.ln;have yl:=yo.ln;have xp:=fD.2 xo.ne;have yp:=fD.2 yo.ne;have sx:=xo.sz xw;have sy:=yo.sz yw;have l1:(ints x.1).length=x.1.length:=cY _;have l2:(ints y.1).length=y.1.length:=cY _;have l3:(gM x.2).length=x.2.length:=fR _;have l4:(gM y.2).length=y.2.length:=fR _;have hmx:x.2.length*y.2.length≤2000*2000:=OS xw yw;have hml:((x.2.length:Int)*y.2.length)=((x.2.length*y.2.length:Nat):Int):=by push_cast;rfl
  obtain ⟨bx,wx⟩:=x;obtain ⟨by_,wy⟩:=y;have hmI:(((gM wx).length:Nat):Int)*((gM wy).length:Nat)=((wx.length*wy.length:Nat):Int):=by rw [fR,fR];push_cast;rfl
  have hjG:mX (bx,wx) (by_,wy)=(eJ cI (bx++by_),qC (bx,wx) (by_,wy) (eJ cI (bx++by_))):=rfl;rw [hjG,← uJ] at hj;have hbl:(jD (bx++by_)).length=bx.length+by_.length:=by rw [yB,aF]
  have hmm:∀ q,q∈jD (bx++by_)→q∈bx∨q∈by_:=fun q hq=>bL.1 ((Go.Pm.sorted_perm _).mem_iff.1 hq);have h1:=zG6 bx by_ ⟨by dsimp only at *;omega,by dsimp only at *;omega⟩ ⟨by dsimp only at *;omega,by dsimp only at *;omega⟩
  have h2:=BB (bx++by_);have h3:=LM (bx++by_) (by rw [aF];dsimp only at *;omega)
  have hPl:=FZ (bx,wx) (by_,wy) (jD (bx++by_));generalize jD (bx++by_)=bod at *;have h4:=zQ1 (bx,wx) (by_,wy) bod;have hit:=zA2 (bx,wx) (by_,wy) bod sx sy (by dsimp only at *;omega) hmm (fun w hw=>⟨(xo.ws w hw).m0,(xo.ws w hw).m1⟩) (fun w hw=>⟨(yo.ws w hw).m0,(yo.ws w hw).m1⟩)
  have hpg:∀ (q:Nat) (w:W),(qC (bx,wx) (by_,wy) bod)[q]? = some w→CD (bx,wx) (by_,wy) bod q=[.agg (wA w)]:=fun q w h=>VP h
  generalize CD (bx,wx) (by_,wy) bod=IT at *;generalize qC (bx,wx) (by_,wy) bod=P at *;have hP:P.length≤1000:=by rw [hPl,yS2];dsimp only at *;omega
  clear hPl hmm h2;have h2:=BB (bx++by_);dsimp only at *;have hcl:=O6 l (by omega)
  have hS:min (i:Int) (k:Int)=((min i k:Nat):Int):=by omega
  have hM:max (i:Int) (k:Int)=((max i k:Nat):Int):=by omega
  rw [hS,hM,bP,bP] at hj;have ts:=M7 (L:=l) (j:=min (i:Int) (k:Int)) (i:=min i k) (x:=(bod,P)) hS;have qm:=C2 (L:=l) (j:=min (i:Int) (k:Int)) (i:=min i k) (x:=l[min i k]'(by omega)) (aA _) hS
  have hdl:=yF0 (l.set (min i k) (bod,P)) (max i k) (max i k+1) (by omega) (by rw [gW];omega) (by intro h;have:=congrArg List.length h;rw [gW,List.length_nil] at this;omega)
  rw [N8,gW,show l.length-(max i k+1-max i k)=l.length-1 by omega,show ((max i k+1:Nat):Int)=max (i:Int) (k:Int)+1 by omega,← hM] at hdl
  have hel:((l.set (min i k) (bod,P)).eraseIdx (max i k)).length=l.length-1:=by rw [gL,gW,if_pos (by omega)]
  generalize l[min i k]'(by omega)=gm at *
  subst hj;rw [hel];refine bU T Tryz.func60 rfl rfl rfl rfl ?_
  (repeat' (first|refine wS ?_|refine wK ?_|refine wU ?_|(refine rg 0 (sG ?_))|(refine rg 1 (dI rfl (vV (kC (f1)) (dI rfl (vV (kC (f2)) (sG ?_))))))|(refine rg 2 (dI rfl (vV (iE rfl rfl (by omega)) ?_)))|refine nZ ?_));refine zI1 [(0,.rowE (kU l) 2),(8,.i i),(9,.i k),(10,.ptr 0 0),(11,.ptr 1 0)] [.cells [.rowE (ints bx) 1,.rowE (gM wx) 3],.cells [.rowE (ints by_) 1,.rowE (gM wy) 3]] ?_ ?_
  · refine OH (id:=4) cK ?_;refine zS 0 rfl rfl (by decide +kernel) (by decide +kernel) (by decide +kernel) (by exact vH rfl) rfl ?_
    refine zS 1 rfl rfl (by decide +kernel) (by decide +kernel) (by decide +kernel) (by exact vH rfl) rfl ?_
    refine zS 2 rfl rfl (by decide +kernel) (by decide +kernel) (by decide +kernel) (by exact tT T rfl rfl rfl rfl rfl (by omega) (rZ _) qx) rfl ?_
    refine zS 4 rfl rfl (by decide +kernel) (by decide +kernel) (by decide +kernel) (by exact vH rfl) rfl ?_
    refine zS 5 rfl rfl (by decide +kernel) (by decide +kernel) (by decide +kernel) (by exact vH rfl) rfl ?_
    refine zS 6 rfl rfl (by decide +kernel) (by decide +kernel) (by decide +kernel) (by exact tT T rfl rfl rfl rfl rfl (by omega) (rZ _) qy) rfl ?_
    refine UL [(0,[]),(1,[]),(2,[0,1]),(3,[2]),(4,[]),(5,[]),(6,[4,5]),(7,[6]),(8,[]),(9,[]),(10,[8,3,0,1,2,3,8,9]),(11,[9,7,10,0,1,2,3,4,5,6,7,8,9,10])] (by decide +kernel) [true,true,true,false,true,true,true,false,false,false,false,false] rfl rfl ?_
    (repeat' (first|(refine zJ3 rfl rfl ?_;(first|(refine lV T ?_)|(refine cC (cM T rfl) rfl ?_)|(refine bD T rfl rfl rfl rfl rfl rfl (by decide) rfl ?_));refine iM ?_;dsimp only [List.set_cons_zero,List.set_cons_succ])|(refine zJ2 rfl rfl rfl ?_ ?_<;>((first|(refine lV T ?_)|(refine cC (cM T rfl) rfl ?_)|(refine bD T rfl rfl rfl rfl rfl rfl (by decide) rfl ?_));refine iM ?_;dsimp only [List.set_cons_zero,List.set_cons_succ]))|(refine zJ1 rfl rfl rfl rfl ?_ ?_ ?_<;>((first|(refine lV T ?_)|(refine cC (cM T rfl) rfl ?_));refine iM ?_;dsimp only [List.set_cons_zero,List.set_cons_succ]))|(refine zJ0 rfl rfl rfl rfl rfl ?_ ?_ ?_ ?_<;>((first|(refine lV T ?_)|(refine cC (cM T rfl) rfl ?_));refine iM ?_;dsimp only [List.set_cons_zero,List.set_cons_succ]))));all_goals first | exact G3 rfl ⟨rfl,[0,1],rfl,(by repeat first|exact trivial|refine ⟨rfl,?_⟩),⟨.inr rfl,.inr rfl,trivial⟩,by decide,jY _⟩ | exact G3 rfl ⟨rfl,[1,0],rfl,(by repeat first|exact trivial|refine ⟨rfl,?_⟩),⟨.inr rfl,.inr rfl,trivial⟩,by decide,jY _⟩
  intro v g hsub;refine RK hsub ?_
  (repeat' (first|refine wS ?_|refine wB ?_|refine wK ?_|(refine wC rfl ?_ ?_<;>(intro hb;(try simp only [nm] at hb);try (exfalso;omega)))|(refine rg 5 (gI T rfl (qW T rfl (gI T rfl (qW T rfl (vV (cE rfl rfl (by omega) (by omega)) (vV (fA rfl rfl) (mV ?_)))))));refine bQ rfl rfl ?_ ?_<;>(intro hb;rw [hb];(try simp only [nm] at hb);try (exfalso;omega));(all_goals (refine yP T rfl (yO T rfl (gT (qW T rfl (yP T rfl (yO T rfl (gT (qW T rfl (yV (yU rfl rfl (by omega) (by omega)) (yV (fA rfl rfl) ?_)))))))));refine pV ?_)))|(refine rg 7 (gI T rfl (gI T rfl (cC (by exact bE T rfl rfl (by decide) (by decide) rfl rfl rfl) rfl ?_)));refine mN 55 rfl rfl rfl rfl ?_;refine vV (kC (h1)) (vV (kC (h2)) (vV (kC (h3)) (vV (by exact eO T rfl rfl rfl rfl) ?_)));refine cC (cM T rfl) rfl (bD T rfl rfl rfl rfl rfl rfl (by decide) rfl ?_))|(refine rg 8 (lW T rfl (lW T rfl (gI T rfl (vV (kC (h4)) ?_)))))|refine nZ ?_));all_goals try (exfalso;omega)
  refine oN 3 1 3 rfl rfl (by decide) ?_
  refine OE [] [3,4] [(0,.rowE (kU l) 2),(8,.i i),(9,.i k),(12,.ptr 0 0)] (fun m=>[.cells [.rowE (ints bod) 1,.sl 1 0 m 3],.arr (gM (P.take m)) 3]) 1 rfl hit rfl rfl rfl trivial eT rfl (by repeat first|exact trivial|refine ⟨rfl,?_⟩) ⟨.inr rfl,.inr rfl,trivial⟩ (by decide) (jY _) (by simp) (bW _) (aH rfl) rfl (by decide) (fun m hm=>by rw [hpg m P[m] (aA hm)];exact ⟨rfl,rfl⟩) ?_ ?_
  · intro m hm;rw [hpg m P[m] (aA hm)];have hks:=aP hm;have hkl':(gM (P.take m)).length=m:=by rw [fR,bH];omega
    have hW:gM (P.take (m+1))=gM (P.take m)++[wA P[m]]:=by rw [hks,gM,bT];rfl
    generalize P[m]=w at *;obtain ⟨wp,wm,wc⟩:=w;generalize gM (P.take m)=Q at *;refine eW (id:=9) ?_;refine cC (by exact cM T rfl) rfl ?_
    refine bD T rfl rfl rfl rfl rfl rfl (by decide) rfl ?_
    refine iM ?_;refine ⟨rfl,?_⟩
    repeat' (first|refine wB ?_|(refine rg 10 (gI T rfl (lW T rfl (cC (by exact bE T rfl rfl (by decide) (by decide) rfl rfl rfl) rfl ?_)));refine fS T rfl rfl rfl rfl rfl rfl (by omega) (iK.whole rfl rfl) rfl (by simp;omega) (by simp;omega) rfl ?_;refine fW T rfl (bD T rfl rfl rfl rfl rfl rfl (by decide) rfl ?_))|refine nZ ?_)
    show KQ _ _ _ _ [.cells [.rowE (ints bod) 1,.sl 1 0 (m+1) 3],.arr (gM (P.take (m+1))) 3];rw [hW];exact ⟨[0,4],rfl,trivial,⟨.inr (by simp;rfl),.inr (aC rfl (by first | exact jF hkl'.symm | simp) (by rw [← hW];exact bX _)),trivial⟩,by decide,yN5⟩
  · rw [cQ];refine nN 0 1 rfl rfl rfl (fR _).symm (gV (bX _)) ?_;show AW _ _ _ _ _ _
    (repeat' (first|refine wS ?_|(refine rg 11 (mW rfl (cC (by exact fN rfl rfl hcl (.inr ⟨rfl,rfl,by simp⟩)) rfl ?_));refine aV ?_)|refine nZ ?_));refine fO [(8,.i i),(9,.i k),(12,.ptr 0 0),(14,.sl 1 0 l.length 2)] [.cells [.rowE (ints bod) 1,.rowE (gM P) 3],.arr (kU l) 2] ⟨[0,2],rfl,(by repeat first|exact trivial|refine ⟨rfl,?_⟩),⟨.inr rfl,.inr (aC rfl (bB _ (eN _)) (eN _)),trivial⟩,by decide,jY _⟩ ?_
    (repeat' (first|refine wS ?_|(refine rg 12 (dI rfl (mW rfl (vV (J7 rfl rfl) (lW T rfl (vV (by exact aI T rfl rfl rfl rfl rfl (by omega) (by omega)) ?_)))));refine bD T rfl rfl rfl rfl rfl rfl (by decide) (lR rfl qm rfl) ?_)|refine nZ ?_));refine fO [(8,.i i),(9,.i k),(14,.sl 0 0 l.length 2)] [.arr (kU (l.set (min i k) (bod,P))) 2] ⟨[1],rfl,(by repeat first|exact trivial|refine ⟨rfl,?_⟩),⟨.inr (aC rfl ts (eN _)),trivial⟩,by decide,jY _⟩ ?_
    (repeat' (first|refine wR ?_|(refine rg 13 (dI rfl (mW rfl (vV (yW rfl rfl) (dI rfl (vV (yW rfl rfl) (vV (cE rfl rfl (by omega) (by omega)) (eC [0] rfl rfl (hdl) rfl rfl (by decide) ⟨.inr (aC rfl rfl (eN _)),trivial⟩ (by simp) rfl ?_)))))));refine sG ?_)|refine nZ ?_));all_goals exact ⟨.inl rfl,[0],_,rfl,rfl,rfl,⟨.inr (aC rfl (bB _ (eN _)) (eN _)),trivial⟩,by decide,jY _⟩
end Go.Proofs.YtmmmeebiobjnbaaGreat
namespace Go.Ld
open Go.Ab Go.Proofs.YtmmmeebiobjnbaaGreat
structure iL (c:Cx):Prop where
  f:zL7 c.ks c.ls (nats (List.range c.bs.length)) c.bs
  s:mH c.m c.st c.er c.sl
theorem iL.unit {c:Cx}(h:iL c) (lot:Int):0≤oA c.ks c.ls lot:=by
  unfold oA;split
  · exact dX _
  · rw [aD];cases hq:c.ks[(c.ls.getD lot.toNat (0,0,false)).1.toNat]? with
    | none=>exact dX _
    | some x=>
      obtain ⟨h1,h2⟩:=aB.1 hq;have:=(h.f.k _ h1).1;rw [h2] at this;exact this
end Go.Ld
namespace Go.Proofs.YtmmmeebiobjnbaaGreat
open Go Go.Ab Go.Ld
attribute [local irreducible] VC AW cD aT jE
set_option maxHeartbeats 4000000
theorem US (t u w e:Int) (hu:0≤u):aT Tryz.prog 87 [.i t,.i u,.i w,.i e] [] (.tup [nH (XY t u w e).1.1 (XY t u w e).1.2,.b (XY t u w e).2]) []:=by
  unfold XY;by_cases h:JH t u w e
  · rw [if_pos (show GX t u w e=true from decide_eq_true h)]
    by_cases h1:w+e-t<0∨u=0∧0<w-e-t
    · rw [if_pos h1];exact KV t u w e h h1
    · rw [if_neg h1];by_cases h2:u=0
      · rw [if_pos h2];exact KW t u w e h (by omega) h2 (by omega)
      · rw [if_neg h2];exact PF t u w e h (by omega) (by omega)
  · have h':¬ GX t u w e=true:=fun q=>h (by simpa [GX,JH] using q)
    rw [if_neg h'];exact PE t u w e h
theorem zS2 (r q:SP):aT Tryz.prog 88 [nH r.1 r.2,nH q.1 q.2] [] (.tup [nH (O3 (max r.1 q.1) (min r.2 q.2)).1.1 (O3 (max r.1 q.1) (min r.2 q.2)).1.2,.b (O3 (max r.1 q.1) (min r.2 q.2)).2]) []:=zS3 r.1 r.2 q.1 q.2
theorem ZX (r:SP) (n s:Int) (hf:0≤r.1∧r.1≤20001∧0≤r.2∧r.2≤20001):aT Tryz.prog 89 [nH r.1 r.2,.i n,.i s] [] (.tup [nH (B5 r n s).1.1 (B5 r n s).1.2,.b (B5 r n s).2]) []:=by
  unfold B5;by_cases h:0≤n∧n≤1099511627776∧0≤s∧s≤1099511627776
  · rw [if_pos h];exact VQ r.1 r.2 n s hf h
  · rw [if_neg h];exact PX r.1 r.2 n s h
abbrev zU6 (s:Ev):AV:=oW s.k s.a s.b s.n s.ids
theorem zH5 (c:Cx) (gs:List G){n q:Nat}(w:W){i:Nat}(s:Ev) (hc:iL c) (hw:HO n q w) (hn:n=c.bs.length) (hi:i<q) (hq:q≤1000) (hids:s.ids.length≤9223372036854775807) (hsn:0≤s.n∧s.n≤1099511627776) :
    aT Tryz.prog 62 [.pr (kI c gs) 0,OZ w,.i i,zU6 s] [] (.tup [.agg [.sl 0 0 w.1.length 1,.i (kQ c w i s).1.2.1,.sl 1 0 w.2.2.length 2],.b (kQ c w i s).2]) [.arr (ints w.1) 1,.arr (fY (kQ c w i s).1.2.2) 2]:=by
  have hpl:=hw.pl;have hcl:=hw.cl;have hcw:=JM w ⟨by omega,by omega⟩
  obtain ⟨g1,g2,g3,g4,g5⟩:=hw.at hi;have hm0:=hw.m0;have hm1:=hw.m1;have hids':(ints s.ids).length=s.ids.length:=cY _;obtain ⟨st1,st2,st3,st4,st5,st6,st7,st8⟩:=hc.s;have hbo:(kQ c w i s).1.2.2=(kQ c w i s).1.2.2:=rfl;unfold kQ gP gC at *;obtain ⟨p,m,cs⟩:=w;obtain ⟨sk,sa,sb,sn,ids⟩:=s;dsimp only at *;have hlp:(ints p).length=p.length:=cY _;have hlc:(fY cs).length=cs.length:=iP _;have qp:=AK (l:=p) (j:=(i:Int)) (i:=i) 0 (by omega) rfl
  have qc:=L5 (l:=cs) (j:=(i:Int)) (i:=i) (by omega) rfl
  have ct:∀ r:SP,_:=fun r=>BI (l:=cs) (j:=(i:Int)) (i:=i) (r:=r) rfl;have ctn:∀ x y:Int,(fY cs).set (0+(i:Int).toNat) [AV.i x,AV.i y]=fY (cs.set i (x,y)):=fun x y=>ct (x,y);clear ct hbo;generalize hx:p.getD i 0=x at *;generalize hr:cs.getD i (0,0)=r at *;obtain ⟨r1,r2⟩:=r;dsimp only at *;have hbx:c.bs[x.toNat]? = some (c.bs.getD x.toNat (0,0,0)):=by
    rw [aD,aA (by omega)];rfl
  refine bU T Tryz.func62 rfl rfl rfl rfl ?_
  (repeat' (first|refine wS ?_|refine wB ?_|(refine rg 0 (cC (cO rfl rfl) rfl (cC (cO rfl rfl) rfl (cC (cM T rfl) rfl (aV ?_)))))|(refine rg 1 (lW T rfl (cC (by exact fN rfl rfl hcw (.inr ⟨rfl,rfl,by simp⟩)) rfl ?_));refine bD T rfl rfl rfl rfl rfl rfl (by decide) rfl ?_)|(refine rg 2 (aV ?_))|(refine rg 3 (JF T ?_))|refine nZ ?_));refine fO [(0,.pr (kI c gs) 0),(2,.i i),(5,.ptr 0 0),(7,.ptr 1 0),(8,.ptr 2 0),(10,.b true),(18,.i sk)] [.cells [.sl 3 0 p.length 1,.i m,.sl 4 0 cs.length 2],.cells [.i sk,.i sa,.i sb,.i sn,.rowE (ints ids) 1],.cells [.nils,.i 0,.nils],.arr (ints p) 1,.arr (fY cs) 2]
    ⟨[0,1,2,3,4],rfl,(by repeat first|exact trivial|refine ⟨rfl,?_⟩),⟨.inr rfl,.inr rfl,.inr rfl,.inr (aC rfl (bB _ (bJ _)) (bJ _)),.inr (aC rfl (bB _ (fL _)) (fL _)),trivial⟩,by decide,jY _⟩ ?_
  by_cases k0:sk=0
  · rw [if_pos k0];have hct:=zF ids x hids;by_cases hin:x∈ids
    · rw [if_pos hin];rw [decide_eq_true hin] at hct;dsimp only
      (repeat' (first|refine wS ?_|refine wR ?_|refine wT ?_|(refine rg 4 (vV (lE rfl rfl (by omega)) (aV ?_)))|(refine rg 5 (fW T rfl (vV (aK T rfl rfl rfl rfl) (qW T rfl (aV ?_)))))|(refine rK (id:=6) 7 153 [[],[0],[],[2],[],[2,3,4],rM 2 4,rN 7] [[],[0],[],[2],[],[2,3,4],rM 2 4] (rM 24 7) yV8 cK rfl (by decide +kernel) (by decide +kernel) ?_;(dsimp only [List.take,List.drop]);refine dP T rfl (dO T rfl (dP T rfl (dO T rfl (dN rfl (dV rfl (by exact aI T rfl rfl rfl rfl rfl (by omega) (by omega)) ?_)))));refine dV rfl (by exact aK T rfl rfl (bF rfl qp) rfl) ?_;refine dE ?_;refine iM ?_;refine vV (kC (hct)) ?_)|(refine rg 7 (mW rfl (vV (cT rfl rfl (by omega) (by omega)) (aV ?_))))|(refine rg 9 (dI rfl (nV ?_));refine fW T rfl (fW T rfl (vV (aK T rfl rfl rfl rfl) (vV (iB rfl rfl) (aV ?_)))))|(refine rg 23 (vV (aK T rfl rfl rfl rfl) (mW rfl (bD T rfl rfl rfl rfl rfl rfl (by decide) rfl (aV ?_)))))|refine nZ ?_));all_goals first | (exfalso;omega) | exact ⟨.inl rfl,[3,4],_,rfl,by rw [← hids'];rfl,rfl,⟨.inr (aC rfl rfl (bJ _)),.inr (aC rfl rfl (fL _)),trivial⟩,by decide,jY _⟩
    · rw [if_neg hin];rw [decide_eq_false hin] at hct;dsimp only
      (repeat' (first|refine wS ?_|refine wR ?_|refine wT ?_|refine wU ?_|(refine rg 4 (vV (lE rfl rfl (by omega)) (aV ?_)))|(refine rg 5 (fW T rfl (vV (aK T rfl rfl rfl rfl) (qW T rfl (aV ?_)))))|(refine rK (id:=6) 7 153 [[],[0],[],[2],[],[2,3,4],rM 2 4,rN 7] [[],[0],[],[2],[],[2,3,4],rM 2 4] (rM 24 7) yV8 cK rfl (by decide +kernel) (by decide +kernel) ?_;(dsimp only [List.take,List.drop]);refine dP T rfl (dO T rfl (dP T rfl (dO T rfl (dN rfl (dV rfl (by exact aI T rfl rfl rfl rfl rfl (by omega) (by omega)) ?_)))));refine dV rfl (by exact aK T rfl rfl (bF rfl qp) rfl) ?_;refine dE ?_;refine iM ?_;refine vV (kC (hct)) ?_)|(refine rg 8 (fW T rfl (vV (aK T rfl rfl rfl rfl) (vV (cE rfl rfl (by omega) (by omega)) (fW T rfl (bD T rfl rfl rfl rfl rfl rfl (by decide) rfl ?_))))))|(refine rg 9 (dI rfl (nV ?_));refine fW T rfl (fW T rfl (vV (aK T rfl rfl rfl rfl) (vV (iB rfl rfl) (aV ?_)))))|(refine rg 23 (vV (aK T rfl rfl rfl rfl) (mW rfl (bD T rfl rfl rfl rfl rfl rfl (by decide) rfl (aV ?_)))))|refine nZ ?_));all_goals first | (exfalso;omega) | exact ⟨.inl rfl,[3,4],_,rfl,by rw [← hids'];rfl,rfl,⟨.inr (aC rfl rfl (bJ _)),.inr (aC rfl rfl (fL _)),trivial⟩,by decide,jY _⟩
  by_cases k1:sk=1
  · rw [if_neg k0,if_pos k1];have hbl:=hc.f.b x.toNat (by omega)
    have hgx:c.bs[x.toNat]'(by omega)=c.bs.getD x.toNat (0,0,0):=by rw [aD,aA (by omega)];rfl
    rw [hgx] at hbl;have hbxl:(cW c.bs).length=c.bs.length:=aX _;have qb:(cW c.bs)[x.toNat]? = some [.i (c.bs.getD x.toNat (0,0,0)).1,.i (c.bs.getD x.toNat (0,0,0)).2.1,.i (c.bs.getD x.toNat (0,0,0)).2.2]:=by rw [bY,hbx];rfl
    generalize c.bs.getD x.toNat (0,0,0)=bx at *;obtain ⟨lot,cnt,ta⟩:=bx;dsimp only at *;have hun:=YC hc.f (lot:=lot) (by omega)
    have hu0:=hc.unit lot;generalize oA c.ks c.ls lot=u at *;have hwg:=US ta u sn c.er hu0;unfold vZ sC;dsimp only;generalize XY ta u sn c.er=z at *;obtain ⟨⟨z1,z2⟩,zb⟩:=z;dsimp only at *;cases zb with
    | true=>
      rw [if_pos rfl];have hin:=zS2 (r1,r2) (z1,z2);dsimp only at *;generalize O3 (max r1 z1) (min r2 z2)=y at *;obtain ⟨⟨y1,y2⟩,yb⟩:=y;dsimp only at *
      (repeat' (first|refine wS ?_|refine wR ?_|refine wT ?_|refine wU ?_|(refine rg 4 (vV (iE rfl rfl (by omega)) (aV ?_)))|(refine rg 10 (vV (lE rfl rfl (by omega)) (aV ?_)))|(refine bV (id:=11) 153 yV9 [47,48,49,50,51,52,53,54,55,56,57,12] yW0 cK rfl (by decide +kernel) (dN rfl (dV rfl (by exact cN rfl rfl) ?_));refine dP T rfl (dO T rfl (dP T rfl (dO T rfl (dN rfl (dV rfl (by exact aI T rfl rfl rfl rfl rfl (by omega) (by omega)) ?_)))));refine dV rfl (by exact aK T rfl rfl (bF rfl qp) rfl) ?_;refine dV rfl (ix T rfl (by omega) (iS _) qb) (dO T rfl (xO rfl rfl rfl (by exact cM T rfl) rfl ?_));refine dE ?_;refine bD T rfl rfl rfl rfl rfl rfl (by decide) rfl ?_)|(refine O9 (id:=12) 23 25 153 (by (dsimp only [K5];done)) (by decide +kernel) yW1 [59,60,61,62,63,64,65,66,67,68,69,70,71,72,73,74,75,76,77,78,79,58,80,81,13] yW2 cK rfl (by decide +kernel) (dP T rfl (dO T rfl (dN rfl (dV rfl (by exact cN rfl rfl) ?_))));refine dP T rfl (dO T rfl (dN rfl (dV rfl (by exact cN rfl rfl) ?_)));refine dP T rfl (dO T rfl (dP T rfl (dO T rfl (dV rfl (kC (hun)) (dP T rfl (dO T rfl (dN rfl (dV rfl (by exact cN rfl rfl) ?_))))))));refine dP T rfl (dP T rfl (dO T rfl (dV rfl (kC (hwg)) (dN rfl (dV rfl (by exact kJ rfl rfl) ?_)))));refine dV rfl (by exact kJ rfl rfl) ?_;refine xO rfl rfl rfl (by exact cM T rfl) rfl ?_;refine dE ?_;refine bD T rfl rfl rfl rfl rfl rfl (by decide) rfl (aV ?_))|(refine rg 13 (mV ?_))|(refine O9 (id:=14) 9 10 153 (by (dsimp only [K5];done)) (by decide +kernel) [[],[0],[],[0,1,2],rN 4,[],rN 6,rN 7,rN 8,rN 8] [84,85,86,87,88,89,90,83,91,92] [[],[],[84,85],[],[],rM 84 5,[],[],[],[91]] cK rfl (by decide +kernel) (dP T rfl (dO T rfl (dN rfl (dV rfl (by exact aI T rfl rfl rfl rfl rfl (by omega) (by omega)) ?_))));refine dV rfl (by exact aK T rfl rfl (bF rfl qc) rfl) ?_;refine dO T rfl (dV rfl (kC (hin)) (dN rfl (dV rfl (by exact kJ rfl rfl) ?_)));refine dV rfl (by exact kJ rfl rfl) ?_;refine dE ?_;refine bD T rfl rfl rfl rfl rfl rfl (by decide) rfl (aV ?_))|(refine rg 15 (fW T rfl (vV (aK T rfl rfl rfl rfl) (mW rfl (vV (aK T rfl rfl rfl rfl) (mW rfl (vV (by exact aI T rfl rfl rfl rfl rfl (by omega) (by omega)) ?_))))));refine bD T rfl rfl rfl rfl rfl rfl (by decide) (lR rfl qc rfl) (aV ?_))|(refine rg 23 (vV (aK T rfl rfl rfl rfl) (mW rfl (bD T rfl rfl rfl rfl rfl rfl (by decide) rfl (aV ?_)))))|refine nZ ?_));all_goals first | (exfalso;omega) | exact ⟨.inl rfl,[3,4],_,rfl,rfl,rfl,⟨.inr (aC rfl rfl (bJ _)),.inr (aC rfl (ctn y1 y2) (fL _)),trivial⟩,by decide,jY _⟩
    | false=>
      rw [if_neg (by simp)]
      (repeat' (first|refine wS ?_|refine wK ?_|refine wR ?_|refine wT ?_|refine wU ?_|(refine rg 4 (vV (iE rfl rfl (by omega)) (aV ?_)))|(refine rg 10 (vV (lE rfl rfl (by omega)) (aV ?_)))|(refine bV (id:=11) 153 yV9 [47,48,49,50,51,52,53,54,55,56,57,12] yW0 cK rfl (by decide +kernel) (dN rfl (dV rfl (by exact cN rfl rfl) ?_));refine dP T rfl (dO T rfl (dP T rfl (dO T rfl (dN rfl (dV rfl (by exact aI T rfl rfl rfl rfl rfl (by omega) (by omega)) ?_)))));refine dV rfl (by exact aK T rfl rfl (bF rfl qp) rfl) ?_;refine dV rfl (ix T rfl (by omega) (iS _) qb) (dO T rfl (xO rfl rfl rfl (by exact cM T rfl) rfl ?_));refine dE ?_;refine bD T rfl rfl rfl rfl rfl rfl (by decide) rfl ?_)|(refine O9 (id:=12) 23 25 153 (by (dsimp only [K5];done)) (by decide +kernel) yW1 [59,60,61,62,63,64,65,66,67,68,69,70,71,72,73,74,75,76,77,78,79,58,80,81,13] yW2 cK rfl (by decide +kernel) (dP T rfl (dO T rfl (dN rfl (dV rfl (by exact cN rfl rfl) ?_))));refine dP T rfl (dO T rfl (dN rfl (dV rfl (by exact cN rfl rfl) ?_)));refine dP T rfl (dO T rfl (dP T rfl (dO T rfl (dV rfl (kC (hun)) (dP T rfl (dO T rfl (dN rfl (dV rfl (by exact cN rfl rfl) ?_))))))));refine dP T rfl (dP T rfl (dO T rfl (dV rfl (kC (hwg)) (dN rfl (dV rfl (by exact kJ rfl rfl) ?_)))));refine dV rfl (by exact kJ rfl rfl) ?_;refine xO rfl rfl rfl (by exact cM T rfl) rfl ?_;refine dE ?_;refine bD T rfl rfl rfl rfl rfl rfl (by decide) rfl (aV ?_))|(refine rg 13 (mV ?_))|(refine rg 15 (fW T rfl (vV (aK T rfl rfl rfl rfl) (mW rfl (vV (aK T rfl rfl rfl rfl) (mW rfl (vV (by exact aI T rfl rfl rfl rfl rfl (by omega) (by omega)) ?_))))));refine bD T rfl rfl rfl rfl rfl rfl (by decide) (lR rfl qc rfl) (aV ?_))|(refine rg 23 (vV (aK T rfl rfl rfl rfl) (mW rfl (bD T rfl rfl rfl rfl rfl rfl (by decide) rfl (aV ?_)))))|refine nZ ?_));all_goals first | (exfalso;omega) | exact ⟨.inl rfl,[3,4],_,rfl,rfl,rfl,⟨.inr (aC rfl rfl (bJ _)),.inr (aC rfl (ctn z1 z2) (fL _)),trivial⟩,by decide,jY _⟩
  by_cases k2:sk=2
  · have hpk:=ZX (r1,r2) sn c.sl ⟨by omega,by omega,by omega,by omega⟩
    rw [if_neg k0,if_neg k1,if_pos k2];unfold sC;dsimp only at *;generalize B5 (r1,r2) sn c.sl=z at *;obtain ⟨⟨z1,z2⟩,zb⟩:=z;dsimp only at *
    (repeat' (first|refine wS ?_|refine wR ?_|refine wT ?_|refine wU ?_|(refine rg 4 (vV (iE rfl rfl (by omega)) (aV ?_)))|(refine rg 10 (vV (iE rfl rfl (by omega)) (aV ?_)))|(refine rg 16 (vV (lE rfl rfl (by omega)) (aV ?_)))|(refine O9 (id:=17) 18 20 153 (by (dsimp only [K5];done)) (by decide +kernel) [[],[0],[],[],[3],[],[3,4,5],rM 3 4,[],[8],[],[10],[10,11],[10,11,12],rM 10 4,rM 3 12,rM 3 13,rM 3 14,rM 3 14,rN 18] [102,103,104,105,106,107,108,109,110,111,112,113,114,115,116,117,101,118,119,120] [[],[],[102,103],[102,103,104],[102,103,104],rM 102 5,[102,103,104],[102,103,104],rM 102 8,rM 102 8,rM 102 10,rM 102 10,rM 102 10,rM 102 10,rM 102 10,[102,103,104],[102,103,104],[102,103,104],[102,103,104,118],[119]] cK rfl (by decide +kernel) (dP T rfl (dO T rfl (dN rfl (dP T rfl (dO T rfl (dN rfl (dV rfl (by exact aI T rfl rfl rfl rfl rfl (by omega) (by omega)) ?_)))))));refine dV rfl (by exact aK T rfl rfl (bF rfl qc) rfl) ?_;refine dP T rfl (dO T rfl (dN rfl (dV rfl (by exact cN rfl rfl) ?_)));refine dP T rfl (dP T rfl (dO T rfl (dV rfl (kC (hpk)) (dN rfl (dV rfl (by exact kJ rfl rfl) ?_)))));refine dV rfl (by exact kJ rfl rfl) ?_;refine dV rfl (by exact aI T rfl rfl rfl rfl rfl (by omega) (by omega)) ?_;refine dE ?_;refine bD T rfl rfl rfl rfl rfl rfl (by decide) (lR rfl qc rfl) (aV ?_))|(refine rg 23 (vV (aK T rfl rfl rfl rfl) (mW rfl (bD T rfl rfl rfl rfl rfl rfl (by decide) rfl (aV ?_)))))|refine nZ ?_));all_goals first | (exfalso;omega) | exact ⟨.inl rfl,[3,4],_,rfl,rfl,rfl,⟨.inr (aC rfl rfl (bJ _)),.inr (aC rfl (ctn z1 z2) (fL _)),trivial⟩,by decide,jY _⟩
  by_cases k3:sk=3
  · rw [if_neg k0,if_neg k1,if_neg k2,if_pos k3];have hhs:=zP0 r1 r2 sn;unfold sC;dsimp only;generalize xL r1 r2 sn=hb' at *
    (repeat' (first|refine wS ?_|refine wR ?_|refine wT ?_|refine wU ?_|(refine rg 4 (vV (iE rfl rfl (by omega)) (aV ?_)))|(refine rg 10 (vV (iE rfl rfl (by omega)) (aV ?_)))|(refine rg 16 (vV (iE rfl rfl (by omega)) (aV ?_)))|(refine rg 18 (vV (lE rfl rfl (by omega)) (aV ?_)))|(refine bV (id:=19) 153 [[],[0],[],[0,1,2],rN 4,[],[5],rN 7] (rM 123 8) [[],[],[123,124],[],[],rM 123 5,rM 123 5,[]] cK rfl (by decide +kernel) (dP T rfl (dO T rfl (dN rfl (dV rfl (by exact aI T rfl rfl rfl rfl rfl (by omega) (by omega)) ?_))));refine dV rfl (by exact aK T rfl rfl (bF rfl qc) rfl) ?_;refine dP T rfl (dO T rfl (dV rfl (kC (hhs)) (dE ?_)));refine aV ?_)|(refine rg 20 (fW T rfl (vV (aK T rfl rfl rfl rfl) (mW rfl (fW T rfl (vV (aK T rfl rfl rfl rfl) (fW T rfl (vV (aK T rfl rfl rfl rfl) (vV (cE rfl rfl (by omega) (by omega)) (vV (by exact eO T rfl rfl rfl rfl) ?_)))))))));refine vV (by exact aI T rfl rfl rfl rfl rfl (by omega) (by omega)) ?_;refine bD T rfl rfl rfl rfl rfl rfl (by decide) (lR rfl qc rfl) ?_)|(refine rg 23 (vV (aK T rfl rfl rfl rfl) (mW rfl (bD T rfl rfl rfl rfl rfl rfl (by decide) rfl (aV ?_)))))|refine nZ ?_));all_goals first | (exfalso;omega) | exact ⟨.inl rfl,[3,4],_,rfl,rfl,rfl,⟨.inr (aC rfl rfl (bJ _)),.inr (aC rfl (ctn sn (sn+1)) (fL _)),trivial⟩,by decide,jY _⟩
  by_cases k5:sk=5
  · rw [if_neg k0,if_neg k1,if_neg k2,if_neg k3,if_pos k5];dsimp only
    (repeat' (first|refine wS ?_|refine wR ?_|refine wT ?_|refine wU ?_|(refine rg 4 (vV (iE rfl rfl (by omega)) (aV ?_)))|(refine rg 10 (vV (iE rfl rfl (by omega)) (aV ?_)))|(refine rg 16 (vV (iE rfl rfl (by omega)) (aV ?_)))|(refine rg 18 (vV (iE rfl rfl (by omega)) (aV ?_)))|(refine rg 21 (vV (lE rfl rfl (by omega)) (aV ?_)))|(refine bV (id:=22) 153 [[],[0],[],[0,1,2],rN 4,[],[5],rN 7] (rM 143 8) [[],[],[143,144],[],[],rM 143 5,rM 143 5,[]] cK rfl (by decide +kernel) (dP T rfl (dO T rfl (dN rfl (dV rfl (by exact aI T rfl rfl rfl rfl rfl (by omega) (by omega)) ?_))));refine dV rfl (by exact aK T rfl rfl (bF rfl qp) rfl) ?_;refine dP T rfl (dO T rfl (dV rfl (eD rfl rfl) (dE ?_)));refine aV ?_)|(refine rg 23 (vV (aK T rfl rfl rfl rfl) (mW rfl (bD T rfl rfl rfl rfl rfl rfl (by decide) rfl (aV ?_)))))|refine nZ ?_));all_goals first | (exfalso;omega) | exact ⟨.inl rfl,[3,4],_,rfl,rfl,rfl,⟨.inr (aC rfl rfl (bJ _)),.inr (aC rfl rfl (fL _)),trivial⟩,by decide,jY _⟩
  · rw [if_neg k0,if_neg k1,if_neg k2,if_neg k3,if_neg k5]
    (repeat' (first|refine wS ?_|refine wK ?_|refine wR ?_|refine wU ?_|(refine rg 4 (vV (iE rfl rfl (by omega)) (aV ?_)))|(refine rg 10 (vV (iE rfl rfl (by omega)) (aV ?_)))|(refine rg 16 (vV (iE rfl rfl (by omega)) (aV ?_)))|(refine rg 18 (vV (iE rfl rfl (by omega)) (aV ?_)))|(refine rg 21 (vV (iE rfl rfl (by omega)) (aV ?_)))|(refine rg 23 (lW T rfl (mW rfl (bD T rfl rfl rfl rfl rfl rfl (by decide) rfl (aV ?_)))))|refine nZ ?_));all_goals first | (exfalso;omega) | exact ⟨.inl rfl,[3,4],_,rfl,rfl,rfl,⟨.inr (aC rfl rfl (bJ _)),.inr (aC rfl rfl (fL _)),trivial⟩,by decide,jY _⟩
end Go.Proofs.YtmmmeebiobjnbaaGreat
namespace Go.Ld
open Go.Ab Go.Proofs.YtmmmeebiobjnbaaGreat
theorem JQ (c:Cx) (w:W) (i:Nat) (s:Ev):(kQ c w i s).1.1=w.1∧(kQ c w i s).1.2.2.length=w.2.2.length:=by
  unfold kQ sC;dsimp only
  repeat' split
  all_goals exact ⟨rfl,by first | rfl | exact gW⟩
end Go.Ld
namespace Go.Proofs.YtmmmeebiobjnbaaGreat
open Go Go.Ab Go.Ld
end Go.Proofs.YtmmmeebiobjnbaaGreat
