import Derived.Test.YtpiaiiopakafhaaGreatDoorQ5
namespace Go.Proofs.YtpiaiiopakafhaaGreatDoor
open Go.Ab Go.Tb
set_option maxRecDepth 10000
set_option maxHeartbeats 1000000
attribute [local irreducible] W WO Pu QS QB QL QF QV cz CH QE
variable {l:List UInt8}{i k j a:Nat}{b:UInt8}{p:Int}{w:World}{α:Type}
variable {f:List (Nat×A)}
variable {ps:List bP}
theorem Bm(t:ca):bp Tryz.prog 131 [.ag t.c] (.d (.v (.int .i64 (lz t)))) 0:=by
 refine bp.b6 (n:=24) (ts:=[2]) Tryz.func131 (by kernel_rfl) Z Tryz.ntmps131 Tryz.results131 Z Z fun C hC M=>ae<|aa<|cG Z Z Z<|pE Z<|ab<|qs<|ae<|ae<|?_
 apply bC;(case hb=>rfl);·repeat' first|refine b4 Z Z Z|refine bz Z Z ?_|refine bA Z Z Z Z ?_|refine pE Z ?_|refine ab ?_|(apply bN;(case hj=>rfl);(case hl=>rfl))
 refine qs (ba Z (fun I=>?_) (fun I=>?_));·
  have J:lz t=2:=by unfold lz;rw[if_pos (by simp at I;omega)]
  refine aZ 1 Z<|W.ret<|bl<|QF.bo trivial Z ?_;simp only[norm,bO,J]
 have J:lz t=cO t.name:=by unfold lz;rw[if_neg (by simp at I;omega)]
 refine ah<|qs<|ae<|aa<|aY 2 Z<|pu (bm Z Z Z (qL ..) Z) Z<|pE Z<|ab<|qs<|W.ret<|QF.bo trivial Z ?_;simp only[norm,bO,J]
theorem DX(ts):bp Tryz.prog 81 [.ag (jf ts)] (.d (.v (.int .i64 (eC ts)))) 0:=by
 refine bp.b6 (n:=81) (ts:=[2]) Tryz.func81 (by kernel_rfl) Z Tryz.ntmps81 Tryz.results81 Z Z fun C hC hG=>ae<|aa<|cG Z Z Z<|pE Z<|ab<|qs<|ae<|aZ 4 Z<|ba Z (fun h13=>?_)<|fun h13=>?_
 ·
  have hg:eC ts=8:=by
   have:(((ts.map ca.c).length:Nat):Int)=0:=μ h13
   rw[η]at this
   unfold eC;rw[if_pos (O' (by omega))]
  refine aZ 1 Z<|W.ret<|bl<|QF.bo trivial Z ?_
  rw[hg];rfl
 have hne:ts≠[]:=by
  intro e
  subst e
  exact absurd h13 (by decide)
 refine ah<|qs<|ae<|aZ 4 Z<|ba Z (fun h17=>?_)<|fun h17=>?_
 ·
  have hg:eC ts=7:=by simp at h17;unfold eC;rw[if_neg hne,if_pos (by omega)]
  refine aZ 1 Z<|W.ret<|bl<|QF.bo trivial Z ?_
  rw[hg];rfl
 have hlen:ts.length<=64:=by simp at h17;omega
 have hT:eC ts=mZ ts []:=by unfold eC;rw[if_neg hne,if_neg (by omega)]
 have hml:ts.length<=maxLen:=by simp only[maxLen];omega
 refine ah<|qs<|ae<|aZ 1 Z<|W.block<|W.bY (ι:={x:Nat//match x with|k=>k<=ts.length∧mZ (ts.drop k) ((ts.take k).map ca.id)=eC ts})
  (fun x=>match x.1 with|k=>[(1,.ptr 0 0),(3,.d (.v (.int .i64 ((k:Nat):Int))))]) []
  (fun x=>match x.1 with|k=>[(0,(jf ts).map A.d)]) [] [] 1 (fun x=>match x.1 with|k=>ts.length-k)
  [0] ⟨0,?_⟩ rfl ?_ trivial ?_ trivial rfl ?_
 ·exact⟨ς _,hT.symm⟩
 ·repeat' constructor
 ·repeat' constructor
 rintro⟨k,hk,hI⟩
 show W _ _ _ _ _ ⟨[(1,.ptr 0 0),(3,.d (.v (.int .i64 ((k:Nat):Int))))],[(0,(jf ts).map A.d)],[],1⟩
 refine ae<|aZ 5 Z<|ct (l:=ts) (k:=k) Z (by simp[Ex.bE,bh]) hk (fun t hx hd hlt=>?_)<|fun he hd=>?_
 ·
  rw[hd,mZ]at hI
  refine ah<|qs<|ae<|W.block<|ae<|aa<|aY 3 Z<|pu (indexAddr aW Z Z Z Z Z Z (ε _) (bF hx) Z) Z<|aY 1 Z<|pu (bm Z Z Z (Bm t) Z) Z<|pE Z<|ab<|qs<|ae<|aZ 2 Z<|ba Z (fun h32=>?_)<|fun h32=>?_
  ·
   have hg:eC ts=lz t:=by rw[<-hI,if_pos (by simpa using h32)]
   refine aZ 2 Z<|W.ret<|bl<|bw<|bl<|cN<|bw<|bl<|QF.bo trivial Z ?_
   rw[hg];rfl
  rw[if_neg (by simpa using h32)]at hI
  refine ah<|qs<|aZ 1 Z<|W.block<|W.bY (ι:={x:Nat//match x with|j=>j<=k∧t.id∉(ts.take j).map ca.id})
   (fun x=>match x.1 with|j=>[(1,.ptr 0 0),(5,.d (.v (.int .i64 ((j:Nat):Int))))]) [(3,_)]
   (fun x=>match x.1 with|j=>[(0,(jf ts).map A.d)]) [] [] 1 (fun x=>match x.1 with|j=>k-j)
   [0] ⟨0,?_⟩ rfl ?_ ⟨rfl,rfl,trivial⟩ ?_ trivial rfl ?_
  ·exact⟨ς _,by simp⟩
  ·repeat' constructor
  ·repeat' constructor
  rintro⟨j,hj,hJ⟩
  show W _ _ _ _ _ ⟨[(1,.ptr 0 0),(5,.d (.v (.int .i64 ((j:Nat):Int)))),(3,_)],[(0,(jf ts).map A.d)],[],1⟩
  refine ae<|aZ 3 Z<|ba Z (fun h36=>?_)<|fun h36=>?_
  ·
   have hjk:j<k:=by simp at h36;omega
   obtain⟨u,hu⟩:∃u,ts[j]?=some u:=⟨ts[j]'(by omega),by simp⟩
   have hum:u.id∈(ts.take k).map ca.id:=A'.2 ⟨u,ζ (by rw[List.getElem?_take_of_lt hjk];exact hu),rfl⟩
   refine ah<|qs<|ae<|W.block<|ae<|W.dK aW (by kernel_rfl)<|bt (ev aW Z) Z<|bt (ev aW Z) Z<|bt (ev aW Z) Z<|bt (indexAddr aW Z Z Z Z Z Z (ε _) (bF hu) Z) Z<|bt (ev aW Z) Z<|bt (ev aW Z) Z<|bt (ev aW Z) Z<|bt (ev aW Z) Z<|bt (ev aW Z) Z<|bt (indexAddr aW Z Z Z Z Z Z (ε _) (bF hx) Z) Z<|bt (ev aW Z) Z<|bt (ev aW Z) Z<|bt (ev aW Z) Z<|ao<|qs<|ba Z (fun h51=>?_)<|fun h51=>?_
   ·
    have he:u.id=t.id:=μ h51
    have hg:eC ts=4:=by rw[<-hI,if_pos (L'.2 ⟨_,hum,by simp[he]⟩)]
    refine aZ 1 Z<|W.ret<|bw<|bl<|cN<|bw<|bw<|bl<|cN<|bw<|bl<|QF.bo trivial Z ?_
    rw[hg];rfl
   have he:¬u.id=t.id:=υ h51
   refine ah<|bW<|qs<|aa<|pE Z<|pu (b5 (ev aW Z) (y:=((j+1:Nat):Int)) ((wrap64 (by omega)).trans (by omega))) Z<|pE Z<|ab<|W.bZ [0] ⟨j+1,?_⟩ ?_ Z ?_ ⟨rfl,rfl,trivial⟩ ?_ trivial Z
   ·exact⟨hjk,by rw[Ψ,hu,I',F'];rintro(q|q);exact hJ q;simp at q;exact he q.symm⟩
   ·dsimp only;omega
   ·repeat' constructor
   repeat' constructor
  have hjk:j=k:=by simp at h36;omega
  subst hjk
  have hti:(ts.take (j+1)).map ca.id=(ts.take j).map ca.id++[t.id]:=by rw[Ψ,hx,I'];rfl
  rw[if_neg (by simp only[L',Δ,not_exists,not_and];rintro x hx2 rfl;exact hJ hx2),←hti]at hI
  refine an<|bL<|bM<|bK<|bW<|qs<|cJ 3 Z<|W.bZ [0] ⟨j+1,?_⟩ ?_ Z ?_ trivial ?_ trivial Z
  ·exact⟨hlt,hI⟩
  ·dsimp only;omega
  ·repeat' first|exact trivial|refine⟨rfl,?_⟩|refine⟨bH (by assumption) (by assumption),?_⟩
  repeat' constructor
 have hg:eC ts=0:=by rw[<-hI,hd];rfl
 refine an<|bL<|bM<|bK<|qs<|ae<|aa<|aY 4 Z<|pu (bm Z Z Z xA Z) Z<|pE Z<|ab<|qs<|ae<|aZ 2 Z<|ba Z (fun h58=>?_)<|fun h58=>?_
 ·
  exfalso;exact absurd h58 (by decide)
 refine ah<|qs<|ae<|aZ 1 Z<|W.block<|W.bY (ι:={x:Nat//match x with|k=>k<=ts.length})
  (fun x=>match x.1 with|k=>[(1,.ptr 0 0),(7,.d (.v (.int .i64 ((k:Nat):Int))))]) []
  (fun x=>match x.1 with|k=>[(0,(jf ts).map A.d)]) [] [] 1 (fun x=>match x.1 with|k=>ts.length-k)
  [0] ⟨0,?_⟩ rfl ?_ trivial ?_ trivial rfl ?_
 ·exact ς _
 ·repeat' constructor
 ·repeat' constructor
 rintro⟨k,hk⟩
 show W _ _ _ _ _ ⟨[(1,.ptr 0 0),(7,.d (.v (.int .i64 ((k:Nat):Int))))],[(0,(jf ts).map A.d)],[],1⟩
 refine ae<|aZ 5 Z<|ct (l:=ts) (k:=k) Z (by simp[Ex.bE,bh]) hk (fun t hx hd hlt=>?_)<|fun he hd=>?_
 ·
  refine ah<|qs<|ae<|W.block<|ae<|W.dK aW (by kernel_rfl)<|bt (ev aW Z) Z<|bt (ev aW Z) Z<|bt (ev aW Z) Z<|bt (ev aW Z) Z<|bt (ev aW Z) Z<|bt (indexAddr aW Z Z Z Z Z Z (ε _) (bF hx) Z) Z<|bt (ev aW Z) Z<|bt (ev aW Z) Z<|bt (bm Z Z Z It Z) Z<|bt (ev aW Z) Z<|bt (ev aW Z) Z<|bt (ev aW Z) Z<|bt (ev aW Z) Z<|bt (ev aW Z) Z<|ao<|qs<|aZ 2 Z<|ba Z (fun h80=>?_)<|fun h80=>?_
  ·
   exfalso;exact absurd h80 (by decide)
  refine ah<|bW<|qs<|cJ 3 Z<|W.bZ [0] ⟨k+1,?_⟩ ?_ Z ?_ trivial ?_ trivial Z
  ·exact hlt
  ·dsimp only;omega
  ·repeat' first|exact trivial|refine⟨rfl,?_⟩|refine⟨bH (by assumption) (by assumption),?_⟩
  repeat' constructor
 refine an<|bL<|bM<|bK<|qs<|aZ 1 Z<|W.ret<|QF.bo trivial Z ?_
 rw[hg];rfl
theorem A3(J:(ps.map bP.thread).Nodup)(th):ps.filter (fun p=>decide (p.thread=th))=(ps.find? fun p=>decide (p.thread=th)).toList:=by
 cases I:ps.find? fun p=>decide (p.thread=th)with
 |none=>rw[List.filter_eq_nil_iff.2 (fun p hp=>by have:=List.find?_eq_none.1 I p hp;simpa using this)];rfl
 |some p=>
  obtain⟨k,M⟩:=Γ.1 (List.mem_of_find?_eq_some I);have N:p.thread=th:=by simpa using List.find?_some I
  subst N;rw[FC J M];rfl
theorem I0(ts)(ps:List bP)(okp:qx ts ps)(hpl:ps.length<=1000):bp Tryz.prog 32 [.ag (jf ts),.d (.sl (ps.map bP.c))] (.tup [.ag (ez ts ps).1.c,.d (ci (ez ts ps).2)]) 0:=by
 have hpm:ps.length<=maxLen:=by simp only[maxLen];omega
 refine bp.dk aW (n:=76) (rs:=[.cell 4 30,.tmp 5]) Tryz.func32 (by kernel_rfl) Z Tryz.ntmps32 Tryz.results32 Z fun C hC hG=>ae<|aa<|cG Z Z Z<|bT aW Z Z Z<|pE Z<|ab<|qs<|ae<|aa<|aY 1 Z<|pu (bm Z Z Z (DX ts) Z) Z<|pE Z<|ab<|qs<|ae<|aZ 2 Z<|ba Z (fun h13=>?_)<|fun h13=>?_
 ·
  have hg:ez ts ps=(gm,eC ts):=by unfold ez;rw[if_pos (by simpa using h13)]
  refine ae<|aa<|pu (build aW Z Z Z Z) Z<|gx 14 Z Z Z<|pE Z<|be aW Z Z Z Z Z Z Z Z<|pE Z<|ab<|qs<|W.ret<|bl<|QV.bo aW trivial Z ?_
  rw[hg];rfl
 have h0:eC ts=0:=by simpa using h13
 obtain⟨ok,hne0,h64⟩:=qU h0
 have hn:(ps.map bP.thread).Nodup:=ok.2.sublist okp.1
 refine ah<|qs<|ae<|aZ 1 Z<|W.block<|W.bY (ι:={x:Nat//match x with|k=>k<=ps.length∧fC (ps.drop k)=fC ps})
  (fun x=>match x.1 with|k=>[(2,.ptr 0 0),(4,.ptr 1 0),(7,.d (.v (.int .i64 ((k:Nat):Int))))]) [(1,_)]
  (fun x=>match x.1 with|k=>[(0,(jf ts).map A.d),(1,[.d (.v (.slice none 0 0)),.d (.v (.slice none 0 0)),.d (.v (.slice none 0 0)),.d (.v (.slice none 0 0))])]) [] [] 2 (fun x=>match x.1 with|k=>ps.length-k)
  [0,1] ⟨0,?_⟩ rfl ?_ ⟨rfl,rfl,trivial⟩ ?_ trivial rfl ?_
 ·exact⟨ς _,rfl⟩
 ·repeat' constructor
 ·repeat' constructor
 rintro⟨k,hk,hI⟩
 show W _ _ _ _ _ ⟨[(2,.ptr 0 0),(4,.ptr 1 0),(7,.d (.v (.int .i64 ((k:Nat):Int)))),(1,_)],[(0,(jf ts).map A.d),(1,[.d (.v (.slice none 0 0)),.d (.v (.slice none 0 0)),.d (.v (.slice none 0 0)),.d (.v (.slice none 0 0))])],[],2⟩
 refine ae<|aZ 4 Z<|ct (l:=ps) (k:=k) Z (by simp[Ex.bE,bh]) hk (fun p hx hd hlt=>?_)<|fun he hd=>?_
 ·
  obtain⟨hs0,hl0,he0,he1⟩:=okp.2.1 p (ζ hx)
  have hpt:p.thread∈ts.map ca.id:=okp.1.subset (A'.2 ⟨p,ζ hx,rfl⟩)
  have hth:0<=p.thread∧p.thread<=1000000000000000:=by
   obtain⟨t,ht,e⟩:=A'.1 hpt
   have:=ok.1 t ht
   omega
  have hnt:=ly hn hx
  rw[hd,fC]at hI
  obtain⟨th,se,lo,evs⟩:=p
  simp only at hs0 hl0 he0 he1 hth hpt hnt hI
  subst hs0
  subst hl0
  obtain⟨e,r,her⟩:∃e r,evs=e::r:=by
   cases evs with
   |nil=>simp at he0
   |cons e r=>exact⟨e,r,rfl⟩
  subst her
  have htk:(ps.take k).length<=1000:=by rw[List.length_take];omega
  refine ah<|qs<|ae<|W.block<|ae<|aa<|aY 2 Z<|pu (indexAddr (l:=bP.c ⟨th,0,0,e::r⟩) aW Z Z Z Z Z Z (ε _) (bF hx) Z) Z<|aY 1 Z<|pu (bm Z Z Z (CW ⟨th,0,0,e::r⟩ hth Z Z ⟨he0,he1⟩) Z) Z<|pE Z<|ab<|qs<|ae<|aZ 2 Z<|ba Z (fun h28=>?_)<|fun h28=>?_
  ·
   have hne:iv (e::r) none≠0:=by simpa using h28
   rw[if_pos hne]at hI
   have hg:ez ts ps=(gm,iv (e::r) none):=by unfold ez;rw[if_neg (by simp[h0]),←hI,if_pos hne]
   refine ae<|aa<|pu (build aW Z Z Z Z) Z<|gx 29 Z Z Z<|pE Z<|be aW Z Z Z Z Z Z Z Z<|pE Z<|ab<|qs<|W.ret<|bl<|bw<|bl<|cN<|bw<|bl<|QV.bo aW trivial Z ?_
   rw[hg];rfl
  have ha0:iv (e::r) none=0:=by simpa using h28
  rw[if_neg (by simpa using ha0)]at hI
  have ht0:0<=e.time:=B7 (p:=⟨th,0,0,e::r⟩) Z ha0
  refine ah<|qs<|ae<|ae<|W.dK aW (by kernel_rfl)<|bt (ev aW Z) Z<|bt (ev aW Z) Z<|bt (ev aW Z) Z<|bt (indexAddr (l:=bP.c ⟨th,0,0,e::r⟩) aW Z Z Z Z Z Z (ε _) (bF hx) Z) Z<|bt (ev aW Z) Z<|bt (ev aW Z) Z<|bt (bm Z Z Z (Ei ts (by omega) th hpt) Z) Z<|bt (ev aW Z) Z<|ao<|qs<|ba Z (fun h38=>?_)<|fun h38=>?_
  ·
   exfalso;exact absurd h38 (by decide)
  refine ah<|qs<|ae<|W.dK aW (by kernel_rfl)<|bt (ev aW Z) Z<|bt (ev aW Z) Z<|bt (qD (fn:=bP.c) (l:=ps) (i:=0) (j:=(k:Int)) (r:=ps.take k) aW Z Z Z Z Z (fun _=>rfl) Z Z (by decide) (by omega) (by omega) Z) Z<|bt (ev aW Z) Z<|bt (ev aW Z) Z<|bt (indexAddr (l:=bP.c ⟨th,0,0,e::r⟩) aW Z Z Z Z Z Z (ε _) (bF hx) Z) Z<|bt (ev aW Z) Z<|bt (bm Z Z Z (Bc (ps.take k) htk th hnt e r ht0) Z) Z<|bt (ev aW Z) Z<|ao<|qs<|ba Z (fun h48=>?_)<|fun h48=>?_
  ·
   exfalso;exact absurd h48 (by decide)
  refine ah<|bW<|qs<|cJ 3 Z<|W.bZ [0,1] ⟨k+1,?_⟩ ?_ Z ?_ ⟨rfl,rfl,trivial⟩ ?_ trivial Z
  ·exact⟨hlt,hI⟩
  ·dsimp only;omega
  ·repeat' first|exact trivial|refine⟨rfl,?_⟩|refine⟨bH (by assumption) (by assumption),?_⟩
  repeat' constructor
 rw[hd]at hI
 have hc0:fC ps=0:=hI.symm
 have hg:ez ts ps=(⟨ts,dV,ps⟩,0):=by unfold ez;rw[if_neg (by simp[h0]),if_neg (by simp[hc0])]
 have htm:ts.length<=maxLen:=by simp only[maxLen];omega
 refine an<|bL<|bM<|bK<|qs<|ae<|ae<|aa<|pE Z<|pu (bm Z Z Z (El ps hpl okp.2.2) Z) Z<|pE Z<|ab<|qs<|ba Z (fun h52=>?_)<|fun h52=>?_
 ·
  exfalso
  have:=μ h52
  have h20:=okp.2.2
  omega
 refine ah<|qs<|ae<|aa<|aY 1 Z<|pu (build aW Z Z Z Z) Z<|bT aW Z Z Z<|be aW Z Z Z Z Z Z Z Z<|ab<|qs<|ae<|ae<|ey 2 3 Z Z Z<|cJ 1 Z<|qs<|W.block<|W.bY (ι:={x:Nat×List bP//match x with|(k,m)=>k<=ts.length∧m=mD (ts.take k) ps})
  (fun x=>match x.1 with|(k,m)=>[(2,.ptr 0 0),(4,.ptr 1 0),(8,.ptr 2 0),(9,.d (.v (.int .i64 ((k:Nat):Int))))]) [(1,_)]
  (fun x=>match x.1 with|(k,m)=>[(0,(jf ts).map A.d),(1,[.d (.v (.slice none 0 0)),.d (.v (.slice none 0 0)),.d (.v (.slice none 0 0)),.d (.v (.slice none 0 0))]),(2,[.d (.sl (ts.map ca.c)),.d (.sl (dV.map dv)),.d (.sl []),.own 3 (m.map bP.c)])]) [] [3] 4 (fun x=>match x.1 with|(k,m)=>ts.length-k)
  [0,1,2,3] ⟨(0,[]),?_⟩ rfl ?_ ⟨rfl,rfl,trivial⟩ ?_ trivial rfl ?_
 ·exact⟨ς _,rfl⟩
 ·repeat' constructor
 ·repeat' constructor
 rintro⟨⟨k,m⟩,hk,hM⟩
 show W _ _ _ _ _ ⟨[(2,.ptr 0 0),(4,.ptr 1 0),(8,.ptr 2 0),(9,.d (.v (.int .i64 ((k:Nat):Int)))),(1,_)],[(0,(jf ts).map A.d),(1,[.d (.v (.slice none 0 0)),.d (.v (.slice none 0 0)),.d (.v (.slice none 0 0)),.d (.v (.slice none 0 0))]),(2,[.d (.sl (ts.map ca.c)),.d (.sl (dV.map dv)),.d (.sl []),.own 3 (m.map bP.c)])],[3],4⟩
 refine ae<|aZ 5 Z<|ct (l:=ts) (k:=k) Z (by simp[Ex.bE,bh]) hk (fun t hx hd hlt=>?_)<|fun he hd=>?_
 ·
  obtain⟨ql,hql⟩:∃ql,ql=(ps.find? fun p=>decide (p.thread=t.id)).toList:=⟨_,rfl⟩
  have hmn:m++ql=mD (ts.take (k+1)) ps:=by rw[hM,hql];unfold mD;rw[Ψ,hx,List.flatMap_append];simp
  have hml:m.length<=64:=by rw[hM];exact zb ps (by simp;omega)
  have hq1:ql.length<=1:=by rw[hql];cases ps.find? _<;>simp
  have hpf:=CT t.id ps (by omega) hn okp.2.1
  have hpd:iU (.d (fU t.id ps))=some (ql.map bP.c):=by
   unfold fU
   rw[A3 hn,←hql]
   cases ql<;>rfl
  refine ah (qs (ae (W.block (W.ox aW [] [] [] [] 10 (by kernel_rfl) (by kernel_rfl) Z Z ?_))))
  refine' bQ (ev aW Z) ?p_1 Z Z Z (by kernel_rfl) Z ?h_1
  case' h_1=>skip
  case p_1=>refine⟨fun ha=>bc ha,?_⟩<;>intro ha<;>first|exact⟨ev aW rfl,fun h=>nomatch h⟩|exact bc ha
  refine' bQ (ev aW Z) ?p_2 Z Z Z (by kernel_rfl) Z ?h_2
  case' h_2=>skip
  case p_2=>refine⟨fun ha=>bc ha,?_⟩<;>intro ha<;>first|exact⟨ev aW rfl,fun h=>nomatch h⟩|exact⟨eH aW rfl rfl rfl rfl,fun h=>nomatch h⟩|exact⟨eI aW rfl rfl rfl rfl rfl,fun h=>nomatch h⟩|exact bc ha
  refine' bQ (ev aW Z) ?p_3 Z Z Z (by kernel_rfl) Z ?h_3
  case' h_3=>skip
  case p_3=>refine⟨fun ha=>bc ha,?_⟩<;>intro ha<;>first|exact⟨ev aW rfl,fun h=>nomatch h⟩|exact bc ha
  refine' bQ (ev aW Z) ?p_4 Z Z Z (by kernel_rfl) Z ?h_4
  case' h_4=>skip
  case p_4=>refine⟨fun ha=>bc ha,?_⟩<;>intro ha<;>first|exact⟨ev aW rfl,fun h=>nomatch h⟩|exact⟨eH aW rfl rfl rfl rfl,fun h=>nomatch h⟩|exact⟨eI aW rfl rfl rfl rfl rfl,fun h=>nomatch h⟩|exact bc ha
  refine' bQ (ev aW Z) ?p_5 Z Z Z (by kernel_rfl) Z ?h_5
  case' h_5=>skip
  case p_5=>refine⟨fun ha=>bc ha,?_⟩<;>intro ha<;>first|exact⟨ev aW rfl,fun h=>nomatch h⟩|exact bc ha
  refine' bQ (indexAddr aW Z Z Z Z Z Z (ε _) (bF hx) Z) ?p_6 Z Z Z (by kernel_rfl) Z ?h_6
  case' h_6=>skip
  case p_6=>refine⟨fun ha=>bc ha,?_⟩<;>intro ha<;>first|exact⟨indexAddr aW rfl rfl rfl rfl rfl rfl (ε _) (bF hx) rfl,fun h=>nomatch h⟩|exact bc ha
  refine' bQ (ev aW Z) ?p_7 Z Z Z (by kernel_rfl) Z ?h_7
  case' h_7=>skip
  case p_7=>refine⟨fun ha=>bc ha,?_⟩<;>intro ha<;>first|exact⟨ev aW rfl,fun h=>nomatch h⟩|exact bc ha
  refine' bQ (ev aW Z) ?p_8 Z Z Z (by kernel_rfl) Z ?h_8
  case' h_8=>skip
  case p_8=>refine⟨fun ha=>bc ha,?_⟩<;>intro ha<;>first|exact⟨ev aW rfl,fun h=>nomatch h⟩|exact⟨eH aW rfl rfl rfl rfl,fun h=>nomatch h⟩|exact⟨eI aW rfl rfl rfl rfl rfl,fun h=>nomatch h⟩|exact bc ha
  refine' bQ (ev aW Z) ?p_9 Z Z Z (by kernel_rfl) Z ?h_9
  case' h_9=>skip
  case p_9=>refine⟨fun ha=>bc ha,?_⟩<;>intro ha<;>first|exact⟨ev aW rfl,fun h=>nomatch h⟩|exact bc ha
  refine' bQ (bm Z Z Z hpf Z) ?p_10 Z Z Z (by kernel_rfl) Z ?h_10
  case' h_10=>skip
  case p_10=>refine⟨fun ha=>bc ha,?_⟩<;>intro ha<;>first|exact⟨bm rfl rfl rfl hpf rfl,fun h=>nomatch h⟩|exact bc ha
  refine ax ?_ Z
  refine zn (l2:=ql) (fn:=bP.c) aW Z Z hpd Z Z Z Z Z Z Z (fun _=>rfl) (by show(m.length+ql.length)*48<=_;omega)<|pE Z<|be aW Z Z Z Z Z Z Z Z<|ab<|bW<|qs<|cJ 3 Z<|W.bZ [0,1,2,4] ⟨(k+1,m++ql),?_⟩ ?_ Z ?_ ⟨rfl,rfl,trivial⟩ ?_ trivial Z
  ·exact⟨hlt,hmn⟩
  ·dsimp only;omega
  ·repeat' first|exact trivial|refine⟨rfl,?_⟩|refine⟨bH (by assumption) (by assumption),?_⟩
  repeat' constructor
 have hpm2:m=ps:=by rw[hM,List.take_of_length_le (by omega),oL okp.1 ok.2]
 subst hpm2
 refine an<|bL<|bM<|bK<|qs<|ae<|aa<|aY 1 Z<|be aW Z Z Z Z Z Z Z Z<|pE Z<|ab<|qs<|W.ret<|QV.bo aW trivial Z ?_
 rw[hg];rfl
theorem E8(a b:List ca):bp Tryz.prog 44 [.d (.sl (a.map ca.c)),.d (.sl (b.map ca.c))] (.d (.v (.bool (decide (a=b))))) 0:=by
 refine bp.b6 (n:=26) (ts:=[4]) Tryz.func44 (by kernel_rfl) Z Tryz.ntmps44 Tryz.results44 Z Z fun C hC hG=>aZ 1 Z<|ae<|aZ 5 Z<|ba Z (fun I=>?_)<|fun I=>?_;·
  have J:decide (a=b)=false:=decide_eq_false (by rintro rfl;simp at I);refine aZ 1 Z<|W.ret<|bl<|QF.bo trivial Z ?_;rw[J];rfl
 have ai:a.length=b.length:=by simp at I;omega
 refine ah<|qs<|ae<|aZ 3 Z<|W.block<|W.len (t:=0) Z Z<|fun hlen=>?_;try simp only[η,Ex.bE]at hlen
 refine W.bY (ι:={x:Nat//match x with|k=>k<=a.length∧(a.drop k=b.drop k↔a=b)})
  (fun x=>match x.1 with|k=>[(13,.d (.v (.int .i64 ((k:Nat):Int))))]) [(0,_),(1,_),(12,_)]
  (fun x=>match x.1 with|k=>[]) [] [] 0 (fun x=>match x.1 with|k=>a.length-k)
  [] ⟨0,?_⟩ Z ?_ ⟨rfl,rfl,rfl,rfl,rfl,rfl,trivial⟩ ?_ trivial Z ?_
 ·exact⟨ς _,by simp⟩
 ·repeat' constructor
 ·repeat' exact trivial
 rintro⟨k,hk,M⟩;show W _ _ _ _ _ ⟨[(13,.d (.v (.int .i64 ((k:Nat):Int)))),(0,_),(1,_),(12,_)],[],[],0⟩;refine aZ 1 Z<|ae<|ct (l:=a) (k:=k) Z (by simp[Ex.bE,bh]) hk (fun x hx hd ad=>?_)<|fun he hd=>?_;·
  obtain⟨y,hy⟩:∃y,b[k]?=some y:=⟨b[k]'(by omega),by simp⟩;have N:b.drop k=y::b.drop (k+1):=by
   have X:k<b.length:=by omega
   have:=List.drop_eq_getElem_cons X;rw[this,(δ.1 hy).2]
  rw[hd,N]at M;refine ah<|qs<|ae<|W.block<|aZ 2 Z<|ae<|W.dK aW (by kernel_rfl)<|bt (ev aW Z) Z<|bt (ev aW Z) Z<|bt (indexAddr (l:=x.c) aW Z Z Z Z Z Z (ε _) (bF hx) Z) Z ?_
  refine bt (ev aW Z) Z<|bt (ev aW Z) Z<|bt (ev aW Z) Z<|bt (indexAddr (l:=y.c) aW Z Z Z Z Z Z (ε _) (bF hy) Z) Z ?_
  refine bt (ev aW Z) Z<|bt (ev aW Z) Z<|ao<|qs<|ba Z (fun O=>?_)<|fun O=>?_;·
   have U:x≠y:=by rintro rfl;simp at O
   have J:decide (a=b)=false:=decide_eq_false (fun q=>by have:=M.2 q;simp at this;exact U this.1);refine aZ 1 Z<|W.ret<|bw<|bl<|cN<|bw<|bl<|QF.bo trivial Z ?_;rw[J];rfl
  have U:x=y:=by
   have q:x.id=y.id∧x.name=y.name:=by simpa using O
   cases x;cases y;simp_all
  have hn:a.drop (k+1)=b.drop (k+1)↔a=b:=by rw[<-M,U];simp
  refine ah<|bW<|qs<|cJ 2 Z<|W.bZ [] ⟨k+1,?_⟩ ?_ Z ?_ ⟨rfl,rfl,rfl,rfl,rfl,rfl,trivial⟩ ?_ trivial Z;·exact⟨ad,hn⟩
  ·dsimp only;omega
  ·repeat' first|exact trivial|refine⟨bH (by assumption) (by assumption),?_⟩
  repeat' exact trivial
 have N:b.drop k=[]:=List.drop_eq_nil_of_le (by have:=congrArg List.length hd;simp at this;omega);rw[hd,N]at M;have J:decide (a=b)=true:=decide_eq_true (M.1 Z);refine an<|bL<|bM<|bK<|qs<|aZ 1 Z<|W.ret<|QF.bo trivial Z ?_;rw[J];rfl
theorem DQ(a b:List (Int×Int)):bp Tryz.prog 45 [.d (.sl (a.map dv)),.d (.sl (b.map dv))] (.d (.v (.bool (decide (a=b))))) 0:=by
 refine bp.b6 (n:=26) (ts:=[4]) Tryz.func45 (by kernel_rfl) Z Tryz.ntmps45 Tryz.results45 Z Z fun C hC hG=>aZ 1 Z<|ae<|aZ 5 Z<|ba Z (fun I=>?_)<|fun I=>?_;·
  have J:decide (a=b)=false:=decide_eq_false (by rintro rfl;simp at I);refine aZ 1 Z<|W.ret<|bl<|QF.bo trivial Z ?_;rw[J];rfl
 have ai:a.length=b.length:=by simp at I;omega
 refine ah<|qs<|ae<|aZ 3 Z<|W.block<|W.len (t:=0) Z Z<|fun hlen=>?_;try simp only[η,Ex.bE]at hlen
 refine W.bY (ι:={x:Nat//match x with|k=>k<=a.length∧(a.drop k=b.drop k↔a=b)})
  (fun x=>match x.1 with|k=>[(13,.d (.v (.int .i64 ((k:Nat):Int))))]) [(0,_),(1,_),(12,_)]
  (fun x=>match x.1 with|k=>[]) [] [] 0 (fun x=>match x.1 with|k=>a.length-k)
  [] ⟨0,?_⟩ Z ?_ ⟨rfl,rfl,rfl,rfl,rfl,rfl,trivial⟩ ?_ trivial Z ?_
 ·exact⟨ς _,by simp⟩
 ·repeat' constructor
 ·repeat' exact trivial
 rintro⟨k,hk,M⟩;show W _ _ _ _ _ ⟨[(13,.d (.v (.int .i64 ((k:Nat):Int)))),(0,_),(1,_),(12,_)],[],[],0⟩;refine aZ 1 Z<|ae<|ct (l:=a) (k:=k) Z (by simp[Ex.bE,bh]) hk (fun x hx hd ad=>?_)<|fun he hd=>?_;·
  obtain⟨y,hy⟩:∃y,b[k]?=some y:=⟨b[k]'(by omega),by simp⟩;have N:b.drop k=y::b.drop (k+1):=by
   have X:k<b.length:=by omega
   have:=List.drop_eq_getElem_cons X;rw[this,(δ.1 hy).2]
  rw[hd,N]at M;refine ah<|qs<|ae<|W.block<|aZ 2 Z<|ae<|W.dK aW (by kernel_rfl)<|bt (ev aW Z) Z<|bt (ev aW Z) Z<|bt (indexAddr (l:=dv x) aW Z Z Z Z Z Z (ε _) (bF hx) Z) Z ?_
  refine bt (ev aW Z) Z<|bt (ev aW Z) Z<|bt (ev aW Z) Z<|bt (indexAddr (l:=dv y) aW Z Z Z Z Z Z (ε _) (bF hy) Z) Z ?_
  refine bt (ev aW Z) Z<|bt (ev aW Z) Z<|ao<|qs<|ba Z (fun O=>?_)<|fun O=>?_;·
   have U:x≠y:=by rintro rfl;simp at O
   have J:decide (a=b)=false:=decide_eq_false (fun q=>by have:=M.2 q;simp at this;exact U this.1);refine aZ 1 Z<|W.ret<|bw<|bl<|cN<|bw<|bl<|QF.bo trivial Z ?_;rw[J];rfl
  have U:x=y:=by
   have q:x.1=y.1∧x.2=y.2:=by simpa[dv]using O
   exact Prod.ext q.1 q.2
  have hn:a.drop (k+1)=b.drop (k+1)↔a=b:=by rw[<-M,U];simp
  refine ah<|bW<|qs<|cJ 2 Z<|W.bZ [] ⟨k+1,?_⟩ ?_ Z ?_ ⟨rfl,rfl,rfl,rfl,rfl,rfl,trivial⟩ ?_ trivial Z;·exact⟨ad,hn⟩
  ·dsimp only;omega
  ·repeat' first|exact trivial|refine⟨bH (by assumption) (by assumption),?_⟩
  repeat' exact trivial
 have N:b.drop k=[]:=List.drop_eq_nil_of_le (by have:=congrArg List.length hd;simp at this;omega);rw[hd,N]at M;have J:decide (a=b)=true:=decide_eq_true (M.1 Z);refine an<|bL<|bM<|bK<|qs<|aZ 1 Z<|W.ret<|QF.bo trivial Z ?_;rw[J];rfl
theorem FG:bp Tryz.prog 46 [.d (.sl []),.d (.sl [])] (.d (.v (.bool true))) 0:=by
 refine bp.b6 (n:=26) (ts:=[4]) Tryz.func46 (by kernel_rfl) Z Tryz.ntmps46 Tryz.results46 Z Z fun C hC O=>aZ 1 Z<|ae<|aZ 5 Z<|ba Z (fun I=>?_)<|fun I=>?_;·exfalso;simp at I
 refine ah<|qs<|ae<|aZ 3 Z<|W.block<|W.bY (ι:={x:Nat//match x with|k=>k<=([]:List (List D)).length})
  (fun x=>match x.1 with|k=>[(13,.d (.v (.int .i64 ((k:Nat):Int))))]) [(0,_),(1,_),(12,_)]
  (fun x=>match x.1 with|k=>[]) [] [] 0 (fun x=>match x.1 with|k=>([]:List (List D)).length-k)
  [] ⟨0,?_⟩ Z ?_ ⟨rfl,rfl,rfl,rfl,rfl,rfl,trivial⟩ ?_ trivial Z ?_
 ·exact ς _
 ·repeat' constructor
 ·repeat' exact trivial
 rintro⟨k,J⟩;show W _ _ _ _ _ ⟨[(13,.d (.v (.int .i64 ((k:Nat):Int)))),(0,_),(1,_),(12,_)],[],[],0⟩;refine aZ 1 Z<|ae<|ct (l:=([]:List (List D))) (k:=k) Z (by simp[Ex.bE,bh]) J (fun d M hd N=>?_)<|fun he hd=>?_;·exfalso;simp at M
 refine an<|bL<|bM<|bK<|qs<|aZ 1 Z<|W.ret<|QF.bo trivial Z ?_;rfl
theorem Cu(fid)(p:Ev->Ev->Bool)(hp:∀x y:Ev,bp Tryz.prog fid [.ag (Ev.c x),.ag (Ev.c y)] (.d (.v (.bool (p x y)))) 0)(l m:List Ev):
 bp Tryz.prog 93 [.d (.sl (l.map Ev.c)),.d (.sl (m.map Ev.c)),.clo fid []] (.d (.v (.bool (gM p l m)))) 0:=by
 refine bp.b6 (n:=32) (ts:=[6]) Tryz.func93 (by kernel_rfl) Z Tryz.ntmps93 Tryz.results93 Z Z fun C hC hG=>aZ 1 Z<|ae<|aZ 5 Z<|ba Z (fun J=>?_)<|fun J=>?_;·
  have M:gM p l m=false:=by
   cases he:gM p l m with
   |false=>rfl
   |true=>have:=ve he;simp at J;omega
  refine aZ 1 Z<|W.ret<|bl<|QF.bo trivial Z ?_;rw[M];rfl
 have hl:l.length=m.length:=by simp at J;omega
 refine ah<|qs<|ae<|aZ 3 Z<|W.block<|W.len (t:=0) Z Z<|fun hlen=>?_;try simp only[η,Ex.bE]at hlen
 refine W.bY (ι:={x:Nat//match x with|k=>k<=l.length∧gM p (l.drop k) (m.drop k)=gM p l m})
  (fun x=>match x.1 with|k=>[(17,.d (.v (.int .i64 ((k:Nat):Int))))]) [(1,_),(2,_),(15,_),(16,_)]
  (fun x=>match x.1 with|k=>[]) [] [] 0 (fun x=>match x.1 with|k=>l.length-k)
  [] ⟨0,?_⟩ Z ?_ ⟨rfl,rfl,rfl,rfl,rfl,rfl,rfl,rfl,trivial⟩ ?_ trivial Z ?_
 ·exact⟨ς _,by simp⟩
 ·repeat' constructor
 ·repeat' exact trivial
 rintro⟨k,hk,I⟩;show W _ _ _ _ _ ⟨[(17,.d (.v (.int .i64 ((k:Nat):Int)))),(1,_),(2,_),(15,_),(16,_)],[],[],0⟩;refine aZ 1 Z<|ae<|ct (l:=l) (k:=k) Z (by simp[Ex.bE,bh]) hk (fun x hx hd U=>?_)<|fun he hd=>?_;·
  obtain⟨y,hy,X⟩:=CM (l:=m) (k:=k) (by omega);rw[hd,X]at I;simp only[gM]at I;have ad:=hp x y;refine ah<|qs<|ae<|W.block<|ae<|aa<|pE Z<|pu (indexAddr (l:=Ev.c x) aW Z Z Z Z Z Z (ε _) (bF hx) Z) Z<|aY 1 Z<|bT aW Z Z Z<|pE Z<|be aW Z Z Z Z Z Z Z Z<|ab<|qs<|ae<|aa<|aY 2 Z<|pu (indexAddr (l:=Ev.c y) aW Z Z Z Z Z Z (ε _) (bF hy) Z) Z<|aY 1 Z<|bT aW Z Z Z<|be aW Z Z Z Z Z Z Z Z<|ab<|qs<|ae<|aa<|aY 3 Z<|pu (bm Z Z Z ad Z) Z<|pE Z<|ab<|qs<|ba Z (fun N=>?_)<|fun N=>?_;·
   have O:p x y=false:=by simpa using N
   have M:gM p l m=false:=by rw[<-I,O];rfl
   refine aZ 1 Z<|W.ret<|bw<|bl<|cN<|bw<|bl<|QF.bo trivial Z ?_;rw[M];rfl
  have O:p x y=true:=by simpa using N
  rw[O,Bool.true_and]at I;refine ah<|bW<|qs<|cJ 2 Z<|W.bZ [] ⟨k+1,?_⟩ ?_ Z ?_ ⟨rfl,rfl,rfl,rfl,rfl,rfl,rfl,rfl,trivial⟩ ?_ trivial Z;·exact⟨U,I⟩
  ·dsimp only;omega
  ·repeat' first|exact trivial|refine⟨bH (by assumption) (by assumption),?_⟩
  repeat' exact trivial
 rw[hd,dropEnd (l:=m) (by omega)]at I;have M:gM p l m=true:=I.symm;refine an<|bL<|bM<|bK<|qs<|aZ 1 Z<|W.ret<|QF.bo trivial Z ?_;rw[M];rfl
theorem CN(fid)(p:bP->bP->Bool)(hp:∀x y:bP,bp Tryz.prog fid [.ag (bP.c x),.ag (bP.c y)] (.d (.v (.bool (p x y)))) 0)(l m:List bP):
 bp Tryz.prog 47 [.d (.sl (l.map bP.c)),.d (.sl (m.map bP.c)),.clo fid []] (.d (.v (.bool (gM p l m)))) 0:=by
 refine bp.b6 (n:=32) (ts:=[6]) Tryz.func47 (by kernel_rfl) Z Tryz.ntmps47 Tryz.results47 Z Z fun C hC hG=>aZ 1 Z<|ae<|aZ 5 Z<|ba Z (fun J=>?_)<|fun J=>?_;·
  have M:gM p l m=false:=by
   cases he:gM p l m with
   |false=>rfl
   |true=>have:=ve he;simp at J;omega
  refine aZ 1 Z<|W.ret<|bl<|QF.bo trivial Z ?_;rw[M];rfl
 have hl:l.length=m.length:=by simp at J;omega
 refine ah<|qs<|ae<|aZ 3 Z<|W.block<|W.len (t:=0) Z Z<|fun hlen=>?_;try simp only[η,Ex.bE]at hlen
 refine W.bY (ι:={x:Nat//match x with|k=>k<=l.length∧gM p (l.drop k) (m.drop k)=gM p l m})
  (fun x=>match x.1 with|k=>[(17,.d (.v (.int .i64 ((k:Nat):Int))))]) [(1,_),(2,_),(15,_),(16,_)]
  (fun x=>match x.1 with|k=>[]) [] [] 0 (fun x=>match x.1 with|k=>l.length-k)
  [] ⟨0,?_⟩ Z ?_ ⟨rfl,rfl,rfl,rfl,rfl,rfl,rfl,rfl,trivial⟩ ?_ trivial Z ?_
 ·exact⟨ς _,by simp⟩
 ·repeat' constructor
 ·repeat' exact trivial
 rintro⟨k,hk,I⟩;show W _ _ _ _ _ ⟨[(17,.d (.v (.int .i64 ((k:Nat):Int)))),(1,_),(2,_),(15,_),(16,_)],[],[],0⟩;refine aZ 1 Z<|ae<|ct (l:=l) (k:=k) Z (by simp[Ex.bE,bh]) hk (fun x hx hd U=>?_)<|fun he hd=>?_;·
  obtain⟨y,hy,X⟩:=CM (l:=m) (k:=k) (by omega);rw[hd,X]at I;simp only[gM]at I;have ad:=hp x y;refine ah<|qs<|ae<|W.block<|ae<|aa<|pE Z<|pu (indexAddr (l:=bP.c x) aW Z Z Z Z Z Z (ε _) (bF hx) Z) Z<|aY 1 Z<|bT aW Z Z Z<|pE Z<|be aW Z Z Z Z Z Z Z Z<|ab<|qs<|ae<|aa<|aY 2 Z<|pu (indexAddr (l:=bP.c y) aW Z Z Z Z Z Z (ε _) (bF hy) Z) Z<|aY 1 Z<|bT aW Z Z Z<|be aW Z Z Z Z Z Z Z Z<|ab<|qs<|ae<|aa<|aY 3 Z<|pu (bm Z Z Z ad Z) Z<|pE Z<|ab<|qs<|ba Z (fun N=>?_)<|fun N=>?_;·
   have O:p x y=false:=by simpa using N
   have M:gM p l m=false:=by rw[<-I,O];rfl
   refine aZ 1 Z<|W.ret<|bw<|bl<|cN<|bw<|bl<|QF.bo trivial Z ?_;rw[M];rfl
  have O:p x y=true:=by simpa using N
  rw[O,Bool.true_and]at I;refine ah<|bW<|qs<|cJ 2 Z<|W.bZ [] ⟨k+1,?_⟩ ?_ Z ?_ ⟨rfl,rfl,rfl,rfl,rfl,rfl,rfl,rfl,trivial⟩ ?_ trivial Z;·exact⟨U,I⟩
  ·dsimp only;omega
  ·repeat' first|exact trivial|refine⟨bH (by assumption) (by assumption),?_⟩
  repeat' exact trivial
 rw[hd,dropEnd (l:=m) (by omega)]at I;have M:gM p l m=true:=I.symm;refine an<|bL<|bM<|bK<|qs<|aZ 1 Z<|W.ret<|QF.bo trivial Z ?_;rw[M];rfl
theorem GR(p q:bP):bp Tryz.prog 49 [.ag p.c,.ag q.c] (.d (.v (.bool (oX p q)))) 0:=by
 refine bp.b6 (n:=31) (ts:=[4]) Tryz.func49 (by kernel_rfl) Z Tryz.ntmps49 Tryz.results49 Z Z fun C hC I=>ae<|aa<|cG Z Z Z<|cG Z Z Z<|pE Z<|ab<|qs<|ae ?_;apply bC;(case hb=>rfl);·repeat' first|refine b4 Z Z Z|refine bz Z Z ?_|refine bA Z Z Z Z ?_|refine pE Z ?_|refine pu (bm Z Z Z (Cu 94 yI Ig p.evs q.evs) Z) Z ?_|refine ab ?_|(apply bN;(case hj=>rfl);(case hl=>rfl))
 refine qs (W.ret (QF.bo trivial Z ?_));simp only[norm,bO,oX];cases decide (p.thread=q.thread)<;>cases decide (p.serial=q.serial)<;>cases decide (p.lost=q.lost)<;>rfl
theorem D3(p q:bP):bp Tryz.prog 48 [.ag p.c,.ag q.c] (.d (.v (.bool (oX p q)))) 0:=by refine bp.b6 (n:=8) (ts:=[4]) Tryz.func48 (by kernel_rfl) Z Tryz.ntmps48 Tryz.results48 Z Z fun C hC I=>?_;refine ae (aa (cG Z Z Z (cG Z Z Z (pE Z (ab (qs (ae (aa (aY 2 Z ?_)))))))));refine pu (bm Z Z Z (GR p q) Z) Z ?_;refine pE Z (ab (qs (W.ret (QF.bo trivial Z ?_))));rfl
theorem HB(a b:kp):bp Tryz.prog 17 [.ag a.c,.ag b.c] (.d (.v (.bool (r7 a b)))) 0:=by
 refine bp.b6 (n:=37) (ts:=[4]) Tryz.func17 (by kernel_rfl) Z Tryz.ntmps17 Tryz.results17 Z Z fun C hC I=>ae<|aa<|cG Z Z Z<|cG Z Z Z<|pE Z<|ab<|qs<|ae<|W.qp aW 7 2 (by kernel_rfl) Z Z<|gf Z (ev aW Z) Z<|gf Z (ev aW Z) Z<|gf Z (ev aW Z) Z<|gf Z (ev aW Z) Z<|tA 0 Z Z Z Z Z Z<|tA 1 Z Z Z Z Z Z<|wW 4 0 Z Z Z Z Z Z Z Z Z Z Z Z<|aF<|be aW Z Z Z Z Z Z Z Z<|ab<|qs<|ae ?_;apply bC;(case hb=>rfl);·repeat' first|refine b4 Z Z Z|refine bz Z Z ?_|refine bA Z Z Z Z ?_|refine pE Z ?_|refine pu (bm Z Z Z (E8 a.ts b.ts) Z) Z ?_|refine pu (bm Z Z Z (DQ a.ds b.ds) Z) Z ?_|refine pu (bm Z Z Z FG Z) Z ?_|refine pu (bm Z Z Z (CN 48 oX D3 a.ps b.ps) Z) Z ?_|refine ab ?_|(apply bN;(case hj=>rfl);(case hl=>rfl))
 refine qs (W.ret (QF.bo trivial Z ?_));simp only[norm,bO,r7];cases decide (a.ts=b.ts)<;>cases decide (a.ds=b.ds)<;>rfl
theorem vz{ts}(h:(ez ts ps).2=0):(ez ts ps).1=⟨ts,dV,ps⟩:=by
 unfold ez at h⊢;split at h;·rename_i q;exact absurd h q
 rename_i q;rw[if_neg q];split at h;·rename_i q2;exact absurd h q2
 rename_i q2;rw[if_neg q2]
theorem sy(ts ps)(ok:qx ts ps):bp Tryz.prog 12 [.ag (kp.c ⟨ts,dV,ps⟩)] (.d (ci (ez ts ps).2)) 0:=by
 refine bp.b6 (n:=22) (ts:=[2]) Tryz.func12 (by kernel_rfl) Z Tryz.ntmps12 Tryz.results12 Z Z fun C hC M=>ae<|aa<|cG Z Z Z<|pE Z<|ab<|qs<|ae<|aa<|aY 4 Z<|pu (bm Z Z Z (D2 ts ps ok) Z) Z<|aY 3 Z<|bT aW Z Z Z<|be aW Z Z Z Z Z Z Z Z<|pE Z<|ab<|qs<|ae<|ae<|?_
 apply bC;(case hb=>rfl);·
  refine aY 3 Z ?_;apply eU;(case hj=>rfl);(case hl=>rfl);·
   intro g15;refine bz Z Z<|aY 1 Z<|bz Z Z<|aY 1 Z<|bz Z Z<|pu (bm Z Z Z (HB (ez ts ps).1 ⟨ts,dV,ps⟩) Z) Z<|bz Z Z<|aY 2 Z<|ab<|b4 Z Z Z
  intro g15;refine bA Z Z Z Z<|bA Z Z Z Z<|bA Z Z Z Z<|bA Z Z Z Z<|pE Z<|ab<|b4 Z Z Z
 refine qs (ba Z (fun I=>?_) (fun I=>?_));·
  exfalso;have J:(ez ts ps).2=0->r7 (ez ts ps).1 ⟨ts,dV,ps⟩=true:=fun q=>by rw[vz q];exact(DA _ _).2 Z
  by_cases q:(ez ts ps).2=0;·rw[J q]at I;simp at I
  simp[q]at I
 refine ah<|qs<|aZ 2 Z<|W.ret<|QF.bo trivial Z ?_;rfl
theorem Bs(ts ps)(ok:qx ts ps):bp Tryz.prog 13 [.ag (kp.c ⟨ts,dV,ps⟩)] (.d (.sl [])) 0:=by
 refine bp.b6 (n:=34) (ts:=[2]) Tryz.func13 (by kernel_rfl) Z Tryz.ntmps13 Tryz.results13 Z Z fun C hC hG=>ae<|aa<|cG Z Z Z<|pE Z<|ab<|qs<|ae<|ae<|aa<|aY 1 Z<|pu (bm Z Z Z (sy ts ps ok) Z) Z<|pE Z<|ab<|qs<|ba Z (fun h8=>?_)<|fun h8=>?_
 ·
  refine aZ 1 Z ?_
  try refine lN (d:=2) rfl rfl ?_
  refine W.ret (bl (QF.bo trivial Z ?_))
  rfl
 refine ah<|qs<|aZ 1 Z<|ae<|aZ 4 Z<|W.block<|W.len (t:=10) Z Z<|fun hlen=>?_
 try simp only[η,Ex.bE]at hlen
 refine W.bY (ι:={x:Nat//match x with|k=>k<=ps.length})
  (fun x=>match x.1 with|k=>[(3,.d (.v (.slice none 0 0))),(12,.d (.v (.int .i64 ((k:Nat):Int))))]) [(10,_),(11,_)]
  (fun x=>match x.1 with|k=>[]) [] [] 0 (fun x=>match x.1 with|k=>ps.length-k)
  [] ⟨0,?_⟩ rfl ?_ ⟨rfl,rfl,rfl,rfl,trivial⟩ ?_ trivial rfl ?_
 ·exact ς _
 ·repeat' constructor
 ·repeat' exact trivial
 rintro⟨k,hk⟩
 show W _ _ _ _ _ ⟨[(3,.d (.v (.slice none 0 0))),(12,.d (.v (.int .i64 ((k:Nat):Int)))),(10,_),(11,_)],[],[],0⟩
 refine aZ 1 Z<|ae<|ct (l:=ps) (k:=k) Z (by simp[Ex.bE,bh]) hk (fun p hx hd hlt=>?_)<|fun he hd=>?_
 ·
  refine ah<|qs<|ae<|W.block<|ae<|aa<|pu (indexAddr (l:=p.c) aW Z Z Z Z Z Z (ε _) (bF hx) Z) Z<|aY 1 Z<|bT aW Z Z Z<|be aW Z Z Z Z Z Z Z Z<|ab<|qs<|aZ 3 Z<|ba Z (fun h18=>?_)<|fun h18=>?_
  ·
   exfalso
   have:=(ok.2.1 p (ζ hx)).2.1
   simp at h18
   omega
  refine ah<|bW<|qs<|cJ 2 Z<|W.bZ [] ⟨k+1,?_⟩ ?_ Z ?_ ⟨rfl,rfl,rfl,rfl,trivial⟩ ?_ trivial Z
  ·exact hlt
  ·dsimp only;omega
  ·repeat' first|exact trivial|refine⟨rfl,?_⟩|refine⟨bH (by assumption) (by assumption),?_⟩
  repeat' exact trivial
 refine an (bL (bM (bK (qs (aZ 2 Z ?_)))))
 try refine lN (d:=2) rfl rfl ?_
 refine W.ret (QF.bo trivial Z ?_)
 rfl
theorem kA(s):bp Tryz.prog 35 [.d (.v (.string s))] (.ag (tJ s).c) 0:=by refine bp.dk aW (n:=5) (rs:=[.cell 2 46]) Tryz.func35 (by kernel_rfl) Z Tryz.ntmps35 Tryz.results35 Z fun C hC I=>?_;refine ae (aa (bT aW Z Z Z (ab (qs (ae (aa (pE Z (pu (gX (build aW Z Z Z Z) Z) Z ?_))))))));refine be aW Z Z Z Z Z Z Z Z (ab (qs (W.ret (QV.bo aW trivial Z ?_))));rfl
theorem kT(n):bp Tryz.prog 36 [.d (ci n)] (.ag (nJ n).c) 0:=by refine bp.dk aW (n:=5) (rs:=[.cell 2 46]) Tryz.func36 (by kernel_rfl) Z Tryz.ntmps36 Tryz.results36 Z fun C hC I=>?_;refine ae (aa (bT aW Z Z Z (ab (qs (ae (aa (pE Z (pu (gX (build aW Z Z Z Z) Z) Z ?_))))))));refine be aW Z Z Z Z Z Z Z Z (ab (qs (W.ret (QV.bo aW trivial Z ?_))));rfl
abbrev B1:List A:=[.d (ci 0),.d (ci 0),.d (cs (B #[])),.d (.v (.slice none 0 0)),.d (.v (.slice none 0 0))]
theorem vN(id)(e:Ev)(f:Fm)(hf:tf e.kind=some f)(hs:e.stack.length<=1000000):bp Tryz.prog 37 [.d (ci id),.ag e.c] (.ag (BY f id e).c) 0:=by
 obtain⟨i,hi,hfi⟩:=Hk hf
 obtain⟨l,hl⟩:∃l,l=fz f (Ff f e):=⟨_,rfl⟩
 have hl7:l.length<=7:=hl▸Em f _
 refine bp.dk aW (n:=94) (rs:=[.cell 4 46]) Tryz.func37 (by kernel_rfl) Z Tryz.ntmps37 Tryz.results37 Z fun C hC hG=>ae<|aa<|cG Z Z Z<|bT aW Z Z Z<|ab<|qs<|ae<|aa<|pu (bm Z Z Z (pr ..) Z) Z<|pE Z<|pu (bm Z Z Z (vP _ [.row (e.c.map A.d)] ⟨fun _ _=>rfl,rfl⟩ _ (EA e) hZ) Z) Z<|pE Z<|ab<|qs<|ae ?_
 rw[hi]
 refine aa<|pu (bm Z Z Z (pr ..) Z) Z<|pE Z<|pu (indexAddr (l:=f.c) aW Z Z Z Z Z Z (ε _) (bF hfi) Z) Z<|aY 1 Z<|bT aW Z Z Z<|be aW Z Z Z Z Z Z Z Z<|ab<|qs<|ae<|W.kV [(3,.ptr 0 0),(4,.ptr 1 0),(6,.ptr 2 0),(7,.ptr 3 0)] [0] [(0,e.c.map A.d),(1,B1),(2,f.c.map A.d),(3,[.d (ci 6),.d (ci 0),.d (cs cw),.d (.sl (l.map sc)),.d (.v (.slice none 0 0))])] [] [] 4 ?_ ?_
 ·
  refine aa<|aY 5 Z<|gz Z Z (fun g24=>?_)<|fun g24=>?_
  ·
   have hl2:l=fz f true:=by rw[hl];unfold Ff;rw[show(!decide (f.ph=pS))=true from g24];rfl
   rw[hl2]
   refine bA Z Z Z Z<|bA Z Z Z Z<|bA Z Z Z Z<|pE Z<|pu (bm Z Z Z (wQ f _) Z) Z<|pu (build aW Z Z Z Z) Z<|bT aW Z Z Z<|be aW Z Z Z Z Z Z Z Z<|ab<|cZ [0,1,2,3] Z ?_ ⟨rfl,rfl,trivial⟩ ?_ trivial Z
   ·repeat' constructor
   repeat' constructor
  have hl2:l=fz f (decide (e.n=2)):=by rw[hl];unfold Ff;rw[show(!decide (f.ph=pS))=false from g24];rfl
  rw[hl2]
  refine bz Z Z<|pE Z<|bz Z Z<|aY 1 Z<|bz Z Z<|aY 2 Z<|pu (bm Z Z Z (wQ f _) Z) Z<|pu (build aW Z Z Z Z) Z<|bT aW Z Z Z<|be aW Z Z Z Z Z Z Z Z<|ab<|cZ [0,1,2,3] Z ?_ ⟨rfl,rfl,trivial⟩ ?_ trivial Z
  ·repeat' constructor
  repeat' constructor
 refine qs<|ae<|aZ 4 Z<|W.block<|ey 3 4 Z Z Z<|W.len (t:=32) Z Z<|fun hlen=>?_
 try simp only[η,Ex.bE]at hlen
 refine W.bY (ι:={x:Nat×List JV//match x with|(k,acc)=>k<=l.length∧acc=(l.take k).map (ju f id e)})
  (fun x=>match x.1 with|(k,acc)=>[(3,.ptr 0 0),(4,.ptr 1 0),(6,.ptr 2 0),(7,.ptr 3 0),(34,.d (.v (.int .i64 ((k:Nat):Int))))]) [(0,_),(32,_),(33,_)]
  (fun x=>match x.1 with|(k,acc)=>[(0,e.c.map A.d),(1,B1),(2,f.c.map A.d),(3,[.d (ci 6),.d (ci 0),.d (cs cw),.d (.sl (l.map sc)),.own 4 (acc.map JV.c)])]) [] [4] 5 (fun x=>match x.1 with|(k,acc)=>l.length-k)
  [0,1,2,3,4] ⟨(0,[]),?_⟩ rfl ?_ ⟨rfl,rfl,rfl,rfl,rfl,rfl,trivial⟩ ?_ trivial rfl ?_
 ·exact⟨ς _,rfl⟩
 ·repeat' constructor
 ·repeat' constructor
 rintro⟨⟨k,acc⟩,hk,hacc⟩
 show W _ _ _ _ _ ⟨[(3,.ptr 0 0),(4,.ptr 1 0),(6,.ptr 2 0),(7,.ptr 3 0),(34,.d (.v (.int .i64 ((k:Nat):Int)))),(0,_),(32,_),(33,_)],[(0,e.c.map A.d),(1,B1),(2,f.c.map A.d),(3,[.d (ci 6),.d (ci 0),.d (cs cw),.d (.sl (l.map sc)),.own 4 (acc.map JV.c)])],[4],5⟩
 have hal:acc.length<=7:=by rw[hacc,η,List.length_take];omega
 refine aZ 1 Z<|ae<|ct (l:=l) (k:=k) Z (by simp[Ex.bE,bh]) hk (fun w hx hd hlt=>?_)<|fun he hd=>?_
 ·
  refine ah<|qs<|ae<|W.block<|ae<|aa<|pu (indexAddr (l:=sc w) aW Z Z Z Z Z Z (ε _) (bF hx) Z) Z<|aY 2 Z<|ab<|qs<|ae<|aa<|bT aW Z Z Z<|ab<|qs<|ae<|aZ 1 Z<|W.kV [(3,.ptr 0 0),(4,.ptr 1 0),(6,.ptr 2 0),(7,.ptr 3 0),(10,.ptr 4 0)] [0,32,33,34] [(0,e.c.map A.d),(1,B1),(2,f.c.map A.d),(3,[.d (ci 6),.d (ci 0),.d (cs cw),.d (.sl (l.map sc)),.own 5 (acc.map JV.c)]),(4,(ju f id e w).c.map A.d)] [] [5] 6 ?_ ?_
  ·
   refine W.block<|aZ 2 Z<|ba Z (fun h42=>?_)<|fun h42=>?_
   ·
    have hw:w=e8:=by simpa[e8]using h42
    rw[show ju f id e w=tJ f.ph from if_pos hw]
    refine aa<|aY 2 Z<|pu (bm Z Z Z (kA ..) Z) Z<|be aW Z Z Z Z Z Z Z Z<|ab<|bW<|cZ [0,1,2,3,5,4] Z ?_ ⟨rfl,rfl,rfl,rfl,rfl,rfl,rfl,rfl,trivial⟩ ?_ trivial Z
    ·repeat' constructor
    repeat' constructor
   have n1:¬w=e8:=by simpa[e8]using h42
   refine aZ 2 Z<|ba Z (fun h47=>?_)<|fun h47=>?_
   ·
    have hw:w=de:=by simpa[de]using h47
    rw[show ju f id e w=nJ id from by unfold ju;rw[if_neg n1,if_pos hw]]
    refine aa<|pE Z<|pu (bm Z Z Z (kT ..) Z) Z<|be aW Z Z Z Z Z Z Z Z<|ab<|bW<|cZ [0,1,2,3,5,4] Z ?_ ⟨rfl,rfl,rfl,rfl,rfl,rfl,rfl,rfl,trivial⟩ ?_ trivial Z
    ·repeat' constructor
    repeat' constructor
   have n2:¬w=de:=by simpa[de]using h47
   refine aZ 2 Z<|ba Z (fun h51=>?_)<|fun h51=>?_
   ·
    have hw:w=cb:=by simpa[cb]using h51
    rw[show ju f id e w=tJ e.name from by unfold ju;rw[if_neg n1,if_neg n2,if_pos hw]]
    refine aa<|aY 2 Z<|pu (bm Z Z Z (kA ..) Z) Z<|be aW Z Z Z Z Z Z Z Z<|ab<|bW<|cZ [0,1,2,3,5,4] Z ?_ ⟨rfl,rfl,rfl,rfl,rfl,rfl,rfl,rfl,trivial⟩ ?_ trivial Z
    ·repeat' constructor
    repeat' constructor
   have n3:¬w=cb:=by simpa[cb]using h51
   refine aZ 2 Z<|ba Z (fun h56=>?_)<|fun h56=>?_
   ·
    have hw:w=eA:=by simpa[eA]using h56
    rw[show ju f id e w=nJ e.time from by unfold ju;rw[if_neg n1,if_neg n2,if_neg n3,if_pos hw]]
    refine aa<|aY 2 Z<|pu (bm Z Z Z (kT ..) Z) Z<|be aW Z Z Z Z Z Z Z Z<|ab<|bW<|cZ [0,1,2,3,5,4] Z ?_ ⟨rfl,rfl,rfl,rfl,rfl,rfl,rfl,rfl,trivial⟩ ?_ trivial Z
    ·repeat' constructor
    repeat' constructor
   have n4:¬w=eA:=by simpa[eA]using h56
   refine aZ 2 Z<|ba Z (fun h61=>?_)<|fun h61=>?_
   ·
    have hw:w=cg:=by simpa[cg]using h61
    rw[show ju f id e w=.mk 5 0 cw [] (e.stack.map tJ)from by unfold ju;rw[if_neg n1,if_neg n2,if_neg n3,if_neg n4,if_pos hw],ij]
    refine ae<|aa<|pu (build aW Z Z Z Z) Z<|be aW Z Z Z Z Z Z Z Z<|ab<|qs<|aZ 4 Z<|W.block<|bJ 5 3 Z Z Z<|ey 5 4 Z Z Z<|W.len (t:=65) Z Z<|fun hlen=>?_
    try simp only[η,Ex.bE]at hlen
    refine W.bY (ι:={x:Nat×List JV//match x with|(q,bcc)=>q<=e.stack.length∧bcc=(e.stack.take q).map tJ})
     (fun x=>match x.1 with|(q,bcc)=>[(3,.ptr 0 0),(4,.ptr 1 0),(6,.ptr 2 0),(7,.ptr 3 0),(10,.ptr 4 0),(67,.d (.v (.int .i64 ((q:Nat):Int))))]) [(0,_),(32,_),(33,_),(34,_),(65,_),(66,_)]
     (fun x=>match x.1 with|(q,bcc)=>[(0,e.c.map A.d),(1,B1),(2,f.c.map A.d),(3,[.d (ci 6),.d (ci 0),.d (cs cw),.d (.sl (l.map sc)),.own 5 (acc.map JV.c)]),(4,[.d (ci 5),.d (ci 0),.d (cs cw),.d (.sl []),.own 6 (bcc.map JV.c)])]) [] [5,6] 7 (fun x=>match x.1 with|(q,bcc)=>e.stack.length-q)
     [0,1,2,3,5,4,6] ⟨(0,[]),?_⟩ rfl ?_ ⟨rfl,rfl,rfl,rfl,rfl,rfl,rfl,rfl,rfl,rfl,rfl,rfl,trivial⟩ ?_ trivial rfl ?_
    ·exact⟨ς _,rfl⟩
    ·repeat' constructor
    ·repeat' constructor
    rintro⟨⟨q,bcc⟩,hk,hbcc⟩
    show W _ _ _ _ _ ⟨[(3,.ptr 0 0),(4,.ptr 1 0),(6,.ptr 2 0),(7,.ptr 3 0),(10,.ptr 4 0),(67,.d (.v (.int .i64 ((q:Nat):Int)))),(0,_),(32,_),(33,_),(34,_),(65,_),(66,_)],[(0,e.c.map A.d),(1,B1),(2,f.c.map A.d),(3,[.d (ci 6),.d (ci 0),.d (cs cw),.d (.sl (l.map sc)),.own 5 (acc.map JV.c)]),(4,[.d (ci 5),.d (ci 0),.d (cs cw),.d (.sl []),.own 6 (bcc.map JV.c)])],[5,6],7⟩
    have hbl:bcc.length<=e.stack.length:=by rw[hbcc,η,List.length_take];omega
    refine aZ 1 Z<|ae<|ct (l:=e.stack) (k:=q) Z (by simp[Ex.bE,bh]) hk (fun u hx hd hlt=>?_)<|fun he hd=>?_
    ·
     refine ah<|qs<|ae<|W.block<|ae<|aa<|pu (indexAddr (l:=sc u) aW Z Z Z Z Z Z (ε _) (bF hx) Z) Z<|aY 2 Z<|ab<|qs<|W.ox aW [] [] [] [] 5 (by kernel_rfl) (by kernel_rfl) Z Z ?_
     refine' bQ (ev aW Z) ?p_1 Z Z Z (by kernel_rfl) Z ?h_1
     case' h_1=>skip
     case p_1=>refine⟨fun ha=>bc ha,?_⟩<;>intro ha<;>first|exact⟨ev aW rfl,fun h=>nomatch h⟩|exact bc ha
     refine' bQ (ev aW Z) ?p_2 Z Z Z (by kernel_rfl) Z ?h_2
     case' h_2=>skip
     case p_2=>refine⟨fun ha=>bc ha,?_⟩<;>intro ha<;>first|exact⟨ev aW rfl,fun h=>nomatch h⟩|exact⟨eH aW rfl rfl rfl rfl,fun h=>nomatch h⟩|exact⟨eI aW rfl rfl rfl rfl rfl,fun h=>nomatch h⟩|exact bc ha
     refine' bQ (ev aW Z) ?p_3 Z Z Z (by kernel_rfl) Z ?h_3
     case' h_3=>skip
     case p_3=>refine⟨fun ha=>bc ha,?_⟩<;>intro ha<;>first|exact⟨ev aW rfl,fun h=>nomatch h⟩|exact bc ha
     refine' bQ (bm Z Z Z (kA ..) Z) ?p_4 Z Z Z (by kernel_rfl) Z ?h_4
     case' h_4=>skip
     case p_4=>refine⟨fun ha=>bc ha,?_⟩<;>intro ha<;>first|exact⟨bm rfl rfl rfl (kA ..) rfl,fun h=>nomatch h⟩|exact bc ha
     refine' bQ (bR aW Z Z Z Z Z Z Z Z Z) ?p_5 Z Z Z (by kernel_rfl) Z ?h_5
     case' h_5=>skip
     case p_5=>refine⟨fun ha=>bc ha,?_⟩<;>intro ha<;>first|exact⟨bR aW rfl rfl rfl rfl rfl rfl rfl rfl rfl,fun h=>nomatch h⟩|exact bc ha
     refine ax ?_ Z
     refine dF (fn:=JV.c) (a:=tJ u) aW Z Z Z Z Z Z Z Z Z Z (fun _=>rfl) (by show(bcc.length+1)*80<=_;omega)<|pE Z<|be aW Z Z Z Z Z Z Z Z<|ab<|bW<|qs<|cJ 2 Z<|W.bZ [0,1,2,3,4,5,7] ⟨(q+1,bcc++[tJ u]),?_⟩ ?_ Z ?_ ⟨rfl,rfl,rfl,rfl,rfl,rfl,rfl,rfl,rfl,rfl,rfl,rfl,trivial⟩ ?_ trivial Z
     ·exact⟨hlt,by rw[Ψ,hx,I',hbcc];rfl⟩
     ·dsimp only;omega
     ·repeat' first|exact trivial|refine⟨rfl,?_⟩|refine⟨bH (by assumption) (by assumption),?_⟩
     repeat' constructor
    have hb2:bcc=e.stack.map tJ:=by rw[hbcc,he,List.take_length]
    refine Ch 4 4 Z Z Z ?_
    subst hb2
    refine an (bL (bM (bK (bW (cZ [0,1,2,3,4,5] Z ?_ ⟨rfl,rfl,rfl,rfl,rfl,rfl,rfl,rfl,trivial⟩ ?_ trivial Z)))))
    ·repeat' constructor
    repeat' constructor
   have n5:¬w=cg:=by simpa[cg]using h61
   refine aZ 4 Z<|ba Z (fun h79=>?_)<|fun h79=>?_
   ·
    have hw:w=f.n:=by simpa using h79
    rw[show ju f id e w=nJ e.n from by unfold ju;rw[if_neg n1,if_neg n2,if_neg n3,if_neg n4,if_neg n5,if_pos hw]]
    refine aa<|aY 2 Z<|pu (bm Z Z Z (kT ..) Z) Z<|be aW Z Z Z Z Z Z Z Z<|ab<|bW<|cZ [0,1,2,3,5,4] Z ?_ ⟨rfl,rfl,rfl,rfl,rfl,rfl,rfl,rfl,trivial⟩ ?_ trivial Z
    ·repeat' constructor
    repeat' constructor
   have n6:¬w=f.n:=by simpa using h79
   rw[show ju f id e w=nJ e.m from by unfold ju;rw[if_neg n1,if_neg n2,if_neg n3,if_neg n4,if_neg n5,if_neg n6]]
   refine aa<|aY 2 Z<|pu (bm Z Z Z (kT ..) Z) Z<|be aW Z Z Z Z Z Z Z Z<|ab<|bW<|cZ [0,1,2,3,5,4] Z ?_ ⟨rfl,rfl,rfl,rfl,rfl,rfl,rfl,rfl,trivial⟩ ?_ trivial Z
   ·repeat' constructor
   repeat' constructor
  refine qs<|aa<|aY 3 Z<|pu (bR aW Z Z Z Z Z Z Z Z Z) Z<|dF (fn:=JV.c) (a:=ju f id e w) aW Z Z Z Z Z Z Z Z Z Z (fun _=>rfl) (by show(acc.length+1)*80<=_;omega)<|pE Z<|be aW Z Z Z Z Z Z Z Z<|ab<|bW<|qs<|cJ 2 Z<|W.bZ [0,1,2,3,6] ⟨(k+1,acc++[ju f id e w]),?_⟩ ?_ Z ?_ ⟨rfl,rfl,rfl,rfl,rfl,rfl,trivial⟩ ?_ trivial Z
  ·exact⟨hlt,by rw[Ψ,hx,I',hacc];rfl⟩
  ·dsimp only;omega
  ·repeat' first|exact trivial|refine⟨rfl,?_⟩|refine⟨bH (by assumption) (by assumption),?_⟩
  repeat' constructor
 have ha2:acc=l.map (ju f id e):=by rw[hacc,he,List.take_length]
 refine an<|bL<|bM<|bK<|qs<|ae<|aa<|aY 1 Z<|be aW Z Z Z Z Z Z Z Z<|ab<|qs<|W.ret<|QV.bo aW trivial Z ?_
 rw[show BY f id e=.mk 6 0 cw l (l.map (ju f id e))from by rw[hl];rfl,ij,ha2];rfl
def pc(ts:List ca)(ps:List bP):ByteArray×Int:=
 if(ez ts ps).2≠0 then(cw,(ez ts ps).2)else if ck (mn ts ps) 1≠0 then(cw,ck (mn ts ps) 1)else if 65536<(l8 (mn ts ps)).size then(cw,7)else(l8 (mn ts ps),0)
theorem CB(ts ps)(ok:qx ts ps)(hz:ck (mn ts ps) 1=0->(bD (mn ts ps)).length<=1000000000000):bp Tryz.prog 15 [.ag (kp.c ⟨ts,dV,ps⟩)] (.tup [.d (cs (pc ts ps).1),.d (ci (pc ts ps).2)]) 0:=by
 refine bp.b6 (n:=97) (ts:=[2,3]) Tryz.func15 (by kernel_rfl) Z Tryz.ntmps15 Tryz.results15 Z Z fun C hC hG=>ae<|aa<|cG Z Z Z<|aY 2 Z<|ab<|qs<|ae<|ae<|aa<|aY 1 Z<|pu (bm Z Z Z (sy ts ps ok) Z) Z<|pE Z<|ab<|qs<|aZ 2 Z<|ba Z (fun h17=>?_)<|fun h17=>?_
 ·
  have hg:pc ts ps=(cw,(ez ts ps).2):=by unfold pc;rw[if_pos (by simpa using h17)]
  refine aZ 3 Z<|W.ret<|bl<|QF.bo trivial Z ?_
  rw[hg];rfl
 have h0:¬(ez ts ps).2≠0:=by simpa using h17
 refine ah<|qs<|ae<|ae<|?_
 apply bC;(case hb=>rfl)
 ·
  refine aY 6 Z ?_
  apply eU;(case hj=>rfl);(case hl=>rfl)
  ·
   intro g24
   refine bA Z Z Z Z<|bA Z Z Z Z<|bA Z Z Z Z<|bA Z Z Z Z<|bA Z Z Z Z<|pE Z<|ab<|b4 Z Z Z
  intro g24
  refine bz Z Z<|pE Z<|bz Z Z<|pE Z<|bz Z Z<|aY 1 Z<|bz Z Z<|pE Z<|bz Z Z<|aY 2 Z<|ab<|b4 Z Z Z
 refine qs (ba Z (fun h30=>?_) (fun h30=>?_))
 ·
  exfalso;simp[dV]at h30
 refine ah<|qs<|ae<|ae<|aa<|aY 1 Z<|pu (bm Z Z Z (Bs ts ps ok) Z) Z<|aY 2 Z<|ab<|qs<|ba Z (fun h34=>?_)<|fun h34=>?_
 ·
  exfalso;simp at h34
 refine ah<|qs<|ae<|aa<|pu (build aW Z Z Z Z) Z<|bT aW Z Z Z<|be aW Z Z Z Z Z Z Z Z<|ab<|qs<|ae<|ae<|?_
 obtain⟨hh,hcs⟩:=Iu (ts:=ts) (ps:=ps) (by simpa using h0)
 obtain⟨_,_,h64⟩:=qU hh
 have hsum:=ok.2.2
 have hall:=uq hcs
 refine cJ 5 Z<|qs<|W.block<|bJ 1 3 Z Z Z<|ey 1 4 Z Z Z<|W.len (t:=38) Z Z<|fun hlen=>?_
 try simp only[η,Ex.bE]at hlen
 refine W.bY (ι:={x:Nat×List JV//match x with|(k,acc)=>k<=ts.length∧acc=(ts.take k).map mJ})
  (fun x=>match x.1 with|(k,acc)=>[(1,.ptr 0 0),(5,.ptr 1 0),(40,.d (.v (.int .i64 ((k:Nat):Int))))]) [(38,_),(39,_)]
  (fun x=>match x.1 with|(k,acc)=>[(0,(kp.c ⟨ts,dV,ps⟩).map A.d),(1,[.d (ci 5),.d (ci 0),.d (cs cw),.d (.sl []),.own 2 (acc.map JV.c)])]) [] [2] 3 (fun x=>match x.1 with|(k,acc)=>ts.length-k)
  [0,1,2] ⟨(0,[]),?_⟩ rfl ?_ ⟨rfl,rfl,rfl,rfl,trivial⟩ ?_ trivial rfl ?_
 ·exact⟨ς _,rfl⟩
 ·repeat' constructor
 ·repeat' constructor
 rintro⟨⟨k,acc⟩,hk,hacc⟩
 show W _ _ _ _ _ ⟨[(1,.ptr 0 0),(5,.ptr 1 0),(40,.d (.v (.int .i64 ((k:Nat):Int)))),(38,_),(39,_)],[(0,(kp.c ⟨ts,dV,ps⟩).map A.d),(1,[.d (ci 5),.d (ci 0),.d (cs cw),.d (.sl []),.own 2 (acc.map JV.c)])],[2],3⟩
 have hal:acc.length<=64:=by rw[hacc,η,List.length_take];omega
 refine aZ 1 Z<|ae<|ct (l:=ts) (k:=k) Z (by simp[Ex.bE,bh]) hk (fun t hx hd hlt=>?_)<|fun he hd=>?_
 ·
  refine ah<|qs<|ae<|W.block<|ae<|aa<|pu (indexAddr (l:=t.c) aW Z Z Z Z Z Z (ε _) (bF hx) Z) Z<|aY 1 Z<|bT aW Z Z Z<|be aW Z Z Z Z Z Z Z Z<|ab<|qs<|W.ox aW [] [] [] [] 13 (by kernel_rfl) (by kernel_rfl) Z Z ?_
  refine' bQ (ev aW Z) ?p_1 Z Z Z (by kernel_rfl) Z ?h_1
  case' h_1=>skip
  case p_1=>refine⟨fun ha=>bc ha,?_⟩<;>intro ha<;>first|exact⟨ev aW rfl,fun h=>nomatch h⟩|exact bc ha
  refine' bQ (ev aW Z) ?p_2 Z Z Z (by kernel_rfl) Z ?h_2
  case' h_2=>skip
  case p_2=>refine⟨fun ha=>bc ha,?_⟩<;>intro ha<;>first|exact⟨ev aW rfl,fun h=>nomatch h⟩|exact⟨eH aW rfl rfl rfl rfl,fun h=>nomatch h⟩|exact⟨eI aW rfl rfl rfl rfl rfl,fun h=>nomatch h⟩|exact bc ha
  refine' bQ (bR aW Z Z Z Z Z Z Z Z Z) ?p_3 Z Z Z (by kernel_rfl) Z ?h_3
  case' h_3=>skip
  case p_3=>refine⟨fun ha=>bc ha,?_⟩<;>intro ha<;>first|exact⟨bR aW rfl rfl rfl rfl rfl rfl rfl rfl rfl,fun h=>nomatch h⟩|exact bc ha
  refine' bQ (bm Z Z Z (kA ..) Z) ?p_4 Z Z Z (by kernel_rfl) Z ?h_4
  case' h_4=>skip
  case p_4=>refine⟨fun ha=>bc ha,?_⟩<;>intro ha<;>first|exact⟨bm rfl rfl rfl (kA ..) rfl,fun h=>nomatch h⟩|exact bc ha
  refine' bQ (ev aW Z) ?p_5 Z Z Z (by kernel_rfl) Z ?h_5
  case' h_5=>skip
  case p_5=>refine⟨fun ha=>bc ha,?_⟩<;>intro ha<;>first|exact⟨ev aW rfl,fun h=>nomatch h⟩|exact bc ha
  refine' bQ (ev aW Z) ?p_6 Z Z Z (by kernel_rfl) Z ?h_6
  case' h_6=>skip
  case p_6=>refine⟨fun ha=>bc ha,?_⟩<;>intro ha<;>first|exact⟨ev aW rfl,fun h=>nomatch h⟩|exact⟨eH aW rfl rfl rfl rfl,fun h=>nomatch h⟩|exact⟨eI aW rfl rfl rfl rfl rfl,fun h=>nomatch h⟩|exact bc ha
  refine' bQ (bm Z Z Z (kT ..) Z) ?p_7 Z Z Z (by kernel_rfl) Z ?h_7
  case' h_7=>skip
  case p_7=>refine⟨fun ha=>bc ha,?_⟩<;>intro ha<;>first|exact⟨bm rfl rfl rfl (kT ..) rfl,fun h=>nomatch h⟩|exact bc ha
  refine' bQ (ev aW Z) ?p_8 Z Z Z (by kernel_rfl) Z ?h_8
  case' h_8=>skip
  case p_8=>refine⟨fun ha=>bc ha,?_⟩<;>intro ha<;>first|exact⟨ev aW rfl,fun h=>nomatch h⟩|exact bc ha
  refine' bQ (ev aW Z) ?p_9 Z Z Z (by kernel_rfl) Z ?h_9
  case' h_9=>skip
  case p_9=>refine⟨fun ha=>bc ha,?_⟩<;>intro ha<;>first|exact⟨ev aW rfl,fun h=>nomatch h⟩|exact⟨eH aW rfl rfl rfl rfl,fun h=>nomatch h⟩|exact⟨eI aW rfl rfl rfl rfl rfl,fun h=>nomatch h⟩|exact bc ha
  refine' bQ (bm Z Z Z (kA ..) Z) ?p_10 Z Z Z (by kernel_rfl) Z ?h_10
  case' h_10=>skip
  case p_10=>refine⟨fun ha=>bc ha,?_⟩<;>intro ha<;>first|exact⟨bm rfl rfl rfl (kA ..) rfl,fun h=>nomatch h⟩|exact bc ha
  refine' bQ (bR aW Z Z Z Z Z Z Z Z Z) ?p_11 Z Z Z (by kernel_rfl) Z ?h_11
  case' h_11=>skip
  case p_11=>refine⟨fun ha=>bc ha,?_⟩<;>intro ha<;>first|exact⟨bR aW rfl rfl rfl rfl rfl rfl rfl rfl rfl,fun h=>nomatch h⟩|exact bc ha
  refine' bQ (build aW Z Z Z Z) ?p_12 Z Z Z (by kernel_rfl) Z ?h_12
  case' h_12=>skip
  case p_12=>refine⟨fun ha=>bc ha,?_⟩<;>intro ha<;>first|exact⟨build aW rfl rfl rfl rfl,fun h=>nomatch h⟩|exact bc ha
  refine' bQ (bR aW Z Z Z Z Z Z Z Z Z) ?p_13 Z Z Z (by kernel_rfl) Z ?h_13
  case' h_13=>skip
  case p_13=>refine⟨fun ha=>bc ha,?_⟩<;>intro ha<;>first|exact⟨bR aW rfl rfl rfl rfl rfl rfl rfl rfl rfl,fun h=>nomatch h⟩|exact bc ha
  refine ax ?_ Z
  refine dF (fn:=JV.c) (a:=mJ t) aW Z Z Z Z Z Z Z Z Z Z (fun _=>rfl) (by show(acc.length+1)*80<=_;omega)<|pE Z<|be aW Z Z Z Z Z Z Z Z<|ab<|bW<|qs<|cJ 2 Z<|W.bZ [0,1,4] ⟨(k+1,acc++[mJ t]),?_⟩ ?_ Z ?_ ⟨rfl,rfl,rfl,rfl,trivial⟩ ?_ trivial Z
  ·exact⟨hlt,by rw[Ψ,hx,I',hacc];rfl⟩
  ·dsimp only;omega
  ·repeat' first|exact trivial|refine⟨rfl,?_⟩|refine⟨bH (by assumption) (by assumption),?_⟩
  repeat' constructor
 have hm:acc=ts.map mJ:=by rw[hacc,he,List.take_length]
 refine an<|bL<|bM<|bK<|qs<|ae<|aZ 4 Z<|W.block<|W.len (t:=61) Z Z<|fun hlen=>?_
 try simp only[η,Ex.bE]at hlen
 refine W.bY (ι:={x:Nat×List JV//match x with|(k,bcc)=>k<=ps.length∧bcc=ts.map mJ++(ps.take k).flatMap uX})
  (fun x=>match x.1 with|(k,bcc)=>[(5,.ptr 0 0),(63,.d (.v (.int .i64 ((k:Nat):Int))))]) [(61,_),(62,_)]
  (fun x=>match x.1 with|(k,bcc)=>[(0,[.d (ci 5),.d (ci 0),.d (cs cw),.d (.sl []),.own 1 (bcc.map JV.c)])]) [] [1] 2 (fun x=>match x.1 with|(k,bcc)=>ps.length-k)
  [1,2] ⟨(0,acc),?_⟩ rfl ?_ ⟨rfl,rfl,rfl,rfl,trivial⟩ ?_ trivial rfl ?_
 ·exact⟨ς _,by rw[hm];simp⟩
 ·repeat' constructor
 ·repeat' constructor
 rintro⟨⟨k,bcc⟩,hk,hbcc⟩
 show W _ _ _ _ _ ⟨[(5,.ptr 0 0),(63,.d (.v (.int .i64 ((k:Nat):Int)))),(61,_),(62,_)],[(0,[.d (ci 5),.d (ci 0),.d (cs cw),.d (.sl []),.own 1 (bcc.map JV.c)])],[1],2⟩
 refine aZ 1 Z<|ae<|ct (l:=ps) (k:=k) Z (by simp[Ex.bE,bh]) hk (fun p hx hd hlt=>?_)<|fun he hd=>?_
 ·
  have hpe:=hall p (ζ hx)
  have hpl:=(ok.2.1 p (ζ hx)).2.2.2
  refine ah<|qs<|ae<|W.block<|ae<|aa<|pu (indexAddr (l:=p.c) aW Z Z Z Z Z Z (ε _) (bF hx) Z) Z<|aY 1 Z<|bT aW Z Z Z<|be aW Z Z Z Z Z Z Z Z<|ab<|qs<|aZ 4 Z<|W.block<|W.len (t:=68) Z Z<|fun hlen=>?_
  try simp only[η,Ex.bE]at hlen
  refine W.bY (ι:={x:Nat×List JV//match x with|(q,dcc)=>q<=p.evs.length∧dcc=bcc++(p.evs.take q).map (HP p.thread)})
   (fun x=>match x.1 with|(q,dcc)=>[(5,.ptr 0 0),(9,.ptr 1 0),(70,.d (.v (.int .i64 ((q:Nat):Int))))]) [(61,_),(62,_),(63,_),(68,_),(69,_)]
   (fun x=>match x.1 with|(q,dcc)=>[(0,[.d (ci 5),.d (ci 0),.d (cs cw),.d (.sl []),.own 2 (dcc.map JV.c)]),(1,p.c.map A.d)]) [] [2] 3 (fun x=>match x.1 with|(q,dcc)=>p.evs.length-q)
   [0,2,1] ⟨(0,bcc),?_⟩ rfl ?_ ⟨rfl,rfl,rfl,rfl,rfl,rfl,rfl,rfl,rfl,rfl,trivial⟩ ?_ trivial rfl ?_
  ·exact⟨ς _,by simp⟩
  ·repeat' constructor
  ·repeat' constructor
  rintro⟨⟨q,dcc⟩,hk2,hdcc⟩
  show W _ _ _ _ _ ⟨[(5,.ptr 0 0),(9,.ptr 1 0),(70,.d (.v (.int .i64 ((q:Nat):Int)))),(61,_),(62,_),(63,_),(68,_),(69,_)],[(0,[.d (ci 5),.d (ci 0),.d (cs cw),.d (.sl []),.own 2 (dcc.map JV.c)]),(1,p.c.map A.d)],[2],3⟩
  have hk:=hk2
  have hdl:dcc.length<=22000:=by
   rw[hdcc,hbcc,ν,ν,η,η,List.length_take]
   have:=DP ps k
   omega
  refine aZ 1 Z<|ae<|ct (l:=p.evs) (k:=q) Z (by simp[Ex.bE,bh]) hk (fun e hx hd hlt=>?_)<|fun he hd=>?_
  ·
   obtain⟨f,hf,hw,hst⟩:=JI (hpe e (ζ hx)) p.thread
   refine ah<|qs<|ae<|W.block<|ae<|aa<|pu (indexAddr (l:=e.c) aW Z Z Z Z Z Z (ε _) (bF hx) Z) Z<|aY 1 Z<|bT aW Z Z Z<|be aW Z Z Z Z Z Z Z Z<|ab<|qs<|W.ox aW [] [] [] [] 7 (by kernel_rfl) (by kernel_rfl) Z Z ?_
   refine' bQ (ev aW Z) ?p_14 Z Z Z (by kernel_rfl) Z ?h_14
   case' h_14=>skip
   case p_14=>refine⟨fun ha=>bc ha,?_⟩<;>intro ha<;>first|exact⟨ev aW rfl,fun h=>nomatch h⟩|exact bc ha
   refine' bQ (ev aW Z) ?p_15 Z Z Z (by kernel_rfl) Z ?h_15
   case' h_15=>skip
   case p_15=>refine⟨fun ha=>bc ha,?_⟩<;>intro ha<;>first|exact⟨ev aW rfl,fun h=>nomatch h⟩|exact⟨eH aW rfl rfl rfl rfl,fun h=>nomatch h⟩|exact⟨eI aW rfl rfl rfl rfl rfl,fun h=>nomatch h⟩|exact bc ha
   refine' bQ (ev aW Z) ?p_16 Z Z Z (by kernel_rfl) Z ?h_16
   case' h_16=>skip
   case p_16=>refine⟨fun ha=>bc ha,?_⟩<;>intro ha<;>first|exact⟨ev aW rfl,fun h=>nomatch h⟩|exact bc ha
   refine' bQ (ev aW Z) ?p_17 Z Z Z (by kernel_rfl) Z ?h_17
   case' h_17=>skip
   case p_17=>refine⟨fun ha=>bc ha,?_⟩<;>intro ha<;>first|exact⟨ev aW rfl,fun h=>nomatch h⟩|exact⟨eH aW rfl rfl rfl rfl,fun h=>nomatch h⟩|exact⟨eI aW rfl rfl rfl rfl rfl,fun h=>nomatch h⟩|exact bc ha
   refine' bQ (ev aW Z) ?p_18 Z Z Z (by kernel_rfl) Z ?h_18
   case' h_18=>skip
   case p_18=>refine⟨fun ha=>bc ha,?_⟩<;>intro ha<;>first|exact⟨ev aW rfl,fun h=>nomatch h⟩|exact⟨eH aW rfl rfl rfl rfl,fun h=>nomatch h⟩|exact⟨eI aW rfl rfl rfl rfl rfl,fun h=>nomatch h⟩|exact bc ha
   refine' bQ (bm Z Z Z (vN p.thread e f hf hst) Z) ?p_19 Z Z Z (by kernel_rfl) Z ?h_19
   case' h_19=>skip
   case p_19=>refine⟨fun ha=>bc ha,?_⟩<;>intro ha<;>first|exact⟨bm rfl rfl rfl (vN p.thread e f hf hst) rfl,fun h=>nomatch h⟩|exact bc ha
   refine' bQ (bR aW Z Z Z Z Z Z Z Z Z) ?p_20 Z Z Z (by kernel_rfl) Z ?h_20
   case' h_20=>skip
   case p_20=>refine⟨fun ha=>bc ha,?_⟩<;>intro ha<;>first|exact⟨bR aW rfl rfl rfl rfl rfl rfl rfl rfl rfl,fun h=>nomatch h⟩|exact bc ha
   refine ax ?_ Z
   refine dF (fn:=JV.c) (a:=BY f p.thread e) aW Z Z Z Z Z Z Z Z Z Z (fun _=>rfl) (by show(dcc.length+1)*80<=_;omega)<|pE Z<|be aW Z Z Z Z Z Z Z Z<|ab<|bW<|qs<|cJ 2 Z<|W.bZ [0,1,4] ⟨(q+1,dcc++[BY f p.thread e]),?_⟩ ?_ Z ?_ ⟨rfl,rfl,rfl,rfl,rfl,rfl,rfl,rfl,rfl,rfl,trivial⟩ ?_ trivial Z
   ·exact⟨hlt,by rw[Ψ,hx,I',hdcc,←hw,R'];rfl⟩
   ·dsimp only;omega
   ·repeat' first|exact trivial|refine⟨rfl,?_⟩|refine⟨bH (by assumption) (by assumption),?_⟩
   repeat' constructor
  have hd3:dcc=ts.map mJ++(ps.take (k+1)).flatMap uX:=by
   rw[hdcc,he,List.take_length,hbcc,Ψ,hx,List.flatMap_append,R']
   congr 2
   simp[uX]
  refine an<|bL<|bM<|bK<|bW<|qs<|cJ 2 Z<|W.bZ [0,2] ⟨(k+1,dcc),?_⟩ ?_ Z ?_ ⟨rfl,rfl,rfl,rfl,trivial⟩ ?_ trivial Z
  ·exact⟨hlt,hd3⟩
  ·dsimp only;omega
  ·repeat' first|exact trivial|refine⟨rfl,?_⟩|refine⟨bH (by assumption) (by assumption),?_⟩
  repeat' constructor
 have hb2:bcc=K0 ts ps:=by rw[hbcc,he,List.take_length];rfl
 have hP:=Fh (mn ts ps) hz
 rw[ij]at hP
 rw[show(mn ts ps).kids=bcc from hb2.symm]at hP
 refine an<|bL<|bM<|bK<|qs<|ae<|aa<|aY 1 Z<|pu (bm Z Z Z hP Z) Z<|aY 5 Z<|ab<|qs<|ae<|aZ 2 Z<|ba Z (fun h91=>?_)<|fun h91=>?_
 ·
  have hg:pc ts ps=(cw,ck (mn ts ps) 1):=by unfold pc;rw[if_neg h0,if_pos (by simpa using h91)]
  refine aZ 3 Z<|W.ret<|bl<|QF.bo trivial Z ?_
  rw[hg];rfl
 have hcj:¬ck (mn ts ps) 1≠0:=by simpa using h91
 refine ah<|qs<|ae<|aZ 3 Z<|ba Z (fun h95=>?_)<|fun h95=>?_
 ·
  have hg:pc ts ps=(cw,7):=by unfold pc;rw[if_neg h0,if_neg hcj,if_pos (by simp at h95;omega)]
  refine aZ 2 Z<|W.ret<|bl<|QF.bo trivial Z ?_
  rw[hg];rfl
 have hg:pc ts ps=(l8 (mn ts ps),0):=by unfold pc;rw[if_neg h0,if_neg hcj,if_neg (by simp at h95;omega)]
 refine ah<|qs<|aZ 3 Z<|W.ret<|QF.bo trivial Z ?_
 rw[hg];rfl
abbrev vC(g:Nat)(x:fX):List A:=[.own g (x.ids.map ic),.mp (g+1) (gy ik cs x.names),.mo (g+2) (jk ik Ev.c x.evs) none none]
theorem vu(x:fX)(id)(M:x5 1000000 x):bU Tryz.prog 74 [.ptr 0 0,.d (ci id)] [vC 1 x] 3 (.tup []) [vC 1 {x with ids:=dq x.ids id}] 3:=by
 obtain⟨ids,names,evs⟩:=x;have hid:ids.length<=1000000:=M.2.2.1;refine bU.dk aW (n:=21) (rs:=[]) Tryz.func74 (by kernel_rfl) Z Tryz.ntmps74 Tryz.results74 Z Z fun C hC N=>ae<|aa<|aY 5 Z<|pu (bm Z Z Z (Ac ids id) Z) Z<|pE Z<|ab<|qs<|ba Z (fun I=>?_)<|fun I=>?_;·
  have J:dq ids id=ids++[id]:=if_neg (by revert I;cases(ids.any fun x=>decide (id=x))<;>simp);refine aa<|aY 6 Z<|pu (bR aW Z Z Z Z Z Z Z Z Z) Z<|dF (fn:=ic) (a:=id) aW Z Z Z Z Z Z Z Z Z Z (fun _=>rfl) (by show(ids.length+1)*8<=_;omega)<|aY 2 Z<|be aW Z Z Z Z Z Z Z Z<|ab<|ak aW [4,2,3] trivial Z Z Z Z ?_ ?_;·rw[J];exact⟨rfl,trivial⟩
  rfl
 have J:dq ids id=ids:=if_pos (by revert I;cases(ids.any fun x=>decide (id=x))<;>simp);refine ah (ak aW [1,2,3] trivial Z Z Z Z ?_ ?_);·rw[J];exact⟨rfl,trivial⟩
 rfl
theorem Iq{n}{x:fX}(h:x5 n x)(id):((cC x.evs id).getD []).length<=n:=by
 unfold cC
 cases q:x.evs.find? fun p=>decide (p.1=id)with
 |none=>simp
 |some p=>simpa[q]using h.2.2.2 p (List.mem_of_find?_eq_some q)
set_option maxHeartbeats 1000000 in
theorem Eb(x:fX)(j:JV)(hj:uw j)(O:x5 1000000 x):bU Tryz.prog 24 [.ptr 0 0,.ag j.c] [vC 1 x] 3 (.d (ci (eY x j).2)) [vC 1 (eY x j).1] 3:=by
 obtain⟨ids,names,evs⟩:=x;have a8:=Iq O (cH j).1;have hid:ids.length<=1000000:=O.2.2.1;obtain⟨M,X⟩:∃M,M=dq ids (cH j).1:=⟨_,rfl⟩;obtain⟨cur,U⟩:∃cur,cur=(cC evs (cH j).1).getD []:=⟨_,rfl⟩;have b0:cur.length<=1000000:=by rw[U];exact a8
 refine bU.dk aW (n:=90) (rs:=[.tmp 4]) Tryz.func24 (by kernel_rfl) Z Tryz.ntmps24 Tryz.results24 Z Z fun C hC hG=>ae<|aa<|cG Z Z Z<|pE Z<|ab<|qs<|ae<|aa<|aY 4 Z<|pu (build aW Z Z Z Z) Z<|cG Z Z Z<|pE Z<|ab<|qs<|ae<|aa<|pE Z<|bu [5] [] Z Z Z Z Z ((vq j (da j))) Z Z (by rfl) (by rfl) Z Z Z Z<|aY 5 Z<|ab<|qs<|ae<|aZ 4 Z<|ba Z (fun ad=>?_)<|fun ad=>?_;·
  have J:eY ⟨ids,names,evs⟩ j=(⟨ids,names,evs⟩,10):=if_pos ad;refine aZ 1 Z<|W.ret<|bl<|ak aW [1,2,3] trivial Z Z Z Z ?_ ?_;·rw[J];exact⟨rfl,trivial⟩
  rw[J];rfl
 have hb:¬cQ j (da j)=true:=by rw[show cQ j (da j)=false from ad];simp
 refine ah<|qs<|ae<|aZ 2 Z<|ba Z (fun ai=>?_)<|fun ai=>?_;·
  have N:(cm j e8 4).s≠pM:=by simpa[pM]using ai
  have hE:eY ⟨ids,names,evs⟩ j=(if(cH j).2.2=0 then(Kq ⟨ids,names,evs⟩ (cH j).1 (cH j).2.1,0)else(⟨ids,names,evs⟩,(cH j).2.2)):=by unfold eY;rw[if_neg hb,if_pos N]
  refine ae<|aa<|aY 1 Z<|pu (bm Z Z Z (F3 j (hj.val _ _)) Z) Z<|aY 4 Z<|bT aW Z Z Z<|pE Z<|be aW Z Z Z Z Z Z Z Z<|pE Z<|ab<|qs<|ae<|aZ 2 Z<|ba Z (fun aj=>?_)<|fun aj=>?_;·
   have h0:(cH j).2.2=0:=by simpa using aj
   have J:eY ⟨ids,names,evs⟩ j=(⟨M,names,dN evs (cH j).1 (cur++[(cH j).2.1])⟩,(cH j).2.2):=by rw[hE,if_pos h0,X,U,h0];rfl
   refine ae (W.kV [(0,.ptr 0 0),(9,.ptr 1 0)] [8,10] [(0,[.own 2 (M.map ic),.mp 3 (gy ik cs names),.mo 4 (jk ik Ev.c evs) none none]),(1,(cH j).2.1.c.map A.d)] [] [2,3,4] 5 ?_ ?_);·
    refine aa<|aY 2 Z<|bu [0] [1,2,3] Z Z Z Z Z ((vu ⟨ids,names,evs⟩ (cH j).1 O)) Z Z (by rfl) (by rfl) Z Z Z Z<|ab<|cZ [0,7,9,10,11] Z ?_ ⟨rfl,rfl,rfl,rfl,trivial⟩ ?_ trivial Z;·repeat' constructor
    rw[X];repeat' constructor
   refine qs (W.J0 0 2 Z Z Z fun b=>?_);refine' W.uQ aW (fun bx=>[(0,[.own 2 (M.map ic),.mp 3 (gy ik cs names),.mo 5 (jk ik Ev.c evs) (some (ik (cH j).1)) (some b)])::bx,(0,[.own 2 (M.map ic),.mp 3 (gy ik cs names),.mo 5 (jk ik Ev.c evs) (some (ik (cH j).1)) (some b)])::bx]) [[5,6,2,3],[7,5,2,3]] [7,8] [10,13] 14 (by kernel_rfl) (by kernel_rfl) Z Z ?hL_1;case' hL_1=>skip
   refine' bQ (ev aW Z) ?p_2 Z Z Z (by kernel_rfl) Z ?h_2;case' h_2=>skip
   refine' bQ (ev aW Z) ?p_3 Z Z Z (by kernel_rfl) Z ?h_3;case' h_3=>skip
   refine' bQ (ev aW Z) ?p_4 Z Z Z (by kernel_rfl) Z ?h_4;case' h_4=>skip
   refine' bQ (wi aW 0 2 Z Z Z Z) ?p_5 Z Z Z (by kernel_rfl) Z ?h_5;case' h_5=>skip
   refine' bQ (ev aW Z) ?p_6 Z Z Z (by kernel_rfl) Z ?h_6;case' h_6=>skip
   refine' bQ (ev aW Z) ?p_7 Z Z Z (by kernel_rfl) Z ?h_7;case' h_7=>skip
   refine' bQ (ev aW Z) ?p_8 Z Z Z (by kernel_rfl) Z ?h_8;case' h_8=>skip
   refine' bQ (ev aW Z) ?p_9 Z Z Z (by kernel_rfl) Z ?h_9;case' h_9=>skip
   refine' bQ (wi aW 0 2 Z Z Z Z) ?p_10 Z Z Z (by kernel_rfl) Z ?h_10;case' h_10=>skip
   refine' bQ (ev aW Z) ?p_11 Z Z Z (by kernel_rfl) Z ?h_11;case' h_11=>skip
   refine' AM ?x_12 Z Z Z (by kernel_rfl) (fun h=>bc h) Z ?h_12;case x_12=>
    intro b hb g;cases b;·exact bc hb
    refine Gb (kf:=ik) (fn:=Ev.c) (l:=evs) (a:=(cH j).1) (x:=cur.map Ev.c) aW 0 2 Z Z Z Z Z Z Z Z (jr (aW.iR Z Z)) Z Z Z O.2.1 (by rw[U]) Z Z<|ab ?_;refine' w4 Z ?_ ?_ ?_ ?_;all_goals try exact Z
   case' h_12=>skip
   refine' bQ (ev aW Z) ?p_13 Z Z Z (by kernel_rfl) Z ?h_13;case' h_13=>skip
   refine' bQ (bR aW Z Z Z Z Z Z Z Z Z) ?p_14 Z Z Z (by kernel_rfl) Z ?h_14;case' h_14=>skip
   refine' AM ?x_15 Z Z Z (by kernel_rfl) (fun h=>bc h) Z ?h_15;case x_15=>
    intro b hb g;cases b;·exact bc hb
    refine dF (fn:=Ev.c) (l:=cur) (a:=(cH j).2.1) aW Z Z Z Z Z Z Z Z Z Z (fun _=>rfl) (by show(cur.length+1)*72<=_;omega)<|ab ?_;refine' w4 Z ?_ ?_ ?_ ?_;all_goals try exact Z
   case' h_15=>skip
   case p_2=>refine⟨fun I=>bc I,?_,fun I=>bc I,?_,fun I=>bc I,?_⟩<;>intro I<;>first|exact⟨ev aW Z,fun h=>nomatch h⟩|exact bc I
   case p_3=>refine⟨fun I=>bc I,?_,fun I=>bc I,?_,fun I=>bc I,?_⟩<;>intro I<;>first|exact⟨ev aW Z,fun h=>nomatch h⟩|exact bc I
   case p_4=>refine⟨fun I=>bc I,?_,fun I=>bc I,?_,fun I=>bc I,?_⟩<;>intro I<;>first|exact⟨ev aW Z,fun h=>nomatch h⟩|exact bc I
   case p_5=>refine⟨fun I=>bc I,?_,fun I=>bc I,?_,fun I=>bc I,?_⟩<;>intro I<;>first|exact⟨wi aW 0 2 Z Z Z Z,fun h=>nomatch h⟩|exact bc I
   case p_6=>refine⟨fun I=>bc I,?_,fun I=>bc I,?_,fun I=>bc I,?_⟩<;>intro I<;>first|exact⟨ev aW Z,fun h=>nomatch h⟩|exact bc I
   case p_7=>refine⟨fun I=>bc I,?_,fun I=>bc I,?_,fun I=>bc I,?_⟩<;>intro I<;>first|exact⟨ev aW Z,fun h=>nomatch h⟩|exact bc I
   case p_8=>refine⟨fun I=>bc I,?_,fun I=>bc I,?_,fun I=>bc I,?_⟩<;>intro I<;>first|exact⟨ev aW Z,fun h=>nomatch h⟩|exact bc I
   case p_9=>refine⟨fun I=>bc I,?_,fun I=>bc I,?_,fun I=>bc I,?_⟩<;>intro I<;>first|exact⟨ev aW Z,fun h=>nomatch h⟩|exact bc I
   case p_10=>refine⟨fun I=>bc I,?_,fun I=>bc I,?_,fun I=>bc I,?_⟩<;>intro I<;>first|exact⟨wi aW 0 2 Z Z Z Z,fun h=>nomatch h⟩|exact bc I
   case p_11=>refine⟨fun I=>bc I,?_,fun I=>bc I,?_,fun I=>bc I,?_⟩<;>intro I<;>first|exact⟨ev aW Z,fun h=>nomatch h⟩|exact bc I
   case p_13=>refine⟨fun I=>bc I,?_,fun I=>bc I,?_,fun I=>bc I,?_⟩<;>intro I<;>first|exact⟨ev aW Z,fun h=>nomatch h⟩|exact⟨eH aW Z Z Z Z,fun h=>nomatch h⟩|exact⟨eI aW Z Z Z Z Z,fun h=>nomatch h⟩|exact bc I
   case p_14=>refine⟨fun I=>bc I,?_,fun I=>bc I,?_,fun I=>bc I,?_⟩<;>intro I<;>first|exact⟨bR aW Z Z Z Z Z Z Z Z Z,fun h=>nomatch h⟩|exact bc I
   refine ax ?_ Z;refine IS (kf:=ik) (fn:=Ev.c) (l:=evs) (a:=(cH j).1) (y:=cur++[(cH j).2.1]) aW 0 2 Z Z Z Z Z Z Z (jr (aW.iR Z Z)) Z Z Z O.2.1 Z Z<|ab<|qs<|aZ 2 Z<|W.ret<|bl<|ak aW [2,3,8] trivial Z Z Z Z ?_ ?_;·rw[J];exact⟨rfl,trivial⟩
   rw[J];rfl
  have h0:¬(cH j).2.2=0:=by simpa using aj
  have J:eY ⟨ids,names,evs⟩ j=(⟨ids,names,evs⟩,(cH j).2.2):=by rw[hE,if_neg h0]
  refine ah<|qs<|aZ 2 Z<|W.ret<|bl<|ak aW [1,2,3] trivial Z Z Z Z ?_ ?_;·rw[J];exact⟨rfl,trivial⟩
  rw[J];rfl
 have N:¬(cm j e8 4).s≠pM:=by simpa[pM]using ai
 refine ah<|qs<|ae<|aa<|pE Z<|bu [5] [] Z Z Z Z Z ((lf j (cQ j (da j)) cb 4)) Z Z (by rfl) (by rfl) Z Z Z Z<|aY 2 Z<|ab<|qs<|ae<|ae<|?_
 apply bC;(case hb=>rfl);·repeat' first|refine b4 Z Z Z|refine bz Z Z ?_|refine bA Z Z Z Z ?_|refine pE Z ?_|refine ab ?_|refine pu (bR aW Z Z Z Z Z Z Z Z Z) Z ?_|refine pu (bm Z Z Z (vG j (cQ j (da j)||dD j cb 4) rG) Z) Z ?_|(apply bN;(case hj=>rfl);(case hl=>rfl))
 refine qs (ba Z (fun ar=>?_) (fun ar=>?_));·
  have J:eY ⟨ids,names,evs⟩ j=(⟨ids,names,evs⟩,10):=by unfold eY;rw[if_neg hb,if_neg N,if_pos ar]
  refine aZ 1 Z<|W.ret<|bl<|ak aW [1,2,3] trivial Z Z Z Z ?_ ?_;·rw[J];exact⟨rfl,trivial⟩
  rw[J];rfl
 have hg:¬(bif (cQ j (da j)||dD j cb 4)then true else !iB j rG)=true:=by rw[show(bif (cQ j (da j)||dD j cb 4)then true else !iB j rG)=false from ar];simp
 refine ah<|qs<|ae<|ae<|aa<|pE Z<|pu (bm Z Z Z (tG (cm j cb 4).s) Z) Z ?_
 refine pE Z<|ab<|qs<|aZ 2 Z<|ba Z (fun a1=>?_)<|fun a1=>?_;·
  have J:eY ⟨ids,names,evs⟩ j=(⟨ids,names,evs⟩,cO (cm j cb 4).s):=by unfold eY;rw[if_neg hb,if_neg N,if_neg hg,if_pos (by simpa using a1)]
  refine aZ 2 Z<|W.ret<|bl<|ak aW [1,2,3] trivial Z Z Z Z ?_ ?_;·rw[J];exact⟨rfl,trivial⟩
  rw[J];rfl
 have a7:¬cO (cm j cb 4).s≠0:=by simpa using a1
 refine ah<|qs<|ae<|ae<|aa<|aY 5 Z ?_
 refine pu (oV (kf:=ik) (vf:=cs) (l:=names) (a:=(cm j de 3).n) (z:=cw) aW Z Z Z Z Z (jr (aW.iR Z Z)) Z Z Z (fun _ _=>.v _ Z) O.1 Z) Z<|pE Z<|ab<|qs<|ba Z (fun a6=>?_)<|fun a6=>?_;·
  have J:eY ⟨ids,names,evs⟩ j=(⟨ids,names,evs⟩,4):=by unfold eY;rw[if_neg hb,if_neg N,if_neg hg,if_neg a7,if_pos (by revert a6;show(!decide ((cC names (cm j de 3).n).getD cw=cw))=true->_;simp)]
  refine aZ 1 Z<|W.ret<|bl<|ak aW [1,2,3] trivial Z Z Z Z ?_ ?_;·rw[J];exact⟨rfl,trivial⟩
  rw[J];rfl
 have J:eY ⟨ids,names,evs⟩ j=(Ke ⟨ids,names,evs⟩ (cm j de 3).n (cm j cb 4).s,0):=by unfold eY;rw[if_neg hb,if_neg N,if_neg hg,if_neg a7,if_neg (by revert a6;show(!decide ((cC names (cm j de 3).n).getD cw=cw))=false->_;simp)]
 refine ah<|qs<|ae<|aa<|aY 2 Z<|bu [0] [1,2,3] Z Z Z Z Z ((vu ⟨ids,names,evs⟩ (cm j de 3).n O)) Z Z (by rfl) (by rfl) Z Z Z Z<|ab<|qs<|ae<|aa<|aY 6 Z<|Ju (kf:=ik) (vf:=cs) (l:=names) (a:=(cm j de 3).n) (y:=(cm j cb 4).s) aW 0 1 Z Z Z Z Z Z Z Z (jr (aW.iR Z Z)) Z O.1 Z Z Z<|ab<|qs<|aZ 1 Z<|W.ret<|ak aW [9,12,11] trivial Z Z Z Z ?_ ?_;·rw[J];exact⟨rfl,trivial⟩
 rw[J];rfl
theorem G7(evs:List Ev):bp Tryz.prog 26 [.d (.sl (evs.map Ev.c)),.d (ci 1000)] (.clo 77 [.rowd [.sl (evs.map Ev.c)],.rowd [ci 1000]]) 0:=by
 refine bp.b6 (n:=9) (ts:=[4]) Tryz.func26 (by kernel_rfl) Z Tryz.ntmps26 Tryz.results26 Z Z fun C hC J=>ae<|aa<|cG Z Z Z<|cG Z Z Z<|pE Z<|ab<|qs<|ae<|aZ 2 Z<|ba Z (fun I=>?_)<|fun I=>?_;·exfalso;simp at I
 refine ah<|qs<|ae<|BW 2 (l:=[.sl (evs.map Ev.c)]) Z Z Z Z Z<|BW 3 (l:=[ci 1000]) Z Z Z Z Z<|cJ 2 Z<|qs<|W.ret<|QF.bo trivial Z ?_;rfl
theorem KC{id}(h:0<=id∧id<=1000000000000000):(B #[116]).size+(dh id).size<=9223372036854775807:=by
 have h1:(10:Nat)^20=100000000000000000000:=by decide
 have h2:=pI (n:=id) (by omega);have h3:(B #[116]).size=1:=rfl;omega
theorem Hy(s:ByteArray):∃(v:JV)(a e:Int),bp Tryz.prog 23 [.d (.v (.string s))] (.tup [.ag v.c,.d (ci a),.d (ci e)]) 0∧(e≠0->fO s=(gm,e))∧(e=0->s.size<=65536∧∃i,eb (aX s)=.ok v i):=by
 have h:=Hm s;unfold qz at h;by_cases hs:65536<s.size;·
  rw[if_pos hs]at h;exact⟨_,_,_,h,fun _=>by unfold fO;rw[if_pos hs],fun q=>by cases q⟩
 rw[if_neg hs]at h
 cases hp:eb (aX s)with
 |ok v i=>rw[hp]at h;exact⟨v,_,_,h,fun q=>absurd Z q,fun _=>⟨by omega,i,rfl⟩⟩
 |no a w=>rw[hp]at h;have hw:=qI (l:=aX s);rw[hp]at hw;have hw:w=2∨w=4∨w=10∨w=20:=hw;exact⟨_,_,_,h,fun _=>by unfold fO;rw[if_neg hs,hp],fun q=>by omega⟩
theorem EU{z:fX}{id}{cur:List Ev}(h:cur=[]->fc z id=[])(q:cur.map Ev.c=[]):
 ([[.own 3 ((ps++fc z id).map bP.c)],[.d (ci id)],[.d (ci (cur.length:Int))]]:List (List A))=[[.own 3 (ps.map bP.c)],[.d (ci id)],[.d (ci 0)]]∧1=1:=by
 have q:cur=[]:=by simpa using q
 rw[h q,q,List.append_nil];exact⟨rfl,rfl⟩
set_option maxHeartbeats 1000000 in
theorem wo(s)(hG0:∀v i,eb (aX s)=.ok v i->yy v):bp Tryz.prog 9 [.d (.v (.string s))] (.tup [.ag (fO s).1.c,.d (ci (fO s).2)]) 0:=by
 obtain⟨v,a,e,hP,hPe,hP0⟩:=Hy s
 refine bp.Lq aW (n:=107) (rs:=[.cell 2 30,.tmp 3]) Tryz.func9 (by kernel_rfl) Z Tryz.ntmps9 Tryz.results9 Z fun C hbx hG=>?_
 haveI hC:NB C 0:=⟨by rw[hbx];rfl⟩
 refine Wd.ki hbx fun C hC hG=>aa<|bT aW Z Z Z<|pE Z<|ab<|ml Z<|Wd.ki hbx fun C hC hG=>aa<|pE Z<|pu (bm Z Z Z hP Z) Z<|aY 4 Z<|bT aW Z Z Z<|be aW Z Z Z Z Z Z Z Z<|aY 2 Z<|ab<|ml Z<|Wd.ki hbx fun C hC hG=>aZ 2 Z<|ba Z (fun h25=>?_)<|fun h25=>?_
 ·
  have hg:=hPe (by simpa using h25)
  refine ae<|aa<|pu (gX (build aW Z Z Z Z) Z) Z<|pE Z<|be aW Z Z Z Z Z Z Z Z<|pE Z<|ab<|qs<|W.ret<|yG Z<|zA ?_
  refine⟨trivial,_,rfl,?_⟩
  rw[hg];rfl
 have he0:e=0:=by simpa using h25
 obtain⟨hsz,i,hpj⟩:=hP0 he0
 have hGv:=hG0 v i hpj
 have hE:fO s=if v.op≠5 then(gm,10)else if(db v.kids x0).2≠0 then(gm,(db v.kids x0).2)else ez ((db v.kids x0).1.ids.map (lD (db v.kids x0).1)) ((db v.kids x0).1.ids.flatMap (fc (db v.kids x0).1)):=by unfold fO;rw[if_neg (by omega),hpj]
 refine ah<|ml Z<|Wd.ki hbx fun C hC hG=>aZ 3 Z<|ba Z (fun h30=>?_)<|fun h30=>?_
 ·
  have hg:fO s=(gm,10):=by rw[hE,if_pos (by simpa using h30)]
  refine ae<|aa<|pu (gX (build aW Z Z Z Z) Z) Z<|be aW Z Z Z Z Z Z Z Z<|pE Z<|ab<|qs<|W.ret<|yG Z<|zA ?_
  refine⟨trivial,_,rfl,?_⟩
  rw[hg];rfl
 have hop:¬v.op≠5:=by simpa using h30
 rw[if_neg hop]at hE
 refine ah<|ml Z<|Wd.ki hbx fun C hC hG=>aa<|mkMap Z<|KV Z<|pu (build aW Z Z Z Z) Z<|cG Z Z Z<|pE Z<|ab<|ml Z<|Wd.ki hbx fun C hC hG=>aZ 4 Z<|W.block<|ey 4 0 Z Z Z<|W.len (t:=37) Z Z<|fun hlen=>?_
 try simp only[η,Ex.bE]at hlen
 refine W.bY (ι:={x:Nat×fX//match x with|(k,z)=>k<=v.kids.length∧db (v.kids.drop k) z=db v.kids x0∧x5 k z∧ED z})
  (fun x=>match x.1 with|(k,z)=>[(2,.ptr 0 0),(7,.ptr 1 0),(39,.d (.v (.int .i64 ((k:Nat):Int))))]) [(37,_),(38,_)]
  (fun x=>match x.1 with|(k,z)=>[(0,[.d (.v (.slice none 0 0)),.d (.v (.slice none 0 0)),.d (.v (.slice none 0 0)),.d (.v (.slice none 0 0))]),(1,vC 2 z)]) [] [2,3,4] 5 (fun x=>match x.1 with|(k,z)=>v.kids.length-k)
  [0,4,5,2,3] ⟨(0,x0),?_⟩ rfl ?_ ⟨rfl,rfl,rfl,rfl,trivial⟩ ?_ trivial rfl ?_
 ·exact⟨ς _,rfl,⟨List.nodup_nil,List.nodup_nil,ω _,by simp[x0]⟩,List.nodup_nil,by simp[x0]⟩
 ·repeat' constructor
 ·repeat' constructor
 rintro⟨⟨k,z⟩,hk,hI,hC1,hC2⟩
 show W _ _ _ _ _ ⟨[(2,.ptr 0 0),(7,.ptr 1 0),(39,.d (.v (.int .i64 ((k:Nat):Int)))),(37,_),(38,_)],[(0,[.d (.v (.slice none 0 0)),.d (.v (.slice none 0 0)),.d (.v (.slice none 0 0)),.d (.v (.slice none 0 0))]),(1,vC 2 z)],[2,3,4],5⟩
 refine aZ 1 Z<|ae<|ct (l:=v.kids) (k:=k) Z (by simp[JV.bE]) hk (fun j hx hd hlt=>?_)<|fun he hd=>?_
 ·
  have hjk:uw j:=hGv.kids j (ζ hx)
  have hjt:=hGv.tids j (ζ hx)
  have hv5:=hGv.len
  have hkm:v.kids.length<=maxLen:=by simp only[maxLen];omega
  have hOk:x5 1000000 z:=⟨hC1.1,hC1.2.1,by have:=hC1.2.2.1;omega,fun p hp=>by have:=hC1.2.2.2 p hp;omega⟩
  rw[hd,db]at hI
  refine ah<|qs<|ae<|W.block<|ae<|aa<|pu (indexAddr (l:=j.c) aW Z Z Z Z Z Z (ε _) (JV.sN hx) Z) Z<|aY 1 Z<|bT aW Z Z Z<|be aW Z Z Z Z Z Z Z Z<|ab<|qs<|ae<|aa<|aY 2 Z<|bu [1] [2,3,4] Z Z Z Z Z ((Eb z j hjk hOk)) Z Z (by rfl) (by rfl) Z Z Z Z<|pE Z<|ab<|qs<|aZ 2 Z<|ba Z (fun h47=>?_)<|fun h47=>?_
  ·
   have hbad:(eY z j).2≠0:=by simpa using h47
   rw[if_pos hbad]at hI
   have hg:fO s=(gm,(eY z j).2):=by rw[hE,if_pos (by rw[<-hI];exact hbad),←hI]
   refine ae<|aa<|pu (gX (build aW Z Z Z Z) Z) Z<|pE Z<|be aW Z Z Z Z Z Z Z Z<|pE Z<|ab<|qs<|W.ret<|bw<|bl<|cN<|bw<|yG Z<|zA ?_
   refine⟨trivial,_,rfl,?_⟩
   rw[hg];rfl
  rw[if_neg (by simpa using h47)]at hI
  refine ah<|bW<|qs<|cJ 2 Z<|W.bZ [0,1,7,8,9] ⟨(k+1,(eY z j).1),?_⟩ ?_ Z ?_ ⟨rfl,rfl,rfl,rfl,trivial⟩ ?_ trivial Z
  ·exact⟨hlt,hI,Hf hC1 j,zl hC2 hjt⟩
  ·dsimp only;omega
  ·repeat' first|exact trivial|refine⟨rfl,?_⟩|refine⟨bH (by assumption) (by assumption),?_⟩
  repeat' constructor
 rw[hd]at hI
 have hI:(z,0)=db v.kids x0:=hI
 have hev:=hGv.evs
 rw[<-hI]at hev hE
 have hev:=hev Z
 have hE:fO s=ez (z.ids.map (lD z)) (z.ids.flatMap (fc z)):=hE
 have hOS:=zd hev
 have hxl:z.ids.length<=maxLen:=by have:=hC1.2.2.1;have:=hGv.len;simp only[maxLen];omega
 have hxl2:z.ids.length<=100000:=by have:=hC1.2.2.1;have:=hGv.len;omega
 refine an<|bL<|bM<|bK<|ml Z<|Wd.ki hbx fun C hC hG=>aa<|pu (gX (build aW Z Z Z Z) Z) Z<|pu (bR aW Z Z Z Z Z Z Z Z Z) Z<|pu (build aW Z Z Z Z) Z<|bT aW Z Z Z<|be aW Z Z Z Z Z Z Z Z<|ab<|ml Z<|Wd.ki hbx fun C hC hG=>aa<|bT aW Z Z Z<|ab<|ml Z<|aK<|Wd.ki hbx fun C hC hG=>ey 5 0 Z Z Z<|bJ 5 2 Z Z Z<|ey 6 0 Z Z Z<|cJ 6 Z<|ml Z<|Wd.block<|Wd.bY (ι:={x:Nat×List ca×List bP//match x with|(k,ts,ps)=>k<=z.ids.length∧ts=(z.ids.take k).map (lD z)∧ps=(z.ids.take k).flatMap (fc z)})
  (fun x=>match x.1 with|(k,ts,ps)=>[(2,.ptr 0 0),(7,.ptr 1 0),(11,.ptr 2 0),(12,.ptr 3 0),(57,.own 4 (z.ids.map ic)),(59,.d (.v (.int .i64 ((k:Nat):Int))))]) [(58,_)]
  (fun x=>match x.1 with|(k,ts,ps)=>[(0,[.d (.v (.slice none 0 0)),.d (.v (.slice none 0 0)),.d (.v (.slice none 0 0)),.d (.v (.slice none 0 0))]),(1,vC 4 z),(2,[.own 7 (ts.map ca.c),.d (.sl (dV.map dv)),.d (.sl [])]),(3,[.own 8 (ps.map bP.c)])]) [] [4,5,6,7,8] 9 (fun x=>match x.1 with|(k,ts,ps)=>z.ids.length-k)
  [0,1,5,6,2,3,4,7,8] ⟨(0,[],[]),?_⟩ rfl ?_ ⟨rfl,rfl,trivial⟩ ?_ trivial rfl ?_
 ·exact⟨ς _,rfl,rfl⟩
 ·repeat' constructor
 ·repeat' constructor
 rintro⟨⟨k,ts,ps⟩,hk,hts,hps⟩
 show Wd _ _ _ _ _ ⟨[(2,.ptr 0 0),(7,.ptr 1 0),(11,.ptr 2 0),(12,.ptr 3 0),(57,.own 4 (z.ids.map ic)),(59,.d (.v (.int .i64 ((k:Nat):Int)))),(58,_)],[(0,[.d (.v (.slice none 0 0)),.d (.v (.slice none 0 0)),.d (.v (.slice none 0 0)),.d (.v (.slice none 0 0))]),(1,vC 4 z),(2,[.own 7 (ts.map ca.c),.d (.sl (dV.map dv)),.d (.sl [])]),(3,[.own 8 (ps.map bP.c)])],[4,5,6,7,8],9⟩
 refine Wd.ki hbx fun C hC hG=>cJ 1 Z<|ml Z<|Wd.ki hbx fun C hC hG=>ct (l:=z.ids) (k:=k) Z (by simp[Ex.bE,bh]) hk (fun id hx hd hlt=>?_)<|fun he hd=>?_
 ·
  have hid:=hC2.2 id (ζ hx)
  obtain⟨cur,hcur⟩:∃cur,cur=(cC z.evs id).getD []:=⟨_,rfl⟩
  have hpk:cur≠[]->fc z id=[⟨id,0,0,cur⟩]:=fun q=>by unfold fc;rw[<-hcur,if_neg q]
  have hpk0:cur=[]->fc z id=[]:=fun q=>by unfold fc;rw[<-hcur,if_pos q]
  have hcl:(cur.map Ev.c).length<=1000:=by
   rw[η]
   by_cases q:cur=[]
   ·simp[q]
   have hm:(⟨id,0,0,cur⟩:bP)∈z.ids.flatMap (fc z):=List.mem_flatMap.2 ⟨id,ζ hx,by rw[hpk q];exact List.mem_singleton.2 rfl⟩
   exact B' (wZ hm) hev
  have htl:ts.length<=100000:=by rw[hts,η,List.length_take];omega
  have hpl:ps.length<=100000:=by rw[hps];exact oS z (z.ids.take k) (by rw[List.length_take];omega)
  have htx:ts++[lD z id]=(z.ids.take (k+1)).map (lD z):=by rw[hts,Ψ,hx,I'];rfl
  have hpx:ps++fc z id=(z.ids.take (k+1)).flatMap (fc z):=by rw[hps,Ψ,hx,List.flatMap_append];simp
  have hnm:nameOf z.names id=if(cC z.names id).getD cw=cw then B #[116]++dh id else(cC z.names id).getD cw:=rfl
  refine ah<|ml Z<|aK<|Wd.block<|Wd.ki hbx fun C hC hG=>aa<|pu (indexAddr aW Z Z Z Z Z Z (ε _) (bF (f:=ic) hx) Z) Z<|aY 1 Z<|bT aW Z Z Z<|be aW Z Z Z Z Z Z Z Z<|ab<|ml Z<|Wd.ki hbx fun C hC hG=>W.dK aW (by kernel_rfl)<|bt (ev aW Z) Z<|bt (ev aW Z) Z<|bt (ev aW Z) Z<|bt (ev aW Z) Z<|bt (ev aW Z) Z<|bt (oV (kf:=ik) (vf:=cs) (l:=z.names) (a:=id) (z:=cw) aW Z Z Z Z Z (jr (aW.iR Z Z)) Z Z Z (fun _ _=>.v _ Z) hC1.1 Z) Z<|bt (ev aW Z) Z<|ao<|ml Z<|Wd.ki hbx fun C hC hG=>aZ 2 Z ?_
  refine W.kV [(2,.ptr 0 0),(7,.ptr 1 0),(11,.ptr 2 0),(12,.ptr 3 0),(14,.ptr 4 0),(15,.d (cs (nameOf z.names id))),(57,.own 5 (z.ids.map ic))] [58,59] [(0,[.d (.v (.slice none 0 0)),.d (.v (.slice none 0 0)),.d (.v (.slice none 0 0)),.d (.v (.slice none 0 0))]),(1,vC 5 z),(2,[.own 8 (ts.map ca.c),.d (.sl (dV.map dv)),.d (.sl [])]),(3,[.own 9 (ps.map bP.c)]),(4,[.d (ci id)])] [] [5,6,7,8,9] 10 ?_ ?_
  ·
   refine ba Z (fun h70=>?_) (fun h70=>?_)
   ·
    have hn0:(cC z.names id).getD cw=cw:=μ h70
    rw[show nameOf z.names id=B #[116]++dh id from by rw[hnm,if_pos hn0]]
    refine aa<|aY 1 Z<|pu (bm Z Z Z (qH id (by omega) (by omega)) Z) Z<|pu (oQ (p:=B #[116]) (q:=dh id) Z Z (KC hid)) Z<|pE Z<|ab<|cZ [0,1,2,3,9,4,5,6,7,8] Z ?_ ⟨rfl,rfl,rfl,rfl,trivial⟩ ?_ trivial Z
    ·repeat' constructor
    repeat' constructor
   have hn0:¬(cC z.names id).getD cw=cw:=υ h70
   rw[show nameOf z.names id=(cC z.names id).getD cw from by rw[hnm,if_neg hn0]]
   refine ah (cZ [0,1,2,3,9,4,5,6,7,8] Z ?_ ⟨rfl,rfl,rfl,rfl,trivial⟩ ?_ trivial Z)
   ·repeat' constructor
   repeat' constructor
  refine ml Z<|Wd.ki hbx fun C hC hG=>aa<|aY 4 Z<|pu (build aW Z Z Z Z) Z<|pu (bR aW Z Z Z Z Z Z Z Z Z) Z<|dF (fn:=ca.c) (a:=lD z id) aW Z Z Z Z Z Z Z Z Z Z (fun _=>rfl) (by show(ts.length+1)*32<=_;omega)<|pE Z<|be aW Z Z Z Z Z Z Z Z<|ab<|ml Z<|Wd.ki hbx fun C hC hG=>aa<|bT aW Z Z Z<|be aW Z Z Z Z Z Z Z Z<|ab<|ml Z<|Wd.ki hbx fun C hC hG=>W.dK aW (by kernel_rfl)<|bt (ev aW Z) Z<|bt (ev aW Z) Z<|bt (ev aW Z) Z<|bt (ev aW Z) Z<|bt (ev aW Z) Z<|bt (HA (kf:=ik) (fn:=Ev.c) (l:=z.evs) (a:=id) (r:=cur.map Ev.c) aW Z Z Z Z Z (jr (aW.iR Z Z)) Z Z Z hC1.2.1 (by rw[hcur])) Z<|bt (bm Z Z Z (G7 cur) Z) Z ?_
  refine ao<|ml Z<|Wd.block<|Wd.JD (V:=[(12,.ptr 0 0),(14,.ptr 1 0),(16,.ptr 2 0)]) (es:=cur.map Ev.c) (b1:=[[.own 3 ((ps++fc z id).map bP.c)],[.d (ci id)],[.d (ci (cur.length:Int))]]) (k:=1) Z ⟨_,Tryz.func77,by kernel_rfl,by kernel_rfl⟩ Gl Es hcl Z Z [3,4,11] [9] Z Z Z Z Z (aL ⟨⟨_,rfl,rfl⟩,⟨_,rfl,rfl⟩,⟨_,rfl,rfl⟩,trivial⟩) Z (EU hpk0) (fun hne=>?_) Z ?_
  have hne:cur≠[]:=by simpa using hne
  rw[show fc z id=[⟨id,0,0,cur⟩]from hpk hne]
  ·
   refine rY.Mb Z Z Z fun C hC hG=>aY 4 Z<|pu (build aW Z Z Z Z) Z<|pu (bR aW Z Z Z Z Z Z Z Z Z) Z<|dF (fn:=bP.c) (a:=⟨id,0,0,cur⟩) aW Z Z Z Z Z Z Z Z Z Z (fun _=>rfl) (by show(ps.length+1)*48<=_;omega)<|be aW Z Z Z Z Z Z Z Z<|ab<|⟨rfl,?_⟩
   refine aY 3 Z<|pu (b5 (ev aW Z) (y:=(cur.length:Int)) (by show IntKind.i64.wrap ((0:Int)+((cur.map Ev.c).length:Nat))=_;rw[η]at hcl⊢;rw[wrap64 (by omega)];omega)) Z<|be aW Z Z Z Z Z Z Z Z<|ab<|⟨rfl,QR.mk' [4] Z Z Z ⟨⟨_,rfl,rfl⟩,⟨_,rfl,rfl⟩,⟨_,rfl,rfl⟩,trivial⟩⟩
  refine bW<|bW<|LG<|Wd.JN hbx fun C hC hG=>cJ 2 Z<|Mc Z<|Wd.bZ [0,1,2,3,5,6,7,10,15] ⟨(k+1,ts++[lD z id],ps++fc z id),?_⟩ ?_ Z ?_ ⟨rfl,rfl,trivial⟩ ?_ trivial Z
  ·exact⟨hlt,htx,hpx⟩
  ·dsimp only;omega
  ·repeat' first|exact trivial|refine⟨rfl,?_⟩|refine⟨bH (by assumption) (by assumption),?_⟩
  repeat' constructor
 have hts2:ts=z.ids.map (lD z):=by rw[hts,List.take_of_length_le (by omega)]
 have hps2:ps=z.ids.flatMap (fc z):=by rw[hps,List.take_of_length_le (by omega)]
 have hOS:qx (z.ids.map (lD z)) (z.ids.flatMap (fc z)):=hOS
 rw[<-hts2,←hps2]at hOS hE
 refine an<|KR Z<|Jb<|IB<|bK<|LG<|Wd.ki hbx fun C hC hG=>aa<|aY 2 Z<|pu (bm Z Z Z (D2 ts ps hOS) Z) Z<|aY 2 Z<|be aW Z Z Z Z Z Z Z Z<|pE Z<|ab<|ml Z<|Wd.JN hbx fun C hC hG=>W.ret<|yG Z ?_
 refine⟨trivial,_,rfl,?_⟩
 rw[hE];rfl
abbrev CL:ByteArray:=B #[91,123,34,112,104,34,58,34,77,34,44,34,116,105,100,34,58,51,44,34,110,97,109,101,34,58,34,109,97,105,110,34,125,44,123,34,112,104,34,58,34,66,34,44,34,116,105,100,34,58,51,44,34,110,97,109,101,34,58,34,97,34,44,34,116,115,34,58,53,125,44,123,34,112,104,34,58,34,69,34,44,34,116,105,100,34,58,51,44,34,116,115,34,58,57,125,93]
abbrev HS:ByteArray:=B #[91,123,34,112,104,34,58,34,69,34,44,34,116,105,100,34,58,51,44,34,116,115,34,58,57,44,34,110,97,109,101,34,58,34,97,34,125,93]
abbrev xg:List ca:=[⟨3,B #[109,97,105,110]⟩]
abbrev wR:List bP:=[⟨3,0,0,[⟨5,1,B #[97],0,0,[]⟩,⟨9,2,B #[],0,0,[]⟩]⟩]
theorem LW:fO CL=(⟨xg,dV,wR⟩,0):=by kernel_rfl
theorem LS:(fO HS).2=10:=by kernel_rfl
theorem LP:(fO (B #[91,93])).2=8:=by kernel_rfl
theorem LZ:pc xg wR=(CL,0):=by kernel_rfl
theorem LQ:qx xg wR:=⟨by decide,by decide,by decide⟩
theorem L7:(bD (mn xg wR)).length<=1000000000000:=by
 have:(bD (mn xg wR)).length=97:=by kernel_rfl
 omega
theorem Dz(s:ByteArray)(h:s.size<=3000):bp Tryz.prog 9 [.d (.v (.string s))] (.tup [.ag (fO s).1.c,.d (ci (fO s).2)]) 0:=wo s fun v i hp=>oe hp h
theorem ya:bp Tryz.prog 8 [] (.d (.v (.bool true))) 0:=by
 have h1:=Dz CL (by decide);rw[LW]at h1;have h2:=Dz HS (by decide);rw[LS]at h2;have h3:=Dz (B #[91,93]) (by decide);rw[LP]at h3;have h4:=CB xg wR LQ (fun _=>L7);rw[LZ]at h4;refine bp.b6 (n:=75) (ts:=[0]) Tryz.func8 (by kernel_rfl) Z Tryz.ntmps8 Tryz.results8 Z Z fun C hC I=>aZ 1 Z<|ae<|aa<|pu (bm Z Z Z h1 Z) Z<|aY 3 Z<|bT aW Z Z Z<|be aW Z Z Z Z Z Z Z Z<|pE Z<|ab<|qs<|ae<|aa<|aY 1 Z<|pu (bm Z Z Z h4 Z) Z<|aY 5 Z<|ab<|qs<|ae<|aa<|pu (bm Z Z Z h2 Z) Z<|aY 3 Z<|bT aW Z Z Z<|be aW Z Z Z Z Z Z Z Z<|pE Z<|ab<|qs<|ae<|aa<|pu (bm Z Z Z h3 Z) Z<|aY 3 Z<|bT aW Z Z Z<|be aW Z Z Z Z Z Z Z Z<|pE Z<|ab<|qs<|ae ?_;apply bC;(case hb=>rfl);·
  refine aY 3 Z ?_;apply bN;(case hj=>rfl);(case hl=>rfl);·
   refine bz Z Z<|pE Z<|bz Z Z<|pE Z<|bz Z Z<|aY 1 Z<|bz Z Z<|pE Z<|bz Z Z<|aY 3 Z ?_;apply bN;(case hj=>rfl);(case hl=>rfl);·
    refine bz Z Z<|pE Z<|bz Z Z<|pE Z<|bz Z Z<|aY 1 Z<|bz Z Z<|pu (indexAddr (l:=ca.c ⟨3,B #[109,97,105,110]⟩) aW Z Z Z Z Z Z (by decide) Z Z) Z<|bz Z Z<|aY 1 Z<|bz Z Z<|pu (build aW Z Z Z Z) Z<|bz Z Z<|aY 3 Z ?_;apply bN;(case hj=>rfl);(case hl=>rfl);·
     refine bz Z Z<|pE Z<|bz Z Z<|aY 1 Z<|bz Z Z<|pE Z<|bz Z Z<|aY 3 Z ?_;apply bN;(case hj=>rfl);(case hl=>rfl);·
      refine bz Z Z<|pE Z<|bz Z Z<|aY 1 Z<|bz Z Z<|pu (indexAddr (l:=bP.c ⟨3,0,0,[⟨5,1,B #[97],0,0,[]⟩,⟨9,2,B #[],0,0,[]⟩]⟩) aW Z Z Z Z Z Z (by decide) Z Z) Z<|bz Z Z<|pE Z<|bz Z Z<|aY 1 Z<|bz Z Z<|pE Z<|bz Z Z<|aY 3 Z ?_;apply bN;(case hj=>rfl);(case hl=>rfl);·
       refine bz Z Z (pE Z (bz Z Z (aY 3 Z ?_)));apply bN;(case hj=>rfl);(case hl=>rfl);·
        refine bz Z Z (pE Z (bz Z Z (aY 3 Z ?_)));apply bN;(case hj=>rfl);(case hl=>rfl);·
         refine bz Z Z (pE Z (bz Z Z (aY 3 Z ?_)));apply bN;(case hj=>rfl);(case hl=>rfl);·
          refine bz Z Z<|pE Z<|bz Z Z<|aY 3 Z<|ab<|b4 Z Z Z
         refine bA Z Z Z Z<|bA Z Z Z Z<|aY 2 Z ?_
         refine ab (b4 Z Z Z)
        refine bA Z Z Z Z<|bA Z Z Z Z<|aY 2 Z ?_
        refine bA Z Z Z Z<|bA Z Z Z Z<|aY 2 Z ?_
        refine ab (b4 Z Z Z)
       refine bA Z Z Z Z<|bA Z Z Z Z<|aY 2 Z ?_
       refine bA Z Z Z Z<|bA Z Z Z Z<|aY 2 Z ?_
       refine bA Z Z Z Z<|bA Z Z Z Z<|aY 2 Z ?_
       refine ab (b4 Z Z Z)
      refine bA Z Z Z Z<|bA Z Z Z Z<|aY 2 Z ?_
      refine bA Z Z Z Z<|bA Z Z Z Z<|aY 2 Z ?_
      refine bA Z Z Z Z<|bA Z Z Z Z<|aY 2 Z ?_
      refine bA Z Z Z Z<|bA Z Z Z Z<|aY 2 Z ?_
      refine ab (b4 Z Z Z)
     iterate 7 refine bA Z Z Z Z ?_
     refine aY 2 Z<|bA Z Z Z Z<|bA Z Z Z Z<|aY 2 Z ?_
     refine bA Z Z Z Z<|bA Z Z Z Z<|aY 2 Z ?_
     refine bA Z Z Z Z<|bA Z Z Z Z<|aY 2 Z ?_
     refine bA Z Z Z Z<|bA Z Z Z Z<|aY 2 Z ?_
     refine ab (b4 Z Z Z)
    refine bA Z Z Z Z<|bA Z Z Z Z<|bA Z Z Z Z<|bA Z Z Z Z<|aY 2 Z ?_
    iterate 7 refine bA Z Z Z Z ?_
    refine aY 2 Z<|bA Z Z Z Z<|bA Z Z Z Z<|aY 2 Z ?_
    refine bA Z Z Z Z<|bA Z Z Z Z<|aY 2 Z ?_
    refine bA Z Z Z Z<|bA Z Z Z Z<|aY 2 Z ?_
    refine bA Z Z Z Z<|bA Z Z Z Z<|aY 2 Z ?_
    refine ab (b4 Z Z Z)
   iterate 7 refine bA Z Z Z Z ?_
   refine aY 2 Z<|bA Z Z Z Z<|bA Z Z Z Z<|bA Z Z Z Z<|bA Z Z Z Z<|aY 2 Z ?_
   iterate 7 refine bA Z Z Z Z ?_
   refine aY 2 Z<|bA Z Z Z Z<|bA Z Z Z Z<|aY 2 Z ?_
   refine bA Z Z Z Z<|bA Z Z Z Z<|aY 2 Z ?_
   refine bA Z Z Z Z<|bA Z Z Z Z<|aY 2 Z ?_
   refine bA Z Z Z Z<|bA Z Z Z Z<|aY 2 Z ?_
   refine ab (b4 Z Z Z)
  refine bA Z Z Z Z<|bA Z Z Z Z<|bA Z Z Z Z<|bA Z Z Z Z<|bA Z Z Z Z<|aY 2 Z ?_
  iterate 7 refine bA Z Z Z Z ?_
  refine aY 2 Z<|bA Z Z Z Z<|bA Z Z Z Z<|bA Z Z Z Z<|bA Z Z Z Z<|aY 2 Z ?_
  iterate 7 refine bA Z Z Z Z ?_
  refine aY 2 Z<|bA Z Z Z Z<|bA Z Z Z Z<|aY 2 Z ?_
  refine bA Z Z Z Z<|bA Z Z Z Z<|aY 2 Z ?_
  refine bA Z Z Z Z<|bA Z Z Z Z<|aY 2 Z ?_
  refine bA Z Z Z Z<|bA Z Z Z Z<|aY 2 Z ?_
  refine ab (b4 Z Z Z)
 refine qs (W.ret (QF.bo trivial Z ?_));rfl
theorem Ef(p:bP)(hp:p.evs.length<=1000):bp Tryz.prog 87 [.ag p.c,.ag p.c] (.d (.v (.bool true))) 0:=by
 have hm:p.evs.length<=maxLen:=by simp only[maxLen];omega
 refine bp.b6 (n:=53) (ts:=[4]) Tryz.func87 (by kernel_rfl) Z Tryz.ntmps87 Tryz.results87 Z Z fun C hC hG=>ae<|aa<|cG Z Z Z<|cG Z Z Z<|pE Z<|ab<|qs<|ae<|ae<|?_
 apply bC;(case hb=>rfl)
 ·repeat' first|refine b4 rfl rfl rfl|refine bz rfl rfl ?_|refine bA rfl rfl rfl rfl ?_|refine pE rfl ?_|refine ab ?_|(apply bN;(case hj=>rfl);(case hl=>rfl))
 refine qs (ba Z (fun h33=>?_) (fun h33=>?_))
 ·
  exfalso;simp at h33
 refine ah<|qs<|ae<|aZ 1 Z<|W.block<|W.bY (ι:={x:Nat//match x with|k=>k<=p.evs.length})
  (fun x=>match x.1 with|k=>[(2,.ptr 0 0),(3,.ptr 1 0),(5,.d (.v (.int .i64 ((k:Nat):Int))))]) []
  (fun x=>match x.1 with|k=>[(0,p.c.map A.d),(1,p.c.map A.d)]) [] [] 2 (fun x=>match x.1 with|k=>p.evs.length-k)
  [0,1] ⟨0,?_⟩ rfl ?_ trivial ?_ trivial rfl ?_
 ·exact ς _
 ·repeat' constructor
 ·repeat' constructor
 rintro⟨k,hk⟩
 show W _ _ _ _ _ ⟨[(2,.ptr 0 0),(3,.ptr 1 0),(5,.d (.v (.int .i64 ((k:Nat):Int))))],[(0,p.c.map A.d),(1,p.c.map A.d)],[],2⟩
 refine ae<|aZ 5 Z<|ct (l:=p.evs) (k:=k) Z (by simp[Ex.bE,bh]) hk (fun e hx hd hlt=>?_)<|fun he hd=>?_
 ·
  refine ah<|qs<|ae<|W.block<|ae<|W.dK aW (by kernel_rfl)<|bt (ev aW Z) Z<|bt (ev aW Z) Z<|bt (ev aW Z) Z<|bt (indexAddr aW Z Z Z Z Z Z (ε _) (bF hx) Z) Z<|bt (ev aW Z) Z<|bt (ev aW Z) Z<|bt (ev aW Z) Z<|bt (ev aW Z) Z<|bt (indexAddr aW Z Z Z Z Z Z (ε _) (bF hx) Z) Z<|bt (ev aW Z) Z<|bt (bm Z Z Z (HC ..) Z) Z<|bt (ev aW Z) Z<|ao<|qs<|ba Z (fun h52=>?_)<|fun h52=>?_
  ·
   exfalso;simp[(C6 e e).2 rfl]at h52
  refine ah<|bW<|qs<|cJ 3 Z<|W.bZ [0,1] ⟨k+1,?_⟩ ?_ Z ?_ trivial ?_ trivial Z
  ·exact hlt
  ·dsimp only;omega
  ·repeat' first|exact trivial|refine⟨rfl,?_⟩|refine⟨bH (by assumption) (by assumption),?_⟩
  repeat' constructor
 refine an<|bL<|bM<|bK<|qs<|aZ 1 Z<|W.ret<|QF.bo trivial Z ?_
 rfl
theorem GI(l:List bP)(hl:l.length<=1000)(hp:∀p∈l,p.evs.length<=1000):bp Tryz.prog 34 [.d (.sl (l.map bP.c)),.d (.sl (l.map bP.c))] (.d (.v (.bool true))) 0:=by
 have hm:l.length<=maxLen:=by simp only[maxLen];omega
 refine bp.b6 (n:=27) (ts:=[4]) Tryz.func34 (by kernel_rfl) Z Tryz.ntmps34 Tryz.results34 Z Z fun C hC X=>aZ 1 Z<|ae<|aZ 5 Z<|ba Z (fun I=>?_)<|fun I=>?_;·exfalso;simp at I
 refine ah<|qs<|ae<|aZ 1 Z<|W.block<|W.bY (ι:={x:Nat//match x with|k=>k<=l.length})
  (fun x=>match x.1 with|k=>[(5,.d (.v (.int .i64 ((k:Nat):Int))))]) [(0,_),(1,_)]
  (fun x=>match x.1 with|k=>[]) [] [] 0 (fun x=>match x.1 with|k=>l.length-k)
  [] ⟨0,?_⟩ Z ?_ ⟨rfl,rfl,rfl,rfl,trivial⟩ ?_ trivial Z ?_
 ·exact ς _
 ·repeat' constructor
 ·repeat' exact trivial
 rintro⟨k,O⟩;show W _ _ _ _ _ ⟨[(5,.d (.v (.int .i64 ((k:Nat):Int)))),(0,_),(1,_)],[],[],0⟩;refine ae<|aZ 4 Z<|ct (l:=l) (k:=k) Z (by simp[Ex.bE,bh]) O (fun p M hd N=>?_)<|fun he hd=>?_;·
  have U:=hp p (ζ M);refine ah<|qs<|ae<|W.block<|ae<|W.dK aW (by kernel_rfl)<|bt (ev aW Z) Z<|bt (ev aW Z) Z<|bt (indexAddr aW Z Z Z Z Z Z (ε _) (bF M) Z) Z ?_
  refine bt (ev aW Z) Z<|bt (ev aW Z) Z<|bt (ev aW Z) Z<|bt (indexAddr aW Z Z Z Z Z Z (ε _) (bF M) Z) Z ?_
  refine bt (ev aW Z) Z<|bt (bm Z Z Z ((Ef _ (by assumption))) Z) Z<|bt (ev aW Z) Z<|ao<|qs<|ba Z (fun J=>?_)<|fun J=>?_;·exfalso;simp at J
  refine ah<|bW<|qs<|cJ 3 Z<|W.bZ [] ⟨k+1,?_⟩ ?_ Z ?_ ⟨rfl,rfl,rfl,rfl,trivial⟩ ?_ trivial Z;·exact N
  ·dsimp only;omega
  ·repeat' first|exact trivial|refine⟨bH (by assumption) (by assumption),?_⟩
  repeat' exact trivial
 refine an<|bL<|bM<|bK<|qs<|aZ 1 Z<|W.ret<|QF.bo trivial Z ?_;rfl
theorem GA(ts:List ca)(ds:List (Int×Int))(ht:ts.length<=1000)(hd:ds.length<=1000):bp Tryz.prog 33 [.ag [.sl (ts.map ca.c),.sl (ds.map dv),.sl []],.ag [.sl (ts.map ca.c),.sl (ds.map dv),.sl []]] (.d (.v (.bool true))) 0:=by
 have hm:ts.length<=maxLen:=by simp only[maxLen];omega
 have hm2:ds.length<=maxLen:=by simp only[maxLen];omega
 refine bp.b6 (n:=87) (ts:=[4]) Tryz.func33 (by kernel_rfl) Z Tryz.ntmps33 Tryz.results33 Z Z fun C hC hG=>ae<|aa<|cG Z Z Z<|cG Z Z Z<|pE Z<|ab<|qs<|ae<|ae<|?_
 apply bC;(case hb=>rfl)
 ·repeat' first|refine b4 rfl rfl rfl|refine bz rfl rfl ?_|refine bA rfl rfl rfl rfl ?_|refine pE rfl ?_|refine ab ?_|(apply bN;(case hj=>rfl);(case hl=>rfl))
 refine qs (ba Z (fun h32=>?_) (fun h32=>?_))
 ·
  exfalso;simp at h32
 refine ah<|qs<|ae<|aZ 1 Z<|W.block<|W.bY (ι:={x:Nat//match x with|k=>k<=ts.length})
  (fun x=>match x.1 with|k=>[(2,.ptr 0 0),(3,.ptr 1 0),(5,.d (.v (.int .i64 ((k:Nat):Int))))]) []
  (fun x=>match x.1 with|k=>[(0,[.d (.sl (ts.map ca.c)),.d (.sl (ds.map dv)),.d (.sl [])]),(1,[.d (.sl (ts.map ca.c)),.d (.sl (ds.map dv)),.d (.sl [])])]) [] [] 2 (fun x=>match x.1 with|k=>ts.length-k)
  [0,1] ⟨0,?_⟩ rfl ?_ trivial ?_ trivial rfl ?_
 ·exact ς _
 ·repeat' constructor
 ·repeat' constructor
 rintro⟨k,hk⟩
 show W _ _ _ _ _ ⟨[(2,.ptr 0 0),(3,.ptr 1 0),(5,.d (.v (.int .i64 ((k:Nat):Int))))],[(0,[.d (.sl (ts.map ca.c)),.d (.sl (ds.map dv)),.d (.sl [])]),(1,[.d (.sl (ts.map ca.c)),.d (.sl (ds.map dv)),.d (.sl [])])],[],2⟩
 refine ae<|aZ 5 Z<|ct (l:=ts) (k:=k) Z (by simp[Ex.bE,bh]) hk (fun t hx hd hlt=>?_)<|fun he hd=>?_
 ·
  refine ah<|qs<|ae<|W.block<|ae<|W.dK aW (by kernel_rfl)<|bt (ev aW Z) Z<|bt (ev aW Z) Z<|bt (ev aW Z) Z<|bt (indexAddr aW Z Z Z Z Z Z (ε _) (bF hx) Z) Z<|bt (ev aW Z) Z<|bt (ev aW Z) Z<|bt (ev aW Z) Z<|bt (ev aW Z) Z<|bt (indexAddr aW Z Z Z Z Z Z (ε _) (bF hx) Z) Z<|bt (ev aW Z) Z<|bt (ev aW Z) Z<|ao<|qs<|ba Z (fun h50=>?_)<|fun h50=>?_
  ·
   exfalso;simp at h50
  refine ah<|bW<|qs<|cJ 3 Z<|W.bZ [0,1] ⟨k+1,?_⟩ ?_ Z ?_ trivial ?_ trivial Z
  ·exact hlt
  ·dsimp only;omega
  ·repeat' first|exact trivial|refine⟨rfl,?_⟩|refine⟨bH (by assumption) (by assumption),?_⟩
  repeat' constructor
 refine an<|bL<|bM<|bK<|qs<|ae<|aZ 1 Z<|W.block<|W.bY (ι:={x:Nat//match x with|k=>k<=ds.length})
  (fun x=>match x.1 with|k=>[(2,.ptr 0 0),(3,.ptr 1 0),(6,.d (.v (.int .i64 ((k:Nat):Int))))]) []
  (fun x=>match x.1 with|k=>[(0,[.d (.sl (ts.map ca.c)),.d (.sl (ds.map dv)),.d (.sl [])]),(1,[.d (.sl (ts.map ca.c)),.d (.sl (ds.map dv)),.d (.sl [])])]) [] [] 2 (fun x=>match x.1 with|k=>ds.length-k)
  [0,1] ⟨0,?_⟩ rfl ?_ trivial ?_ trivial rfl ?_
 ·exact ς _
 ·repeat' constructor
 ·repeat' constructor
 rintro⟨k,hk⟩
 show W _ _ _ _ _ ⟨[(2,.ptr 0 0),(3,.ptr 1 0),(6,.d (.v (.int .i64 ((k:Nat):Int))))],[(0,[.d (.sl (ts.map ca.c)),.d (.sl (ds.map dv)),.d (.sl [])]),(1,[.d (.sl (ts.map ca.c)),.d (.sl (ds.map dv)),.d (.sl [])])],[],2⟩
 refine ae<|aZ 5 Z<|ct (l:=ds) (k:=k) Z (by simp[Ex.bE,bh]) hk (fun t hx hd hlt=>?_)<|fun he hd=>?_
 ·
  refine ah<|qs<|ae<|W.block<|ae<|W.dK aW (by kernel_rfl)<|bt (ev aW Z) Z<|bt (ev aW Z) Z<|bt (ev aW Z) Z<|bt (indexAddr aW Z Z Z Z Z Z (ε _) (bF hx) Z) Z<|bt (ev aW Z) Z<|bt (ev aW Z) Z<|bt (ev aW Z) Z<|bt (ev aW Z) Z<|bt (indexAddr aW Z Z Z Z Z Z (ε _) (bF hx) Z) Z<|bt (ev aW Z) Z<|bt (ev aW Z) Z<|ao<|qs<|ba Z (fun h68=>?_)<|fun h68=>?_
  ·
   exfalso;simp at h68
  refine ah<|bW<|qs<|cJ 3 Z<|W.bZ [0,1] ⟨k+1,?_⟩ ?_ Z ?_ trivial ?_ trivial Z
  ·exact hlt
  ·dsimp only;omega
  ·repeat' first|exact trivial|refine⟨rfl,?_⟩|refine⟨bH (by assumption) (by assumption),?_⟩
  repeat' constructor
 refine an<|bL<|bM<|bK<|qs<|ae<|aZ 1 Z<|W.block<|W.bY (ι:={x:Nat//match x with|k=>k<=([]:List (List D)).length})
  (fun x=>match x.1 with|k=>[(2,.ptr 0 0),(3,.ptr 1 0),(7,.d (.v (.int .i64 ((k:Nat):Int))))]) []
  (fun x=>match x.1 with|k=>[(0,[.d (.sl (ts.map ca.c)),.d (.sl (ds.map dv)),.d (.sl [])]),(1,[.d (.sl (ts.map ca.c)),.d (.sl (ds.map dv)),.d (.sl [])])]) [] [] 2 (fun x=>match x.1 with|k=>([]:List (List D)).length-k)
  [0,1] ⟨0,?_⟩ rfl ?_ trivial ?_ trivial rfl ?_
 ·exact ς _
 ·repeat' constructor
 ·repeat' constructor
 rintro⟨k,hk⟩
 show W _ _ _ _ _ ⟨[(2,.ptr 0 0),(3,.ptr 1 0),(7,.d (.v (.int .i64 ((k:Nat):Int))))],[(0,[.d (.sl (ts.map ca.c)),.d (.sl (ds.map dv)),.d (.sl [])]),(1,[.d (.sl (ts.map ca.c)),.d (.sl (ds.map dv)),.d (.sl [])])],[],2⟩
 refine ae<|aZ 5 Z<|ct (l:=([]:List (List D))) (k:=k) Z (by simp[Ex.bE,bh]) hk (fun t hx hd hlt=>?_)<|fun he hd=>?_
 ·
  exfalso;simp at hx
 refine an<|bL<|bM<|bK<|qs<|aZ 1 Z<|W.ret<|QF.bo trivial Z ?_
 rfl
def EG(l:kp):Prop:=l.ts.length<=1000∧l.ds.length<=1000∧l.ps.length<=1000∧∀p∈l.ps,p.evs.length<=1000
theorem EJ(l:kp)(hl:EG l):bp Tryz.prog 11 [.ag l.c,.ag l.c] (.d (.v (.bool true))) 0:=by
 obtain⟨h1,h2,h3,h4⟩:=hl;refine bp.b6 (n:=17) (ts:=[4]) Tryz.func11 (by kernel_rfl) Z Tryz.ntmps11 Tryz.results11 Z Z fun C hC I=>ae<|aa<|cG Z Z Z<|cG Z Z Z<|pE Z<|ab<|qs<|ae ?_;apply bC;(case hb=>rfl);·repeat' first|refine b4 Z Z Z|refine bz Z Z ?_|refine pE Z ?_|refine pu (bm Z Z Z (GA l.ts l.ds h1 h2) Z) Z ?_|refine pu (bm Z Z Z (GI l.ps h3 h4) Z) Z ?_|refine ab ?_
 refine qs (W.ret (QF.bo trivial Z ?_));rfl
variable {st:RS}
theorem xC:∀{l:List JV}{x:fX},ED x->(∀k∈l,(cm k de 3).n<=1000000000000000)->ED (db l x).1
 |[],x,h,_=>h
 |j::r,x,h,hj=>by
  simp only[db];split;·exact h
  exact xC (zl h (hj j D')) (fun k I=>hj k (q' _ I))
theorem Ca(h:∀p∈ps,0<p.evs.length):ps.length<=(ps.map fun p=>p.evs.length).sum:=by
 induction ps with
 |nil=>exact ω _
 |cons p r I=>have:=h p D';have:=I (fun q J=>h q (q' _ J));rw[Ξ,J',List.sum_cons];omega
theorem Gy{v:JV}(O:ck v 1=0)(h:yy v):HN v:=by
 obtain⟨h1,h2⟩:=sf (l:=v.kids) (z:=x0) (x:=([],[])) ⟨rfl,rfl,List.nodup_nil,fun p hp=>(nomatch hp),fun p hp=>(nomatch hp)⟩ (fun k U=>lO O U);refine⟨h.len,h.kids,fun h0=>?_⟩;rw[h1]at h0;have J:=h2 h0;have hs:=h.evs h0;have X:=xC (l:=v.kids) (x:=x0) ⟨List.nodup_nil,fun a I=>(nomatch I)⟩ h.tids;have M:km (eQ v.kids ([],[])).1=(db v.kids x0).1.ids.flatMap (fc (db v.kids x0).1):=By J;have hok:=zd hs;refine⟨fun e he=>?_,fun t N=>?_,?_,?_⟩;·
  rw[J.evs]at he;obtain⟨a,I,rfl⟩:=A'.1 he;by_cases q:(cC (db v.kids x0).1.evs a).getD []=[];·rw[q];exact ς _
  have hm:(⟨a,0,0,(cC (db v.kids x0).1.evs a).getD []⟩:bP)∈(db v.kids x0).1.ids.flatMap (fc (db v.kids x0).1):=List.mem_flatMap.2 ⟨a,I,by unfold fc;rw[if_neg q];exact List.mem_singleton.2 Z⟩;exact B' (wZ hm) hs
 ·rw[J.ths]at N;obtain⟨a,I,rfl⟩:=A'.1 N;exact X.2 a I
 ·rw[M,Bx J];exact hok
 rw[M];exact B' (Ca fun p hp=>(hok.2.1 p hp).2.2.1) hs
theorem Js(s):(if(j7 s).2.2≠0 then(gm,(j7 s).2.2)else mg (j7 s).1)=fO s:=by
 unfold j7 fO;by_cases hs:65536<s.size;·rw[if_pos hs,if_pos hs];rfl
 rw[if_neg hs,if_neg hs]
 cases hp:eb (aX s)with
 |ok v i=>dsimp only;rw[if_neg (by simp)];exact D9 (qd hp).1
 |no a w=>have hw:=qI (l:=aX s);rw[hp]at hw;have hw:w=2∨w=4∨w=10∨w=20:=hw;dsimp only;rw[if_pos (by omega)]
theorem Di{s}(h:(j7 s).2.2=0):∃i,eb (aX s)=.ok (j7 s).1 i:=by
 unfold j7 at h⊢;split at h;·cases h
 rename_i q;rw[if_neg q]
 cases hp:eb (aX s)with
 |ok v i=>exact⟨i,rfl⟩
 |no a w=>rw[hp]at h;have hw:=qI (l:=aX s);rw[hp]at hw;have hw:w=2∨w=4∨w=10∨w=20:=hw;have h:w=0:=h;omega
theorem AW{s:ByteArray}(hs:s.size<=3000)(h:(fO s).2=0):∃ts ps,fO s=ez ts ps∧qx ts ps∧ps.length<=1000:=by
 unfold fO at h⊢;rw[if_neg (by omega)]at h⊢
 cases hp:eb (aX s)with
 |no a w=>rw[hp]at h;have hw:=qI (l:=aX s);rw[hp]at hw;have hw:w=2∨w=4∨w=10∨w=20:=hw;have h:w=0:=h;omega
 |ok v i=>
  rw[hp]at h;dsimp only at h⊢;split at h;·cases h
  rename_i q1;split at h;·rename_i q2;exact absurd h q2
  rename_i q2;rw[if_neg q1,if_neg q2];have I:=(oe hp hs).evs (by simpa using q2);have hok:=zd I;exact⟨_,_,rfl,hok,B' (Ca fun p hp=>(hok.2.1 p hp).2.2.1) I⟩
theorem ER{s:ByteArray}(hs:s.size<=3000):EG (fO s).1:=by
 by_cases h:(fO s).2=0;·
  obtain⟨ts,ps,he,hok,I⟩:=AW hs h;rw[he]at h⊢;rw[vz h];have J:eC ts=0:=by
   unfold ez at h;split at h;·rename_i q;exact absurd h q
   rename_i q;simpa using q
  obtain⟨_,_,M⟩:=qU J;exact⟨by show ts.length<=1000;omega,by show dV.length<=1000;decide,I,fun p hp=>(hok.2.1 p hp).2.2.2⟩
 have:(fO s).1=gm:=by
  unfold fO ez at h⊢;repeat' split
  all_goals first|rfl|skip
  all_goals simp_all
 rw[this];exact⟨ς _,ς _,ς _,fun p hp=>(nomatch hp)⟩
theorem Ad(s):bp Tryz.prog 3 [.d (.v (.string s))] (.d (.v (.bool true))) 0:=by
 refine bp.b6 (n:=47) (ts:=[2]) Tryz.func3 (by kernel_rfl) Z Tryz.ntmps3 Tryz.results3 Z Z fun C hC hG=>aZ 1 Z<|ae<|ae<|?_
 apply bC;(case hb=>rfl);·
  refine pu (bm Z Z Z (ya ..) Z) Z<|aY 2 Z ?_;apply eU;(case hj=>rfl);(case hl=>rfl);·
   intro g9;refine bA Z Z Z Z<|bA Z Z Z Z<|bA Z Z Z Z<|pE Z<|ab<|b4 Z Z Z
  intro g9;refine bz Z Z<|pE Z<|bz Z Z<|pE Z<|bz Z Z<|aY 2 Z<|ab<|b4 Z Z Z
 refine qs (ba Z (fun J=>?_) (fun J=>?_));·
  refine ae<|aa<|pu (bm Z Z Z (ya ..) Z) Z<|pE Z<|ab<|qs<|W.ret<|bl<|QF.bo trivial Z ?_;rfl
 have hs:s.size<=3000:=by revert J;simp;omega
 have N:=D6 s;rw[Bp]at N;have O:=Dy s (j7 s).1 (j7 s).2.1 (j7 s).2.2 N (fun h0=>by obtain⟨i,hi⟩:=Di h0;exact Gy (qd hi).1 (oe hi hs)) (fun ts ps h1 h2=>I0 ts ps h1 h2);rw[Js]at O;have U:=ER hs;have X:(!decide ((fO s).2=0))=false->bp Tryz.prog 12 [.ag (fO s).1.c] (.d (ci 0)) 0:=fun q=>by
  have q:(fO s).2=0:=by simpa using q
  obtain⟨ts,ps,he,hok,_⟩:=AW hs q;have h1:=sy ts ps hok;rw[he]at q⊢;rw[q]at h1;rw[vz q];exact h1
 have ad:(!decide ((fO s).2=0))=false->bp Tryz.prog 13 [.ag (fO s).1.c] (.d (.sl [])) 0:=fun q=>by
  have q:(fO s).2=0:=by simpa using q
  obtain⟨ts,ps,he,hok,_⟩:=AW hs q;have h1:=Bs ts ps hok;rw[he]at q⊢;rw[vz q];exact h1
 refine ah<|qs<|ae<|aa<|pE Z<|pu (bm Z Z Z (wo s (fun v i h=>oe h hs)) Z) Z<|aY 3 Z<|bT aW Z Z Z<|be aW Z Z Z Z Z Z Z Z<|pE Z<|ab<|qs<|ae<|aa<|pE Z<|pu (bm Z Z Z O Z) Z<|aY 3 Z<|bT aW Z Z Z<|be aW Z Z Z Z Z Z Z Z<|pE Z<|ab<|qs<|ae<|ae<|?_
 apply bC;(case hb=>rfl);·
  refine aY 4 Z ?_;apply eU;(case hj=>rfl);(case hl=>rfl);·
   intro ai;refine bA Z Z Z Z<|bA Z Z Z Z<|bA Z Z Z Z<|bA Z Z Z Z<|pE Z<|ab<|b4 Z Z Z
  intro ai;refine bz Z Z<|aY 1 Z<|bz Z Z<|aY 1 Z<|bz Z Z<|pu (bm Z Z Z (EJ _ U) Z) Z<|bz Z Z<|aY 2 Z<|ab<|b4 Z Z Z
 refine qs (ba Z (fun M=>?_) (fun M=>?_));·exfalso;simp at M
 refine ah (qs (ae ?_));apply bC;(case hb=>rfl);·
  refine aY 3 Z ?_;apply eU;(case hj=>rfl);(case hl=>rfl);·
   intro I;refine bA Z Z Z Z<|bA Z Z Z Z<|bA Z Z Z Z<|bA Z Z Z Z<|jQ Z Z Z<|jQ Z Z Z<|jQ Z Z Z<|jQ Z Z Z<|bA Z Z Z Z<|aY 2 Z ?_
   refine ab (b4 Z Z Z)
  intro I;refine bz Z Z<|aY 1 Z<|bz Z Z<|pu (bm Z Z Z (X I) Z) Z<|bz Z Z<|pE Z<|bz Z Z<|pE Z ?_;apply eU;(case hj=>rfl);(case hl=>rfl);·
   intro aj;refine bz Z Z<|aY 1 Z<|bz Z Z<|pu (bm Z Z Z (ad I) Z) Z<|bz Z Z<|pE Z<|bz Z Z<|pE Z<|bz Z Z<|aY 3 Z<|ab<|b4 Z Z Z
  intro aj;refine bA Z Z Z Z<|bA Z Z Z Z<|bA Z Z Z Z<|bA Z Z Z Z<|bz Z Z<|aY 3 Z ?_
  refine ab (b4 Z Z Z)
 refine qs (W.ret (QF.bo trivial Z ?_));simp only[norm,bO];by_cases q:(fO s).2=0<;>simp[q]
end Go.Proofs.YtpiaiiopakafhaaGreatDoor
