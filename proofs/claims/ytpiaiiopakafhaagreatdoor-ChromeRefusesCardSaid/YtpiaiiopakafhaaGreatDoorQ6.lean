import Derived.Test.YtpiaiiopakafhaaGreatDoorQ5
import Derived.WalkKit
import Derived.OwnWalkIn
import Derived.TacticsInMore
import Derived.LoopNIn
import Derived.LoopIn
import Derived.BigRegionIn
namespace Go.Proofs.YtpiaiiopakafhaaGreatDoor
open Go.Ab Go.Tb
set_option maxRecDepth 10000
set_option maxHeartbeats 1000000
attribute [local irreducible] W WO Pu QS QB QL QF QV cu CH QE
def nh (ts:List dc) (ps:List bw):ByteArray×Int:=
 if (fY ts ps).2≠0 then (cC,(fY ts ps).2) else if cv (jE ts ps) 1≠0 then (cC,cv (jE ts ps) 1) else if 65536 < (kH (jE ts ps)).size then (cC,7) else (kH (jE ts ps),0)
theorem tO (ts:List dc) (ps:List bw) (ok:uk ts ps) (hz:cv (jE ts ps) 1=0→(bt (jE ts ps)).length≤1000000000000):bq Tryz.prog 15 [.ag (jJ.c ⟨ts,ep,ps⟩)] (.tup [.d (cs (nh ts ps).1),.d (ci (nh ts ps).2)]) 0:=by
 refine bq.bZ (n:=97) (ts:=[2,3]) Tryz.func15 (by kernel_rfl) rfl Tryz.ntmps15 Tryz.results15 rfl rfl fun C hC hG=>?_
 refine ae (aa (cG rfl rfl rfl (aZ 2 rfl ?_)))
 refine ab (qs ?_)
 iterate 2 refine ae ?_
 refine aa (aZ 1 rfl ?_)
 refine pu (bm rfl rfl rfl (wg ts ps ok) rfl) rfl ?_
 refine pE rfl (ab (qs (ba 2 rfl ?_)))
 refine be rfl (fun h17=>?_) (fun h17=>?_)
 ·
  have hg:nh ts ps=(cC,(fY ts ps).2):=by unfold nh;rw[if_pos (by simpa using h17)]
  refine ba 3 rfl ?_
  refine W.ret (bo (QF.br trivial rfl ?_))
  rw[hg];rfl
 have h0:¬ (fY ts ps).2≠0:=by simpa using h17
 refine ah (qs ?_)
 iterate 2 refine ae ?_
 apply bL;(case hb=>rfl)
 ·
  refine aZ 6 rfl ?_
  apply fI;(case hj=>rfl);(case hl=>rfl)
  ·
   intro g24
   iterate 5 refine bC rfl rfl rfl rfl ?_
   refine pE rfl (ab (cc rfl rfl rfl))
  intro g24
  refine bH rfl rfl (pE rfl (bH rfl rfl (pE rfl (bH rfl rfl (aZ 1 rfl ?_)))))
  refine bH rfl rfl (pE rfl (bH rfl rfl (aZ 2 rfl ?_)))
  refine ab (cc rfl rfl rfl)
 refine qs (be rfl (fun h30=>?_) (fun h30=>?_))
 ·
  exfalso;simp[ep] at h30
 refine ah (qs ?_)
 iterate 2 refine ae ?_
 refine aa (aZ 1 rfl ?_)
 refine pu (bm rfl rfl rfl (Gp ts ps ok) rfl) rfl ?_
 refine aZ 2 rfl ?_
 refine ab (qs (be rfl (fun h34=>?_) (fun h34=>?_)))
 ·
  exfalso;simp at h34
 refine ah (qs (ae (aa (pu (build aX rfl rfl rfl rfl) rfl ?_))))
 refine bK aX rfl rfl rfl (bl aX rfl rfl rfl rfl rfl rfl rfl rfl (ab (qs ?_)))
 iterate 2 refine ae ?_
 obtain⟨hh,hcs⟩:=F2 (ts:=ts) (ps:=ps) (by simpa using h0)
 obtain⟨_,_,h64⟩:=xD hh
 have hsum:=ok.2.2
 have hall:=sj hcs
 refine cQ 5 rfl ?_
 refine qs (W.block (jj 1 3 rfl rfl rfl ?_))
 refine eZ 1 4 rfl rfl rfl ?_
 refine W.len (t:=38) rfl rfl (fun hlen=>?_)
 try simp only[List.length_map,Ex.bA] at hlen
 refine W.b7 (ι:={x:Nat×List JV // match x with | (k,acc)=>k≤ts.length∧acc=(ts.take k).map mJ})
  (fun x=>match x.1 with | (k,acc)=>[(1,.ptr 0 0),(5,.ptr 1 0),(40,.d (.v (.int .i64 ((k:Nat):Int))))]) [(38,_),(39,_)]
  (fun x=>match x.1 with | (k,acc)=>[(0,(jJ.c ⟨ts,ep,ps⟩).map A.d),(1,[.d (ci 5),.d (ci 0),.d (cs cC),.d (.sl []),.own 2 (acc.map JV.c)])]) [] [2] 3 (fun x=>match x.1 with | (k,acc)=>ts.length - k)
  [0,1,2] ⟨(0,[]),?_⟩ rfl ?_ ⟨rfl,rfl,rfl,rfl,trivial⟩ ?_ trivial rfl ?_
 · exact⟨Nat.zero_le _,rfl⟩
 · repeat' first | exact trivial | refine⟨rfl,?_⟩
 · repeat' first | exact trivial | refine⟨rfl,?_⟩
 rintro⟨⟨k,acc⟩,hk,hacc⟩
 show W _ _ _ _ _ ⟨[(1,.ptr 0 0),(5,.ptr 1 0),(40,.d (.v (.int .i64 ((k:Nat):Int)))),(38,_),(39,_)],[(0,(jJ.c ⟨ts,ep,ps⟩).map A.d),(1,[.d (ci 5),.d (ci 0),.d (cs cC),.d (.sl []),.own 2 (acc.map JV.c)])],[2],3⟩
 have hal:acc.length≤64:=by rw[hacc,List.length_map,List.length_take];omega
 refine ba 1 rfl ?_
 refine ae (cB (l:=ts) (k:=k) rfl (by simp[Ex.bA,bk]) hk (fun t hx hd hlt=>?_) (fun he hd=>?_))
 ·
  refine ah (qs (ae (W.block (ae (aa (pu (indexAddr (l:=t.c) aX rfl rfl rfl rfl rfl rfl (Int.natCast_nonneg _) (bN hx) rfl) rfl ?_))))))
  refine aZ 1 rfl ?_
  refine bK aX rfl rfl rfl (bl aX rfl rfl rfl rfl rfl rfl rfl rfl (ab (qs (W.rB aX [] [] [] [] 13 (by kernel_rfl) (by kernel_rfl) rfl rfl ?_))))
  refine' bX (ev aX rfl) ?p_1 rfl rfl rfl (by kernel_rfl) rfl ?h_1
  case' h_1=>skip
  case p_1=>refine⟨fun ha=>(bb ha (by kernel_rfl)).elim,?_⟩ <;> intro ha <;> first | exact⟨ev aX rfl,fun h=>nomatch h⟩ | exact(bb ha (by kernel_rfl)).elim
  refine' bX (ev aX rfl) ?p_2 rfl rfl rfl (by kernel_rfl) rfl ?h_2
  case' h_2=>skip
  case p_2=>refine⟨fun ha=>(bb ha (by kernel_rfl)).elim,?_⟩ <;> intro ha <;> first | exact⟨ev aX rfl,fun h=>nomatch h⟩ | exact⟨eG aX rfl rfl rfl rfl,fun h=>nomatch h⟩ | exact⟨eC aX rfl rfl rfl rfl rfl,fun h=>nomatch h⟩ | exact(bb ha (by kernel_rfl)).elim
  refine' bX (b9 aX rfl rfl rfl rfl rfl rfl rfl rfl rfl) ?p_3 rfl rfl rfl (by kernel_rfl) rfl ?h_3
  case' h_3=>skip
  case p_3=>refine⟨fun ha=>(bb ha (by kernel_rfl)).elim,?_⟩ <;> intro ha <;> first | exact⟨b9 aX rfl rfl rfl rfl rfl rfl rfl rfl rfl,fun h=>nomatch h⟩ | exact(bb ha (by kernel_rfl)).elim
  refine' bX (bm rfl rfl rfl (jc ..) rfl) ?p_4 rfl rfl rfl (by kernel_rfl) rfl ?h_4
  case' h_4=>skip
  case p_4=>refine⟨fun ha=>(bb ha (by kernel_rfl)).elim,?_⟩ <;> intro ha <;> first | exact⟨bm rfl rfl rfl (jc ..) rfl,fun h=>nomatch h⟩ | exact(bb ha (by kernel_rfl)).elim
  refine' bX (ev aX rfl) ?p_5 rfl rfl rfl (by kernel_rfl) rfl ?h_5
  case' h_5=>skip
  case p_5=>refine⟨fun ha=>(bb ha (by kernel_rfl)).elim,?_⟩ <;> intro ha <;> first | exact⟨ev aX rfl,fun h=>nomatch h⟩ | exact(bb ha (by kernel_rfl)).elim
  refine' bX (ev aX rfl) ?p_6 rfl rfl rfl (by kernel_rfl) rfl ?h_6
  case' h_6=>skip
  case p_6=>refine⟨fun ha=>(bb ha (by kernel_rfl)).elim,?_⟩ <;> intro ha <;> first | exact⟨ev aX rfl,fun h=>nomatch h⟩ | exact⟨eG aX rfl rfl rfl rfl,fun h=>nomatch h⟩ | exact⟨eC aX rfl rfl rfl rfl rfl,fun h=>nomatch h⟩ | exact(bb ha (by kernel_rfl)).elim
  refine' bX (bm rfl rfl rfl (jz ..) rfl) ?p_7 rfl rfl rfl (by kernel_rfl) rfl ?h_7
  case' h_7=>skip
  case p_7=>refine⟨fun ha=>(bb ha (by kernel_rfl)).elim,?_⟩ <;> intro ha <;> first | exact⟨bm rfl rfl rfl (jz ..) rfl,fun h=>nomatch h⟩ | exact(bb ha (by kernel_rfl)).elim
  refine' bX (ev aX rfl) ?p_8 rfl rfl rfl (by kernel_rfl) rfl ?h_8
  case' h_8=>skip
  case p_8=>refine⟨fun ha=>(bb ha (by kernel_rfl)).elim,?_⟩ <;> intro ha <;> first | exact⟨ev aX rfl,fun h=>nomatch h⟩ | exact(bb ha (by kernel_rfl)).elim
  refine' bX (ev aX rfl) ?p_9 rfl rfl rfl (by kernel_rfl) rfl ?h_9
  case' h_9=>skip
  case p_9=>refine⟨fun ha=>(bb ha (by kernel_rfl)).elim,?_⟩ <;> intro ha <;> first | exact⟨ev aX rfl,fun h=>nomatch h⟩ | exact⟨eG aX rfl rfl rfl rfl,fun h=>nomatch h⟩ | exact⟨eC aX rfl rfl rfl rfl rfl,fun h=>nomatch h⟩ | exact(bb ha (by kernel_rfl)).elim
  refine' bX (bm rfl rfl rfl (jc ..) rfl) ?p_10 rfl rfl rfl (by kernel_rfl) rfl ?h_10
  case' h_10=>skip
  case p_10=>refine⟨fun ha=>(bb ha (by kernel_rfl)).elim,?_⟩ <;> intro ha <;> first | exact⟨bm rfl rfl rfl (jc ..) rfl,fun h=>nomatch h⟩ | exact(bb ha (by kernel_rfl)).elim
  refine' bX (b9 aX rfl rfl rfl rfl rfl rfl rfl rfl rfl) ?p_11 rfl rfl rfl (by kernel_rfl) rfl ?h_11
  case' h_11=>skip
  case p_11=>refine⟨fun ha=>(bb ha (by kernel_rfl)).elim,?_⟩ <;> intro ha <;> first | exact⟨b9 aX rfl rfl rfl rfl rfl rfl rfl rfl rfl,fun h=>nomatch h⟩ | exact(bb ha (by kernel_rfl)).elim
  refine' bX (build aX rfl rfl rfl rfl) ?p_12 rfl rfl rfl (by kernel_rfl) rfl ?h_12
  case' h_12=>skip
  case p_12=>refine⟨fun ha=>(bb ha (by kernel_rfl)).elim,?_⟩ <;> intro ha <;> first | exact⟨build aX rfl rfl rfl rfl,fun h=>nomatch h⟩ | exact(bb ha (by kernel_rfl)).elim
  refine' bX (b9 aX rfl rfl rfl rfl rfl rfl rfl rfl rfl) ?p_13 rfl rfl rfl (by kernel_rfl) rfl ?h_13
  case' h_13=>skip
  case p_13=>refine⟨fun ha=>(bb ha (by kernel_rfl)).elim,?_⟩ <;> intro ha <;> first | exact⟨b9 aX rfl rfl rfl rfl rfl rfl rfl rfl rfl,fun h=>nomatch h⟩ | exact(bb ha (by kernel_rfl)).elim
  refine au ?_ rfl
  refine fD (fn:=JV.c) (a:=mJ t) aX rfl rfl rfl rfl rfl rfl rfl rfl rfl rfl (fun _=>rfl) (by show(acc.length+1)*80≤_;omega) ?_
  refine pE rfl (bl aX rfl rfl rfl rfl rfl rfl rfl rfl (ab (ca (qs (cQ 2 rfl ?_)))))
  refine W.cr [0,1,4] ⟨(k+1,acc++[mJ t]),?_⟩ ?_ rfl ?_ ⟨rfl,rfl,rfl,rfl,trivial⟩ ?_ trivial rfl
  · exact⟨hlt,by rw[List.take_add_one,hx,List.map_append,hacc];rfl⟩
  · dsimp only;omega
  · repeat' first | exact trivial | refine⟨rfl,?_⟩ | refine⟨bJ (by assumption) (by assumption),?_⟩
  repeat' first | exact trivial | refine⟨rfl,?_⟩
 have hm:acc=ts.map mJ:=by rw[hacc,he,List.take_length]
 refine an (bT (bR (bP (qs (ae (ba 4 rfl ?_))))))
 refine W.block (W.len (t:=61) rfl rfl (fun hlen=>?_))
 try simp only[List.length_map,Ex.bA] at hlen
 refine W.b7 (ι:={x:Nat×List JV // match x with | (k,bcc)=>k≤ps.length∧bcc=ts.map mJ++(ps.take k).flatMap sy})
  (fun x=>match x.1 with | (k,bcc)=>[(5,.ptr 0 0),(63,.d (.v (.int .i64 ((k:Nat):Int))))]) [(61,_),(62,_)]
  (fun x=>match x.1 with | (k,bcc)=>[(0,[.d (ci 5),.d (ci 0),.d (cs cC),.d (.sl []),.own 1 (bcc.map JV.c)])]) [] [1] 2 (fun x=>match x.1 with | (k,bcc)=>ps.length - k)
  [1,2] ⟨(0,acc),?_⟩ rfl ?_ ⟨rfl,rfl,rfl,rfl,trivial⟩ ?_ trivial rfl ?_
 · exact⟨Nat.zero_le _,by rw[hm];simp⟩
 · repeat' first | exact trivial | refine⟨rfl,?_⟩
 · repeat' first | exact trivial | refine⟨rfl,?_⟩
 rintro⟨⟨k,bcc⟩,hk,hbcc⟩
 show W _ _ _ _ _ ⟨[(5,.ptr 0 0),(63,.d (.v (.int .i64 ((k:Nat):Int)))),(61,_),(62,_)],[(0,[.d (ci 5),.d (ci 0),.d (cs cC),.d (.sl []),.own 1 (bcc.map JV.c)])],[1],2⟩
 refine ba 1 rfl ?_
 refine ae (cB (l:=ps) (k:=k) rfl (by simp[Ex.bA,bk]) hk (fun p hx hd hlt=>?_) (fun he hd=>?_))
 ·
  have hpe:=hall p (List.mem_of_getElem? hx)
  have hpl:=(ok.2.1 p (List.mem_of_getElem? hx)).2.2.2
  refine ah (qs (ae (W.block (ae (aa (pu (indexAddr (l:=p.c) aX rfl rfl rfl rfl rfl rfl (Int.natCast_nonneg _) (bN hx) rfl) rfl ?_))))))
  refine aZ 1 rfl ?_
  refine bK aX rfl rfl rfl (bl aX rfl rfl rfl rfl rfl rfl rfl rfl (ab (qs (ba 4 rfl ?_))))
  refine W.block (W.len (t:=68) rfl rfl (fun hlen=>?_))
  try simp only[List.length_map,Ex.bA] at hlen
  refine W.b7 (ι:={x:Nat×List JV // match x with | (q,dcc)=>q≤p.evs.length∧dcc=bcc++(p.evs.take q).map (Fh p.thread)})
   (fun x=>match x.1 with | (q,dcc)=>[(5,.ptr 0 0),(9,.ptr 1 0),(70,.d (.v (.int .i64 ((q:Nat):Int))))]) [(61,_),(62,_),(63,_),(68,_),(69,_)]
   (fun x=>match x.1 with | (q,dcc)=>[(0,[.d (ci 5),.d (ci 0),.d (cs cC),.d (.sl []),.own 2 (dcc.map JV.c)]),(1,p.c.map A.d)]) [] [2] 3 (fun x=>match x.1 with | (q,dcc)=>p.evs.length - q)
   [0,2,1] ⟨(0,bcc),?_⟩ rfl ?_ ⟨rfl,rfl,rfl,rfl,rfl,rfl,rfl,rfl,rfl,rfl,trivial⟩ ?_ trivial rfl ?_
  · exact⟨Nat.zero_le _,by simp⟩
  · repeat' first | exact trivial | refine⟨rfl,?_⟩
  · repeat' first | exact trivial | refine⟨rfl,?_⟩
  rintro⟨⟨q,dcc⟩,hk2,hdcc⟩
  show W _ _ _ _ _ ⟨[(5,.ptr 0 0),(9,.ptr 1 0),(70,.d (.v (.int .i64 ((q:Nat):Int)))),(61,_),(62,_),(63,_),(68,_),(69,_)],[(0,[.d (ci 5),.d (ci 0),.d (cs cC),.d (.sl []),.own 2 (dcc.map JV.c)]),(1,p.c.map A.d)],[2],3⟩
  have hk:=hk2
  have hdl:dcc.length≤22000:=by
   rw[hdcc,hbcc,List.length_append,List.length_append,List.length_map,List.length_map,List.length_take]
   have:=Cw ps k
   omega
  refine ba 1 rfl ?_
  refine ae (cB (l:=p.evs) (k:=q) rfl (by simp[Ex.bA,bk]) hk (fun e hx hd hlt=>?_) (fun he hd=>?_))
  ·
   obtain⟨f,hf,hw,hst⟩:=Cy (hpe e (List.mem_of_getElem? hx)) p.thread
   refine ah (qs (ae (W.block (ae (aa (pu (indexAddr (l:=e.c) aX rfl rfl rfl rfl rfl rfl (Int.natCast_nonneg _) (bN hx) rfl) rfl ?_))))))
   refine aZ 1 rfl ?_
   refine bK aX rfl rfl rfl (bl aX rfl rfl rfl rfl rfl rfl rfl rfl (ab (qs (W.rB aX [] [] [] [] 7 (by kernel_rfl) (by kernel_rfl) rfl rfl ?_))))
   refine' bX (ev aX rfl) ?p_14 rfl rfl rfl (by kernel_rfl) rfl ?h_14
   case' h_14=>skip
   case p_14=>refine⟨fun ha=>(bb ha (by kernel_rfl)).elim,?_⟩ <;> intro ha <;> first | exact⟨ev aX rfl,fun h=>nomatch h⟩ | exact(bb ha (by kernel_rfl)).elim
   refine' bX (ev aX rfl) ?p_15 rfl rfl rfl (by kernel_rfl) rfl ?h_15
   case' h_15=>skip
   case p_15=>refine⟨fun ha=>(bb ha (by kernel_rfl)).elim,?_⟩ <;> intro ha <;> first | exact⟨ev aX rfl,fun h=>nomatch h⟩ | exact⟨eG aX rfl rfl rfl rfl,fun h=>nomatch h⟩ | exact⟨eC aX rfl rfl rfl rfl rfl,fun h=>nomatch h⟩ | exact(bb ha (by kernel_rfl)).elim
   refine' bX (ev aX rfl) ?p_16 rfl rfl rfl (by kernel_rfl) rfl ?h_16
   case' h_16=>skip
   case p_16=>refine⟨fun ha=>(bb ha (by kernel_rfl)).elim,?_⟩ <;> intro ha <;> first | exact⟨ev aX rfl,fun h=>nomatch h⟩ | exact(bb ha (by kernel_rfl)).elim
   refine' bX (ev aX rfl) ?p_17 rfl rfl rfl (by kernel_rfl) rfl ?h_17
   case' h_17=>skip
   case p_17=>refine⟨fun ha=>(bb ha (by kernel_rfl)).elim,?_⟩ <;> intro ha <;> first | exact⟨ev aX rfl,fun h=>nomatch h⟩ | exact⟨eG aX rfl rfl rfl rfl,fun h=>nomatch h⟩ | exact⟨eC aX rfl rfl rfl rfl rfl,fun h=>nomatch h⟩ | exact(bb ha (by kernel_rfl)).elim
   refine' bX (ev aX rfl) ?p_18 rfl rfl rfl (by kernel_rfl) rfl ?h_18
   case' h_18=>skip
   case p_18=>refine⟨fun ha=>(bb ha (by kernel_rfl)).elim,?_⟩ <;> intro ha <;> first | exact⟨ev aX rfl,fun h=>nomatch h⟩ | exact⟨eG aX rfl rfl rfl rfl,fun h=>nomatch h⟩ | exact⟨eC aX rfl rfl rfl rfl rfl,fun h=>nomatch h⟩ | exact(bb ha (by kernel_rfl)).elim
   refine' bX (bm rfl rfl rfl (tS p.thread e f hf hst) rfl) ?p_19 rfl rfl rfl (by kernel_rfl) rfl ?h_19
   case' h_19=>skip
   case p_19=>refine⟨fun ha=>(bb ha (by kernel_rfl)).elim,?_⟩ <;> intro ha <;> first | exact⟨bm rfl rfl rfl (tS p.thread e f hf hst) rfl,fun h=>nomatch h⟩ | exact(bb ha (by kernel_rfl)).elim
   refine' bX (b9 aX rfl rfl rfl rfl rfl rfl rfl rfl rfl) ?p_20 rfl rfl rfl (by kernel_rfl) rfl ?h_20
   case' h_20=>skip
   case p_20=>refine⟨fun ha=>(bb ha (by kernel_rfl)).elim,?_⟩ <;> intro ha <;> first | exact⟨b9 aX rfl rfl rfl rfl rfl rfl rfl rfl rfl,fun h=>nomatch h⟩ | exact(bb ha (by kernel_rfl)).elim
   refine au ?_ rfl
   refine fD (fn:=JV.c) (a:=wH f p.thread e) aX rfl rfl rfl rfl rfl rfl rfl rfl rfl rfl (fun _=>rfl) (by show(dcc.length+1)*80≤_;omega) ?_
   refine pE rfl (bl aX rfl rfl rfl rfl rfl rfl rfl rfl (ab (ca (qs (cQ 2 rfl ?_)))))
   refine W.cr [0,1,4] ⟨(q+1,dcc++[wH f p.thread e]),?_⟩ ?_ rfl ?_ ⟨rfl,rfl,rfl,rfl,rfl,rfl,rfl,rfl,rfl,rfl,trivial⟩ ?_ trivial rfl
   · exact⟨hlt,by rw[List.take_add_one,hx,List.map_append,hdcc,←hw,List.append_assoc];rfl⟩
   · dsimp only;omega
   · repeat' first | exact trivial | refine⟨rfl,?_⟩ | refine⟨bJ (by assumption) (by assumption),?_⟩
   repeat' first | exact trivial | refine⟨rfl,?_⟩
  have hd3:dcc=ts.map mJ++(ps.take (k+1)).flatMap sy:=by
   rw[hdcc,he,List.take_length,hbcc,List.take_add_one,hx,List.flatMap_append,List.append_assoc]
   congr 2
   simp[sy]
  refine an (bT (bR (bP (ca (qs (cQ 2 rfl ?_))))))
  refine W.cr [0,2] ⟨(k+1,dcc),?_⟩ ?_ rfl ?_ ⟨rfl,rfl,rfl,rfl,trivial⟩ ?_ trivial rfl
  · exact⟨hlt,hd3⟩
  · dsimp only;omega
  · repeat' first | exact trivial | refine⟨rfl,?_⟩ | refine⟨bJ (by assumption) (by assumption),?_⟩
  repeat' first | exact trivial | refine⟨rfl,?_⟩
 have hb2:bcc=sE ts ps:=by rw[hbcc,he,List.take_length];rfl
 have hP:=B6 (jE ts ps) hz
 rw[jQ] at hP
 rw[show(jE ts ps).kids=bcc from hb2.symm] at hP
 refine an (bT (bR (bP (qs (ae (aa (aZ 1 rfl ?_)))))))
 refine pu (bm rfl rfl rfl hP rfl) rfl ?_
 refine aZ 5 rfl ?_
 refine ab (qs (ae (ba 2 rfl ?_)))
 refine be rfl (fun h91=>?_) (fun h91=>?_)
 ·
  have hg:nh ts ps=(cC,cv (jE ts ps) 1):=by unfold nh;rw[if_neg h0,if_pos (by simpa using h91)]
  refine ba 3 rfl ?_
  refine W.ret (bo (QF.br trivial rfl ?_))
  rw[hg];rfl
 have hcj:¬ cv (jE ts ps) 1≠0:=by simpa using h91
 refine ah (qs (ae (ba 3 rfl ?_)))
 refine be rfl (fun h95=>?_) (fun h95=>?_)
 ·
  have hg:nh ts ps=(cC,7):=by unfold nh;rw[if_neg h0,if_neg hcj,if_pos (by simp at h95;omega)]
  refine ba 2 rfl ?_
  refine W.ret (bo (QF.br trivial rfl ?_))
  rw[hg];rfl
 have hg:nh ts ps=(kH (jE ts ps),0):=by unfold nh;rw[if_neg h0,if_neg hcj,if_neg (by simp at h95;omega)]
 refine ah (qs (ba 3 rfl ?_))
 refine W.ret (QF.br trivial rfl ?_)
 rw[hg];rfl
abbrev uA (g:Nat) (x:gC):List A:=[.own g (x.ids.map ic),.mp (g+1) (dO ik cs x.names),.mo (g+2) (gW ik Ev.c x.evs) none none]
theorem tD (x:gC) (id:Int) (M:vW 1000000 x):cm Tryz.prog 74 [.ptr 0 0,.d (ci id)] [uA 1 x] 3 (.tup []) [uA 1 { x with ids:=fu x.ids id }] 3:=by
 obtain⟨ids,names,evs⟩:=x;have hid:ids.length≤1000000:=M.2.2.1;refine cm.dQ aX (n:=21) (rs:=[]) Tryz.func74 (by kernel_rfl) Z Tryz.ntmps74 Tryz.results74 Z Z fun C hC N=>?_;refine ae (aa (aZ 5 Z ?_));refine pu (bm Z Z Z (x9 ids id) Z) Z ?_;refine pE Z (ab (qs (be Z (fun I=>?_) (fun I=>?_))));·
  have J:fu ids id=ids++[id]:=if_neg (by revert I;cases (ids.any fun x=>decide (id=x)) <;> simp);refine aa (aZ 6 Z ?_);refine pu (b9 aX Z Z Z Z Z Z Z Z Z) Z ?_;refine fD (fn:=ic) (a:=id) aX Z Z Z Z Z Z Z Z Z Z (fun _=>rfl) (by show(ids.length+1)*8≤_;omega) ?_;refine aZ 2 Z ?_;refine bl aX Z Z Z Z Z Z Z Z (ab (ak aX [4,2,3] trivial Z Z Z Z ?_ ?_));·rw[J];exact⟨rfl,trivial⟩
  rfl
 have J:fu ids id=ids:=if_pos (by revert I;cases (ids.any fun x=>decide (id=x)) <;> simp);refine ah (ak aX [1,2,3] trivial Z Z Z Z ?_ ?_);·rw[J];exact⟨rfl,trivial⟩
 rfl
theorem FT {n:Nat} {x:gC} (h:vW n x) (id:Int):((cb x.evs id).getD []).length≤n:=by
 unfold cb
 cases q:x.evs.find? fun p=>decide (p.1=id) with
 | none=>simp
 | some p=>simpa [q] using h.2.2.2 p (List.mem_of_find?_eq_some q)
set_option maxHeartbeats 1000000 in
theorem C3 (x:gC) (j:JV) (hj:yI j) (O:vW 1000000 x):cm Tryz.prog 24 [.ptr 0 0,.ag j.c] [uA 1 x] 3 (.d (ci (eV x j).2)) [uA 1 (eV x j).1] 3:=by
 obtain⟨ids,names,evs⟩:=x;have b0:=FT O (cE j).1;have hid:ids.length≤1000000:=O.2.2.1;obtain⟨M,X⟩:∃ M,M=fu ids (cE j).1:=⟨_,rfl⟩;obtain⟨cur,U⟩:∃ cur,cur=(cb evs (cE j).1).getD []:=⟨_,rfl⟩;have b2:cur.length≤1000000:=by rw[U];exact b0
 refine cm.dQ aX (n:=90) (rs:=[.tmp 4]) Tryz.func24 (by kernel_rfl) Z Tryz.ntmps24 Tryz.results24 Z Z fun C hC hG=>?_;refine ae (aa (cG Z Z Z (pE Z (ab (qs (ae (aa (aZ 4 Z ?_))))))));refine pu (build aX Z Z Z Z) Z ?_;refine cG Z Z Z (pE Z (ab (qs (ae (aa (pE Z (bG [5] [] Z Z Z Z Z ((tI j (dm j))) Z Z (by rfl) (by rfl) Z Z Z Z ?_)))))));refine aZ 5 Z ?_;refine ab (qs (ae (ba 4 Z ?_)));refine be Z (fun ad=>?_) (fun ad=>?_);·
  have J:eV ⟨ids,names,evs⟩ j=(⟨ids,names,evs⟩,10):=if_pos ad;refine ba 1 Z ?_;refine W.ret (bo (ak aX [1,2,3] trivial Z Z Z Z ?_ ?_));·rw[J];exact⟨rfl,trivial⟩
  rw[J];rfl
 have hb:¬ cS j (dm j)=true:=by rw[show cS j (dm j)=false from ad];simp
 refine ah (qs (ae (ba 2 Z ?_)));refine be Z (fun ai=>?_) (fun ai=>?_);·
  have N:(cH j eT 4).s≠pM:=by simpa [pM] using ai
  have hE:eV ⟨ids,names,evs⟩ j=(if (cE j).2.2=0 then (HQ ⟨ids,names,evs⟩ (cE j).1 (cE j).2.1,0) else (⟨ids,names,evs⟩,(cE j).2.2)):=by unfold eV;rw[if_neg hb,if_pos N]
  refine ae (aa (aZ 1 Z ?_));refine pu (bm Z Z Z (Eu j (hj.val _ _)) Z) Z ?_;refine aZ 4 Z ?_;refine bK aX Z Z Z (pE Z (bl aX Z Z Z Z Z Z Z Z (pE Z (ab (qs (ae (ba 2 Z ?_)))))));refine be Z (fun aj=>?_) (fun aj=>?_);·
   have h0:(cE j).2.2=0:=by simpa using aj
   have J:eV ⟨ids,names,evs⟩ j=(⟨M,names,dp evs (cE j).1 (cur++[(cE j).2.1])⟩,(cE j).2.2):=by rw[hE,if_pos h0,X,U,h0];rfl
   refine ae (W.oO [(0,.ptr 0 0),(9,.ptr 1 0)] [8,10] [(0,[.own 2 (M.map ic),.mp 3 (dO ik cs names),.mo 4 (gW ik Ev.c evs) none none]),(1,(cE j).2.1.c.map A.d)] [] [2,3,4] 5 ?_ ?_);·
    refine aa (aZ 2 Z ?_);refine bG [0] [1,2,3] Z Z Z Z Z ((tD ⟨ids,names,evs⟩ (cE j).1 O)) Z Z (by rfl) (by rfl) Z Z Z Z ?_;refine ab (eJ [0,7,9,10,11] Z ?_ ⟨rfl,rfl,rfl,rfl,trivial⟩ ?_ trivial Z);·repeat' constructor
    rw[X];repeat' constructor
   refine qs (W.H2 0 2 Z Z Z fun b=>?_);refine' W.sM aX (fun bx=>[(0,[.own 2 (M.map ic),.mp 3 (dO ik cs names),.mo 5 (gW ik Ev.c evs) (some (ik (cE j).1)) (some b)])::bx,(0,[.own 2 (M.map ic),.mp 3 (dO ik cs names),.mo 5 (gW ik Ev.c evs) (some (ik (cE j).1)) (some b)])::bx]) [[5,6,2,3],[7,5,2,3]] [7,8] [10,13] 14 (by kernel_rfl) (by kernel_rfl) Z Z ?hL_1;case' hL_1=>skip
   refine' bX (ev aX Z) ?p_2 Z Z Z (by kernel_rfl) Z ?h_2;case' h_2=>skip
   refine' bX (ev aX Z) ?p_3 Z Z Z (by kernel_rfl) Z ?h_3;case' h_3=>skip
   refine' bX (ev aX Z) ?p_4 Z Z Z (by kernel_rfl) Z ?h_4;case' h_4=>skip
   refine' bX (tC aX 0 2 Z Z Z Z) ?p_5 Z Z Z (by kernel_rfl) Z ?h_5;case' h_5=>skip
   refine' bX (ev aX Z) ?p_6 Z Z Z (by kernel_rfl) Z ?h_6;case' h_6=>skip
   refine' bX (ev aX Z) ?p_7 Z Z Z (by kernel_rfl) Z ?h_7;case' h_7=>skip
   refine' bX (ev aX Z) ?p_8 Z Z Z (by kernel_rfl) Z ?h_8;case' h_8=>skip
   refine' bX (ev aX Z) ?p_9 Z Z Z (by kernel_rfl) Z ?h_9;case' h_9=>skip
   refine' bX (tC aX 0 2 Z Z Z Z) ?p_10 Z Z Z (by kernel_rfl) Z ?h_10;case' h_10=>skip
   refine' bX (ev aX Z) ?p_11 Z Z Z (by kernel_rfl) Z ?h_11;case' h_11=>skip
   refine' yg ?x_12 Z Z Z (by kernel_rfl) (fun h=>(bb h (by kernel_rfl)).elim) Z ?h_12;case x_12=>
    intro b hb g;cases b;·exact(bb hb (by kernel_rfl)).elim
    refine DG (kf:=ik) (fn:=Ev.c) (l:=evs) (a:=(cE j).1) (x:=cur.map Ev.c) aX 0 2 Z Z Z Z Z Z Z Z (eY (aX.eS Z Z)) Z Z Z O.2.1 (by rw[U]) Z Z ?_;refine ab ?_;refine' u9 Z ?_ ?_ ?_ ?_;all_goals try exact Z
   case' h_12=>skip
   refine' bX (ev aX Z) ?p_13 Z Z Z (by kernel_rfl) Z ?h_13;case' h_13=>skip
   refine' bX (b9 aX Z Z Z Z Z Z Z Z Z) ?p_14 Z Z Z (by kernel_rfl) Z ?h_14;case' h_14=>skip
   refine' yg ?x_15 Z Z Z (by kernel_rfl) (fun h=>(bb h (by kernel_rfl)).elim) Z ?h_15;case x_15=>
    intro b hb g;cases b;·exact(bb hb (by kernel_rfl)).elim
    refine fD (fn:=Ev.c) (l:=cur) (a:=(cE j).2.1) aX Z Z Z Z Z Z Z Z Z Z (fun _=>rfl) (by show(cur.length+1)*72≤_;omega) ?_;refine ab ?_;refine' u9 Z ?_ ?_ ?_ ?_;all_goals try exact Z
   case' h_15=>skip
   case p_2=>refine⟨fun I=>(bb I (by kernel_rfl)).elim,?_,fun I=>(bb I (by kernel_rfl)).elim,?_,fun I=>(bb I (by kernel_rfl)).elim,?_⟩ <;> intro I <;> first | exact⟨ev aX Z,fun h=>nomatch h⟩ | exact(bb I (by kernel_rfl)).elim
   case p_3=>refine⟨fun I=>(bb I (by kernel_rfl)).elim,?_,fun I=>(bb I (by kernel_rfl)).elim,?_,fun I=>(bb I (by kernel_rfl)).elim,?_⟩ <;> intro I <;> first | exact⟨ev aX Z,fun h=>nomatch h⟩ | exact(bb I (by kernel_rfl)).elim
   case p_4=>refine⟨fun I=>(bb I (by kernel_rfl)).elim,?_,fun I=>(bb I (by kernel_rfl)).elim,?_,fun I=>(bb I (by kernel_rfl)).elim,?_⟩ <;> intro I <;> first | exact⟨ev aX Z,fun h=>nomatch h⟩ | exact(bb I (by kernel_rfl)).elim
   case p_5=>refine⟨fun I=>(bb I (by kernel_rfl)).elim,?_,fun I=>(bb I (by kernel_rfl)).elim,?_,fun I=>(bb I (by kernel_rfl)).elim,?_⟩ <;> intro I <;> first | exact⟨tC aX 0 2 Z Z Z Z,fun h=>nomatch h⟩ | exact(bb I (by kernel_rfl)).elim
   case p_6=>refine⟨fun I=>(bb I (by kernel_rfl)).elim,?_,fun I=>(bb I (by kernel_rfl)).elim,?_,fun I=>(bb I (by kernel_rfl)).elim,?_⟩ <;> intro I <;> first | exact⟨ev aX Z,fun h=>nomatch h⟩ | exact(bb I (by kernel_rfl)).elim
   case p_7=>refine⟨fun I=>(bb I (by kernel_rfl)).elim,?_,fun I=>(bb I (by kernel_rfl)).elim,?_,fun I=>(bb I (by kernel_rfl)).elim,?_⟩ <;> intro I <;> first | exact⟨ev aX Z,fun h=>nomatch h⟩ | exact(bb I (by kernel_rfl)).elim
   case p_8=>refine⟨fun I=>(bb I (by kernel_rfl)).elim,?_,fun I=>(bb I (by kernel_rfl)).elim,?_,fun I=>(bb I (by kernel_rfl)).elim,?_⟩ <;> intro I <;> first | exact⟨ev aX Z,fun h=>nomatch h⟩ | exact(bb I (by kernel_rfl)).elim
   case p_9=>refine⟨fun I=>(bb I (by kernel_rfl)).elim,?_,fun I=>(bb I (by kernel_rfl)).elim,?_,fun I=>(bb I (by kernel_rfl)).elim,?_⟩ <;> intro I <;> first | exact⟨ev aX Z,fun h=>nomatch h⟩ | exact(bb I (by kernel_rfl)).elim
   case p_10=>refine⟨fun I=>(bb I (by kernel_rfl)).elim,?_,fun I=>(bb I (by kernel_rfl)).elim,?_,fun I=>(bb I (by kernel_rfl)).elim,?_⟩ <;> intro I <;> first | exact⟨tC aX 0 2 Z Z Z Z,fun h=>nomatch h⟩ | exact(bb I (by kernel_rfl)).elim
   case p_11=>refine⟨fun I=>(bb I (by kernel_rfl)).elim,?_,fun I=>(bb I (by kernel_rfl)).elim,?_,fun I=>(bb I (by kernel_rfl)).elim,?_⟩ <;> intro I <;> first | exact⟨ev aX Z,fun h=>nomatch h⟩ | exact(bb I (by kernel_rfl)).elim
   case p_13=>refine⟨fun I=>(bb I (by kernel_rfl)).elim,?_,fun I=>(bb I (by kernel_rfl)).elim,?_,fun I=>(bb I (by kernel_rfl)).elim,?_⟩ <;> intro I <;> first | exact⟨ev aX Z,fun h=>nomatch h⟩ | exact⟨eG aX Z Z Z Z,fun h=>nomatch h⟩ | exact⟨eC aX Z Z Z Z Z,fun h=>nomatch h⟩ | exact(bb I (by kernel_rfl)).elim
   case p_14=>refine⟨fun I=>(bb I (by kernel_rfl)).elim,?_,fun I=>(bb I (by kernel_rfl)).elim,?_,fun I=>(bb I (by kernel_rfl)).elim,?_⟩ <;> intro I <;> first | exact⟨b9 aX Z Z Z Z Z Z Z Z Z,fun h=>nomatch h⟩ | exact(bb I (by kernel_rfl)).elim
   refine au ?_ Z;refine Fz (kf:=ik) (fn:=Ev.c) (l:=evs) (a:=(cE j).1) (y:=cur++[(cE j).2.1]) aX 0 2 Z Z Z Z Z Z Z (eY (aX.eS Z Z)) Z Z Z O.2.1 Z Z ?_;refine ab (qs (ba 2 Z ?_));refine W.ret (bo (ak aX [2,3,8] trivial Z Z Z Z ?_ ?_));·rw[J];exact⟨rfl,trivial⟩
   rw[J];rfl
  have h0:¬ (cE j).2.2=0:=by simpa using aj
  have J:eV ⟨ids,names,evs⟩ j=(⟨ids,names,evs⟩,(cE j).2.2):=by rw[hE,if_neg h0]
  refine ah (qs (ba 2 Z ?_));refine W.ret (bo (ak aX [1,2,3] trivial Z Z Z Z ?_ ?_));·rw[J];exact⟨rfl,trivial⟩
  rw[J];rfl
 have N:¬ (cH j eT 4).s≠pM:=by simpa [pM] using ai
 refine ah (qs (ae (aa (pE Z (bG [5] [] Z Z Z Z Z ((jM j (cS j (dm j)) cP 4)) Z Z (by rfl) (by rfl) Z Z Z Z ?_)))));refine aZ 2 Z ?_;refine ab (qs ?_);iterate 2 refine ae ?_
 apply bL;(case hb=>rfl);·repeat' first | refine cc Z Z Z | refine bH Z Z ?_ | refine bC Z Z Z Z ?_ | refine pE Z ?_ | refine ab ?_ | refine pu (b9 aX Z Z Z Z Z Z Z Z Z) Z ?_ | refine pu (bm Z Z Z (tT j (cS j (dm j) || fK j cP 4) wV) Z) Z ?_ | (apply b8;(case hj=>rfl);(case hl=>rfl))
 refine qs (be Z (fun a1=>?_) (fun a1=>?_));·
  have J:eV ⟨ids,names,evs⟩ j=(⟨ids,names,evs⟩,10):=by unfold eV;rw[if_neg hb,if_neg N,if_pos a1]
  refine ba 1 Z ?_;refine W.ret (bo (ak aX [1,2,3] trivial Z Z Z Z ?_ ?_));·rw[J];exact⟨rfl,trivial⟩
  rw[J];rfl
 have hg:¬ (bif (cS j (dm j) || fK j cP 4) then true else !kj j wV)=true:=by rw[show(bif (cS j (dm j) || fK j cP 4) then true else !kj j wV)=false from a1];simp
 refine ah (qs ?_);iterate 2 refine ae ?_
 refine aa (pE Z (pu (bm Z Z Z (oN (cH j cP 4).s) Z) Z ?_));refine pE Z (ab (qs (ba 2 Z ?_)));refine be Z (fun a6=>?_) (fun a6=>?_);·
  have J:eV ⟨ids,names,evs⟩ j=(⟨ids,names,evs⟩,cY (cH j cP 4).s):=by unfold eV;rw[if_neg hb,if_neg N,if_neg hg,if_pos (by simpa using a6)]
  refine ba 2 Z ?_;refine W.ret (bo (ak aX [1,2,3] trivial Z Z Z Z ?_ ?_));·rw[J];exact⟨rfl,trivial⟩
  rw[J];rfl
 have a8:¬ cY (cH j cP 4).s≠0:=by simpa using a6
 refine ah (qs ?_);iterate 2 refine ae ?_
 refine aa (aZ 5 Z ?_);refine pu (jS (kf:=ik) (vf:=cs) (l:=names) (a:=(cH j cU 3).n) (z:=cC) aX Z Z Z Z Z (eY (aX.eS Z Z)) Z Z Z (fun _ _=>.v _ Z) O.1 Z) Z ?_;refine pE Z (ab (qs (be Z (fun a7=>?_) (fun a7=>?_))));·
  have J:eV ⟨ids,names,evs⟩ j=(⟨ids,names,evs⟩,4):=by unfold eV;rw[if_neg hb,if_neg N,if_neg hg,if_neg a8,if_pos (by revert a7;show(!decide ((cb names (cH j cU 3).n).getD cC=cC))=true→_;simp)]
  refine ba 1 Z ?_;refine W.ret (bo (ak aX [1,2,3] trivial Z Z Z Z ?_ ?_));·rw[J];exact⟨rfl,trivial⟩
  rw[J];rfl
 have J:eV ⟨ids,names,evs⟩ j=(HE ⟨ids,names,evs⟩ (cH j cU 3).n (cH j cP 4).s,0):=by unfold eV;rw[if_neg hb,if_neg N,if_neg hg,if_neg a8,if_neg (by revert a7;show(!decide ((cb names (cH j cU 3).n).getD cC=cC))=false→_;simp)]
 refine ah (qs (ae (aa (aZ 2 Z ?_))));refine bG [0] [1,2,3] Z Z Z Z Z ((tD ⟨ids,names,evs⟩ (cH j cU 3).n O)) Z Z (by rfl) (by rfl) Z Z Z Z ?_;refine ab (qs (ae (aa (aZ 6 Z ?_))));refine F3 (kf:=ik) (vf:=cs) (l:=names) (a:=(cH j cU 3).n) (y:=(cH j cP 4).s) aX 0 1 Z Z Z Z Z Z Z Z (eY (aX.eS Z Z)) Z O.1 Z Z Z ?_;refine ab (qs (ba 1 Z ?_));refine W.ret (ak aX [9,12,11] trivial Z Z Z Z ?_ ?_);·rw[J];exact⟨rfl,trivial⟩
 rw[J];rfl
open Go.RowKit
attribute [local go_sem] Oper.semAt_some
set_option maxRecDepth 100000 in
set_option maxHeartbeats 2000000 in
theorem Ez:vj Tryz.prog 77:=by
 intro l W J M b1 o1 a len cap R h0 h1 U hle X ad hY;refine(callsIn_wide (n:=0)).1 ?_;refine callsIn_of_wp (F:=Fence.wide) (n:=0) Tryz.func77 Z trivial ?_ Z;simp only[Tryz.ntmps77,List.size_toArray,List.length_cons,List.length_nil,Nat.reduceAdd,Nat.reduceSub,Array.replicate_succ,Array.replicate_zero,List.push_toArray,List.append_toArray,List.nil_append,List.cons_append]
 gi_wp2
 gi_loopw [4] (fun i wr=>(i=.int .i64 0∧wr=W)∨(i=.int .i64 1000∧(∃ a' I,wr.cell? ⟨J,M,none⟩=some (.slice a' len I))∧wr.cell? ⟨b1,o1,none⟩=some (.int .i64 1000)∧R wr)) (fun i _=>1000 - (intOf i).toNat)
 case atStart=>exact .inl ⟨rfl,rfl⟩
 case round=>
  rcases hrel with ⟨rfl,rfl⟩ | ⟨rfl,⟨a',I,h2⟩,h3,N⟩
  ·
   obtain⟨fn,tmps,assign,body,hy,N⟩:=hY;have ai:wr.cell? ⟨J,M,none⟩=some (.slice (some a) len cap):=h0;have aj:wr.cell? ⟨b1,o1,none⟩=some (.int .i64 1000):=h1
   gi_wp2
   gi_big_region
   rw[show min (1000:Int) (len:Int)=(len:Int) from by omega];have a1:wr.drew.cell? ⟨J,M,none⟩=some (.slice (some a) len cap):=h0;have a6:wr.drew.cell? ⟨b1,o1,none⟩=some (.int .i64 1000):=h1
   gi_wp2
   refine⟨rfl,N.mono ?_⟩;rintro e W3 ⟨rfl,⟨a',I,h2⟩,h3,O⟩
   gi_wp2
   go_roundw
   case rel=>exact .inr ⟨rfl,⟨_,_,h2⟩,h3,O⟩
   case measure=>simp[intOf]
  gi_wp2
  go_end0
  exact⟨⟨_,rfl⟩,N⟩
end Go.Proofs.YtpiaiiopakafhaaGreatDoor
namespace Go.Proofs.YtpiaiiopakafhaaGreatDoor
open Go.Ab Go.Tb
set_option maxRecDepth 10000
set_option maxHeartbeats 1000000
attribute [local irreducible] W WO Pu QS QB QL QF QV cu CH QE
theorem D5 (evs:List Ev):bq Tryz.prog 26 [.d (.sl (evs.map Ev.c)),.d (ci 1000)] (.clo 77 [.rowd [.sl (evs.map Ev.c)],.rowd [ci 1000]]) 0:=by
 refine bq.bZ (n:=9) (ts:=[4]) Tryz.func26 (by kernel_rfl) Z Tryz.ntmps26 Tryz.results26 Z Z fun C hC J=>?_;refine ae (aa (cG Z Z Z (cG Z Z Z (pE Z (ab (qs (ae (ba 2 Z ?_))))))));refine be Z (fun I=>?_) (fun I=>?_);·exfalso;simp at I
 refine ah (qs (ae (zw 2 (l:=[.sl (evs.map Ev.c)]) Z Z Z Z Z ?_)));refine zw 3 (l:=[ci 1000]) Z Z Z Z Z ?_;refine cQ 2 Z ?_;refine qs (W.ret (QF.br trivial Z ?_));rfl
theorem Hm {id:Int} (h:0≤id∧id≤1000000000000000):(B #[116]).size+(dZ id).size≤9223372036854775807:=by
 have h1:(10:Nat) ^ 20=100000000000000000000:=by decide
 have h2:=wk (n:=id) (by omega);have h3:(B #[116]).size=1:=rfl;omega
open Go.RowKit
attribute [local go_sem] Oper.semAt_some
set_option maxRecDepth 100000 in
set_option maxHeartbeats 2000000 in
theorem CA:sO Tryz.prog 77:=by
 intro l W I J b1 o1 a cap R h0 h1 M;refine(callsIn_wide (n:=0)).1 ?_;refine callsIn_of_wp (F:=Fence.wide) (n:=0) Tryz.func77 Z trivial ?_ Z;simp only[Tryz.ntmps77,List.size_toArray,List.length_cons,List.length_nil,Nat.reduceAdd,Nat.reduceSub,Array.replicate_succ,Array.replicate_zero,List.push_toArray,List.append_toArray,List.nil_append,List.cons_append]
 gi_wp2
 gi_loopw [4] (fun i wr=>i=.int .i64 0∧wr=W) (fun i _=>1000 - (intOf i).toNat)
 case atStart=>exact⟨rfl,rfl⟩
 case round=>
  obtain⟨rfl,rfl⟩:=hrel;have N:wr.cell? ⟨I,J,none⟩=some (.slice a 0 cap):=h0;have O:wr.cell? ⟨b1,o1,none⟩=some (.int .i64 1000):=h1
  gi_wp2
  go_end0
  exact⟨⟨_,rfl⟩,M⟩
end Go.Proofs.YtpiaiiopakafhaaGreatDoor
namespace Go.Proofs.YtpiaiiopakafhaaGreatDoor
open Go.Ab Go.Tb
set_option maxRecDepth 10000
set_option maxHeartbeats 1000000
attribute [local irreducible] W WO Pu QS QB QL QF QV cu CH QE
theorem dL (a w:Int):iv Tryz.prog 73 [.d (.v (.int .i64 a)),.d (.v (.int .i64 w))] [] 0 (.iface 128 (.agg #[.int .i64 a,.int .i64 w])):=by
 refine iv.bZ (n:=8) Tryz.func73 (by kernel_rfl) Z Tryz.ntmps73 Z fun C hC I=>?_;refine aa (aZ 2 Z ?_);refine pu (build aX Z Z Z Z) Z ?_;refine pu (F1 (l:=[.int .i64 a,.int .i64 w]) aX Z Z Z) Z ?_;refine Hp Z (fun st'=>?_);repeat' first | refine cW ?_ | refine gL ?_ | refine kt ?_ | refine IX ?_
 exact Z
theorem oz {s:ByteArray} {i:Nat} (h:i < s.size):(bc s)[i]? = some (bh (bc s) i):=by
 have:i < (bc s).length:=by rw[bk];exact h
 rw[List.getElem?_eq_getElem this];simp[bh,List.getD_eq_getElem?_getD,List.getElem?_eq_getElem this]
theorem iP (s:ByteArray) (i:Nat):cm Tryz.prog 120 [.ptr 0 0] [fG s i] 0 (.d (.v (.int .u8 (bh (bc s) i).toNat))) [fG s i] 0:=by
 refine cm.dQ aX (n:=22) (rs:=[.tmp 2]) Tryz.func120 (by kernel_rfl) Z Tryz.ntmps120 Tryz.results120 Z Z fun C hC M=>?_;refine ba 1 Z ?_;iterate 2 refine ae ?_
 refine W.fC aX (by kernel_rfl) ?_;iterate 3 refine bF (ev aX Z) Z ?_
 refine bF (ev aX Z) Z ?_;iterate 3 refine bF (ev aX Z) Z ?_
 refine bF (ev aX Z) Z ?_;iterate 2 refine bF (ev aX Z) Z ?_
 refine aq ?_;refine qs (be Z (fun I=>?_) (fun I=>?_));·
  have J:bh (bc s) i=0:=nk (by rw[bk];simpa using I);refine ba 1 Z ?_;refine W.ret (bo (ak aX [] trivial Z Z Z Z ?_ ?_));·exact⟨rfl,trivial⟩
  rw[J];rfl
 have hb:=oz (s:=s) (i:=i) (by simpa using I);refine ah (qs (ae (W.fC aX (by kernel_rfl) ?_)));iterate 3 refine bF (ev aX Z) Z ?_
 refine bF (ev aX Z) Z ?_;iterate 3 refine bF (ev aX Z) Z ?_
 refine bF (ev aX Z) Z ?_;refine bF (eU aX Z Z Z Z (Int.natCast_nonneg _) (iG hb)) Z ?_;refine bF (ev aX Z) Z ?_;refine aq ?_;refine qs (W.ret (ak aX [] trivial Z Z Z Z ?_ ?_));·exact⟨rfl,trivial⟩
 rfl
theorem xt (b:UInt8):decide (0≤Lib.indexByte (bc (B #[32,9,10,13])) b)=n9 b:=by rw[Bool.eq_iff_iff,decide_eq_true_eq,lS];unfold n9;simp only[bc,Bool.or_eq_true,decide_eq_true_eq];show b∈[32,9,10,13]↔_;simp only[List.mem_cons,List.mem_nil_iff,or_false,←UInt8.toNat_inj];rfl
theorem la (s:ByteArray) (i:Nat) (hi:i≤s.size) (hs:s.size≤1000000000):cm Tryz.prog 72 [.ptr 0 0] [fG s i] 0 (.d (.v (.int .u8 (bh (bc s) (bp (bc s) i)).toNat))) [fG s (bp (bc s) i)] 0:=by
 refine cm.dQ aX (n:=35) (rs:=[.tmp 2]) Tryz.func72 (by kernel_rfl) Z Tryz.ntmps72 Tryz.results72 Z Z fun C hC N=>?_;refine ba 1 Z ?_;refine ae (W.block ?_)
 refine W.b7 (ι:={x:Nat // match x with | j=>j≤s.size∧bp (bc s) j=bp (bc s) i})
  (fun x=>match x.1 with | j=>[(0,.ptr 0 0)]) []
  (fun x=>match x.1 with | j=>[(0,[.d (cs s),.d (.v (.int .i64 (j:Int)))])]) [] [] 1 (fun x=>match x.1 with | j=>s.size - j)
  [0] ⟨i,?_⟩ Z ?_ trivial ?_ trivial Z ?_
 ·exact⟨hi,rfl⟩
 ·repeat' constructor
 ·repeat' constructor
 rintro⟨j,O,J⟩;show W _ _ _ _ _ ⟨[(0,.ptr 0 0)],[(0,[.d (cs s),.d (.v (.int .i64 (j:Int)))])],[],1⟩;iterate 2 refine ae ?_
 apply mP aX;(case hb=>rfl);(case hB=>kernel_rfl);·
  iterate 3 refine bF (ev aX Z) Z ?_
  refine bF (ev aX Z) Z ?_;iterate 3 refine bF (ev aX Z) Z ?_
  refine bF (ev aX Z) Z ?_;iterate 3 refine bF (ev aX Z) Z ?_
  apply pd;(case hj=>rfl);(case hl=>rfl);·
   intro g13;refine dn Z Z (ev aX Z) Z ?_;refine dn Z Z (ev aX Z) Z ?_;refine dn Z Z (ev aX Z) Z ?_;refine dn Z Z (ev aX Z) Z ?_;refine dn Z Z (ev aX Z) Z ?_;refine dn Z Z (ev aX Z) Z ?_;refine dn Z Z (ev aX Z) Z ?_;refine dn Z Z (ev aX Z) Z ?_;refine dn Z Z (eU aX Z Z Z Z (Int.natCast_nonneg _) (iG (oz (s:=s) (i:=j) (by simpa using g13)))) Z ?_;refine dn Z Z (bm Z Z Z (Ag (B #[32,9,10,13]) (bh (bc s) j)) Z) Z ?_;refine dn Z Z (ev aX Z) Z ?_;refine bF (ev aX Z) Z ?_;refine aq ?_;refine cc Z Z Z
  intro g13;iterate 11 refine qP Z Z Z Z ?_
  refine bF (ev aX Z) Z ?_;refine aq ?_;refine cc Z Z Z
 refine qs (be Z (fun I=>?_) (fun I=>?_));·
  have q:j < s.size∧n9 (bh (bc s) j)=true:=by revert I;rw[xt];simp
  have M:=Bs (l:=bc s) (i:=j) (by rw[bk];exact q.1) q.2;refine ah (qs (W.block (aa (aZ 4 Z ?_))));refine pu (dP (ev aX Z) (y:=((j+1:Nat):Int)) (wrap64 (by omega))) Z ?_;refine aZ 2 Z ?_;refine bl aX Z Z Z Z Z Z Z Z (ab (ca (W.cr [0] ⟨j+1,?_⟩ ?_ Z ?_ trivial ?_ trivial Z)));·exact⟨q.1,by rw[←M,J]⟩
  ·dsimp only;omega
  ·repeat' constructor
  repeat' constructor
 have q:bp (bc s) i=j:=by
  rw[←J];by_cases q1:j < s.size;·exact eh (by revert I;rw[xt];simp[q1])
  exact BW (by rw[bk];omega)
 refine an (bT (bR (bP (qs (ae (aa (pE Z (bG [0] [] Z Z Z Z Z ((iP s j)) Z Z (by rfl) (by rfl) Z Z Z Z ?_))))))));refine pE Z (ab (qs (W.ret (ak aX [] trivial Z Z Z Z ?_ ?_))));·rw[q];exact⟨rfl,trivial⟩
 rw[q];rfl
theorem kq (s:ByteArray) (c:UInt8) (i:Nat) (hs:s.size≤1000000000):dH Tryz.prog 157 [.ptr 0 0,.d (.v (.int .u8 c.toNat))] [fG s i] 0 (iz 128 s (fun _=>.tup []) (cF (bc s) c i)):=by
 refine dH.dQ aX (n:=39) (rs:=[]) Tryz.func157 (by kernel_rfl) Z Tryz.ntmps157 Tryz.results157 Z (gx ..) fun C hC M=>?_;iterate 2 refine ae ?_
 apply mP aX;(case hb=>rfl);(case hB=>kernel_rfl);·
  iterate 3 refine bF (ev aX Z) Z ?_
  refine bF (ev aX Z) Z ?_;iterate 3 refine bF (ev aX Z) Z ?_
  refine bF (ev aX Z) Z ?_;iterate 3 refine bF (ev aX Z) Z ?_
  apply pd;(case hj=>rfl);(case hl=>rfl);·
   intro g14;iterate 11 refine qP Z Z Z Z ?_
   refine bF (ev aX Z) Z ?_;refine aq ?_;refine cc Z Z Z
  intro g14;refine dn Z Z (ev aX Z) Z ?_;refine dn Z Z (ev aX Z) Z ?_;refine dn Z Z (ev aX Z) Z ?_;refine dn Z Z (ev aX Z) Z ?_;refine dn Z Z (ev aX Z) Z ?_;refine dn Z Z (ev aX Z) Z ?_;refine dn Z Z (ev aX Z) Z ?_;refine dn Z Z (ev aX Z) Z ?_;refine dn Z Z (eU aX Z Z Z Z (Int.natCast_nonneg _) (iG (oz (s:=s) (i:=i) (by simpa using g14)))) Z ?_;refine dn Z Z (ev aX Z) Z ?_;refine dn Z Z (ev aX Z) Z ?_;refine bF (ev aX Z) Z ?_;refine aq ?_;refine cc Z Z Z
 refine qs (be Z (fun I=>?_) (fun I=>?_));·
  have J:cF (bc s) c i=.no i 10:=by unfold cF;rw[if_neg];rintro⟨q1,q2⟩;rw[bk] at q1;revert I;simp[q1,q2]
  refine aa (aZ 4 Z ?_);refine dk [] [] Z Z Z Z Z (dL i 10) Z Z (by rfl) (fun st'=>?_);repeat' refine cW ?_
  exact dr (bO J)
 have J:cF (bc s) c i=.ok () (i+1)∧i < s.size:=by
  have q:i < s.size∧bh (bc s) i=c:=by revert I;simp;intro q1 q2;exact⟨q1,UInt8.toNat_inj.1 (by omega)⟩
  exact⟨by unfold cF;rw[if_pos ⟨by rw[bk];exact q.1,q.2⟩],q.1⟩
 refine ah (qs (aa (aZ 4 Z ?_)));refine pu (dP (ev aX Z) (y:=((i+1:Nat):Int)) (wrap64 (by omega))) Z ?_;refine aZ 2 Z ?_;refine bl aX Z Z Z Z Z Z Z Z (ab (dS (bQ (J.1)) ?_));refine ak aX [] trivial Z Z Z Z ?_ ?_;·exact⟨rfl,trivial⟩
 rfl
theorem ki (s w:ByteArray) (i:Nat) (hs:s.size≤1000000000):dH Tryz.prog 114 [.ptr 0 0,.d (.v (.string w))] [fG s i] 0 (iz 128 s (fun _=>.tup []) (du (bc s) (bc w) i)):=by
 refine dH.dQ aX (n:=16) (rs:=[]) Tryz.func114 (by kernel_rfl) rfl Tryz.ntmps114 Tryz.results114 rfl (gx ..) fun C hC hG=>?_
 refine ba 3 rfl ?_
 refine W.block (W.ot (t:=1) rfl (fun hok=>?_))
 have hlen:=mD hok
 refine W.b7 (ι:={x:Nat×Nat // match x with | (k,j)=>k≤(bc w).length∧du (bc s) ((bc w).drop k) j=du (bc s) (bc w) i})
  (fun x=>match x.1 with | (k,j)=>[(0,.ptr 0 0),(7,.d (.v (.int .i64 ((k:Nat):Int))))]) [(1,_),(6,_)]
  (fun x=>match x.1 with | (k,j)=>[(0,[.d (cs s),.d (.v (.int .i64 (j:Int)))])]) [] [] 1 (fun x=>match x.1 with | (k,j)=>(bc w).length - k)
  [0] ⟨(0,i),?_⟩ rfl ?_ ⟨rfl,rfl,rfl,rfl,trivial⟩ ?_ trivial rfl ?_
 · exact⟨Nat.zero_le _,rfl⟩
 · repeat' first | exact trivial | refine⟨rfl,?_⟩
 · repeat' first | exact trivial | refine⟨rfl,?_⟩
 rintro⟨⟨k,j⟩,hk,hI⟩
 show W _ _ _ _ _ ⟨[(0,.ptr 0 0),(7,.d (.v (.int .i64 ((k:Nat):Int)))),(1,_),(6,_)],[(0,[.d (cs s),.d (.v (.int .i64 (j:Int)))])],[],1⟩
 refine ba 1 rfl ?_
 refine ae (cB (l:=bc w) (k:=k) rfl (by simp[Ex.bA,bk]) hk (fun b hx hd hlt=>?_) (fun he hd=>?_))
 ·
  rw[hd] at hI
  simp only[du] at hI
  refine ah (qs (ae (W.block (ba 2 rfl ?_))))
  refine aa (aZ 3 rfl ?_)
  refine pu (eU aX rfl rfl rfl rfl (Int.natCast_nonneg _) (iG (by assumption))) rfl ?_
  cases hc14:cF (bc s) b j with
  | no a14 w14=>
   refine dk [0] [] rfl rfl rfl rfl rfl ((kq s b j hs).gG (bO hc14)) rfl rfl (by rfl) (fun st'=>?_)
   repeat' first | refine cW ?_ | refine gL ?_ | refine kt ?_
   refine dr (bO (by rw[←hI,hc14]))
  | ok y14 i14=>
   refine bG [0] [] rfl rfl rfl rfl rfl ((kq s b j hs).ret (bQ hc14)) rfl rfl (by rfl) (by rfl) rfl rfl rfl rfl ?_
   refine ab (ca (qs (cQ 2 rfl ?_)))
   refine W.cr [0] ⟨(k+1,i14),?_⟩ ?_ rfl ?_ ⟨rfl,rfl,rfl,rfl,trivial⟩ ?_ trivial rfl
   · exact⟨hlt,by rw[←hI,hc14]⟩
   · dsimp only;omega
   · repeat' first | exact trivial | refine⟨rfl,?_⟩ | refine⟨bJ (by assumption) (by assumption),?_⟩
   repeat' first | exact trivial | refine⟨rfl,?_⟩
 rw[hd] at hI
 simp only[du] at hI
 refine an (bT (bR (bP (dS (bQ (hI.symm)) ?_))))
 refine ak aX [] trivial rfl rfl rfl rfl ?_ ?_
 · exact⟨rfl,trivial⟩
 rfl
def iC (l:List UInt8) (c:UInt8) (i:Nat):PE Bool:=
 if bh l (bp l i)=44 then .ok true (bp l i+1) else match cF l c (bp l i) with | .no a w=>.no a w | .ok _ j=>.ok false j
theorem rr (s:ByteArray) (c:UInt8) (i:Nat) (hi:i≤s.size) (hs:s.size≤1000000000):dH Tryz.prog 159 [.ptr 0 0,.d (.v (.int .u8 c.toNat))] [fG s i] 0 (iz 128 s (fun b=>.d (.v (.bool b))) (iC (bc s) c i)):=by
 have hle:bp (bc s) i≤s.size:=by have:=cZ (l:=bc s) (i:=i) (by rw[bk];exact hi);rwa [bk] at this
 refine dH.dQ aX (n:=18) (rs:=[.tmp 4]) Tryz.func159 (by kernel_rfl) Z Tryz.ntmps159 Tryz.results159 Z (gx ..) fun C hC U=>?_;refine ba 1 Z ?_;iterate 2 refine ae ?_
 refine aa (pE Z (bG [0] [] Z Z Z Z Z ((la s i hi hs)) Z Z (by rfl) (by rfl) Z Z Z Z ?_));refine pE Z (ab (qs (be Z (fun I=>?_) (fun I=>?_))));·
  have q:bh (bc s) (bp (bc s) i)=44:=UInt8.toNat_inj.1 (by show _=44;simp at I;omega);have J:iC (bc s) c i=.ok true (bp (bc s) i+1):=by unfold iC;rw[if_pos q]
  refine ae (aa (aZ 4 Z ?_));refine pu (dP (ev aX Z) (y:=((bp (bc s) i+1:Nat):Int)) (wrap64 (by omega))) Z ?_;refine aZ 2 Z ?_;refine bl aX Z Z Z Z Z Z Z Z (ab (qs (ba 1 Z ?_)));refine W.ret (bo (dS (bQ (J)) ?_));refine ak aX [] trivial Z Z Z Z ?_ ?_;·exact⟨rfl,trivial⟩
  rfl
 have q:¬ bh (bc s) (bp (bc s) i)=44:=by intro q;rw[q] at I;simp at I
 have J:iC (bc s) c i=match cF (bc s) c (bp (bc s) i) with | .no a w=>.no a w | .ok _ j=>.ok false j:=by unfold iC;rw[if_neg q]
 refine ah (qs (ae (aa (aZ 2 Z ?_))))
 cases hc17:cF (bc s) c (bp (bc s) i) with
 | no M N=>
  refine dk [0] [] Z Z Z Z Z ((kq s c (bp (bc s) i) hs).gG (bO hc17)) Z Z (by rfl) (fun st'=>?_);repeat' refine cW ?_
  refine dr (bO (by rw[J,hc17]))
 | ok O i17=>
  refine bG [0] [] Z Z Z Z Z ((kq s c (bp (bc s) i) hs).ret (bQ hc17)) Z Z (by rfl) (by rfl) Z Z Z Z ?_;refine ab (qs (ba 1 Z ?_));refine W.ret (dS (bQ ((by rw[J,hc17]))) ?_);refine ak aX [] trivial Z Z Z Z ?_ ?_;·exact⟨rfl,trivial⟩
  rfl
def gT (l:List UInt8) (i:Nat):PE Nat:=match kz (bh l i) with | some n=>.ok n i | none=>.no i 10
theorem IK:∀ n:Fin 256,IntKind.u8.wrap (((BitVec.ofInt IntKind.u8.bits (n.val:Int)) ||| BitVec.ofInt IntKind.u8.bits 32).toNat:Int)=(((UInt8.ofNat n.val) ||| 32).toNat:Int):=by decide +kernel
theorem DR (b:UInt8):IntKind.u8.wrap (((BitVec.ofInt IntKind.u8.bits (b.toNat:Int)) ||| BitVec.ofInt IntKind.u8.bits 32).toNat:Int)=((b ||| 32).toNat:Int):=by have h:=IK ⟨b.toNat,b.toNat_lt⟩;rw[h];simp
theorem oS (s:ByteArray) (i:Nat):dH Tryz.prog 176 [.ptr 0 0] [fG s i] 0 (iz 128 s (fun n:Nat=>.d (.v (.int .i64 (n:Int)))) (gT (bc s) i)):=by
 have O:(bh (bc s) i).toNat < 256:=(bh (bc s) i).toNat_lt;have N:(bh (bc s) i ||| 32).toNat < 256:=(bh (bc s) i ||| 32).toNat_lt;refine dH.dQ aX (n:=35) (rs:=[.tmp 2]) Tryz.func176 (by kernel_rfl) Z Tryz.ntmps176 Tryz.results176 Z (gx ..) fun C hC U=>?_;refine ba 1 Z ?_;iterate 2 refine ae ?_
 refine aa (pE Z (bG [0] [] Z Z Z Z Z ((iP s i)) Z Z (by rfl) (by rfl) Z Z Z Z ?_));refine pE Z (ab (qs (W.block (ae ?_))));apply bL;(case hb=>rfl);·repeat' first | refine cc Z Z Z | refine bH Z Z ?_ | refine bC Z Z Z Z ?_ | refine pE Z ?_ | refine ab ?_ | (apply b8;(case hj=>rfl);(case hl=>rfl))
 refine qs (be Z (fun M=>?_) (fun M=>?_));·
  have q:48≤(bh (bc s) i).toNat∧(bh (bc s) i).toNat≤57:=by revert M;simp;omega
  have I:gT (bc s) i=.ok ((bh (bc s) i).toNat - 48) i:=by unfold gT kz;rw[if_pos q]
  refine ae (aa (pE Z (pu (dP (ev aX Z) (y:=(((bh (bc s) i).toNat - 48:Nat):Int)) (Eq.trans (wrap_u8 (by omega)) (by omega))) Z ?_)));refine pu (dP (ev aX Z) (y:=(((bh (bc s) i).toNat - 48:Nat):Int)) (wrap64 (by omega))) Z ?_;refine pE Z (ab (qs (W.ret (bz (bo (dS (bQ (I)) ?_))))));refine ak aX [] trivial Z Z Z Z ?_ ?_;·exact⟨rfl,trivial⟩
  rfl
 have q:¬ (48≤(bh (bc s) i).toNat∧(bh (bc s) i).toNat≤57):=by revert M;simp;omega
 refine ae ?_;apply bL;(case hb=>rfl);·
  refine pE Z (pu (dP (ev aX Z) (DR (bh (bc s) i))) Z ?_);refine aZ 2 Z ?_;apply b8;(case hj=>rfl);(case hl=>rfl);·
   refine bH Z Z (pE Z (bH Z Z (pu (dP (ev aX Z) (DR (bh (bc s) i))) Z ?_)));refine bH Z Z (aZ 3 Z ?_);refine ab (cc Z Z Z)
  iterate 3 refine bC Z Z Z Z ?_
  refine aZ 2 Z ?_;refine ab (cc Z Z Z)
 refine qs (be Z (fun J=>?_) (fun J=>?_));·
  have q2:97≤(bh (bc s) i ||| 32).toNat∧(bh (bc s) i ||| 32).toNat≤102:=by revert J;simp only[Bool.cond_false_right,Bool.and_eq_true,decide_eq_true_eq];omega
  have I:gT (bc s) i=.ok ((bh (bc s) i ||| 32).toNat - 97+10) i:=by unfold gT kz;rw[if_neg q,if_pos q2]
  refine ae (aa (pE Z (pu (dP (ev aX Z) (DR (bh (bc s) i))) Z ?_)));refine pu (dP (ev aX Z) (y:=(((bh (bc s) i ||| 32).toNat - 97:Nat):Int)) (Eq.trans (wrap_u8 (by omega)) (by omega))) Z ?_;refine pu (dP (ev aX Z) (y:=(((bh (bc s) i ||| 32).toNat - 97:Nat):Int)) (wrap64 (by omega))) Z ?_;refine pu (dP (ev aX Z) (y:=(((bh (bc s) i ||| 32).toNat - 97+10:Nat):Int)) (Eq.trans (wrap64 (by omega)) (by omega))) Z ?_;refine pE Z (ab (qs (W.ret (bz (bo (dS (bQ (I)) ?_))))));refine ak aX [] trivial Z Z Z Z ?_ ?_;·exact⟨rfl,trivial⟩
  rfl
 have q2:¬ (97≤(bh (bc s) i ||| 32).toNat∧(bh (bc s) i ||| 32).toNat≤102):=by revert J;simp only[Bool.cond_false_right,Bool.and_eq_false_iff,decide_eq_false_iff_not];omega
 have I:gT (bc s) i=.no i 10:=by unfold gT kz;rw[if_neg q,if_neg q2]
 refine ah (ca (qs (ae (aa (aZ 4 Z ?_)))));refine dk [] [] Z Z Z Z Z (dL i 10) Z Z (by rfl) (fun st'=>?_);repeat' refine cW ?_
 exact dr (bO I)
def AK (l:List UInt8) (i:Nat):PE UInt8:=match du l [117,48,48] i with
 | .no a w=>.no a w
 | .ok _ j=>match gT l j with
  | .no a w=>.no a w
  | .ok high j1=>if high=1∨7 < high then .no j1 10 else match gT l (j1+1) with
   | .no a w=>.no a w
   | .ok low j2=>if known (UInt8.ofNat (16*high+low))=false then .no j2 10 else .ok (UInt8.ofNat (16*high+low)) (j2+1)
theorem jY {c:UInt8} {n:Nat} (I:n < 256) (h:(c.toNat:Int)=(n:Int)):c=UInt8.ofNat n:=UInt8.toNat_inj.1 (by rw[UInt8.toNat_ofNat_of_lt' I];omega)
theorem sB {l:List UInt8} {i:Nat} (h:((bh l i).toNat:Int)=34∨((bh l i).toNat:Int)=92∨((bh l i).toNat:Int)=47):fc l i=.ok (bh l i) (i+1):=by
 unfold fc;rw[if_pos];rcases h with h | h | h
 ·exact .inl (jY (n:=34) (by decide) h)
 ·exact .inr (.inl (jY (n:=92) (by decide) h))
 exact .inr (.inr (jY (n:=47) (by decide) h))
theorem Iy {l:List UInt8} {i:Nat} (h:((bh l i).toNat:Int)=110):fc l i=.ok 10 (i+1):=by have e:=jY (n:=110) (by decide) h;unfold fc;rw[e];rfl
theorem IL {l:List UInt8} {i:Nat} (h:((bh l i).toNat:Int)=116):fc l i=.ok 9 (i+1):=by have e:=jY (n:=116) (by decide) h;unfold fc;rw[e];rfl
theorem DX {l:List UInt8} {i:Nat} (h1:¬ ((bh l i).toNat:Int)=34) (h2:¬ ((bh l i).toNat:Int)=92) (h3:¬ ((bh l i).toNat:Int)=47) (h4:¬ ((bh l i).toNat:Int)=110) (h5:¬ ((bh l i).toNat:Int)=116):fc l i=AK l i:=by
 unfold fc AK gT;rw[if_neg (by rintro(e | e | e) <;> rw[e] at h1 h2 h3 <;> simp at h1 h2 h3),if_neg (by intro e;rw[e] at h4;simp at h4),if_neg (by intro e;rw[e] at h5;simp at h5)]
 cases du l [117,48,48] i with
 | no a w=>rfl
 | ok y j=>
  simp only
  cases kz (bh l j) with
  | none=>rfl
  | some high=>
   simp only;by_cases q:high=1∨7 < high;·rw[if_pos q,if_pos q]
   rw[if_neg q,if_neg q]
   cases kz (bh l (j+1)) with
   | none=>rfl
   | some low=>rfl
theorem xR {l:List UInt8} {i n j:Nat} (h:gT l i=.ok n j):j=i∧n < 16:=by
 unfold gT at h
 cases I:kz (bh l i) with
 | none=>rw[I] at h;cases h
 | some m=>
  rw[I] at h;cases h;refine⟨rfl,?_⟩;unfold kz at I;split at I;·cases I;omega
  split at I;·cases I;omega
  cases I
theorem Ho {n:Nat} (h:n < 256):((UInt8.ofNat n).toNat:Int)=(n:Int):=by rw[UInt8.toNat_ofNat_of_lt' h]
theorem wE (s:ByteArray) (i:Nat) (hi:i≤s.size) (hs:s.size≤1000000000):dH Tryz.prog 158 [.ptr 0 0] [fG s i] 0 (iz 128 s (fun c:UInt8=>.d (.v (.int .u8 c.toNat))) (fc (bc s) i)):=by
 have X:=mF (l:=bc s) (x:=[117,48,48]) (i:=i) (by rw[bk];exact hi);refine dH.dQ aX (n:=83) (rs:=[.tmp 2]) Tryz.func158 (by kernel_rfl) Z Tryz.ntmps158 Tryz.results158 Z (gx ..) fun C hC hG=>?_;refine ba 1 Z ?_;refine ae (aa (pE Z (bG [0] [] Z Z Z Z Z ((iP s i)) Z Z (by rfl) (by rfl) Z Z Z Z ?_)));refine pE Z (ab (qs (ae (ba 1 Z ?_))));refine W.block (ae (ba 2 Z ?_));refine be Z (fun M=>?_) (fun M=>?_);·
  have I:fc (bc s) i=.ok (bh (bc s) i) (i+1):=sB (by have:=of_decide_eq_true M;omega);refine ah (qs (W.js Z (ae (aa (aZ 4 Z ?_)))));refine pu (dP (ev aX Z) (y:=((i+1:Nat):Int)) (wrap64 (by omega))) Z ?_;refine aZ 2 Z ?_;refine bl aX Z Z Z Z Z Z Z Z (ab (qs (ba 2 Z ?_)));refine W.ret (bz (bo (dS (bQ (I)) ?_)));refine ak aX [] trivial Z Z Z Z ?_ ?_;·exact⟨rfl,trivial⟩
  rfl
 refine ba 2 Z ?_;refine be Z (fun M=>?_) (fun M=>?_);·
  have I:fc (bc s) i=.ok (bh (bc s) i) (i+1):=sB (by have:=of_decide_eq_true M;omega);refine ah (qs (W.js Z (ae (aa (aZ 4 Z ?_)))));refine pu (dP (ev aX Z) (y:=((i+1:Nat):Int)) (wrap64 (by omega))) Z ?_;refine aZ 2 Z ?_;refine bl aX Z Z Z Z Z Z Z Z (ab (qs (ba 2 Z ?_)));refine W.ret (bz (bo (dS (bQ (I)) ?_)));refine ak aX [] trivial Z Z Z Z ?_ ?_;·exact⟨rfl,trivial⟩
  rfl
 refine cQ 2 Z ?_;refine qs (be Z (fun M=>?_) (fun M=>?_));·
  have I:fc (bc s) i=.ok (bh (bc s) i) (i+1):=sB (by have:=of_decide_eq_true M;omega);refine ae (aa (aZ 4 Z ?_));refine pu (dP (ev aX Z) (y:=((i+1:Nat):Int)) (wrap64 (by omega))) Z ?_;refine aZ 2 Z ?_;refine bl aX Z Z Z Z Z Z Z Z (ab (qs (ba 2 Z ?_)));refine W.ret (bz (bo (dS (bQ (I)) ?_)));refine ak aX [] trivial Z Z Z Z ?_ ?_;·exact⟨rfl,trivial⟩
  rfl
 refine ba 2 Z ?_;refine be Z (fun ad=>?_) (fun ad=>?_);·
  have I:fc (bc s) i=.ok 10 (i+1):=Iy (of_decide_eq_true ad);refine ae (aa (aZ 4 Z ?_));refine pu (dP (ev aX Z) (y:=((i+1:Nat):Int)) (wrap64 (by omega))) Z ?_;refine aZ 2 Z ?_;refine bl aX Z Z Z Z Z Z Z Z (ab (qs (ba 1 Z ?_)));refine W.ret (bz (bo (dS (bQ (I)) ?_)));refine ak aX [] trivial Z Z Z Z ?_ ?_;·exact⟨rfl,trivial⟩
  rfl
 refine ba 2 Z ?_;refine be Z (fun ai=>?_) (fun ai=>?_);·
  have I:fc (bc s) i=.ok 9 (i+1):=IL (of_decide_eq_true ai);refine ae (aa (aZ 4 Z ?_));refine pu (dP (ev aX Z) (y:=((i+1:Nat):Int)) (wrap64 (by omega))) Z ?_;refine aZ 2 Z ?_;refine bl aX Z Z Z Z Z Z Z Z (ab (qs (ba 1 Z ?_)));refine W.ret (bz (bo (dS (bQ (I)) ?_)));refine ak aX [] trivial Z Z Z Z ?_ ?_;·exact⟨rfl,trivial⟩
  rfl
 have I:fc (bc s) i=AK (bc s) i:=DX (by simp_all) (by simp_all) (by simp_all) (by simp_all) (by simp_all);unfold AK at I;refine ah (ca (qs (ae (aa (pE Z ?_)))))
 cases hc40:du (bc s) [117,48,48] i with
 | no a40 aj=>
  refine dk [0] [] Z Z Z Z Z ((ki s (B #[117,48,48]) i hs).gG (bO hc40)) Z Z (by rfl) (fun st'=>?_);repeat' refine cW ?_
  refine dr (bO (by rw[I,hc40]))
 | ok a1 i40=>
  refine bG [0] [] Z Z Z Z Z ((ki s (B #[117,48,48]) i hs).ret (bQ hc40)) Z Z (by rfl) (by rfl) Z Z Z Z ?_;rw[hc40] at I X;rw[bk] at X;simp only at I;refine ab (qs (ae (aa (pE Z ?_))))
  cases hc42:gT (bc s) i40 with
  | no a6 a7=>
   refine dk [0] [] Z Z Z Z Z ((oS s i40).gG (bO hc42)) Z Z (by rfl) (fun st'=>?_);repeat' refine cW ?_
   refine dr (bO (by rw[I,hc42]))
  | ok J i42=>
   refine bG [0] [] Z Z Z Z Z ((oS s i40).ret (bQ hc42)) Z Z (by rfl) (by rfl) Z Z Z Z ?_;rw[hc42] at I;simp only at I;obtain⟨a8,b0⟩:=xR hc42;refine pE Z (ab (qs ?_));iterate 2 refine ae ?_
   apply bL;(case hb=>rfl);·repeat' first | refine cc Z Z Z | refine bH Z Z ?_ | refine bC Z Z Z Z ?_ | refine pE Z ?_ | refine ab ?_ | (apply b8;(case hj=>rfl);(case hl=>rfl))
   refine qs (be Z (fun O=>?_) (fun O=>?_));·
    have q:J=1∨7 < J:=by revert O;simp;omega
    rw[if_pos q] at I;refine aa (aZ 4 Z ?_);refine dk [] [] Z Z Z Z Z (dL i42 10) Z Z (by rfl) (fun st'=>?_);repeat' refine cW ?_
    exact dr (bO I)
   have q:¬ (J=1∨7 < J):=by revert O;simp;omega
   rw[if_neg q] at I;refine ah (qs (ae (aa (aZ 4 Z ?_))));refine pu (dP (ev aX Z) (y:=((i42+1:Nat):Int)) (wrap64 (by omega))) Z ?_;refine aZ 2 Z ?_;refine bl aX Z Z Z Z Z Z Z Z (ab (qs (ae (aa (pE Z (pu (dP (ev aX Z) (y:=((16*J:Nat):Int)) (Eq.trans (wrap64 (by omega)) (by omega))) Z ?_))))));refine pE Z ?_
   cases hc64:gT (bc s) (i42+1) with
   | no b2 b3=>
    refine dk [0] [] Z Z Z Z Z ((oS s (i42+1)).gG (bO hc64)) Z Z (by rfl) (fun st'=>?_);repeat' refine cW ?_
    refine dr (bO (by rw[I,hc64]))
   | ok N i64=>
    refine bG [0] [] Z Z Z Z Z ((oS s (i42+1)).ret (bQ hc64)) Z Z (by rfl) (by rfl) Z Z Z Z ?_;rw[hc64] at I;simp only at I;obtain⟨b4,b5⟩:=xR hc64;refine pu (dP (ev aX Z) (y:=((16*J+N:Nat):Int)) (Eq.trans (wrap64 (by omega)) (by omega))) Z ?_;refine pu (dP (ev aX Z) (y:=((UInt8.ofNat (16*J+N)).toNat:Int)) (Eq.trans (wrap_u8 (by omega)) (Ho (by omega)).symm)) Z ?_;refine pE Z (ab (qs ?_));iterate 2 refine ae ?_
    refine aa (pE Z (pu (bm Z Z Z (yJ (UInt8.ofNat (16*J+N))) Z) Z ?_));refine pE Z (ab (qs (be Z (fun U=>?_) (fun U=>?_))));·
     have q2:known (UInt8.ofNat (16*J+N))=false:=by simpa using U
     rw[if_pos q2] at I;refine aa (aZ 4 Z ?_);refine dk [] [] Z Z Z Z Z (dL i64 10) Z Z (by rfl) (fun st'=>?_);repeat' refine cW ?_
     exact dr (bO I)
    have q2:¬ known (UInt8.ofNat (16*J+N))=false:=by simpa using U
    rw[if_neg q2] at I;refine ah (qs (ae (aa (aZ 4 Z ?_))));refine pu (dP (ev aX Z) (y:=((i64+1:Nat):Int)) (wrap64 (by omega))) Z ?_;refine aZ 2 Z ?_;refine bl aX Z Z Z Z Z Z Z Z (ab (qs (ba 2 Z ?_)));refine W.ret (dS (bQ (I)) ?_);refine ak aX [] trivial Z Z Z Z ?_ ?_;·exact⟨rfl,trivial⟩
    rfl
def jU (l:List UInt8) (i j:Nat):ByteArray:=⟨((l.drop i).take (j - i)).toArray⟩
def iL (l:List UInt8) (i j:Nat) (u:ByteArray):PE JV:=if (gV u).2=true then .ok (.mk 3 (gV u).1 (B #[]) [] []) j else .no i 2
def lV (l:List UInt8) (i i1 j:Nat):PE JV:=if j=i1 then .no i1 10 else iL l i j (if jU l i j=B #[45,48] then B #[48] else jU l i j)
theorem Gg {l:List UInt8} {i:Nat} (h:bh l i=45):eK l i=lV l i (i+1) (cA l (i+1)):=by unfold eK lV iL jU;rw[if_pos h]
theorem Fo {l:List UInt8} {i:Nat} (h:¬ bh l i=45):eK l i=lV l i i (cA l i):=by unfold eK lV iL jU;rw[if_neg h]
theorem l7 (s:ByteArray) (i j:Nat):s.extract i j=jU (bc s) i j:=by refine kn ?_;show bc _=_;rw[Go.Tb.yX];unfold jU;simp[List.drop_take]
theorem rz (b:UInt8):eH b=true↔48≤b.toNat∧b.toNat≤57:=by unfold eH;simp
theorem vR {l:List UInt8} {k j:Nat} (h:eH (bh l j)=false):iW l k j=j:=by cases k <;> simp[iW,h]
theorem vK {l:List UInt8} {j:Nat} (hj:j < l.length) (h:eH (bh l j)=true):iW l (l.length - j) j=iW l (l.length - (j+1)) (j+1):=by rw[show l.length - j=(l.length - (j+1))+1 by omega,iW,if_pos ⟨hj,h⟩]
theorem Bc (s:ByteArray) (i:Nat) (hi:i≤s.size) (hs:s.size≤1000000000) (hm:bh (bc s) i=45):dH Tryz.prog 118 [.ptr 0 0] [fG s i] 0 (iz 128 s (fun v:JV=>.ag v.c) (eK (bc s) i)):=by
 have X:=Gg (l:=bc s) (i:=i) hm;have a7:i < s.size:=by have:=de (l:=bc s) (i:=i) (by rw[hm];decide);rwa [bk] at this
 have a8:=pO (l:=bc s) (i:=i+1) (by rw[bk];omega);rw[bk] at a8;refine dH.dQ aX (n:=85) (rs:=[.cell 2 46]) Tryz.func118 (by kernel_rfl) Z Tryz.ntmps118 Tryz.results118 Z (gx ..) fun C hC hG=>?_;refine ae (aa (bK aX Z Z Z (ab (qs (ba 5 Z ?_)))));iterate 2 refine ae ?_
 refine aa (pE Z (bG [0] [] Z Z Z Z Z ((iP s i)) Z Z (by rfl) (by rfl) Z Z Z Z ?_));refine pE Z (ab (qs (be Z (fun ai=>?_) (fun ai=>?_))));·
  refine aa (aZ 4 Z ?_);refine pu (dP (ev aX Z) (y:=((i+1:Nat):Int)) (wrap64 (by omega))) Z ?_;refine aZ 2 Z ?_;refine bl aX Z Z Z Z Z Z Z Z (ab (qs (ba 5 Z ?_)));iterate 2 refine ae ?_
  refine aa (pE Z (bG [0] [] Z Z Z Z Z ((iP s (i+1))) Z Z (by rfl) (by rfl) Z Z Z Z ?_));refine pE Z (ab (qs (W.block ?_)))
  refine W.b7 (ι:={x:Nat // match x with | j=>(i+1)≤j∧j≤s.size∧(j=(i+1)∨bh (bc s) (i+1)≠48)∧(bh (bc s) (i+1)≠48→iW (bc s) ((bc s).length - j) j=iW (bc s) ((bc s).length - (i+1)) (i+1))})
   (fun x=>match x.1 with | j=>[(0,.ptr 0 0),(2,.ptr 1 0),(5,.d (.v (.int .u8 (bh (bc s) j).toNat)))]) [(3,_),(4,_)]
   (fun x=>match x.1 with | j=>[(0,[.d (cs s),.d (.v (.int .i64 (j:Int)))])]) [(1,_)] [] 2 (fun x=>match x.1 with | j=>s.size - j)
   [0,1] ⟨(i+1),?_⟩ Z ?_ ⟨rfl,rfl,rfl,rfl,trivial⟩ ?_ ⟨rfl,rfl,trivial⟩ Z ?_
  ·exact⟨Nat.le_refl _,a7,.inl Z,fun _=>rfl⟩
  ·repeat' constructor
  ·repeat' constructor
  rintro⟨j,b3,b4,a1,a6⟩;show W _ _ _ _ _ ⟨[(0,.ptr 0 0),(2,.ptr 1 0),(5,.d (.v (.int .u8 (bh (bc s) j).toNat))),(3,_),(4,_)],[(0,[.d (cs s),.d (.v (.int .i64 (j:Int)))]),(1,_)],[],2⟩;iterate 2 refine ae ?_
  apply bL;(case hb=>rfl);·
   refine aZ 3 Z ?_;apply fI;(case hj=>rfl);(case hl=>rfl);·
    intro b0;refine bH Z Z (pE Z (bH Z Z (aZ 2 Z ?_)));refine ab (cc Z Z Z)
   intro b0;iterate 2 refine bC Z Z Z Z ?_
   refine pE Z (ab (cc Z Z Z))
  refine qs (be Z (fun aj=>?_) (fun aj=>?_));·
   have hd:eH (bh (bc s) j)=true:=by rw[rz];revert aj;simp;omega
   have b2:j < s.size:=by have:=de (l:=bc s) (i:=j) (by intro q;rw[q] at hd;exact absurd hd (by decide));rwa [bk] at this
   refine ah (qs (ae (W.block (ae (aa (aZ 4 Z ?_))))));refine pu (dP (ev aX Z) (y:=((j+1:Nat):Int)) (wrap64 (by omega))) Z ?_;refine aZ 2 Z ?_;refine bl aX Z Z Z Z Z Z Z Z (ab (qs (ae (aa (aZ 5 Z ?_)))));refine pu (eU aX Z Z Z Z (Int.natCast_nonneg _) (iG (oz (s:=s) (i:=(i+1)) (by omega)))) Z ?_;refine pE Z (ab (qs (be Z (fun ad=>?_) (fun ad=>?_))));·
    have N:bh (bc s) (i+1)=48:=jY (n:=48) (by decide) (of_decide_eq_true ad);have hE:j+1=cA (bc s) (i+1):=by
     unfold cA;rw[if_pos N];rcases a1 with e | e
     ·rw[e]
     exact absurd N e
    rw[hE];refine an (zL Z ?_);refine bT (bR (bP (qs (ae (ba 6 Z ?_)))));refine be Z (fun O=>?_) (fun O=>?_);·
     have q:cA (bc s) (i+1)=(i+1):=by have:=of_decide_eq_true O;omega
     have M:eK (bc s) i=.no (cA (bc s) (i+1)) 10:=by rw[X];unfold lV;rw[if_pos q,q]
     refine aa (aZ 4 Z ?_);refine dk [] [] Z Z Z Z Z (dL (cA (bc s) (i+1)) 10) Z Z (by rfl) (fun st'=>?_);repeat' refine cW ?_
     exact dr (bO M)
    have q:¬ cA (bc s) (i+1)=(i+1):=by have:=of_decide_eq_false O;omega
    unfold lV at X;rw[if_neg q] at X;refine ah (qs (ae (W.fC aX (by kernel_rfl) ?_)));iterate 3 refine bF (ev aX Z) Z ?_
    refine bF (ev aX Z) Z ?_;iterate 4 refine bF (ev aX Z) Z ?_
    refine bF (ev aX Z) Z ?_;refine bF (E6 (rK (l:=(i:Int)) (h:=((cA (bc s) (i+1):Nat):Int)) aX Z Z Z Z Z (by omega) (by omega) (by omega)) (show _=jU (bc s) i (cA (bc s) (i+1)) from l7 s i _)) Z ?_;refine bF (ev aX Z) Z ?_;refine aq ?_;refine qs (ae (ba 2 Z ?_));refine be Z (fun U=>?_) (fun U=>?_);·
     have M:=X;rw[if_pos (of_decide_eq_true U)] at M;refine cQ 1 Z ?_;refine qs (ae (aa (pE Z (pu (bm Z Z Z (ir _ (by first | (rw[show(B #[48]).size=1 from rfl];omega) | (rw[←l7,ByteArray.size_extract];omega))) Z) Z ?_))));refine aZ 5 Z ?_;refine ab (qs (ae (ba 2 Z ?_)));refine be Z (fun J=>?_) (fun J=>?_);·
      have I:eK (bc s) i=.no i 2:=by rw[M];unfold iL;rw[if_neg (by simpa using J)]
      refine aa (pE Z (dk [] [] Z Z Z Z Z (dL i 2) Z Z (by rfl) (fun st'=>?_)));repeat' refine cW ?_
      exact dr (bO I)
     have I:=M;unfold iL at I;rw[if_pos (by simpa using J)] at I;refine ah (qs (ae (aa (pE Z (pu (build aX Z Z Z Z) Z ?_)))));try refine iy 84 Z Z Z ?_
     refine bl aX Z Z Z Z Z Z Z Z (ab (qs (W.ret (dS (bQ (I)) ?_))));refine ak aX [] trivial Z Z Z Z ?_ ?_;·exact⟨rfl,trivial⟩
     rfl
    have M:=X;rw[if_neg (of_decide_eq_false U)] at M;refine ah (qs (ae (aa (pE Z (pu (bm Z Z Z (ir _ (by first | (rw[show(B #[48]).size=1 from rfl];omega) | (rw[←l7,ByteArray.size_extract];omega))) Z) Z ?_)))));refine aZ 5 Z ?_;refine ab (qs (ae (ba 2 Z ?_)));refine be Z (fun J=>?_) (fun J=>?_);·
     have I:eK (bc s) i=.no i 2:=by rw[M];unfold iL;rw[if_neg (by simpa using J)]
     refine aa (pE Z (dk [] [] Z Z Z Z Z (dL i 2) Z Z (by rfl) (fun st'=>?_)));repeat' refine cW ?_
     exact dr (bO I)
    have I:=M;unfold iL at I;rw[if_pos (by simpa using J)] at I;refine ah (qs (ae (aa (pE Z (pu (build aX Z Z Z Z) Z ?_)))));try refine iy 84 Z Z Z ?_
    refine bl aX Z Z Z Z Z Z Z Z (ab (qs (W.ret (dS (bQ (I)) ?_))));refine ak aX [] trivial Z Z Z Z ?_ ?_;·exact⟨rfl,trivial⟩
    rfl
   have N:bh (bc s) (i+1)≠48:=by intro q;rw[q] at ad;simp at ad
   refine ah (ca (qs (aa (pE Z (bG [0] [] Z Z Z Z Z ((iP s (j+1))) Z Z (by rfl) (by rfl) Z Z Z Z ?_)))));refine pE Z (ab (W.cr [0,1] ⟨j+1,?_⟩ ?_ Z ?_ ⟨rfl,rfl,rfl,rfl,trivial⟩ ?_ ⟨rfl,rfl,trivial⟩ Z));·exact⟨by omega,by omega,.inr N,fun q=>by rw[←a6 q,vK (by rw[bk];exact b2) hd]⟩
   ·dsimp only;omega
   ·repeat' constructor
   repeat' constructor
  have hd:eH (bh (bc s) j)=false:=by
   cases q:eH (bh (bc s) j) with
   | false=>rfl
   | true=>rw[rz] at q;revert aj;simp;omega
  have N:bh (bc s) (i+1)≠48:=by
   rcases a1 with e | e
   ·rw[←e];intro q;rw[q] at hd;exact absurd hd (by decide)
   exact e
  have hE:cA (bc s) (i+1)=j:=by unfold cA;rw[if_neg N,←a6 N,vR hd]
  subst hE;refine an (bT (bR (bP (qs (ae (ba 6 Z ?_))))));refine be Z (fun O=>?_) (fun O=>?_);·
   have q:cA (bc s) (i+1)=(i+1):=by have:=of_decide_eq_true O;omega
   have M:eK (bc s) i=.no (cA (bc s) (i+1)) 10:=by rw[X];unfold lV;rw[if_pos q,q]
   refine aa (aZ 4 Z ?_);refine dk [] [] Z Z Z Z Z (dL (cA (bc s) (i+1)) 10) Z Z (by rfl) (fun st'=>?_);repeat' refine cW ?_
   exact dr (bO M)
  have q:¬ cA (bc s) (i+1)=(i+1):=by have:=of_decide_eq_false O;omega
  unfold lV at X;rw[if_neg q] at X;refine ah (qs (ae (W.fC aX (by kernel_rfl) ?_)));iterate 3 refine bF (ev aX Z) Z ?_
  refine bF (ev aX Z) Z ?_;iterate 4 refine bF (ev aX Z) Z ?_
  refine bF (ev aX Z) Z ?_;refine bF (E6 (rK (l:=(i:Int)) (h:=((cA (bc s) (i+1):Nat):Int)) aX Z Z Z Z Z (by omega) (by omega) (by omega)) (show _=jU (bc s) i (cA (bc s) (i+1)) from l7 s i _)) Z ?_;refine bF (ev aX Z) Z ?_;refine aq ?_;refine qs (ae (ba 2 Z ?_));refine be Z (fun U=>?_) (fun U=>?_);·
   have M:=X;rw[if_pos (of_decide_eq_true U)] at M;refine cQ 1 Z ?_;refine qs (ae (aa (pE Z (pu (bm Z Z Z (ir _ (by first | (rw[show(B #[48]).size=1 from rfl];omega) | (rw[←l7,ByteArray.size_extract];omega))) Z) Z ?_))));refine aZ 5 Z ?_;refine ab (qs (ae (ba 2 Z ?_)));refine be Z (fun J=>?_) (fun J=>?_);·
    have I:eK (bc s) i=.no i 2:=by rw[M];unfold iL;rw[if_neg (by simpa using J)]
    refine aa (pE Z (dk [] [] Z Z Z Z Z (dL i 2) Z Z (by rfl) (fun st'=>?_)));repeat' refine cW ?_
    exact dr (bO I)
   have I:=M;unfold iL at I;rw[if_pos (by simpa using J)] at I;refine ah (qs (ae (aa (pE Z (pu (build aX Z Z Z Z) Z ?_)))));try refine iy 84 Z Z Z ?_
   refine bl aX Z Z Z Z Z Z Z Z (ab (qs (W.ret (dS (bQ (I)) ?_))));refine ak aX [] trivial Z Z Z Z ?_ ?_;·exact⟨rfl,trivial⟩
   rfl
  have M:=X;rw[if_neg (of_decide_eq_false U)] at M;refine ah (qs (ae (aa (pE Z (pu (bm Z Z Z (ir _ (by first | (rw[show(B #[48]).size=1 from rfl];omega) | (rw[←l7,ByteArray.size_extract];omega))) Z) Z ?_)))));refine aZ 5 Z ?_;refine ab (qs (ae (ba 2 Z ?_)));refine be Z (fun J=>?_) (fun J=>?_);·
   have I:eK (bc s) i=.no i 2:=by rw[M];unfold iL;rw[if_neg (by simpa using J)]
   refine aa (pE Z (dk [] [] Z Z Z Z Z (dL i 2) Z Z (by rfl) (fun st'=>?_)));repeat' refine cW ?_
   exact dr (bO I)
  have I:=M;unfold iL at I;rw[if_pos (by simpa using J)] at I;refine ah (qs (ae (aa (pE Z (pu (build aX Z Z Z Z) Z ?_)))));try refine iy 84 Z Z Z ?_
  refine bl aX Z Z Z Z Z Z Z Z (ab (qs (W.ret (dS (bQ (I)) ?_))));refine ak aX [] trivial Z Z Z Z ?_ ?_;·exact⟨rfl,trivial⟩
  rfl
 exfalso;rw[hm] at ai;simp at ai
theorem Bb (s:ByteArray) (i:Nat) (hi:i≤s.size) (hs:s.size≤1000000000) (hm:¬ bh (bc s) i=45):dH Tryz.prog 118 [.ptr 0 0] [fG s i] 0 (iz 128 s (fun v:JV=>.ag v.c) (eK (bc s) i)):=by
 have X:=Fo (l:=bc s) (i:=i) hm;have a7:=pO (l:=bc s) (i:=i) (by rw[bk];omega);rw[bk] at a7;refine dH.dQ aX (n:=85) (rs:=[.cell 2 46]) Tryz.func118 (by kernel_rfl) Z Tryz.ntmps118 Tryz.results118 Z (gx ..) fun C hC hG=>?_;refine ae (aa (bK aX Z Z Z (ab (qs (ba 5 Z ?_)))));iterate 2 refine ae ?_
 refine aa (pE Z (bG [0] [] Z Z Z Z Z ((iP s i)) Z Z (by rfl) (by rfl) Z Z Z Z ?_));refine pE Z (ab (qs (be Z (fun aj=>?_) (fun aj=>?_))));·exfalso;exact hm (jY (n:=45) (by decide) (of_decide_eq_true aj))
 refine ah (qs (ba 5 Z ?_));iterate 2 refine ae ?_
 refine aa (pE Z (bG [0] [] Z Z Z Z Z ((iP s i)) Z Z (by rfl) (by rfl) Z Z Z Z ?_));refine pE Z (ab (qs (W.block ?_)))
 refine W.b7 (ι:={x:Nat // match x with | j=>i≤j∧j≤s.size∧(j=i∨bh (bc s) i≠48)∧(bh (bc s) i≠48→iW (bc s) ((bc s).length - j) j=iW (bc s) ((bc s).length - i) i)})
  (fun x=>match x.1 with | j=>[(0,.ptr 0 0),(2,.ptr 1 0),(5,.d (.v (.int .u8 (bh (bc s) j).toNat)))]) [(3,_),(4,_)]
  (fun x=>match x.1 with | j=>[(0,[.d (cs s),.d (.v (.int .i64 (j:Int)))])]) [(1,_)] [] 2 (fun x=>match x.1 with | j=>s.size - j)
  [0,1] ⟨i,?_⟩ Z ?_ ⟨rfl,rfl,rfl,rfl,trivial⟩ ?_ ⟨rfl,rfl,trivial⟩ Z ?_
 ·exact⟨Nat.le_refl _,hi,.inl Z,fun _=>rfl⟩
 ·repeat' constructor
 ·repeat' constructor
 rintro⟨j,b2,b3,a1,a6⟩;show W _ _ _ _ _ ⟨[(0,.ptr 0 0),(2,.ptr 1 0),(5,.d (.v (.int .u8 (bh (bc s) j).toNat))),(3,_),(4,_)],[(0,[.d (cs s),.d (.v (.int .i64 (j:Int)))]),(1,_)],[],2⟩;iterate 2 refine ae ?_
 apply bL;(case hb=>rfl);·
  refine aZ 3 Z ?_;apply fI;(case hj=>rfl);(case hl=>rfl);·
   intro a8;refine bH Z Z (pE Z (bH Z Z (aZ 2 Z ?_)));refine ab (cc Z Z Z)
  intro a8;iterate 2 refine bC Z Z Z Z ?_
  refine pE Z (ab (cc Z Z Z))
 refine qs (be Z (fun ai=>?_) (fun ai=>?_));·
  have hd:eH (bh (bc s) j)=true:=by rw[rz];revert ai;simp;omega
  have b0:j < s.size:=by have:=de (l:=bc s) (i:=j) (by intro q;rw[q] at hd;exact absurd hd (by decide));rwa [bk] at this
  refine ah (qs (ae (W.block (ae (aa (aZ 4 Z ?_))))));refine pu (dP (ev aX Z) (y:=((j+1:Nat):Int)) (wrap64 (by omega))) Z ?_;refine aZ 2 Z ?_;refine bl aX Z Z Z Z Z Z Z Z (ab (qs (ae (aa (aZ 5 Z ?_)))));refine pu (eU aX Z Z Z Z (Int.natCast_nonneg _) (iG (oz (s:=s) (i:=i) (by omega)))) Z ?_;refine pE Z (ab (qs (be Z (fun ad=>?_) (fun ad=>?_))));·
   have N:bh (bc s) i=48:=jY (n:=48) (by decide) (of_decide_eq_true ad);have hE:j+1=cA (bc s) i:=by
    unfold cA;rw[if_pos N];rcases a1 with e | e
    ·rw[e]
    exact absurd N e
   rw[hE];refine an (zL Z ?_);refine bT (bR (bP (qs (ae (ba 6 Z ?_)))));refine be Z (fun O=>?_) (fun O=>?_);·
    have q:cA (bc s) i=i:=by have:=of_decide_eq_true O;omega
    have M:eK (bc s) i=.no (cA (bc s) i) 10:=by rw[X];unfold lV;rw[if_pos q,q]
    refine aa (aZ 4 Z ?_);refine dk [] [] Z Z Z Z Z (dL (cA (bc s) i) 10) Z Z (by rfl) (fun st'=>?_);repeat' refine cW ?_
    exact dr (bO M)
   have q:¬ cA (bc s) i=i:=by have:=of_decide_eq_false O;omega
   unfold lV at X;rw[if_neg q] at X;refine ah (qs (ae (W.fC aX (by kernel_rfl) ?_)));iterate 3 refine bF (ev aX Z) Z ?_
   refine bF (ev aX Z) Z ?_;iterate 4 refine bF (ev aX Z) Z ?_
   refine bF (ev aX Z) Z ?_;refine bF (E6 (rK (l:=(i:Int)) (h:=((cA (bc s) i:Nat):Int)) aX Z Z Z Z Z (by omega) (by omega) (by omega)) (show _=jU (bc s) i (cA (bc s) i) from l7 s i _)) Z ?_;refine bF (ev aX Z) Z ?_;refine aq ?_;refine qs (ae (ba 2 Z ?_));refine be Z (fun U=>?_) (fun U=>?_);·
    have M:=X;rw[if_pos (of_decide_eq_true U)] at M;refine cQ 1 Z ?_;refine qs (ae (aa (pE Z (pu (bm Z Z Z (ir _ (by first | (rw[show(B #[48]).size=1 from rfl];omega) | (rw[←l7,ByteArray.size_extract];omega))) Z) Z ?_))));refine aZ 5 Z ?_;refine ab (qs (ae (ba 2 Z ?_)));refine be Z (fun J=>?_) (fun J=>?_);·
     have I:eK (bc s) i=.no i 2:=by rw[M];unfold iL;rw[if_neg (by simpa using J)]
     refine aa (pE Z (dk [] [] Z Z Z Z Z (dL i 2) Z Z (by rfl) (fun st'=>?_)));repeat' refine cW ?_
     exact dr (bO I)
    have I:=M;unfold iL at I;rw[if_pos (by simpa using J)] at I;refine ah (qs (ae (aa (pE Z (pu (build aX Z Z Z Z) Z ?_)))));try refine iy 84 Z Z Z ?_
    refine bl aX Z Z Z Z Z Z Z Z (ab (qs (W.ret (dS (bQ (I)) ?_))));refine ak aX [] trivial Z Z Z Z ?_ ?_;·exact⟨rfl,trivial⟩
    rfl
   have M:=X;rw[if_neg (of_decide_eq_false U)] at M;refine ah (qs (ae (aa (pE Z (pu (bm Z Z Z (ir _ (by first | (rw[show(B #[48]).size=1 from rfl];omega) | (rw[←l7,ByteArray.size_extract];omega))) Z) Z ?_)))));refine aZ 5 Z ?_;refine ab (qs (ae (ba 2 Z ?_)));refine be Z (fun J=>?_) (fun J=>?_);·
    have I:eK (bc s) i=.no i 2:=by rw[M];unfold iL;rw[if_neg (by simpa using J)]
    refine aa (pE Z (dk [] [] Z Z Z Z Z (dL i 2) Z Z (by rfl) (fun st'=>?_)));repeat' refine cW ?_
    exact dr (bO I)
   have I:=M;unfold iL at I;rw[if_pos (by simpa using J)] at I;refine ah (qs (ae (aa (pE Z (pu (build aX Z Z Z Z) Z ?_)))));try refine iy 84 Z Z Z ?_
   refine bl aX Z Z Z Z Z Z Z Z (ab (qs (W.ret (dS (bQ (I)) ?_))));refine ak aX [] trivial Z Z Z Z ?_ ?_;·exact⟨rfl,trivial⟩
   rfl
  have N:bh (bc s) i≠48:=by intro q;rw[q] at ad;simp at ad
  refine ah (ca (qs (aa (pE Z (bG [0] [] Z Z Z Z Z ((iP s (j+1))) Z Z (by rfl) (by rfl) Z Z Z Z ?_)))));refine pE Z (ab (W.cr [0,1] ⟨j+1,?_⟩ ?_ Z ?_ ⟨rfl,rfl,rfl,rfl,trivial⟩ ?_ ⟨rfl,rfl,trivial⟩ Z));·exact⟨by omega,by omega,.inr N,fun q=>by rw[←a6 q,vK (by rw[bk];exact b0) hd]⟩
  ·dsimp only;omega
  ·repeat' constructor
  repeat' constructor
 have hd:eH (bh (bc s) j)=false:=by
  cases q:eH (bh (bc s) j) with
  | false=>rfl
  | true=>rw[rz] at q;revert ai;simp;omega
 have N:bh (bc s) i≠48:=by
  rcases a1 with e | e
  ·rw[←e];intro q;rw[q] at hd;exact absurd hd (by decide)
  exact e
 have hE:cA (bc s) i=j:=by unfold cA;rw[if_neg N,←a6 N,vR hd]
 subst hE;refine an (bT (bR (bP (qs (ae (ba 6 Z ?_))))));refine be Z (fun O=>?_) (fun O=>?_);·
  have q:cA (bc s) i=i:=by have:=of_decide_eq_true O;omega
  have M:eK (bc s) i=.no (cA (bc s) i) 10:=by rw[X];unfold lV;rw[if_pos q,q]
  refine aa (aZ 4 Z ?_);refine dk [] [] Z Z Z Z Z (dL (cA (bc s) i) 10) Z Z (by rfl) (fun st'=>?_);repeat' refine cW ?_
  exact dr (bO M)
 have q:¬ cA (bc s) i=i:=by have:=of_decide_eq_false O;omega
 unfold lV at X;rw[if_neg q] at X;refine ah (qs (ae (W.fC aX (by kernel_rfl) ?_)));iterate 3 refine bF (ev aX Z) Z ?_
 refine bF (ev aX Z) Z ?_;iterate 4 refine bF (ev aX Z) Z ?_
 refine bF (ev aX Z) Z ?_;refine bF (E6 (rK (l:=(i:Int)) (h:=((cA (bc s) i:Nat):Int)) aX Z Z Z Z Z (by omega) (by omega) (by omega)) (show _=jU (bc s) i (cA (bc s) i) from l7 s i _)) Z ?_;refine bF (ev aX Z) Z ?_;refine aq ?_;refine qs (ae (ba 2 Z ?_));refine be Z (fun U=>?_) (fun U=>?_);·
  have M:=X;rw[if_pos (of_decide_eq_true U)] at M;refine cQ 1 Z ?_;refine qs (ae (aa (pE Z (pu (bm Z Z Z (ir _ (by first | (rw[show(B #[48]).size=1 from rfl];omega) | (rw[←l7,ByteArray.size_extract];omega))) Z) Z ?_))));refine aZ 5 Z ?_;refine ab (qs (ae (ba 2 Z ?_)));refine be Z (fun J=>?_) (fun J=>?_);·
   have I:eK (bc s) i=.no i 2:=by rw[M];unfold iL;rw[if_neg (by simpa using J)]
   refine aa (pE Z (dk [] [] Z Z Z Z Z (dL i 2) Z Z (by rfl) (fun st'=>?_)));repeat' refine cW ?_
   exact dr (bO I)
  have I:=M;unfold iL at I;rw[if_pos (by simpa using J)] at I;refine ah (qs (ae (aa (pE Z (pu (build aX Z Z Z Z) Z ?_)))));try refine iy 84 Z Z Z ?_
  refine bl aX Z Z Z Z Z Z Z Z (ab (qs (W.ret (dS (bQ (I)) ?_))));refine ak aX [] trivial Z Z Z Z ?_ ?_;·exact⟨rfl,trivial⟩
  rfl
 have M:=X;rw[if_neg (of_decide_eq_false U)] at M;refine ah (qs (ae (aa (pE Z (pu (bm Z Z Z (ir _ (by first | (rw[show(B #[48]).size=1 from rfl];omega) | (rw[←l7,ByteArray.size_extract];omega))) Z) Z ?_)))));refine aZ 5 Z ?_;refine ab (qs (ae (ba 2 Z ?_)));refine be Z (fun J=>?_) (fun J=>?_);·
  have I:eK (bc s) i=.no i 2:=by rw[M];unfold iL;rw[if_neg (by simpa using J)]
  refine aa (pE Z (dk [] [] Z Z Z Z Z (dL i 2) Z Z (by rfl) (fun st'=>?_)));repeat' refine cW ?_
  exact dr (bO I)
 have I:=M;unfold iL at I;rw[if_pos (by simpa using J)] at I;refine ah (qs (ae (aa (pE Z (pu (build aX Z Z Z Z) Z ?_)))));try refine iy 84 Z Z Z ?_
 refine bl aX Z Z Z Z Z Z Z Z (ab (qs (W.ret (dS (bQ (I)) ?_))));refine ak aX [] trivial Z Z Z Z ?_ ?_;·exact⟨rfl,trivial⟩
 rfl
theorem tu (s:ByteArray) (i:Nat) (hi:i≤s.size) (hs:s.size≤1000000000):dH Tryz.prog 118 [.ptr 0 0] [fG s i] 0 (iz 128 s (fun v:JV=>.ag v.c) (eK (bc s) i)):=by
 by_cases hm:bh (bc s) i=45;·exact Bc s i hi hs hm
 exact Bb s i hi hs hm
theorem Cp {l:List UInt8} {k i:Nat} {acc:List UInt8} (h1:¬ ((bh l i).toNat < 32∨126 < (bh l i).toNat)) (h2:bh l i≠34) (h3:bh l i≠92):dG l (k+1) i acc=dG l k (i+1) (acc++[bh l i]):=by rw[dG,if_neg h1,if_neg h2,if_neg h3]
theorem Dn {l:List UInt8} {k i:Nat} {acc:List UInt8} (h3:bh l i=92):dG l (k+1) i acc=match fc l (i+1) with | .no a w=>.no a w | .ok c j=>dG l k j (acc++[c]):=by rw[dG,h3];rfl
theorem EF {l:List UInt8} {k i:Nat} {acc:List UInt8} (h3:bh l i=34):dG l (k+1) i acc=.ok acc (i+1):=by rw[dG,h3];rfl
theorem FU {l:List UInt8} {k i:Nat} {acc:List UInt8} (h1:(bh l i).toNat < 32∨126 < (bh l i).toNat):dG l (k+1) i acc=.no i 10:=by rw[dG,if_pos h1]
theorem Ik (a:List UInt8) (b:UInt8):bytesOf a++bytesOf [b]=bytesOf (a++[b]):=kn (by show bc _=bc _;rw[jm,iQ,iQ])
theorem o9 (s:ByteArray) (i:Nat) (hi:i≤s.size) (hs:s.size≤1000000000):dH Tryz.prog 115 [.ptr 0 0] [fG s i] 0 (iz 128 s (fun t:List UInt8=>.d (.v (.string (bytesOf t)))) (ee (bc s) i)):=by
 refine dH.wX aX (n:=53) (rs:=[.tmp 2]) Tryz.func115 (by kernel_rfl) Z Tryz.ntmps115 Tryz.results115 Z (gx ..) fun C hC hG aj a1=>?_;refine ba 1 Z ?_;refine ae (aa (pE Z ?_))
 cases hc6:cF (bc s) 34 i with
 | no a6 w6=>
  refine dk [0] [] Z Z Z Z Z ((kq s 34 i hs).gG (bO hc6)) Z Z (by rfl) (fun st'=>?_);repeat' refine cW ?_
  refine dr (bO (by unfold ee;rw[hc6]))
 | ok y6 i6=>
  refine bG [0] [] Z Z Z Z Z ((kq s 34 i hs).ret (bQ hc6)) Z Z (by rfl) (by rfl) Z Z Z Z ?_;have hg:ee (bc s) i=dG (bc s) ((bc s).length+1 - i6) i6 []:=by unfold ee;rw[hc6]
  have U:=jf (l:=bc s) (c:=34) (i:=i) (by rw[bk];exact hi);rw[hc6] at U;refine ab (qs (ae (aa (Cb aX tU Z Z Z ?_))));refine ab (qs (W.block ?_))
  refine W.b7 (ι:={x:Nat×List UInt8×Bool // match x with | (j,acc,u)=>j≤s.size∧acc.length≤j∧∃ J,(bc s).length≤J+j∧dG (bc s) (J+1) j acc=ee (bc s) i})
   (fun x=>match x.1 with | (j,acc,u)=>[(0,.ptr 0 0),(3,.ptr 1 0)]) []
   (fun x=>match x.1 with | (j,acc,u)=>[(0,[.d (cs s),.d (.v (.int .i64 (j:Int)))]),(1,[.np 1 tB u,.bf 2 tU (bytesOf acc)])]) [] [2] 3 (fun x=>match x.1 with | (j,acc,u)=>s.size - j)
   [0,2,3] ⟨(i6,[],false),?_⟩ Z ?_ trivial ?_ trivial Z ?_
  ·exact⟨by have:=U.2;rwa [bk] at this,Nat.zero_le _,(bc s).length - i6,by omega,by rw[hg,show(bc s).length+1 - i6=(bc s).length - i6+1 by have:=U.2;omega]⟩
  ·repeat' constructor
  ·repeat' constructor
  rintro⟨⟨j,acc,u⟩,hj,ha,hX⟩;show W _ _ _ _ _ ⟨[(0,.ptr 0 0),(3,.ptr 1 0)],[(0,[.d (cs s),.d (.v (.int .i64 (j:Int)))]),(1,[.np 1 tB u,.bf 2 tU (bytesOf acc)])],[2],3⟩;refine W.block (ae ?_);obtain⟨J,ad,hI⟩:=hX;refine aa (pE Z (bG [0] [] Z Z Z Z Z ((iP s j)) Z Z (by rfl) (by rfl) Z Z Z Z ?_));refine pE Z (ab (qs (ae (W.block (ae ?_)))));apply bL;(case hb=>rfl);·repeat' first | refine cc Z Z Z | refine bH Z Z ?_ | refine bC Z Z Z Z ?_ | refine pE Z ?_ | refine ab ?_ | (apply b8;(case hj=>rfl);(case hl=>rfl))
  refine qs (be Z (fun X=>?_) (fun X=>?_));·
   have q:(bh (bc s) j).toNat < 32∨126 < (bh (bc s) j).toNat:=by revert X;simp;omega
   have hx:ee (bc s) i=.no j 10:=by rw[←hI,FU q]
   refine aa (aZ 4 Z ?_);refine dk [] [] Z Z Z Z Z (dL j 10) Z Z (by rfl) (fun st'=>?_);repeat' first | refine cW ?_ | refine gL ?_ | refine kt ?_
   exact dr (bO hx)
  have q:¬ ((bh (bc s) j).toNat < 32∨126 < (bh (bc s) j).toNat):=by revert X;simp;omega
  have a8:j < s.size:=by have:=de (l:=bc s) (i:=j) (by intro e;rw[e] at q;exact q (.inl (by decide)));rwa [bk] at this
  refine ba 3 Z ?_;refine be Z (fun M=>?_) (fun M=>?_);·
   have hx:ee (bc s) i=.ok acc (j+1):=by rw[←hI,EF (jY (n:=34) (by decide) (of_decide_eq_true M))]
   refine ae (aa (aZ 4 Z ?_));refine pu (dP (ev aX Z) (y:=((j+1:Nat):Int)) (wrap64 (by omega))) Z ?_;refine aZ 2 Z ?_;refine bl aX Z Z Z Z Z Z Z Z (ab (qs (ae (aa (FO (aj Z) a1 Z Z Z Z BN z8 (by rw[uE];simp only[maxLen];omega) Z Z ?_)))));refine pE Z (ab (qs (W.ret (bz (bo (bz (dI (bz (dS (bQ (hx)) ?_)))))))));refine ak aX [] trivial Z Z Z Z ?_ ?_;·exact⟨rfl,trivial⟩
   rfl
  have q2:bh (bc s) j≠34:=by intro e;rw[e] at M;simp at M
  refine ba 3 Z ?_;refine be Z (fun N=>?_) (fun N=>?_);·
   have I:=hI;rw[Dn (jY (n:=92) (by decide) (of_decide_eq_true N))] at I;have ai:=vC (l:=bc s) (i:=j+1) (by rw[bk];omega);refine ae (aa (aZ 4 Z ?_));refine pu (dP (ev aX Z) (y:=((j+1:Nat):Int)) (wrap64 (by omega))) Z ?_;refine aZ 2 Z ?_;refine bl aX Z Z Z Z Z Z Z Z (ab (qs (aa (pE Z ?_))))
   cases hc50:fc (bc s) (j+1) with
   | no b0 b2=>
    refine dk [0] [] Z Z Z Z Z ((wE s (j+1) (by omega) hs).gG (bO hc50)) Z Z (by rfl) (fun st'=>?_);repeat' first | refine cW ?_ | refine gL ?_ | refine kt ?_
    refine dr (bO (by rw[←I,hc50]))
   | ok O i50=>
    refine bG [0] [] Z Z Z Z Z ((wE s (j+1) (by omega) hs).ret (bQ hc50)) Z Z (by rfl) (by rfl) Z Z Z Z ?_;rw[hc50] at I ai;have a7:j+1 < i50∧i50≤s.size:=by have:=ai;rw[←bk s];exact this
    have hW:=fv (u:=u) (s:=bytesOf acc) (m:=bytesOf [O]) (r:=bytesOf (acc++[O])) (c:=O.toNat) (Ik ..) Z (fR _).2 (by rw[uE];omega);refine pE Z (ab (ca (qs (aa (pE Z (bG [1] [2] Z Z Z Z Z hW Z Z (by rfl) (by rfl) Z Z Z Z ?_))))));refine ab (ca (W.cr [0,1,6] ⟨(i50,acc++[O],true),?_⟩ ?_ Z ?_ trivial ?_ trivial Z));·
     obtain⟨k2,rfl⟩:∃ k2,J=k2+1:=⟨J - 1,by rw[bk] at ad;omega⟩;exact⟨by omega,by rw[List.length_append,List.length_singleton];omega,k2,by omega,I⟩
    ·dsimp only;omega
    ·repeat' constructor
    repeat' constructor
  have q3:bh (bc s) j≠92:=by intro e;rw[e] at N;simp at N
  have I:=hI;rw[Cp q q2 q3] at I;have hW:=fv (u:=u) (s:=bytesOf acc) (m:=bytesOf [bh (bc s) j]) (r:=bytesOf (acc++[bh (bc s) j])) (c:=(bh (bc s) j).toNat) (Ik ..) Z (fR _).2 (by rw[uE];omega);refine aa (aZ 4 Z ?_);refine pu (dP (ev aX Z) (y:=((j+1:Nat):Int)) (wrap64 (by omega))) Z ?_;refine aZ 2 Z ?_;refine bl aX Z Z Z Z Z Z Z Z (ab (ca (qs (aa (pE Z (bG [1] [2] Z Z Z Z Z hW Z Z (by rfl) (by rfl) Z Z Z Z ?_))))));refine ab (ca (W.cr [0,1,5] ⟨(j+1,acc++[bh (bc s) j],true),?_⟩ ?_ Z ?_ trivial ?_ trivial Z));·
   obtain⟨k2,rfl⟩:∃ k2,J=k2+1:=⟨J - 1,by rw[bk] at ad;omega⟩;exact⟨by omega,by rw[List.length_append,List.length_singleton];omega,k2,by omega,I⟩
  ·dsimp only;omega
  ·repeat' constructor
  repeat' constructor
theorem G6 (l:List UInt8) (k:Nat) (level:Int) (i0:Nat):dB l (k+1) level i0 =
 if bh l (bp l i0)=110 then (match du l nR (bp l i0) with | .no a w=>.no a w | .ok _ j=>.ok (.mk 1 0 (B #[]) [] []) j)
 else if bh l (bp l i0)=116 then (match du l kL (bp l i0) with | .no a w=>.no a w | .ok _ j=>.ok (.mk 2 1 (B #[]) [] []) j)
 else if bh l (bp l i0)=102 then (match du l jn (bp l i0) with | .no a w=>.no a w | .ok _ j=>.ok (.mk 2 0 (B #[]) [] []) j)
 else if bh l (bp l i0)=34 then (match ee l (bp l i0) with | .no a w=>.no a w | .ok t j=>.ok (.mk 4 0 (bytesOf t) [] []) j)
 else if bh l (bp l i0)=91∨bh l (bp l i0)=123 then
  if 16 < level then .no (bp l i0) 20
  else if bh l (bp l i0)=91 then gh l k level (bp l i0+1) else gg l k level (bp l i0+1)
 else eK l (bp l i0):=by rw[dB] <;> rfl
theorem pn {c d:UInt8} (h:decide ((c.toNat:Int)=(d.toNat:Int))=false):c≠d:=by rintro rfl;simp at h
theorem mu {c d:UInt8} (h:decide ((c.toNat:Int)=(d.toNat:Int))=true):c=d:=UInt8.toNat_inj.1 (by have:=of_decide_eq_true h;omega)
theorem By (s:ByteArray) (k:Nat) (hs:s.size≤1000000000) (level:Int) (i0:Nat) (hi:i0≤s.size)
 (hA:∀ i,i0 < i→i≤s.size→level≤16→dH Tryz.prog 116 [.ptr 0 0,.d (.v (.int .i64 level))] [fG s i] 0 (iz 128 s (fun v:JV=>.ag v.c) (gh (bc s) k level i)))
 (hO:∀ i,i0 < i→i≤s.size→level≤16→dH Tryz.prog 117 [.ptr 0 0,.d (.v (.int .i64 level))] [fG s i] 0 (iz 128 s (fun v:JV=>.ag v.c) (gg (bc s) k level i))) :
 dH Tryz.prog 71 [.ptr 0 0,.d (.v (.int .i64 level))] [fG s i0] 0 (iz 128 s (fun v:JV=>.ag v.c) (dB (bc s) (k+1) level i0)):=by
 have hle:bp (bc s) i0≤s.size:=by have:=cZ (l:=bc s) (i:=i0) (by rw[bk];exact hi);rwa [bk] at this
 have ai:=cT (bc s) i0;have I:=G6 (bc s) k level i0;refine dH.dQ aX (n:=63) (rs:=[.cell 4 46]) Tryz.func71 (by kernel_rfl) Z Tryz.ntmps71 Tryz.results71 Z (gx ..) fun C hC hG=>?_;refine ae (aa (bK aX Z Z Z (ab (qs ?_))));iterate 2 refine ae ?_
 refine aa (pE Z (bG [0] [] Z Z Z Z Z ((la s i0 hi hs)) Z Z (by rfl) (by rfl) Z Z Z Z ?_));refine pE Z (ab (qs (W.block (ba 3 Z ?_))));refine be Z (fun h8=>?_) (fun h8=>?_);·
  rw[if_pos (mu (d:=110) h8)] at I;refine ae (aa (pE Z ?_))
  cases hc12:du (bc s) nR (bp (bc s) i0) with
  | no a12 aj=>
   refine dk [0] [] Z Z Z Z Z ((ki s (B #[110,117,108,108]) (bp (bc s) i0) hs).gG (bO hc12)) Z Z (by rfl) (fun st'=>?_);repeat' first | refine cW ?_ | refine gL ?_
   refine dr (bO (by rw[I,hc12]))
  | ok a1 i12=>
   refine bG [0] [] Z Z Z Z Z ((ki s (B #[110,117,108,108]) (bp (bc s) i0) hs).ret (bQ hc12)) Z Z (by rfl) (by rfl) Z Z Z Z ?_;refine ab (qs (ae (aa (pu (build aX Z Z Z Z) Z ?_))));try refine iy 13 Z Z Z ?_
   refine bl aX Z Z Z Z Z Z Z Z (ab (qs (W.ret (bz (bo (dS (bQ ((by rw[I,hc12]))) ?_))))));refine ak aX [] trivial Z Z Z Z ?_ ?_;·exact⟨rfl,trivial⟩
   rfl
 rw[if_neg (pn (d:=110) h8)] at I;refine ba 3 Z ?_;refine be Z (fun M=>?_) (fun M=>?_);·
  rw[if_pos (mu (d:=116) M)] at I;refine ae (aa (pE Z ?_))
  cases hc18:du (bc s) kL (bp (bc s) i0) with
  | no a6 a7=>
   refine dk [0] [] Z Z Z Z Z ((ki s (B #[116,114,117,101]) (bp (bc s) i0) hs).gG (bO hc18)) Z Z (by rfl) (fun st'=>?_);repeat' first | refine cW ?_ | refine gL ?_
   refine dr (bO (by rw[I,hc18]))
  | ok a8 i18=>
   refine bG [0] [] Z Z Z Z Z ((ki s (B #[116,114,117,101]) (bp (bc s) i0) hs).ret (bQ hc18)) Z Z (by rfl) (by rfl) Z Z Z Z ?_;refine ab (qs (ae (aa (pu (build aX Z Z Z Z) Z ?_))));try refine iy 19 Z Z Z ?_
   refine bl aX Z Z Z Z Z Z Z Z (ab (qs (W.ret (bz (bo (dS (bQ ((by rw[I,hc18]))) ?_))))));refine ak aX [] trivial Z Z Z Z ?_ ?_;·exact⟨rfl,trivial⟩
   rfl
 rw[if_neg (pn (d:=116) M)] at I;refine ba 3 Z ?_;refine be Z (fun N=>?_) (fun N=>?_);·
  rw[if_pos (mu (d:=102) N)] at I;refine ae (aa (pE Z ?_))
  cases hc24:du (bc s) jn (bp (bc s) i0) with
  | no a24 b0=>
   refine dk [0] [] Z Z Z Z Z ((ki s (B #[102,97,108,115,101]) (bp (bc s) i0) hs).gG (bO hc24)) Z Z (by rfl) (fun st'=>?_);repeat' first | refine cW ?_ | refine gL ?_
   refine dr (bO (by rw[I,hc24]))
  | ok b2 i24=>
   refine bG [0] [] Z Z Z Z Z ((ki s (B #[102,97,108,115,101]) (bp (bc s) i0) hs).ret (bQ hc24)) Z Z (by rfl) (by rfl) Z Z Z Z ?_;refine ab (qs (ae (aa (pu (build aX Z Z Z Z) Z ?_))));try refine iy 25 Z Z Z ?_
   refine bl aX Z Z Z Z Z Z Z Z (ab (qs (W.ret (bz (bo (dS (bQ ((by rw[I,hc24]))) ?_))))));refine ak aX [] trivial Z Z Z Z ?_ ?_;·exact⟨rfl,trivial⟩
   rfl
 rw[if_neg (pn (d:=102) N)] at I;refine ba 3 Z ?_;refine be Z (fun O=>?_) (fun O=>?_);·
  rw[if_pos (mu (d:=34) O)] at I;refine ae (aa (pE Z ?_))
  cases hc30:ee (bc s) (bp (bc s) i0) with
  | no b3 b4=>
   refine dk [0] [] Z Z Z Z Z ((o9 s (bp (bc s) i0) hle hs).gG (bO hc30)) Z Z (by rfl) (fun st'=>?_);repeat' first | refine cW ?_ | refine gL ?_
   refine dr (bO (by rw[I,hc30]))
  | ok b5 i30=>
   refine bG [0] [] Z Z Z Z Z ((o9 s (bp (bc s) i0) hle hs).ret (bQ hc30)) Z Z (by rfl) (by rfl) Z Z Z Z ?_;refine pu (build aX Z Z Z Z) Z ?_;try refine iy 31 Z Z Z ?_
   refine bl aX Z Z Z Z Z Z Z Z (ab (qs (W.ret (bz (bo (dS (bQ ((by rw[I,hc30]))) ?_))))));refine ak aX [] trivial Z Z Z Z ?_ ?_;·exact⟨rfl,trivial⟩
   rfl
 rw[if_neg (pn (d:=34) O)] at I;refine ae ?_;apply bL;(case hb=>rfl);·repeat' first | refine cc Z Z Z | refine bH Z Z ?_ | refine bC Z Z Z Z ?_ | refine pE Z ?_ | refine ab ?_ | (apply b8;(case hj=>rfl);(case hl=>rfl))
 refine qs (be Z (fun J=>?_) (fun J=>?_));·
  have q:bh (bc s) (bp (bc s) i0)=91∨bh (bc s) (bp (bc s) i0)=123:=by
   by_cases e:bh (bc s) (bp (bc s) i0)=91;·exact .inl e
   refine .inr (jY (n:=123) (by decide) ?_);have e2:¬ ((bh (bc s) (bp (bc s) i0)).toNat:Int)=91:=fun h=>e (jY (n:=91) (by decide) h);revert J;simp[e2]
  rw[if_pos q] at I;have b6:bp (bc s) i0 < s.size:=by have:=de (l:=bc s) (i:=bp (bc s) i0) (by rcases q with q | q <;> rw[q] <;> decide);rwa [bk] at this
  refine ae (ba 2 Z ?_);refine be Z (fun U=>?_) (fun U=>?_);·
   rw[if_pos (of_decide_eq_true U)] at I;refine aa (aZ 4 Z ?_);refine dk [] [] Z Z Z Z Z (dL (bp (bc s) i0) 20) Z Z (by rfl) (fun st'=>?_);repeat' first | refine cW ?_ | refine gL ?_
   exact dr (bO I)
  have ad:¬ 16 < level:=of_decide_eq_false U;rw[if_neg ad] at I;refine ah (qs (ae (aa (aZ 4 Z ?_))));refine pu (dP (ev aX Z) (y:=((bp (bc s) i0+1:Nat):Int)) (wrap64 (by omega))) Z ?_;refine aZ 2 Z ?_;refine bl aX Z Z Z Z Z Z Z Z (ab (qs (ae (ba 2 Z ?_))));refine be Z (fun X=>?_) (fun X=>?_);·
   rw[if_pos (mu (d:=91) X)] at I;refine ae (aa (aZ 2 Z ?_))
   cases hc57:gh (bc s) k level (bp (bc s) i0+1) with
   | no ch cj=>
    refine dk [0] [] Z Z Z Z Z ((hA (bp (bc s) i0+1) (by omega) (by omega) (by omega)).gG (bO hc57)) Z Z (by rfl) (fun st'=>?_);repeat' first | refine cW ?_ | refine gL ?_
    refine dr (bO (by rw[I,hc57]))
   | ok cl i57=>
    refine bG [0] [] Z Z Z Z Z ((hA (bp (bc s) i0+1) (by omega) (by omega) (by omega)).ret (bQ hc57)) Z Z (by rfl) (by rfl) Z Z Z Z ?_;refine bl aX Z Z Z Z Z Z Z Z (ab (qs (W.ret (bo (bz (bo (dS (bQ ((by rw[I,hc57]))) ?_)))))));refine ak aX [] trivial Z Z Z Z ?_ ?_;·exact⟨rfl,trivial⟩
    rfl
  rw[if_neg (pn (d:=91) X)] at I;refine ah (qs (ae (aa (aZ 2 Z ?_))))
  cases hc60:gg (bc s) k level (bp (bc s) i0+1) with
  | no cq cx=>
   refine dk [0] [] Z Z Z Z Z ((hO (bp (bc s) i0+1) (by omega) (by omega) (by omega)).gG (bO hc60)) Z Z (by rfl) (fun st'=>?_);repeat' first | refine cW ?_ | refine gL ?_
   refine dr (bO (by rw[I,hc60]))
  | ok cy i60=>
   refine bG [0] [] Z Z Z Z Z ((hO (bp (bc s) i0+1) (by omega) (by omega) (by omega)).ret (bQ hc60)) Z Z (by rfl) (by rfl) Z Z Z Z ?_;refine bl aX Z Z Z Z Z Z Z Z (ab (qs (W.ret (bz (bo (dS (bQ ((by rw[I,hc60]))) ?_))))));refine ak aX [] trivial Z Z Z Z ?_ ?_;·exact⟨rfl,trivial⟩
   rfl
 have q:¬ (bh (bc s) (bp (bc s) i0)=91∨bh (bc s) (bp (bc s) i0)=123):=by rintro(e | e) <;> rw[e] at J <;> simp at J
 rw[if_neg q] at I;refine ah (ca (qs (ae (aa (pE Z ?_)))))
 cases hc62:eK (bc s) (bp (bc s) i0) with
 | no c1 c6=>
  refine dk [0] [] Z Z Z Z Z ((tu s (bp (bc s) i0) hle hs).gG (bO hc62)) Z Z (by rfl) (fun st'=>?_);repeat' refine cW ?_
  refine dr (bO (by rw[I,hc62]))
 | ok c7 i62=>
  refine bG [0] [] Z Z Z Z Z ((tu s (bp (bc s) i0) hle hs).ret (bQ hc62)) Z Z (by rfl) (by rfl) Z Z Z Z ?_;refine bl aX Z Z Z Z Z Z Z Z (ab (qs (W.ret (dS (bQ ((by rw[I,hc62]))) ?_))));refine ak aX [] trivial Z Z Z Z ?_ ?_;·exact⟨rfl,trivial⟩
  rfl
theorem xv {l:List UInt8} {c:UInt8} {i:Nat} (h:i≤l.length):Bd l i (iC l c i):=by
 have J:=cT l i;have hle:=cZ h;unfold iC;split;·
  rename_i q;exact⟨by omega,de (by rw[q];decide)⟩
 have I:=jf (c:=c) hle
 cases M:cF l c (bp l i) with
 | no a w=>rw[M] at I;exact⟨Nat.le_trans J I.1,I.2⟩
 | ok u j=>rw[M] at I;exact⟨Nat.lt_of_le_of_lt J I.1,I.2⟩
theorem rD {l:List UInt8} {c:UInt8} {i a:Nat} {w:Int} (h:iC l c i=.no a w):¬ bh l (bp l i)=44∧cF l c (bp l i)=.no a w:=by
 unfold iC at h;split at h;·cases h
 rename_i q;refine⟨q,?_⟩
 cases I:cF l c (bp l i) with
 | no a' w'=>rw[I] at h;injection h with h1 h2;rw[h1,h2]
 | ok u j=>rw[I] at h;cases h
theorem nQ {l:List UInt8} {c:UInt8} {i j:Nat} (h:iC l c i=.ok true j):bh l (bp l i)=44∧j=bp l i+1:=by
 unfold iC at h;split at h;·rename_i q;injection h with _ h2;exact⟨q,h2.symm⟩
 cases I:cF l c (bp l i) with
 | no a' w'=>rw[I] at h;cases h
 | ok u j=>rw[I] at h;cases h
theorem mc {l:List UInt8} {c:UInt8} {i j:Nat} (h:iC l c i=.ok false j):¬ bh l (bp l i)=44∧cF l c (bp l i)=.ok () j:=by
 unfold iC at h;split at h;·cases h
 rename_i q;refine⟨q,?_⟩
 cases I:cF l c (bp l i) with
 | no a' w'=>rw[I] at h;cases h
 | ok u J=>rw[I] at h;injection h with _ h2;rw[h2]
theorem FP (acc:List JV):(JV.mk 5 0 (B #[]) [] acc).c=[ci 5,ci 0,cs (B #[]),.sl [],.sl (acc.map JV.c)]:=by simp[JV.c,JV.oP,JV.op,JV.n,JV.s,JV.keys,JV.kids]
def A4 (s:ByteArray) (K:Nat):Prop:=∀ k,k < K→∀ (level:Int) (i:Nat),1≤level→level≤17→i≤s.size→3*(s.size - i)+1≤k →
 dH Tryz.prog 71 [.ptr 0 0,.d (.v (.int .i64 level))] [fG s i] 0 (iz 128 s (fun v:JV=>.ag v.c) (dB (bc s) k level i))
theorem A0 (s:ByteArray) (K:Nat) (hs:s.size≤1000000000) (hV:A4 s K) (level:Int) (i0:Nat) (hi:i0≤s.size) (b0:1≤level) (b2:level≤16) (hK:3*(s.size - i0)+3≤K) :
 dH Tryz.prog 116 [.ptr 0 0,.d (.v (.int .i64 level))] [fG s i0] 0 (iz 128 s (fun v:JV=>.ag v.c) (gh (bc s) K level i0)):=by
 have hle:bp (bc s) i0≤s.size:=by have:=cZ (l:=bc s) (i:=i0) (by rw[bk];exact hi);rwa [bk] at this
 have b3:=cT (bc s) i0;obtain⟨O,rfl⟩:∃ O,K=O+1:=⟨K - 1,by omega⟩;have U:=vr (bc s) O level i0;generalize hA:gh (bc s) (O+1) level i0=A at U ⊢;clear hA;refine dH.dQ aX (n:=32) (rs:=[.cell 4 46]) Tryz.func116 (by kernel_rfl) Z Tryz.ntmps116 Tryz.results116 Z (gx ..) fun C hC hG=>?_;refine ae (aa (bK aX Z Z Z (ab (qs (ae (aa (pu (build aX Z Z Z Z) Z ?_)))))));refine bK aX Z Z Z (bl aX Z Z Z Z Z Z Z Z (ab (qs ?_)));iterate 2 refine ae ?_
 refine aa (pE Z (bG [0] [] Z Z Z Z Z ((la s i0 hi hs)) Z Z (by rfl) (by rfl) Z Z Z Z ?_));refine pE Z (ab (qs (be Z (fun N=>?_) (fun N=>?_))));·
  rw[if_pos (mu (d:=93) N)] at U;have b4:bp (bc s) i0 < s.size:=by have:=de (l:=bc s) (i:=bp (bc s) i0) (by rw[mu (d:=93) N];decide);rwa [bk] at this
  refine ae (aa (aZ 4 Z ?_));refine pu (dP (ev aX Z) (y:=((bp (bc s) i0+1:Nat):Int)) (wrap64 (by omega))) Z ?_;refine aZ 2 Z ?_;refine bl aX Z Z Z Z Z Z Z Z (ab (qs (ae (aa (aZ 1 Z ?_)))));refine bl aX Z Z Z Z Z Z Z Z (ab (qs ?_));try refine jj 1 3 Z Z Z ?_
  try refine jj 1 4 Z Z Z ?_
  refine W.ret (bo (dS (bQ (U)) ?_));refine ak aX [] trivial Z Z Z Z ?_ ?_;·exact⟨rfl,trivial⟩
  rfl
 rw[if_neg (pn (d:=93) N)] at U;refine ah (qs (ae (ba 1 Z ?_)));refine W.block (eZ 2 4 Z Z Z ?_)
 refine W.b7 (ι:={x:Nat×Nat×List JV×Bool // match x with | (k,j,acc,on)=>k≤O∧(on=true→j≤s.size∧acc.length≤j∧3*(s.size - j)+2≤k∧fk (bc s) k level j acc=A)∧(on=false→A=.ok (.mk 5 0 (B #[]) [] acc) j)})
  (fun x=>match x.1 with | (k,j,acc,on)=>[(0,.ptr 0 0),(1,.d (.v (.int .i64 level))),(4,.ptr 1 0),(5,.ptr 2 0),(6,.d (.v (.bool on)))]) []
  (fun x=>match x.1 with | (k,j,acc,on)=>[(0,fG s j),(2,[.d (ci 5),.d (ci 0),.d (cs (B #[])),.d (.v (.slice none 0 0)),.own 3 (acc.map JV.c)])]) [(1,_)] [3] 4 (fun x=>match x.1 with | (k,j,acc,on)=>k)
  [0,1,2,4] ⟨(O,bp (bc s) i0,[],true),?_⟩ Z ?_ trivial ?_ ⟨rfl,rfl,trivial⟩ Z ?_
 ·exact⟨Nat.le_refl _,fun _=>⟨hle,Nat.zero_le _,by omega,U.symm⟩,fun h=>by cases h⟩
 ·repeat' constructor
 ·repeat' constructor
 rintro⟨⟨k,j,acc,on⟩,b5,hT,hF⟩;show W _ _ _ _ _ ⟨[(0,.ptr 0 0),(1,.d (.v (.int .i64 level))),(4,.ptr 1 0),(5,.ptr 2 0),(6,.d (.v (.bool on)))],[(0,fG s j),(2,[.d (ci 5),.d (ci 0),.d (cs (B #[])),.d (.v (.slice none 0 0)),.own 3 (acc.map JV.c)]),(1,_)],[3],4⟩;refine ae (ba 1 Z ?_);refine be Z (fun X=>?_) (fun X=>?_);·
  obtain⟨hj,I,hk,J⟩:=hT X;obtain⟨M,rfl⟩:∃ M,k=M+1:=⟨k - 1,by omega⟩;rw[sx] at J;have hb:=(nz (bc s) M).v (level+1) j (by rw[bk];exact hj);refine ah (qs (ae (W.block ?_)))
  cases hc27:dB (bc s) M (level+1) j with
  | no a1 a6=>
   refine' W.DZ aX (iN 128 a1 a6) [5,6] 7 (by kernel_rfl) (by kernel_rfl) Z Z (fun st=>?hQ_1) ?hL_1;case hQ_1=>
    repeat' first | refine cW ?_ | refine gL ?_ | refine kt ?_
    refine dr (bO (by rw[←J,hc27]))
   case' hL_1=>skip
   refine' bX (ev aX Z) ?p_2 Z Z Z (by kernel_rfl) Z ?h_2;case' h_2=>skip
   refine' bX (ev aX Z) ?p_3 Z Z Z (by kernel_rfl) Z ?h_3;case' h_3=>skip
   refine' bX (ev aX Z) ?p_4 Z Z Z (by kernel_rfl) Z ?h_4;case' h_4=>skip
   refine' bX (ev aX Z) ?p_5 Z Z Z (by kernel_rfl) Z ?h_5;case' h_5=>skip
   refine' bX (dP (ev aX Z) (y:=level+1) (wrap64 (by omega))) ?p_6 Z Z Z (by kernel_rfl) Z ?h_6;case' h_6=>skip
   refine' I0 ?x_7 Z Z Z (by kernel_rfl) Z ?h_7;case x_7=>
    intro b hb g;cases b;·exact(bb hb (by kernel_rfl)).elim
    exact dk [0] [] Z Z Z Z Z ((hV M (by omega) (level+1) j (by omega) (by omega) hj (by omega)).gG (bO hc27)) Z Z (by rfl) (fun st'=>⟨_,rfl,rfl⟩)
   case' h_7=>skip
   refine GI 27 Z Z Z Z (by kernel_rfl) Z ?_;case p_2=>refine⟨fun I=>(bb I (by kernel_rfl)).elim,?_,fun I=>(bb I (by kernel_rfl)).elim,?_,fun I=>(bb I (by kernel_rfl)).elim,?_⟩ <;> intro I <;> first | exact⟨ev aX Z,fun h=>nomatch h⟩ | exact(bb I (by kernel_rfl)).elim
   case p_3=>refine⟨fun I=>(bb I (by kernel_rfl)).elim,?_,fun I=>(bb I (by kernel_rfl)).elim,?_,fun I=>(bb I (by kernel_rfl)).elim,?_⟩ <;> intro I <;> first | exact⟨ev aX Z,fun h=>nomatch h⟩ | exact⟨eG aX Z Z Z Z,fun h=>nomatch h⟩ | exact⟨eC aX Z Z Z Z Z,fun h=>nomatch h⟩ | exact(bb I (by kernel_rfl)).elim
   case p_4=>refine⟨fun I=>(bb I (by kernel_rfl)).elim,?_,fun I=>(bb I (by kernel_rfl)).elim,?_,fun I=>(bb I (by kernel_rfl)).elim,?_⟩ <;> intro I <;> first | exact⟨ev aX Z,fun h=>nomatch h⟩ | exact(bb I (by kernel_rfl)).elim
   case p_5=>refine⟨fun I=>(bb I (by kernel_rfl)).elim,?_,fun I=>(bb I (by kernel_rfl)).elim,?_,fun I=>(bb I (by kernel_rfl)).elim,?_⟩ <;> intro I <;> first | exact⟨ev aX Z,fun h=>nomatch h⟩ | exact(bb I (by kernel_rfl)).elim
   case p_6=>refine⟨fun I=>(bb I (by kernel_rfl)).elim,?_,fun I=>(bb I (by kernel_rfl)).elim,?_,fun I=>(bb I (by kernel_rfl)).elim,?_⟩ <;> intro I <;> first | exact⟨dP (ev aX Z) (y:=level+1) (wrap64 (by omega)),fun h=>nomatch h⟩ | exact(bb I (by kernel_rfl)).elim
   refine au ?_ Z;exact ES 27 Z
  | ok aj i27=>
   rw[hc27] at J hb;dsimp only at J;have b6:j < i27:=hb.1;have ad:i27≤s.size:=by have:=hb.2;rwa [bk] at this
   have ai:=xv (l:=bc s) (c:=93) (i:=i27) (by rw[bk];exact ad);apply W.rL aX 7 5;(case hB=>kernel_rfl);(case h1=>rfl);(case h2=>rfl);refine' iD ?p1_9 (ev aX Z) Z Z Z Z Z ?h_9;case' h_9=>skip
   refine' iD ?p1_10 (ev aX Z) Z Z Z Z Z ?h_10;case' h_10=>skip
   refine' nN (ev aX Z) Z Z Z Z Z ?h_11;case' h_11=>skip
   refine' iD ?p1_12 (ev aX Z) Z Z Z Z Z ?h_12;case' h_12=>skip
   refine' nN (dP (ev aX Z) (y:=level+1) (wrap64 (by omega))) Z Z Z Z Z ?h_13;case' h_13=>skip
   refine' E3 (fun g=>?e_14) Z Z Z ?h_14;case e_14=>refine bG [0] [] Z Z Z Z Z (((hV M (by omega) (level+1) j (by omega) (by omega) hj (by omega)).ret (bQ hc27))) Z Z (by rfl) (by rfl) Z Z Z Z ?_;refine ab ?_;exact⟨rfl,rfl⟩
   case' h_14=>skip
   case p1_9=>exact(ev aX Z)
   case p1_10=>exact(ev aX Z)
   case p1_12=>exact(ev aX Z)
   refine IA (b9 aX Z Z Z Z Z Z Z Z Z) Z Z Z Z Z ?_;refine aE ?_;refine fD (fn:=JV.c) (a:=aj) aX Z Z Z Z Z Z Z Z Z Z (fun _=>rfl) (by show(acc.length+1)*80≤_;omega) ?_;refine pE Z (bl aX Z Z Z Z Z Z Z Z (ab (ca (qs (aa (pE Z ?_))))))
   cases hc21:iC (bc s) 93 i27 with
   | no a21 ch=>
    refine dk [0] [] Z Z Z Z Z ((rr s 93 i27 ad hs).gG (bO hc21)) Z Z (by rfl) (fun st'=>?_);repeat' first | refine cW ?_ | refine gL ?_ | refine kt ?_
    refine dr (bO (by rw[←J,if_neg (rD hc21).1,(rD hc21).2]))
   | ok a7 i21=>
    refine bG [0] [] Z Z Z Z Z ((rr s 93 i27 ad hs).ret (bQ hc21)) Z Z (by rfl) (by rfl) Z Z Z Z ?_;rw[hc21] at ai;have cj:i27 < i21:=ai.1;have a8:i21≤s.size:=by have:=ai.2;rwa [bk] at this
    refine pE Z (ab (W.cr [0,1,2,5] ⟨(M,i21,acc++[aj],a7),?_⟩ ?_ Z ?_ trivial ?_ ⟨rfl,rfl,trivial⟩ Z));·
     refine⟨by omega,fun h=>?_,fun h=>?_⟩;·
      subst h;rw[if_pos (nQ hc21).1,←(nQ hc21).2] at J;exact⟨a8,by rw[List.length_append,List.length_singleton];omega,by omega,J⟩
     subst h;rw[if_neg (mc hc21).1,(mc hc21).2] at J;exact J.symm
    ·dsimp only;omega
    ·repeat' constructor
    repeat' constructor
 have hx:=hF X;refine an (bT (bR (bP (qs (ae (aa (aZ 1 Z ?_)))))));refine bl aX Z Z Z Z Z Z Z Z (ab (qs ?_));try refine jj 1 3 Z Z Z ?_
 try refine jj 1 4 Z Z Z ?_
 refine W.ret (dS (bQ (hx)) ?_);refine ak aX [] trivial Z Z Z Z ?_ ?_;·exact⟨rfl,trivial⟩
 rw[FP];rfl
theorem FN (keys:List ByteArray) (acc:List JV):(JV.mk 6 0 (B #[]) keys acc).c=[ci 6,ci 0,cs (B #[]),.sl (keys.map sc),.sl (acc.map JV.c)]:=by simp[JV.c,JV.oP,JV.op,JV.n,JV.s,JV.keys,JV.kids]
theorem yW (s:ByteArray) (K:Nat) (hs:s.size≤1000000000) (hV:A4 s K) (level:Int) (i0:Nat) (hi:i0≤s.size) (cl:1≤level) (cq:level≤16) (hK:3*(s.size - i0)+3≤K) :
 dH Tryz.prog 117 [.ptr 0 0,.d (.v (.int .i64 level))] [fG s i0] 0 (iz 128 s (fun v:JV=>.ag v.c) (gg (bc s) K level i0)):=by
 have hle:bp (bc s) i0≤s.size:=by have:=cZ (l:=bc s) (i:=i0) (by rw[bk];exact hi);rwa [bk] at this
 have cx:=cT (bc s) i0;obtain⟨K',rfl⟩:∃ K',K=K'+1:=⟨K - 1,by omega⟩;have hv:=vB (bc s) K' level i0;generalize hA:gg (bc s) (K'+1) level i0=A at hv ⊢;clear hA;refine dH.dQ aX (n:=61) (rs:=[.cell 4 46]) Tryz.func117 (by kernel_rfl) Z Tryz.ntmps117 Tryz.results117 Z (gx ..) fun C hC hG=>?_;refine ae (aa (bK aX Z Z Z (ab (qs (ae (aa (pu (build aX Z Z Z Z) Z ?_)))))));refine bK aX Z Z Z (bl aX Z Z Z Z Z Z Z Z (ab (qs ?_)));iterate 2 refine ae ?_
 refine aa (pE Z (bG [0] [] Z Z Z Z Z ((la s i0 hi hs)) Z Z (by rfl) (by rfl) Z Z Z Z ?_));refine pE Z (ab (qs (be Z (fun X=>?_) (fun X=>?_))));·
  rw[if_pos (mu (d:=125) X)] at hv;have cy:bp (bc s) i0 < s.size:=by have:=de (l:=bc s) (i:=bp (bc s) i0) (by rw[mu (d:=125) X];decide);rwa [bk] at this
  refine ae (aa (aZ 4 Z ?_));refine pu (dP (ev aX Z) (y:=((bp (bc s) i0+1:Nat):Int)) (wrap64 (by omega))) Z ?_;refine aZ 2 Z ?_;refine bl aX Z Z Z Z Z Z Z Z (ab (qs (ae (aa (aZ 1 Z ?_)))));refine bl aX Z Z Z Z Z Z Z Z (ab (qs ?_));try refine jj 1 3 Z Z Z ?_
  try refine jj 1 4 Z Z Z ?_
  refine W.ret (bo (dS (bQ (hv)) ?_));refine ak aX [] trivial Z Z Z Z ?_ ?_;·exact⟨rfl,trivial⟩
  rfl
 rw[if_neg (pn (d:=125) X)] at hv;refine ah (qs (ae (aa (mkMap Z ?_))));refine pE Z (ab (qs (ae (ba 1 Z ?_))));refine W.block (eZ 2 3 Z Z Z ?_);refine eZ 2 4 Z Z Z ?_
 refine W.b7 (ι:={x:Nat×Nat×List ByteArray×List JV×Bool // match x with | (k,j,keys,acc,on)=>k≤K'∧keys.Nodup∧(on=true→j≤s.size∧keys.length≤j∧acc.length≤j∧3*(s.size - j)+2≤k∧fz (bc s) k level j keys acc=A)∧(on=false→A=.ok (.mk 6 0 (B #[]) keys acc) j)})
  (fun x=>match x.1 with | (k,j,keys,acc,on)=>[(0,.ptr 0 0),(1,.d (.v (.int .i64 level))),(4,.ptr 1 0),(5,.ptr 2 0),(6,.mp 3 (dO sk bv (gN keys))),(7,.d (.v (.bool on)))]) []
  (fun x=>match x.1 with | (k,j,keys,acc,on)=>[(0,fG s j),(2,[.d (ci 6),.d (ci 0),.d (cs (B #[])),.own 4 (keys.map sc),.own 5 (acc.map JV.c)])]) [(1,_)] [5,4,3] 6 (fun x=>match x.1 with | (k,j,keys,acc,on)=>k)
  [0,1,2,4,5,6] ⟨(K',bp (bc s) i0,[],[],true),?_⟩ Z ?_ trivial ?_ ⟨rfl,rfl,trivial⟩ Z ?_
 ·exact⟨Nat.le_refl _,List.nodup_nil,fun _=>⟨hle,Nat.zero_le _,Nat.zero_le _,by omega,hv.symm⟩,fun h=>by cases h⟩
 ·repeat' constructor
 ·repeat' constructor
 rintro⟨⟨k,j,keys,acc,on⟩,c1,hn,hT,hF⟩;show W _ _ _ _ _ ⟨[(0,.ptr 0 0),(1,.d (.v (.int .i64 level))),(4,.ptr 1 0),(5,.ptr 2 0),(6,.mp 3 (dO sk bv (gN keys))),(7,.d (.v (.bool on)))],[(0,fG s j),(2,[.d (ci 6),.d (ci 0),.d (cs (B #[])),.own 4 (keys.map sc),.own 5 (acc.map JV.c)]),(1,_)],[5,4,3],6⟩;refine ae (ba 1 Z ?_);refine be Z (fun ad=>?_) (fun ad=>?_);·
  obtain⟨hj,c6,I,hk,J⟩:=hT ad;obtain⟨O,rfl⟩:∃ O,k=O+1:=⟨k - 1,by omega⟩;rw[sA] at J;have U:bp (bc s) j≤s.size:=by have:=cZ (l:=bc s) (i:=j) (by rw[bk];exact hj);rwa [bk] at this
  have b6:=cT (bc s) j;have ai:=mY (l:=bc s) (i:=bp (bc s) j) (by rw[bk];exact U);refine ah (qs (ae (W.block (ae (aa (pE Z (bG [0] [] Z Z Z Z Z ((la s j hj hs)) Z Z (by rfl) (by rfl) Z Z Z Z ?_)))))));refine ab (qs (ba 5 Z ?_));refine ae (aa (pE Z ?_))
  cases hc33:ee (bc s) (bp (bc s) j) with
  | no c7 df=>
   refine dk [0] [] Z Z Z Z Z ((o9 s (bp (bc s) j) U hs).gG (bO hc33)) Z Z (by rfl) (fun st'=>?_);repeat' first | refine cW ?_ | refine gL ?_ | refine kt ?_
   refine dr (bO (by rw[←J,hc33]))
  | ok M i33=>
   refine bG [0] [] Z Z Z Z Z ((o9 s (bp (bc s) j) U hs).ret (bQ hc33)) Z Z (by rfl) (by rfl) Z Z Z Z ?_;rw[hc33] at J ai;dsimp only at J;have di:bp (bc s) j < i33:=ai.1;have a7:i33≤s.size:=by have:=ai.2;rwa [bk] at this
   have ch:bp (bc s) i33≤s.size:=by have:=cZ (l:=bc s) (i:=i33) (by rw[bk];exact a7);rwa [bk] at this
   have cj:=cT (bc s) i33;refine pE Z (ab (qs ?_));iterate 2 refine ae ?_
   refine aa (aZ 2 Z ?_);refine pu (jS (kf:=sk) (vf:=bv) (l:=gN keys) (a:=bytesOf M) (z:=false) (zx:=.bool false) aX Z Z Z Z Z (uq (aX.jB Z Z)) Z Z Z (fun w pv=>.v _ Z) (by rw[kF];exact hn) (congrArg bv (wi hn (bytesOf M)))) Z ?_;refine ab (qs (be Z (fun N=>?_) (fun N=>?_)));·
    rw[if_pos N] at J;refine aa (pE Z (dk [] [] Z Z Z Z Z (dL (bp (bc s) j) 4) Z Z (by rfl) (fun st'=>?_)));repeat' first | refine cW ?_ | refine gL ?_ | refine kt ?_
    exact dr (bO J.symm)
   rw[if_neg (by rw[N];decide)] at J;have b0:=tX hn N;refine ah (qs (ae (aa (aZ 2 Z ?_))));refine mW (kf:=sk) (vf:=bv) (l:=gN keys) (a:=bytesOf M) (y:=true) aX 6 Z Z Z Z Z Z Z (uq (aX.jB Z Z)) Z Z (by rw[kF];exact hn) (congrArg (dO sk bv) (vH N)) Z ?_;refine ab (qs (ae (aa (pE Z (bG [0] [] Z Z Z Z Z ((la s i33 a7 hs)) Z Z (by rfl) (by rfl) Z Z Z Z ?_)))));refine ab (qs (ae (aa (pE Z ?_))))
   cases hc44:cF (bc s) 58 (bp (bc s) i33) with
   | no dj dt=>
    refine dk [0] [] Z Z Z Z Z ((kq s 58 (bp (bc s) i33) hs).gG (bO hc44)) Z Z (by rfl) (fun st'=>?_);repeat' first | refine cW ?_ | refine gL ?_ | refine kt ?_
    refine dr (bO (by rw[←J,hc44]))
   | ok dx i44=>
    refine bG [0] [] Z Z Z Z Z ((kq s 58 (bp (bc s) i33) hs).ret (bQ hc44)) Z Z (by rfl) (by rfl) Z Z Z Z ?_;rw[hc44] at J;dsimp only at J;obtain⟨ec,a6⟩:=mE hc44;rw[bk] at a6;have hb:=(nz (bc s) O).v (level+1) i44 (by rw[bk];omega);refine ab (qs ?_)
    cases hc55:dB (bc s) O (level+1) i44 with
    | no b2 b3=>
     refine' W.DV aX (iN 128 b2 b3) [11,8,5] 12 _ [4,10,11,12] 14 (by kernel_rfl) (by kernel_rfl) Z Z (fun st=>?hQ_1) ?hL_1;case hQ_1=>
      repeat' first | refine cW ?_ | refine gL ?_ | refine kt ?_
      refine dr (bO (by rw[←J,hc55]))
     case' hL_1=>skip
     refine' bX (ev aX Z) ?p_2 Z Z Z (by kernel_rfl) Z ?h_2;case' h_2=>skip
     refine' bX (ev aX Z) ?p_3 Z Z Z (by kernel_rfl) Z ?h_3;case' h_3=>skip
     refine' bX (ev aX Z) ?p_4 Z Z Z (by kernel_rfl) Z ?h_4;case' h_4=>skip
     refine' bX (b9 aX Z Z Z Z Z Z Z Z Z) ?p_5 Z Z Z (by kernel_rfl) Z ?h_5;case' h_5=>skip
     refine' yg ?x_6 Z Z Z (by kernel_rfl) (fun h=>(bb h (by kernel_rfl)).elim) Z ?h_6;case x_6=>
      intro b hb g;cases b;·exact(bb hb (by kernel_rfl)).elim
      refine fD (fn:=sc) (a:=bytesOf M) aX Z Z Z Z Z Z Z Z Z Z (fun _=>rfl) (by show(keys.length+1)*16≤_;omega) ?_;refine ab ?_;refine' u9 Z ?_ ?_ ?_ ?_;all_goals try exact Z
     case' h_6=>skip
     refine' bX (ev aX Z) ?p_7 Z Z Z (by kernel_rfl) Z ?h_7;case' h_7=>skip
     refine' bX (ev aX Z) ?p_8 Z Z Z (by kernel_rfl) Z ?h_8;case' h_8=>skip
     refine' bX (ev aX Z) ?p_9 Z Z Z (by kernel_rfl) Z ?h_9;case' h_9=>skip
     refine' bX (ev aX Z) ?p_10 Z Z Z (by kernel_rfl) Z ?h_10;case' h_10=>skip
     refine' bX (dP (ev aX Z) (y:=level+1) (wrap64 (by omega))) ?p_11 Z Z Z (by kernel_rfl) Z ?h_11;case' h_11=>skip
     refine' I0 ?x_12 Z Z Z (by kernel_rfl) Z ?h_12;case x_12=>
      intro b hb g;cases b;·exact(bb hb (by kernel_rfl)).elim
      exact dk [0] [] Z Z Z Z Z ((hV O (by omega) (level+1) i44 (by omega) (by omega) (by omega) (by omega)).gG (bO hc55)) Z Z (by rfl) (fun st'=>⟨_,rfl,rfl⟩)
     case' h_12=>skip
     refine GI 55 Z Z Z Z (by kernel_rfl) Z ?_;refine GI 56 Z Z Z Z (by kernel_rfl) Z ?_;refine' bX (ev aX Z) ?p_15 Z Z Z (by kernel_rfl) Z ?h_15;case' h_15=>skip
     case p_2=>refine⟨fun I=>(bb I (by kernel_rfl)).elim,?_,fun I=>(bb I (by kernel_rfl)).elim,?_,fun I=>(bb I (by kernel_rfl)).elim,?_,fun I=>(bb I (by kernel_rfl)).elim,?_,fun I=>(bb I (by kernel_rfl)).elim,?_⟩ <;> intro I <;> first | exact⟨ev aX Z,fun h=>nomatch h⟩ | exact(bb I (by kernel_rfl)).elim
     case p_3=>refine⟨fun I=>(bb I (by kernel_rfl)).elim,?_,fun I=>(bb I (by kernel_rfl)).elim,?_,fun I=>(bb I (by kernel_rfl)).elim,?_,fun I=>(bb I (by kernel_rfl)).elim,?_,fun I=>(bb I (by kernel_rfl)).elim,?_⟩ <;> intro I <;> first | exact⟨ev aX Z,fun h=>nomatch h⟩ | exact⟨eG aX Z Z Z Z,fun h=>nomatch h⟩ | exact⟨eC aX Z Z Z Z Z,fun h=>nomatch h⟩ | exact(bb I (by kernel_rfl)).elim
     case p_4=>refine⟨fun I=>(bb I (by kernel_rfl)).elim,?_,fun I=>(bb I (by kernel_rfl)).elim,?_,fun I=>(bb I (by kernel_rfl)).elim,?_,fun I=>(bb I (by kernel_rfl)).elim,?_,fun I=>(bb I (by kernel_rfl)).elim,?_⟩ <;> intro I <;> first | exact⟨ev aX Z,fun h=>nomatch h⟩ | exact(bb I (by kernel_rfl)).elim
     case p_5=>refine⟨fun I=>(bb I (by kernel_rfl)).elim,?_,fun I=>(bb I (by kernel_rfl)).elim,?_,fun I=>(bb I (by kernel_rfl)).elim,?_,fun I=>(bb I (by kernel_rfl)).elim,?_,fun I=>(bb I (by kernel_rfl)).elim,?_⟩ <;> intro I <;> first | exact⟨b9 aX Z Z Z Z Z Z Z Z Z,fun h=>nomatch h⟩ | exact(bb I (by kernel_rfl)).elim
     case p_7=>refine⟨fun I=>(bb I (by kernel_rfl)).elim,?_,fun I=>(bb I (by kernel_rfl)).elim,?_,fun I=>(bb I (by kernel_rfl)).elim,?_,fun I=>(bb I (by kernel_rfl)).elim,?_,fun I=>(bb I (by kernel_rfl)).elim,?_⟩ <;> intro I <;> first | exact⟨ev aX Z,fun h=>nomatch h⟩ | exact(bb I (by kernel_rfl)).elim
     case p_8=>refine⟨fun I=>(bb I (by kernel_rfl)).elim,?_,fun I=>(bb I (by kernel_rfl)).elim,?_,fun I=>(bb I (by kernel_rfl)).elim,?_,fun I=>(bb I (by kernel_rfl)).elim,?_,fun I=>(bb I (by kernel_rfl)).elim,?_⟩ <;> intro I <;> first | exact⟨ev aX Z,fun h=>nomatch h⟩ | exact⟨eG aX Z Z Z Z,fun h=>nomatch h⟩ | exact⟨eC aX Z Z Z Z Z,fun h=>nomatch h⟩ | exact(bb I (by kernel_rfl)).elim
     case p_9=>refine⟨fun I=>(bb I (by kernel_rfl)).elim,?_,fun I=>(bb I (by kernel_rfl)).elim,?_,fun I=>(bb I (by kernel_rfl)).elim,?_,fun I=>(bb I (by kernel_rfl)).elim,?_,fun I=>(bb I (by kernel_rfl)).elim,?_⟩ <;> intro I <;> first | exact⟨ev aX Z,fun h=>nomatch h⟩ | exact(bb I (by kernel_rfl)).elim
     case p_10=>refine⟨fun I=>(bb I (by kernel_rfl)).elim,?_,fun I=>(bb I (by kernel_rfl)).elim,?_,fun I=>(bb I (by kernel_rfl)).elim,?_,fun I=>(bb I (by kernel_rfl)).elim,?_,fun I=>(bb I (by kernel_rfl)).elim,?_⟩ <;> intro I <;> first | exact⟨ev aX Z,fun h=>nomatch h⟩ | exact(bb I (by kernel_rfl)).elim
     case p_11=>refine⟨fun I=>(bb I (by kernel_rfl)).elim,?_,fun I=>(bb I (by kernel_rfl)).elim,?_,fun I=>(bb I (by kernel_rfl)).elim,?_,fun I=>(bb I (by kernel_rfl)).elim,?_,fun I=>(bb I (by kernel_rfl)).elim,?_⟩ <;> intro I <;> first | exact⟨dP (ev aX Z) (y:=level+1) (wrap64 (by omega)),fun h=>nomatch h⟩ | exact(bb I (by kernel_rfl)).elim
     case p_15=>refine⟨fun I=>(bb I (by kernel_rfl)).elim,?_,fun I=>(bb I (by kernel_rfl)).elim,?_,fun I=>(bb I (by kernel_rfl)).elim,?_,fun I=>(bb I (by kernel_rfl)).elim,?_,fun I=>(bb I (by kernel_rfl)).elim,?_⟩ <;> intro I <;> first | exact⟨ev aX Z,fun h=>nomatch h⟩ | exact(bb I (by kernel_rfl)).elim
     refine au ?_ Z;exact ES 55 Z
    | ok a8 i55=>
     rw[hc55] at J hb;dsimp only at J;have ed:i44 < i55:=hb.1;have aj:i55≤s.size:=by have:=hb.2;rwa [bk] at this
     have a1:=xv (l:=bc s) (c:=125) (i:=i55) (by rw[bk];exact aj);refine' W.sM aX (fun bx=>[bx,(0,fG s i55)::bx,(0,fG s i55)::bx]) [[11,8,5],[11,8,5],[13,11,8]] [12,13,14] [4,10,12] 14 (by kernel_rfl) (by kernel_rfl) Z Z ?hL_16;case' hL_16=>skip
     refine' bX (ev aX Z) ?p_17 Z Z Z (by kernel_rfl) Z ?h_17;case' h_17=>skip
     refine' bX (ev aX Z) ?p_18 Z Z Z (by kernel_rfl) Z ?h_18;case' h_18=>skip
     refine' bX (ev aX Z) ?p_19 Z Z Z (by kernel_rfl) Z ?h_19;case' h_19=>skip
     refine' bX (b9 aX Z Z Z Z Z Z Z Z Z) ?p_20 Z Z Z (by kernel_rfl) Z ?h_20;case' h_20=>skip
     refine' yg ?x_21 Z Z Z (by kernel_rfl) (fun h=>(bb h (by kernel_rfl)).elim) Z ?h_21;case x_21=>
      intro b hb g;cases b;·exact(bb hb (by kernel_rfl)).elim
      refine fD (fn:=sc) (a:=bytesOf M) aX Z Z Z Z Z Z Z Z Z Z (fun _=>rfl) (by show(keys.length+1)*16≤_;omega) ?_;refine ab ?_;refine' u9 Z ?_ ?_ ?_ ?_;all_goals try exact Z
     case' h_21=>skip
     refine' bX (ev aX Z) ?p_22 Z Z Z (by kernel_rfl) Z ?h_22;case' h_22=>skip
     refine' bX (ev aX Z) ?p_23 Z Z Z (by kernel_rfl) Z ?h_23;case' h_23=>skip
     refine' bX (ev aX Z) ?p_24 Z Z Z (by kernel_rfl) Z ?h_24;case' h_24=>skip
     refine' bX (ev aX Z) ?p_25 Z Z Z (by kernel_rfl) Z ?h_25;case' h_25=>skip
     refine' bX (dP (ev aX Z) (y:=level+1) (wrap64 (by omega))) ?p_26 Z Z Z (by kernel_rfl) Z ?h_26;case' h_26=>skip
     refine' yg ?x_27 Z Z Z (by kernel_rfl) (fun h=>(bb h (by kernel_rfl)).elim) Z ?h_27;case x_27=>
      intro b hb g;cases b;·exact(bb hb (by kernel_rfl)).elim
      refine bG [0] [] Z Z Z Z Z (((hV O (by omega) (level+1) i44 (by omega) (by omega) (by omega) (by omega)).ret (bQ hc55))) Z Z (by rfl) (by rfl) Z Z Z Z ?_;refine ab ?_;refine' u9 Z ?_ ?_ ?_ ?_;all_goals try exact Z
     case' h_27=>skip
     refine' bX (b9 aX Z Z Z Z Z Z Z Z Z) ?p_28 Z Z Z (by kernel_rfl) Z ?h_28;case' h_28=>skip
     refine' yg ?x_29 Z Z Z (by kernel_rfl) (fun h=>(bb h (by kernel_rfl)).elim) Z ?h_29;case x_29=>
      intro b hb g;cases b;·exact(bb hb (by kernel_rfl)).elim
      refine fD (fn:=JV.c) (a:=a8) aX Z Z Z Z Z Z Z Z Z Z (fun _=>rfl) (by show(acc.length+1)*80≤_;omega) ?_;refine ab ?_;refine' u9 Z ?_ ?_ ?_ ?_;all_goals try exact Z
     case' h_29=>skip
     case p_17=>refine⟨fun I=>(bb I (by kernel_rfl)).elim,?_,fun I=>(bb I (by kernel_rfl)).elim,?_,fun I=>(bb I (by kernel_rfl)).elim,?_,fun I=>(bb I (by kernel_rfl)).elim,?_⟩ <;> intro I <;> first | exact⟨ev aX Z,fun h=>nomatch h⟩ | exact(bb I (by kernel_rfl)).elim
     case p_18=>refine⟨fun I=>(bb I (by kernel_rfl)).elim,?_,fun I=>(bb I (by kernel_rfl)).elim,?_,fun I=>(bb I (by kernel_rfl)).elim,?_,fun I=>(bb I (by kernel_rfl)).elim,?_⟩ <;> intro I <;> first | exact⟨ev aX Z,fun h=>nomatch h⟩ | exact⟨eG aX Z Z Z Z,fun h=>nomatch h⟩ | exact⟨eC aX Z Z Z Z Z,fun h=>nomatch h⟩ | exact(bb I (by kernel_rfl)).elim
     case p_19=>refine⟨fun I=>(bb I (by kernel_rfl)).elim,?_,fun I=>(bb I (by kernel_rfl)).elim,?_,fun I=>(bb I (by kernel_rfl)).elim,?_,fun I=>(bb I (by kernel_rfl)).elim,?_⟩ <;> intro I <;> first | exact⟨ev aX Z,fun h=>nomatch h⟩ | exact(bb I (by kernel_rfl)).elim
     case p_20=>refine⟨fun I=>(bb I (by kernel_rfl)).elim,?_,fun I=>(bb I (by kernel_rfl)).elim,?_,fun I=>(bb I (by kernel_rfl)).elim,?_,fun I=>(bb I (by kernel_rfl)).elim,?_⟩ <;> intro I <;> first | exact⟨b9 aX Z Z Z Z Z Z Z Z Z,fun h=>nomatch h⟩ | exact(bb I (by kernel_rfl)).elim
     case p_22=>refine⟨fun I=>(bb I (by kernel_rfl)).elim,?_,fun I=>(bb I (by kernel_rfl)).elim,?_,fun I=>(bb I (by kernel_rfl)).elim,?_,fun I=>(bb I (by kernel_rfl)).elim,?_⟩ <;> intro I <;> first | exact⟨ev aX Z,fun h=>nomatch h⟩ | exact(bb I (by kernel_rfl)).elim
     case p_23=>refine⟨fun I=>(bb I (by kernel_rfl)).elim,?_,fun I=>(bb I (by kernel_rfl)).elim,?_,fun I=>(bb I (by kernel_rfl)).elim,?_,fun I=>(bb I (by kernel_rfl)).elim,?_⟩ <;> intro I <;> first | exact⟨ev aX Z,fun h=>nomatch h⟩ | exact⟨eG aX Z Z Z Z,fun h=>nomatch h⟩ | exact⟨eC aX Z Z Z Z Z,fun h=>nomatch h⟩ | exact(bb I (by kernel_rfl)).elim
     case p_24=>refine⟨fun I=>(bb I (by kernel_rfl)).elim,?_,fun I=>(bb I (by kernel_rfl)).elim,?_,fun I=>(bb I (by kernel_rfl)).elim,?_,fun I=>(bb I (by kernel_rfl)).elim,?_⟩ <;> intro I <;> first | exact⟨ev aX Z,fun h=>nomatch h⟩ | exact(bb I (by kernel_rfl)).elim
     case p_25=>refine⟨fun I=>(bb I (by kernel_rfl)).elim,?_,fun I=>(bb I (by kernel_rfl)).elim,?_,fun I=>(bb I (by kernel_rfl)).elim,?_,fun I=>(bb I (by kernel_rfl)).elim,?_⟩ <;> intro I <;> first | exact⟨ev aX Z,fun h=>nomatch h⟩ | exact(bb I (by kernel_rfl)).elim
     case p_26=>refine⟨fun I=>(bb I (by kernel_rfl)).elim,?_,fun I=>(bb I (by kernel_rfl)).elim,?_,fun I=>(bb I (by kernel_rfl)).elim,?_,fun I=>(bb I (by kernel_rfl)).elim,?_⟩ <;> intro I <;> first | exact⟨dP (ev aX Z) (y:=level+1) (wrap64 (by omega)),fun h=>nomatch h⟩ | exact(bb I (by kernel_rfl)).elim
     case p_28=>refine⟨fun I=>(bb I (by kernel_rfl)).elim,?_,fun I=>(bb I (by kernel_rfl)).elim,?_,fun I=>(bb I (by kernel_rfl)).elim,?_,fun I=>(bb I (by kernel_rfl)).elim,?_⟩ <;> intro I <;> first | exact⟨b9 aX Z Z Z Z Z Z Z Z Z,fun h=>nomatch h⟩ | exact(bb I (by kernel_rfl)).elim
     refine' bX (ev aX Z) ?p_30 Z Z Z (by kernel_rfl) Z ?h_30;case' h_30=>skip
     case p_30=>refine⟨fun I=>(bb I (by kernel_rfl)).elim,?_,fun I=>(bb I (by kernel_rfl)).elim,?_,fun I=>(bb I (by kernel_rfl)).elim,?_,fun I=>(bb I (by kernel_rfl)).elim,?_⟩ <;> intro I <;> first | exact⟨ev aX Z,fun h=>nomatch h⟩ | exact(bb I (by kernel_rfl)).elim
     refine au ?_ Z;refine bl aX Z Z Z Z Z Z Z Z (pE Z (bl aX Z Z Z Z Z Z Z Z (ab (ca (qs (aa (pE Z ?_)))))))
     cases hc25:iC (bc s) 125 i55 with
     | no ei ej=>
      refine dk [0] [] Z Z Z Z Z ((rr s 125 i55 aj hs).gG (bO hc25)) Z Z (by rfl) (fun st'=>?_);repeat' first | refine cW ?_ | refine gL ?_ | refine kt ?_
      refine dr (bO (by rw[←J,if_neg (rD hc25).1,(rD hc25).2]))
     | ok b4 i25=>
      refine bG [0] [] Z Z Z Z Z ((rr s 125 i55 aj hs).ret (bQ hc25)) Z Z (by rfl) (by rfl) Z Z Z Z ?_;rw[hc25] at a1;have en:i55 < i25:=a1.1;have b5:i25≤s.size:=by have:=a1.2;rwa [bk] at this
      refine pE Z (ab (W.cr [0,1,2,8,11,13] ⟨(O,i25,keys++[bytesOf M],acc++[a8],b4),?_⟩ ?_ Z ?_ trivial ?_ ⟨rfl,rfl,trivial⟩ Z));·
       refine⟨by omega,b0,fun h=>?_,fun h=>?_⟩;·
        subst h;rw[if_pos (nQ hc25).1,←(nQ hc25).2] at J;exact⟨b5,by rw[List.length_append,List.length_singleton];omega,by rw[List.length_append,List.length_singleton];omega,by omega,J⟩
       subst h;rw[if_neg (mc hc25).1,(mc hc25).2] at J;exact J.symm
      ·dsimp only;omega
      ·repeat' constructor
      repeat' constructor
 have hx:=hF ad;refine an (bT (bR (bP (qs (ae (aa (aZ 1 Z ?_)))))));refine bl aX Z Z Z Z Z Z Z Z (ab (qs ?_));try refine jj 1 3 Z Z Z ?_
 try refine jj 1 4 Z Z Z ?_
 refine W.ret (dS (bQ (hx)) ?_);refine ak aX [] trivial Z Z Z Z ?_ ?_;·exact⟨rfl,trivial⟩
 rw[FN];rfl
theorem vJ (s:ByteArray) (hs:s.size≤1000000000):∀ K,A4 s K
 | 0=>fun k N=>by omega
 | K+1=>fun k N level i J O hi X=>by obtain⟨I,rfl⟩:∃ I,k=I+1:=⟨k - 1,by omega⟩;have M:A4 s I:=fun k U=>vJ s hs K k (by omega);exact By s I hs level i hi (fun j h1 h2 h3=>A0 s I hs M level j h2 J h3 (by omega)) (fun j h1 h2 h3=>yW s I hs M level j h2 J h3 (by omega))
theorem xY (s:ByteArray) (hs:s.size≤1000000000):dH Tryz.prog 71 [.ptr 0 0,.d (.v (.int .i64 1))] [fG s 0] 0 (iz 128 s (fun v:JV=>.ag v.c) (dB (bc s) (3*(bc s).length+1) 1 0)):=
 vJ s hs (3*(bc s).length+2) _ (Nat.lt_succ_self _) 1 0 (by decide) (by decide) (Nat.zero_le _) (by rw[bk];omega)
abbrev zc:List A:=[.d (ci 0),.d (ci 0),.d (cs (B #[])),.d (.sl []),.d (.sl [])]
theorem zB {C:Ctx} {n:Nat} {f:List (Nat×A)} {bx:List (Nat×List A)} {gen:Nat} {G:Gh} {tmps:Array Value} {w:World} {I b1 J:Nat} {N:List Deferred} (O:C.bx=[I,b1,J]) (hs:bg C n ⟨f,bx,[],gen⟩ G tmps w) {X:Value} (U:dd X=true) {k:Nat} (hk:k=22) :
 bg { C with bx:=[I,b1,J],ds:=N } 22 ⟨[(3,.d (.v X)),(0,.ptr 0 0),(1,.ptr 1 0),(2,.ptr 2 0)],bx,[],gen⟩ G (((#[pp I,pp b1,pp J]++Array.replicate (k - #[pp I,pp b1,pp J].size) undef).setIfInBounds 6 X).setIfInBounds 3 X) w:=by
 subst hk;have h5:=hs.xJ (bs:=[I,b1,J]) (ds:=N) (fun i b hb=>hs.lent i b (by rw[O];exact hb));have hl:∀ (i b:Nat),[I,b1,J][i]? = some b→i < gen∧G.box i=some b:=fun i b hb=>by have:=hs.lent i b (by rw[O];exact hb);exact⟨(hs.gbox i b this).1,this⟩
 have t3:(((#[pp I,pp b1,pp J]++Array.replicate (22 - #[pp I,pp b1,pp J].size) undef).setIfInBounds 6 X).setIfInBounds 3 X)[3]? = some X:=by simp[Array.getElem?_setIfInBounds]
 have t0:(((#[pp I,pp b1,pp J]++Array.replicate (22 - #[pp I,pp b1,pp J].size) undef).setIfInBounds 6 X).setIfInBounds 3 X)[0]? = some (pp I):=by simp[Array.getElem?_setIfInBounds]
 have t1:(((#[pp I,pp b1,pp J]++Array.replicate (22 - #[pp I,pp b1,pp J].size) undef).setIfInBounds 6 X).setIfInBounds 3 X)[1]? = some (pp b1):=by simp[Array.getElem?_setIfInBounds]
 have t2:(((#[pp I,pp b1,pp J]++Array.replicate (22 - #[pp I,pp b1,pp J].size) undef).setIfInBounds 6 X).setIfInBounds 3 X)[2]? = some (pp J):=by simp[Array.getElem?_setIfInBounds]
 have ts:(((#[pp I,pp b1,pp J]++Array.replicate (22 - #[pp I,pp b1,pp J].size) undef).setIfInBounds 6 X).setIfInBounds 3 X).size=22:=by simp
 generalize (((#[pp I,pp b1,pp J]++Array.replicate (22 - #[pp I,pp b1,pp J].size) undef).setIfInBounds 6 X).setIfInBounds 3 X)=tm at t3 t0 t1 t2 ts ⊢;exact { h5 with
  size:=ts
  frame:=fun t a M=>by
   have M:Go.Ab.look [(3,A.d (.v X)),(0,.ptr 0 0),(1,.ptr 1 0),(2,.ptr 2 0)] t=some a:=M;rw[bU,bU,bU,bU] at M;split at M;·
    rename_i e;cases M;subst e;exact⟨X,t3,.d (.v X U)⟩
   split at M;·
    rename_i e;cases M;subst e;exact⟨pp I,t0,.ptr _ _ _ I (hl 0 I Z).1 (hl 0 I Z).2 Z⟩
   split at M;·
    rename_i e;cases M;subst e;exact⟨pp b1,t1,.ptr _ _ _ b1 (hl 1 b1 Z).1 (hl 1 b1 Z).2 Z⟩
   split at M;·
    rename_i e;cases M;subst e;exact⟨pp J,t2,.ptr _ _ _ J (hl 2 J Z).1 (hl 2 J Z).2 Z⟩
   cases M }
theorem F6 {C:Ctx} (hG:GC Tryz.prog C) {n:Nat} {f:List (Nat×A)} {bx:List (Nat×List A)} {gen:Nat} {G:Gh} {tmps:Array Value} {w:World} {I b1 J:Nat} (ad:C.bx=[I,b1,J]) (hs:bg C n ⟨f,bx,[],gen⟩ G tmps w) :
 CallsD Tryz.prog 70 #[pp I,pp b1,pp J] .returning w fun e u' w'=>∃ v M,e=.returned v∧u'=.returning∧bg { C with bx:=[I,b1,J],ds:=[] } 0 ⟨[],bx,[],gen⟩ M #[] w':=by
 refine callsD_of_wpS Tryz.func70 Z (fun c0 ai hu=>?_);refine wpS_seq (wpS_region (qp (d:=6) Z Z Z Z ?_));have N:recoverD (c0::ai)=none:=by cases c0 with | mk a b c d e f g=>subst hu;rfl
 rw[N];refine wo (d:=3) (d0:=6) (v:=.nilIface) Z Z Z Z (by rw[Array.getElem?_setIfInBounds_self,if_pos (by rw[Array.size_append,Array.size_replicate,Tryz.ntmps70];show 6 < 3+(22 - 3);omega)]) (yq ?_);refine wpS_of_wp ?_;haveI:NB { C with bx:=[I,b1,J],ds:=[] } 3:=⟨rfl⟩;haveI:GC Tryz.prog { C with bx:=[I,b1,J],ds:=[] }:=hG.xJ;refine uV (C:={ C with bx:=[I,b1,J],ds:=[] }) (n:=22) (st:=⟨[(3,.d (.v .nilIface)),(0,.ptr 0 0),(1,.ptr 1 0),(2,.ptr 2 0)],bx,[],gen⟩) (Q:=fun e st=>e=.normal∧st.bx=bx∧st.gen=gen∧st.lv=[]) ⟨G,zB ad hs Z Tryz.ntmps70⟩ ?hW ?hB;case hW=>refine ae (aa (pE Z (pu (GN Z (by kernel_rfl)) Z ?_)));refine ab (qs (W.Fi Z (ah ?_)));exact⟨rfl,rfl,rfl,rfl⟩
 case hB=>rintro e ⟨t,df⟩ w' ⟨hd,⟨f',bx',lv',gen'⟩,⟨M,aj⟩,he,O,U,X⟩;have O:bx'=bx:=O;have U:gen'=gen:=U;have X:lv'=[]:=X;subst he;subst O;subst U;subst X;refine⟨hd,.returning,by rw[←hu],_,gE (rs:=[]) Tryz.results70 (vs:=[]) Z,_,M,rfl,rfl,?_⟩;exact { aj with size:=rfl,frame:=fun t a ha=>by cases ha }
theorem GB {C:Ctx} (hG:GC Tryz.prog C) {n:Nat} {f:List (Nat×A)} {bx:List (Nat×List A)} {gen:Nat} {G:Gh} {tmps:Array Value} {w:World} {O b1 U:Nat} {a:Nat} {e:Int} (hl:dd (.int .i64 (a:Int))=true∧dd (.int .i64 e)=true) (ai:C.bx=[O,b1,U]) (hs:bg C n ⟨f,bx,[],gen⟩ G tmps w)
 {x0 x1 x2 x3 x4 y0 z0:A} (h0:aY bx 0=some [x0,x1,x2,x3,x4]) (h1:aY bx 1=some [y0]) (h2:aY bx 2=some [z0]) :
 CallsD Tryz.prog 70 #[pp O,pp b1,pp U] (.panicking [{ v:=iN 128 a e,recovered:=false }]) w fun r u' w'=>∃ v G' bx' gen',r=.returned v∧u'=.panicking [{ v:=iN 128 a e,recovered:=true }]∧aY bx' 0=some zc∧aY bx' 1=some [.d (ci a)]∧aY bx' 2=some [.d (ci e)]∧bg { C with bx:=[O,b1,U],ds:=[] } 0 ⟨[],bx',[],gen'⟩ G' #[] w':=by
 refine callsD_of_wpS Tryz.func70 Z (fun c0 aj hu=>?_);refine wpS_seq (wpS_region (qp (d:=6) Z Z Z Z ?_));have a1:recoverD (c0::aj)=some (iN 128 a e,{ c0 with mode:=.panicking [{ v:=iN 128 a e,recovered:=true }] }::aj):=by cases c0 with | mk a b c d e f g=>subst hu;rfl
 rw[a1];refine wo (d:=3) (d0:=6) (v:=iN 128 a e) Z Z Z Z (by rw[Array.getElem?_setIfInBounds_self,if_pos (by rw[Array.size_append,Array.size_replicate,Tryz.ntmps70];show 6 < 3+(22 - 3);omega)]) (yq ?_);refine wpS_of_wp ?_;haveI:NB { C with bx:=[O,b1,U],ds:=[] } 3:=⟨rfl⟩;haveI:GC Tryz.prog { C with bx:=[O,b1,U],ds:=[] }:=hG.xJ;have X:bg C n ⟨[],[(0,[.any,.any,.any,.any,.any]),(1,[.any]),(2,[.any])],[],3⟩ ⟨fun g=>if g < 3 then G.box g else none,fun _=>none⟩ tmps w:=by
  have J:∀ g b,(if g < 3 then G.box g else none)=some b→g < 3∧G.box g=some b:=fun g b h=>by
   split at h;·rename_i q;exact⟨q,h⟩
   cases h
  have hb:∀ (g:Nat) (cells cells':List A),g < 3→aY bx g=some cells→cells'.length=cells.length→(∀ (i:Nat) (a:A),cells'[i]? = some a→a=.any)→∃ b cs T,(if g < 3 then G.box g else none)=some b∧w.heap[b]? = some (.cells cs T (0,0))∧cs.size=cells'.length ∧
   (∀ (i:Nat) (u:Value),cs[i]? = some u→u.oneCell'=true)∧∀ (i:Nat) (u:Value) (a:A),cs[i]? = some u→cells'[i]? = some a→bu (bj C ⟨fun g=>if g < 3 then G.box g else none,fun _=>none⟩ 3 w) u a:=fun g cells cells' hg M hlen a6=>by
   obtain⟨b,cs,T,q1,q2,q3,q4,_⟩:=hs.box g cells M;exact⟨b,cs,T,by rw[if_pos hg];exact q1,q2,by rw[q3,hlen],q4,fun i u a _ I=>by rw[a6 i a I];exact .any _⟩
  have a7:∀ (g:Nat) (cells:List A),Go.Ab.aY [(0,[A.any,A.any,A.any,A.any,A.any]),(1,[A.any]),(2,[A.any])] g=some cells→∃ b cs T,(if g < 3 then G.box g else none)=some b∧w.heap[b]? = some (.cells cs T (0,0))∧cs.size=cells.length∧(∀ (i:Nat) (u:Value),cs[i]? = some u→u.oneCell'=true)∧∀ (i:Nat) (u:Value) (a:A),cs[i]? = some u→cells[i]? = some a→bu (bj C ⟨fun g=>if g < 3 then G.box g else none,fun _=>none⟩ 3 w) u a:=by
   intro g cells M
   match g,M with
   | 0,M=>cases M;exact hb 0 _ _ (by decide) h0 Z (fun i a h=>by have:=List.mem_of_getElem? h;simpa using this)
   | 1,M=>cases M;exact hb 1 _ _ (by decide) h1 Z (fun i a h=>by have:=List.mem_of_getElem? h;simpa using this)
   | 2,M=>cases M;exact hb 2 _ _ (by decide) h2 Z (fun i a h=>by have:=List.mem_of_getElem? h;simpa using this)
   | g+3,M=>cases M
  have ad:∀ (i b:Nat),C.bx[i]? = some b→(if i < 3 then G.box i else none)=some b:=by
   intro i b h;have hi:i < 3:=by rw[ai] at h;have:=(List.getElem?_eq_some_iff.1 h).1;simpa using this
   rw[if_pos hi];exact hs.lent i b h
  exact { size:=hs.size,frame:=fun t a I=>(by cases I),box:=a7,gbox:=fun g b h=>⟨(J g b h).1,(hs.gbox g b (J g b h).2).2⟩,inj:=fun g g' b h h'=>hs.inj g g' b (J g b h).2 (J g' b h').2,live:=fun g hg=>(by cases hg),gown:=fun g r N=>(by cases N),row:=fun g b len cap sz a8 N=>(by cases N),mrow:=fun g b bs N=>(by cases N),gcell:=fun g b h=>hs.gcell g b (J g b h).2,sub:=fun g b bs c lim N=>(by cases N),xold:=hs.xold,kold:=hs.kold,lent:=ad,fr:=hs.fr }
 refine uV (C:={ C with bx:=[O,b1,U],ds:=[] }) (n:=22) (st:=⟨[(3,.d (.v (iN 128 a e))),(0,.ptr 0 0),(1,.ptr 1 0),(2,.ptr 2 0)],[(0,[.any,.any,.any,.any,.any]),(1,[.any]),(2,[.any])],[],3⟩) (Q:=fun r st=>r=.normal∧st.lv=[]∧aY st.bx 0=some zc∧aY st.bx 1=some [.d (ci a)]∧aY st.bx 2=some [.d (ci e)]) ⟨_,zB ai X Z Tryz.ntmps70⟩ ?hW ?hB;case hW=>
  refine ae (aa (pE Z (pu (IU Z (by kernel_rfl)) Z ?_)));refine ab (qs (W.js Z (ae (aa (pE Z ?_)))));refine pu (BQ (l:=[.int .i64 (a:Int),.int .i64 e]) aX Z Z (fun v hv=>by rcases List.mem_cons.1 hv with rfl | hv;exact hl.1;rcases List.mem_cons.1 hv with rfl | hv;exact hl.2;cases hv) Z) Z ?_;refine aZ 3 Z ?_;refine bK aX Z Z Z (bl aX Z Z Z Z Z Z Z Z (pE Z (ab (qs (ae (ba 2 Z ?_))))));refine W.Fi Z (ah (qs ?_));refine' W.sM aX (fun bx=>[(0,zc)::bx,(1,[.d (ci a)])::(0,zc)::bx]) [[],[]] [4,4] [5,6] 7 (by kernel_rfl) (by kernel_rfl) Z Z ?hL_9;case' hL_9=>skip
  refine' bX (Pu.qT (build aX Z Z Z Z) Z) ?p_10 Z Z Z (by kernel_rfl) Z ?h_10;case' h_10=>skip
  refine' bX (ev aX Z) ?p_11 Z Z Z (by kernel_rfl) Z ?h_11;case' h_11=>skip
  refine' bX (ev aX Z) ?p_12 Z Z Z (by kernel_rfl) Z ?h_12;case' h_12=>skip
  refine' bX (ev aX Z) ?p_13 Z Z Z (by kernel_rfl) Z ?h_13;case' h_13=>skip
  refine' bX (ev aX Z) ?p_14 Z Z Z (by kernel_rfl) Z ?h_14;case' h_14=>skip
  refine' H9 ?x_15 Z Z Z (by kernel_rfl) ?h_15;case x_15=>
   intro b hb g;cases b;·exact(bb hb (by kernel_rfl)).elim
   refine bl aX Z Z Z Z Z Z Z Z (ab ?_);refine' HD Z ?_ ?_ ?_;all_goals try exact Z
  case' h_15=>skip
  refine' H9 ?x_16 Z Z Z (by kernel_rfl) ?h_16;case x_16=>
   intro b hb g;cases b;·exact(bb hb (by kernel_rfl)).elim
   refine bl aX Z Z Z Z Z Z Z Z (ab ?_);refine' HD Z ?_ ?_ ?_;all_goals try exact Z
  case' h_16=>skip
  case p_10=>refine⟨fun I=>(bb I (by kernel_rfl)).elim,?_,fun I=>(bb I (by kernel_rfl)).elim,?_,fun I=>(bb I (by kernel_rfl)).elim,?_⟩ <;> intro I <;> first | exact⟨Pu.qT (build aX Z Z Z Z) Z,fun h=>nomatch h⟩ | exact(bb I (by kernel_rfl)).elim
  case p_11=>refine⟨fun I=>(bb I (by kernel_rfl)).elim,?_,fun I=>(bb I (by kernel_rfl)).elim,?_,fun I=>(bb I (by kernel_rfl)).elim,?_⟩ <;> intro I <;> first | exact⟨ev aX Z,fun h=>nomatch h⟩ | exact(bb I (by kernel_rfl)).elim
  case p_12=>refine⟨fun I=>(bb I (by kernel_rfl)).elim,?_,fun I=>(bb I (by kernel_rfl)).elim,?_,fun I=>(bb I (by kernel_rfl)).elim,?_⟩ <;> intro I <;> first | exact⟨ev aX Z,fun h=>nomatch h⟩ | exact⟨eG aX Z Z Z Z,fun h=>nomatch h⟩ | exact⟨eC aX Z Z Z Z Z,fun h=>nomatch h⟩ | exact(bb I (by kernel_rfl)).elim
  case p_13=>refine⟨fun I=>(bb I (by kernel_rfl)).elim,?_,fun I=>(bb I (by kernel_rfl)).elim,?_,fun I=>(bb I (by kernel_rfl)).elim,?_⟩ <;> intro I <;> first | exact⟨ev aX Z,fun h=>nomatch h⟩ | exact(bb I (by kernel_rfl)).elim
  case p_14=>refine⟨fun I=>(bb I (by kernel_rfl)).elim,?_,fun I=>(bb I (by kernel_rfl)).elim,?_,fun I=>(bb I (by kernel_rfl)).elim,?_⟩ <;> intro I <;> first | exact⟨ev aX Z,fun h=>nomatch h⟩ | exact⟨eG aX Z Z Z Z,fun h=>nomatch h⟩ | exact⟨eC aX Z Z Z Z Z,fun h=>nomatch h⟩ | exact(bb I (by kernel_rfl)).elim
  refine au ?_ Z;refine bl aX Z Z Z Z Z Z Z Z (ab ?_);exact⟨rfl,rfl,rfl,rfl,rfl⟩
 case hB=>rintro r ⟨t,df⟩ w' ⟨hd,⟨f',bx',lv',gen'⟩,⟨G',X⟩,he,e3,q0,q1,q2⟩;have e3:lv'=[]:=e3;subst he;subst e3;refine⟨hd,_,rfl,_,gE (rs:=[]) Tryz.results70 (vs:=[]) Z,_,G',bx',gen',rfl,rfl,q0,q1,q2,?_⟩;exact { X with size:=rfl,frame:=fun t a I=>by cases I }
def oI (s:ByteArray):A:=if 65536 < s.size then .tup [.ag fH.c,.d (ci 0),.d (ci 7)] else match er (bc s) with
 | .ok v _=>.tup [.ag v.c,.d (ci 0),.d (ci 0)]
 | .no a w=>.tup [.ag fH.c,.d (ci a),.d (ci w)]
def PQ (x:PE JV):Exit→St→Prop:=fun e st=>(match x with
 | .ok v _=>e=.ret∧aY st.bx 0=some (v.c.map .d)∧aY st.bx 1=some [.d (ci 0)]∧aY st.bx 2=some [.d (ci 0)]
 | .no a w=>e=fV (iN 128 a w)∧∃ x0 I J x3 M N z0,aY st.bx 0=some [x0,I,J,x3,M]∧aY st.bx 1=some [N]∧aY st.bx 2=some [z0]) ∧
 Go.Ab.look st.f 2=some (A.ptr 0 0)∧Go.Ab.look st.f 3=some (A.ptr 1 0)∧Go.Ab.look st.f 4=some (A.ptr 2 0)
theorem Hy {C:Ctx} {n:Nat} {f:List (Nat×A)} {bx:List (Nat×List A)} {lv:List Nat} {gen:Nat} {G:Gh} {tmps:Array Value} {w:World} {c0 J c2:List A} (hs:bg C n ⟨f,bx,lv,gen⟩ G tmps w) (h0:aY bx 0=some c0) (h1:aY bx 1=some J) (h2:aY bx 2=some c2):bg C n ⟨f,[(0,c0),(1,J),(2,c2)],lv,gen⟩ G tmps w:=by
 refine { hs with box:=fun g cells I=>?_ };have I:Go.Ab.aY [(0,c0),(1,J),(2,c2)] g=some cells:=I
 match g,I with
 | 0,I=>cases I;exact hs.box 0 _ h0
 | 1,I=>cases I;exact hs.box 1 _ h1
 | 2,I=>cases I;exact hs.box 2 _ h2
 | g+3,I=>cases I
theorem Jn:jF Tryz.prog 70:=⟨_,Tryz.func70,by kernel_rfl,rfl⟩
theorem EV (M b1 N:Nat) (w:World):(invoke (.fn (.func 70) #[pp M,pp b1,pp N]) #[]).run Tryz.prog w=.ok (.enter 70 #[pp M,pp b1,pp N]) w:=by obtain⟨fn,O,I,J⟩:=Jn;simp only[invoke,callFunc,Sem.run_bind,Sem.run_pure,Result.andThen_ok,run_program,O,I,J,Bool.false_eq_true,if_false,Array.empty_append]
theorem Df (s:ByteArray):bq Tryz.prog 23 [.d (.v (.string s))] (oI s) 0:=by
 refine bq.Ix (n:=34) Tryz.func23 (by kernel_rfl) Z Tryz.ntmps23 Z fun C hC hG O U=>?_;refine aN ?_;refine aa ?_;iterate 3 refine bK aX Z Z Z ?_
 refine ab (aN ?_);refine ba 3 Z ?_;refine be Z (fun h8=>?_) (fun h8=>?_);·
  refine ae (aa (pu (build aX Z Z Z Z) Z ?_));refine iy 9 Z Z Z ?_;iterate 3 refine bl aX Z Z Z Z Z Z Z Z ?_
  refine ab (qs (W.ret ?_));intro tmps w ⟨G,hs⟩;have hg:oI s=.tup [.ag fH.c,.d (ci 0),.d (ci 7)]:=by unfold oI;rw[if_pos (by simp at h8;omega)]
  show Leaves _ _ tmps _ C.ds .returning w;rw[U,hg];exact D1 aX (rs:=[.cell 2 46,.cell 3 3,.cell 4 31]) hs O Tryz.results23 Z Z
 have b3:¬ 65536 < s.size:=by simp at h8;omega
 have X:s.size≤1000000000:=by omega
 have b4:oI s=match er (bc s) with | .ok v _=>.tup [.ag v.c,.d (ci 0),.d (ci 0)] | .no a w=>.tup [.ag fH.c,.d (ci a),.d (ci w)]:=by unfold oI;rw[if_neg b3]
 refine ah (W'.CI ?_);refine q9.pu Z Z (ev aX Z) ?_;refine q9.Dv Z (fun I b1 J tmps w G hs e0 e1 e2=>?_);have cx:NB { C with bx:=[I,b1,J],ds:=su 70 I b1 J::C.ds } 3:=⟨rfl⟩;have a7:GC Tryz.prog { C with bx:=[I,b1,J],ds:=su 70 I b1 J::C.ds }:=hG.xJ;refine uV (C:={ C with bx:=[I,b1,J],ds:=su 70 I b1 J::C.ds }) (n:=34) (Q:=PQ (er (bc s))) ⟨G,hs.xJ (fun i b hb=>?hl)⟩ ?hW ?hB;case hl=>
  match i,hb with
  | 0,hb=>cases hb;exact e0
  | 1,hb=>cases hb;exact e1
  | 2,hb=>cases hb;exact e2
  | i+3,hb=>cases hb
 case hW=>
  refine ae (aa (pE Z (pu (build aX Z Z Z Z) Z ?_)));refine cG Z Z Z (pE Z (ab (qs (ae (aa (pE Z ?_))))))
  cases hc15:dB (bc s) (3*(bc s).length+1) 1 0 with
  | no b5 b6=>
   have hp:er (bc s)=.no b5 b6:=by unfold er;rw[hc15]
   refine qZ [3] [] Z Z Z Z Z ((xY s X).gG (bO hc15)) Z Z (by rfl) ?_;repeat' refine cW ?_
   rw[hp];exact⟨⟨rfl,_,_,_,_,_,_,_,rfl,rfl,rfl⟩,rfl,rfl,rfl⟩
  | ok ch i15=>
   have hb:=(nz (bc s) (3*(bc s).length+1)).v 1 0 (Nat.zero_le _);rw[hc15] at hb;have hi:i15≤s.size:=by have:=hb.2;rwa [bk] at this
   refine bG [3] [] Z Z Z Z Z ((xY s X).ret (bQ hc15)) Z Z (by rfl) (by rfl) Z Z Z Z ?_;refine bl aX Z Z Z Z Z Z Z Z (ab (qs ?_));iterate 2 refine ae ?_
   refine aa (pE Z (bG [3] [] Z Z Z Z Z ((la s i15 hi X)) Z Z (by rfl) (by rfl) Z Z Z Z ?_));refine aZ 2 Z ?_;refine nl Z Z (fun g19=>?_) (fun g19=>?_);·
    iterate 7 refine bC Z Z Z Z ?_
    refine pE Z (ab (qs (W.js Z (aa (aZ 4 Z ?_)))));have N:bp (bc s) i15 < (bc s).length:=de fun e=>by rw[e] at g19;simp at g19
    have hp:er (bc s)=.no (bp (bc s) i15) 10:=by unfold er;rw[hc15];dsimp only;rw[if_pos N]
    refine qZ [] [] Z Z Z Z Z (dL (bp (bc s) i15) 10) Z Z (by rfl) ?_;repeat' refine cW ?_
    rw[hp];exact⟨⟨rfl,_,_,_,_,_,_,_,rfl,rfl,rfl⟩,rfl,rfl,rfl⟩
   refine bH Z Z (pE Z (bH Z Z (pE Z (bH Z Z (pE Z (bH Z Z (aZ 1 Z ?_)))))));refine bH Z Z (pE Z (bH Z Z (pE Z (bH Z Z (aZ 2 Z ?_)))));refine ab (qs (be Z (fun ad=>?_) (fun ad=>?_)));·
    refine aa (aZ 4 Z ?_);have N:bp (bc s) i15 < (bc s).length:=by rw[bk];simp at ad;omega
    have hp:er (bc s)=.no (bp (bc s) i15) 10:=by unfold er;rw[hc15];dsimp only;rw[if_pos N]
    refine qZ [] [] Z Z Z Z Z (dL (bp (bc s) i15) 10) Z Z (by rfl) ?_;repeat' refine cW ?_
    rw[hp];exact⟨⟨rfl,_,_,_,_,_,_,_,rfl,rfl,rfl⟩,rfl,rfl,rfl⟩
   have N:¬ bp (bc s) i15 < (bc s).length:=by rw[bk];simp at ad;omega
   have hp:er (bc s)=.ok ch 0:=by unfold er;rw[hc15];dsimp only;rw[if_neg N]
   refine ah (qs (ae (aa (aZ 1 Z ?_))));iterate 3 refine bl aX Z Z Z Z Z Z Z Z ?_
   refine ab (qs (W.ret ?_));rw[hp];exact⟨⟨rfl,rfl,rfl,rfl⟩,rfl,rfl,rfl⟩
 case hB=>
  rintro e ⟨M,df⟩ w2 ⟨ai,⟨f2,cj,cy,a8⟩,⟨G2,aj⟩,hq,k0,k1,k2⟩;have ai:df=su 70 I b1 J::C.ds:=ai;subst ai;have a1:bg { C with bx:=[I,b1,J],ds:=su 70 I b1 J::C.ds } 34 ⟨f2,cj,[],a8⟩ G2 M w2:={ aj with live:=fun g h=>by cases h };rw[b4];have hE:=zG (l:=bc s);have cl:=fun a w=>Dx (l:=bc s) (a:=a) (w:=w)
  cases hA:er (bc s) with
  | ok v i=>rw[hA] at hq;obtain⟨rfl,q0,q1,q2⟩:=hq;show Leaves _ _ M _ (su 70 I b1 J::C.ds) .returning w2;rw[U];refine leaves_cons (by simp) (EV I b1 J w2) (CallsD.mono (F6 a7 Z a1) ?_);rintro r u' w3 ⟨v3,G3,rfl,rfl,a6⟩;exact tY aX (rs:=[.cell 2 46,.cell 3 3,.cell 4 31]) O aj k0 k1 k2 (Hy a6 q0 q1 q2) Tryz.results23 Z Z
  | no a w=>
   rw[hA] at hq hE;obtain⟨rfl,x0,x1,x2,x3,x4,y0,z0,q0,q1,q2⟩:=hq;have ha:a≤s.size:=by have:=cl a w hA;rwa [bk] at this
   have hw:dd (.int .i64 (a:Int))=true∧dd (.int .i64 w)=true:=by refine⟨by simp[dd,IntKind.min,IntKind.max,IntKind.signed,IntKind.bits];omega,?_⟩;rcases hE with rfl | rfl | rfl | rfl <;> rfl
   show Leaves _ _ M _ (su 70 I b1 J::C.ds) (.panicking [{ v:=iN 128 a w,recovered:=false }]) w2;rw[U];refine leaves_cons (by simp) (EV I b1 J w2) (CallsD.mono (GB a7 hw Z a1 q0 q1 q2) ?_);rintro r u' w3 ⟨v3,G3,c1,cq,rfl,rfl,r0,r1,r2,a6⟩;exact tY aX (rs:=[.cell 2 46,.cell 3 3,.cell 4 31]) O aj k0 k1 k2 (Hy a6 r0 r1 r2) Tryz.results23 Z Z
theorem DF (s:ByteArray):∃ (v:JV) (a e:Int),bq Tryz.prog 23 [.d (.v (.string s))] (.tup [.ag v.c,.d (ci a),.d (ci e)]) 0∧(e≠0→j7 s=(kY,e))∧(e=0→s.size≤65536∧∃ i,er (bc s)=.ok v i):=by
 have h:=Df s;unfold oI at h;by_cases hs:65536 < s.size;·
  rw[if_pos hs] at h;exact⟨_,_,_,h,fun _=>by unfold j7;rw[if_pos hs],fun q=>by cases q⟩
 rw[if_neg hs] at h
 cases hp:er (bc s) with
 | ok v i=>rw[hp] at h;exact⟨v,_,_,h,fun q=>absurd Z q,fun _=>⟨by omega,i,rfl⟩⟩
 | no a w=>rw[hp] at h;have hw:=zG (l:=bc s);rw[hp] at hw;have hw:w=2∨w=4∨w=10∨w=20:=hw;exact⟨_,_,_,h,fun _=>by unfold j7;rw[if_neg hs,hp],fun q=>by omega⟩
theorem BL {z:gC} {id:Int} {cur:List Ev} {ps:List bw} (h:cur=[]→fm z id=[]) (q:cur.map Ev.c=[]) :
 ([[.own 3 ((ps++fm z id).map bw.c)],[.d (ci id)],[.d (ci (cur.length:Int))]]:List (List A))=[[.own 3 (ps.map bw.c)],[.d (ci id)],[.d (ci 0)]]∧1=1:=by
 have q:cur=[]:=by simpa using q
 rw[h q,q,List.append_nil];exact⟨rfl,rfl⟩
set_option maxHeartbeats 1000000 in
theorem A2 (s:ByteArray) (hG0:∀ v i,er (bc s)=.ok v i→BB v):bq Tryz.prog 9 [.d (.v (.string s))] (.tup [.ag (j7 s).1.c,.d (ci (j7 s).2)]) 0:=by
 obtain⟨v,a,e,hP,hPe,hP0⟩:=DF s
 refine bq.IM aX (n:=107) (rs:=[.cell 2 30,.tmp 3]) Tryz.func9 (by kernel_rfl) rfl Tryz.ntmps9 Tryz.results9 rfl fun C hbx hG=>?_
 haveI hC:NB C 0:=⟨by rw[hbx];rfl⟩
 refine Wd.iY hbx fun C hC hG=>?_
 refine aa (bK aX rfl rfl rfl (pE rfl (ab (kR rfl ?_))))
 refine Wd.iY hbx fun C hC hG=>?_
 refine aa (pE rfl (pu (bm rfl rfl rfl hP rfl) rfl ?_))
 refine aZ 4 rfl ?_
 refine bK aX rfl rfl rfl (bl aX rfl rfl rfl rfl rfl rfl rfl rfl (aZ 2 rfl ?_))
 refine ab (kR rfl ?_)
 refine Wd.iY hbx fun C hC hG=>?_
 refine ba 2 rfl ?_
 refine be rfl (fun h25=>?_) (fun h25=>?_)
 ·
  have hg:=hPe (by simpa using h25)
  refine ae (aa (pu (ld (build aX rfl rfl rfl rfl) rfl) rfl ?_))
  refine pE rfl (bl aX rfl rfl rfl rfl rfl rfl rfl rfl (pE rfl (ab (qs (W.ret (wS rfl ?_))))))
  refine yc ?_
  refine⟨trivial,_,rfl,?_⟩
  rw[hg];rfl
 have he0:e=0:=by simpa using h25
 obtain⟨hsz,i,hpj⟩:=hP0 he0
 have hGv:=hG0 v i hpj
 have hE:j7 s=if v.op≠5 then (kY,10) else if (eg v.kids x0).2≠0 then (kY,(eg v.kids x0).2) else fY ((eg v.kids x0).1.ids.map (lZ (eg v.kids x0).1)) ((eg v.kids x0).1.ids.flatMap (fm (eg v.kids x0).1)):=by unfold j7;rw[if_neg (by omega),hpj]
 refine ah (kR rfl ?_)
 refine Wd.iY hbx fun C hC hG=>?_
 refine ba 3 rfl ?_
 refine be rfl (fun h30=>?_) (fun h30=>?_)
 ·
  have hg:j7 s=(kY,10):=by rw[hE,if_pos (by simpa using h30)]
  refine ae (aa (pu (ld (build aX rfl rfl rfl rfl) rfl) rfl ?_))
  refine bl aX rfl rfl rfl rfl rfl rfl rfl rfl (pE rfl (ab (qs (W.ret (wS rfl ?_)))))
  refine yc ?_
  refine⟨trivial,_,rfl,?_⟩
  rw[hg];rfl
 have hop:¬ v.op≠5:=by simpa using h30
 rw[if_neg hop] at hE
 refine ah (kR rfl ?_)
 refine Wd.iY hbx fun C hC hG=>?_
 refine aa (mkMap rfl ?_)
 refine GV rfl ?_
 refine pu (build aX rfl rfl rfl rfl) rfl ?_
 refine cG rfl rfl rfl (pE rfl (ab (kR rfl ?_)))
 refine Wd.iY hbx fun C hC hG=>?_
 refine ba 4 rfl ?_
 refine W.block (eZ 4 0 rfl rfl rfl ?_)
 refine W.len (t:=37) rfl rfl (fun hlen=>?_)
 try simp only[List.length_map,Ex.bA] at hlen
 refine W.b7 (ι:={x:Nat×gC // match x with | (k,z)=>k≤v.kids.length∧eg (v.kids.drop k) z=eg v.kids x0∧vW k z∧HL z})
  (fun x=>match x.1 with | (k,z)=>[(2,.ptr 0 0),(7,.ptr 1 0),(39,.d (.v (.int .i64 ((k:Nat):Int))))]) [(37,_),(38,_)]
  (fun x=>match x.1 with | (k,z)=>[(0,[.d (.v (.slice none 0 0)),.d (.v (.slice none 0 0)),.d (.v (.slice none 0 0)),.d (.v (.slice none 0 0))]),(1,uA 2 z)]) [] [2,3,4] 5 (fun x=>match x.1 with | (k,z)=>v.kids.length - k)
  [0,4,5,2,3] ⟨(0,x0),?_⟩ rfl ?_ ⟨rfl,rfl,rfl,rfl,trivial⟩ ?_ trivial rfl ?_
 · exact⟨Nat.zero_le _,rfl,⟨List.nodup_nil,List.nodup_nil,Nat.le_refl _,by simp[x0]⟩,List.nodup_nil,by simp[x0]⟩
 · repeat' first | exact trivial | refine⟨rfl,?_⟩
 · repeat' first | exact trivial | refine⟨rfl,?_⟩
 rintro⟨⟨k,z⟩,hk,hI,hC1,hC2⟩
 show W _ _ _ _ _ ⟨[(2,.ptr 0 0),(7,.ptr 1 0),(39,.d (.v (.int .i64 ((k:Nat):Int)))),(37,_),(38,_)],[(0,[.d (.v (.slice none 0 0)),.d (.v (.slice none 0 0)),.d (.v (.slice none 0 0)),.d (.v (.slice none 0 0))]),(1,uA 2 z)],[2,3,4],5⟩
 refine ba 1 rfl ?_
 refine ae (cB (l:=v.kids) (k:=k) rfl (by simp[JV.bA]) hk (fun j hx hd hlt=>?_) (fun he hd=>?_))
 ·
  have hjk:yI j:=hGv.kids j (List.mem_of_getElem? hx)
  have hjt:=hGv.tids j (List.mem_of_getElem? hx)
  have hv5:=hGv.len
  have hkm:v.kids.length≤maxLen:=by simp only[maxLen];omega
  have hOk:vW 1000000 z:=⟨hC1.1,hC1.2.1,by have:=hC1.2.2.1;omega,fun p hp=>by have:=hC1.2.2.2 p hp;omega⟩
  rw[hd,eg] at hI
  refine ah (qs (ae (W.block (ae (aa (pu (indexAddr (l:=j.c) aX rfl rfl rfl rfl rfl rfl (Int.natCast_nonneg _) (JV.CF hx) rfl) rfl ?_))))))
  refine aZ 1 rfl ?_
  refine bK aX rfl rfl rfl (bl aX rfl rfl rfl rfl rfl rfl rfl rfl (ab (qs (ae (aa (aZ 2 rfl ?_))))))
  refine bG [1] [2,3,4] rfl rfl rfl rfl rfl ((C3 z j hjk hOk)) rfl rfl (by rfl) (by rfl) rfl rfl rfl rfl ?_
  refine pE rfl (ab (qs (ba 2 rfl ?_)))
  refine be rfl (fun h47=>?_) (fun h47=>?_)
  ·
   have hbad:(eV z j).2≠0:=by simpa using h47
   rw[if_pos hbad] at hI
   have hg:j7 s=(kY,(eV z j).2):=by rw[hE,if_pos (by rw[←hI];exact hbad),←hI]
   refine ae (aa (pu (ld (build aX rfl rfl rfl rfl) rfl) rfl ?_))
   refine pE rfl (bl aX rfl rfl rfl rfl rfl rfl rfl rfl (pE rfl (ab (qs (W.ret (bz (bo (dI (bz (wS rfl ?_))))))))))
   refine yc ?_
   refine⟨trivial,_,rfl,?_⟩
   rw[hg];rfl
  rw[if_neg (by simpa using h47)] at hI
  refine ah (ca (qs (cQ 2 rfl ?_)))
  refine W.cr [0,1,7,8,9] ⟨(k+1,(eV z j).1),?_⟩ ?_ rfl ?_ ⟨rfl,rfl,rfl,rfl,trivial⟩ ?_ trivial rfl
  · exact⟨hlt,hI,DT hC1 j,Et hC2 hjt⟩
  · dsimp only;omega
  · repeat' first | exact trivial | refine⟨rfl,?_⟩ | refine⟨bJ (by assumption) (by assumption),?_⟩
  repeat' first | exact trivial | refine⟨rfl,?_⟩
 rw[hd] at hI
 have hI:(z,0)=eg v.kids x0:=hI
 have hev:=hGv.evs
 rw[←hI] at hev hE
 have hev:=hev rfl
 have hE:j7 s=fY (z.ids.map (lZ z)) (z.ids.flatMap (fm z)):=hE
 have hOS:=GL hev
 have hxl:z.ids.length≤maxLen:=by have:=hC1.2.2.1;have:=hGv.len;simp only[maxLen];omega
 have hxl2:z.ids.length≤100000:=by have:=hC1.2.2.1;have:=hGv.len;omega
 refine an (bT (bR (bP (kR rfl ?_))))
 refine Wd.iY hbx fun C hC hG=>?_
 refine aa (pu (ld (build aX rfl rfl rfl rfl) rfl) rfl ?_)
 refine pu (b9 aX rfl rfl rfl rfl rfl rfl rfl rfl rfl) rfl ?_
 refine pu (build aX rfl rfl rfl rfl) rfl ?_
 refine bK aX rfl rfl rfl (bl aX rfl rfl rfl rfl rfl rfl rfl rfl (ab (kR rfl ?_)))
 refine Wd.iY hbx fun C hC hG=>?_
 refine aa (bK aX rfl rfl rfl (ab (kR rfl ?_)))
 refine aH ?_
 refine Wd.iY hbx fun C hC hG=>?_
 refine eZ 5 0 rfl rfl rfl ?_
 refine jj 5 2 rfl rfl rfl ?_
 refine eZ 6 0 rfl rfl rfl ?_
 refine cQ 6 rfl ?_
 refine kR rfl ?_
 refine Wd.block ?_
 refine Wd.b7 (ι:={x:Nat×List dc×List bw // match x with | (k,ts,ps)=>k≤z.ids.length∧ts=(z.ids.take k).map (lZ z)∧ps=(z.ids.take k).flatMap (fm z)})
  (fun x=>match x.1 with | (k,ts,ps)=>[(2,.ptr 0 0),(7,.ptr 1 0),(11,.ptr 2 0),(12,.ptr 3 0),(57,.own 4 (z.ids.map ic)),(59,.d (.v (.int .i64 ((k:Nat):Int))))]) [(58,_)]
  (fun x=>match x.1 with | (k,ts,ps)=>[(0,[.d (.v (.slice none 0 0)),.d (.v (.slice none 0 0)),.d (.v (.slice none 0 0)),.d (.v (.slice none 0 0))]),(1,uA 4 z),(2,[.own 7 (ts.map dc.c),.d (.sl (ep.map dC)),.d (.sl [])]),(3,[.own 8 (ps.map bw.c)])]) [] [4,5,6,7,8] 9 (fun x=>match x.1 with | (k,ts,ps)=>z.ids.length - k)
  [0,1,5,6,2,3,4,7,8] ⟨(0,[],[]),?_⟩ rfl ?_ ⟨rfl,rfl,trivial⟩ ?_ trivial rfl ?_
 · exact⟨Nat.zero_le _,rfl,rfl⟩
 · repeat' first | exact trivial | refine⟨rfl,?_⟩
 · repeat' first | exact trivial | refine⟨rfl,?_⟩
 rintro⟨⟨k,ts,ps⟩,hk,hts,hps⟩
 show Wd _ _ _ _ _ ⟨[(2,.ptr 0 0),(7,.ptr 1 0),(11,.ptr 2 0),(12,.ptr 3 0),(57,.own 4 (z.ids.map ic)),(59,.d (.v (.int .i64 ((k:Nat):Int)))),(58,_)],[(0,[.d (.v (.slice none 0 0)),.d (.v (.slice none 0 0)),.d (.v (.slice none 0 0)),.d (.v (.slice none 0 0))]),(1,uA 4 z),(2,[.own 7 (ts.map dc.c),.d (.sl (ep.map dC)),.d (.sl [])]),(3,[.own 8 (ps.map bw.c)])],[4,5,6,7,8],9⟩
 refine Wd.iY hbx fun C hC hG=>?_
 refine cQ 1 rfl ?_
 refine kR rfl ?_
 refine Wd.iY hbx fun C hC hG=>?_
 refine cB (l:=z.ids) (k:=k) rfl (by simp[Ex.bA,bk]) hk (fun id hx hd hlt=>?_) (fun he hd=>?_)
 ·
  have hid:=hC2.2 id (List.mem_of_getElem? hx)
  obtain⟨cur,hcur⟩:∃ cur,cur=(cb z.evs id).getD []:=⟨_,rfl⟩
  have hpk:cur≠[]→fm z id=[⟨id,0,0,cur⟩]:=fun q=>by unfold fm;rw[←hcur,if_neg q]
  have hpk0:cur=[]→fm z id=[]:=fun q=>by unfold fm;rw[←hcur,if_pos q]
  have hcl:(cur.map Ev.c).length≤1000:=by
   rw[List.length_map]
   by_cases q:cur=[]
   · simp[q]
   have hm:(⟨id,0,0,cur⟩:bw)∈z.ids.flatMap (fm z):=List.mem_flatMap.2 ⟨id,List.mem_of_getElem? hx,by rw[hpk q];exact List.mem_singleton.2 rfl⟩
   exact Nat.le_trans (z7 hm) hev
  have htl:ts.length≤100000:=by rw[hts,List.length_map,List.length_take];omega
  have hpl:ps.length≤100000:=by rw[hps];exact pZ z (z.ids.take k) (by rw[List.length_take];omega)
  have htx:ts++[lZ z id]=(z.ids.take (k+1)).map (lZ z):=by rw[hts,List.take_add_one,hx,List.map_append];rfl
  have hpx:ps++fm z id=(z.ids.take (k+1)).flatMap (fm z):=by rw[hps,List.take_add_one,hx,List.flatMap_append];simp
  have hnm:nameOf z.names id=if (cb z.names id).getD cC=cC then B #[116]++dZ id else (cb z.names id).getD cC:=rfl
  refine ah (kR rfl ?_)
  refine aH ?_
  refine Wd.block ?_
  refine Wd.iY hbx fun C hC hG=>?_
  refine aa (pu (indexAddr aX rfl rfl rfl rfl rfl rfl (Int.natCast_nonneg _) (bN (f:=ic) hx) rfl) rfl ?_)
  refine aZ 1 rfl ?_
  refine bK aX rfl rfl rfl (bl aX rfl rfl rfl rfl rfl rfl rfl rfl (ab (kR rfl ?_)))
  refine Wd.iY hbx fun C hC hG=>?_
  refine W.fC aX (by kernel_rfl) ?_
  iterate 3 refine bF (ev aX rfl) rfl ?_
  refine bF (ev aX rfl) rfl ?_
  refine bF (ev aX rfl) rfl ?_
  refine bF (jS (kf:=ik) (vf:=cs) (l:=z.names) (a:=id) (z:=cC) aX rfl rfl rfl rfl rfl (eY (aX.eS rfl rfl)) rfl rfl rfl (fun _ _=>.v _ rfl) hC1.1 rfl) rfl ?_
  refine bF (ev aX rfl) rfl ?_
  refine aq ?_
  refine kR rfl ?_
  refine Wd.iY hbx fun C hC hG=>?_
  refine ba 2 rfl ?_
  refine W.oO [(2,.ptr 0 0),(7,.ptr 1 0),(11,.ptr 2 0),(12,.ptr 3 0),(14,.ptr 4 0),(15,.d (cs (nameOf z.names id))),(57,.own 5 (z.ids.map ic))] [58,59] [(0,[.d (.v (.slice none 0 0)),.d (.v (.slice none 0 0)),.d (.v (.slice none 0 0)),.d (.v (.slice none 0 0))]),(1,uA 5 z),(2,[.own 8 (ts.map dc.c),.d (.sl (ep.map dC)),.d (.sl [])]),(3,[.own 9 (ps.map bw.c)]),(4,[.d (ci id)])] [] [5,6,7,8,9] 10 ?_ ?_
  ·
   refine be rfl (fun h70=>?_) (fun h70=>?_)
   ·
    have hn0:(cb z.names id).getD cC=cC:=of_decide_eq_true h70
    rw[show nameOf z.names id=B #[116]++dZ id from by rw[hnm,if_pos hn0]]
    refine aa (aZ 1 rfl ?_)
    refine pu (bm rfl rfl rfl (oy id (by omega) (by omega)) rfl) rfl ?_
    refine pu (Ie (p:=B #[116]) (q:=dZ id) rfl rfl (Hm hid)) rfl ?_
    refine pE rfl (ab (eJ [0,1,2,3,9,4,5,6,7,8] rfl ?_ ⟨rfl,rfl,rfl,rfl,trivial⟩ ?_ trivial rfl))
    · repeat' first | exact trivial | refine⟨rfl,?_⟩
    repeat' first | exact trivial | refine⟨rfl,?_⟩
   have hn0:¬ (cb z.names id).getD cC=cC:=of_decide_eq_false h70
   rw[show nameOf z.names id=(cb z.names id).getD cC from by rw[hnm,if_neg hn0]]
   refine ah (eJ [0,1,2,3,9,4,5,6,7,8] rfl ?_ ⟨rfl,rfl,rfl,rfl,trivial⟩ ?_ trivial rfl)
   · repeat' first | exact trivial | refine⟨rfl,?_⟩
   repeat' first | exact trivial | refine⟨rfl,?_⟩
  refine kR rfl ?_
  refine Wd.iY hbx fun C hC hG=>?_
  refine aa (aZ 4 rfl ?_)
  refine pu (build aX rfl rfl rfl rfl) rfl ?_
  refine pu (b9 aX rfl rfl rfl rfl rfl rfl rfl rfl rfl) rfl ?_
  refine fD (fn:=dc.c) (a:=lZ z id) aX rfl rfl rfl rfl rfl rfl rfl rfl rfl rfl (fun _=>rfl) (by show(ts.length+1)*32≤_;omega) ?_
  refine pE rfl (bl aX rfl rfl rfl rfl rfl rfl rfl rfl (ab (kR rfl ?_)))
  refine Wd.iY hbx fun C hC hG=>?_
  refine aa (bK aX rfl rfl rfl (bl aX rfl rfl rfl rfl rfl rfl rfl rfl (ab (kR rfl ?_))))
  refine Wd.iY hbx fun C hC hG=>?_
  refine W.fC aX (by kernel_rfl) ?_
  iterate 3 refine bF (ev aX rfl) rfl ?_
  refine bF (ev aX rfl) rfl ?_
  refine bF (ev aX rfl) rfl ?_
  refine bF (DI (kf:=ik) (fn:=Ev.c) (l:=z.evs) (a:=id) (r:=cur.map Ev.c) aX rfl rfl rfl rfl rfl (eY (aX.eS rfl rfl)) rfl rfl rfl hC1.2.1 (by rw[hcur])) rfl ?_
  refine bF (bm rfl rfl rfl (D5 cur) rfl) rfl ?_
  refine aq ?_
  refine kR rfl ?_
  refine Wd.block ?_
  refine Wd.Ii (V:=[(12,.ptr 0 0),(14,.ptr 1 0),(16,.ptr 2 0)]) (es:=cur.map Ev.c) (b1:=[[.own 3 ((ps++fm z id).map bw.c)],[.d (ci id)],[.d (ci (cur.length:Int))]]) (k:=1) rfl ⟨_,Tryz.func77,by kernel_rfl,by kernel_rfl⟩ Ez CA hcl rfl rfl [3,4,11] [9] rfl rfl rfl rfl rfl (aJ ⟨⟨_,rfl,rfl⟩,⟨_,rfl,rfl⟩,⟨_,rfl,rfl⟩,trivial⟩) rfl (BL hpk0) (fun hne=>?_) rfl ?_
  have hne:cur≠[]:=by simpa using hne
  rw[show fm z id=[⟨id,0,0,cur⟩] from hpk hne]
  ·
   refine qS.JK rfl rfl rfl fun C hC hG=>?_
   refine aZ 4 rfl ?_
   refine pu (build aX rfl rfl rfl rfl) rfl ?_
   refine pu (b9 aX rfl rfl rfl rfl rfl rfl rfl rfl rfl) rfl ?_
   refine fD (fn:=bw.c) (a:=⟨id,0,0,cur⟩) aX rfl rfl rfl rfl rfl rfl rfl rfl rfl rfl (fun _=>rfl) (by show(ps.length+1)*48≤_;omega) ?_
   refine bl aX rfl rfl rfl rfl rfl rfl rfl rfl (ab (⟨rfl,?_⟩))
   refine aZ 3 rfl ?_
   refine pu (dP (ev aX rfl) (y:=(cur.length:Int)) (by show IntKind.i64.wrap ((0:Int)+((cur.map Ev.c).length:Nat))=_;rw[List.length_map] at hcl ⊢;rw[wrap64 (by omega)];omega)) rfl ?_
   refine bl aX rfl rfl rfl rfl rfl rfl rfl rfl (ab (⟨rfl,QR.mk' [4] rfl rfl rfl ⟨⟨_,rfl,rfl⟩,⟨_,rfl,rfl⟩,⟨_,rfl,rfl⟩,trivial⟩⟩))
  refine ca (ca (IZ ?_))
  refine Wd.GF hbx fun C hC hG=>?_
  refine cQ 2 rfl ?_
  refine JN rfl ?_
  refine Wd.cr [0,1,2,3,5,6,7,10,15] ⟨(k+1,ts++[lZ z id],ps++fm z id),?_⟩ ?_ rfl ?_ ⟨rfl,rfl,trivial⟩ ?_ trivial rfl
  · exact⟨hlt,htx,hpx⟩
  · dsimp only;omega
  · repeat' first | exact trivial | refine⟨rfl,?_⟩ | refine⟨bJ (by assumption) (by assumption),?_⟩
  repeat' first | exact trivial | refine⟨rfl,?_⟩
 have hts2:ts=z.ids.map (lZ z):=by rw[hts,List.take_of_length_le (by omega)]
 have hps2:ps=z.ids.flatMap (fm z):=by rw[hps,List.take_of_length_le (by omega)]
 have hOS:uk (z.ids.map (lZ z)) (z.ids.flatMap (fm z)):=hOS
 rw[←hts2,←hps2] at hOS hE
 refine an (HF rfl ?_)
 refine F4 ?_
 refine FI ?_
 refine bP (IZ ?_)
 refine Wd.iY hbx fun C hC hG=>?_
 refine aa (aZ 2 rfl ?_)
 refine pu (bm rfl rfl rfl (B2 ts ps hOS) rfl) rfl ?_
 refine aZ 2 rfl ?_
 refine bl aX rfl rfl rfl rfl rfl rfl rfl rfl (pE rfl (ab (kR rfl ?_)))
 refine Wd.GF hbx fun C hC hG=>?_
 refine W.ret (wS rfl ?_)
 refine⟨trivial,_,rfl,?_⟩
 rw[hE];rfl
abbrev BE:ByteArray:=B #[91,123,34,112,104,34,58,34,77,34,44,34,116,105,100,34,58,51,44,34,110,97,109,101,34,58,34,109,97,105,110,34,125,44,123,34,112,104,34,58,34,66,34,44,34,116,105,100,34,58,51,44,34,110,97,109,101,34,58,34,97,34,44,34,116,115,34,58,53,125,44,123,34,112,104,34,58,34,69,34,44,34,116,105,100,34,58,51,44,34,116,115,34,58,57,125,93]
abbrev Fb:ByteArray:=B #[91,123,34,112,104,34,58,34,69,34,44,34,116,105,100,34,58,51,44,34,116,115,34,58,57,44,34,110,97,109,101,34,58,34,97,34,125,93]
abbrev uW:List dc:=[⟨3,B #[109,97,105,110]⟩]
abbrev vv:List bw:=[⟨3,0,0,[⟨5,1,B #[97],0,0,[]⟩,⟨9,2,B #[],0,0,[]⟩]⟩]
theorem Jc:j7 BE=(⟨uW,ep,vv⟩,0):=by kernel_rfl
theorem Jk:(j7 Fb).2=10:=by kernel_rfl
theorem Jg:(j7 (B #[91,93])).2=8:=by kernel_rfl
theorem Jx:nh uW vv=(BE,0):=by kernel_rfl
theorem JB:uk uW vv:=⟨by decide,by decide,by decide⟩
theorem Jz:(bt (jE uW vv)).length≤1000000000000:=by
 have:(bt (jE uW vv)).length=97:=by kernel_rfl
 omega
theorem AV (s:ByteArray) (h:s.size≤3000):bq Tryz.prog 9 [.d (.v (.string s))] (.tup [.ag (j7 s).1.c,.d (ci (j7 s).2)]) 0:=A2 s fun v i hp=>Bu hp h
theorem vQ:bq Tryz.prog 8 [] (.d (.v (.bool true))) 0:=by
 have h1:=AV BE (by decide);rw[Jc] at h1;have h2:=AV Fb (by decide);rw[Jk] at h2;have h3:=AV (B #[91,93]) (by decide);rw[Jg] at h3;have h4:=tO uW vv JB (fun _=>Jz);rw[Jx] at h4;refine bq.bZ (n:=75) (ts:=[0]) Tryz.func8 (by kernel_rfl) Z Tryz.ntmps8 Tryz.results8 Z Z fun C hC I=>?_;refine ba 1 Z ?_;refine ae (aa (pu (bm Z Z Z h1 Z) Z ?_));refine aZ 3 Z ?_;refine bK aX Z Z Z (bl aX Z Z Z Z Z Z Z Z (pE Z (ab (qs (ae (aa (aZ 1 Z ?_)))))));refine pu (bm Z Z Z h4 Z) Z ?_;refine aZ 5 Z ?_;refine ab (qs (ae (aa (pu (bm Z Z Z h2 Z) Z ?_))));refine aZ 3 Z ?_;refine bK aX Z Z Z (bl aX Z Z Z Z Z Z Z Z (pE Z (ab (qs (ae (aa (pu (bm Z Z Z h3 Z) Z ?_)))))));refine aZ 3 Z ?_;refine bK aX Z Z Z (bl aX Z Z Z Z Z Z Z Z (pE Z (ab (qs (ae ?_)))));apply bL;(case hb=>rfl);·
  refine aZ 3 Z ?_;apply b8;(case hj=>rfl);(case hl=>rfl);·
   refine bH Z Z (pE Z (bH Z Z (pE Z (bH Z Z (aZ 1 Z ?_)))));refine bH Z Z (pE Z (bH Z Z (aZ 3 Z ?_)));apply b8;(case hj=>rfl);(case hl=>rfl);·
    refine bH Z Z (pE Z (bH Z Z (pE Z (bH Z Z (aZ 1 Z ?_)))));refine bH Z Z (pu (indexAddr (l:=dc.c ⟨3,B #[109,97,105,110]⟩) aX Z Z Z Z Z Z (by decide) Z Z) Z ?_);refine bH Z Z (aZ 1 Z ?_);refine bH Z Z (pu (build aX Z Z Z Z) Z ?_);refine bH Z Z (aZ 3 Z ?_);apply b8;(case hj=>rfl);(case hl=>rfl);·
     refine bH Z Z (pE Z (bH Z Z (aZ 1 Z ?_)));refine bH Z Z (pE Z (bH Z Z (aZ 3 Z ?_)));apply b8;(case hj=>rfl);(case hl=>rfl);·
      refine bH Z Z (pE Z (bH Z Z (aZ 1 Z ?_)));refine bH Z Z (pu (indexAddr (l:=bw.c ⟨3,0,0,[⟨5,1,B #[97],0,0,[]⟩,⟨9,2,B #[],0,0,[]⟩]⟩) aX Z Z Z Z Z Z (by decide) Z Z) Z ?_);refine bH Z Z (pE Z (bH Z Z (aZ 1 Z ?_)));refine bH Z Z (pE Z (bH Z Z (aZ 3 Z ?_)));apply b8;(case hj=>rfl);(case hl=>rfl);·
       refine bH Z Z (pE Z (bH Z Z (aZ 3 Z ?_)));apply b8;(case hj=>rfl);(case hl=>rfl);·
        refine bH Z Z (pE Z (bH Z Z (aZ 3 Z ?_)));apply b8;(case hj=>rfl);(case hl=>rfl);·
         refine bH Z Z (pE Z (bH Z Z (aZ 3 Z ?_)));apply b8;(case hj=>rfl);(case hl=>rfl);·
          refine bH Z Z (pE Z (bH Z Z (aZ 3 Z ?_)));refine ab (cc Z Z Z)
         iterate 2 refine bC Z Z Z Z ?_
         refine aZ 2 Z ?_;refine ab (cc Z Z Z)
        iterate 2 refine bC Z Z Z Z ?_
        refine aZ 2 Z ?_;iterate 2 refine bC Z Z Z Z ?_
        refine aZ 2 Z ?_;refine ab (cc Z Z Z)
       iterate 2 refine bC Z Z Z Z ?_
       refine aZ 2 Z ?_;iterate 2 refine bC Z Z Z Z ?_
       refine aZ 2 Z ?_;iterate 2 refine bC Z Z Z Z ?_
       refine aZ 2 Z ?_;refine ab (cc Z Z Z)
      iterate 2 refine bC Z Z Z Z ?_
      refine aZ 2 Z ?_;iterate 2 refine bC Z Z Z Z ?_
      refine aZ 2 Z ?_;iterate 2 refine bC Z Z Z Z ?_
      refine aZ 2 Z ?_;iterate 2 refine bC Z Z Z Z ?_
      refine aZ 2 Z ?_;refine ab (cc Z Z Z)
     iterate 7 refine bC Z Z Z Z ?_
     refine aZ 2 Z ?_;iterate 2 refine bC Z Z Z Z ?_
     refine aZ 2 Z ?_;iterate 2 refine bC Z Z Z Z ?_
     refine aZ 2 Z ?_;iterate 2 refine bC Z Z Z Z ?_
     refine aZ 2 Z ?_;iterate 2 refine bC Z Z Z Z ?_
     refine aZ 2 Z ?_;refine ab (cc Z Z Z)
    iterate 4 refine bC Z Z Z Z ?_
    refine aZ 2 Z ?_;iterate 7 refine bC Z Z Z Z ?_
    refine aZ 2 Z ?_;iterate 2 refine bC Z Z Z Z ?_
    refine aZ 2 Z ?_;iterate 2 refine bC Z Z Z Z ?_
    refine aZ 2 Z ?_;iterate 2 refine bC Z Z Z Z ?_
    refine aZ 2 Z ?_;iterate 2 refine bC Z Z Z Z ?_
    refine aZ 2 Z ?_;refine ab (cc Z Z Z)
   iterate 7 refine bC Z Z Z Z ?_
   refine aZ 2 Z ?_;iterate 4 refine bC Z Z Z Z ?_
   refine aZ 2 Z ?_;iterate 7 refine bC Z Z Z Z ?_
   refine aZ 2 Z ?_;iterate 2 refine bC Z Z Z Z ?_
   refine aZ 2 Z ?_;iterate 2 refine bC Z Z Z Z ?_
   refine aZ 2 Z ?_;iterate 2 refine bC Z Z Z Z ?_
   refine aZ 2 Z ?_;iterate 2 refine bC Z Z Z Z ?_
   refine aZ 2 Z ?_;refine ab (cc Z Z Z)
  iterate 5 refine bC Z Z Z Z ?_
  refine aZ 2 Z ?_;iterate 7 refine bC Z Z Z Z ?_
  refine aZ 2 Z ?_;iterate 4 refine bC Z Z Z Z ?_
  refine aZ 2 Z ?_;iterate 7 refine bC Z Z Z Z ?_
  refine aZ 2 Z ?_;iterate 2 refine bC Z Z Z Z ?_
  refine aZ 2 Z ?_;iterate 2 refine bC Z Z Z Z ?_
  refine aZ 2 Z ?_;iterate 2 refine bC Z Z Z Z ?_
  refine aZ 2 Z ?_;iterate 2 refine bC Z Z Z Z ?_
  refine aZ 2 Z ?_;refine ab (cc Z Z Z)
 refine qs (W.ret (QF.br trivial Z ?_));rfl
theorem Hx (l:fb):bq Tryz.prog 14 [.ag l.c] (.d (.v (.bool (xQ l)))) 0:=by
 refine bq.bZ (n:=54) (ts:=[2]) Tryz.func14 (by kernel_rfl) Z Tryz.ntmps14 Tryz.results14 Z Z fun C hC U=>?_;refine ae (aa (cG Z Z Z (pE Z (ab (qs (ba 1 Z ?_))))));refine ae (ba 1 Z ?_);refine W.block ?_
 refine W.b7 (ι:={x:Nat×Int // match x with | (k,n)=>k≤l.ps.length∧k≤9∧nX ((l.ps.take 9).drop k) n=nX (l.ps.take 9) 0})
  (fun x=>match x.1 with | (k,n)=>[(1,.ptr 0 0),(3,.d (ci n)),(4,.d (.v (.int .i64 ((k:Nat):Int))))]) []
  (fun x=>match x.1 with | (k,n)=>[(0,l.c.map A.d)]) [] [] 1 (fun x=>match x.1 with | (k,n)=>9 - k)
  [0] ⟨(0,0),?_⟩ Z ?_ trivial ?_ trivial Z ?_
 ·exact⟨Nat.zero_le _,Nat.zero_le _,rfl⟩
 ·repeat' constructor
 ·repeat' constructor
 rintro⟨⟨k,n⟩,X,O,M⟩;show W _ _ _ _ _ ⟨[(1,.ptr 0 0),(3,.d (ci n)),(4,.d (.v (.int .i64 ((k:Nat):Int))))],[(0,l.c.map A.d)],[],1⟩;iterate 2 refine ae ?_
 apply bL;(case hb=>rfl);·repeat' first | refine cc Z Z Z | refine bH Z Z ?_ | refine bC Z Z Z Z ?_ | refine pE Z ?_ | refine ab ?_ | (apply b8;(case hj=>rfl);(case hl=>rfl))
 refine qs (be Z (fun I=>?_) (fun I=>?_));·
  have J:k < l.ps.length∧k < 9:=by
   by_cases q:k < l.ps.length;·simp[q] at I;exact⟨q,by omega⟩
   simp[q] at I
  obtain⟨p,N⟩:∃ p,l.ps[k]? = some p:=⟨l.ps[k]'(by omega),by simp⟩;have hd:(l.ps.take 9).drop k=p::(l.ps.take 9).drop (k+1):=by
   have h1:k < (l.ps.take 9).length:=by rw[List.length_take];omega
   rw[List.drop_eq_getElem_cons h1,List.getElem_take];rw[(List.getElem?_eq_some_iff.1 N).2]
  rw[hd,nX] at M;refine ah (qs (ae (W.block (aa (aZ 4 Z ?_)))));refine pu (indexAddr (l:=p.c) aX Z Z Z Z Z Z (Int.natCast_nonneg _) (bN N) Z) Z ?_;refine aZ 3 Z ?_;refine pu (dP (ev aX Z) (y:=IntKind.i64.wrap (n+p.evs.length)) (by show IntKind.i64.wrap (n+((p.evs.map Ev.c).length:Nat))=_;rw[List.length_map])) Z ?_;refine pE Z (ab (ca (qs (aa (pE Z (pu (dP (ev aX Z) (y:=((k+1:Nat):Int)) ((wrap64 (by omega)).trans (by omega))) Z ?_))))));refine pE Z (ab (W.cr [0] ⟨(k+1,IntKind.i64.wrap (n+p.evs.length)),?_⟩ ?_ Z ?_ trivial ?_ trivial Z));·exact⟨J.1,J.2,M⟩
  ·dsimp only;omega
  ·repeat' constructor
  repeat' constructor
 have J:k=l.ps.length∨k=9:=by
  by_cases q:k < l.ps.length;·simp[q] at I;omega
  omega
 have hd:(l.ps.take 9).drop k=[]:=List.drop_eq_nil_of_le (by rw[List.length_take];omega);rw[hd,nX] at M;refine an (bT (bR (bP (qs (ae ?_)))));apply bL;(case hb=>rfl);·repeat' first | refine cc Z Z Z | refine bH Z Z ?_ | refine bC Z Z Z Z ?_ | refine pE Z ?_ | refine ab ?_ | (apply b8;(case hj=>rfl);(case hl=>rfl))
 refine qs (W.ret (QF.br trivial Z ?_));simp only[norm,bW,xQ,M,List.length_map];have e:∀ n m:Nat,decide ((n:Int)≤(m:Int))=decide (n≤m):=fun n m=>decide_eq_decide.2 Int.ofNat_le;rw[show decide ((l.ps.length:Int)≤8)=decide (l.ps.length≤8) from e _ 8,show decide ((l.ts.length:Int)≤8)=decide (l.ts.length≤8) from e _ 8,show decide ((l.ds.length:Int)≤10)=decide (l.ds.length≤10) from e _ 10,show decide ((l.sn.length:Int)≤20)=decide (l.sn.length≤20) from e _ 20];cases decide (nX (l.ps.take 9) 0≤40) <;> cases decide (l.ps.length≤8) <;> cases decide (l.ts.length≤8) <;> cases decide (l.ds.length≤10) <;> rfl
theorem FG (l:fb) (N:l.ps.length≤8) (J:(∀ p∈l.ps,dT p=0)→total l.ps≤1000):∃ s e,bq Tryz.prog 15 [.ag l.c] (.tup [.d (cs s),.d (ci e)]) 0∧(e=0→lu l):=by
 by_cases hbad:ja l≠0∨(1 < l.ds.length∨0 < l.sn.length)∨gY l.ps≠[];·
  refine⟨_,_,oY l N J hbad,fun h=>?_⟩;exfalso;unfold l6 at h;split at h;·rename_i q;exact q h
  split at h <;> cases h
 have M:ja l=0:=Decidable.byContradiction fun q=>hbad (.inl q);have O:=J fun p hp=>(CK M p hp).1;have I:=IC M (fun q=>hbad (.inr (.inl q))) (fun q=>hbad (.inr (.inr q))) O;have:=tO (l.ts.map GT.qh) l.ps I.ok (fun _=>I.len);rw[←I.c] at this;exact⟨_,_,this,fun _=>I⟩
theorem yz (l:fb):bq Tryz.prog 7 [.ag l.c] (.d (.v (.bool true))) 0:=by
 refine bq.bZ (n:=69) (ts:=[2]) Tryz.func7 (by kernel_rfl) Z Tryz.ntmps7 Tryz.results7 Z Z fun C hC hG=>?_;refine ae (aa (cG Z Z Z (pE Z (ab (qs ?_)))));iterate 2 refine ae ?_
 apply bL;(case hb=>rfl);·
  refine pu (bm Z Z Z (vQ ..) Z) Z ?_;refine aZ 2 Z ?_;apply fI;(case hj=>rfl);(case hl=>rfl);·
   intro g13;iterate 3 refine bC Z Z Z Z ?_
   refine pE Z (ab (cc Z Z Z))
  intro g13;refine bH Z Z (aZ 1 Z ?_);refine bH Z Z (pu (bm Z Z Z (Hx l) Z) Z ?_);refine bH Z Z (aZ 2 Z ?_);refine ab (cc Z Z Z)
 refine qs (be Z (fun M=>?_) (fun M=>?_));·
  refine ae (aa (pu (bm Z Z Z (vQ ..) Z) Z ?_));refine pE Z (ab (qs (W.ret (bo (QF.br trivial Z ?_)))));rfl
 have hf:xQ l=true:=by simpa using M
 obtain⟨h8,hF⟩:=HJ hf;obtain⟨s,e,aj,J⟩:=FG l h8 hF;refine ah (qs (ae (aa (aZ 1 Z ?_))));refine pu (bm Z Z Z aj Z) Z ?_;refine aZ 5 Z ?_;refine ab (qs (ae (ba 2 Z ?_)));refine be Z (fun N=>?_) (fun N=>?_);·
  refine ba 1 Z ?_;refine W.ret (bo (QF.br trivial Z ?_));rfl
 have I:=J (by simpa using N);have O:=oY ⟨l.ts,l.ds++[(1,0)],l.sn,l.ps⟩ h8 hF (.inr (.inl (.inl (by show 1 < (l.ds++[(1,0)]).length;rw[I.ds];decide))));have a1:l6 ⟨l.ts,l.ds++[(1,0)],l.sn,l.ps⟩=12:=by unfold l6;rw[if_neg (by rw[I.Ja];simp),if_pos (.inl (by show 1 < (l.ds++[(1,0)]).length;rw[I.ds];decide))]
 rw[a1] at O;refine ah (qs (ae (aa (aZ 1 Z ?_))));refine bK aX Z Z Z (bl aX Z Z Z Z Z Z Z Z (ab (qs (ae (aa (Ic aX Z Z Z Z Z Z Z Z Z ?_))))));refine aZ 3 Z ?_;refine pT (l:=[]) (l2:=l.ds) (fn:=dC) aX Z Z Z Z Z Z Z Z Z Z (fun _=>rfl) (by show(0+l.ds.length)*16≤_;rw[I.ds];decide) ?_;refine pu (build aX Z Z Z Z) Z ?_;refine pu (b9 aX Z Z Z Z Z Z Z Z Z) Z ?_;refine fD (l:=l.ds) (a:=((1,0):Int×Int)) (fn:=dC) aX Z Z Z Z Z Z Z Z Z Z (fun _=>rfl) (by show(l.ds.length+1)*16≤_;rw[I.ds];decide) ?_;refine aZ 2 Z ?_;refine bl aX Z Z Z Z Z Z Z Z (ab (qs (ae (aa (aZ 1 Z ?_)))));refine pu (bm Z Z Z O Z) Z ?_;refine aZ 5 Z ?_;refine ab (qs (ae (ba 2 Z ?_)));refine be Z (fun U=>?_) (fun U=>?_);·exfalso;simp at U
 refine ah (qs (ae (ba 4 Z ?_)));refine be Z (fun X=>?_) (fun X=>?_);·
  refine ba 1 Z ?_;refine W.ret (bo (QF.br trivial Z ?_));rfl
 obtain⟨p,hp⟩:∃ p,l.ps=[p]:=by
  have:l.ps.length=1:=by simp at X;omega
  exact List.length_eq_one_iff.1 this
 have hx:l.ps[0]? = some p:=by rw[hp];rfl
 have a6:p∈l.ps:=by rw[hp];simp
 have ai:gY [⟨p.thread,2,2,p.evs⟩]≠[]:=by unfold gY;simp
 have a7:=(I.ok.2.1 p a6).2.2.2;have ad:=oY ⟨l.ts,l.ds,l.sn,[⟨p.thread,2,2,p.evs⟩]⟩ (by show 1≤8;decide) (fun _=>by show total [⟨p.thread,2,2,p.evs⟩]≤1000;unfold total;simp;exact a7) (.inr (.inr ai));have a8:l6 ⟨l.ts,l.ds,l.sn,[⟨p.thread,2,2,p.evs⟩]⟩=1:=by unfold l6;rw[if_neg (by rw[I.JJ hp];simp),if_neg (by rw[I.ds,I.sn];simp[ep])]
 rw[a8] at ad;refine ah (qs (ae (aa (aZ 1 Z ?_))));refine bK aX Z Z Z (bl aX Z Z Z Z Z Z Z Z (ab (qs (ae (W.rG aX 12 0 (by kernel_rfl) Z Z ?_)))));refine gD Z (ev aX Z) Z ?_;refine gD Z (ev aX Z) Z ?_;refine gD Z (indexAddr (l:=p.c) aX Z Z Z Z Z Z (by decide) (by rw[hp];rfl) Z) Z ?_;refine gD Z (ev aX Z) Z ?_;refine gD Z (ev aX Z) Z ?_;refine gD Z (ev aX Z) Z ?_;refine gD Z (ev aX Z) Z ?_;refine gD Z (indexAddr (l:=p.c) aX Z Z Z Z Z Z (by decide) (by rw[hp];rfl) Z) Z ?_;refine gD Z (ev aX Z) Z ?_;refine gD Z (ev aX Z) Z ?_;refine gD Z (build aX Z Z Z Z) Z ?_;refine gD Z (b9 aX Z Z Z Z Z Z Z Z Z) Z ?_;refine aD ?_;refine pE Z (bl aX Z Z Z Z Z Z Z Z (ab (qs (ae (aa (aZ 1 Z ?_))))));refine pu (bm Z Z Z ad Z) Z ?_;refine aZ 5 Z ?_;refine ab (qs (ba 3 Z ?_));refine W.ret (QF.br trivial Z ?_);rfl
end Go.Proofs.YtpiaiiopakafhaaGreatDoor
